/-
  Lt: what has no counterpart in the code.
  Lt: what a callee sees of the caller's state, and what the caller has again behind the call.
  Lt: the check of one operation says that it simulates.
  Lt: contracts of calls; one operation of a region.
  Lt: one operation of a region is sound.
  Lt: one operation of a region is sound, calls and all.
  Lt: regions in the text's order are sound.
-/
import Derived.Test.YtjoidjpmpbidhaaDoorLtE
set_option linter.all false
namespace Go.Lt
open Go
variable {CO : Nat → Code → AC → Prop} {C : Cfg} {N : Nat} {G : Gho} {w w' : World} {s s' : St} {a : Act} {v : AV}

/-- another name for what a temporary holds -/
theorem SR.reT (hs : SR CO C N G w s a) {t : Nat} {v : AV} (h1 : VT G v (a.tmps.getD t undef)) (h2 : Own G w (.tmp t) v (a.tmps.getD t undef)) : SR CO C N G w { s with e := (t, v) :: s.e } a := by
  refine ⟨hs.st, fun t' ht' => ?_, hs.loc, hs.dr, hs.size, hs.gl⟩
  rw [Env.get_cons] at ht' ⊢
  split at ht'
  · rename_i he; subst he
    simp only [if_true]
    exact ⟨h1, h2⟩
  · rename_i he
    simp only [he, if_false]
    exact hs.env t' ht'

theorem SR.reL (hs : SR CO C N G w s a) {i j : Nat} {ls : List AV} (hi : s.l.get i = some ls) {v : AV} (h : ∀ k arr e cv, G.role k = .loc i → w.heap[k]? = some (.cells arr e (0, 0)) → arr[j]? = some cv → v.leaf = true ∧ VR G v cv ∧ Own G w (.lc i j) v cv) :
    SR CO C N G w { s with l := s.l.set i (ls.set j v) } a := by
  refine ⟨hs.st, hs.env, ⟨fun i' cs h' => ?_, hs.loc.uniq, fun b i' h' => ?_⟩, hs.dr, hs.size, hs.gl⟩
  · rw [Loc.get_set] at h'
    split at h'
    · rename_i he; subst he; cases h'
      obtain ⟨k, arr, e, h1, h2, h3⟩ := hs.loc.get i ls hi
      refine ⟨k, arr, e, h1, h2, by simpa using h3.len, fun n c cv hc hv => ?_⟩
      by_cases hn : j = n
      · subst hn
        have hlt : j < ls.length := by
          have := (List.getElem?_eq_some_iff.1 hc).1
          simpa using this
        simp only [List.getElem?_set, hlt, if_true, Option.some.injEq] at hc
        subst hc
        exact h k arr e cv h1 h2 hv
      · rw [List.getElem?_set_ne hn] at hc
        exact h3.get n c cv hc hv
    · exact hs.loc.get i' cs h'
  · rw [Loc.get_set]
    split
    · rfl
    · exact hs.loc.some b i' h'

theorem gh_sound (hs : SR CO C N G w s a) {g : Gh} (h : g.run s = some s') : ∃ G', SR CO C N G' w s' a ∧ Le G w G' w := by
  cases g with
  | frzT t sh =>
    simp only [Gh.run] at h
    split at h <;> first | (cases h; done) | skip
    · rename_i b o es n he
      split at h <;> first | (cases h; done) | skip
      rename_i cs hcs
      split at h <;> first | (cases h; done) | skip
      rename_i xs hxs
      split at h <;> first | (cases h; done) | skip
      cases h
      have ht := (hs.env t (by rw [he]; simp)).1.vr (by rw [he]; simp)
      rw [he] at ht
      generalize hv : a.tmps.getD t undef = tv at ht
      cases ht with | hsl _ _ _ _ k c hr hc =>
      obtain ⟨arr, e, h1, h2⟩ := hs.st.cells hr hcs
      obtain ⟨g1, g2⟩ := hs.freeze hr (hget_some hcs) h1
      have hfs := frozen_slice (k := k) (c := c) h2 g2.gle (fun j v hj => by simp only [Gho.frz, if_true]; exact hj) hxs hc
      exact ⟨_, g1.reT (by rw [hv]; exact VT.of hfs) (Own.of_ne (by simp)), g2⟩
    · rename_i o xs he
      cases h
      have ht := (hs.env t (by rw [he]; simp)).1.vr (by rw [he]; simp)
      rw [he] at ht
      exact ⟨G, hs.reT (VT.of ht.sl_false) (Own.of_ne (by simp)), .refl _ _⟩
  | frzL i j sh =>
    simp only [Gh.run] at h
    split at h <;> first | (cases h; done) | skip
    rename_i ls hls
    obtain ⟨k0, arr0, e0, l1, l2, l3⟩ := hs.loc.get i ls hls
    split at h <;> first | (cases h; done) | skip
    · rename_i b o es n he
      split at h <;> first | (cases h; done) | skip
      rename_i cs hcs
      split at h <;> first | (cases h; done) | skip
      rename_i xs hxs
      split at h <;> first | (cases h; done) | skip
      cases h
      have hlt : j < arr0.size := Nat.lt_of_lt_of_le (List.getElem?_eq_some_iff.1 he).1 l3.len
      obtain ⟨_, q2, _⟩ := l3.get j _ arr0[j] he (by simp [hlt])
      generalize hv : arr0[j] = tv at q2
      cases q2 with | hsl _ _ _ _ k c hr hc =>
      obtain ⟨arr, e, h1, h2⟩ := hs.st.cells hr hcs
      obtain ⟨g1, g2⟩ := hs.freeze hr (hget_some hcs) h1
      have hfs := frozen_slice (k := k) (c := c) h2 g2.gle (fun j v hj => by simp only [Gho.frz, if_true]; exact hj) hxs hc
      refine ⟨_, g1.reL (i := i) (j := j) (ls := ls) hls (fun k' arr' e' cv' hk' hw' hcv' => ?_), g2⟩
      have : k' = k0 := hs.loc.uniq k' k0 i hk' l1
      subst this
      rw [l2] at hw'
      cases hw'
      rw [Array.getElem?_eq_getElem hlt, hv] at hcv'
      cases hcv'
      exact ⟨rfl, hfs, Own.of_ne (by simp)⟩
    · rename_i o xs he
      cases h
      refine ⟨G, hs.reL hls (fun k' arr' e' cv' hk' hw' hcv' => ?_), .refl _ _⟩
      have : k' = k0 := hs.loc.uniq k' k0 i hk' l1
      subst this
      rw [l2] at hw'
      cases hw'
      obtain ⟨_, q2, _⟩ := l3.get j _ cv' he hcv'
      exact ⟨rfl, q2.sl_false, Own.of_ne (by simp)⟩
end Go.Lt
namespace Go.Lt
open Go
variable {P : Program} {CO : Nat → Code → AC → Prop} {C : Cfg} {N : Nat} {G G' : Gho} {w w' : World} {s s' : St} {a : Act} {v : AV}

def Role.vis (pur : Bool) : Role → Role
  | .heap i => match pur with
    | true => .none
    | false => .heap i
  | .tail (.hc i j) => match pur with
    | true => .none
    | false => .tail (.hc i j)
  | _ => .none
/-- roles that a callee does not see -/
def Role.hid (pur : Bool) (r : Role) : Prop := r ≠ .none ∧ r ≠ .tail .out ∧ r.vis pur = .none
instance (pur : Bool) (r : Role) : Decidable (r.hid pur) := by unfold Role.hid; exact inferInstance

def Gho.hide (G : Gho) (pur : Bool) (p : Pl) (mrk : Option Nat) : Gho :=
  { G with role := fun k => if G.role k = .tail .out then .tail p else (G.role k).vis pur, mrk := mrk }
def Gho.back (G : Gho) (n : Nat) (pur : Bool) (G' : Gho) : Gho :=
  { con := G'.con, obj := G'.obj, role := fun k => if k < n ∧ (G.role k).hid pur then G.role k else if G'.role k = .tail .out then .tail .out else (G'.role k).vis pur, mrk := G.mrk }

theorem Role.vis_none (pur : Bool) : Role.none.vis pur = .none := rfl
theorem hide_none {pur : Bool} {p : Pl} {mrk : Option Nat} {k : Nat} (h : (G.role k).hid pur) : (G.hide pur p mrk).role k = .none := by
  simp only [Gho.hide, if_neg h.2.1]
  exact h.2.2
theorem hide_none' {pur : Bool} {p : Pl} {mrk : Option Nat} {k : Nat} (h : G.role k = .none) : (G.hide pur p mrk).role k = .none := by
  simp [Gho.hide, h, Role.vis]

section
variable {pur : Bool} {mrk : Option Nat} {p : Pl}

/-- what is hidden is as it was -/
theorem back_keep (hl : ∀ k, G.role k ≠ .none → k < w.heap.size) (hle : Le (G.hide pur p mrk) w G' w') : Keep (fun k => ¬ (G.role k).hid pur) G w (G.back w.heap.size pur G') w' := by
  have hcon : ∀ b o v, G.con b o = some v → G'.con b o = some v := fun b o v h => hle.gle.con b o v h
  refine ⟨⟨hcon, fun b x h => hle.gle.obj b x h, fun b i hi => ?_⟩, fun k hk hT => ?_, fun k o hk hT => ?_, fun k hk hT => ?_⟩
  · have hlt := hl b (by rw [hi]; simp)
    cases pur with
    | true => simp [Gho.back, hlt, hi, Role.hid, Role.vis]
    | false =>
      have h1 : (G.hide false p mrk).role b = .heap i := by simp [Gho.hide, hi, Role.vis]
      have h2 := hle.gle.role b i h1
      simp [Gho.back, hi, Role.hid, Role.vis, h2]
  · exact (hle.same k hk (hide_none (Decidable.not_not.1 hT))).1
  · have hn := hide_none (p := p) (mrk := mrk) (Decidable.not_not.1 hT)
    cases h : G.con k o with
    | some v => exact hcon k o v h
    | none =>
      cases h' : G'.con k o with
      | none => exact h'
      | some v =>
        rcases hle.cons k o v h' h with h1 | h1
        · omega
        · exact absurd hn h1
  · simp only [Gho.back]
    rw [if_pos ⟨hk, Decidable.not_not.1 hT⟩]

theorem back_le (hl : ∀ k, G.role k ≠ .none → k < w.heap.size) (hle : Le (G.hide pur p mrk) w G' w') : Le G w (G.back w.heap.size pur G') w' where
  gle := (back_keep hl hle).gle
  size := hle.size
  os := hle.os
  out := hle.out
  tape := hle.tape
  same k hk hr := by
    obtain ⟨h1, h2⟩ := hle.same k hk (hide_none' hr)
    refine ⟨h1, ?_⟩
    simp [Gho.back, hr, Role.hid, h2, Role.vis]
  cons b o v hc hn := by
    rcases hle.cons b o v hc hn with h | h
    · exact .inl h
    · right
      intro hr
      exact h (hide_none' hr)
  mrk := rfl
  objs b x hx := hle.objs b x hx

/-- the parts of the caller's state that the callee does not see -/
theorem back_rest (hs : SR CO C N G w s a) (hle : Le (G.hide pur p mrk) w G' w') :
    EnvRel (G.back w.heap.size pur G') w' s.e a ∧ LocRel (G.back w.heap.size pur G') w' s.l ∧ DR (G.back w.heap.size pur G') w' s.d a.defers ∧
      (∀ g, C.gl g ≠ .undef → VR (G.back w.heap.size pur G') (C.gl g) (.pointer (some ⟨g, 0, none⟩))) := by
  have hl := hs.st.lt
  have hK := back_keep hl hle
  have hL := back_le hl hle
  have hloc : ∀ k i, G.role k = .loc i → (G.back w.heap.size pur G').role k = .loc i := fun k i h => by
    have hlt := hl k (by rw [h]; simp)
    have hh : (G.role k).hid pur := by rw [h]; simp [Role.hid, Role.vis]
    simp only [Gho.back]
    rw [if_pos ⟨hlt, hh⟩]; exact h
  have hloc' : ∀ k i, (G.back w.heap.size pur G').role k = .loc i → G.role k = .loc i := fun k i h => by
    simp only [Gho.back] at h
    split at h
    · exact h
    · split at h
      · cases h
      · exfalso
        unfold Role.vis at h
        split at h <;> (first | cases h | (split at h <;> cases h))
  refine ⟨hs.env.keep hK hl (fun t k h => ?_) hloc, ⟨fun i cs h => ?_, fun b b' i h h' => hs.loc.uniq b b' i (hloc' b i h) (hloc' b' i h'), fun b i h => hs.loc.some b i (hloc' b i h)⟩, hs.dr.keep hL.gle rfl fun r h1 h2 => hL.same r h1 h2, fun g hg => (hs.gl g hg).mono hL.gle⟩
  · rw [h]; simp [Role.hid, Role.vis]
  · obtain ⟨k, arr, e, h1, h2, h3⟩ := hs.loc.get i cs h
    have hlt := hl k (by rw [h1]; simp)
    have hh : (G.role k).hid pur := by rw [h1]; simp [Role.hid, Role.vis]
    refine ⟨k, arr, e, hloc k i h1, (hK.heap k hlt (by simpa using hh)).trans h2, h3.keep hK hl fun j k' hk' => ?_⟩
    rw [hk']; simp [Role.hid, Role.vis]

/-- behind a call that has seen the heap -/
theorem SR.back (hs : SR CO C N G w s a) (hle : Le (G.hide false p mrk) w G' w') {h' : List Blk} (hst : StRel CO G' h' w') : SR CO C N (G.back w.heap.size false G') w' { s with h := h' } a := by
  obtain ⟨h1, h2, h3, h4⟩ := back_rest hs hle
  have hl := hs.st.lt
  have hK := back_keep hl hle
  -- of a visible block's role
  have hvis : ∀ b, (∀ i, G'.role b = .heap i → (G.back w.heap.size false G').role b = .heap i) ∧ (∀ i, (G.back w.heap.size false G').role b = .heap i → G'.role b = .heap i) ∧
      (∀ i j, G'.role b = .tail (.hc i j) → (G.back w.heap.size false G').role b = .tail (.hc i j)) := by
    intro b
    have hh : b < w.heap.size ∧ (G.role b).hid false → G'.role b = .none := fun ⟨hb, hr⟩ => (hle.same b hb (hide_none hr)).2
    refine ⟨fun i hi => ?_, fun i hi => ?_, fun i j hi => ?_⟩
    · simp only [Gho.back]
      rw [if_neg (fun h => by rw [hh h] at hi; cases hi)]
      simp [hi, Role.vis]
    · simp only [Gho.back] at hi
      split at hi
      · rename_i hbr
        exfalso
        have := hbr.2.2.2
        rw [hi] at this
        simp [Role.vis] at this
      · split at hi
        · cases hi
        · cases hr : G'.role b with
          | none => rw [hr] at hi; cases hi
          | loc j => rw [hr] at hi; cases hi
          | heap j =>
            rw [hr] at hi
            simp only [Role.vis, Role.heap.injEq] at hi
            rw [hi]
          | tail q => rw [hr] at hi; cases q <;> simp [Role.vis] at hi
    · simp only [Gho.back]
      rw [if_neg (fun h => by rw [hh h] at hi; cases hi)]
      simp [hi, Role.vis]
  have hgle' : GLe G' (G.back w.heap.size false G') := ⟨fun _ _ _ h => h, fun _ _ h => h, fun b i hi => (hvis b).1 i hi⟩
  have hK' : Keep (fun k => (G.back w.heap.size false G').role k ≠ G'.role k) G' w' (G.back w.heap.size false G') w' :=
    ⟨hgle', fun _ _ _ => rfl, fun _ _ _ _ => rfl, fun k _ h => Decidable.not_not.1 h⟩
  refine ⟨⟨hst.con, hst.obj, fun b hb => ?_, fun b => ⟨fun i hi => (hst.sep b).1 i ((hvis b).2.1 i hi), fun i hi => ?_⟩, fun b i hi => ?_, fun b b' i hi hi' => hst.uniq b b' i ((hvis b).2.1 i hi) ((hvis b').2.1 i hi')⟩, h1, h2, h3, hs.size, h4⟩
  · simp only [Gho.back] at hb
    split at hb
    · rename_i h; exact Nat.lt_of_lt_of_le h.1 hle.size
    · split at hb
      · rename_i h; exact hst.lt b (by rw [h]; simp)
      · refine hst.lt b fun h => ?_
        rw [h] at hb
        exact hb rfl
  · have hb : b < w.heap.size ∧ G.role b = .loc i := by
      simp only [Gho.back] at hi
      split at hi
      · rename_i h; exact ⟨h.1, hi⟩
      · split at hi
        · cases hi
        · exfalso
          unfold Role.vis at hi
          split at hi <;> (first | cases hi)
    have hh : (G.role b).hid false := by rw [hb.2]; simp [Role.hid, Role.vis]
    obtain ⟨c1, c2⟩ := (hs.st.sep b).2 i hb.2
    refine ⟨fun o => (hK.con b o hb.1 (by simpa using hh)).trans (c1 o), ?_⟩
    cases ho : (G.back w.heap.size false G').obj b with
    | none => rfl
    | some x =>
      have := hle.objs b x ho
      rw [show (G.hide false p mrk).obj b = G.obj b from rfl, c2] at this
      cases this
  · obtain ⟨blk, o, k1, k2, k3⟩ := hst.heap b i ((hvis b).2.1 i hi)
    exact ⟨blk, o, k1, k2, k3.keep hK' hst.lt fun j k hk => by simpa [hk] using (hvis k).2.2 i j hk⟩

/-- behind a call that has seen nothing of the heap -/
theorem SR.backP (hs : SR CO C N G w s a) (hle : Le (G.hide true p mrk) w G' w') {h' : List Blk} (hst : StRel CO G' h' w') : SR CO C N (G.back w.heap.size true G') w' s a := by
  obtain ⟨h1, h2, h3, h4⟩ := back_rest hs hle
  have hl := hs.st.lt
  have hK := back_keep hl hle
  have hvis : ∀ r : Role, r.vis true = .none := fun r => by
    unfold Role.vis
    split <;> rfl
  have hrole : ∀ b r, (G.back w.heap.size true G').role b = r → r ≠ .none → r ≠ .tail .out → b < w.heap.size ∧ G.role b = r ∧ (G.role b).hid true := by
    intro b r h hn ho
    simp only [Gho.back] at h
    split at h
    · rename_i hb; exact ⟨hb.1, h, hb.2⟩
    · split at h
      · exact absurd h.symm ho
      · rw [hvis] at h; exact absurd h.symm hn
  have hsep : ∀ b, (G.role b).hid true → b < w.heap.size → (∀ o, G.con b o = none) ∧ G.obj b = none → (∀ o, (G.back w.heap.size true G').con b o = none) ∧ (G.back w.heap.size true G').obj b = none := by
    intro b hh hb ⟨c1, c2⟩
    refine ⟨fun o => (hK.con b o hb (by simpa using hh)).trans (c1 o), ?_⟩
    cases ho : (G.back w.heap.size true G').obj b with
    | none => rfl
    | some x =>
      have := hle.objs b x ho
      rw [show (G.hide true p mrk).obj b = G.obj b from rfl, c2] at this
      cases this
  refine ⟨⟨hst.con, hst.obj, fun b hb => ?_, fun b => ⟨fun i hi => ?_, fun i hi => ?_⟩, fun b i hi => ?_, fun b b' i hi hi' => ?_⟩, h1, h2, h3, hs.size, h4⟩
  · simp only [Gho.back] at hb
    split at hb
    · rename_i h; exact Nat.lt_of_lt_of_le h.1 hle.size
    · split at hb
      · rename_i h; exact hst.lt b (by rw [h]; simp)
      · rw [hvis] at hb; exact absurd rfl hb
  · obtain ⟨q1, q2, q3⟩ := hrole b _ hi (by simp) (by simp)
    rcases (hs.st.sep b).1 i q2 with hd | hd
    · exact .inl hd
    · exact .inr (hsep b q3 q1 hd)
  · obtain ⟨q1, q2, q3⟩ := hrole b _ hi (by simp) (by simp)
    exact hsep b q3 q1 ((hs.st.sep b).2 i q2)
  · obtain ⟨q1, q2, q3⟩ := hrole b _ hi (by simp) (by simp)
    obtain ⟨blk, o, k1, k2, k3⟩ := hs.st.heap b i q2
    refine ⟨blk, o, k1, (hK.heap b q1 (by simpa using q3)).trans k2, k3.keep hK hl fun j k hk => ?_⟩
    rw [hk]; simp [Role.hid, Role.vis]
  · obtain ⟨_, q2, _⟩ := hrole b _ hi (by simp) (by simp)
    obtain ⟨_, q2', _⟩ := hrole b' _ hi' (by simp) (by simp)
    exact hs.st.uniq b b' i q2 q2'

/-- what the callee sees: with the heap -/
theorem StRel.hide {h : List Blk} (hs : StRel CO G h w) : StRel CO (G.hide false p mrk) h w := by
  have hr : ∀ b i, (G.hide false p mrk).role b = .heap i ↔ G.role b = .heap i := by
    intro b i
    simp only [Gho.hide]
    split
    · rename_i h; rw [h]; simp
    · unfold Role.vis
      split <;> simp_all
  have hgle : GLe G (G.hide false p mrk) := ⟨fun _ _ _ h => h, fun _ _ h => h, fun b i h => (hr b i).2 h⟩
  have hK : Keep (fun k => (G.hide false p mrk).role k ≠ G.role k) G w (G.hide false p mrk) w := ⟨hgle, fun _ _ _ => rfl, fun _ _ _ _ => rfl, fun k _ h => Decidable.not_not.1 h⟩
  refine ⟨hs.con, hs.obj, fun b hb => ?_, fun b => ⟨fun i hi => (hs.sep b).1 i ((hr b i).1 hi), fun i hi => ?_⟩, fun b i hi => ?_, fun b b' i hi hi' => hs.uniq b b' i ((hr b i).1 hi) ((hr b' i).1 hi')⟩
  · simp only [Gho.hide] at hb
    split at hb
    · rename_i h; exact hs.lt b (by rw [h]; simp)
    · refine hs.lt b fun h => ?_
      rw [h] at hb; exact hb rfl
  · exfalso
    simp only [Gho.hide] at hi
    split at hi
    · cases hi
    · unfold Role.vis at hi
      split at hi <;> cases hi
  · obtain ⟨blk, o, k1, k2, k3⟩ := hs.heap b i ((hr b i).1 hi)
    refine ⟨blk, o, k1, k2, k3.keep hK hs.lt fun j k hk => ?_⟩
    simp [Gho.hide, hk, Role.vis]
/-- .. and without -/
theorem StRel.hideP {h : List Blk} (hs : StRel CO G h w) : StRel CO (G.hide true p mrk) [] w := by
  have hvis : ∀ r : Role, r.vis true = .none := fun r => by
    unfold Role.vis
    split <;> rfl
  have hr : ∀ b r, (G.hide true p mrk).role b = r → r = .none ∨ r = .tail p := by
    intro b r h
    simp only [Gho.hide] at h
    split at h
    · exact .inr h.symm
    · rw [hvis] at h; exact .inl h.symm
  refine ⟨hs.con, hs.obj, fun b hb => ?_, fun b => ⟨fun i hi => ?_, fun i hi => ?_⟩, fun b i hi => ?_, fun b b' i hi hi' => ?_⟩
  · simp only [Gho.hide] at hb
    split at hb
    · rename_i h; exact hs.lt b (by rw [h]; simp)
    · rw [hvis] at hb; exact absurd rfl hb
  · rcases hr b _ hi with h | h <;> cases h
  · rcases hr b _ hi with h | h <;> cases h
  · rcases hr b _ hi with h | h <;> cases h
  · rcases hr b _ hi with h | h <;> cases h
end
end Go.Lt
namespace Go.Lt
open Go
variable {P : Program} {CO : Nat → Code → AC → Prop} {C : Cfg} {N : Nat}

theorem opOk_sim {o : Oper} {ao : AOp} (h : opOk P o.op ao = true) : Sim P CO C N o ao := by
  generalize ho : o.op = op at h
  unfold opOk at h
  split at h
  case h_1 => exact sim_mv (.inl ho) h
  case h_2 => exact sim_mv (.inr ho) h
  case h_3 => simp only [Bool.and_eq_true] at h; exact sim_pick ho h.1.1 h.1.2 h.2
  case h_4 => exact sim_allocL ho h
  case h_5 => exact sim_allocH ho h
  case h_6 => exact sim_boxC ho h
  case h_7 => exact sim_boxL ho h
  case h_8 => exact sim_boxH ho h
  case h_9 =>
    simp only [Bool.and_eq_true] at h
    obtain ⟨h1, h2⟩ := h
    refine sim_build ho h1 ?_
    split at h2
    · rename_i fs hu
      split at h2
      · rename_i pl hpl; exact .inl ⟨fs, pl, hu, hpl, h2⟩
      · cases h2
    · rename_i n e hu
      split at h2
      · rename_i i hi; exact .inr ⟨n, e, i, hu, hi, h2⟩
      · cases h2
    · cases h2
  case h_10 =>
    split at h
    · rename_i e hu
      simp only [Bool.and_eq_true] at h
      obtain ⟨⟨⟨⟨⟨h1, h2⟩, h3⟩, h4⟩, h5⟩, h6⟩ := h
      have h3 := beq_iff.1 h3
      subst h3
      exact sim_bsl ho hu h1 h2 h4 (Nat.le_of_ble_eq_true h5) (Nat.le_of_ble_eq_true h6)
    · cases h
  case h_11 => simp only [Bool.and_eq_true] at h; exact sim_ldC ho h.1 h.2
  case h_12 => simp only [Bool.and_eq_true] at h; exact sim_ldL ho h.1.1 h.1.2 h.2
  case h_13 => simp only [Bool.and_eq_true] at h; exact sim_ldH ho h.1.1 h.1.2 h.2
  case h_14 => simp only [Bool.and_eq_true] at h; exact sim_stL ho h.1.1 h.1.2 h.2
  case h_15 => simp only [Bool.and_eq_true] at h; exact sim_stH ho h.1.1 h.1.2 h.2
  case h_16 => exact sim_nilck ho h
  case h_17 =>
    simp only [Bool.and_eq_true, decide_eq_true_eq] at h
    obtain ⟨⟨⟨h1, h2⟩, h3⟩, h4⟩ := h
    subst h1
    refine sim_bin ⟨_, ho⟩ h2 h3 fun he => ?_
    rcases he with rfl | rfl <;> exact h4
  case h_18 =>
    simp only [Bool.and_eq_true, decide_eq_true_eq] at h
    obtain ⟨h1, h2⟩ := h
    subst h1
    exact sim_un ⟨_, ho⟩ h2
  case h_19 =>
    simp only [Bool.and_eq_true] at h
    obtain ⟨⟨h1, h2⟩, h3⟩ := h
    split at h3
    · rename_i k hk
      simp only [decide_eq_true_eq] at h3
      subst h3
      exact sim_cvI ho h1 h2 hk
    · cases h3
  case h_20 =>
    simp only [Bool.and_eq_true] at h
    obtain ⟨⟨h1, h2⟩, h3⟩ := h
    split at h3
    · rename_i e he
      split at h3
      · rename_i hee; exact sim_s2b ho h1 h2 he hee
      · cases h3
    · cases h3
  case h_21 =>
    simp only [Bool.and_eq_true] at h
    obtain ⟨⟨h1, h2⟩, h3⟩ := h
    have h1 := beq_iff.1 h1
    subst h1
    split at h3
    · cases h3
    · rename_i d hne hd; exact sim_ifc ho h2 hd (fun ms he => hne ms he)
    · cases h3
  case h_22 =>
    simp only [Bool.and_eq_true] at h
    obtain ⟨⟨h1, h2⟩, h3⟩ := h
    have h1 := beq_iff.1 h1
    subst h1
    exact sim_mkfn ho h2 h3
  case h_23 =>
    simp only [Bool.and_eq_true] at h
    obtain ⟨h1, h2⟩ := h
    split at h2
    · rename_i fs hu
      split at h2
      · rename_i f hf
        simp only [Bool.and_eq_true] at h2
        split at h2
        · rename_i j hj
          refine sim_fad ho h1 hu hf (beq_iff.1 h2.1) hj (beq_false.1 ?_)
          simpa using h2.2
        · simp at h2
      · cases h2
    · cases h2
  case h_24 =>
    simp only [Bool.and_eq_true] at h
    obtain ⟨h1, h2⟩ := h
    split at h2
    · rename_i fs hu
      split at h2
      · rename_i f hf
        simp only [Bool.and_eq_true] at h2
        exact sim_fld ho h1 hu hf (beq_iff.1 h2.1) h2.2
      · cases h2
    · cases h2
  case h_25 =>
    simp only [Bool.and_eq_true] at h
    obtain ⟨⟨h1, h2⟩, h3⟩ := h
    split at h3
    · rename_i e hu; exact sim_iad ho h1 h2 hu h3
    · cases h3
  case h_26 =>
    simp only [Bool.and_eq_true] at h
    obtain ⟨⟨h1, h2⟩, h3⟩ := h
    split at h3
    · rename_i n e hu
      simp only [Bool.and_eq_true] at h3
      have h4 := beq_iff.1 h3.1
      subst h4
      exact sim_iaa ho h1 h2 hu h3.2
    · cases h3
  case h_27 =>
    simp only [Bool.and_eq_true] at h
    obtain ⟨⟨h1, h2⟩, h3⟩ := h
    split at h3
    · rename_i hu; exact sim_ixs ho h1 h2 hu
    · cases h3
  case h_28 =>
    simp only [Bool.and_eq_true] at h
    obtain ⟨⟨h1, h2⟩, h3⟩ := h
    split at h3
    · rename_i n e hu
      simp only [Bool.and_eq_true] at h3
      have h4 := beq_iff.1 h3.1.1
      subst h4
      exact sim_ixa ho h1 h2 hu h3.1.2 h3.2
    · cases h3
  case h_29 =>
    simp only [Bool.and_eq_true] at h
    obtain ⟨⟨⟨h1, h2⟩, h3⟩, h4⟩ := h
    split at h4
    · rename_i e hu; exact sim_slc ho h1 h2 h3 hu h4
    · cases h4
  case h_30 =>
    simp only [Bool.and_eq_true] at h
    obtain ⟨⟨⟨h1, h2⟩, h3⟩, h4⟩ := h
    split at h4
    · rename_i hu; exact sim_sls ho h1 h2 h3 hu
    · cases h4
  case h_31 =>
    simp only [Bool.and_eq_true] at h
    obtain ⟨h1, h2⟩ := h
    have h1 := beq_iff.1 h1
    subst h1
    exact sim_ext ho h2
  case h_32 =>
    split at h
    · rename_i x t ha ht
      simp only [Bool.and_eq_true] at h
      obtain ⟨h1, h2⟩ := h
      split at h2
      · rename_i hu; exact sim_len ho rfl ha ht h1 hu (.inl ⟨rfl, beq_iff.1 h2⟩)
      · rename_i e hu; exact sim_len ho rfl ha ht h1 hu (.inr (.inl ⟨⟨e, rfl⟩, beq_iff.1 h2⟩))
      · rename_i e f hu; exact sim_len ho rfl ha ht h1 hu (.inr (.inr ⟨⟨e, f, rfl⟩, beq_iff.1 h2⟩))
      · cases h2
    · cases h
  case h_33 => exact sim_mx ho rfl h
  case h_34 => exact sim_mn ho rfl h
  case h_35 =>
    split at h
    · rename_i x u t t' ha hat
      simp only [Bool.and_eq_true] at h
      obtain ⟨⟨h1, h2⟩, h3⟩ := h
      split at h3
      · rename_i e e' hu hu'
        split at h3
        · rename_i i hi
          simp only [Bool.and_eq_true] at h3
          obtain ⟨⟨⟨k1, k2⟩, k3⟩, k4⟩ := h3
          split at k4
          · rename_i zv hz
            exact sim_app ho rfl ha hat h1 h2 hu hu' hi hz (beq_iff.1 k1) (beq_iff.1 k4) (Nat.le_of_ble_eq_true k2) (Nat.le_of_ble_eq_true k3)
          · cases k4
        · cases h3
      · cases h3
    · cases h
  case h_36 =>
    split at h
    · rename_i x u t t' ha hat
      simp only [Bool.and_eq_true] at h
      obtain ⟨⟨h1, h2⟩, h3⟩ := h
      split at h3
      · rename_i e e' hu hu'
        split at h3
        · rename_i i hi
          simp only [Bool.and_eq_true] at h3
          obtain ⟨⟨⟨k1, k2⟩, k3⟩, k4⟩ := h3
          split at k4
          · rename_i zv hz
            exact sim_appH ho rfl ha hat h1 h2 hu hu' hi hz (beq_iff.1 k1) (beq_iff.1 k4) (Nat.le_of_ble_eq_true k2) (Nat.le_of_ble_eq_true k3)
          · cases k4
        · cases h3
      · cases h3
    · cases h
  case h_37 =>
    simp only [Bool.and_eq_true, beq_iff_eq] at h
    obtain ⟨⟨⟨h1, h2⟩, h3⟩, h4⟩ := h
    subst h3
    split at h4
    · rename_i kt e hu
      simp only [Bool.and_eq_true] at h4
      exact sim_lkp ho h1 h2 hu h4.1 h4.2
    · cases h4
  case h_38 => exact sim_mkmap ho
  case h_39 =>
    simp only [Bool.and_eq_true] at h
    obtain ⟨⟨⟨h1, h2⟩, h3⟩, h4⟩ := h
    split at h4
    · rename_i kt e hu; exact sim_mapset (.inl ho) h1 h2 h3 hu h4
    · cases h4
  case h_40 =>
    simp only [Bool.and_eq_true] at h
    obtain ⟨⟨⟨h1, h2⟩, h3⟩, h4⟩ := h
    split at h4
    · rename_i kt e hu; exact sim_mapset (.inr ho) h1 h2 h3 hu h4
    · cases h4
  case h_41 =>
    simp only [Bool.and_eq_true, beq_iff_eq] at h
    obtain ⟨⟨⟨⟨h1, h2⟩, h3⟩, h4⟩, h5⟩ := h
    have h2 := beq_iff.1 h2
    subst h2
    subst h3
    split at h5
    · cases h5
    · rename_i d hne hd; exact sim_tas ho h1 hd (fun ms he => hne ms he) h4
    · cases h5
  case h_42 =>
    simp only [Bool.and_eq_true, beq_iff_eq] at h
    obtain ⟨⟨⟨h1, h2⟩, h3⟩, h4⟩ := h
    subst h3
    split at h4
    · rename_i c z m' k' ok kt e hu
      simp only [Bool.and_eq_true] at h4
      have hl := sim_lkp (CO := CO) (C := C) (N := N) ho h1 h2 hu h4.1 h4.2
      intro G w s s' a v hs hr
      refine hl G w s s' a v hs ?_
      simp only [AOp.run] at hr ⊢
      split at hr <;> first | (cases hr; done) | skip
      rename_i hkk
      generalize Env.v C s.e m' = mv at hr ⊢
      cases mv <;> first | exact hr | (cases hr; done)
    · cases h4
  case h_43 =>
    simp only [Bool.and_eq_true] at h
    exact sim_eqS (neg := false) ⟨_, ho⟩ h.1.1 h.1.2 h.2
  case h_44 =>
    simp only [Bool.and_eq_true] at h
    exact sim_eqS (neg := true) ⟨_, ho⟩ h.1.1 h.1.2 h.2
  case h_45 =>
    split at h <;> first | (cases h; done) | skip
    rename_i x y ha
    simp only [Bool.and_eq_true] at h
    have := beq_iff.1 h.1.1.1
    subst this
    exact sim_ixB ho rfl ha h.1.1.2 h.1.2 h.2
  case h_46 =>
    split at h <;> first | (cases h; done) | skip
    rename_i x y ha
    simp only [Bool.and_eq_true] at h
    obtain ⟨⟨⟨⟨h1, h2⟩, h3⟩, h4⟩, h5⟩ := h
    split at h5 <;> first | (cases h5; done) | skip
    rename_i g hg
    have := beq_iff.1 h1
    subst this
    have := beq_iff.1 h5
    subst this
    exact sim_ixS ho rfl ha h2 h3 h4 hg
  case h_47 => cases h
end Go.Lt
namespace Go.Lt
open Go
variable {P : Program} {CO : Nat → Code → AC → Prop} {C : Cfg} {N : Nat} {G G' : Gho} {w w' : World} {s s' : St} {a : Act} {v : AV}

def noOwn (c : AV) : Prop := ∀ x xs, c ≠ .sl true (x :: xs)
theorem noOwn_clr (u : AV) : noOwn u.clr := AV.clr_ne u
theorem noOwn_nrm (u : AV) : noOwn u.nrm := AV.nrm_ne u

/-- arguments: at most one with the right to grow -/
structure ArgsR (G : Gho) (w : World) (as : List AV) (cs : List Value) : Prop where
  vr : VRs G as cs
  own : ∃ j : Nat, ∀ (i : Nat) (c : AV) (v : Value), as[i]? = some c → cs[i]? = some v → (i ≠ j → noOwn c) ∧ (i = j → Own G w .out c v)

def FW (ro : Option Nat) : Fence := { Fence.wide with round := ro }
theorem callsIn_FW {ro : Option Nat} {n m : Nat} {f : FuncId} {args : Array Value} {R : Ending → World → Prop} (h : CallsIn Fence.wide m P f args w R) : CallsIn (FW ro) n P f args w R :=
  ⟨trivial, fun cs _ => h.2 cs (room_wide _)⟩

def OutR (CO : Nat → Code → AC → Prop) (G : Gho) (w : World) (Q : AOut × List Blk → Prop) : Ending → World → Prop
  | .returned v, w' => ∃ u h' G', Q (.ret u, h') ∧ StRel CO G' h' w' ∧ Le G w G' w' ∧ VR G' u v ∧ Own G' w' .out u v
  | .panicked chain, w' => ∃ u h' G' pv, Q (.pan u, h') ∧ chain = [{ v := pv, recovered := false }] ∧ StRel CO G' h' w' ∧ Le G w G' w' ∧ VR G' u pv
  | .outgrown, _ => False

/-- what the caller shows: no roles of its own but that of what it hands over -/
def Clean (G : Gho) : Prop := ∀ k, G.role k = .none ∨ (∃ i, G.role k = .heap i) ∨ (∃ i j, G.role k = .tail (.hc i j)) ∨ G.role k = .tail .out

def GlR (C : Cfg) (G : Gho) : Prop := ∀ g, C.gl g ≠ .undef → VR G (C.gl g) (.pointer (some ⟨g, 0, none⟩))

/-- the functions' contracts at one depth of the machine -/
def CallOk (P : Program) (CO : Nat → Code → AC → Prop) (C : Cfg) (call : Call) : Prop :=
  ∀ (f : Nat) (as : List AV) (h : List Blk) (Q : AOut × List Blk → Prop), (call (.fn f) as h).All Q →
    (∀ (args : Array Value) (w : World), (callFunc f args).run P w = .ok (.enter f args) w) ∧
    ∀ (G : Gho) (w : World) (cs : List Value), StRel CO G h w → Clean G → GlR C G → ArgsR G w as cs → CallsIn Fence.wide 0 P f ⟨cs⟩ w (OutR CO G w Q)
/-- .. and those of the loops over functions -/
def YldOk (P : Program) (CO : Nat → Code → AC → Prop) (C : Cfg) (call : Call) : Prop :=
  ∀ (b : Nat) (as : List AV) (h : List Blk) (Q : AOut × List Blk → Prop), (call (.yld b) as h).All Q →
    ∀ (G : Gho) (w : World) (cs : List Value) (k : Nat), StRel CO G h w → Clean G → GlR C G → ArgsR G w as cs → G.role k = .heap b →
      ∃ L : Loop, w.heap[k]? = some (.loop L) ∧ cs.length = L.params.size ∧
        RoundIn Fence.wide 0 P k L.fn ((L.params.zip ⟨cs⟩).foldl (fun tmps (t, a) => tmps.setIfInBounds t a) L.tmps) L.assign L.body w (OutR CO G w Q)

theorem T.All.bind {α β : Type} {Q : β → Prop} {t : T α} {f : α → T β} (h : (t.bind f).All Q) : t.All fun x => (f x).All Q := by
  induction t with
  | ret a => exact h
  | fail => exact h
  | ch n k ih => exact ⟨h.1, fun i hi => ih i (h.2 i hi)⟩
theorem T.All.mono {α : Type} {Q Q' : α → Prop} (hq : ∀ x, Q x → Q' x) {t : T α} (h : t.All Q) : t.All Q' := by
  induction t with
  | ret a => exact hq a h
  | fail => exact h
  | ch n k ih => exact ⟨h.1, fun i hi => ih i (h.2 i hi)⟩

/-! ### arguments -/
def noTk : List AO → Bool
  | [] => true
  | .tk _ :: _ => false
  | _ :: r => noTk r
/-- the arguments of a call -/
def argsOk : List Operand → List AO → Bool
  | [], [] => true
  | x :: xs, y :: ys => odOk x y && (match y with
    | .tk _ => noTk ys && odsOk xs ys
    | _ => argsOk xs ys)
  | _, _ => false

theorem untakes_noTk (e : Env) {ys : List AO} (h : noTk ys = true) : e.untakes ys = e := by
  induction ys generalizing e with
  | nil => rfl
  | cons y ys ih => cases y <;> simp only [noTk, Bool.false_eq_true] at h <;> exact ih e h

theorem arg_ok (hs : SR CO C N G w s a) {x : Operand} {y : AO} (h : odOk x y = true) (hk : (Env.arg C s.e y).ok = true) (ht : ∀ i, y ≠ .tk i) : VR G (Env.arg C s.e y) (a.eval x) ∧ noOwn (Env.arg C s.e y) := by
  have he : Env.arg C s.e y = (Env.o C s.e y).nrm := by
    cases y <;> first | rfl | exact absurd rfl (ht _)
  rw [he] at hk ⊢
  rw [AV.ok_nrm] at hk
  refine ⟨VR.nrm ?_, noOwn_nrm _⟩
  exact (ev_o hs h (by intro h'; rw [h'] at hk; cases hk)).vr (by intro i o h'; rw [h'] at hk; cases hk)

theorem args_noTk (hs : SR CO C N G w s a) : ∀ {xs : List Operand} {ys : List AO}, odsOk xs ys = true → noTk ys = true → allOk (ys.map (Env.arg C s.e)) = true → VRs G (ys.map (Env.arg C s.e)) (xs.map a.eval) ∧ ∀ c ∈ ys.map (Env.arg C s.e), noOwn c
  | [], [], _, _, _ => ⟨.nil, fun _ h => by cases h⟩
  | [], _ :: _, h, _, _ => by simp [odsOk] at h
  | _ :: _, [], h, _, _ => by simp [odsOk] at h
  | x :: xs, y :: ys, h, hn, hk => by
    simp only [odsOk, Bool.and_eq_true] at h
    simp only [List.map_cons, allOk, Bool.and_eq_true] at hk ⊢
    have hyt : ∀ i, y ≠ .tk i := by rintro i rfl; simp [noTk] at hn
    have hn' : noTk ys = true := by cases y <;> first | exact hn | (simp [noTk] at hn)
    obtain ⟨k1, k2⟩ := arg_ok hs h.1 hk.1 hyt
    obtain ⟨j1, j2⟩ := args_noTk hs h.2 hn' hk.2
    refine ⟨.cons _ _ _ _ k1 j1, fun c hc => ?_⟩
    rcases List.mem_cons.1 hc with rfl | hc
    · exact k2
    · exact j2 c hc

theorem args_sound (hs : SR CO C N G w s a) : ∀ {xs : List Operand} {ys : List AO}, argsOk xs ys = true → allOk (ys.map (Env.arg C s.e)) = true →
    ∃ G1, SR CO C N G1 w { s with e := s.e.untakes ys } a ∧ Le G w G1 w ∧ ArgsR G1 w (ys.map (Env.arg C s.e)) (xs.map a.eval) := by
  have gen : ∀ {xs : List Operand} {ys : List AO}, argsOk xs ys = true → allOk (ys.map (Env.arg C s.e)) = true →
      (noTk ys = true ∧ odsOk xs ys = true) ∨ ∃ t, s.e.get t ≠ .undef ∧ s.e.untakes ys = (t, (s.e.get t).clr) :: s.e ∧
        ∀ G1, GLe G G1 → (VT G1 (s.e.get t) (a.tmps.getD t undef)) → Own G1 w .out (s.e.get t) (a.tmps.getD t undef) → ArgsR G1 w (ys.map (Env.arg C s.e)) (xs.map a.eval) := by
    intro xs
    induction xs with
    | nil =>
      intro ys h _
      cases ys with
      | nil => exact .inl ⟨rfl, rfl⟩
      | cons _ _ => simp [argsOk] at h
    | cons x xs ih =>
      intro ys h hk
      cases ys with
      | nil => simp [argsOk] at h
      | cons y ys =>
        simp only [argsOk, Bool.and_eq_true] at h
        simp only [List.map_cons, allOk, Bool.and_eq_true] at hk
        by_cases hyt : ∃ i, y = .tk i
        · obtain ⟨t, rfl⟩ := hyt
          simp only [Bool.and_eq_true] at h
          obtain ⟨h1, h2, h3⟩ := h
          have hne : s.e.get t ≠ .undef := by
            intro h'
            have := hk.1
            simp only [Env.arg, h'] at this
            cases this
          refine .inr ⟨t, hne, ?_, fun G1 hle hv ho => ?_⟩
          · simp only [Env.untakes, Env.untake]
            exact untakes_noTk _ h2
          · obtain ⟨j1, j2⟩ := args_noTk hs h3 h2 hk.2
            have hx : a.eval x = a.tmps.getD t undef := by
              unfold odOk at h1
              split at h1 <;> first | (cases h1; done) | skip
              all_goals rename_i heq; first | (cases heq; done) | skip
              injection heq with heq
              subst heq
              have := beq_iff.1 h1
              subst this
              rfl
            have hok := hk.1
            refine ⟨?_, 0, fun i c v hc hv' => ?_⟩
            · simp only [List.map_cons]
              refine .cons _ _ _ _ ?_ (j1.mono hle)
              rw [hx]
              exact hv.vr (by intro i o h'; simp only [Env.arg] at hok; rw [h'] at hok; cases hok)
            · cases i with
              | zero =>
                refine ⟨fun h => absurd rfl h, fun _ => ?_⟩
                simp only [List.map_cons, List.getElem?_cons_zero, Option.some.injEq] at hc hv'
                subst hc; subst hv'
                rw [hx]; exact ho
              | succ i =>
                refine ⟨fun _ => ?_, fun h => by cases h⟩
                simp only [List.map_cons, List.getElem?_cons_succ] at hc
                exact j2 c (List.mem_of_getElem? hc)
        · have hyt' : ∀ i, y ≠ .tk i := fun i h => hyt ⟨i, h⟩
          have h2 : argsOk xs ys = true := by
            have := h.2
            cases y <;> first | exact this | exact absurd rfl (hyt' _)
          obtain ⟨k1, k2⟩ := arg_ok hs h.1 hk.1 hyt'
          rcases ih h2 hk.2 with ⟨i1, i2⟩ | ⟨t, i1, i2, i3⟩
          · left
            refine ⟨?_, ?_⟩
            · cases y <;> first | exact i1 | exact absurd rfl (hyt' _)
            · simp only [odsOk, Bool.and_eq_true]; exact ⟨h.1, i2⟩
          · right
            refine ⟨t, i1, ?_, fun G1 hle hv ho => ?_⟩
            · simp only [Env.untakes]
              have : s.e.untake y = s.e := by cases y <;> first | rfl | exact absurd rfl (hyt' _)
              rw [this]; exact i2
            · obtain ⟨q1, j, q2⟩ := i3 G1 hle hv ho
              refine ⟨.cons _ _ _ _ (k1.mono hle) q1, j + 1, fun i c v hc hv' => ?_⟩
              cases i with
              | zero =>
                simp only [List.map_cons, List.getElem?_cons_zero, Option.some.injEq] at hc
                subst hc
                exact ⟨fun _ => k2, fun h => by cases h⟩
              | succ i =>
                obtain ⟨m1, m2⟩ := q2 i c v (by simpa using hc) (by simpa using hv')
                exact ⟨fun h => m1 (by omega), fun h => m2 (by omega)⟩
  intro xs ys h hk
  rcases gen h hk with ⟨h1, h2⟩ | ⟨t, h1, h2, h3⟩
  · rw [untakes_noTk _ h1]
    obtain ⟨j1, j2⟩ := args_noTk hs h2 h1 hk
    exact ⟨G, hs, .refl _ _, j1, 0, fun i c v hc _ => ⟨fun _ => j2 c (List.mem_of_getElem? hc), fun _ => Own.of_ne (j2 c (List.mem_of_getElem? hc))⟩⟩
  · rw [h2]
    obtain ⟨k1, k2, k3⟩ := hs.take t h1
    exact ⟨_, k1, Gho.mv_le _ _, h3 _ (Gho.mv_gle _ _) k2 k3⟩
end Go.Lt
namespace Go.Lt
open Go
variable {P : Program} {CO : Nat → Code → AC → Prop} {C : Cfg} {N : Nat} {G G' : Gho} {w w' : World} {s s' : St} {a : Act} {v : AV}

def dstOk (N : Nat) : Option Tmp → Option Nat → Bool
  | none, none => true
  | some t, some u => Nat.beq t u && Nat.blt t N
  | _, _ => false
def guardOk (N : Nat) (ops : Array Oper) : Option (Nat × Bool) → Option (Nat × Bool) → Bool
  | none, none => true
  | some (j, w), some (t, w') => (w == w') && Nat.blt t N && match ops[j]? with
    | some oj => match oj.dst with
      | some u => Nat.beq u t
      | none => false
    | none => false
  | _, _ => false
def callOk (op : Op) (g : AO) (as : List AO) : Bool :=
  match op with
  | .call c => match c.callee with
    | .value f => odOk f g && argsOk c.args.toList as
    | _ => false
  | _ => false
def panOk (op : Op) (y : AO) : Bool :=
  match op with
  | .panic x => odOk x y
  | _ => false
def dfrOk (op : Op) (g : AO) (as : List AO) : Bool :=
  match op with
  | .defer c => match c.callee with
    | .value f => odOk f g && odsOk c.args.toList as
    | _ => false
  | _ => false
def opOkR (P : Program) (rnd : Bool) (op : Op) (ao : AOp) : Bool :=
  match ao with
  | .call _ g as => callOk op g as
  | .pan y => panOk op y
  | .dfr g as => !rnd && dfrOk op g as
  | ao => opOk P op ao
def operOk (P : Program) (ops : Array Oper) (N : Nat) (rnd : Bool) (o : Oper) (ao : AOper) : Bool :=
  dstOk N o.dst ao.d && guardOk N ops o.guard ao.g && opOkR P rnd o.op ao.op

theorem callOk_spec {op : Op} {g : AO} {as : List AO} (h : callOk op g as = true) : ∃ c f, op = .call c ∧ c.callee = .value f ∧ odOk f g = true ∧ argsOk c.args.toList as = true := by
  unfold callOk at h
  split at h <;> first | (cases h; done) | skip
  rename_i c
  split at h <;> first | (cases h; done) | skip
  rename_i f hf
  simp only [Bool.and_eq_true] at h
  exact ⟨c, f, rfl, hf, h.1, h.2⟩
theorem panOk_spec {op : Op} {y : AO} (h : panOk op y = true) : ∃ x, op = .panic x ∧ odOk x y = true := by
  unfold panOk at h
  split at h <;> first | (cases h; done) | exact ⟨_, rfl, h⟩
theorem dfrOk_spec {op : Op} {g : AO} {as : List AO} (h : dfrOk op g as = true) : ∃ c f, op = .defer c ∧ c.callee = .value f ∧ odOk f g = true ∧ odsOk c.args.toList as = true := by
  unfold dfrOk at h
  split at h <;> first | (cases h; done) | skip
  rename_i c
  split at h <;> first | (cases h; done) | skip
  rename_i f hf
  simp only [Bool.and_eq_true] at h
  exact ⟨c, f, rfl, hf, h.1, h.2⟩

theorem dstOk_spec {d : Option Tmp} {e : Option Nat} (h : dstOk N d e = true) : d = e ∧ ∀ t, e = some t → t < N := by
  unfold dstOk at h
  split at h
  · exact ⟨rfl, fun t h => by cases h⟩
  · simp only [Bool.and_eq_true] at h
    have h1 := beq_iff.1 h.1
    subst h1
    refine ⟨rfl, fun t ht => ?_⟩
    cases ht
    exact Nat.le_of_ble_eq_true h.2
  · cases h

/-- is the operation wanted? -/
theorem wanted_eq (hs : SR CO C N G w s a) {ops : Array Oper} {o : Oper} {ao : AOper} (h : guardOk N ops o.guard ao.g = true) {b : Bool} (hw : ao.wanted s.e = some b) : Region.wanted o (yielded ops a.tmps) = b := by
  unfold AOper.wanted at hw
  unfold Region.wanted
  unfold guardOk at h
  split at h
  · rename_i h1 h2
    rw [h2] at hw
    rw [h1]
    simpa using hw
  · rename_i j wj t wt h1 h2
    rw [h2] at hw
    rw [h1]
    simp only [Bool.and_eq_true, beq_iff_eq] at h
    obtain ⟨⟨rfl, hlt⟩, hd⟩ := h
    have hlt : t < N := Nat.le_of_ble_eq_true hlt
    split at hd <;> first | (cases hd; done) | skip
    rename_i oj hoj
    split at hd <;> first | (cases hd; done) | skip
    rename_i u hu
    have hd := beq_iff.1 hd
    subst hd
    have hy : yielded ops a.tmps j = match a.tmps.getD u undef with | .bool b => some b | _ => none := by
      unfold yielded
      have : u < a.tmps.size := by rw [hs.size]; exact hlt
      simp only [hoj, hu, Option.bind_some, Array.getElem?_eq_getElem this, Array.getD_eq_getD_getElem?, Option.getD_some]
      split <;> split <;> simp_all
    simp only at hw ⊢
    split at hw <;> first | (cases hw; done) | skip
    · rename_i c hc
      cases hw
      have hv := (hs.env u (by rw [hc]; simp)).1.vr (by rw [hc]; simp)
      rw [hc] at hv
      generalize a.tmps.getD u undef = tv at hv hy
      cases hv
      rw [hy]
      cases c <;> cases wj <;> rfl
    · rename_i hc
      cases hw
      have hv := (hs.env u (by rw [hc]; simp)).1.vr (by rw [hc]; simp)
      rw [hc] at hv
      generalize a.tmps.getD u undef = tv at hv hy
      cases hv
      rw [hy]
      rfl
  · cases h

theorem put_kept {d : Option Nat} {u : Value} {t : Nat} (h : d ≠ some t) : (a.put d u).tmps.getD t undef = a.tmps.getD t undef := by
  cases d with
  | none => rfl
  | some t' =>
    have hne : t' ≠ t := fun e => h (by rw [e])
    simp [Act.put, Array.getElem?_setIfInBounds_ne hne]

/-! ### what the callee sees -/
theorem hide_clean (pur : Bool) (m : Option Nat) : Clean (G.hide pur .out m) := by
  intro k
  simp only [Gho.hide]
  split
  · exact .inr (.inr (.inr rfl))
  · unfold Role.vis
    split
    · cases pur
      · exact .inr (.inl ⟨_, rfl⟩)
      · exact .inl rfl
    · cases pur
      · exact .inr (.inr (.inl ⟨_, _, rfl⟩))
      · exact .inl rfl
    · exact .inl rfl
theorem hide_gle (m : Option Nat) : GLe G (G.hide false .out m) := by
  refine ⟨fun _ _ _ h => h, fun _ _ h => h, fun b i h => ?_⟩
  simp [Gho.hide, h, Role.vis]
theorem Own.hide {pur : Bool} {m : Option Nat} {c : AV} {u : Value} (h : Own G w .out c u) : Own (G.hide pur .out m) w .out c u := by
  intro x xs hc ad n cap hv
  rcases h x xs hc ad n cap hv with h | ⟨hr, rest⟩
  · exact .inl h
  · exact .inr ⟨by simp [Gho.hide, hr], rest⟩
theorem ArgsR.hide {m : Option Nat} {as : List AV} {cs : List Value} (h : ArgsR G w as cs) : ArgsR (G.hide false .out m) w as cs := by
  obtain ⟨h1, j, h2⟩ := h
  exact ⟨h1.mono (hide_gle m), j, fun i c v hc hv => ⟨(h2 i c v hc hv).1, fun e => ((h2 i c v hc hv).2 e).hide⟩⟩
theorem ArgsR.hideP {m : Option Nat} {as : List AV} {cs : List Value} (h : ArgsR G w as cs) (hp : AV.pures as = true) : ArgsR (G.hide true .out m) w as cs := by
  obtain ⟨h1, j, h2⟩ := h
  exact ⟨(VR.ofPure_all (G := G) (G' := G.hide true .out m) ⟨fun _ _ _ h => h, fun _ _ h => h⟩).2.1 h1 hp, j, fun i c v hc hv => ⟨(h2 i c v hc hv).1, fun e => ((h2 i c v hc hv).2 e).hide⟩⟩

theorem ArgsR.wrap {as pa pb : List AV} {cs va vb : List Value} (h : ArgsR G w as cs) (ha : VRs G pa va) (hb : VRs G pb vb) : ArgsR G w (pa.map AV.nrm ++ as ++ pb.map AV.nrm) (va ++ cs ++ vb) := by
  obtain ⟨h1, j, h2⟩ := h
  have hla : (pa.map AV.nrm).length = va.length := by rw [List.length_map]; exact ha.length
  have hlc : as.length = cs.length := h1.length
  have hno : ∀ (l : List AV) (i : Nat) (c : AV), (l.map AV.nrm)[i]? = some c → noOwn c := fun l i c hc => by
    obtain ⟨x, _, rfl⟩ := List.mem_map.1 (List.mem_of_getElem? hc)
    exact noOwn_nrm x
  refine ⟨((ha.map _ fun _ _ => VR.nrm).append h1).append (hb.map _ fun _ _ => VR.nrm), pa.length + j, fun i c v hc hv => ?_⟩
  rw [List.append_assoc, List.getElem?_append] at hc hv
  rw [List.length_map] at hc hla
  rw [← hla] at hv
  split at hc
  · have := hno pa i c hc
    exact ⟨fun _ => this, fun _ => Own.of_ne this⟩
  · rename_i hge
    rw [if_neg hge] at hv
    rw [List.getElem?_append] at hc hv
    rw [← hlc] at hv
    split at hc
    · rename_i hlt
      rw [if_pos hlt] at hv
      obtain ⟨m1, m2⟩ := h2 _ c v hc hv
      exact ⟨fun h => m1 (by omega), fun h => m2 (by omega)⟩
    · have := hno pb _ c hc
      exact ⟨fun _ => this, fun _ => Own.of_ne this⟩

theorem back_gle {m : Option Nat} {pur : Bool} (hle : Le (G.hide pur .out m) w G' w') : (pur = false → GLe G' (G.back w.heap.size pur G')) ∧ GCon G' (G.back w.heap.size pur G') ∧ ∀ c u, Own G' w' .out c u → Own (G.back w.heap.size pur G') w' .out c u := by
  refine ⟨fun hp => ⟨fun _ _ _ h => h, fun _ _ h => h, fun b i hi => ?_⟩, ⟨fun _ _ _ h => h, fun _ _ h => h⟩, fun c u h x xs hc ad n cap hv => ?_⟩
  · subst hp
    simp only [Gho.back]
    rw [if_neg (fun h => by rw [(hle.same b h.1 (hide_none h.2)).2] at hi; cases hi)]
    simp [hi, Role.vis]
  · rcases h x xs hc ad n cap hv with h | ⟨hr, rest⟩
    · exact .inl h
    · refine .inr ⟨?_, rest⟩
      simp only [Gho.back]
      rw [if_neg (fun h => by rw [(hle.same _ h.1 (hide_none h.2)).2] at hr; cases hr)]
      simp [hr]

/-- behind a call that has returned -/
theorem SR.returned {pur : Bool} {m : Option Nat} (hs : SR CO C N G w s a) {h' : List Blk} {u : AV} {cv : Value} (hst : StRel CO G' h' w') (hle : Le (G.hide pur .out m) w G' w') (hv : VR G' u cv) (ho : Own G' w' .out u cv) (hp : pur = true → u.pure = true) {d : Option Nat} (hd : ∀ t, d = some t → t < N) :
    ∃ G2, SR CO C N G2 w' (St.put (match pur with | true => s | false => { s with h := h' }) d u) (a.put d cv) ∧ Le G w G2 w' := by
  obtain ⟨g1, g2, g3⟩ := back_gle hle
  have hL := back_le hs.st.lt hle
  cases pur with
  | false =>
    obtain ⟨G2, k1, k2⟩ := (hs.back hle hst).put hd (fun _ => VT.of (hv.mono (g1 rfl))) (fun _ => g3 _ _ ho)
    exact ⟨G2, k1, hL.trans k2⟩
  | true =>
    obtain ⟨G2, k1, k2⟩ := (hs.backP hle hst).put hd (fun _ => VT.of ((VR.ofPure_all g2).1 hv (hp rfl))) (fun _ => g3 _ _ ho)
    exact ⟨G2, k1, hL.trans k2⟩
theorem SR.raised {pur : Bool} {m : Option Nat} (hs : SR CO C N G w s a) {h' : List Blk} {u : AV} {cv : Value} (hst : StRel CO G' h' w') (hle : Le (G.hide pur .out m) w G' w') (hv : VR G' u cv) (hp : pur = true → u.pure = true) :
    ∃ G2, SR CO C N G2 w' (match pur with | true => s | false => { s with h := h' }) a ∧ Le G w G2 w' ∧ VR G2 u cv := by
  obtain ⟨g1, g2, g3⟩ := back_gle hle
  have hL := back_le hs.st.lt hle
  cases pur with
  | false => exact ⟨_, hs.back hle hst, hL, hv.mono (g1 rfl)⟩
  | true => exact ⟨_, hs.backP hle hst, hL, (VR.ofPure_all g2).1 hv (hp rfl)⟩
end Go.Lt
namespace Go.Lt
open Go
variable {P : Program} {CO : Nat → Code → AC → Prop} {C : Cfg} {N : Nat} {G G' : Gho} {w w' : World} {s s' : St} {a : Act} {v : AV}

/-- package-level variables hold nothing of the heap -/
def GlPure (C : Cfg) : Prop := ∀ g, C.gl g ≠ .undef → (C.gl g).pure = true

theorem GlR.hide (hg : GlPure C) (h : GlR C G) (pur : Bool) (m : Option Nat) : GlR C (G.hide pur .out m) := fun g hne =>
  (VR.ofPure_all (G := G) (G' := G.hide pur .out m) ⟨fun _ _ _ h => h, fun _ _ h => h⟩).1 (h g hne) (hg g hne)

theorem run_callVal {o : Oper} {c : Go.Call} {f : Operand} (ho : o.op = .call c) (hc : c.callee = .value f) {ρ : Operand → Value} {g : Fn} {va vb : Array Value} (hf : ρ f = .func g va vb) :
    execOp ρ o = invoke (.fn g vb) (va ++ c.args.map ρ) := by
  simp [execOp, ho, resolve, hc, hf, Deferred.ofValue]

theorem semAt_run {o : Oper} {ro : Option Nat} (ρ : Operand → Value) (h : ∀ c, o.op ≠ .defer c) : o.semAt (FW ro).round ρ = execOp ρ o := Oper.semAt_eq _ ρ o h

theorem step1_sound {call : Call} (hC : CallOk P CO C call) (hY : YldOk P CO C call) (hg : GlPure C) {ops : Array Oper} {o : Oper} {ao : AOper} {ro : Option Nat} {n : Nat} {rnd : Bool} (hrnd : ro.isSome = true → rnd = true)
    (hok : operOk P ops N rnd o ao = true) (hs : SR CO C N G w s a) {Q : Option AV × St → Prop} (h : (step1 C call ao s).All Q) {K : Act → World → Prop} {Qx : Exit → Act → World → Prop}
    (hK : ∀ s' G' a' w', Q (none, s') → SR CO C N G' w' s' a' → Le G w G' w' → (∀ t, ao.d ≠ some t → a'.tmps.getD t undef = a.tmps.getD t undef) → K a' w')
    (hP : ∀ v pv s' G' w', Q (some v, s') → SR CO C N G' w' s' a → Le G w G' w' → VR G' v pv → Qx (.panic [{ v := pv, recovered := false }]) a w') :
    if Region.wanted o (yielded ops a.tmps) then o.wpIn (FW ro) n P a w K Qx else (∀ f, o.about P w a.eval = some f → (FW ro).fn f) ∧ K (a.put o.dst undef) w := by
  simp only [operOk, Bool.and_eq_true] at hok
  obtain ⟨⟨hdst, hguard⟩, hop⟩ := hok
  obtain ⟨hd, hdN⟩ := dstOk_spec hdst
  unfold step1 at h
  split at h <;> first | (exact h.elim) | skip
  · -- not wanted
    rename_i hw
    rw [wanted_eq hs hguard hw]
    simp only [Bool.false_eq_true, if_false]
    refine ⟨fun _ _ => trivial, ?_⟩
    rw [hd]
    obtain ⟨G2, k1, k2⟩ := hs.put (d := ao.d) (v := .tup []) (cv := undef) hdN (fun _ => VT.of (.tup [] [] .nil)) (fun _ => Own.of_ne (by simp))
    exact hK _ G2 _ w h k1 k2 fun t ht => put_kept ht
  · rename_i hw
    rw [wanted_eq hs hguard hw]
    simp only [if_true]
    refine ⟨fun _ _ => trivial, ?_⟩
    split at h
    · -- a panic
      rename_i x hao
      rw [hao] at hop
      obtain ⟨y, ho, hxy⟩ := panOk_spec hop
      split at h <;> first | (exact h.elim) | skip
      rename_i t u hx
      have h1 := ev_eq hs hxy hx (by simp) (by simp)
      rw [semAt_run _ (fun c hc => by rw [ho] at hc; cases hc)]
      generalize hyy : a.eval y = yv at h1
      have hrun : (execOp a.eval o).run P w = .halt (.panic yv) w := by
        cases h1
        simp [execOp, ho, hyy, Instr.panic, goPanic]
      rw [hrun, Oper.uponIn_panic]
      exact hP _ _ _ G w h hs (.refl _ _) h1
    · -- a call
      rename_i pur f args hao
      rw [hao] at hop
      obtain ⟨c, fo, ho, hcal, hf, hargs⟩ := callOk_spec hop
      simp only at h
      split at h <;> first | (exact h.elim) | skip
      rename_i cl as' hak hce
      rw [semAt_run _ (fun c hc => by rw [ho] at hc; cases hc)]
      obtain ⟨G1, hs1, hle1, hA1⟩ := args_sound hs hargs hak
      -- what the callee ends in
      have hend : ∀ (pur : Bool) (Q0 : AOut × List Blk → Prop) (e : Ending) (w'' : World),
          (∀ u h', Q0 (.ret u, h') → (pur = true → u.pure = true) ∧ Q (none, St.put (match pur with | true => { s with e := s.e.untakes args } | false => { s with e := s.e.untakes args, h := h' }) ao.d u)) →
          (∀ u h', Q0 (.pan u, h') → (pur = true → u.pure = true) ∧ Q (some u, match pur with | true => { s with e := s.e.untakes args } | false => { s with e := s.e.untakes args, h := h' })) →
          OutR CO (G1.hide pur .out none) w Q0 e w'' →
          (match e, w'' with
            | .returned v, w'' => K (a.put o.dst v) w''
            | .panicked chain, w'' => Qx (.panic chain) a w''
            | .outgrown, _ => LetsOut Qx) := by
        intro pur Q0 e w'' hq1 hq2 hr
        cases e with
        | returned cv =>
          obtain ⟨u, h', G', q1, q2, q3, q4, q5⟩ := hr
          obtain ⟨p1, p2⟩ := hq1 u h' q1
          obtain ⟨G2, k1, k2⟩ := hs1.returned q2 q3 q4 q5 p1 hdN
          rw [hd]
          refine hK _ G2 _ w'' p2 ?_ (hle1.trans k2) fun t ht => put_kept ht
          cases pur <;> exact k1
        | panicked chain =>
          obtain ⟨u, h', G', pv, q1, rfl, q2, q3, q4⟩ := hr
          obtain ⟨p1, p2⟩ := hq2 u h' q1
          obtain ⟨G2, k1, k2, k3⟩ := hs1.raised q2 q3 q4 p1
          refine hP u pv _ G2 w'' p2 ?_ (hle1.trans k2) k3
          cases pur <;> exact k1
        | outgrown => exact hr.elim
      unfold callee at hce
      split at hce <;> first | (cases hce; done) | skip
      · -- of a function
        rename_i g pa pb hfe
        cases hce
        have hfv := ev_eq hs hf hfe (by simp) (by simp)
        generalize hff : a.eval fo = fv at hfv
        cases hfv with | fn _ _ _ va vb hva hvb =>
        rw [run_callVal ho hcal hff]
        have hA2 := hA1.wrap (hva.mono hle1.gle) (hvb.mono hle1.gle)
        have hargs' : ((⟨va⟩ : Array Value) ++ c.args.map a.eval) ++ (⟨vb⟩ : Array Value) = ⟨va ++ c.args.toList.map a.eval ++ vb⟩ := by
          apply Array.toList_inj.1
          simp
        split at h
        · -- that sees nothing of the heap
          split at h <;> first | (exact h.elim) | skip
          rename_i hpu
          simp only [Bool.and_eq_true] at hpu
          replace hpu := hpu.2
          obtain ⟨e1, e2⟩ := hC g _ _ _ (T.All.bind h)
          simp only [invoke]
          rw [hargs', e1, Oper.uponIn_enter]
          refine ⟨fun h => (by cases h), CallsIn.mono (callsIn_FW (e2 _ w _ hs1.st.hideP (hide_clean _ _) (GlR.hide hg hs1.gl true none) (hA2.hideP hpu))) fun e w'' hr => ?_⟩
          refine hend true _ e w'' (fun u h' hq => ?_) (fun u h' hq => ?_) hr
          · simp only at hq
            split at hq
            · rename_i hup; exact ⟨fun _ => hup, hq⟩
            · exact hq.elim
          · simp only at hq
            split at hq
            · rename_i hup; exact ⟨fun _ => hup, hq⟩
            · exact hq.elim
        · obtain ⟨e1, e2⟩ := hC g _ _ _ (T.All.bind h)
          simp only [invoke]
          rw [hargs', e1, Oper.uponIn_enter]
          refine ⟨fun h => (by cases h), CallsIn.mono (callsIn_FW (e2 _ w _ hs1.st.hide (hide_clean _ _) (GlR.hide hg hs1.gl false none) hA2.hide)) fun e w'' hr => ?_⟩
          refine hend false _ e w'' (fun u h' hq => ⟨fun h => (by cases h), ?_⟩) (fun u h' hq => ⟨fun h => (by cases h), hq⟩) hr
          simp only at hq
          split at hq <;> first | exact hq | exact hq.elim
      · -- of a loop's body
        rename_i b hfe
        cases hce
        have hfv := ev_eq hs hf hfe (by simp) (by simp)
        generalize hff : a.eval fo = fv at hfv
        cases hfv with | yld _ k hk =>
        rw [run_callVal ho hcal hff]
        split at h
        · split at h <;> first | (exact h.elim) | skip
          rename_i hpu
          simp only [hfe, AV.pure, Bool.false_and, Bool.false_eq_true] at hpu
        · have hk1 : (G1.hide false .out none).role k = .heap b := (hide_gle none).role k b (hle1.gle.role k b hk)
          obtain ⟨L, e1, e2, e3⟩ := hY b _ _ _ (T.All.bind h) (G1.hide false .out none) w _ k hs1.st.hide (hide_clean _ _) (GlR.hide hg hs1.gl false none) hA1.hide hk1
          have hgl : (Instr.getLoop k).run P w = .ok L w := by
            simp only [Instr.getLoop, Sem.run_bind, getObj, Sem.run, e1, Result.andThen_ok]
            rfl
          have hsz : ¬ ((#[] : Array Value) ++ c.args.map a.eval).size ≠ L.params.size := by
            simp [← e2]
          have hy : (invoke (.fn (.yield k) #[]) (#[] ++ c.args.map a.eval)).run P w = .ok (.round k L.fn ((L.params.zip (#[] ++ c.args.map a.eval)).foldl (fun tmps (t, a) => tmps.setIfInBounds t a) L.tmps) L.assign L.body) w := by
            simp only [invoke, Instr.yield, Sem.run_bind, hgl, Result.andThen_ok]
            rw [if_neg hsz]
            rfl
          rw [hy, Oper.uponIn_round]
          have hargs' : ((#[] : Array Value) ++ c.args.map a.eval) = ⟨c.args.toList.map a.eval⟩ := by
            apply Array.toList_inj.1
            simp
          rw [hargs']
          refine ⟨fun h => (by cases h), RoundIn.mono (show RoundIn (FW ro) (n - 1) P k L.fn _ L.assign L.body w _ from ⟨trivial, fun c' cs' _ => e3.2 c' cs' (room_wide _)⟩) fun e w'' hr => ?_⟩
          refine hend false _ e w'' (fun u h' hq => ⟨fun h => (by cases h), ?_⟩) (fun u h' hq => ⟨fun h => (by cases h), hq⟩) hr
          simp only at hq
          split at hq <;> first | exact hq | exact hq.elim
    · -- no call
      rename_i hnp hnc
      split at h <;> first | (exact h.elim) | skip
      rename_i v s1 hr
      by_cases hdf : ∃ g as, ao.op = .dfr g as
      · obtain ⟨g, as, hao⟩ := hdf
        rw [hao] at hop hr
        simp only [opOkR, Bool.and_eq_true] at hop
        obtain ⟨hro, hop⟩ := hop
        have hro : ro = none := by
          cases ro with
          | none => rfl
          | some l => rw [hrnd rfl] at hro; cases hro
        subst hro
        obtain ⟨c, fo, ho, hcal, hf, hargs⟩ := dfrOk_spec hop
        simp only [AOp.run] at hr
        split at hr <;> first | (cases hr; done) | skip
        rename_i q pa pb hfe
        split at hr <;> first | (cases hr; done) | skip
        rename_i hak
        cases hr
        have hfv := ev_eq hs hf hfe (by simp) (by simp)
        generalize hff : a.eval fo = fv at hfv
        cases hfv with | fn _ _ _ va vb hva hvb =>
        have hargs' := odsOk_vrs hs hargs hak
        have hrun : (o.semAt (FW none).round a.eval).run P w = .ok (.defer { target := .fn (.func q) ⟨vb⟩, args := ⟨va⟩ ++ ⟨c.args.toList.map a.eval⟩ }) w := by
          rw [show (FW none).round = none from rfl, Oper.semAt_none]
          have : c.args.map a.eval = ⟨c.args.toList.map a.eval⟩ := by
            apply Array.toList_inj.1
            simp
          simp [execOp, ho, resolve, hcal, hff, Deferred.ofValue, this]
        rw [hrun, Oper.uponIn_defer, hd]
        have hs2 : SR CO C N G w { s with d := (.fn q pa pb, (Env.vs C s.e as).map AV.nrm) :: s.d } { a with defers := { target := .fn (.func q) ⟨vb⟩, args := ⟨va⟩ ++ ⟨c.args.toList.map a.eval⟩ } :: a.defers } :=
          ⟨hs.st, hs.env, hs.loc, .call _ _ _ _ _ _ _ _ _ hva hvb hargs' hs.dr, hs.size, hs.gl⟩
        obtain ⟨G2, k1, k2⟩ := hs2.put (d := ao.d) (v := .undef) (cv := undef) hdN (fun h => absurd rfl h) (fun h => absurd rfl h)
        exact hK _ G2 _ w h k1 k2 fun t ht => put_kept ht
      · have hop' : opOk P o.op ao.op = true := by
          unfold opOkR at hop
          split at hop
          · rename_i p q r he; exact absurd he (hnc p q r)
          · rename_i p he; exact absurd he (hnp p)
          · rename_i p q he; exact absurd ⟨p, q, he⟩ hdf
          · exact hop
        have hnd : ∀ c, o.op ≠ .defer c := by
          intro c hc
          rw [hc] at hop'
          unfold opOk at hop'
          split at hop' <;> first | (cases hop'; done) | (rename_i heq _; cases heq)
        rw [semAt_run _ hnd]
        obtain ⟨cv, w1, G1, e1, e2, e3, e4, e5⟩ := opOk_sim hop' G w s s1 a v hs hr
        obtain ⟨G2, k1, k2⟩ := e2.put (d := ao.d) (v := v) (cv := cv) hdN e4 e5
        rcases e1 with e1 | ⟨e1, rfl⟩
        · rw [e1, Oper.uponIn_value, hd]
          exact hK _ G2 _ w1 h k1 (e3.trans k2) fun t ht => put_kept ht
        · rw [e1, Oper.uponIn_skip, hd]
          exact hK _ G2 _ w1 h k1 (e3.trans k2) fun t ht => put_kept ht
end Go.Lt
namespace Go.Lt
open Go
variable {P : Program} {CO : Nat → Code → AC → Prop} {C : Cfg} {N : Nat} {G G' : Gho} {w w' : World} {s s' : St} {a : Act} {v : AV}

/-- what a region ends in -/
def RegQ (CO : Nat → Code → AC → Prop) (C : Cfg) (N : Nat) (G : Gho) (w : World) (a : Act) (os : List AOper) (Q : Option AV × St → Prop) : Exit → Act → World → Prop
  | .normal, a', w' => ∃ s' G', Q (none, s') ∧ SR CO C N G' w' s' a' ∧ Le G w G' w'
  | .panic chain, a', w' => ∃ v pv s' G', Q (some v, s') ∧ chain = [{ v := pv, recovered := false }] ∧ VR G' v pv ∧ Le G w G' w' ∧ StRel CO G' s'.h w' ∧ DR G' w' s'.d a'.defers ∧ a'.tmps.size = N ∧
      (∀ g, C.gl g ≠ .undef → VR G' (C.gl g) (.pointer (some ⟨g, 0, none⟩))) ∧ ∀ t, (∀ o ∈ os, o.d ≠ some t) → a'.tmps.getD t undef = a.tmps.getD t undef
  | _, _, _ => False

theorem RegQ.from {os os' : List AOper} {Q : Option AV × St → Prop} {a0 : Act} (hle : Le G w G' w') (hsub : ∀ o ∈ os', o ∈ os) (hk : ∀ t, (∀ o ∈ os, o.d ≠ some t) → a.tmps.getD t undef = a0.tmps.getD t undef) :
    ∀ e a' w'', RegQ CO C N G' w' a os' Q e a' w'' → RegQ CO C N G w a0 os Q e a' w'' := by
  intro e a' w'' h
  cases e with
  | normal =>
    obtain ⟨s', G'', h1, h2, h3⟩ := h
    exact ⟨s', G'', h1, h2, hle.trans h3⟩
  | panic chain =>
    obtain ⟨v, pv, s', G'', h1, h2, h3, h4, h5, h6, h7, h8, h9⟩ := h
    exact ⟨v, pv, s', G'', h1, h2, h3, hle.trans h4, h5, h6, h7, h8, fun t ht => (h9 t fun o ho => ht o (hsub o ho)).trans (hk t ht)⟩
  | exit _ => exact h
  | goto _ => exact h
  | ret => exact h
  | outgrown => exact h

theorem wpOpsIn_mono {F : Fence} {n : Nat} {ops : Array Oper} {Q Q' : Exit → Act → World → Prop} (h : ∀ e a w, Q e a w → Q' e a w) : ∀ (l : List Nat) (a : Act) (w : World), wpOpsIn F n P ops Q l a w → wpOpsIn F n P ops Q' l a w := by
  have upon : ∀ (o : Oper) (a : Act) (K K' : Act → World → Prop) (r : Result Next), (∀ a w, K a w → K' a w) → o.uponIn F n P a K Q r → o.uponIn F n P a K' Q' r := by
    intro o a K K' r hk hr
    cases r with
    | ok x w' =>
      cases x <;> simp only [Oper.uponIn] at hr ⊢ <;>
        first
          | exact hk _ _ hr
          | exact ⟨hr.1, CallsIn.mono hr.2 (fun e w'' he => by cases e <;> first | exact hk _ _ he | exact h _ _ _ he | (obtain ⟨a0, w0, hq⟩ := he; exact ⟨a0, w0, h _ _ _ hq⟩))⟩
          | exact ⟨hr.1, RowsIn.mono hr.2 (fun _ _ he => hk _ _ he)⟩
          | exact ⟨hr.1, RoundIn.mono hr.2 (fun e w'' he => by cases e <;> first | exact hk _ _ he | exact h _ _ _ he | (obtain ⟨a0, w0, hq⟩ := he; exact ⟨a0, w0, h _ _ _ hq⟩))⟩
    | halt x w' => cases x <;> simp only [Oper.uponIn] at hr ⊢ <;> first | exact hr | exact h _ _ _ hr
  intro l
  induction l with
  | nil => exact fun a w hh => h _ _ _ hh
  | cons i rest ih =>
    intro a w hh
    simp only [wpOpsIn] at hh ⊢
    split
    · rename_i ho
      simp only [ho] at hh
      exact ih a w hh
    · rename_i o ho
      simp only [ho] at hh
      split
      · rename_i hw
        simp only [hw, if_true] at hh
        exact ⟨hh.1, upon o a _ _ _ (fun a w => ih a w) hh.2⟩
      · rename_i hw
        simp only [hw] at hh
        exact ⟨hh.1, ih _ _ hh.2⟩

def opersOk (P : Program) (ops : Array Oper) (N : Nat) (rnd : Bool) : List Oper → List AOper → Bool
  | [], [] => true
  | o :: os, ao :: aos => operOk P ops N rnd o ao && opersOk P ops N rnd os aos
  | _, _ => false
theorem opersOk_spec {ops : Array Oper} {rnd : Bool} : ∀ {os : List Oper} {aos : List AOper}, opersOk P ops N rnd os aos = true → os.length = aos.length ∧ ∀ (i : Nat) (ao : AOper), aos[i]? = some ao → ∃ o, os[i]? = some o ∧ operOk P ops N rnd o ao = true
  | [], [], _ => ⟨rfl, fun i ao h => by simp at h⟩
  | [], _ :: _, h => by simp [opersOk] at h
  | _ :: _, [], h => by simp [opersOk] at h
  | o :: os, ao :: aos, h => by
    simp only [opersOk, Bool.and_eq_true] at h
    obtain ⟨h1, h2⟩ := opersOk_spec h.2
    refine ⟨by simp [h1], fun i x hx => ?_⟩
    cases i with
    | zero => simp only [List.getElem?_cons_zero, Option.some.injEq] at hx; subst hx; exact ⟨o, rfl, h.1⟩
    | succ i => simpa using h2 i x (by simpa using hx)

theorem seq_sound {call : Call} (hC : CallOk P CO C call) (hY : YldOk P CO C call) (hg : GlPure C) {ops : Array Oper} {ro : Option Nat} {n : Nat} {rnd : Bool} (hrnd : ro.isSome = true → rnd = true) {Q : Option AV × St → Prop} :
    ∀ (rest : List AOper) (i : Nat) {G : Gho} {w : World} {s : St} {a : Act}, i + rest.length = ops.size → (∀ (j : Nat) (ao : AOper), rest[j]? = some ao → ∃ o, ops[i + j]? = some o ∧ operOk P ops N rnd o ao = true) →
      SR CO C N G w s a → (Lt.ops C call rest s).All Q → wpOpsIn (FW ro) n P ops (RegQ CO C N G w a rest Q) (List.range' i rest.length) a w := by
  intro rest
  induction rest with
  | nil =>
    intro i G w s a _ _ hs h
    exact ⟨s, G, h, hs, .refl _ _⟩
  | cons ao rest ih =>
    intro i G w s a hi hj hs h
    simp only [List.length_cons, List.range'_succ]
    obtain ⟨o, ho, hok⟩ := hj 0 ao rfl
    rw [Nat.add_zero] at ho
    simp only [Lt.ops] at h
    have h := T.All.bind h
    have hstep := step1_sound (n := n) (K := wpOpsIn (FW ro) n P ops (RegQ CO C N G w a (ao :: rest) Q) (List.range' (i + 1) rest.length)) (Qx := RegQ CO C N G w a (ao :: rest) Q) hC hY hg hrnd hok hs h
      (fun s' G' a' w' hq hs' hle hk => by
        have := ih (i + 1) (by simp only [List.length_cons] at hi; omega) (fun j x hx => by
          obtain ⟨o', h1, h2⟩ := hj (j + 1) x (by simpa using hx)
          exact ⟨o', by rw [← h1]; congr 1; omega, h2⟩) hs' hq
        refine wpOpsIn_mono (RegQ.from hle (fun o ho => List.mem_cons_of_mem _ ho) fun t ht => hk t (ht ao (by simp))) _ _ _ this)
      (fun v pv s' G' w' hq hs' hle hv => ⟨v, pv, s', G', hq, rfl, hv, hle, hs'.st, hs'.dr, hs'.size, hs'.gl, fun t _ => rfl⟩)
    simp only [wpOpsIn, ho]
    exact hstep

theorem reg_seq {call : Call} (hC : CallOk P CO C call) (hY : YldOk P CO C call) (hg : GlPure C) {id : Nat} {ops : Array Oper} {os : List AOper} {ro : Option Nat} {n : Nat} {rnd : Bool} (hrnd : ro.isSome = true → rnd = true) {Q : Option AV × St → Prop}
    (hok : opersOk P ops N rnd ops.toList os = true) (hs : SR CO C N G w s a) (h : (Lt.ops C call os s).All Q) : (Code.region id ops false).wpIn (FW ro) n P (RegQ CO C N G w a os Q) a w := by
  obtain ⟨h1, h2⟩ := opersOk_spec hok
  have hl : os.length = ops.size := by rw [← h1]; simp
  refine wpIn_region ?_
  have := seq_sound (n := n) hC hY hg (ops := ops) hrnd os 0 (by simpa using hl) (fun j ao hj => by
    obtain ⟨o, k1, k2⟩ := h2 j ao hj
    exact ⟨o, by simpa using k1, k2⟩) hs h
  rw [hl, ← List.range_eq_range'] at this
  exact this
end Go.Lt
