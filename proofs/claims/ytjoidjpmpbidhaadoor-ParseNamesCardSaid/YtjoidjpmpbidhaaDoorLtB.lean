/-
  Lt: operands; a value put into a temporary; a right to grow taken out of one; a new local block.
  Lt: a new local block; cells written.
  Lt: when abstract code is that of the translation: a check by computation.
-/
import Derived.Test.YtjoidjpmpbidhaaDoorLtA
import Derived.Laws.CopyRow
import Derived.Laws.Rows
set_option linter.all false
namespace Go.Lt
open Go
variable {CO : Nat → Code → AC → Prop} {C : Cfg} {N : Nat} {G : Gho} {w : World} {s : St} {a : Act}

mutual
def kOk : AV → Value → Bool
  | .bool a, .bool b => a == b
  | .int k n, .int k' m => decide (k = k') && decide (n = m)
  | .str s, .string b => decide (b.data.toList.map UInt8.toNat = s)
  | .sl true [], .slice none 0 0 => true
  | .nptr, .pointer none => true
  | .nfn, .nilFunc => true
  | .nifc, .nilIface => true
  | .nmap, .map none => true
  | .fn f [] [], .func (.func g) a b => Nat.beq f g && a.isEmpty && b.isEmpty
  | .agg cs, .agg vs => kOks cs vs.toList && allLeaf cs
  | _, _ => false
def kOks : List AV → List Value → Bool
  | [], [] => true
  | c :: cs, v :: vs => kOk c v && kOks cs vs
  | _, _ => false
end

mutual
theorem kOk_vr : ∀ (c : AV) (v : Value), kOk c v = true → VR G c v
  | .bool a, v, h => by
    cases v <;> simp only [kOk, Bool.false_eq_true, beq_iff_eq] at h
    subst h; exact .bool _
  | .int k n, v, h => by
    cases v <;> simp only [kOk, Bool.false_eq_true, Bool.and_eq_true, decide_eq_true_eq] at h
    obtain ⟨rfl, rfl⟩ := h; exact .int _ _
  | .str s, v, h => by
    cases v <;> simp only [kOk, Bool.false_eq_true, decide_eq_true_eq] at h
    exact .str _ _ h
  | .agg cs, v, h => by
    cases v <;> simp only [kOk, Bool.false_eq_true, Bool.and_eq_true] at h
    rename_i vs
    exact .agg cs vs.toList h.2 (kOks_vr cs vs.toList h.1)
  | .sl o xs, v, h => by
    unfold kOk at h
    split at h <;> simp_all
    exact .sl0t none
  | .nptr, v, h => by
    unfold kOk at h
    split at h <;> simp_all
    exact .nptr
  | .nfn, v, h => by
    unfold kOk at h
    split at h <;> simp_all
    exact .nfn
  | .nifc, v, h => by
    unfold kOk at h
    split at h <;> simp_all
    exact .nifc
  | .nmap, v, h => by
    unfold kOk at h
    split at h <;> simp_all
    exact .nmap
  | .fn f x y, v, h => by
    unfold kOk at h
    split at h <;> simp_all
    exact .fn _ [] [] [] [] .nil .nil
  | .undef, v, h => by simp [kOk] at h
  | .tup _, v, h => by simp [kOk] at h
  | .cptr _, v, h => by simp [kOk] at h
  | .lptr _ _, v, h => by simp [kOk] at h
  | .hptr _ _, v, h => by simp [kOk] at h
  | .hsl _ _ _ _, v, h => by simp [kOk] at h
  | .yld _, v, h => by simp [kOk] at h
  | .ifc _ _, v, h => by simp [kOk] at h
  | .cmap _, v, h => by simp [kOk] at h
  | .hmap _, v, h => by simp [kOk] at h
theorem kOks_vr : ∀ (cs : List AV) (vs : List Value), kOks cs vs = true → VRs G cs vs
  | [], [], _ => .nil
  | [], _ :: _, h => by simp [kOks] at h
  | _ :: _, [], h => by simp [kOks] at h
  | c :: cs, v :: vs, h => by
    simp only [kOks, Bool.and_eq_true] at h
    exact .cons c v cs vs (kOk_vr c v h.1) (kOks_vr cs vs h.2)
end

def odOk : Operand → AO → Bool
  | .tmp t, .t i => Nat.beq t i
  | .tmp t, .tk i => Nat.beq t i
  | .const v, .k c => kOk c v
  | .global g, .g i => Nat.beq g i
  | .func f, .k (.fn g [] []) => Nat.beq f g
  | _, _ => false

/-- an operand's value -/
theorem ev_o (hs : SR CO C N G w s a) {x : Operand} {ax : AO} (hx : odOk x ax = true) (hn : Env.o C s.e ax ≠ .undef) : VT G (Env.o C s.e ax) (a.eval x) := by
  unfold odOk at hx
  split at hx
  · rename_i t i
    have := Nat.eq_of_beq_eq_true hx; subst this
    have hne : s.e.get t ≠ .undef := by
      intro h; apply hn; simp only [Env.o, h]; rfl
    have h := (hs.env t hne).1
    simp only [Env.o, Act.eval]
    unfold VT at h
    split at h
    · rename_i he
      simp only [he, AV.clr, VT]; exact h
    · exact VT.of h.clr
  · rename_i t i
    have := Nat.eq_of_beq_eq_true hx; subst this
    exact (hs.env t (by simpa only [Env.o] using hn)).1
  · exact VT.of (kOk_vr _ _ hx)
  · rename_i g i
    have := Nat.eq_of_beq_eq_true hx; subst this
    exact VT.of (hs.gl g (by simpa only [Env.o] using hn))
  · rename_i f g
    have := Nat.eq_of_beq_eq_true hx; subst this
    exact VT.of (.fn f [] [] [] [] .nil .nil)
  · cases hx
theorem AV.clr_undef {v : AV} : v.clr = .undef ↔ v = .undef := by
  unfold AV.clr; split <;> simp
theorem ev_v (hs : SR CO C N G w s a) {x : Operand} {ax : AO} (hx : odOk x ax = true) (hn : Env.v C s.e ax ≠ .undef) : VT G (Env.v C s.e ax) (a.eval x) := by
  have h := ev_o hs hx (fun h => hn (by simp only [Env.v, h]; rfl))
  unfold Env.v
  unfold VT at h
  split at h
  · rename_i he
    simp only [he, AV.clr, VT]; exact h
  · exact VT.of h.clr
/-- .. that is no pointer to a local block -/
theorem ev_ok (hs : SR CO C N G w s a) {x : Operand} {ax : AO} (hx : odOk x ax = true) (hn : (Env.v C s.e ax).ok = true) : VR G (Env.v C s.e ax) (a.eval x) :=
  (ev_v hs hx (by intro h; rw [h] at hn; cases hn)).vr (by intro i o h; rw [h] at hn; cases hn)
theorem ev_eq (hs : SR CO C N G w s a) {x : Operand} {ax : AO} (hx : odOk x ax = true) {c : AV} (he : Env.v C s.e ax = c) (h1 : c ≠ .undef) (h2 : ∀ i o, c ≠ .lptr i o) : VR G c (a.eval x) := by
  subst he
  exact (ev_v hs hx h1).vr h2

/-! ### rights to grow -/
def Gho.mv (G : Gho) (p q : Pl) : Gho := { G with role := fun k => if G.role k = .tail p then .tail q else G.role k }

theorem Gho.mv_gle (p q : Pl) : GLe G (G.mv p q) := ⟨fun _ _ _ h => h, fun _ _ h => h, fun b i h => by simp [Gho.mv, h]⟩
theorem Gho.mv_le (p q : Pl) : Le G w (G.mv p q) w :=
  ⟨Gho.mv_gle p q, Nat.le_refl _, rfl, rfl, rfl, fun k _ h => ⟨rfl, by simp [Gho.mv, h]⟩, fun b o v h k => (by simp only [Gho.mv] at h; rw [h] at k; cases k), rfl, fun _ _ h => h⟩
theorem Gho.mv_keep (p q : Pl) : Keep (fun k => G.role k = .tail p) G w (G.mv p q) w :=
  ⟨Gho.mv_gle p q, fun _ _ _ => rfl, fun _ _ _ _ => rfl, fun k _ h => by simp [Gho.mv, h]⟩
theorem Gho.mv_loc {p q : Pl} {k i : Nat} : (G.mv p q).role k = .loc i ↔ G.role k = .loc i := by
  simp only [Gho.mv]
  split
  · rename_i h; simp [h]
  · rfl
theorem Gho.mv_heap {p q : Pl} {k i : Nat} : (G.mv p q).role k = .heap i ↔ G.role k = .heap i := by
  simp only [Gho.mv]
  split
  · rename_i h; simp [h]
  · rfl
theorem Gho.mv_none {p q : Pl} {k : Nat} : (G.mv p q).role k = .none ↔ G.role k = .none := by
  simp only [Gho.mv]
  split
  · rename_i h; simp [h]
  · rfl
theorem Own.mv {p q : Pl} {c : AV} {v : Value} (h : Own G w p c v) : Own (G.mv p q) w q c v := by
  intro x xs hc a n cap hv
  rcases h x xs hc a n cap hv with h | ⟨hr, rest⟩
  · exact .inl h
  · exact .inr ⟨by simp [Gho.mv, hr], rest⟩

theorem StRel.mv {h : List Blk} (hs : StRel CO G h w) {p q : Pl} (hp : ∀ i j, p ≠ .hc i j) : StRel CO (G.mv p q) h w where
  con := hs.con
  obj := hs.obj
  lt b hb := hs.lt b (fun h => hb (Gho.mv_none.2 h))
  sep b := ⟨fun i hi => (hs.sep b).1 i (Gho.mv_heap.1 hi), fun i hi => (hs.sep b).2 i (Gho.mv_loc.1 hi)⟩
  heap b i hi := by
    obtain ⟨blk, o, h1, h2, h3⟩ := hs.heap b i (Gho.mv_heap.1 hi)
    exact ⟨blk, o, h1, h2, h3.keep (Gho.mv_keep p q) hs.lt fun j k hk h => hp i j (by rw [h] at hk; injection hk with hk)⟩
  uniq b b' i hi hi' := hs.uniq b b' i (Gho.mv_heap.1 hi) (Gho.mv_heap.1 hi')

theorem LocRel.mv {l : Loc} (hs : LocRel G w l) (hl : ∀ k, G.role k ≠ .none → k < w.heap.size) {p q : Pl} (hp : ∀ i j, p ≠ .lc i j) : LocRel (G.mv p q) w l where
  get i cs h := by
    obtain ⟨k, arr, e, h1, h2, h3⟩ := hs.get i cs h
    exact ⟨k, arr, e, Gho.mv_loc.2 h1, h2, h3.keep (Gho.mv_keep p q) hl fun j k hk h => hp i j (by rw [h] at hk; injection hk with hk)⟩
  uniq b b' i hi hi' := hs.uniq b b' i (Gho.mv_loc.1 hi) (Gho.mv_loc.1 hi')
  some b i hi := hs.some b i (Gho.mv_loc.1 hi)

theorem DR.mv {d : List (AV × List AV)} {ds : List Deferred} (h : DR G w d ds) {p q : Pl} : DR (G.mv p q) w d ds :=
  h.keep (Gho.mv_gle p q) rfl fun _ _ h => ⟨rfl, Gho.mv_none.2 h⟩

theorem Env.get_cons (e : Env) (t i : Nat) (v : AV) : Env.get ((t, v) :: e) i = if t = i then v else e.get i := by
  simp only [Env.get]
  by_cases h : t = i
  · subst h; simp
  · have : Nat.beq t i = false := by
      cases hb : Nat.beq t i
      · rfl
      · exact absurd (Nat.eq_of_beq_eq_true hb) h
    simp [this, h]

/-- the right to grow is taken out of a temporary -/
theorem SR.take (hs : SR CO C N G w s a) (i : Nat) (hn : s.e.get i ≠ .undef) :
    SR CO C N (G.mv (.tmp i) .out) w { s with e := (i, (s.e.get i).clr) :: s.e } a ∧ VT (G.mv (.tmp i) .out) (s.e.get i) (a.tmps.getD i undef) ∧
      Own (G.mv (.tmp i) .out) w .out (s.e.get i) (a.tmps.getD i undef) := by
  obtain ⟨h1, h2⟩ := hs.env i hn
  refine ⟨⟨hs.st.mv (by simp), fun t ht => ?_, hs.loc.mv hs.st.lt (by simp), hs.dr.mv, hs.size, fun g hg => (hs.gl g hg).mono (Gho.mv_gle _ _)⟩, h1.mono (Gho.mv_gle _ _) (fun k i h => Gho.mv_loc.2 h), h2.mv⟩
  rw [Env.get_cons] at ht ⊢
  split at ht
  · rename_i he
    subst he
    simp only [if_true]
    refine ⟨?_, Own.of_clr⟩
    have h1' := h1.mono (Gho.mv_gle (.tmp i) .out) (fun k i h => Gho.mv_loc.2 h)
    unfold VT at h1'
    split at h1'
    · rename_i he; simp only [he, AV.clr, VT]; exact h1'
    · exact VT.of h1'.clr
  · rename_i he
    simp only [he, if_false]
    obtain ⟨k1, k2⟩ := hs.env t ht
    exact ⟨k1.mono (Gho.mv_gle _ _) (fun k i h => Gho.mv_loc.2 h), k2.keep (Gho.mv_keep _ _) hs.st.lt fun k hk h => he (by rw [h] at hk; injection hk with hk; injection hk)⟩

theorem tmps_set {tmps : Array Value} {t t' : Nat} {v : Value} (ht : t < tmps.size) : (tmps.setIfInBounds t v).getD t' undef = if t = t' then v else tmps.getD t' undef := by
  by_cases h : t = t'
  · subst h; simp [ht]
  · simp [h, Array.getElem?_setIfInBounds_ne h]

/-- a value is put into a temporary -/
theorem SR.putT (hs : SR CO C N G w s a) {t : Nat} (ht : t < N) {v : AV} {cv : Value} (hv : v ≠ .undef → VT G v cv) (ho : v ≠ .undef → Own G w .out v cv) :
    SR CO C N (G.mv .out (.tmp t)) w { s with e := (t, v) :: s.e } { a with tmps := a.tmps.setIfInBounds t cv } := by
  refine ⟨hs.st.mv (by simp), fun t' ht' => ?_, hs.loc.mv hs.st.lt (by simp), hs.dr.mv, by simpa using hs.size, fun g hg => (hs.gl g hg).mono (Gho.mv_gle _ _)⟩
  simp only [tmps_set (by rw [hs.size]; exact ht)]
  rw [Env.get_cons] at ht' ⊢
  split at ht'
  · rename_i he
    subst he
    simp only [if_true]
    exact ⟨(hv ht').mono (Gho.mv_gle _ _) (fun k i h => Gho.mv_loc.2 h), (ho ht').mv⟩
  · rename_i he
    simp only [he, if_false]
    obtain ⟨k1, k2⟩ := hs.env t' ht'
    exact ⟨k1.mono (Gho.mv_gle _ _) (fun k i h => Gho.mv_loc.2 h), k2.keep (Gho.mv_keep _ _) hs.st.lt fun k hk h => by rw [h] at hk; injection hk with hk; cases hk⟩
theorem SR.put (hs : SR CO C N G w s a) {d : Option Nat} (ht : ∀ t, d = some t → t < N) {v : AV} {cv : Value} (hv : v ≠ .undef → VT G v cv) (ho : v ≠ .undef → Own G w .out v cv) :
    ∃ G', SR CO C N G' w (s.put d v) (a.put d cv) ∧ Le G w G' w := by
  cases d with
  | none => exact ⟨G, hs, .refl _ _⟩
  | some t => exact ⟨_, hs.putT (ht t rfl) hv ho, Gho.mv_le _ _⟩
end Go.Lt
namespace Go.Lt
open Go
variable {CO : Nat → Code → AC → Prop} {C : Cfg} {N : Nat} {G : Gho} {w w' : World} {s : St} {a : Act}

theorem beq_iff {i j : Nat} : Nat.beq i j = true ↔ i = j := ⟨Nat.eq_of_beq_eq_true, fun h => by subst h; simp⟩
theorem beq_false {i j : Nat} : Nat.beq i j = false ↔ i ≠ j := by
  constructor
  · intro h e; rw [beq_iff.2 e] at h; cases h
  · intro h
    cases hb : Nat.beq i j
    · rfl
    · exact absurd (beq_iff.1 hb) h

theorem Loc.get_set (l : Loc) (i j : Nat) (cs : List AV) : (l.set i cs).get j = if i = j then some cs else l.get j := by
  induction l with
  | nil =>
    simp only [Loc.set, Loc.get]
    by_cases h : i = j
    · simp [h]
    · simp [h, beq_false.2 h]
  | cons p l ih =>
    obtain ⟨k, v⟩ := p
    simp only [Loc.set]
    by_cases hk : k = i
    · subst hk
      simp only [beq_iff.2, Loc.get]
      by_cases h : k = j
      · simp [h]
      · simp [h, beq_false.2 h]
    · simp only [beq_false.2 hk]
      split
      · rw [Loc.get]
        by_cases h : i = j
        · simp [h]
        · simp [h, beq_false.2 h]
      · simp only [Loc.get, ih]
        by_cases h : k = j
        · subst h
          simp [Ne.symm hk]
        · simp [beq_false.2 h]
theorem Loc.set_comm {i j : Nat} (h : i < j) (a b : List AV) (l : Loc) : (l.set i a).set j b = (l.set j b).set i a := by
  have hij : ¬ i = j := by omega
  have hji : ¬ j = i := by omega
  have b1 : Nat.blt i j = true := by simpa using h
  have b2 : Nat.blt j i = false := by
    cases hb : Nat.blt j i with
    | false => rfl
    | true => have : j < i := by simpa using hb
              omega
  induction l with
  | nil => simp only [Loc.set, beq_false.2 hij, beq_false.2 hji, b1, b2]
  | cons p l ih =>
    obtain ⟨k, v⟩ := p
    by_cases hk : k = i
    · subst hk
      simp only [Loc.set, beq_iff.2, beq_false.2 hij, b2]
    · by_cases hk' : k = j
      · subst hk'
        simp only [Loc.set, beq_iff.2, beq_false.2 hji, b1, b2, beq_false.2 hij]
      · simp only [Loc.set, beq_false.2 hk, beq_false.2 hk']
        cases c1 : Nat.blt i k with
        | true =>
          cases c2 : Nat.blt j k with
          | true => simp only [Loc.set, beq_false.2 hij, b2, beq_false.2 hk', c2, beq_false.2 hji, b1]
          | false => simp only [Loc.set, beq_false.2 hij, b2, beq_false.2 hk', c2, beq_false.2 hk, c1]
        | false =>
          cases c2 : Nat.blt j k with
          | true =>
            exfalso
            have e1 : j < k := by simpa using c2
            have e2 : ¬ i < k := by
              intro hlt
              have : Nat.blt i k = true := by simpa using hlt
              rw [this] at c1; cases c1
            omega
          | false => simp only [Loc.set, beq_false.2 hk, beq_false.2 hk', c1, c2, ih]
theorem AV.isL_iff {i : Nat} {v : AV} : v.isL i = true ↔ ∃ o, v = .lptr i o := by
  cases v <;> simp [AV.isL]

theorem Env.get_purge (e : Env) (i t : Nat) : (e.purge i).get t = match (e.get t).isL i with | true => .undef | false => e.get t := by
  induction e with
  | nil => simp [Env.purge, Env.get, AV.isL]
  | cons p e ih =>
    obtain ⟨k, v⟩ := p
    simp only [Env.purge, List.map_cons] at ih ⊢
    by_cases hk : k = t
    · subst hk
      cases hv : v.isL i <;> simp [Env.get, hv]
    · cases hv : v.isL i <;> simp only [Env.get, beq_false.2 hk] <;> exact ih

/-- the ghost with a new local block: an elder one of the same place is forgotten -/
def Gho.addLoc (G : Gho) (n i : Nat) : Gho :=
  { con := fun b o => if b = n then none else G.con b o, obj := fun b => if b = n then none else G.obj b, role := fun b => if b = n then .loc i else if G.role b = .loc i then .none else G.role b, mrk := G.mrk }

theorem SR.locNew (hs : SR CO C N G w s a) {arr : Array Value} {e : TypeId} (hw : w'.heap = w.heap.push (.cells arr e (0, 0))) (ho : w'.os = w.os) (hu : w'.output = w.output) (ht : w'.tape = w.tape) (i : Nat) (z : List AV)
    (hz : ∀ G' w', GLe G G' → CR G' w' (.lc i) z arr) :
    SR CO C N (G.addLoc w.heap.size i) w' { s with e := s.e.purge i, l := s.l.set i z } a ∧ Le G w (G.addLoc w.heap.size i) w' ∧ (G.addLoc w.heap.size i).role w.heap.size = .loc i := by
  obtain ⟨f1, f2, f3⟩ := hs.st.fresh
  have hgle : GLe G (G.addLoc w.heap.size i) := by
    refine ⟨fun b o v hc => ?_, fun b x hx => ?_, fun b j hj => ?_⟩ <;> simp only [Gho.addLoc]
    · rw [if_neg]; exact hc
      rintro rfl; rw [f1] at hc; cases hc
    · rw [if_neg]; exact hx
      rintro rfl; rw [f2] at hx; cases hx
    · rw [if_neg, if_neg]; exact hj
      · rw [hj]; simp
      · rintro rfl; rw [f3] at hj; cases hj
  have hl := hs.st.lt
  -- all old blocks but the elder one of this place
  have hk : Keep (fun k => G.role k = .loc i) G w (G.addLoc w.heap.size i) w' := by
    refine ⟨hgle, fun k h _ => push_old hw h, fun k o h _ => by simp [Gho.addLoc, Nat.ne_of_lt h], fun k h h2 => ?_⟩
    simp only [Gho.addLoc]
    rw [if_neg (Nat.ne_of_lt h), if_neg h2]
  have hrl : ∀ k j, j ≠ i → G.role k = .loc j → (G.addLoc w.heap.size i).role k = .loc j := fun k j hj h => by
    have := hl k (by rw [h]; simp)
    simp only [Gho.addLoc]
    rw [if_neg (Nat.ne_of_lt this), if_neg (by rw [h]; simpa using hj)]; exact h
  have hrl' : ∀ k j, j ≠ i → (G.addLoc w.heap.size i).role k = .loc j → G.role k = .loc j := fun k j hj h => by
    simp only [Gho.addLoc] at h
    split at h
    · simp only [Role.loc.injEq] at h; exact absurd h.symm hj
    · split at h
      · cases h
      · exact h
  have hri : ∀ k, (G.addLoc w.heap.size i).role k = .loc i → k = w.heap.size := fun k h => by
    simp only [Gho.addLoc] at h
    split at h
    · assumption
    · split at h
      · cases h
      · rename_i h1 h2; exact absurd h h2
  have hheap : ∀ b j, (G.addLoc w.heap.size i).role b = .heap j → G.role b = .heap j := fun b j h => by
    simp only [Gho.addLoc] at h
    split at h
    · cases h
    · split at h
      · cases h
      · exact h
  refine ⟨⟨⟨fun b o v hc => ?_, fun b x hx => ?_, fun b hb => ?_, fun b => ⟨fun j hj => ?_, fun j hj => ?_⟩, fun b j hj => ?_, fun b b' j hj hj' => ?_⟩, fun t htt => ?_, ⟨fun j cs h => ?_, fun b b' j h h' => ?_, fun b j h => ?_⟩, ?_, hs.size, fun g hg => (hs.gl g hg).mono hgle⟩,
    ⟨hgle, by rw [hw]; simp, ho, hu, ht, fun k h1 h2 => ⟨push_old hw h1, ?_⟩, fun b o v hc hn => ?_, rfl, fun b x hx => (by
      simp only [Gho.addLoc] at hx
      split at hx
      · cases hx
      · exact hx)⟩, by simp [Gho.addLoc]⟩
  · simp only [Gho.addLoc] at hc
    split at hc
    · cases hc
    · have h := hs.st.con b o v hc
      have hlt := World.block_lt_of_cell? w _ h
      rw [cell_same (push_old hw hlt)]; exact h
  · simp only [Gho.addLoc] at hx
    split at hx
    · cases hx
    · have h := hs.st.obj b x hx
      have hlt := (Array.getElem?_eq_some_iff.1 h).1
      rw [push_old hw hlt]; exact h
  · rw [hw]
    simp only [Array.size_push]
    simp only [Gho.addLoc] at hb
    split at hb
    · omega
    · split at hb
      · exact absurd rfl hb
      · have := hl b hb; omega
  · have hj' := hheap b j hj
    have hb : b ≠ w.heap.size := by rintro rfl; rw [f3] at hj'; cases hj'
    simp only [Gho.addLoc, hb, if_false]
    exact (hs.st.sep b).1 j hj'
  · by_cases hji : j = i
    · subst hji
      have := hri b hj
      subst this
      simp [Gho.addLoc]
    · have hj' := hrl' b j hji hj
      have hb : b ≠ w.heap.size := by rintro rfl; rw [f3] at hj'; cases hj'
      simp only [Gho.addLoc, hb, if_false]
      exact (hs.st.sep b).2 j hj'
  · obtain ⟨blk, o, k1, k2, k3⟩ := hs.st.heap b j (hheap b j hj)
    have hlt := hl b (by rw [hheap b j hj]; simp)
    exact ⟨blk, o, k1, (push_old hw hlt).trans k2, k3.keep hk hl fun _ k h h' => by rw [h'] at h; cases h⟩
  · exact hs.st.uniq b b' j (hheap b j hj) (hheap b' j hj')
  · rw [Env.get_purge] at htt ⊢
    cases hL : (s.e.get t).isL i with
    | true => rw [hL] at htt; exact absurd rfl htt
    | false =>
      rw [hL] at htt
      obtain ⟨k1, k2⟩ := hs.env t htt
      refine ⟨?_, k2.keep hk hl fun k h h' => by rw [h'] at h; cases h⟩
      unfold VT at k1 ⊢
      split at k1
      · rename_i j o he
        obtain ⟨k, hk1, hk2⟩ := k1
        have hji : j ≠ i := by
          rintro rfl
          rw [he] at hL
          simp [AV.isL] at hL
        simp only [he]
        exact ⟨k, hrl k j hji hk1, hk2⟩
      · rename_i hne
        exact k1.mono hgle
  · rw [Loc.get_set] at h
    split at h
    · rename_i hij
      subst hij
      cases h
      exact ⟨w.heap.size, arr, e, by simp [Gho.addLoc], push_new hw, hz _ _ hgle⟩
    · rename_i hij
      obtain ⟨k, arr', e', h1, h2, h3⟩ := hs.loc.get j cs h
      have hlt := hl k (by rw [h1]; simp)
      exact ⟨k, arr', e', hrl k j (Ne.symm hij) h1, (push_old hw hlt).trans h2, h3.keep hk hl fun _ k h h' => by rw [h'] at h; cases h⟩
  · by_cases hji : j = i
    · subst hji
      rw [hri b h, hri b' h']
    · exact hs.loc.uniq b b' j (hrl' b j hji h) (hrl' b' j hji h')
  · rw [Loc.get_set]
    split
    · rfl
    · rename_i hij
      exact hs.loc.some b j (hrl' b j (Ne.symm hij) h)
  · exact hs.dr.keep hgle rfl fun r h1 h2 => ⟨push_old hw h1, by simp [Gho.addLoc, Nat.ne_of_lt h1, h2]⟩
  · simp [Gho.addLoc, Nat.ne_of_lt h1, h2]
  · simp only [Gho.addLoc] at hc
    split at hc
    · cases hc
    · rw [hn] at hc; cases hc

/-! ### cells written in a block that is the abstract machine's own -/
theorem setRow_keep {k : Nat} (arr : Array Value) : Keep (fun b => b = k) G w G (w.setRow k arr) :=
  ⟨.refl G, fun b _ h => setRow_other w k b arr h, fun _ _ _ _ => rfl, fun _ _ _ => rfl⟩

theorem SR.setRow_le {k : Nat} (arr : Array Value) (hr : G.role k ≠ .none) : Le G w G (w.setRow k arr) :=
  ⟨.refl G, by simp, rfl, rfl, rfl, fun b _ h => ⟨setRow_other w k b arr (by rintro rfl; exact hr h), h⟩, fun b o v h1 h2 => (by rw [h2] at h1; cases h1), rfl, fun _ _ h => h⟩

/-- what is constant lies elsewhere -/
theorem StRel.con_setRow {h : List Blk} (hs : StRel CO G h w) {k : Nat} {arr : Array Value} (hc : ∀ o, G.con k o = none) (ho : G.obj k = none) :
    (∀ b o v, G.con b o = some v → (w.setRow k arr).cell? ⟨b, o, none⟩ = some v) ∧ (∀ b x, G.obj b = some x → (w.setRow k arr).heap[b]? = some (.map x.1 x.2)) := by
  refine ⟨fun b o v h => ?_, fun b x h => ?_⟩
  · have hb : b ≠ k := by rintro rfl; rw [hc] at h; cases h
    rw [cell_same (setRow_other w k b arr hb)]; exact hs.con b o v h
  · have hb : b ≠ k := by rintro rfl; rw [ho] at h; cases h
    rw [setRow_other w k b arr hb]; exact hs.obj b x h

theorem SR.setLoc (hs : SR CO C N G w s a) {i k : Nat} {old arr : Array Value} {e : TypeId} {cs : List AV} (hr : G.role k = .loc i) (hk : w.heap[k]? = some (.cells old e (0, 0))) (hcr : CR G w (.lc i) cs arr) :
    SR CO C N G (w.setRow k arr) { s with l := s.l.set i cs } a := by
  have hK := setRow_keep (G := G) (w := w) (k := k) arr
  have hl := hs.st.lt
  obtain ⟨c1, c2⟩ := hs.st.con_setRow (arr := arr) ((hs.st.sep k).2 i hr).1 ((hs.st.sep k).2 i hr).2
  have htl : ∀ p b, G.role b = .tail p → ¬ b = k := fun p b h e => by subst e; rw [hr] at h; cases h
  refine ⟨⟨c1, c2, fun b hb => by simpa using hl b hb, hs.st.sep, fun b j hj => ?_, hs.st.uniq⟩, hs.env.keep hK hl (fun _ => htl _) (fun _ _ h => h), ⟨fun j ds h => ?_, hs.loc.uniq, fun b j h => ?_⟩, ?_, hs.size, hs.gl⟩
  · obtain ⟨blk, o, k1, k2, k3⟩ := hs.st.heap b j hj
    have hb : b ≠ k := by rintro rfl; rw [hr] at hj; cases hj
    exact ⟨blk, o, k1, (setRow_other w k b arr hb).trans k2, k3.keep hK hl fun _ => htl _⟩
  · rw [Loc.get_set] at h
    split at h
    · rename_i hij; subst hij; cases h
      exact ⟨k, arr, e, hr, setRow_heap w k old arr e (0, 0) hk, hcr.keep hK hl fun _ => htl _⟩
    · rename_i hij
      obtain ⟨k', arr', e', h1, h2, h3⟩ := hs.loc.get j ds h
      have hb : k' ≠ k := by
        rintro rfl
        rw [hr] at h1
        exact hij (by injection h1)
      exact ⟨k', arr', e', h1, (setRow_other w k k' arr hb).trans h2, h3.keep hK hl fun _ => htl _⟩
  · rw [Loc.get_set]
    split
    · rfl
    · exact hs.loc.some b j h
  · exact hs.dr.keep (.refl G) rfl fun r _ h2 => ⟨setRow_other w k r arr (by rintro rfl; rw [hr] at h2; cases h2), h2⟩

theorem SR.setHeap (hs : SR CO C N G w s a) {i k : Nat} {old arr : Array Value} {e : TypeId} {cs : List AV} (hr : G.role k = .heap i) {cs0 : List AV} (hi0 : s.h[i]? = some (.cells cs0)) (hk : w.heap[k]? = some (.cells old e (0, 0))) (hcr : CR G w (.hc i) cs arr) :
    SR CO C N G (w.setRow k arr) { s with h := s.h.set i (.cells cs) } a := by
  have hK := setRow_keep (G := G) (w := w) (k := k) arr
  have hl := hs.st.lt
  have hsep : (∀ o, G.con k o = none) ∧ G.obj k = none := by
    rcases (hs.st.sep k).1 i hr with hd | hd
    · rw [hi0] at hd; cases hd
    · exact hd
  obtain ⟨c1, c2⟩ := hs.st.con_setRow (arr := arr) hsep.1 hsep.2
  have htl : ∀ p b, G.role b = .tail p → ¬ b = k := fun p b h e => by subst e; rw [hr] at h; cases h
  refine ⟨⟨c1, c2, fun b hb => by simpa using hl b hb, fun b => ⟨fun j hj => ?_, (hs.st.sep b).2⟩, fun b j hj => ?_, hs.st.uniq⟩, hs.env.keep hK hl (fun _ => htl _) (fun _ _ h => h), ⟨fun j ds h => ?_, hs.loc.uniq, hs.loc.some⟩, ?_, hs.size, hs.gl⟩
  · by_cases hij : i = j
    · subst hij
      rw [hs.st.uniq b k i hj hr]
      exact .inr hsep
    · rcases (hs.st.sep b).1 j hj with hd | hd
      · exact .inl (by simpa [List.getElem?_set, hij] using hd)
      · exact .inr hd
  · obtain ⟨blk, o, k1, k2, k3⟩ := hs.st.heap b j hj
    by_cases hb : b = k
    · subst hb
      rw [hr] at hj
      injection hj with hj
      subst hj
      have hlt := (List.getElem?_eq_some_iff.1 k1).1
      exact ⟨.cells cs, _, by simp [hlt], setRow_heap w b old arr e (0, 0) hk, rfl, hcr.keep hK hl fun _ => htl _⟩
    · have hij : i ≠ j := by rintro rfl; exact hb (hs.st.uniq b k i hj hr)
      exact ⟨blk, o, by simpa [List.getElem?_set, hij] using k1, (setRow_other w k b arr hb).trans k2, k3.keep hK hl fun _ => htl _⟩
  · obtain ⟨k', arr', e', h1, h2, h3⟩ := hs.loc.get j ds h
    have hb : k' ≠ k := by rintro rfl; rw [hr] at h1; cases h1
    exact ⟨k', arr', e', h1, (setRow_other w k k' arr hb).trans h2, h3.keep hK hl fun _ => htl _⟩
  · exact hs.dr.keep (.refl G) rfl fun r _ h2 => ⟨setRow_other w k r arr (by rintro rfl; rw [hr] at h2; cases h2), h2⟩
end Go.Lt
namespace Go.Lt
open Go
variable (P : Program)

def shOk (t : TypeId) (sh : Option Nat) : Bool :=
  match P.underlying t, P.info? t, sh with
  | some (.struct _), some i, some n => Nat.beq i.size n
  | some (.array _ _), some i, some n => Nat.beq i.size n
  | some (.struct _), some _, none => false
  | some (.array _ _), some _, none => false
  | some _, some _, none => true
  | _, _, _ => false

def zOk (t : TypeId) (z : List AV) : Bool :=
  match P.info? t with
  | some i => match i.zero with
    | some v => kOks z v.cells.toList && allLeaf z
    | none => false
  | none => false

def zvOk (t : TypeId) (z : AV) : Bool :=
  match P.info? t with
  | some i => match i.zero with
    | some v => kOk z v && z.ok
    | none => false
  | none => false

def sizeIs (t : TypeId) (n : Nat) : Bool :=
  match P.info? t with
  | some i => Nat.beq i.size n
  | none => false

def odsOk : List Operand → List AO → Bool
  | [], [] => true
  | x :: xs, y :: ys => odOk x y && odsOk xs ys
  | _, _ => false

def placesOf (fs : List Field) : Option (List (Nat × Nat)) := fs.mapM fun f => (P.info? f.type).map fun i => (f.offset, i.size)
def partsOk (pl : List (Nat × Nat)) : List (Nat × Operand) → List (Nat × Nat × AO) → Bool
  | [], [] => true
  | (i, x) :: r, (off, size, y) :: q => (match pl[i]? with
    | some f => Nat.beq f.1 off && Nat.beq f.2 size
    | none => false) && odOk x y && partsOk pl r q
  | _, _ => false
def partsOkA (es : Nat) : List (Nat × Operand) → List (Nat × Nat × AO) → Bool
  | [], [] => true
  | (i, x) :: r, (off, size, y) :: q => Nat.beq (i * es) off && Nat.beq size es && odOk x y && partsOkA es r q
  | _, _ => false
def partsOkS : List (Nat × Operand) → List (Nat × AO) → Bool
  | [], [] => true
  | (i, x) :: r, (j, y) :: q => Nat.beq i j && odOk x y && partsOkS r q
  | _, _ => false

def optOk : Option Operand → Option AO → Bool
  | none, none => true
  | some x, some y => odOk x y
  | _, _ => false

def keyTy (t : TypeId) (c : Nat) : Bool :=
  match P.underlying t with
  | some .string => Nat.beq c 0
  | some (.int _) => Nat.beq c 1
  | _ => false

/-- a struct of plain cells: compared cell by cell -/
def plainEq : Nat → TypeId → Bool
  | 0, _ => false
  | d + 1, t => match P.underlying t with
    | some .bool => true
    | some (.int _) => true
    | some .string => true
    | some (.struct fs) => !P.stoodInHeld t && fs.toList.all fun f => f.name != "_" && plainEq d f.type
    | _ => false

/-- a struct of numbers, strings, bools: compared cell by cell -/
def fieldsOk : List Field → List Nat → Nat → Bool
  | [], [], _ => true
  | f :: r, k :: ks, i => f.name != "_" && Nat.beq f.offset i && (match P.underlying f.type, k with
    | some (.int _), 0 => true
    | some .string, 1 => true
    | some .bool, 2 => true
    | _, _ => false) && fieldsOk r ks (i + 1)
  | _, _, _ => false
def eqsOk (t : TypeId) (ks : List Nat) : Bool :=
  !P.stoodInHeld t && !P.eqGuardType P.depth t && match P.underlying t with
    | some (.struct fs) => fieldsOk P fs.toList ks 0
    | _ => false

def eqOk (c : Nat) (t : TypeId) (x y : Operand) : Bool :=
  match c with
  | 0 => true
  | 1 => match P.underlying t with
    | some .bool => true
    | _ => false
  | 2 => match P.underlying t with
    | some (.pointer _) => true
    | _ => false
  | 3 => match P.underlying t with
    | some (.func ..) => true
    | _ => false
  | 4 => match P.underlying t with
    | some (.interface _) => (match x with | .const _ => true | _ => false) || (match y with | .const _ => true | _ => false)
    | _ => false
  | _ => false

/-- a function without a body -/
def xfn (f : Nat) (name : String) : Bool :=
  match P.funcs[f]? with
  | some fn => fn.body.isNone && fn.name == name && fn.origin == ""
  | none => false

def opOk (o : Op) (ao : AOp) : Bool :=
  match o, ao with
  | .move x, .mv y => odOk x y
  | .assign x, .mv y => odOk x y
  | .pick c x y, .pick c' x' y' => odOk c c' && odOk x x' && odOk y y'
  | .alloc t, .allocL _ z => zOk P t z
  | .alloc t, .allocH z => zOk P t z
  | .box _ x, .boxC y => odOk x y
  | .box _ x, .boxL _ y => odOk x y
  | .box _ x, .boxH y => odOk x y
  | .build t ps, .build z qs => zOk P t z && match P.underlying t with
    | some (.struct fs) => match placesOf P fs.toList with
      | some pl => partsOk pl ps.toList qs
      | none => false
    | some (.array _ e) => match P.info? e with
      | some i => partsOkA i.size ps.toList qs
      | none => false
    | _ => false
  | .buildSlice t n ps, .bsl n' es z qs => match P.underlying t with
    | some (.slice e) => sizeIs P e es && zvOk P e z && Nat.beq n n' && partsOkS ps.toList qs && Nat.ble (n * es) 16777216 && Nat.blt 0 es
    | _ => false
  | .load t x, .ldC sh y => shOk P t sh && odOk x y
  | .load t x, .ldL sh y tk => shOk P t sh && odOk x y && (!tk || sh.isNone)
  | .load t x, .ldH sh y tk => shOk P t sh && odOk x y && (!tk || sh.isNone)
  | .store t x v, .stL n y u => sizeIs P t n && odOk x y && odOk v u
  | .store t x v, .stH n y u => sizeIs P t n && odOk x y && odOk v u
  | .nilCheck x, .nilck y => odOk x y
  | .binOp op t x y _, .bin c op' x' y' => decide (op = op') && odOk x x' && odOk y y' && match op with
    | .eql => eqOk P c t x y
    | .neq => eqOk P c t x y
    | _ => true
  | .unOp op _ x, .un op' y => decide (op = op') && odOk x y
  | .convert s t x, .cvI k y => odOk x y && (P.underlying s).isSome && match P.underlying t with
    | some (.int k') => decide (k = k')
    | _ => false
  | .convert s t x, .s2b y => odOk x y && (P.underlying s).isSome && match P.underlying t with
    | some (.slice e) => match P.underlying e with
      | some (.int .u8) => true
      | _ => false
    | _ => false
  | .makeInterface t x, .ifc t' y => Nat.beq t t' && odOk x y && match P.underlying t with
    | some (.interface _) => false
    | some _ => true
    | none => false
  | .makeFunc (.func f) xs ys, .mkfn g as bs => Nat.beq f g && odsOk xs.toList as && odsOk ys.toList bs
  | .fieldAddr t x i, .fad off y => odOk x y && match P.underlying t with
    | some (.struct fs) => match fs[i]? with
      | some f => Nat.beq f.offset off && match P.info? f.type with
        | some j => !Nat.beq j.size 0
        | none => false
      | none => false
    | _ => false
  | .field t x i, .fld off sh y => odOk x y && match P.underlying t with
    | some (.struct fs) => match fs[i]? with
      | some f => Nat.beq f.offset off && shOk P f.type sh
      | none => false
    | _ => false
  | .indexAddr t x i, .iad es y j => odOk x y && odOk i j && match P.underlying t with
    | some (.slice e) => sizeIs P e es
    | _ => false
  | .indexAddr t x i, .iaa m es y j => odOk x y && odOk i j && match P.underlying t with
    | some (.array n e) => Nat.beq n m && sizeIs P e es
    | _ => false
  | .index t x i, .ixs y j => odOk x y && odOk i j && match P.underlying t with
    | some .string => true
    | _ => false
  | .index t x i, .ixa m es sh y j => odOk x y && odOk i j && match P.underlying t with
    | some (.array n e) => Nat.beq n m && sizeIs P e es && shOk P e sh
    | _ => false
  | .slice t x lo hi none, .slc es y lo' hi' => odOk x y && optOk lo lo' && optOk hi hi' && match P.underlying t with
    | some (.slice e) => sizeIs P e es
    | _ => false
  | .slice t x lo hi none, .sls y lo' hi' => odOk x y && optOk lo lo' && optOk hi hi' && match P.underlying t with
    | some .string => true
    | _ => false
  | .extract x i, .ext y j => Nat.beq i j && odOk x y
  | .call { callee := .builtin .len, args, argTypes }, .len c y => match args.toList, argTypes[0]? with
    | [x], some t => odOk x y && match P.underlying t with
      | some .string => Nat.beq c 0
      | some (.slice _) => Nat.beq c 1
      | some (.map _ _) => Nat.beq c 2
      | _ => false
    | _, _ => false
  | .call { callee := .builtin .max, args, .. }, .mx y r => odsOk args.toList (y :: r)
  | .call { callee := .builtin .min, args, .. }, .mn y r => odsOk args.toList (y :: r)
  | .call { callee := .builtin .append, args, argTypes }, .app es y z => match args.toList, argTypes.toList with
    | [x, u], [t, t'] => odOk x y && odOk u z && match P.underlying t, P.underlying t' with
      | some (.slice e), some (.slice _) => match P.info? e with
        | some i => Nat.beq i.size es && Nat.blt 0 es && Nat.ble i.bytes 32768 && match i.zero with
          | some zv => Nat.beq zv.cells.size es
          | none => false
        | none => false
      | _, _ => false
    | _, _ => false
  | .call { callee := .builtin .append, args, argTypes }, .appH es y z => match args.toList, argTypes.toList with
    | [x, u], [t, t'] => odOk x y && odOk u z && match P.underlying t, P.underlying t' with
      | some (.slice e), some (.slice _) => match P.info? e with
        | some i => Nat.beq i.size es && Nat.blt 0 es && Nat.ble i.bytes 32768 && match i.zero with
          | some zv => Nat.beq zv.cells.size es
          | none => false
        | none => false
      | _, _ => false
    | _, _ => false
  | .lookup t m k ok, .lkp c ok' z m' k' => odOk m m' && odOk k k' && (ok == ok') && match P.underlying t with
    | some (.map kt e) => zvOk P e z && keyTy P kt c
    | _ => false
  | .makeMap _ none, .mkmap => true
  | .mapUpdate t m k v, .mapset c m' k' v' => odOk m m' && odOk k k' && odOk v v' && match P.underlying t with
    | some (.map kt _) => keyTy P kt c
    | _ => false
  | .insert t m k v, .mapset c m' k' v' => odOk m m' && odOk k k' && odOk v v' && match P.underlying t with
    | some (.map kt _) => keyTy P kt c
    | _ => false
  | .typeAssert x _ t ok, .tas t' ok' z y => odOk x y && Nat.beq t t' && (ok == ok') && zvOk P t z && match P.underlying t with
    | some (.interface _) => false
    | some _ => true
    | none => false
  | .lookup t m k ok, .lkpC c ok' z m' k' => odOk m m' && odOk k k' && (ok == ok') && match P.underlying t with
    | some (.map kt e) => zvOk P e z && keyTy P kt c
    | _ => false
  | .binOp .eql t x y _, .eqS false ks x' y' => odOk x x' && odOk y y' && eqsOk P t ks
  | .binOp .neq t x y _, .eqS true ks x' y' => odOk x x' && odOk y y' && eqsOk P t ks
  | .call { callee := .value (.func f), args, .. }, .ixB f' x' y' => match args.toList with
    | [x, y] => Nat.beq f f' && odOk x x' && odOk y y' && xfn P f "internal/bytealg.IndexByteString"
    | _ => false
  | .call { callee := .value (.func f), args, .. }, .ixS f' g x' y' => match args.toList with
    | [x, y] => Nat.beq f f' && odOk x x' && odOk y y' && xfn P f "internal/bytealg.IndexString" && (match P.globals.findIdx? (fun x => x.name == "internal/bytealg.MaxLen") with
      | some h => Nat.beq h g
      | none => false)
    | _ => false
  | _, _ => false
end Go.Lt
