/-
  Lt: operations simulate: append.
  Lt: operations simulate: maps, type assertions; what has no counterpart.
  Lt: operations simulate: map updates; what has no counterpart in the code.
  Lt: functions without a body: the place of a byte, of a text.
-/
import Derived.Test.YtjoidjpmpbidhaaDoorLtD
import Derived.Deep.Upon
import Derived.Laws.Externs
set_option linter.all false
namespace Go.Lt
open Go
variable {P : Program} {CO : Nat → Code → AC → Prop} {C : Cfg} {N : Nat} {G : Gho} {w w' : World} {s s' : St} {a : Act} {v : AV}

/-- a new row, of whatever role but the abstract machine's blocks' -/
theorem SR.newRow (hs : SR CO C N G w s a) {arr : Array Value} {e : TypeId} {fr : Nat × Nat} (hw : w'.heap = w.heap.push (.cells arr e fr)) (c : Nat → Option Value) (hc : ∀ o v, c o = some v → arr[o]? = some v)
    (r : Role) (hr1 : ∀ i, r ≠ .loc i) (hr2 : ∀ i, r ≠ .heap i) : SR CO C N (G.add w.heap.size c r) w' s a := by
  have hk := Gho.add_keep hs.st hw c r
  obtain ⟨h1, h2, h3⟩ := hs.add_rest hw c r hr1
  have hl := hs.st.lt
  refine ⟨⟨fun b o v hc' => ?_, fun b x hx => ?_, fun b hb => ?_, fun b => ⟨fun i hi => ?_, fun i hi => ?_⟩, fun b i hi => ?_, fun b b' i hi hi' => ?_⟩, h1, h2, h3, hs.size, fun g hg => (hs.gl g hg).mono hk.gle⟩
  · simp only [Gho.add] at hc'
    split at hc'
    · rename_i hb; subst hb; rw [cell_of_block (push_new hw)]; exact hc o v hc'
    · rename_i hb
      have h := hs.st.con b o v hc'
      have hlt := World.block_lt_of_cell? w _ h
      rw [cell_same (push_old hw hlt)]; exact h
  · simp only [Gho.add] at hx
    split at hx
    · cases hx
    · have h := hs.st.obj b x hx
      have hlt := (Array.getElem?_eq_some_iff.1 h).1
      rw [push_old hw hlt]; exact h
  · simp only [Gho.add] at hb
    split at hb
    · rw [hw]; simp; omega
    · have := hl b hb; rw [hw]; simp; omega
  · simp only [Gho.add] at hi ⊢
    split at hi
    · exact absurd hi (hr2 i)
    · rename_i hb
      simp only [hb, if_false]; exact (hs.st.sep b).1 i hi
  · simp only [Gho.add] at hi ⊢
    split at hi
    · exact absurd hi (hr1 i)
    · rename_i hb
      simp only [hb, if_false]; exact (hs.st.sep b).2 i hi
  · simp only [Gho.add] at hi
    split at hi
    · exact absurd hi (hr2 i)
    · obtain ⟨blk, o, k1, k2, k3⟩ := hs.st.heap b i hi
      have hlt := hl b (by rw [hi]; simp)
      exact ⟨blk, o, k1, (push_old hw hlt).trans k2, k3.keep hk hl fun _ _ _ h => h⟩
  · simp only [Gho.add] at hi hi'
    split at hi
    · exact absurd hi (hr2 i)
    · split at hi'
      · exact absurd hi' (hr2 i)
      · exact hs.st.uniq b b' i hi hi'

def Gho.ext (G : Gho) (k : Nat) (c : Nat → Option Value) : Gho := { G with con := fun b o => if b = k then c o else G.con b o }
/-- cells put behind a slice that has the right to grow -/
theorem SR.growTail (hs : SR CO C N G w s a) {k : Nat} {arr arr' : Array Value} {e : TypeId} (hr : G.role k = .tail .out) (hk : w.heap[k]? = some (.cells arr e (0, 0))) (c : Nat → Option Value) (hle : ∀ o v, G.con k o = some v → c o = some v)
    (hc : ∀ o v, c o = some v → arr'[o]? = some v) : SR CO C N (G.ext k c) (w.setRow k arr') s a ∧ Le G w (G.ext k c) (w.setRow k arr') := by
  have hgle : GLe G (G.ext k c) := ⟨fun b o v h => by
    simp only [Gho.ext]
    split
    · rename_i hb; subst hb; exact hle o v h
    · exact h, fun _ _ h => h, fun _ _ h => h⟩
  have hK : Keep (fun b => b = k) G w (G.ext k c) (w.setRow k arr') :=
    ⟨hgle, fun b _ h => setRow_other w k b arr' h, fun b o _ h => by simp only [Gho.ext]; rw [if_neg h], fun _ _ _ => rfl⟩
  have hl := hs.st.lt
  have hobj : G.obj k = none := by
    cases ho : G.obj k with
    | none => rfl
    | some x => have := hs.st.obj k x ho; rw [hk] at this; cases this
  have hne : ∀ p b, p ≠ .out → G.role b = .tail p → ¬ b = k := fun p b hp h e => by subst e; rw [hr] at h; injection h with h; exact hp h.symm
  have hnew : (w.setRow k arr').heap[k]? = some (.cells arr' e (0, 0)) := setRow_heap w k arr arr' e (0, 0) hk
  refine ⟨⟨⟨fun b o v h => ?_, fun b x h => ?_, fun b hb => by simpa using hl b hb, fun b => ⟨fun i hi => ?_, fun i hi => ?_⟩, fun b i hi => ?_, hs.st.uniq⟩, hs.env.keep hK hl (fun t b => hne _ b (by simp)) (fun _ _ h => h), ⟨fun i cs h => ?_, hs.loc.uniq, hs.loc.some⟩, ?_, hs.size, fun g hg => (hs.gl g hg).mono hgle⟩,
    ⟨hgle, by simp, rfl, rfl, rfl, fun b _ h => ⟨setRow_other w k b arr' (by rintro rfl; rw [hr] at h; cases h), h⟩, fun b o v h hn => ?_, rfl, fun _ _ h => h⟩⟩
  · simp only [Gho.ext] at h
    split at h
    · rename_i hb; subst hb; rw [cell_of_block hnew]; exact hc o v h
    · rename_i hb
      rw [cell_same (setRow_other w k b arr' hb)]; exact hs.st.con b o v h
  · have hb : b ≠ k := by rintro rfl; change G.obj b = some x at h; rw [hobj] at h; cases h
    rw [setRow_other w k b arr' hb]; exact hs.st.obj b x h
  · have hb : b ≠ k := by rintro rfl; change G.role b = _ at hi; rw [hr] at hi; cases hi
    simp only [Gho.ext, hb, if_false]
    exact (hs.st.sep b).1 i hi
  · have hb : b ≠ k := by rintro rfl; change G.role b = _ at hi; rw [hr] at hi; cases hi
    simp only [Gho.ext, hb, if_false]
    exact (hs.st.sep b).2 i hi
  · have hb : b ≠ k := by rintro rfl; change G.role b = _ at hi; rw [hr] at hi; cases hi
    obtain ⟨blk, o, k1, k2, k3⟩ := hs.st.heap b i hi
    exact ⟨blk, o, k1, (setRow_other w k b arr' hb).trans k2, k3.keep hK hl fun j b => hne _ b (by simp)⟩
  · obtain ⟨k', arr1, e1, h1, h2, h3⟩ := hs.loc.get i cs h
    have hb : k' ≠ k := by rintro rfl; rw [hr] at h1; cases h1
    exact ⟨k', arr1, e1, h1, (setRow_other w k k' arr' hb).trans h2, h3.keep hK hl fun j b => hne _ b (by simp)⟩
  · exact hs.dr.keep hgle rfl fun r _ h2 => ⟨setRow_other w k r arr' (by rintro rfl; rw [hr] at h2; cases h2), h2⟩
  · simp only [Gho.ext] at h
    split at h
    · rename_i hb; subst hb; right; rw [hr]; simp
    · rw [hn] at h; cases h

/-- the values of constant cells -/
theorem CA.vals {b : Nat} : ∀ {cs : List AV} {off : Nat}, CA G b off cs → ∃ vs : List Value, VRs G cs vs ∧ (∀ j v, vs[j]? = some v → G.con b (off + j) = some v) ∧ ∀ v ∈ vs, v.oneCell' = true := by
  intro cs
  induction cs with
  | nil => intro off _; exact ⟨[], .nil, fun j v h => by simp at h, fun _ h => by cases h⟩
  | cons c cs ih =>
    intro off h
    cases h with | cons _ _ _ v _ hc hl hv r =>
    obtain ⟨vs, h1, h2, h3⟩ := ih r
    refine ⟨v :: vs, .cons _ _ _ _ hv h1, fun j u hu => ?_, fun u hu => ?_⟩
    · cases j with
      | zero => simp only [List.getElem?_cons_zero, Option.some.injEq] at hu; subst hu; exact hc
      | succ j => rw [← h2 j u (by simpa using hu)]; congr 1; omega
    · rcases List.mem_cons.1 hu with rfl | hu
      · exact hv.oneCell hl
      · exact h3 u hu

/-- what an append reads of its second argument -/
theorem src_of (hs : SR CO C N G w s a) {o : Bool} {ys : List AV} {cy : Value} (h : VR G (.sl o ys) cy) {es : Nat} (he : headEs es ys = true) {t' e' : TypeId} (ht : P.underlying t' = some (.slice e')) :
    ∃ news, Src P es t' cy ys.length news w ∧ VRs G (ys.flatMap AV.cells) news ∧ allLeaf (ys.flatMap AV.cells) = true ∧ ∀ y ∈ ys, y.cells.length = es := by
  cases h with
  | sl0f ad c =>
    cases ad with
    | none => exact ⟨[], Src.ofNil w ht c, .nil, rfl, fun _ h => by cases h⟩
    | some ad => exact ⟨[], Src.ofSlice w ht ad 0 c [] (by simp) (fun j u h => by simp at h) (fun _ h => by cases h), .nil, rfl, fun _ h => by cases h⟩
  | sl0t ad =>
    cases ad with
    | none => exact ⟨[], Src.ofNil w ht 0, .nil, rfl, fun _ h => by cases h⟩
    | some ad => exact ⟨[], Src.ofSlice w ht ad 0 0 [] (by simp) (fun j u h => by simp at h) (fun _ h => by cases h), .nil, rfl, fun _ h => by cases h⟩
  | sl _ x xs cs b off es2 n c hes hcs hn hc h =>
    have : es2 = es := by rw [← hes x (by simp)]; exact headEs_iff.1 he
    subst this
    obtain ⟨vs, h1, h2, h3⟩ := h.vals
    subst hcs
    subst hn
    refine ⟨vs, Src.ofSlice w ht ⟨b, off, none⟩ _ c vs (by rw [← h1.length, flat_length hes]) (fun j u hu => ?_) h3, h1, allLeaf_iff.2 h.leaf, hes⟩
    rw [add_lit]
    exact hs.st.con _ _ _ (h2 j u hu)

theorem run_app_room {t tx ty e : TypeId} {i : TypeInfo} (ht : P.underlying t = some (.slice e)) (hi : P.info? e = some i) {b off sLen sCap : Nat} {cy : Value} {n : Nat} {news : List Value} (hs : Src P i.size tx cy n news w)
    {arr : Array Value} {et : TypeId} (hb : w.heap[b]? = some (.cells arr et (0, 0))) (hroom : sLen + n ≤ sCap) (hfit : off + sLen * i.size + news.length ≤ arr.size) :
    (Builtin.append_ #[t, tx] ty #[.slice (some ⟨b, off, none⟩) sLen sCap, cy]).run P w = .ok (.slice (some ⟨b, off, none⟩) (sLen + n) sCap) (w.setRow b (arr.toList.take (off + sLen * i.size) ++ news ++ arr.toList.drop (off + sLen * i.size + news.length)).toArray) := by
  have hst := run_storeCells_at P b (off + sLen * i.size) et news 0 arr w hb (by simpa using hfit) hs.one
  simp only [Nat.add_zero] at hst
  rcases hs.kind with ⟨e', hk⟩ | hk <;> simp [Builtin.append_, run_underlying ht, run_underlying hk, sizeOf, typeInfo, hi, hs.len, hroom, hs.cells, Addr.add_lit, hst]

theorem append_value (hs : SR CO C N G w s a) {xs ys : List AV} {o : Bool} {cx cy : Value} (hx : VR G (.sl true xs) cx) (hox : Own G w .out (.sl true xs) cx) (hy : VR G (.sl o ys) cy) {t t' ty e e' : TypeId} {i : TypeInfo} {z : Value} {es : Nat}
    (ht : P.underlying t = some (.slice e)) (ht' : P.underlying t' = some (.slice e')) (hi : P.info? e = some i) (hz : i.zero = some z) (hsz : i.size = es) (hzs : z.cells.size = es) (hpos : 0 < es) (hby : i.bytes ≤ 32768)
    (hlen : xs.length + ys.length ≤ 2147483648) (hex : headEs es xs = true) (hey : headEs es ys = true) :
    ∃ cv w' G', (Builtin.append_ #[t, t'] ty #[cx, cy]).run P w = .ok cv w' ∧ SR CO C N G' w' s a ∧ Le G w G' w' ∧ VR G' (.sl true (xs ++ ys)) cv ∧ Own G' w' .out (.sl true (xs ++ ys)) cv := by
  subst hsz
  obtain ⟨news, hsrc, hnv, hnl, hye⟩ := src_of (P := P) hs hy hey ht'
  -- a new row
  have hgrow : ∀ (base : Option Addr) (n c : Nat) (olds : List Value), cx = .slice base n c → n = xs.length → VRs G (xs.flatMap AV.cells) olds → allLeaf (xs.flatMap AV.cells) = true → (∀ y ∈ xs, y.cells.length = i.size) →
      (Builtin.firstCells i.size n (.slice base n c)).run P w.drew = .ok olds.toArray w.drew → c < n + ys.length →
      ∃ cv w' G', (Builtin.append_ #[t, t'] ty #[cx, cy]).run P w = .ok cv w' ∧ SR CO C N G' w' s a ∧ Le G w G' w' ∧ VR G' (.sl true (xs ++ ys)) cv ∧ Own G' w' .out (.sl true (xs ++ ys)) cv := by
    intro base n c olds hcx hn hov hol hxe hold hg
    subst hcx
    subst hn
    have hb : (xs.length + ys.length) * i.bytes ≤ 140737488355328 :=
      Nat.le_trans (Nat.mul_le_mul hlen hby) (by decide)
    have hrun := run_append_grow_src (P := P) w t t' ty e i z ht hi hz base xs.length c olds hold cy ys.length news hsrc hg (by omega) (growslice_fits hg hb)
    generalize hM : grownCap w (xs.length + ys.length) c e = M at hrun
    have hMge : xs.length + ys.length ≤ M := by rw [← hM]; exact grownCap_ge _ _ _ _
    generalize hA : (olds ++ news).toArray ++ Builtin.zeroCells z.cells (M - (xs.length + ys.length)) = A at hrun
    have hall : ∀ y ∈ xs ++ ys, y.cells.length = i.size := fun y hy => by
      rcases List.mem_append.1 hy with h | h
      · exact hxe y h
      · exact hye y h
    have hL : (olds ++ news).length = (xs.length + ys.length) * i.size := by
      rw [List.length_append, ← hov.length, ← hnv.length, flat_length hxe, flat_length hye, Nat.add_mul]
    have hAs : A.size = M * i.size := by
      rw [← hA]
      simp only [Array.size_append, List.size_toArray, size_zeroCells, hzs, hL, ← Nat.add_mul]
      congr 1; omega
    have hAt : ∀ (j : Nat) (v : Value), (olds ++ news)[j]? = some v → A[j]? = some v := by
      intro j v hv
      have hlt : j < (olds ++ news).length := (List.getElem?_eq_some_iff.1 hv).1
      rw [← hA, Array.getElem?_append_left (by simpa using hlt)]
      simpa using hv
    have hw : (w.drew.alloc (.cells A e)).heap = w.heap.push (.cells A e) := rfl
    have hle := Gho.add_le hs.st (w' := w.drew.alloc (.cells A e)) hw rfl rfl rfl (fun o => (olds ++ news)[o]?) (.tail .out)
    have hvs : VRs G ((xs ++ ys).flatMap AV.cells) (olds ++ news) := by rw [List.flatMap_append]; exact hov.append hnv
    have hvl : allLeaf ((xs ++ ys).flatMap AV.cells) = true := by rw [List.flatMap_append]; exact allLeaf_append.2 ⟨hol, hnl⟩
    refine ⟨_, _, _, hrun, hs.newRow hw (fun o => (olds ++ news)[o]?) hAt (.tail .out) (by simp) (by simp), hle, ?_, ?_⟩
    · by_cases hxy : xs ++ ys = []
      · exfalso
        have h1 : xs = [] := (List.append_eq_nil_iff.1 hxy).1
        have h2 : ys = [] := (List.append_eq_nil_iff.1 hxy).2
        subst h1; subst h2
        simp at hg
      · refine VR.sl_sub hxy hall (by simp) hMge (CA.of_get fun j d hd => ?_)
        obtain ⟨v, q1, q2⟩ := hvs.get j d hd
        exact ⟨v, by simp only [Gho.add, if_true, Nat.zero_add]; exact q1, allLeaf_get hvl hd, q2.mono hle.gle⟩
    · intro x0 rest hxy ad n' cap hv
      injection hxy with _ hxy
      injection hv with hv1 hv2 hv3
      injection hv1 with hv1
      subst hv1; subst hv2; subst hv3
      have hx0 : x0.cells.length = i.size := hall x0 (by rw [hxy]; simp)
      refine .inr ⟨by simp [Gho.add], A, e, by exact push_new hw, ?_, fun o' ho' => ?_⟩
      · simp only [Nat.zero_add, hx0, hAs]; exact Nat.le_refl _
      · simp only [Nat.zero_add, hx0] at ho'
        simp only [Gho.add, if_true]
        exact List.getElem?_eq_none (by rw [hL]; exact ho')
  by_cases hys : ys = []
  · -- nothing is appended
    subst hys
    have hn0 : news = [] := by cases hnv; rfl
    subst hn0
    have hsrc0 : Src P i.size t' cy 0 [] w := hsrc
    simp only [List.append_nil]
    cases hx with
    | sl0t ad => exact ⟨_, w, G, run_append_nothing w t t' ty e i ht hi ad 0 0 (Nat.le_refl _) cy hsrc0, hs, .refl _ _, .sl0t ad, hox⟩
    | sl _ x xs cs b off es2 n c hes hcs hn hc h => exact ⟨_, w, G, run_append_nothing w t t' ty e i ht hi _ n c hc cy hsrc0, hs, .refl _ _, .sl _ x xs cs b off es2 n c hes hcs hn hc h, hox⟩
  · have hyl : 0 < ys.length := List.length_pos_iff.2 hys
    cases hx with
    | sl0t ad =>
      refine hgrow ad 0 0 [] rfl rfl .nil rfl (fun _ h => by cases h) ?_ (by omega)
      cases ad with
      | none => exact run_firstCells_none w.drew i.size 0 0 0
      | some ad => exact run_firstCells_some w.drew i.size 0 ad 0 0 [] (by simp) (fun j u h => by simp at h)
    | sl _ x xs cs b off es2 n c hes hcs hn hc h =>
      have : es2 = i.size := by rw [← hes x (by simp)]; exact headEs_iff.1 hex
      subst this
      subst hcs
      subst hn
      obtain ⟨olds, h1, h2, h3⟩ := h.vals
      have hox' := hox x xs rfl ⟨b, off, none⟩ _ c rfl
      have hx0 : x.cells.length = i.size := hes x (by simp)
      by_cases hroom : (x :: xs).length + ys.length ≤ c
      · rcases hox' with hcn | ⟨hr, arr, et, hb, hfit, hfree⟩
        · omega
        · simp only at hr hb hfit hfree
          rw [hx0] at hfit hfree
          have hnl' : news.length = ys.length * i.size := hsrc.newsLen
          have hfit' : off + (x :: xs).length * i.size + news.length ≤ arr.size := by
            rw [hnl', Nat.add_assoc, ← Nat.add_mul]
            exact Nat.le_trans (Nat.add_le_add_left (Nat.mul_le_mul_right _ hroom) _) hfit
          have hrun := run_app_room (P := P) (w := w) (ty := ty) ht hi hsrc hb hroom hfit'
          generalize hA : (arr.toList.take (off + (x :: xs).length * i.size) ++ news ++ arr.toList.drop (off + (x :: xs).length * i.size + news.length)).toArray = A at hrun
          generalize hq : off + (x :: xs).length * i.size = q at *
          have hfitl : q + news.length ≤ arr.toList.length := by simpa using hfit'
          have hAget : ∀ j, A[j]? = if q ≤ j ∧ j < q + news.length then news[j - q]? else arr[j]? := by
            intro j
            rw [← hA, List.getElem?_toArray, splice_get hfitl]
            simp
          have hAs : A.size = arr.size := by
            rw [← hA]
            simp only [List.size_toArray, List.length_append, List.length_take, List.length_drop, Array.length_toList]
            omega
          obtain ⟨g1, g2⟩ := hs.growTail (arr' := A) hr hb (fun j => if q ≤ j ∧ j < q + news.length then news[j - q]? else G.con b j) (fun j v hv => by
              by_cases hj : q ≤ j
              · rw [hfree j (by omega)] at hv; cases hv
              · rw [if_neg (by omega)]; exact hv) (fun j v hv => by
              rw [hAget]
              split at hv
              · rename_i hj; rw [if_pos hj]; exact hv
              · rename_i hj; rw [if_neg hj]
                have := hs.st.con b j v hv
                rwa [cell_of_block hb] at this)
          have hall : ∀ y ∈ (x :: xs) ++ ys, y.cells.length = i.size := fun y hy => by
            rcases List.mem_append.1 hy with h | h
            · exact hes y h
            · exact hye y h
          refine ⟨_, _, _, hrun, g1, g2, ?_, ?_⟩
          · refine VR.sl_sub (by simp) hall (by simp; omega) hroom ?_
            rw [List.flatMap_append]
            refine (h.mono g2.gle).append (CA.of_get fun j d hd => ?_)
            obtain ⟨v, q1, q2⟩ := hnv.get j d hd
            have hjl : j < news.length := (List.getElem?_eq_some_iff.1 q1).1
            refine ⟨v, ?_, allLeaf_get hnl hd, q2.mono g2.gle⟩
            rw [flat_length hes, hq]
            simp only [Gho.ext, if_true]
            rw [if_pos (by omega)]
            rw [show q + j - q = j by omega]; exact q1
          · intro x0 rest hxy ad n' cap hv
            injection hxy with _ hxy
            injection hv with hv1 hv2 hv3
            injection hv1 with hv1
            subst hv1; subst hv2; subst hv3
            have hx0' : x0.cells.length = i.size := hall x0 (by rw [hxy]; simp)
            refine .inr ⟨hr, A, et, setRow_heap w b arr A et (0, 0) hb, ?_, fun o' ho' => ?_⟩
            · simp only [hx0', hAs]; exact hfit
            · simp only [hx0'] at ho'
              simp only [Gho.ext, if_true]
              have : q + news.length ≤ o' := by
                rw [hnl', ← hq]
                refine Nat.le_trans (Nat.le_of_eq ?_) ho'
                rw [Nat.add_assoc, ← Nat.add_mul]
              rw [if_neg (by omega)]
              exact hfree o' (by omega)
      · refine hgrow _ _ c olds rfl rfl h1 (allLeaf_iff.2 h.leaf) hes ?_ (by omega)
        refine run_firstCells_some w.drew i.size _ ⟨b, off, none⟩ _ c olds (by rw [← h1.length, flat_length hes]) (fun j u hu => ?_)
        rw [add_lit]
        exact hs.st.con _ _ _ (h2 j u hu)
theorem sim_app {o : Oper} {c : Go.Call} {x u : Operand} {t t' e e' : TypeId} {i : TypeInfo} {z : Value} {es : Nat} {y q : AO} (ho : o.op = .call c) (hb : c.callee = .builtin .append) (ha : c.args.toList = [x, u]) (hat : c.argTypes.toList = [t, t'])
    (hx : odOk x y = true) (hu : odOk u q = true) (ht : P.underlying t = some (.slice e)) (ht' : P.underlying t' = some (.slice e')) (hi : P.info? e = some i) (hz : i.zero = some z) (hsz : i.size = es) (hzs : z.cells.size = es) (hpos : 0 < es) (hby : i.bytes ≤ 32768) : Sim P CO C N o (.app es y q) := by
  intro G w s s' a v hs hr
  simp only [AOp.run] at hr
  split at hr <;> first | (cases hr; done) | skip
  rename_i xs o' ys hy hq
  split at hr <;> first | (cases hr; done) | skip
  rename_i hc
  cases hr
  simp only [Bool.and_eq_true] at hc
  have hyv := ev_eq hs hu hq (by simp) (by simp)
  obtain ⟨G1, hs1, hle1, hv1, ho1, _⟩ := hs.takeO hx (by rw [hy]; simp)
  rw [hy] at hv1 ho1
  obtain ⟨cv, w', G', k1, k2, k3, k4, k5⟩ := append_value (P := P) (ty := o.type) hs1 (hv1.vr (by simp)) ho1 (hyv.mono hle1.gle) ht ht' hi hz hsz hzs hpos hby (Nat.le_of_ble_eq_true hc.1.1) hc.1.2 hc.2
  refine ⟨cv, w', G', .inl ?_, k2, hle1.trans k3, fun _ => VT.of k4, fun _ => k5⟩
  obtain ⟨cs, hcs⟩ := run_builtin ho hb a.eval
  have hat' : c.argTypes = #[t, t'] := by apply Array.toList_inj.1; exact hat
  rw [hcs, args_eval ha, hat']
  simp [builtin, k1]

/-- a slice made of nothing, to be written later: in the heap -/
theorem sim_appH {o : Oper} {c : Go.Call} {x u : Operand} {t t' e e' : TypeId} {i : TypeInfo} {z : Value} {es : Nat} {y q : AO} (ho : o.op = .call c) (hb : c.callee = .builtin .append) (ha : c.args.toList = [x, u]) (hat : c.argTypes.toList = [t, t'])
    (hx : odOk x y = true) (hu : odOk u q = true) (ht : P.underlying t = some (.slice e)) (ht' : P.underlying t' = some (.slice e')) (hi : P.info? e = some i) (hz : i.zero = some z) (hsz : i.size = es) (hzs : z.cells.size = es) (hpos : 0 < es) (hby : i.bytes ≤ 32768) : Sim P CO C N o (.appH es y q) := by
  intro G w s s' a v hs hr
  have hrun : ∀ cv w', (Builtin.append_ #[t, t'] o.type #[a.eval x, a.eval u]).run P w = .ok cv w' → (execOp a.eval o).run P w = .ok (.value cv) w' := by
    intro cv w' h
    obtain ⟨cs, hcs⟩ := run_builtin ho hb a.eval
    have hat' : c.argTypes = #[t, t'] := by apply Array.toList_inj.1; exact hat
    rw [hcs, args_eval ha, hat']
    simp [builtin, h]
  subst hsz
  simp only [AOp.run] at hr
  split at hr <;> first | (cases hr; done) | skip
  · rename_i o' hy hq
    cases hr
    have hyv := ev_eq hs hu hq (by simp) (by simp)
    have hxv := (ev_o hs hx (by rw [hy]; simp)).vr (by rw [hy]; simp)
    rw [hy] at hxv
    generalize hxx : a.eval x = xv at hxv hrun
    cases hxv with | sl0t ad =>
    obtain ⟨news, hsrc, hnv, hnl, hye⟩ := src_of (P := P) (es := i.size) hs hyv rfl ht'
    have hn0 : news = [] := by cases hnv; rfl
    subst hn0
    exact ⟨_, w, G, .inl (hrun _ _ (run_append_nothing w t t' o.type e i ht hi ad 0 0 (Nat.le_refl _) (a.eval u) hsrc)), hs, .refl _ _, fun _ => VT.of (.sl0t ad), fun _ => Own.of_ne (by simp)⟩
  · rename_i o' y0 ys hy hq
    split at hr <;> first | (cases hr; done) | skip
    rename_i hc
    cases hr
    simp only [Bool.and_eq_true] at hc
    have hyv := ev_eq hs hu hq (by simp) (by simp)
    have hxv := (ev_o hs hx (by rw [hy]; simp)).vr (by rw [hy]; simp)
    rw [hy] at hxv
    generalize hxx : a.eval x = xv at hxv hrun
    cases hxv with | sl0t ad =>
    obtain ⟨news, hsrc, hnv, hnl, hye⟩ := src_of (P := P) (es := i.size) hs hyv hc.2 ht'
    have hle : (y0 :: ys).length ≤ 2147483648 := Nat.le_of_ble_eq_true hc.1
    have hold : (Builtin.firstCells i.size 0 (.slice ad 0 0)).run P w.drew = .ok ([] : List Value).toArray w.drew := by
      cases ad with
      | none => exact run_firstCells_none w.drew i.size 0 0 0
      | some ad => exact run_firstCells_some w.drew i.size 0 ad 0 0 [] (by simp) (fun j u h => by simp at h)
    have hbb : (0 + (y0 :: ys).length) * i.bytes ≤ 140737488355328 :=
      Nat.le_trans (Nat.mul_le_mul (by omega : 0 + (y0 :: ys).length ≤ 2147483648) hby) (by decide)
    have hg : 0 < 0 + (y0 :: ys).length := by simp
    have hap := run_append_grow_src (P := P) w t t' o.type e i z ht hi hz ad 0 0 [] hold (a.eval u) (y0 :: ys).length news hsrc hg (by omega) (growslice_fits hg hbb)
    generalize hM : grownCap w (0 + (y0 :: ys).length) 0 e = M at hap
    have hMge : 0 + (y0 :: ys).length ≤ M := by rw [← hM]; exact grownCap_ge _ _ _ _
    generalize hA : ([] ++ news).toArray ++ Builtin.zeroCells z.cells (M - (0 + (y0 :: ys).length)) = A at hap
    have hAt : ∀ (j : Nat) (v : Value), news[j]? = some v → A[j]? = some v := by
      intro j v hv
      have hlt : j < news.length := (List.getElem?_eq_some_iff.1 hv).1
      rw [← hA, Array.getElem?_append_left (by simpa using hlt)]
      simpa using hv
    have k1 := hs.heapNew (w' := w.drew.alloc (.cells A e)) (x := .cells A e) rfl (.cells (((y0 :: ys).flatMap AV.cells).map AV.clr)) (fun G' w' hle => by
      refine ⟨rfl, ⟨?_, fun j d v hd hv => ?_⟩⟩
      · rw [← hA, List.length_map, hnv.length]; simp
      · rw [List.getElem?_map] at hd
        cases hd0 : ((y0 :: ys).flatMap AV.cells)[j]? with
        | none => rw [hd0] at hd; simp at hd
        | some d0 =>
          rw [hd0] at hd
          simp only [Option.map_some, Option.some.injEq] at hd
          subst hd
          obtain ⟨v', q1, q2⟩ := hnv.get j d0 hd0
          have := hAt j v' q1
          rw [hv] at this
          cases this
          exact ⟨by rw [AV.leaf_clr]; exact allLeaf_get hnl hd0, (q2.mono hle).clr, Own.of_clr⟩)
    have hle' := Gho.add_le (w' := w.drew.alloc (.cells A e)) (x := .cells A e) hs.st rfl rfl rfl rfl (fun _ => none) (.heap s.h.length)
    have hn1 : 0 + (y0 :: ys).length = (y0 :: ys).length := Nat.zero_add _
    rw [hn1] at hap hMge
    refine ⟨_, _, _, .inl (hrun _ _ hap), k1, hle', fun _ => VT.of ?_, fun _ => Own.of_ne (by simp)⟩
    exact .hsl _ _ _ _ w.heap.size M (by simp [Gho.add]) hMge
end Go.Lt
namespace Go.Lt
open Go
variable {P : Program} {CO : Nat → Code → AC → Prop} {C : Cfg} {N : Nat} {G : Gho} {w w' : World} {s s' : St} {a : Act} {v : AV}

/-- a block of the heap's is something else -/
theorem SR.setBlk (hs : SR CO C N G w s a) {i k : Nat} {blk0 blk : Blk} {x : Obj} (hr : G.role k = .heap i) (hi0 : s.h[i]? = some blk0) (hd0 : blk0 ≠ .dead) (hsz : w'.heap.size = w.heap.size) (ho : w'.os = w.os) (hu : w'.output = w.output) (ht : w'.tape = w.tape)
    (hw : ∀ b, b ≠ k → w'.heap[b]? = w.heap[b]?) (hk : w'.heap[k]? = some x) (hbr : BR CO G w i blk x) : SR CO C N G w' { s with h := s.h.set i blk } a ∧ Le G w G w' := by
  have hK : Keep (fun b => b = k) G w G w' := ⟨.refl G, fun b _ h => hw b h, fun _ _ _ _ => rfl, fun _ _ _ => rfl⟩
  have hl := hs.st.lt
  have hsep : (∀ o, G.con k o = none) ∧ G.obj k = none := by
    rcases (hs.st.sep k).1 i hr with hd | hd
    · rw [hi0] at hd; cases hd; exact absurd rfl hd0
    · exact hd
  have htl : ∀ p b, G.role b = .tail p → ¬ b = k := fun p b h e => by subst e; rw [hr] at h; cases h
  refine ⟨⟨⟨fun b o v h => ?_, fun b x h => ?_, fun b hb => by rw [hsz]; exact hl b hb, fun b => ⟨fun j hj => ?_, (hs.st.sep b).2⟩, fun b j hj => ?_, hs.st.uniq⟩, hs.env.keep hK hl (fun _ => htl _) (fun _ _ h => h), ⟨fun j ds h => ?_, hs.loc.uniq, hs.loc.some⟩, ?_, hs.size, hs.gl⟩,
    ⟨.refl G, Nat.le_of_eq hsz.symm, ho, hu, ht, fun b _ h => ⟨hw b (by rintro rfl; rw [hr] at h; cases h), h⟩, fun b o v h1 h2 => (by rw [h2] at h1; cases h1), rfl, fun _ _ h => h⟩⟩
  · have hb : b ≠ k := by rintro rfl; rw [hsep.1] at h; cases h
    rw [cell_same (hw b hb)]; exact hs.st.con b o v h
  · have hb : b ≠ k := by rintro rfl; rw [hsep.2] at h; cases h
    rw [hw b hb]; exact hs.st.obj b x h
  · by_cases hij : i = j
    · subst hij
      rw [hs.st.uniq b k i hj hr]
      exact .inr hsep
    · rcases (hs.st.sep b).1 j hj with hd | hd
      · exact .inl (by simpa [List.getElem?_set, hij] using hd)
      · exact .inr hd
  · obtain ⟨blk', o, k1, k2, k3⟩ := hs.st.heap b j hj
    by_cases hb : b = k
    · subst hb
      rw [hr] at hj
      injection hj with hj
      subst hj
      have hlt := (List.getElem?_eq_some_iff.1 k1).1
      exact ⟨blk, x, by simp [hlt], hk, hbr.keep hK hl fun _ => htl _⟩
    · have hij : i ≠ j := by rintro rfl; exact hb (hs.st.uniq b k i hj hr)
      exact ⟨blk', o, by simpa [List.getElem?_set, hij] using k1, (hw b hb).trans k2, k3.keep hK hl fun _ => htl _⟩
  · obtain ⟨k', arr', e', h1, h2, h3⟩ := hs.loc.get j ds h
    have hb : k' ≠ k := by rintro rfl; rw [hr] at h1; cases h1
    exact ⟨k', arr', e', h1, (hw k' hb).trans h2, h3.keep hK hl fun _ => htl _⟩
  · exact hs.dr.keep (.refl G) rfl fun r _ h2 => ⟨hw r (by rintro rfl; rw [hr] at h2; cases h2), h2⟩

theorem keyTy_spec {t : TypeId} {c : Nat} (h : keyTy P t c = true) : (P.underlying t = some .string ∧ c = 0) ∨ ∃ k, P.underlying t = some (.int k) ∧ c = 1 := by
  unfold keyTy at h
  split at h <;> first | (cases h; done) | skip
  · rename_i hu; exact .inl ⟨hu, beq_iff.1 h⟩
  · rename_i k hu; exact .inr ⟨k, hu, beq_iff.1 h⟩

/-- a key's own law -/
theorem sameNow_of {t : TypeId} {c : Nat} (hk : keyTy P t c = true) {d : TypeDesc} (hd : P.underlying t = some d) {x y : AV} {u v : Value} (hx : VR G x u) (hy : VR G y v) (hc : keyOk c x = true) {r : Bool} (h : leafEq x y = some r) : Instr.sameNow d u v = some r := by
  unfold leafEq at h
  split at h <;> first | (cases h; done) | skip
  · split at h <;> first | (cases h; done) | skip
    rename_i hkk
    cases h
    subst hkk
    rcases keyTy_spec hk with ⟨h1, rfl⟩ | ⟨k, h1, rfl⟩
    · simp [keyOk] at hc
    · rw [hd] at h1; cases h1
      cases hx; cases hy
      simp [Instr.sameNow]
  · cases h
    rcases keyTy_spec hk with ⟨h1, rfl⟩ | ⟨k, h1, rfl⟩
    · rw [hd] at h1; cases h1
      cases hx with | str _ p hp =>
      cases hy with | str _ q hq =>
      subst hp; subst hq
      simp only [Instr.sameNow]
      have hb : (p == q) = (p.data == q.data) := rfl
      rw [hb]
      by_cases he : p = q
      · subst he; simp
      · have := mt u8map_inj.1 he
        have hd' : p.data ≠ q.data := fun h => he (by cases p; cases q; simp_all)
        rw [beq_false_of_ne hd', beq_false_of_ne this]
    · simp [keyOk] at hc
  · rcases keyTy_spec hk with ⟨h1, rfl⟩ | ⟨k, h1, rfl⟩ <;> simp [keyOk] at hc

theorem leafEq_true {x y : AV} (h : leafEq x y = some true) : x = y := by
  unfold leafEq at h
  split at h <;> first | (cases h; done) | skip
  · split at h <;> first | (cases h; done) | skip
    rename_i hk
    subst hk
    simp only [Option.some.injEq, beq_iff_eq] at h
    rw [h]
  · simp only [Option.some.injEq, beq_iff_eq] at h
    rw [h]
  · simp only [Option.some.injEq, beq_iff_eq] at h
    rw [h]
theorem leafEq_symm {x y : AV} (h : leafEq x y = some false) : leafEq y x = some false := by
  unfold leafEq at h ⊢
  split at h <;> first | (cases h; done) | skip
  · split at h <;> first | (cases h; done) | skip
    rename_i hk
    subst hk
    simp only [Option.some.injEq, beq_eq_false_iff_ne, ne_eq] at h
    simp only [if_true, Option.some.injEq, beq_eq_false_iff_ne, ne_eq]
    exact fun e => h e.symm
  · simp only [Option.some.injEq, beq_eq_false_iff_ne, ne_eq] at h ⊢
    exact fun e => h e.symm
  · simp only [Option.some.injEq, beq_eq_false_iff_ne, ne_eq] at h ⊢
    exact fun e => h e.symm
theorem newKey_spec {k : AV} : ∀ {es : List (AV × AV)}, newKey k es = true → ∀ p ∈ es, leafEq k p.1 = some false
  | [], _, p, hp => by cases hp
  | (j, v) :: r, h, p, hp => by
    simp only [newKey, Bool.and_eq_true] at h
    rcases List.mem_cons.1 hp with rfl | hp
    · have := h.1
      split at this <;> first | assumption | (cases this; done)
    · exact newKey_spec h.2 p hp
theorem distinct_other {es : List (AV × AV)} (h : distinctM es = true) {p q : AV × AV} (hp : p ∈ es) (hq : q ∈ es) : p = q ∨ leafEq p.1 q.1 = some false := by
  induction es with
  | nil => cases hp
  | cons x es ih =>
    obtain ⟨k, v⟩ := x
    simp only [distinctM, Bool.and_eq_true] at h
    rcases List.mem_cons.1 hp with rfl | hp
    · rcases List.mem_cons.1 hq with rfl | hq
      · exact .inl rfl
      · exact .inr (newKey_spec h.1 q hq)
    · rcases List.mem_cons.1 hq with rfl | hq
      · exact .inr (leafEq_symm (newKey_spec h.1 p hp))
      · exact ih h.2 hp hq
theorem findM_cases {x : AV} : ∀ {es : List (AV × AV)} {r : Option AV}, findM x es = some r → (r = none ∧ ∀ p ∈ es, leafEq x p.1 = some false) ∨ ∃ p ∈ es, leafEq x p.1 = some true ∧ r = some p.2
  | [], r, h => by
    simp only [findM] at h
    cases h
    exact .inl ⟨rfl, fun p hp => by cases hp⟩
  | (j, v) :: es, r, h => by
    simp only [findM] at h
    split at h <;> first | (cases h; done) | skip
    · rename_i he
      cases h
      exact .inr ⟨(j, v), by simp, he, rfl⟩
    · rename_i he
      rcases findM_cases h with ⟨h1, h2⟩ | ⟨p, h1, h2, h3⟩
      · refine .inl ⟨h1, fun p hp => ?_⟩
        rcases List.mem_cons.1 hp with rfl | hp
        · exact he
        · exact h2 p hp
      · exact .inr ⟨p, by simp [h1], h2, h3⟩
theorem findM_none {x : AV} : ∀ {es : List (AV × AV)}, (∀ p ∈ es, leafEq x p.1 = some false) → findM x es = some none
  | [], _ => rfl
  | (j, v) :: es, h => by
    have := h (j, v) (by simp)
    simp only at this
    simp only [findM, this]
    exact findM_none fun p hp => h p (by simp [hp])
theorem findM_one {x : AV} {q : AV × AV} (hq : leafEq x q.1 = some true) : ∀ {es : List (AV × AV)}, q ∈ es → (∀ p ∈ es, q = p ∨ leafEq x p.1 = some false) → findM x es = some (some q.2)
  | (j, v) :: es, hm, h => by
    simp only [findM]
    rcases h (j, v) (by simp) with rfl | h1
    · simp only at hq
      rw [hq]
    · simp only at h1
      rw [h1]
      rcases List.mem_cons.1 hm with rfl | hm
      · simp only at hq
        rw [h1] at hq
        cases hq
      · exact findM_one hq hm fun p hp => h p (by simp [hp])
theorem findM_perm {es es' : List (AV × AV)} (hp : es'.Perm es) (hd : distinctM es = true) {x : AV} {r : Option AV} (h : findM x es = some r) : findM x es' = some r := by
  rcases findM_cases h with ⟨rfl, h1⟩ | ⟨p, h1, h2, rfl⟩
  · exact findM_none fun p hpp => h1 p (hp.mem_iff.1 hpp)
  · refine findM_one h2 (hp.mem_iff.2 h1) fun q hq => ?_
    have := leafEq_true h2
    subst this
    exact distinct_other hd h1 (hp.mem_iff.1 hq)

theorem find_some {t : TypeId} {c : Nat} (hk : keyTy P t c = true) {d : TypeDesc} (hd : P.underlying t = some d) {x : AV} {u : Value} (hx : VR G x u) (hc : keyOk c x = true) : ∀ {es : List (AV × AV)} {l : List MapEntry}, MEs G es l → ∀ {r : Option AV} {i : Nat}, findM x es = some r →
    (r = none ∧ Instr.findNow d u l i = some none) ∨ ∃ v j cv, r = some v ∧ Instr.findNow d u l i = some (some (j, cv)) ∧ VR G v cv
  | [], l, h, r, i, hf => by
    cases h
    simp only [findM] at hf
    cases hf
    exact .inl ⟨rfl, rfl⟩
  | (y, w) :: es, l, h, r, i, hf => by
    cases h with | cons _ _ e _ l hk' hkl hv hr =>
    simp only [findM] at hf
    split at hf <;> first | (cases hf; done) | skip
    · rename_i he
      cases hf
      refine .inr ⟨w, i, e.val, rfl, ?_, hv⟩
      simp only [Instr.findNow, sameNow_of hk hd hx hk' hc he]
    · rename_i he
      simp only [Instr.findNow, sameNow_of hk hd hx hk' hc he]
      exact find_some hk hd hx hc hr hf

theorem run_checkKey {t : TypeId} {c : Nat} (hk : keyTy P t c = true) {x : AV} {u : Value} (hx : VR G x u) (hc : keyOk c x = true) (b : Bool) (n : Nat) (w : World) : (Instr.checkKey b (n + 1) t u).run P w = .ok () w := by
  rcases keyTy_spec hk with ⟨h1, rfl⟩ | ⟨k, h1, rfl⟩
  · cases x <;> simp only [keyOk, Bool.false_eq_true] at hc
    cases hx
    simp [Instr.checkKey, run_underlying h1]
  · cases x <;> simp only [keyOk, Bool.false_eq_true] at hc
    cases hx
    simp [Instr.checkKey, run_underlying h1]
theorem checkKey_succ (b : Bool) (t : TypeId) (u : Value) : Instr.checkKey b 10000 t u = Instr.checkKey b (9999 + 1) t u := rfl

theorem keyOk_ok {c : Nat} {x : AV} (h : keyOk c x = true) : x.ok = true ∧ x.leaf = true := by
  unfold keyOk at h
  split at h <;> first | (cases h; done) | exact ⟨rfl, rfl⟩

theorem sim_lkp {o : Oper} {t kt e : TypeId} {m k : Operand} {ok : Bool} {c : Nat} {z : AV} {m' k' : AO} (ho : o.op = .lookup t m k ok) (hm : odOk m m' = true) (hk : odOk k k' = true) (ht : P.underlying t = some (.map kt e)) (hz : zvOk P e z = true) (hkt : keyTy P kt c = true) : Sim P CO C N o (.lkp c ok z m' k') := by
  refine sim_of' fun {G w s s' a v} hs hr => ?_
  simp only [AOp.run] at hr
  split at hr <;> first | (cases hr; done) | skip
  rename_i hkey
  have hkv := ev_ok hs hk (keyOk_ok hkey).1
  obtain ⟨d, hd⟩ : ∃ d, P.underlying kt = some d := by
    rcases keyTy_spec hkt with ⟨h, _⟩ | ⟨_, h, _⟩ <;> exact ⟨_, h⟩
  obtain ⟨inf, zv, z1, z2, z3, z4⟩ := zvOk_spec (G := G) hz
  -- the entries
  have hent : ∀ {r : Option AV}, (match Env.v C s.e m' with
        | .cmap es => findM (Env.v C s.e k') es
        | .hmap i => match hgetM s.h i with
          | some es => findM (Env.v C s.e k') es
          | none => none
        | .nmap => some none
        | _ => none) = some r → ∃ cv, (execOp a.eval o).run P w = .ok (.value (if ok then .tuple #[cv, .bool r.isSome] else cv)) w ∧ VR G (r.getD z) cv := by
    intro r hr
    have hgo : ∀ l : List MapEntry, (∃ es, MEs G es l ∧ findM (Env.v C s.e k') es = some r) → (∃ j, a.eval m = .map (some j) ∧ ∃ clk, w.heap[j]? = some (.map ⟨l⟩ clk)) ∨ (a.eval m = .map none ∧ l = []) →
        ∃ cv, (execOp a.eval o).run P w = .ok (.value (if ok then .tuple #[cv, .bool r.isSome] else cv)) w ∧ VR G (r.getD z) cv := by
      intro l ⟨es, he, hf⟩ hmv
      have hf' := find_some (i := 0) hkt hd hkv hkey he hf
      have hck := run_checkKey hkt hkv hkey
      rcases hf' with ⟨rfl, h1⟩ | ⟨v, j, cv, rfl, h1, h2⟩
      · refine ⟨zv, ?_, z3⟩
        rcases hmv with ⟨j, h3, clk, h4⟩ | ⟨h3, rfl⟩
        · simp [execOp, ho, Instr.lookup, run_underlying ht, h3, run_getObj h4, checkKey_succ, hck, Instr.findKey, run_underlying hd, h1, zeroValue, typeInfo, z1, z2]
        · simp [execOp, ho, Instr.lookup, run_underlying ht, h3, checkKey_succ, hck, Instr.findKey, run_underlying hd, h1, zeroValue, typeInfo, z1, z2]
      · refine ⟨cv, ?_, h2⟩
        rcases hmv with ⟨j, h3, clk, h4⟩ | ⟨h3, rfl⟩
        · simp [execOp, ho, Instr.lookup, run_underlying ht, h3, run_getObj h4, checkKey_succ, hck, Instr.findKey, run_underlying hd, h1]
        · simp [Instr.findNow] at h1
    split at hr <;> first | (cases hr; done) | skip
    · rename_i es hme
      have h1 := ev_eq hs hm hme (by simp) (by simp)
      generalize hmm : a.eval m = mv at h1
      cases h1 with | cmap _ es' j l clk hobj hpm hdm h =>
      exact hgo l ⟨es', h, findM_perm hpm hdm hr⟩ (.inl ⟨j, hmm, clk, hs.st.obj j _ hobj⟩)
    · rename_i i hme
      split at hr <;> first | (cases hr; done) | skip
      rename_i es hes
      have h1 := ev_eq hs hm hme (by simp) (by simp)
      generalize hmm : a.eval m = mv at h1
      cases h1 with | hmap _ j hrole =>
      obtain ⟨l, clk, q1, q2⟩ := hs.st.maps hrole hes
      exact hgo l ⟨es, q2, hr⟩ (.inl ⟨j, hmm, clk, q1⟩)
    · rename_i hme
      have h1 := ev_eq hs hm hme (by simp) (by simp)
      generalize hmm : a.eval m = mv at h1
      cases h1
      cases hr
      exact hgo [] ⟨[], .nil, rfl⟩ (.inr ⟨hmm, rfl⟩)
  split at hr <;> first | (cases hr; done) | skip
  · rename_i u hu
    obtain ⟨cv, q1, q2⟩ := hent hu
    cases ok <;> simp only [Option.some.injEq, Prod.mk.injEq] at hr <;> obtain ⟨rfl, rfl⟩ := hr
    · exact ⟨rfl, AV.clr_ne u, cv, by simpa using q1, VT.of q2.clr⟩
    · exact ⟨rfl, by simp, _, by simpa using q1, VT.of (.tup _ [cv, .bool true] (.cons _ _ _ _ q2 (.cons _ _ _ _ (.bool true) .nil)))⟩
  · rename_i hu
    obtain ⟨cv, q1, q2⟩ := hent hu
    cases ok <;> simp only [Option.some.injEq, Prod.mk.injEq] at hr <;> obtain ⟨rfl, rfl⟩ := hr
    · exact ⟨rfl, AV.clr_ne z, cv, by simpa using q1, VT.of q2.clr⟩
    · exact ⟨rfl, by simp, _, by simpa using q1, VT.of (.tup _ [cv, .bool false] (.cons _ _ _ _ q2 (.cons _ _ _ _ (.bool false) .nil)))⟩

theorem sim_mkmap {o : Oper} {t : TypeId} (ho : o.op = .makeMap t none) : Sim P CO C N o .mkmap := by
  intro G w s s' a v hs hr
  simp only [AOp.run] at hr
  cases hr
  have k1 := hs.heapNew (w' := { w with heap := w.heap.push (.map #[] 0) }) (x := .map #[] 0) rfl (.map []) (fun G' w' hle => by simpa only [BR] using MEs.nil)
  exact ⟨.map (some w.heap.size), _, _, .inl (by simp [execOp, ho, Instr.makeMap, newObj, Sem.run]), k1, Gho.add_le (w' := { w with heap := w.heap.push (.map #[] 0) }) (x := .map #[] 0) hs.st rfl rfl rfl rfl _ _, fun _ => VT.of (.hmap _ w.heap.size (by simp [Gho.add])), fun _ => Own.of_ne (by simp)⟩

theorem sim_tas {o : Oper} {x : Operand} {t0 t : TypeId} {ok : Bool} {z : AV} {y : AO} (ho : o.op = .typeAssert x t0 t ok) (hx : odOk x y = true) {d : TypeDesc} (ht : P.underlying t = some d) (hd : ∀ ms, d ≠ .interface ms) (hz : zvOk P t z = true) : Sim P CO C N o (.tas t ok z y) := by
  refine sim_of' fun {G w s s' a v} hs hr => ?_
  obtain ⟨inf, zv, z1, z2, z3, z4⟩ := zvOk_spec (G := G) hz
  have hrun : ∀ u, (Instr.typeAssert (a.eval x) t0 t ok).run P w = .ok u w → (execOp a.eval o).run P w = .ok (.value u) w := by
    intro u h; simp [execOp, ho, h]
  have hne : ∀ {α : Type} (f : Array (String × TypeId) → α) (g : α), (match d with | .interface ms => f ms | _ => g) = g := by
    intro α f g
    cases d <;> first | rfl | exact absurd rfl (hd _)
  simp only [AOp.run] at hr
  split at hr <;> first | (cases hr; done) | skip
  · rename_i t' u hy
    have h1 := ev_eq hs hx hy (by simp) (by simp)
    generalize hxx : a.eval x = xv at h1 hrun
    cases h1 with | ifc _ _ wv hw =>
    by_cases htt : t' = t
    · subst htt
      have hrr : (Instr.typeAssert (.iface t' wv) t0 t' ok).run P w = .ok (if ok then .tuple #[wv, .bool true] else wv) w := by
        unfold Instr.typeAssert
        cases d <;> first | exact absurd rfl (hd _) | simp [run_underlying ht]
      simp only [beq_iff.2] at hr
      cases ok <;> simp only [Option.some.injEq, Prod.mk.injEq] at hr <;> obtain ⟨rfl, rfl⟩ := hr
      · exact ⟨rfl, AV.clr_ne u, _, hrun _ hrr, VT.of hw.clr⟩
      · exact ⟨rfl, by simp, _, hrun _ hrr, VT.of (.tup _ [wv, .bool true] (.cons _ _ _ _ hw (.cons _ _ _ _ (.bool true) .nil)))⟩
    · simp only [beq_false.2 htt] at hr
      cases ok <;> simp only [Option.some.injEq, Prod.mk.injEq, reduceCtorEq] at hr
      obtain ⟨rfl, rfl⟩ := hr
      have hrr : (Instr.typeAssert (.iface t' wv) t0 t true).run P w = .ok (.tuple #[zv, .bool false]) w := by
        unfold Instr.typeAssert
        cases d <;> first | exact absurd rfl (hd _) | simp [run_underlying ht, htt, zeroValue, typeInfo, z1, z2]
      exact ⟨rfl, by simp, _, hrun _ hrr, VT.of (.tup _ [zv, .bool false] (.cons _ _ _ _ z3 (.cons _ _ _ _ (.bool false) .nil)))⟩
  · rename_i hy
    have h1 := ev_eq hs hx hy (by simp) (by simp)
    generalize hxx : a.eval x = xv at h1 hrun
    cases h1
    cases ok <;> simp only [Option.some.injEq, Prod.mk.injEq, reduceCtorEq] at hr
    obtain ⟨rfl, rfl⟩ := hr
    have hrr : (Instr.typeAssert .nilIface t0 t true).run P w = .ok (.tuple #[zv, .bool false]) w := by
      unfold Instr.typeAssert
      cases d <;> first | exact absurd rfl (hd _) | simp [run_underlying ht, zeroValue, typeInfo, z1, z2]
    exact ⟨rfl, by simp, _, hrun _ hrr, VT.of (.tup _ [zv, .bool false] (.cons _ _ _ _ z3 (.cons _ _ _ _ (.bool false) .nil)))⟩
end Go.Lt
namespace Go.Lt
open Go
variable {P : Program} {CO : Nat → Code → AC → Prop} {C : Cfg} {N : Nat} {G : Gho} {w w' : World} {s s' : St} {a : Act} {v : AV}

theorem sameBits_of {c : Nat} {x y : AV} {u v : Value} (hx : VR G x u) (hy : VR G y v) (hc : keyOk c x = true) (h : leafEq x y = some true) (n : Nat) : Instr.sameBits (n + 1) v u = true := by
  unfold leafEq at h
  split at h <;> first | (cases h; done) | skip
  · split at h <;> first | (cases h; done) | skip
    rename_i hkk
    subst hkk
    simp only [Option.some.injEq, beq_iff_eq] at h
    subst h
    cases hx; cases hy
    simp [Instr.sameBits]
  · simp only [Option.some.injEq, beq_iff_eq] at h
    cases hx with | str _ p hp =>
    cases hy with | str _ q hq =>
    subst hp; subst hq
    have := u8map_inj.1 h
    subst this
    have hb : (p == p) = (p.data == p.data) := rfl
    simp [Instr.sameBits, hb]
  · unfold keyOk at hc
    split at hc <;> simp_all

theorem set_find {t : TypeId} {c : Nat} (hk : keyTy P t c = true) {d : TypeDesc} (hd : P.underlying t = some d) {x : AV} {u : Value} (hx : VR G x u) (hc : keyOk c x = true) {v : AV} {cv : Value} (hv : VR G v cv) :
    ∀ {es es' : List (AV × AV)} {l : List MapEntry}, MEs G es l → setM x v es = some es' → ∀ i0,
    (Instr.findNow d u l i0 = some none ∧ ∀ clk, MEs G es' (l ++ [{ key := u, val := cv, born := clk }])) ∨
      ∃ j q old, Instr.findNow d u l i0 = some (some (i0 + j, q)) ∧ l[j]? = some old ∧ Instr.sameBits 10000 old.key u = true ∧ MEs G es' (l.modify j fun e => { e with key := u, val := cv })
  | [], es', l, h, hs, i0 => by
    cases h
    simp only [setM] at hs
    cases hs
    exact .inl ⟨rfl, fun clk => .cons _ _ _ _ _ hx (keyOk_ok hc).2 hv .nil⟩
  | (y, w) :: es, es', l, h, hs, i0 => by
    cases h with | cons _ _ e _ l hk' hkl hv' hr =>
    simp only [setM] at hs
    split at hs <;> first | (cases hs; done) | skip
    · rename_i he
      cases hs
      refine .inr ⟨0, e.val, e, ?_, rfl, sameBits_of hx hk' hc he 9999, ?_⟩
      · simp only [Instr.findNow, sameNow_of hk hd hx hk' hc he, Nat.add_zero]
      · exact .cons _ _ _ _ _ hx (keyOk_ok hc).2 hv hr
    · rename_i he
      split at hs <;> first | (cases hs; done) | skip
      rename_i es1 hs1
      cases hs
      rcases set_find hk hd hx hc hv hr hs1 (i0 + 1) with ⟨h1, h2⟩ | ⟨j, q, old, h1, h2, h3, h4⟩
      · refine .inl ⟨?_, fun clk => .cons _ _ _ _ _ hk' hkl hv' (h2 clk)⟩
        simp only [Instr.findNow, sameNow_of hk hd hx hk' hc he, h1]
      · refine .inr ⟨j + 1, q, old, ?_, by simpa using h2, h3, ?_⟩
        · simp only [Instr.findNow, sameNow_of hk hd hx hk' hc he, h1]
          congr 3; omega
        · rw [List.modify_succ_cons]
          exact .cons _ _ _ _ _ hk' hkl hv' h4

theorem run_setObj {k : Nat} {l l' : Array MapEntry} {clk clk' : Nat} (h : w.heap[k]? = some (.map l clk)) : (setObj k (.map l' clk')).run P w = .ok () { w with heap := w.heap.setIfInBounds k (.map l' clk') } := by
  simp only [setObj, Sem.run, h]

theorem sim_mapset {o : Oper} {t kt e : TypeId} {m k x : Operand} {c : Nat} {m' k' y : AO} (ho : o.op = .mapUpdate t m k x ∨ o.op = .insert t m k x) (hm : odOk m m' = true) (hk : odOk k k' = true) (hx : odOk x y = true) (ht : P.underlying t = some (.map kt e)) (hkt : keyTy P kt c = true) : Sim P CO C N o (.mapset c m' k' y) := by
  intro G w s s' a v hs hr
  simp only [AOp.run] at hr
  split at hr <;> first | (cases hr; done) | skip
  rename_i i hme hcc
  split at hr <;> first | (cases hr; done) | skip
  rename_i es hes
  split at hr <;> first | (cases hr; done) | skip
  rename_i es' hset
  cases hr
  simp only [Bool.and_eq_true] at hcc
  obtain ⟨hok, hkey⟩ := hcc
  have hkv := ev_ok hs hk (keyOk_ok hkey).1
  have hxv := ev_ok hs hx hok
  have h1 := ev_eq hs hm hme (by simp) (by simp)
  generalize hmm : a.eval m = mv at h1
  cases h1 with | hmap _ j hrole =>
  obtain ⟨l, clk, q1, q2⟩ := hs.st.maps hrole hes
  obtain ⟨d, hd⟩ : ∃ d, P.underlying kt = some d := by
    rcases keyTy_spec hkt with ⟨h, _⟩ | ⟨_, h, _⟩ <;> exact ⟨_, h⟩
  have hck := run_checkKey hkt hkv hkey
  have hj : j < w.heap.size := hs.st.lt j (by rw [hrole]; simp)
  have hfin : ∀ l' clk', (execOp a.eval o).run P w = .ok .skip { w with heap := w.heap.setIfInBounds j (.map l' clk') } → MEs G es' l'.toList →
      ∃ cv w' G', ((execOp a.eval o).run P w = .ok (.value cv) w' ∨ ((execOp a.eval o).run P w = .ok .skip w' ∧ cv = undef)) ∧ SR CO C N G' w' { s with h := s.h.set i (.map es') } a ∧ Le G w G' w' ∧
      (AV.undef ≠ AV.undef → VT G' AV.undef cv) ∧ (AV.undef ≠ AV.undef → Own G' w' .out AV.undef cv) := by
    intro l' clk' hrun hme'
    obtain ⟨g1, g2⟩ := hs.setBlk (w' := { w with heap := w.heap.setIfInBounds j (.map l' clk') }) (blk := .map es') (x := .map l' clk') hrole (hgetM_some hes) (by simp) (by simp) rfl rfl rfl
      (fun b hb => by simp [Array.getElem?_setIfInBounds_ne (Ne.symm hb)]) (by simp [hj]) (by simpa only [BR] using hme')
    exact ⟨undef, _, G, .inr ⟨hrun, rfl⟩, g1, g2, fun h => absurd rfl h, fun h => absurd rfl h⟩
  have hexec : ∀ w', (Instr.mapUpdate t (a.eval m) (a.eval k) (a.eval x)).run P w = .ok () w' → (execOp a.eval o).run P w = .ok .skip w' := by
    intro w' h
    rcases ho with ho | ho <;> simp [execOp, ho, h]
  rcases set_find (P := P) hkt hd hkv hkey hxv q2 hset 0 with ⟨f1, f2⟩ | ⟨n, q, old, f1, f2, f3, f4⟩
  · refine hfin ((⟨l⟩ : Array MapEntry).push { key := a.eval k, val := a.eval x, born := clk }) (clk + 1) (hexec _ ?_) (by simpa using f2 clk)
    simp [Instr.mapUpdate, run_underlying ht, hmm, run_getObj q1, checkKey_succ, hck, Instr.findKey, run_underlying hd, f1, run_setObj q1]
  · refine hfin ((⟨l⟩ : Array MapEntry).modify n fun e => { e with key := a.eval k, val := a.eval x }) clk (hexec _ ?_) (by simpa using f4)
    simp only [Nat.zero_add] at f1
    simp [Instr.mapUpdate, run_underlying ht, hmm, run_getObj q1, checkKey_succ, hck, Instr.findKey, run_underlying hd, f1, run_setObj q1, f2, Instr.keyThatStays, f3]

/-! ### a shared block becomes constant -/
def Gho.frz (G : Gho) (k : Nat) (c : Nat → Option Value) : Gho := { G with con := fun b o => if b = k then c o else G.con b o }
theorem SR.freeze (hs : SR CO C N G w s a) {i k : Nat} {cs : List AV} {arr : Array Value} {e : TypeId} (hr : G.role k = .heap i) (hi0 : s.h[i]? = some (.cells cs)) (hk : w.heap[k]? = some (.cells arr e (0, 0))) :
    SR CO C N (G.frz k fun o => arr[o]?) w { s with h := s.h.set i .dead } a ∧ Le G w (G.frz k fun o => arr[o]?) w := by
  have hl := hs.st.lt
  have hsep : (∀ o, G.con k o = none) ∧ G.obj k = none := by
    rcases (hs.st.sep k).1 i hr with hd | hd
    · rw [hi0] at hd; cases hd
    · exact hd
  have hgle : GLe G (G.frz k fun o => arr[o]?) := by
    refine ⟨fun b o v h => ?_, fun _ _ h => h, fun _ _ h => h⟩
    simp only [Gho.frz]
    rw [if_neg]
    · exact h
    · rintro rfl
      rw [hsep.1] at h
      cases h
  have hK : Keep (fun b => b = k) G w (G.frz k fun o => arr[o]?) w :=
    ⟨hgle, fun b _ h => rfl, fun b o _ h => by simp only [Gho.frz]; rw [if_neg h], fun _ _ _ => rfl⟩
  have htl : ∀ p b, G.role b = .tail p → ¬ b = k := fun p b h e => by subst e; rw [hr] at h; cases h
  refine ⟨⟨⟨fun b o v h => ?_, hs.st.obj, hl, fun b => ⟨fun j hj => ?_, fun j hj => ?_⟩, fun b j hj => ?_, hs.st.uniq⟩, hs.env.keep hK hl (fun _ => htl _) (fun _ _ h => h), ⟨fun j ds h => ?_, hs.loc.uniq, hs.loc.some⟩, hs.dr.keep hgle rfl fun _ _ h => ⟨rfl, h⟩, hs.size, fun g hg => (hs.gl g hg).mono hgle⟩,
    ⟨hgle, Nat.le_refl _, rfl, rfl, rfl, fun b _ h => ⟨rfl, h⟩, fun b o v h1 h2 => ?_, rfl, fun _ _ h => h⟩⟩
  · simp only [Gho.frz] at h
    split at h
    · rename_i hb; subst hb; rw [cell_of_block hk]; exact h
    · exact hs.st.con b o v h
  · by_cases hij : i = j
    · subst hij
      have hlt : i < s.h.length := (List.getElem?_eq_some_iff.1 hi0).1
      exact .inl (by simp [hlt])
    · rcases (hs.st.sep b).1 j hj with hd | hd
      · exact .inl (by simpa [List.getElem?_set, hij] using hd)
      · right
        have hb : b ≠ k := by rintro rfl; change G.role b = _ at hj; rw [hr] at hj; injection hj with hj; exact hij hj
        simp only [Gho.frz, hb, if_false]; exact hd
  · have hb : b ≠ k := by rintro rfl; change G.role b = _ at hj; rw [hr] at hj; cases hj
    simp only [Gho.frz, hb, if_false]; exact (hs.st.sep b).2 j hj
  · obtain ⟨blk', o, k1, k2, k3⟩ := hs.st.heap b j hj
    by_cases hij : i = j
    · subst hij
      have hlt : i < s.h.length := (List.getElem?_eq_some_iff.1 hi0).1
      exact ⟨.dead, o, by simp [hlt], k2, by cases o <;> trivial⟩
    · exact ⟨blk', o, by simpa [List.getElem?_set, hij] using k1, k2, k3.keep hK hl fun _ => htl _⟩
  · obtain ⟨k', arr', e', h1, h2, h3⟩ := hs.loc.get j ds h
    exact ⟨k', arr', e', h1, h2, h3.keep hK hl fun _ => htl _⟩
  · right
    simp only [Gho.frz] at h1
    split at h1
    · rename_i hb; subst hb; rw [hr]; simp
    · rw [h2] at h1; cases h1

/-- the elements of a stretch of cells are those cells, without rights to grow -/
theorem elems_flat {sh : Option Nat} : ∀ {n : Nat} {cs xs : List AV}, elems sh n cs = some xs → allLeaf cs = true → xs.flatMap AV.cells = cs.map AV.clr ∧ xs.length = n
  | 0, [], xs, h, _ => by simp only [elems] at h; cases h; exact ⟨rfl, rfl⟩
  | 0, _ :: _, xs, h, _ => by simp [elems] at h
  | n + 1, cs, xs, h, hl => by
    simp only [elems] at h
    split at h <;> first | (cases h; done) | skip
    rename_i u hu
    split at h <;> first | (cases h; done) | skip
    rename_i r hr
    cases h
    obtain ⟨h1, h2⟩ := elems_flat hr (allLeaf_drop hl _)
    refine ⟨?_, by simp [h2]⟩
    rw [List.flatMap_cons, h1]
    unfold readSh at hu
    split at hu
    · split at hu <;> first | (cases hu; done) | skip
      split at hu <;> first | (cases hu; done) | skip
      rename_i c r' hlf
      cases hu
      have h3 : u.clr.cells = [u.clr] := by
        cases u <;> first | rfl | (simp [AV.leaf] at hlf; done) | skip
        rename_i o xs
        cases o <;> cases xs <;> rfl
      have h4 : u.cells.length = 1 := by cases u <;> first | rfl | (simp [AV.leaf] at hlf)
      rw [h3, h4]; rfl
    · split at hu <;> first | (cases hu; done) | skip
      rename_i m _ hle
      cases hu
      have hle := Nat.le_of_ble_eq_true hle
      have h5 : (AV.agg ((cs.take m).map AV.clr)).clr = .agg ((cs.take m).map AV.clr) := rfl
      rw [h5]
      simp only [AV.cells, List.length_map, List.length_take, Nat.min_eq_left hle]
      rw [← List.map_append, List.take_append_drop]

theorem elems_size {sh : Option Nat} {es : Nat} : ∀ {n : Nat} {cs xs : List AV}, elems sh n cs = some xs → (∀ y ∈ xs, y.cells.length = match sh with | none => 1 | some m => m)
  | 0, [], xs, h, y, hy => by simp only [elems] at h; cases h; cases hy
  | 0, _ :: _, xs, h, y, hy => by simp [elems] at h
  | n + 1, cs, xs, h, y, hy => by
    simp only [elems] at h
    split at h <;> first | (cases h; done) | skip
    rename_i u hu
    split at h <;> first | (cases h; done) | skip
    rename_i r hr
    cases h
    rcases List.mem_cons.1 hy with rfl | hy
    · unfold readSh at hu
      split at hu
      · split at hu <;> first | (cases hu; done) | skip
        split at hu <;> first | (cases hu; done) | skip
        rename_i c r' hlf
        cases hu
        have hlf' : u.clr.leaf = true := by rw [AV.leaf_clr]; exact hlf
        generalize u.clr = q at hlf'
        cases q <;> first | rfl | (simp [AV.leaf] at hlf')
      · split at hu <;> first | (cases hu; done) | skip
        rename_i m _ hle
        cases hu
        have hle := Nat.le_of_ble_eq_true hle
        have h5 : (AV.agg ((cs.take m).map AV.clr)).clr = .agg ((cs.take m).map AV.clr) := rfl
        rw [h5]
        simp [AV.cells, Nat.min_eq_left hle]
    · exact elems_size (es := es) hr y hy

/-- .. as a slice value -/
theorem frozen_slice {i k : Nat} {cs xs : List AV} {arr : Array Value} {sh : Option Nat} {o n es c : Nat} (hcr : CR G w (.hc i) cs arr) {G' : Gho} (hle : GLe G G') (hcon : ∀ j v, arr[j]? = some v → G'.con k j = some v)
    (hx : elems sh n ((cs.drop o).take (n * es)) = some xs) (hc : n ≤ c) : VR G' (.sl false xs) (.slice (some ⟨k, o, none⟩) n c) := by
  have hleaf : allLeaf cs = true := allLeaf_iff.2 fun d hd => by
    obtain ⟨j, hj⟩ := List.mem_iff_getElem?.1 hd
    have hlt : j < cs.length := (List.getElem?_eq_some_iff.1 hj).1
    have hlt' := Nat.lt_of_lt_of_le hlt hcr.len
    exact (hcr.get j d arr[j] hj (by simp [hlt'])).1
  obtain ⟨h1, h2⟩ := elems_flat hx (allLeaf_take (allLeaf_drop hleaf _) _)
  have h3 := elems_size (es := es) hx
  by_cases hxs : xs = []
  · subst hxs
    subst h2
    exact .sl0f _ _
  · refine VR.sl_sub hxs h3 h2.symm hc ?_
    rw [h1]
    refine CA.of_get fun j d hd => ?_
    rw [List.getElem?_map, List.getElem?_take] at hd
    split at hd
    · cases hd0 : (cs.drop o)[j]? with
      | none => rw [hd0] at hd; simp at hd
      | some d0 =>
        rw [hd0] at hd
        simp only [Option.map_some, Option.some.injEq] at hd
        subst hd
        rw [List.getElem?_drop] at hd0
        have hlt : o + j < cs.length := (List.getElem?_eq_some_iff.1 hd0).1
        have hlt' := Nat.lt_of_lt_of_le hlt hcr.len
        obtain ⟨q1, q2, _⟩ := hcr.get (o + j) d0 arr[o + j] hd0 (by simp [hlt'])
        exact ⟨arr[o + j], hcon _ _ (by simp [hlt']), by rw [AV.leaf_clr]; exact q1, (q2.mono hle).clr⟩
    · simp at hd
end Go.Lt
namespace Go.Lt
open Go
variable {P : Program} {CO : Nat → Code → AC → Prop} {C : Cfg} {N : Nat} {G G' : Gho} {w w' : World} {s s' : St} {a : Act} {v : AV}

theorem find_byte {fn : Func} (hn : fn.name = "internal/bytealg.IndexByteString") (ho : fn.origin = "") : Extern.findNext fn = none ∧ Extern.find fn = some Extern.BytealgIndexByte.indexByte := by
  constructor
  · unfold Extern.findNext
    rw [hn, ho]
    rfl
  · unfold Extern.find
    rw [hn, ho]
    rfl
theorem find_text {fn : Func} (hn : fn.name = "internal/bytealg.IndexString") (ho : fn.origin = "") : Extern.findNext fn = none ∧ Extern.find fn = some Extern.BytealgIndex.index := by
  constructor
  · unfold Extern.findNext
    rw [hn, ho]
    rfl
  · unfold Extern.find
    rw [hn, ho]
    rfl

theorem xfn_spec {f : Nat} {name : String} (h : xfn P f name = true) : ∃ fn, P.funcs[f]? = some fn ∧ fn.body.isNone = true ∧ fn.name = name ∧ fn.origin = "" := by
  unfold xfn at h
  split at h <;> first | (cases h; done) | skip
  rename_i fn hfn
  simp only [Bool.and_eq_true, beq_iff_eq] at h
  exact ⟨fn, hfn, h.1.1, h.1.2, h.2⟩

theorem run_callX {o : Oper} {c : Go.Call} {f : Nat} {xs : List Operand} (ho : o.op = .call c) (hc : c.callee = .value (.func f)) (hx : c.args.toList = xs) : execOp a.eval o = callFunc f ⟨xs.map a.eval⟩ := by
  have hargs : (#[] : Array Value) ++ c.args.map a.eval ++ #[] = ⟨xs.map a.eval⟩ := by
    apply Array.toList_inj.1
    simp [hx]
  have : execOp a.eval o = invoke (.fn (.func f) #[]) (#[] ++ c.args.map a.eval) := by
    simp [execOp, ho, resolve, hc, Act.eval, Deferred.ofValue]
  rw [this]
  simp only [invoke]
  rw [hargs]

theorem find_congr {α : Type} {p q : α → Bool} : ∀ {l : List α}, (∀ x ∈ l, p x = q x) → l.find? p = l.find? q
  | [], _ => rfl
  | x :: l, h => by
    simp only [List.find?_cons, h x (by simp)]
    split
    · rfl
    · exact find_congr fun y hy => h y (by simp [hy])

theorem idxB_eq (c : Nat) : ∀ (l : List Nat) (k : Nat), idxB c l k = ((List.range' k l.length).find? fun i => l[i - k]? == some c)
  | [], k => rfl
  | x :: l, k => by
    simp only [idxB, List.length_cons, List.range'_succ, List.find?_cons, Nat.sub_self, List.getElem?_cons_zero]
    by_cases h : x = c
    · subst h; simp
    · have h1 : ¬ (some x == some c) = true := by simpa using h
      simp only [beq_false.2 h]
      rw [idxB_eq c l (k + 1)]
      simp only [Bool.not_eq_true] at h1
      rw [h1]
      simp only
      have : ∀ i ∈ List.range' (k + 1) l.length, ((l[i - (k + 1)]? == some c) = ((x :: l)[i - k]? == some c)) := by
        intro i hi
        rw [List.mem_range'_1] at hi
        have : i - k = (i - (k + 1)) + 1 := by omega
        rw [this, List.getElem?_cons_succ]
      exact find_congr this
theorem firstIdx_eq (b : ByteArray) (c : Nat) (hc : c < 256) : Value.int .i64 (firstIdx b c.toUInt8) = match idxB c (b.data.toList.map UInt8.toNat) 0 with | some i => .int .i64 i | none => .int .i64 (-1) := by
  have hl : (b.data.toList.map UInt8.toNat).length = b.size := by simp
  rw [idxB_eq, hl, ← List.range_eq_range']
  unfold firstIdx
  have : (List.range b.size).find? (fun i => b[i]! == c.toUInt8) = (List.range b.size).find? (fun i => (b.data.toList.map UInt8.toNat)[i - 0]? == some c) := by
    refine find_congr fun i hi => ?_
    have hi := List.mem_range.1 hi
    have h1 : b[i]! = b[i] := by simp [hi]
    rw [h1]
    simp only [Nat.sub_zero, List.getElem?_map]
    have h2 : b.data.toList[i]? = some b[i] := by
      have : i < b.data.toList.length := by simpa using hi
      rw [List.getElem?_eq_getElem this]
      rfl
    rw [h2]
    simp only [Option.map_some]
    rw [Bool.eq_iff_iff]
    simp only [beq_iff_eq, Option.some.injEq]
    constructor
    · intro h; rw [h]; simp [Nat.toUInt8, UInt8.toNat_ofNat]; omega
    · intro h; rw [← h]; simp [Nat.toUInt8]
  rw [this]
  cases List.find? (fun i => (List.map UInt8.toNat b.data.toList)[i - 0]? == some c) (List.range b.size) <;> rfl

theorem sim_ixB {o : Oper} {c : Go.Call} {f : Nat} {x y : Operand} {x' y' : AO} (ho : o.op = .call c) (hc : c.callee = .value (.func f)) (ha : c.args.toList = [x, y]) (hx : odOk x x' = true) (hy : odOk y y' = true)
    (hf : xfn P f "internal/bytealg.IndexByteString" = true) : Sim P CO C N o (.ixB f x' y') := by
  obtain ⟨fn, f1, f2, f3, f4⟩ := xfn_spec hf
  obtain ⟨e1, e2⟩ := find_byte f3 f4
  refine sim_of' fun {G w s s' a v} hs hr => ?_
  simp only [AOp.run] at hr
  split at hr <;> first | (cases hr; done) | skip
  rename_i l n hxe hye
  split at hr <;> first | (cases hr; done) | skip
  rename_i hlt
  cases hr
  have hlt : n.toNat < 256 := by simpa using hlt
  have h1 := ev_eq hs hx hxe (by simp) (by simp)
  have h2 := ev_eq hs hy hye (by simp) (by simp)
  have hgo := run_callX (a := a) ho hc ha
  simp only [List.map_cons, List.map_nil] at hgo
  generalize a.eval x = xv at h1 hgo
  generalize a.eval y = yv at h2 hgo
  cases h1 with | str _ b hb =>
  cases h2
  subst hb
  have hrun : (execOp a.eval o).run P w = .ok (.value (.int .i64 (firstIdx b n.toNat.toUInt8))) w := by
    rw [hgo, run_callFunc_extern f1 (by rw [f3]; rfl) f2 e1 e2]
    have := run_indexByte_string (P := P) b n w
    rw [this]
    rfl
  refine ⟨rfl, ?_, _, hrun, VT.of ?_⟩
  · intro x xs h
    unfold optIdx at h
    split at h <;> cases h
  · rw [firstIdx_eq b n.toNat hlt]
    cases idxB n.toNat (b.data.toList.map UInt8.toNat) 0 <;> exact .int _ _

/-! ### a text -/
theorem isPre_iff : ∀ (m l : List Nat), isPre m l = (l.take m.length == m)
  | [], l => by simp [isPre]
  | _ :: _, [] => by simp [isPre]
  | x :: m, y :: l => by
    simp only [isPre, List.length_cons, List.take_succ_cons, isPre_iff m l]
    by_cases h : x = y
    · subst h; simp
    · have h' : ¬ y = x := fun e => h e.symm
      simp [beq_false.2 h, h']
theorem idxS_eq (m : List Nat) (hm : 0 < m.length) : ∀ (l : List Nat) (k : Nat), idxS m l k = ((List.range' k (l.length + 1 - m.length)).find? fun i => (l.drop (i - k)).take m.length == m)
  | [], k => by
    have : 0 + 1 - m.length = 0 := by omega
    simp only [idxS, List.length_nil, this, List.range'_zero, List.find?_nil]
    cases m with
    | nil => simp at hm
    | cons _ _ => rfl
  | x :: l, k => by
    simp only [idxS, isPre_iff]
    by_cases hle : m.length ≤ l.length + 1
    · have : (x :: l).length + 1 - m.length = (l.length + 1 - m.length) + 1 := by simp only [List.length_cons]; omega
      rw [this, List.range'_succ, List.find?_cons]
      simp only [Nat.sub_self, List.drop_zero]
      split
      · rename_i h; rw [h]
      · rename_i h
        rw [h]
        simp only
        rw [idxS_eq m hm l (k + 1)]
        refine find_congr fun i hi => ?_
        rw [List.mem_range'_1] at hi
        have : i - k = (i - (k + 1)) + 1 := by omega
        rw [this, List.drop_succ_cons]
    · have h0 : (x :: l).length + 1 - m.length = 0 := by simp only [List.length_cons]; omega
      have hne : ((x :: l).take m.length == m) = false := by
        apply beq_false_of_ne
        intro h
        have := congrArg List.length h
        simp only [List.length_take, List.length_cons] at this
        omega
      rw [h0, hne, idxS_eq m hm l (k + 1)]
      have h1 : l.length + 1 - m.length = 0 := by omega
      rw [h1]
      rfl
theorem text_eq (a b : ByteArray) (i : Nat) : (a.extract i (i + b.size) == b) = (((a.data.toList.map UInt8.toNat).drop i).take (b.data.toList.map UInt8.toNat).length == b.data.toList.map UInt8.toNat) := by
  have hpq : ∀ p q : ByteArray, (p == q) = (p.data == q.data) := fun _ _ => rfl
  rw [hpq, ByteArray.data_extract]
  rw [Bool.eq_iff_iff]
  simp only [beq_iff_eq]
  have hlist : (a.data.extract i (i + b.size)).toList = (a.data.toList.drop i).take b.size := by
    rw [Array.toList_extract]
    simp [List.extract, List.drop_take]
  have hb : (b.data.toList.map UInt8.toNat).length = b.size := by simp
  rw [hb, ← List.map_drop, ← List.map_take, ← hlist]
  constructor
  · intro h; rw [h]
  · intro h
    have := List.map_inj_right (f := UInt8.toNat) (fun x y h => UInt8.toNat_inj.1 h) |>.1 h
    exact Array.toList_inj.1 this

theorem run_index {g : Nat} {n : Int} (hg : P.globals.findIdx? (fun x => x.name == "internal/bytealg.MaxLen") = some g) (hc : w.cell? ⟨g, 0, none⟩ = some (.int .i64 n)) (a b : ByteArray) (h2 : 2 ≤ b.size) (hn : (b.size : Int) ≤ n) (ha : a.size < 2 ^ 32 - 15) :
    (Extern.BytealgIndex.index #[.string a, .string b]).run P w = .ok (match (List.range (a.size + 1 - b.size)).find? fun i => a.extract i (i + b.size) == b with
      | some i => .int .i64 i
      | none => .int .i64 (-1)) w := by
  change Sem.run P (do
    let a ← Extern.Bytes.bytesOf (.string a)
    let b ← Extern.Bytes.bytesOf (.string b)
    if b.size < 2 || (b.size : Int) > (← Extern.BytealgIndex.maxLen) then
      unsupported (.noEntry "extern/internal/bytealg.Index.length")
    if a.size ≥ 2 ^ 32 - 15 then
      unsupported (.noEntry "extern/internal/bytealg.Index: a haystack of 2^32 - 15 bytes or more")
    match (List.range (a.size + 1 - b.size)).find? fun i => a.extract i (i + b.size) == b with
    | some i => pure (goInt i)
    | none => pure (goInt (-1))) w = _
  have hm : (Extern.BytealgIndex.maxLen).run P w = .ok n w := by
    simp [Extern.BytealgIndex.maxLen, globalAddr, hg, hc, asInt, asIntOf]
  have h3 : ¬ b.size < 2 := by omega
  have h4 : ¬ n < (b.size : Int) := by omega
  have h5 : ¬ 4294967281 ≤ a.size := by omega
  simp [Extern.Bytes.bytesOf, hm, h3, h4, h5]
  split <;> simp_all [goInt]

theorem sim_ixS {o : Oper} {c : Go.Call} {f g : Nat} {x y : Operand} {x' y' : AO} (ho : o.op = .call c) (hc : c.callee = .value (.func f)) (ha : c.args.toList = [x, y]) (hx : odOk x x' = true) (hy : odOk y y' = true)
    (hf : xfn P f "internal/bytealg.IndexString" = true) (hg : P.globals.findIdx? (fun x => x.name == "internal/bytealg.MaxLen") = some g) : Sim P CO C N o (.ixS f g x' y') := by
  obtain ⟨fn, f1, f2, f3, f4⟩ := xfn_spec hf
  obtain ⟨e1, e2⟩ := find_text f3 f4
  refine sim_of' fun {G w s s' a v} hs hr => ?_
  simp only [AOp.run] at hr
  split at hr <;> first | (cases hr; done) | skip
  rename_i l m n rest hxe hye hge
  split at hr <;> first | (cases hr; done) | skip
  rename_i hlt
  cases hr
  simp only [Bool.and_eq_true, decide_eq_true_eq] at hlt
  obtain ⟨⟨q1, q2⟩, q3⟩ := hlt
  have q1 := Nat.le_of_ble_eq_true q1
  have q2 : l.length < 4294967281 := by simpa using q2
  have h1 := ev_eq hs hx hxe (by simp) (by simp)
  have h2 := ev_eq hs hy hye (by simp) (by simp)
  have hgl := hs.gl g (by rw [hge]; simp)
  rw [hge] at hgl
  have hcell : w.cell? ⟨g, 0, none⟩ = some (.int .i64 n) := by
    cases hgl with | cptr _ _ _ h =>
    obtain ⟨cv, k1, k2, k3⟩ := h.get 0 _ rfl
    cases k3
    simpa using hs.st.con _ _ _ k1
  have hgo := run_callX (a := a) ho hc ha
  simp only [List.map_cons, List.map_nil] at hgo
  generalize a.eval x = xv at h1 hgo
  generalize a.eval y = yv at h2 hgo
  cases h1 with | str _ b hb =>
  cases h2 with | str _ d hd =>
  subst hb; subst hd
  have hbl : (b.data.toList.map UInt8.toNat).length = b.size := by simp
  have hdl : (d.data.toList.map UInt8.toNat).length = d.size := by simp
  rw [hdl] at q1 q3
  rw [hbl] at q2
  have hrun : (execOp a.eval o).run P w = .ok (.value (match (List.range (b.size + 1 - d.size)).find? fun i => b.extract i (i + d.size) == d with
      | some i => .int .i64 i
      | none => .int .i64 (-1))) w := by
    rw [hgo, run_callFunc_extern f1 (by rw [f3]; rfl) f2 e1 e2, run_index hg hcell b d q1 q3 (by omega)]
    rfl
  have hfi : (List.range (b.size + 1 - d.size)).find? (fun i => b.extract i (i + d.size) == d) = idxS (d.data.toList.map UInt8.toNat) (b.data.toList.map UInt8.toNat) 0 := by
    rw [idxS_eq _ (by rw [hdl]; omega), hbl, hdl, ← List.range_eq_range']
    refine find_congr fun i _ => ?_
    rw [text_eq, hdl]
    rfl
  rw [hfi] at hrun
  refine ⟨rfl, ?_, _, hrun, VT.of ?_⟩
  · intro x xs h
    unfold optIdx at h
    split at h <;> cases h
  · cases idxS (d.data.toList.map UInt8.toNat) (b.data.toList.map UInt8.toNat) 0 <;> exact .int _ _
end Go.Lt
