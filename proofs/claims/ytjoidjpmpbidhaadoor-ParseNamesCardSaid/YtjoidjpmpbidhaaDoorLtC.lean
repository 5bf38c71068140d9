/-
  Lt: operations simulate: copies, allocation, loads, stores.
  Lt: operations simulate: loads and stores of local and shared blocks.
  Lt: operations simulate: what leaves the state alone.
  Lt: operations simulate: what leaves the state alone, continued.
-/
import Derived.Test.YtjoidjpmpbidhaaDoorLtB
import Derived.Laws.Strings
import Derived.Lib.ConvBytes
set_option linter.all false
namespace Go.Lt
open Go
variable {P : Program} {CO : Nat → Code → AC → Prop} {C : Cfg} {N : Nat} {G : Gho} {w w' : World} {s s' : St} {a : Act} {v : AV}

/-- what is left to show of an operation that calls nothing -/
def Sim (P : Program) (CO : Nat → Code → AC → Prop) (C : Cfg) (N : Nat) (o : Oper) (ao : AOp) : Prop :=
  ∀ (G : Gho) (w : World) (s s' : St) (a : Act) (v : AV), SR CO C N G w s a → AOp.run C ao s = some (v, s') →
    ∃ cv w' G', ((execOp a.eval o).run P w = .ok (.value cv) w' ∨ ((execOp a.eval o).run P w = .ok .skip w' ∧ cv = undef)) ∧ SR CO C N G' w' s' a ∧ Le G w G' w' ∧
      (v ≠ .undef → VT G' v cv) ∧ (v ≠ .undef → Own G' w' .out v cv)

theorem Own.const {p : Pl} {x : AV} {cv : Value} {u : Value} (h : kOk x u = true) : Own G w p x cv :=
  Own.of_ne fun y ys e => by subst e; simp [kOk] at h
theorem own_o (hs : SR CO C N G w s a) {x : Operand} {ax : AO} (hx : odOk x ax = true) (hn : Env.o C s.e ax ≠ .undef) (ht : ∀ i, ax ≠ .tk i) {p : Pl} {cv : Value} : Own G w p (Env.o C s.e ax) cv := by
  unfold odOk at hx
  split at hx
  · exact Own.of_clr
  · exact absurd rfl (ht _)
  · exact Own.const hx
  · rename_i g i
    have := hs.gl i (by simpa only [Env.o] using hn)
    refine Own.of_ne fun y ys e => ?_
    simp only [Env.o] at e
    rw [e] at this
    cases this
  · exact Own.of_ne fun y ys e => by simp [Env.o] at e
  · cases hx

/-- the value of an operand, taken -/
theorem SR.takeO (hs : SR CO C N G w s a) {x : Operand} {ax : AO} (hx : odOk x ax = true) (hn : Env.o C s.e ax ≠ .undef) :
    ∃ G', SR CO C N G' w { s with e := s.e.untake ax } a ∧ Le G w G' w ∧ VT G' (Env.o C s.e ax) (a.eval x) ∧ Own G' w .out (Env.o C s.e ax) (a.eval x) ∧
      ∀ k i, G.role k = .loc i → G'.role k = .loc i := by
  by_cases ht : ∃ i, ax = .tk i
  · obtain ⟨i, rfl⟩ := ht
    unfold odOk at hx
    split at hx <;> first | cases hx | skip
    · rename_i heq; cases heq
    · rename_i t i' heq
      injection heq with heq; subst heq
      have := beq_iff.1 hx; subst this
      obtain ⟨h1, h2, h3⟩ := hs.take t hn
      exact ⟨_, h1, Gho.mv_le _ _, h2, h3, fun k i h => Gho.mv_loc.2 h⟩
    all_goals (rename_i heq; cases heq)
  · have ht' : ∀ i, ax ≠ .tk i := fun i h => ht ⟨i, h⟩
    have hu : s.e.untake ax = s.e := by
      unfold Env.untake
      split
      · exact absurd rfl (ht' _)
      · rfl
    rw [hu]
    exact ⟨G, hs, .refl _ _, ev_o hs hx hn, own_o hs hx hn ht', fun _ _ h => h⟩

theorem sim_mv {o : Oper} {x : Operand} {y : AO} (ho : o.op = .move x ∨ o.op = .assign x) (hx : odOk x y = true) : Sim P CO C N o (.mv y) := by
  intro G w s s' a v hs hr
  have hne : Env.o C s.e y ≠ .undef := by intro h; simp [AOp.run, h] at hr
  have hr' : v = Env.o C s.e y ∧ s' = { s with e := s.e.untake y } := by
    simp only [AOp.run] at hr
    cases hr; exact ⟨rfl, rfl⟩
  obtain ⟨rfl, rfl⟩ := hr'
  obtain ⟨G', h1, h2, h3, h4, _⟩ := hs.takeO hx hne
  refine ⟨a.eval x, w, G', .inl ?_, h1, h2, fun _ => h3, fun _ => h4⟩
  rcases ho with ho | ho <;> simp [execOp, ho]

theorem sim_pick {o : Oper} {c x y : Operand} {c' x' y' : AO} (ho : o.op = .pick c x y) (hc : odOk c c' = true) (hx : odOk x x' = true) (hy : odOk y y' = true) : Sim P CO C N o (.pick c' x' y') := by
  intro G w s s' a v hs hr
  simp only [AOp.run] at hr
  split at hr <;> first | cases hr | skip
  · rename_i hb
    have hcv := ev_eq hs hc hb (by simp) (by simp)
    split at hr <;> first | cases hr | skip
    rename_i hne
    refine ⟨a.eval x, w, G, .inl ?_, hs, .refl _ _, fun _ => ev_v hs hx (fun h => hne h), fun _ => Own.of_clr⟩
    generalize hcc : a.eval c = cc at hcv
    cases hcv
    simp [execOp, ho, hcc, asBool]
  · rename_i hb
    have hcv := ev_eq hs hc hb (by simp) (by simp)
    split at hr <;> first | cases hr | skip
    rename_i hne
    refine ⟨a.eval y, w, G, .inl ?_, hs, .refl _ _, fun _ => ev_v hs hy (fun h => hne h), fun _ => Own.of_clr⟩
    generalize hcc : a.eval c = cc at hcv
    cases hcv
    simp [execOp, ho, hcc, asBool]

/-! ### allocation -/
theorem kOks_CR {z : List AV} {arr : Array Value} (h : kOks z arr.toList = true) (hl : allLeaf z = true) (pl : Nat → Pl) (G' : Gho) (w' : World) : CR G' w' pl z arr := by
  have hv : VRs G' z arr.toList := kOks_vr _ _ h
  have hk : ∀ (z : List AV) (l : List Value), kOks z l = true → ∀ (j : Nat) c v, z[j]? = some c → l[j]? = some v → kOk c v = true := by
    intro z
    induction z with
    | nil => intro l _ j c v hc; simp at hc
    | cons x z ih =>
      intro l hz j c v hc hvv
      cases l with
      | nil => simp at hvv
      | cons u l =>
        simp only [kOks, Bool.and_eq_true] at hz
        cases j with
        | zero => simp at hc hvv; subst hc; subst hvv; exact hz.1
        | succ j => exact ih l hz.2 j c v (by simpa using hc) (by simpa using hvv)
  refine ⟨Nat.le_of_eq (by simpa using hv.length), fun j c v hc hvv => ⟨allLeaf_get hl hc, ?_, ?_⟩⟩
  · obtain ⟨v', h1, h2⟩ := hv.get j c hc
    rw [Array.getElem?_toList, hvv] at h1
    cases h1; exact h2
  · exact Own.const (hk z arr.toList h j c v hc (by simpa using hvv))

theorem zOk_spec {t : TypeId} {z : List AV} (h : zOk P t z = true) : ∃ i zv, P.info? t = some i ∧ i.zero = some zv ∧ kOks z zv.cells.toList = true ∧ allLeaf z = true := by
  unfold zOk at h
  split at h
  · rename_i i hi
    split at h
    · rename_i zv hz
      simp only [Bool.and_eq_true] at h
      exact ⟨i, zv, hi, hz, h.1, h.2⟩
    · cases h
  · cases h
theorem run_alloc {t : TypeId} {i : TypeInfo} {zv : Value} (hi : P.info? t = some i) (hz : i.zero = some zv) (w : World) :
    (Instr.alloc t true (.tuple #[])).run P w = .ok (.pointer (some ⟨w.heap.size, 0, none⟩)) { w with heap := w.heap.push (.cells zv.cells t) } := by
  simp [Instr.alloc, zeroValue, typeInfo, hi, hz, newVar, newRow]

theorem sim_allocL {o : Oper} {t : TypeId} {i : Nat} {z : List AV} (ho : o.op = .alloc t) (hz : zOk P t z = true) : Sim P CO C N o (.allocL i z) := by
  intro G w s s' a v hs hr
  obtain ⟨inf, zv, h1, h2, h3, h4⟩ := zOk_spec hz
  simp only [AOp.run] at hr
  cases hr
  obtain ⟨k1, k2, k3⟩ := hs.locNew (w' := { w with heap := w.heap.push (.cells zv.cells t) }) rfl rfl rfl rfl i z (fun G' w' _ => kOks_CR h3 h4 _ G' w')
  exact ⟨_, _, _, .inl (by simp [execOp, ho, run_alloc h1 h2]), k1, k2, fun _ => ⟨_, k3, rfl⟩, fun _ => Own.of_ne (by simp)⟩
theorem sim_allocH {o : Oper} {t : TypeId} {z : List AV} (ho : o.op = .alloc t) (hz : zOk P t z = true) : Sim P CO C N o (.allocH z) := by
  intro G w s s' a v hs hr
  obtain ⟨inf, zv, h1, h2, h3, h4⟩ := zOk_spec hz
  simp only [AOp.run] at hr
  cases hr
  have k1 := hs.heapNew (w' := { w with heap := w.heap.push (.cells zv.cells t) }) rfl (.cells z) (fun G' w' _ => ⟨rfl, kOks_CR h3 h4 _ G' w'⟩)
  exact ⟨_, _, _, .inl (by simp [execOp, ho, run_alloc h1 h2]), k1, Gho.add_le (w' := { w with heap := w.heap.push (.cells zv.cells t) }) (x := .cells zv.cells t) hs.st rfl rfl rfl rfl _ _, fun _ => VT.of (.hptr _ _ w.heap.size (by simp [Gho.add])), fun _ => Own.of_ne (by simp)⟩

theorem run_box {t : TypeId} {cv : Value} (w : World) : (Instr.box t cv).run P w = .ok (.pointer (some ⟨w.heap.size, 0, none⟩)) { w with heap := w.heap.push (.cells cv.cells t) } := by
  simp [Instr.box, newVar, newRow]
theorem map_CR {f : AV → AV} (hf : f = AV.clr ∨ f = AV.nrm0) {cs : List AV} {arr : Array Value} (h : VRs G cs arr.toList) (hl : allLeaf cs = true) (pl : Nat → Pl) {G' : Gho} (hle : GLe G G') (w' : World) : CR G' w' pl (cs.map f) arr := by
  refine ⟨Nat.le_of_eq (by simpa using h.length), fun j c v hc hv => ?_⟩
  rw [List.getElem?_map] at hc
  cases hx : cs[j]? with
  | none => simp [hx] at hc
  | some x =>
    simp only [hx, Option.map_some, Option.some.injEq] at hc
    subst hc
    obtain ⟨v', h1, h2⟩ := h.get j x hx
    rw [Array.getElem?_toList, hv] at h1
    cases h1
    rcases hf with rfl | rfl
    · exact ⟨by rw [AV.leaf_clr]; exact allLeaf_get hl hx, (h2.mono hle).clr, Own.of_clr⟩
    · exact ⟨by rw [AV.leaf_nrm0]; exact allLeaf_get hl hx, (h2.mono hle).nrm0, Own.of_nrm0⟩

theorem sim_boxC {o : Oper} {t : TypeId} {x : Operand} {y : AO} (ho : o.op = .box t x) (hx : odOk x y = true) : Sim P CO C N o (.boxC y) := by
  intro G w s s' a v hs hr
  simp only [AOp.run] at hr
  split at hr <;> first | cases hr | skip
  rename_i hok
  have hv := ev_ok hs hx hok
  have k1 := hs.const (w' := { w with heap := w.heap.push (.cells (a.eval x).cells t) }) (arr := (a.eval x).cells) (e := t) (fr := (0, 0)) rfl
  have hle := Gho.add_le (w' := { w with heap := w.heap.push (.cells (a.eval x).cells t) }) (x := .cells (a.eval x).cells t) hs.st rfl rfl rfl rfl (fun o => (a.eval x).cells[o]?) .none
  refine ⟨.pointer (some ⟨w.heap.size, 0, none⟩), _, _, .inl (by simp [execOp, ho, run_box]), k1, hle, fun _ => VT.of (.cptr _ _ _ (CA.of_get fun i c hc => ?_)), fun _ => Own.of_ne (by simp)⟩
  rw [List.getElem?_map] at hc
  cases hxx : (Env.v C s.e y).cells[i]? with
  | none => simp [hxx] at hc
  | some u =>
    simp only [hxx, Option.map_some, Option.some.injEq] at hc
    subst hc
    obtain ⟨cv, h1, h2⟩ := (hv.cells hok).get i u hxx
    exact ⟨cv, by simp [Gho.add, ← h1], by rw [AV.leaf_nrm0]; exact allLeaf_get (hv.cells_leaf hok) hxx, (h2.mono hle.gle).nrm0⟩
theorem sim_boxL {o : Oper} {t : TypeId} {i : Nat} {x : Operand} {y : AO} (ho : o.op = .box t x) (hx : odOk x y = true) : Sim P CO C N o (.boxL i y) := by
  intro G w s s' a v hs hr
  simp only [AOp.run] at hr
  split at hr <;> first | cases hr | skip
  rename_i hok
  have hv := ev_ok hs hx hok
  obtain ⟨k1, k2, k3⟩ := hs.locNew (w' := { w with heap := w.heap.push (.cells (a.eval x).cells t) }) (arr := (a.eval x).cells) (e := t) rfl rfl rfl rfl i ((Env.v C s.e y).cells.map AV.clr)
    (fun G' w' hle => map_CR (.inl rfl) (hv.cells hok) (hv.cells_leaf hok) _ hle w')
  exact ⟨_, _, _, .inl (by simp [execOp, ho, run_box]), k1, k2, fun _ => ⟨_, k3, rfl⟩, fun _ => Own.of_ne (by simp)⟩
theorem sim_boxH {o : Oper} {t : TypeId} {x : Operand} {y : AO} (ho : o.op = .box t x) (hx : odOk x y = true) : Sim P CO C N o (.boxH y) := by
  intro G w s s' a v hs hr
  simp only [AOp.run] at hr
  split at hr <;> first | cases hr | skip
  rename_i hok
  have hv := ev_ok hs hx hok
  have k1 := hs.heapNew (w' := { w with heap := w.heap.push (.cells (a.eval x).cells t) }) (x := .cells (a.eval x).cells t) rfl (.cells ((Env.v C s.e y).cells.map AV.clr))
    (fun G' w' hle => ⟨rfl, map_CR (.inl rfl) (hv.cells hok) (hv.cells_leaf hok) _ hle w'⟩)
  exact ⟨_, _, _, .inl (by simp [execOp, ho, run_box]), k1, Gho.add_le (w' := { w with heap := w.heap.push (.cells (a.eval x).cells t) }) (x := .cells (a.eval x).cells t) hs.st rfl rfl rfl rfl _ _, fun _ => VT.of (.hptr _ _ w.heap.size (by simp [Gho.add])), fun _ => Own.of_ne (by simp)⟩

/-! ### loads -/
def descAgg : TypeDesc → Bool
  | .struct _ => true
  | .array _ _ => true
  | _ => false
theorem shOk_some {t : TypeId} {n : Nat} (h : shOk P t (some n) = true) : ∃ d i, P.underlying t = some d ∧ P.info? t = some i ∧ i.size = n ∧ descAgg d = true := by
  unfold shOk at h
  split at h <;> simp_all [descAgg]
theorem shOk_none {t : TypeId} (h : shOk P t none = true) : ∃ d i, P.underlying t = some d ∧ P.info? t = some i ∧ descAgg d = false := by
  unfold shOk at h
  split at h <;> simp_all [descAgg]
theorem run_isAgg {t : TypeId} {d : TypeDesc} (h : P.underlying t = some d) (w : World) : (isAgg t).run P w = .ok (descAgg d) w := by
  unfold isAgg
  rw [Sem.run_bind, run_underlying h w]
  cases d <;> simp [descAgg]
theorem add_lit (b o i : Nat) : (⟨b, o, none⟩ : Addr).add i = ⟨b, o + i, none⟩ := by unfold Addr.add; split <;> simp_all

/-- a variable read at a place where cells are known -/
theorem load_at {t : TypeId} {sh : Option Nat} (hsh : shOk P t sh = true) {b off : Nat} {cs : List AV} {u : AV} (hu : readSh sh cs = some u)
    (hc : ∀ i c, cs[i]? = some c → ∃ v, w.cell? ⟨b, off + i, none⟩ = some v ∧ c.leaf = true ∧ VR G c v) :
    ∃ cv, (loadVar t ⟨b, off, none⟩).run P w = .ok cv w ∧ VR G u.clr cv ∧ (sh = none → VR G u cv ∧ w.cell? ⟨b, off, none⟩ = some cv ∧ cs[0]? = some u) := by
  cases sh with
  | none =>
    obtain ⟨d, i, h1, h2, h3⟩ := shOk_none hsh
    unfold readSh at hu
    simp only at hu
    split at hu
    · rename_i c r
      split at hu <;> first | cases hu | skip
      obtain ⟨cv, k1, k2, k3⟩ := hc 0 u rfl
      simp only [Nat.add_zero] at k1
      refine ⟨cv, ?_, k3.clr, fun _ => ⟨k3, k1, rfl⟩⟩
      rw [loadVar, Sem.run_bind, run_isAgg h1, h3]
      simp [k1]
    · cases hu
  | some n =>
    obtain ⟨d, i, h1, h2, h3, h4⟩ := shOk_some hsh
    unfold readSh at hu
    simp only at hu
    split at hu <;> first | cases hu | skip
    rename_i hle
    have hle : n ≤ cs.length := Nat.le_of_ble_eq_true hle
    have hex : ∀ m, m ≤ cs.length → ∃ vs : List Value, vs.length = m ∧ ∀ i c, i < m → cs[i]? = some c → ∃ v, vs[i]? = some v ∧ w.cell? ⟨b, off + i, none⟩ = some v ∧ VR G c v := by
      intro m
      induction m with
      | zero => exact fun _ => ⟨[], rfl, fun i c h => by omega⟩
      | succ m ih =>
        intro hm
        obtain ⟨vs, hl, hvs⟩ := ih (by omega)
        obtain ⟨v, k1, k2, k3⟩ := hc m cs[m] (by simp)
        refine ⟨vs ++ [v], by simp [hl], fun i c hi hcc => ?_⟩
        by_cases him : i = m
        · subst him
          simp only [List.getElem?_eq_getElem (show i < cs.length by omega), Option.some.injEq] at hcc
          subst hcc
          exact ⟨v, by simp [← hl], k1, k3⟩
        · obtain ⟨v', j1, j2⟩ := hvs i c (by omega) hcc
          exact ⟨v', by rw [List.getElem?_append_left (by omega)]; exact j1, j2⟩
    obtain ⟨vs, hl, hvs⟩ := hex n hle
    refine ⟨.agg ⟨vs⟩, ?_, ?_, fun h => by cases h⟩
    · have hload := run_loadCells_list (P := P) w ⟨b, off, none⟩ vs (fun j v hv => by
        have hj : j < n := by
          rcases Nat.lt_or_ge j n with h | h
          · exact h
          · simp [List.getElem?_eq_none (hl ▸ h)] at hv
        obtain ⟨v', j1, j2, _⟩ := hvs j cs[j] hj (by simp)
        rw [hv] at j1; cases j1
        rw [add_lit]; exact j2)
      rw [hl] at hload
      rw [loadVar, Sem.run_bind, run_isAgg h1, h4]
      simp [sizeOf, typeInfo, h2, h3, hload]
    · refine VR.clr (.agg _ _ (allLeaf_map AV.leaf_clr (allLeaf_take (allLeaf_iff.2 fun c hcm => ?_) n)) ?_)
      · obtain ⟨i, hi⟩ := List.mem_iff_getElem?.1 hcm
        obtain ⟨_, _, h, _⟩ := hc i c hi
        exact h
      · refine VRs.map _ (fun _ _ => VR.clr) (VRs.of_get (by simp [hl, hle]) fun i c v hci hvi => ?_)
        have hin : i < n := by
          rcases Nat.lt_or_ge i n with h | h
          · exact h
          · simp [List.getElem?_eq_none (hl ▸ h)] at hvi
        rw [List.getElem?_take, if_pos hin] at hci
        obtain ⟨v', j1, _, j3⟩ := hvs i c hin hci
        rw [hvi] at j1; cases j1; exact j3

theorem sim_ldC {o : Oper} {t : TypeId} {sh : Option Nat} {x : Operand} {y : AO} (ho : o.op = .load t x) (hsh : shOk P t sh = true) (hx : odOk x y = true) : Sim P CO C N o (.ldC sh y) := by
  intro G w s s' a v hs hr
  simp only [AOp.run] at hr
  split at hr <;> first | cases hr | skip
  rename_i cs hy
  have hp := ev_eq hs hx hy (by simp) (by simp)
  split at hr <;> first | cases hr | skip
  rename_i u hu
  generalize hxx : a.eval x = xv at hp
  cases hp with | cptr _ b off h =>
  obtain ⟨cv, h1, h2, _⟩ := load_at (P := P) (w := w) (G := G) hsh hu (fun i c hc => by
    obtain ⟨v, k1, k2, k3⟩ := h.get i c hc
    exact ⟨v, hs.st.con _ _ _ k1, k2, k3⟩)
  exact ⟨cv, w, G, .inl (by simp [execOp, ho, hxx, Instr.loadAt, Instr.sureAddr, h1]), hs, .refl _ _, fun _ => VT.of h2, fun _ => Own.of_clr⟩
end Go.Lt
namespace Go.Lt
open Go
variable {P : Program} {CO : Nat → Code → AC → Prop} {C : Cfg} {N : Nat} {G : Gho} {w w' : World} {s s' : St} {a : Act} {v : AV}

theorem CR.take {pl : Nat → Pl} {cs : List AV} {arr : Array Value} (h : CR G w pl cs arr) (hl : ∀ k, G.role k ≠ .none → k < w.heap.size) (hp : ∀ i j, pl i = pl j → i = j) {j : Nat} {c : AV} (hj : cs[j]? = some c) :
    CR (G.mv (pl j) .out) w pl (cs.set j c.clr) arr := by
  refine ⟨by simpa using h.len, fun i d v hd hv => ?_⟩
  by_cases hij : j = i
  · subst hij
    have hlt : j < cs.length := (List.getElem?_eq_some_iff.1 hj).1
    simp only [List.getElem?_set, hlt, if_true, Option.some.injEq] at hd
    subst hd
    obtain ⟨h1, h2, _⟩ := h.get j c v hj hv
    exact ⟨by rw [AV.leaf_clr]; exact h1, (h2.mono (Gho.mv_gle _ _)).clr, Own.of_clr⟩
  · rw [List.getElem?_set_ne hij] at hd
    obtain ⟨h1, h2, h3⟩ := h.get i d v hd hv
    exact ⟨h1, h2.mono (Gho.mv_gle _ _), h3.keep (Gho.mv_keep _ _) hl fun k hk hk' => hij (hp _ _ (by rw [hk] at hk'; injection hk' with hk'; exact hk'.symm))⟩

/-- what a cell of a block holds, with its place -/
theorem CR.at {pl : Nat → Pl} {cs : List AV} {arr : Array Value} {k : Nat} {e : TypeId} {fr : Nat × Nat} (h : CR G w pl cs arr) (hk : w.heap[k]? = some (.cells arr e fr)) {off i : Nat} {c : AV} (hc : (cs.drop off)[i]? = some c) :
    ∃ v, w.cell? ⟨k, off + i, none⟩ = some v ∧ c.leaf = true ∧ VR G c v := by
  rw [List.getElem?_drop] at hc
  have hlt : off + i < cs.length := (List.getElem?_eq_some_iff.1 hc).1
  have hlt := Nat.lt_of_lt_of_le hlt h.len
  obtain ⟨h1, h2, _⟩ := h.get (off + i) c arr[off + i] hc (by simp [hlt])
  exact ⟨_, by rw [cell_of_block hk]; simp [hlt], h1, h2⟩

theorem sim_ldL {o : Oper} {t : TypeId} {sh : Option Nat} {x : Operand} {y : AO} {tk : Bool} (ho : o.op = .load t x) (hsh : shOk P t sh = true) (hx : odOk x y = true) (htk : (!tk || sh.isNone) = true) : Sim P CO C N o (.ldL sh y tk) := by
  intro G w s s' a v hs hr
  simp only [AOp.run] at hr
  split at hr <;> first | cases hr | skip
  rename_i i off hy
  have hp := ev_v hs hx (by rw [hy]; simp)
  rw [hy] at hp
  obtain ⟨k, hk1, hk2⟩ := hp
  split at hr <;> first | cases hr | skip
  rename_i cs hcs
  obtain ⟨k', arr, e, j1, j2, j3⟩ := hs.loc.get i cs hcs
  have := hs.loc.uniq k k' i hk1 j1
  subst this
  split at hr <;> first | cases hr | skip
  rename_i u hu
  obtain ⟨cv, h1, h2, h3⟩ := load_at (P := P) (w := w) (G := G) (b := k) (off := off) hsh hu (fun _ _ hc => j3.at j2 hc)
  have hrun : (execOp a.eval o).run P w = .ok (.value cv) w := by simp [execOp, ho, hk2, Instr.loadAt, Instr.sureAddr, h1]
  cases tk with
  | false =>
    cases hr
    exact ⟨cv, w, G, .inl hrun, hs, .refl _ _, fun _ => VT.of h2, fun _ => Own.of_clr⟩
  | true =>
    cases hr
    have hn : sh = none := by simpa using htk
    obtain ⟨q1, q2, q3⟩ := h3 hn
    have hcu : cs[off]? = some v := by simpa [List.getElem?_drop] using q3
    have harr : arr[off]? = some cv := by rw [← cell_of_block j2]; exact q2
    obtain ⟨_, _, hown⟩ := j3.get off v cv hcu harr
    refine ⟨cv, w, G.mv (.lc i off) .out, .inl hrun, ?_, Gho.mv_le _ _, fun _ => VT.of (q1.mono (Gho.mv_gle _ _)), fun _ => hown.mv⟩
    have hl := hs.st.lt
    refine ⟨hs.st.mv (by simp), hs.env.keep (Gho.mv_keep _ _) hl (fun t k h h' => by rw [h'] at h; injection h with h; cases h) (fun k i h => Gho.mv_loc.2 h), ⟨fun i' cs' h' => ?_, fun b b' i h h' => hs.loc.uniq b b' i (Gho.mv_loc.1 h) (Gho.mv_loc.1 h'), fun b i' h => ?_⟩, hs.dr.mv, hs.size, fun g hg => (hs.gl g hg).mono (Gho.mv_gle _ _)⟩
    · rw [Loc.get_set] at h'
      split at h'
      · rename_i hi; subst hi; cases h'
        exact ⟨k, arr, e, Gho.mv_loc.2 j1, j2, j3.take hl (fun _ _ h => by injection h) hcu⟩
      · rename_i hi
        obtain ⟨k2, arr2, e2, m1, m2, m3⟩ := hs.loc.get i' cs' h'
        exact ⟨k2, arr2, e2, Gho.mv_loc.2 m1, m2, m3.keep (Gho.mv_keep _ _) hl fun j k h h' => hi (by rw [h'] at h; injection h with h; injection h)⟩
    · rw [Loc.get_set]
      split
      · rfl
      · exact hs.loc.some b i' (Gho.mv_loc.1 h)

/-- a block of the heap's, of cells -/
theorem StRel.cells (hs : StRel CO G s.h w) {k i : Nat} (hr : G.role k = .heap i) {cs : List AV} (h : hget s.h i = some cs) : ∃ arr e, w.heap[k]? = some (.cells arr e (0, 0)) ∧ CR G w (.hc i) cs arr := by
  obtain ⟨blk, o, h1, h2, h3⟩ := hs.heap k i hr
  unfold hget at h
  rw [h1] at h
  cases blk <;> simp only [Option.some.injEq, reduceCtorEq] at h
  subst h
  cases o <;> simp only [BR] at h3
  obtain ⟨rfl, h3⟩ := h3
  exact ⟨_, _, h2, h3⟩
theorem hget_some {h : List Blk} {i : Nat} {cs : List AV} (hh : hget h i = some cs) : h[i]? = some (.cells cs) := by
  unfold hget at hh
  split at hh
  · cases hh; assumption
  · cases hh

theorem sim_ldH {o : Oper} {t : TypeId} {sh : Option Nat} {x : Operand} {y : AO} {tk : Bool} (ho : o.op = .load t x) (hsh : shOk P t sh = true) (hx : odOk x y = true) (htk : (!tk || sh.isNone) = true) : Sim P CO C N o (.ldH sh y tk) := by
  intro G w s s' a v hs hr
  simp only [AOp.run] at hr
  split at hr <;> first | cases hr | skip
  rename_i i off hy
  have hp := ev_eq hs hx hy (by simp) (by simp)
  generalize hxx : a.eval x = xv at hp
  cases hp with | hptr _ _ k hrole =>
  split at hr <;> first | cases hr | skip
  rename_i cs hcs
  obtain ⟨arr, e, j2, j3⟩ := hs.st.cells hrole hcs
  split at hr <;> first | cases hr | skip
  rename_i u hu
  obtain ⟨cv, h1, h2, h3⟩ := load_at (P := P) (w := w) (G := G) (b := k) (off := off) hsh hu (fun _ _ hc => j3.at j2 hc)
  have hrun : (execOp a.eval o).run P w = .ok (.value cv) w := by simp [execOp, ho, hxx, Instr.loadAt, Instr.sureAddr, h1]
  cases tk with
  | false =>
    cases hr
    exact ⟨cv, w, G, .inl hrun, hs, .refl _ _, fun _ => VT.of h2, fun _ => Own.of_clr⟩
  | true =>
    cases hr
    have hn : sh = none := by simpa using htk
    obtain ⟨q1, q2, q3⟩ := h3 hn
    have hcu : cs[off]? = some v := by simpa [List.getElem?_drop] using q3
    have harr : arr[off]? = some cv := by rw [← cell_of_block j2]; exact q2
    obtain ⟨_, _, hown⟩ := j3.get off v cv hcu harr
    refine ⟨cv, w, G.mv (.hc i off) .out, .inl hrun, ?_, Gho.mv_le _ _, fun _ => VT.of (q1.mono (Gho.mv_gle _ _)), fun _ => hown.mv⟩
    have hl := hs.st.lt
    refine ⟨⟨hs.st.con, hs.st.obj, fun b hb => hl b (fun h => hb (Gho.mv_none.2 h)), fun b => ⟨fun i' hi => ?_, fun i hi => (hs.st.sep b).2 i (Gho.mv_loc.1 hi)⟩, fun b i' hi => ?_, fun b b' i hi hi' => hs.st.uniq b b' i (Gho.mv_heap.1 hi) (Gho.mv_heap.1 hi')⟩,
      hs.env.keep (Gho.mv_keep _ _) hl (fun t k h h' => by rw [h'] at h; injection h with h; cases h) (fun k i h => Gho.mv_loc.2 h), hs.loc.mv hl (by simp), hs.dr.mv, hs.size, fun g hg => (hs.gl g hg).mono (Gho.mv_gle _ _)⟩
    · rcases (hs.st.sep b).1 i' (Gho.mv_heap.1 hi) with hd | hd
      · left
        have hne : i ≠ i' := by rintro rfl; rw [hget_some hcs] at hd; cases hd
        simpa [List.getElem?_set, hne] using hd
      · exact .inr hd
    replace hi := Gho.mv_heap.1 hi
    by_cases hb : i' = i
    · subst hb
      have := hs.st.uniq b k i' hi hrole
      subst this
      have hlt : i' < s.h.length := (List.getElem?_eq_some_iff.1 (hget_some hcs)).1
      exact ⟨.cells (cs.set off v.clr), _, by simp [hlt], j2, rfl, j3.take hl (fun _ _ h => by injection h) hcu⟩
    · obtain ⟨blk, ob, m1, m2, m3⟩ := hs.st.heap b i' hi
      exact ⟨blk, ob, by simpa [List.getElem?_set, Ne.symm hb] using m1, m2, m3.keep (Gho.mv_keep _ _) hl fun j k h h' => hb (by rw [h'] at h; injection h with h; injection h with h; exact h.symm)⟩

/-! ### stores -/
theorem splice_some {cs new cs' : List AV} {off : Nat} (h : splice cs off new = some cs') : off + new.length ≤ cs.length ∧ cs' = cs.take off ++ new ++ cs.drop (off + new.length) := by
  unfold splice at h
  split at h
  · rename_i hle; cases h; exact ⟨Nat.le_of_ble_eq_true hle, rfl⟩
  · cases h
theorem splice_get {α : Type} {cs new : List α} {off : Nat} (h : off + new.length ≤ cs.length) (j : Nat) : (cs.take off ++ new ++ cs.drop (off + new.length))[j]? = if off ≤ j ∧ j < off + new.length then new[j - off]? else cs[j]? := by
  simp only [List.getElem?_append, List.length_append, List.length_take, List.getElem?_take, List.getElem?_drop]
  have : min off cs.length = off := by omega
  rw [this]
  by_cases h1 : j < off
  · simp [h1, show j < off + new.length by omega, show ¬ off ≤ j by omega]
  · by_cases h2 : j < off + new.length
    · simp [h1, h2, show off ≤ j by omega]
    · simp only [h1, h2, if_false, and_false]
      congr 1; omega
theorem CR.splice {pl : Nat → Pl} {cs cs' new : List AV} {arr : Array Value} {off : Nat} {vs : List Value} (h : CR G w pl cs arr) (hs : splice cs off new = some cs') (hl : vs.length = new.length)
    (hn : ∀ j c v, new[j]? = some c → vs[j]? = some v → c.leaf = true ∧ VR G c v ∧ Own G w (pl (off + j)) c v) :
    CR G w pl cs' (arr.toList.take off ++ vs ++ arr.toList.drop (off + vs.length)).toArray := by
  obtain ⟨h1, rfl⟩ := splice_some hs
  have hlen := h.len
  have h2 : off + vs.length ≤ arr.toList.length := by
    have : arr.toList.length = arr.size := Array.length_toList
    rw [hl, this]
    exact Nat.le_trans h1 hlen
  refine ⟨by simp at h1 h2 ⊢; omega, fun j c v hc hv => ?_⟩
  rw [splice_get h1] at hc
  rw [List.getElem?_toArray, splice_get h2] at hv
  rw [hl] at hv
  split at hc
  · rename_i hj
    rw [if_pos hj] at hv
    have := hn (j - off) c v hc hv
    rwa [show off + (j - off) = j by omega] at this
  · rename_i hj
    rw [if_neg hj] at hv
    exact h.get j c v hc (by simpa using hv)

theorem sizeIs_spec {t : TypeId} {n : Nat} (h : sizeIs P t n = true) : ∃ i, P.info? t = some i ∧ i.size = n := by
  unfold sizeIs at h
  split at h
  · rename_i i hi; exact ⟨i, hi, beq_iff.1 h⟩
  · cases h

/-- the new cells that a store puts -/
def newCells (u : AV) : List AV := match u with | .agg us => us.map AV.clr | u => [u]
theorem newCells_length (u : AV) : (newCells u).length = u.cells.length := by
  cases u <;> simp [newCells, AV.cells]
theorem newCells_rel {u : AV} {cv : Value} (hv : VT G u cv) (hl : allLeaf u.cells = true) {p : Pl} {q : Nat → Pl} (ho : Own G w p u cv) (hq : u.cells.length = 1 → q 0 = p) :
    ∀ j c v, (newCells u)[j]? = some c → cv.cells.toList[j]? = some v → c.leaf = true ∧ VR G c v ∧ Own G w (q j) c v := by
  intro j c v hc hvv
  have hvr : VR G u cv := hv.vr (by intro i o h; subst h; simp [AV.cells, allLeaf, AV.leaf] at hl)
  have hok : u.ok = true := by
    refine hvr.ok_of fun vs h => ?_
    subst h
    simp [AV.cells, allLeaf, AV.leaf] at hl
  have hcs := hvr.cells hok
  by_cases hag : ∃ us, u = .agg us
  · obtain ⟨us, rfl⟩ := hag
    simp only [newCells, List.getElem?_map] at hc
    cases hx : us[j]? with
    | none => simp [hx] at hc
    | some x =>
      simp only [hx, Option.map_some, Option.some.injEq] at hc
      subst hc
      obtain ⟨v', k1, k2⟩ := hcs.get j x hx
      rw [hvv] at k1; cases k1
      exact ⟨by rw [AV.leaf_clr]; exact allLeaf_get hl hx, k2.clr, Own.of_clr⟩
  · have hone : u.cells = [u] := by cases u <;> first | rfl | exact absurd ⟨_, rfl⟩ hag
    have hnc : newCells u = [u] := by cases u <;> first | rfl | exact absurd ⟨_, rfl⟩ hag
    rw [hnc] at hc
    rw [hone] at hl hcs
    have hj : j = 0 := by
      cases j with
      | zero => rfl
      | succ j => simp at hc
    subst hj
    simp only [List.getElem?_cons_zero, Option.some.injEq] at hc
    subst hc
    have hlf : u.leaf = true := by simpa [allLeaf] using hl
    have hcv : cv.cells = #[cv] := by
      have := hvr.oneCell hlf
      cases cv <;> first | rfl | simp [Value.oneCell'] at this
    rw [hcv] at hvv
    simp only [List.getElem?_cons_zero, Option.some.injEq] at hvv
    subst hvv
    rw [hq (by simp [hone])]
    exact ⟨hlf, hvr, ho⟩

theorem run_storeVar {t : TypeId} {i : TypeInfo} {k off : Nat} {arr : Array Value} {e : TypeId} {cv : Value} (hi : P.info? t = some i) (hsz : cv.cells.size = i.size) (hk : w.heap[k]? = some (.cells arr e (0, 0)))
    (hfit : off + cv.cells.size ≤ arr.size) (h1 : ∀ v ∈ cv.cells.toList, v.oneCell' = true) :
    (storeVar t ⟨k, off, none⟩ cv).run P w = .ok () (w.setRow k (arr.toList.take off ++ cv.cells.toList ++ arr.toList.drop (off + cv.cells.toList.length)).toArray) := by
  have := run_storeCells_at P k off e cv.cells.toList 0 arr w hk (by simpa using hfit) h1
  simp only [Nat.add_zero] at this
  simp [storeVar, sizeOf, typeInfo, hi, hsz, this]

theorem VR.cells_one {u : AV} {cv : Value} (hvr : VR G u cv) (hok : u.ok = true) : ∀ v ∈ cv.cells.toList, v.oneCell' = true := by
  intro v hv
  obtain ⟨i, hi⟩ := List.mem_iff_getElem?.1 hv
  obtain ⟨c, h1, h2⟩ := (hvr.cells hok).get' i v hi
  exact h2.oneCell (allLeaf_get (hvr.cells_leaf hok) h1)

theorem stored_ok {u : AV} {cv : Value} (hv : VT G u cv) (hl : allLeaf u.cells = true) : u.ok = true ∧ VR G u cv := by
  have hvr : VR G u cv := hv.vr (by intro i o h; subst h; simp [AV.cells, allLeaf, AV.leaf] at hl)
  refine ⟨hvr.ok_of fun vs h => ?_, hvr⟩
  subst h
  simp [AV.cells, allLeaf, AV.leaf] at hl

theorem sim_stL {o : Oper} {t : TypeId} {n : Nat} {x z : Operand} {y u : AO} (ho : o.op = .store t x z) (hsz : sizeIs P t n = true) (hx : odOk x y = true) (hz : odOk z u = true) : Sim P CO C N o (.stL n y u) := by
  intro G w s s' a v hs hr
  simp only [AOp.run] at hr
  split at hr <;> first | cases hr | skip
  rename_i i off hy
  have hp := ev_v hs hx (by rw [hy]; simp)
  rw [hy] at hp
  obtain ⟨k, hk1, hk2⟩ := hp
  split at hr <;> first | cases hr | skip
  rename_i cs hcs
  split at hr <;> first | (cases hr; done) | skip
  rename_i hc
  split at hr <;> first | (cases hr; done) | skip
  rename_i cs' hsp
  cases hr
  have hsp : splice cs off (newCells (Env.o C s.e u)) = some cs' := hsp
  simp only [Bool.and_eq_true] at hc
  obtain ⟨hn, hleaf⟩ := hc
  have hn := beq_iff.1 hn
  have hne : Env.o C s.e u ≠ .undef := by intro h; rw [h] at hleaf; simp [AV.cells, allLeaf, AV.leaf] at hleaf
  obtain ⟨G1, hs1, hle1, hv1, ho1, hloc1⟩ := hs.takeO hz hne
  obtain ⟨inf, hi1, hi2⟩ := sizeIs_spec hsz
  -- from 'out' into the cell
  have hlen := (newCells_length (Env.o C s.e u)).trans hn
  obtain ⟨hok, hvr⟩ := stored_ok hv1 hleaf
  have hcl : (a.eval z).cells.toList.length = n := by rw [← hn]; exact (hvr.cells hok).length.symm
  have hl1 := hs1.st.lt
  have hs2 : SR CO C N (G1.mv .out (.lc i off)) w { s with e := s.e.untake u } a :=
    ⟨hs1.st.mv (by simp), hs1.env.keep (Gho.mv_keep _ _) hl1 (fun t k h h' => by rw [h'] at h; injection h with h; cases h) (fun k i h => Gho.mv_loc.2 h), hs1.loc.mv hl1 (by simp), hs1.dr.mv, hs1.size, fun g hg => (hs1.gl g hg).mono (Gho.mv_gle _ _)⟩
  have hk : (G1.mv .out (.lc i off)).role k = .loc i := Gho.mv_loc.2 (hloc1 k i hk1)
  obtain ⟨k', arr, e, j1, j2, j3⟩ := hs2.loc.get i cs hcs
  have := hs2.loc.uniq k k' i hk j1
  subst this
  have hcr : CR (G1.mv .out (.lc i off)) w (.lc i) cs' (arr.toList.take off ++ (a.eval z).cells.toList ++ arr.toList.drop (off + (a.eval z).cells.toList.length)).toArray :=
    j3.splice hsp (by rw [hcl, hlen]) (newCells_rel (q := fun j => .lc i (off + j)) (hv1.mono (Gho.mv_gle _ _) fun k i h => Gho.mv_loc.2 h) hleaf ho1.mv (fun _ => rfl))
  obtain ⟨hfit, _⟩ := splice_some hsp
  have hle2 := hle1.trans (Gho.mv_le (G := G1) (w := w) .out (.lc i off))
  refine ⟨undef, _, _, .inr ⟨?_, rfl⟩, hs2.setLoc hk j2 hcr, hle2.trans (SR.setRow_le _ (by rw [hk]; simp)), fun h => absurd rfl h, fun h => absurd rfl h⟩
  have hst := run_storeVar (P := P) (w := w) (off := off) hi1 (cv := a.eval z) (by rw [hi2]; simpa using hcl) j2 (by have := j3.len; rw [hlen, ← hcl, Array.length_toList] at hfit; omega) (hvr.cells_one hok)
  simp [execOp, ho, Instr.storeAt, hk2, Instr.sureAddr, hst]

theorem sim_stH {o : Oper} {t : TypeId} {n : Nat} {x z : Operand} {y u : AO} (ho : o.op = .store t x z) (hsz : sizeIs P t n = true) (hx : odOk x y = true) (hz : odOk z u = true) : Sim P CO C N o (.stH n y u) := by
  intro G w s s' a v hs hr
  simp only [AOp.run] at hr
  split at hr <;> first | cases hr | skip
  rename_i i off hy
  have hp := ev_eq hs hx hy (by simp) (by simp)
  generalize hxx : a.eval x = xv at hp
  cases hp with | hptr _ _ k hk1 =>
  split at hr <;> first | cases hr | skip
  rename_i cs hcs
  split at hr <;> first | (cases hr; done) | skip
  rename_i hc
  split at hr <;> first | (cases hr; done) | skip
  rename_i cs' hsp
  cases hr
  have hsp : splice cs off (newCells (Env.o C s.e u)) = some cs' := hsp
  simp only [Bool.and_eq_true] at hc
  obtain ⟨hn, hleaf⟩ := hc
  have hn := beq_iff.1 hn
  have hne : Env.o C s.e u ≠ .undef := by intro h; rw [h] at hleaf; simp [AV.cells, allLeaf, AV.leaf] at hleaf
  obtain ⟨G1, hs1, hle1, hv1, ho1, hloc1⟩ := hs.takeO hz hne
  obtain ⟨inf, hi1, hi2⟩ := sizeIs_spec hsz
  have hlen := (newCells_length (Env.o C s.e u)).trans hn
  obtain ⟨hok, hvr⟩ := stored_ok hv1 hleaf
  have hcl : (a.eval z).cells.toList.length = n := by rw [← hn]; exact (hvr.cells hok).length.symm
  have hl1 := hs1.st.lt
  have hs2 : SR CO C N (G1.mv .out (.hc i off)) w { s with e := s.e.untake u } a :=
    ⟨hs1.st.mv (by simp), hs1.env.keep (Gho.mv_keep _ _) hl1 (fun t k h h' => by rw [h'] at h; injection h with h; cases h) (fun k i h => Gho.mv_loc.2 h), hs1.loc.mv hl1 (by simp), hs1.dr.mv, hs1.size, fun g hg => (hs1.gl g hg).mono (Gho.mv_gle _ _)⟩
  have hk : (G1.mv .out (.hc i off)).role k = .heap i := Gho.mv_heap.2 (hle1.gle.role k i hk1)
  obtain ⟨arr, e, j2, j3⟩ := hs2.st.cells hk hcs
  have hcr : CR (G1.mv .out (.hc i off)) w (.hc i) cs' (arr.toList.take off ++ (a.eval z).cells.toList ++ arr.toList.drop (off + (a.eval z).cells.toList.length)).toArray :=
    j3.splice hsp (by rw [hcl, hlen]) (newCells_rel (q := fun j => .hc i (off + j)) (hv1.mono (Gho.mv_gle _ _) fun k i h => Gho.mv_loc.2 h) hleaf ho1.mv (fun _ => rfl))
  obtain ⟨hfit, _⟩ := splice_some hsp
  have hle2 := hle1.trans (Gho.mv_le (G := G1) (w := w) .out (.hc i off))
  refine ⟨undef, _, _, .inr ⟨?_, rfl⟩, hs2.setHeap hk (hget_some hcs) j2 hcr, hle2.trans (SR.setRow_le _ (by rw [hk]; simp)), fun h => absurd rfl h, fun h => absurd rfl h⟩
  have hst := run_storeVar (P := P) (w := w) (off := off) hi1 (cv := a.eval z) (by rw [hi2]; simpa using hcl) j2 (by have := j3.len; rw [hlen, ← hcl, Array.length_toList] at hfit; omega) (hvr.cells_one hok)
  simp [execOp, ho, Instr.storeAt, hxx, Instr.sureAddr, hst]
end Go.Lt
namespace Go.Lt
open Go
variable {P : Program} {CO : Nat → Code → AC → Prop} {C : Cfg} {N : Nat} {G : Gho} {w w' : World} {s s' : St} {a : Act} {v : AV}

/-- an operation that only makes a value -/
theorem sim_of {o : Oper} {ao : AOp} (h : ∀ {G : Gho} {w : World} {s s' : St} {a : Act} {v : AV}, SR CO C N G w s a → AOp.run C ao s = some (v, s') →
    s' = s ∧ ∃ cv, (execOp a.eval o).run P w = .ok (.value cv) w ∧ VT G v cv ∧ Own G w .out v cv) : Sim P CO C N o ao := by
  intro G w s s' a v hs hr
  obtain ⟨rfl, cv, h1, h2, h3⟩ := h hs hr
  exact ⟨cv, w, G, .inl h1, hs, .refl _ _, fun _ => h2, fun _ => h3⟩
/-- .. that is no slice with the right to grow -/
theorem sim_of' {o : Oper} {ao : AOp} (h : ∀ {G : Gho} {w : World} {s s' : St} {a : Act} {v : AV}, SR CO C N G w s a → AOp.run C ao s = some (v, s') →
    s' = s ∧ (∀ x xs, v ≠ .sl true (x :: xs)) ∧ ∃ cv, (execOp a.eval o).run P w = .ok (.value cv) w ∧ VT G v cv) : Sim P CO C N o ao :=
  sim_of fun hs hr => by
    obtain ⟨h1, h2, cv, h3, h4⟩ := h hs hr
    exact ⟨h1, cv, h3, h4, Own.of_ne h2⟩
theorem AV.clr_ne (u : AV) : ∀ x xs, u.clr ≠ .sl true (x :: xs) := by
  intro x xs h
  unfold AV.clr at h
  split at h <;> simp_all
theorem AV.nrm_ne (u : AV) : ∀ x xs, u.nrm ≠ .sl true (x :: xs) := by
  intro x xs h
  unfold AV.nrm at h
  split at h <;> simp_all

theorem sim_nilck {o : Oper} {x : Operand} {y : AO} (ho : o.op = .nilCheck x) (hx : odOk x y = true) : Sim P CO C N o (.nilck y) := by
  refine sim_of' fun {G w s s' a v} hs hr => ?_
  simp only [AOp.run] at hr
  split at hr <;> first | cases hr | skip
  · rename_i cs hy
    have hp := ev_eq hs hx hy (by simp) (by simp)
    generalize hxx : a.eval x = xv at hp
    cases hp with | cptr _ b off h =>
    exact ⟨rfl, by simp, _, by simp [execOp, ho, hxx], VT.of (.cptr _ _ _ h)⟩
  · rename_i i o' hy
    have hp := ev_v hs hx (by rw [hy]; simp)
    rw [hy] at hp
    obtain ⟨k, hk1, hk2⟩ := hp
    exact ⟨rfl, by simp, _, by simp [execOp, ho, hk2], ⟨k, hk1, rfl⟩⟩
  · rename_i i o' hy
    have hp := ev_eq hs hx hy (by simp) (by simp)
    generalize hxx : a.eval x = xv at hp
    cases hp with | hptr _ _ k h =>
    exact ⟨rfl, by simp, _, by simp [execOp, ho, hxx], VT.of (.hptr _ _ _ h)⟩
  · rename_i f p q hy
    have hp := ev_eq hs hx hy (by simp) (by simp)
    generalize hxx : a.eval x = xv at hp
    cases hp with | fn _ _ _ va vb ha hb =>
    exact ⟨rfl, by simp, _, by simp [execOp, ho, hxx], VT.of (.fn _ _ _ _ _ ha hb)⟩

/-! ### arithmetic -/
theorem shift_run {op : BinOp} {k yk : IntKind} {x y : Int} {u : AV} (h : shiftOp op k x y = some u) : ∃ cv, (Op.shift op k x yk y).run P w = .ok cv w ∧ VR G u cv ∧ ∃ k n, u = .int k n := by
  unfold shiftOp at h
  split at h
  · cases h
  · rename_i hy
    unfold Op.shift
    split at h <;> cases h <;> simp only [hy, if_false] <;> exact ⟨_, rfl, .int _ _, _, _, rfl⟩

theorem intOp_run {op : BinOp} {t : TypeId} {k : IntKind} {x y : Int} {u : AV} (h : intOp op k x y = some u) : ∃ cv, (binOp op t (.int k x) (.int k y)).run P w = .ok cv w ∧ VR G u cv ∧ ∀ b xs, u ≠ .sl b xs := by
  unfold intOp at h
  split at h <;> first | (cases h; done) | skip
  case h_4 | h_5 =>
    split at h <;> first | (cases h; done) | skip
    rename_i hb
    cases h
    simp only [binOp, Op.intDiv, ne_eq, not_true_eq_false, if_false, hb]
    exact ⟨_, rfl, .int _ _, by simp⟩
  all_goals
    cases h
    simp only [binOp, Op.intArith, Op.intBits, Op.intCmp, ne_eq, not_true_eq_false, if_false]
    exact ⟨_, rfl, by constructor, by simp⟩

theorem str_add_run {t : TypeId} {l m : List Nat} {b c : ByteArray} (hb : b.data.toList.map UInt8.toNat = l) (hc : c.data.toList.map UInt8.toNat = m) (hl : l.length + m.length ≤ 4611686018427387904) :
    (binOp .add t (.string b) (.string c)).run P w = .ok (.string (b ++ c)) w := by
  have h1 : b.size = l.length := by rw [← hb, List.length_map, Array.length_toList]; rfl
  have h2 : c.size = m.length := by rw [← hc, List.length_map, Array.length_toList]; rfl
  have : ¬ (((b.size + c.size : Nat) : Int) > IntKind.i64.max) := by
    have : IntKind.i64.max = 9223372036854775807 := by decide
    rw [this, h1, h2]; omega
  simp only [binOp, Op.stringOp, this, if_false]
  rfl

theorem u8map_inj {b c : ByteArray} : (b.data.toList.map UInt8.toNat = c.data.toList.map UInt8.toNat) ↔ b = c := by
  constructor
  · intro h
    have : b.data.toList = c.data.toList := (List.map_inj_right (fun x y h => UInt8.toNat_inj.1 h)).1 h
    cases b; cases c; simp_all
  · rintro rfl; rfl

theorem ByteArray.beq_toList (b c : ByteArray) : (b.toList == c.toList) = decide (b = c) := by
  have : b.toList = c.toList ↔ b = c := by
    constructor
    · intro h
      rw [ByteArray.toList_eq, ByteArray.toList_eq] at h
      cases b; cases c; simp_all
    · rintro rfl; rfl
  by_cases h : b = c
  · subst h; simp
  · have h' := mt this.1 h
    simp [h, h']

theorem eqGuard_else {op : BinOp} {t : TypeId} {x y : Operand} {u v : Value} (h1 : op ≠ .eql) (h2 : op ≠ .neq) : eqGuard op t x y u v = pure () := by
  cases op <;> first | rfl | contradiction

theorem equal_succ (t : TypeId) (x y : Value) : Op.equal t x y = Op.equalIn (9999 + 1) t x y := rfl

/-- what the comparisons that the machine knows come to -/
theorem equal_run {d : Nat} {c : Nat} {t : TypeId} {x y : Operand} {u v : AV} {cx cy : Value} {r : Bool} (hk : eqOk P c t x y = true) (hx : VR G u cx) (hy : VR G v cy) (h : eqV c u v = some r) (hc : 0 < c) (w : World) :
    (Op.equalIn (d + 1) t cx cy).run P w = .ok r w := by
  unfold eqV at h
  split at h <;> first | (cases h; done) | (exfalso; omega) | skip
  · cases h
    cases hx; cases hy
    simp only [eqOk] at hk
    split at hk <;> first | (cases hk; done) | skip
    rename_i hu
    simp [Op.equalIn, run_underlying hu]
  · cases h
    cases hx; cases hy
    simp only [eqOk] at hk
    split at hk <;> first | (cases hk; done) | skip
    rename_i hu
    simp [Op.equalIn, run_underlying hu]
  · cases h
    cases hx; cases hy
    simp only [eqOk] at hk
    split at hk <;> first | (cases hk; done) | skip
    rename_i hu
    simp [Op.equalIn, run_underlying hu]
  · cases h
    cases hx; cases hy
    simp only [eqOk] at hk
    split at hk <;> first | (cases hk; done) | skip
    rename_i hu
    simp [Op.equalIn, run_underlying hu]
  · cases h
    cases hx; cases hy
    simp only [eqOk] at hk
    split at hk <;> first | (cases hk; done) | skip
    rename_i hu
    simp [Op.equalIn, run_underlying hu]
  · cases h
    cases hx; cases hy
    simp only [eqOk] at hk
    split at hk <;> first | (cases hk; done) | skip
    rename_i hu
    simp [Op.equalIn, run_underlying hu]
  · cases h
    cases hx; cases hy
    simp only [eqOk] at hk
    split at hk <;> first | (cases hk; done) | skip
    rename_i hu
    simp [Op.equalIn, run_underlying hu]
  · cases h
    cases hx; cases hy
    simp only [eqOk] at hk
    split at hk <;> first | (cases hk; done) | skip
    rename_i hu
    simp [Op.equalIn, run_underlying hu]
  · cases h
    cases hx; cases hy
    simp only [eqOk] at hk
    split at hk <;> first | (cases hk; done) | skip
    rename_i hu
    simp [Op.equalIn, run_underlying hu]
  · cases h
    cases hx; cases hy
    simp only [eqOk] at hk
    split at hk <;> first | (cases hk; done) | skip
    rename_i hu
    simp [Op.equalIn, run_underlying hu]
  · cases h
    cases hx; cases hy
    simp only [eqOk] at hk
    split at hk <;> first | (cases hk; done) | skip
    rename_i hu
    simp [Op.equalIn, run_underlying hu]
  · cases h
    cases hx; cases hy
    simp only [eqOk] at hk
    split at hk <;> first | (cases hk; done) | skip
    rename_i hu
    simp [Op.equalIn, run_underlying hu]
  · simp [eqOk] at hk

/-- the values that are no numbers and no strings -/
def softV : Value → Bool
  | .bool _ | .pointer _ | .func .. | .nilFunc | .iface .. | .nilIface => true
  | _ => false
theorem binOp_soft {t : TypeId} {cx cy : Value} (hx : softV cx = true) (hy : softV cy = true) (neg : Bool) :
    binOp (if neg then .neq else .eql) t cx cy = (do let r ← Op.equal t cx cy; pure (.bool (if neg then !r else r))) := by
  cases cx <;> simp only [softV, Bool.false_eq_true] at hx <;> cases cy <;> simp only [softV, Bool.false_eq_true] at hy <;> cases neg <;> rfl

/-- '==' and '!=': one law -/
theorem eq_run {c : Nat} {t : TypeId} {x y : Operand} {u v : AV} {cx cy : Value} {r : Bool} (hk : eqOk P c t x y = true) (hx : VR G u cx) (hy : VR G v cy) (h : eqV c u v = some r) (neg : Bool) (w : World) :
    (eqGuard (if neg then .neq else .eql) t x y cx cy).run P w = .ok () w ∧ (binOp (if neg then .neq else .eql) t cx cy).run P w = .ok (.bool (if neg then !r else r)) w := by
  by_cases hc : c = 0
  · subst hc
    unfold eqV at h
    split at h <;> first | (cases h; done) | skip
    · split at h <;> cases h
      rename_i k a k' b hkk
      subst hkk
      cases hx; cases hy
      cases neg <;> simp [eqGuard_at_int, binOp, Op.intCmp] <;> rfl
    · cases h
      cases hx with | str _ p hp =>
      cases hy with | str _ q hq =>
      subst hp; subst hq
      have : (p.toList == q.toList) = (p.data.toList.map UInt8.toNat == q.data.toList.map UInt8.toNat) := by
        rw [ByteArray.beq_toList]
        by_cases he : p = q
        · subst he; simp
        · have := mt u8map_inj.1 he
          simp only [he, decide_false]
          symm
          exact beq_false_of_ne this
      cases neg <;> simp [eqGuard_at_string, binOp, Op.stringOp, this]
    all_goals simp_all
  · have he := equal_run (d := 9999) hk hx hy h (by omega) w
    rw [← equal_succ] at he
    have hsoft : softV cx = true ∧ softV cy = true ∧ (eqGuard (if neg then .neq else .eql) t x y cx cy).run P w = .ok () w := by
      unfold eqV at h
      split at h <;> first | (cases h; done) | (exfalso; omega) | skip
      all_goals first | (simp [eqOk] at hk; done) | skip
      all_goals cases hx; cases hy
      all_goals refine ⟨rfl, rfl, ?_⟩
      all_goals cases neg <;> first | rfl | skip
      all_goals
        simp only [eqOk] at hk
        split at hk <;> first | (cases hk; done) | skip
        cases x <;> cases y <;> first | rfl | (simp at hk; done)
    refine ⟨hsoft.2.2, ?_⟩
    rw [binOp_soft hsoft.1 hsoft.2.1]
    simp [he]

theorem sim_bin {o : Oper} {op : BinOp} {t : TypeId} {x y : Operand} {c : Nat} {x' y' : AO} (ho : ∃ q, o.op = .binOp op t x y q) (hx : odOk x x' = true) (hy : odOk y y' = true)
    (he : (op = .eql ∨ op = .neq) → eqOk P c t x y = true) : Sim P CO C N o (.bin c op x' y') := by
  obtain ⟨q, ho⟩ := ho
  refine sim_of' fun {G w s s' a v} hs hr => ?_
  simp only [AOp.run] at hr
  split at hr <;> first | (cases hr; done) | skip
  rename_i u hu
  cases hr
  have hgo : ∀ cv, (eqGuard op t x y (a.eval x) (a.eval y)).run P w = .ok () w → (binOp op t (a.eval x) (a.eval y)).run P w = .ok cv w → (execOp a.eval o).run P w = .ok (.value cv) w := by
    intro cv h1 h2
    simp [execOp, ho, h1, h2]
  have evx : ∀ {c : AV}, Env.v C s.e x' = c → c ≠ .undef → (∀ i o, c ≠ .lptr i o) → VR G c (a.eval x) := fun h h1 h2 => ev_eq hs hx h h1 h2
  have evy : ∀ {c : AV}, Env.v C s.e y' = c → c ≠ .undef → (∀ i o, c ≠ .lptr i o) → VR G c (a.eval y) := fun h h1 h2 => ev_eq hs hy h h1 h2
  unfold binA at hu
  split at hu
  · split at hu <;> first | (cases hu; done) | skip
    rename_i k p k' q hxe hye
    have h1 := evx hxe (by simp) (by simp)
    have h2 := evy hye (by simp) (by simp)
    generalize a.eval x = xv at h1 hgo
    generalize a.eval y = yv at h2 hgo
    cases h1; cases h2
    obtain ⟨cv, k1, k2, _, _, rfl⟩ := shift_run (P := P) (w := w) (G := G) (yk := k') hu
    exact ⟨rfl, by simp, cv, hgo cv rfl (by rw [binOp_shl]; exact k1), VT.of k2⟩
  · split at hu <;> first | (cases hu; done) | skip
    rename_i k p k' q hxe hye
    have h1 := evx hxe (by simp) (by simp)
    have h2 := evy hye (by simp) (by simp)
    generalize a.eval x = xv at h1 hgo
    generalize a.eval y = yv at h2 hgo
    cases h1; cases h2
    obtain ⟨cv, k1, k2, _, _, rfl⟩ := shift_run (P := P) (w := w) (G := G) (yk := k') hu
    exact ⟨rfl, by simp, cv, hgo cv rfl (by rw [binOp_shr]; exact k1), VT.of k2⟩
  · split at hu <;> first | (cases hu; done) | skip
    rename_i b hb
    cases hu
    have hux : Env.v C s.e x' ≠ .undef ∧ (∀ i o, Env.v C s.e x' ≠ .lptr i o) ∧ Env.v C s.e y' ≠ .undef ∧ (∀ i o, Env.v C s.e y' ≠ .lptr i o) := by
      unfold eqV at hb
      split at hb <;> first | (cases hb; done) | simp_all
    obtain ⟨k1, k2⟩ := eq_run (he (.inl rfl)) (evx rfl hux.1 hux.2.1) (evy rfl hux.2.2.1 hux.2.2.2) hb false w
    exact ⟨rfl, by simp, _, hgo _ k1 k2, VT.of (.bool _)⟩
  · split at hu <;> first | (cases hu; done) | skip
    rename_i b hb
    cases hu
    have hux : Env.v C s.e x' ≠ .undef ∧ (∀ i o, Env.v C s.e x' ≠ .lptr i o) ∧ Env.v C s.e y' ≠ .undef ∧ (∀ i o, Env.v C s.e y' ≠ .lptr i o) := by
      unfold eqV at hb
      split at hb <;> first | (cases hb; done) | simp_all
    obtain ⟨k1, k2⟩ := eq_run (he (.inr rfl)) (evx rfl hux.1 hux.2.1) (evy rfl hux.2.2.1 hux.2.2.2) hb true w
    exact ⟨rfl, by simp, _, hgo _ k1 k2, VT.of (.bool _)⟩
  · rename_i n1 n2 n3 n4
    have hg := eqGuard_else (t := t) (x := x) (y := y) (u := a.eval x) (v := a.eval y) (by simpa using n3) (by simpa using n4)
    unfold arithA at hu
    split at hu <;> first | (cases hu; done) | skip
    · rename_i k p k' q hxe hye
      split at hu <;> first | (cases hu; done) | skip
      rename_i hkk
      subst hkk
      have h1 := evx hxe (by simp) (by simp)
      have h2 := evy hye (by simp) (by simp)
      obtain ⟨cv, k1, k2, k3⟩ := intOp_run (P := P) (w := w) (G := G) (t := t) hu
      generalize a.eval x = xv at h1 hgo hg
      generalize a.eval y = yv at h2 hgo hg
      cases h1; cases h2
      exact ⟨rfl, fun x xs => k3 _ _, cv, hgo cv (by rw [hg]; rfl) k1, VT.of k2⟩
    · rename_i l m hxe hye
      split at hu <;> first | (cases hu; done) | skip
      split at hu <;> first | (cases hu; done) | skip
      rename_i hle
      cases hu
      have h1 := evx hxe (by simp) (by simp)
      have h2 := evy hye (by simp) (by simp)
      generalize a.eval x = xv at h1 hgo hg
      generalize a.eval y = yv at h2 hgo hg
      cases h1 with | str _ p hp =>
      cases h2 with | str _ q hq =>
      refine ⟨rfl, by simp, _, hgo _ (by rw [hg]; rfl) (str_add_run hp hq (Nat.le_of_ble_eq_true hle)), VT.of (.str _ _ ?_)⟩
      simp [hp, hq]


/-! ### structs of numbers, strings, bools -/
theorem fields_run {d : Nat} {w : World} : ∀ {L : List Field} {ks : List Nat} {i : Nat} {cs ds : List AV} {xs ys : Array Value} {r : Bool}, fieldsOk P L ks i = true → cellsEqK ks cs ds = some r →
    (∀ j c, cs[j]? = some c → ∃ v, xs[i + j]? = some v ∧ VR G c v) → (∀ j c, ds[j]? = some c → ∃ v, ys[i + j]? = some v ∧ VR G c v) →
    (forIn L ((none : Option Bool), ()) fun (f : Field) _ =>
            if f.name = "_" then pure (ForInStep.yield ((none : Option Bool), ()))
            else do
              let a ← part f.type xs f.offset
              let b ← part f.type ys f.offset
              let c ← Op.equalIn (d + 1) f.type a b
              if c = false then pure (ForInStep.done (some false, ())) else pure (ForInStep.yield (none, ())) : Sem (Option Bool × Unit)).run P w = .ok ((if r then none else some false), ()) w := by
  intro L
  induction L with
  | nil =>
    intro ks i cs ds xs ys r h he _ _
    cases ks <;> simp only [fieldsOk, Bool.false_eq_true] at h
    cases cs <;> cases ds <;> simp only [cellsEqK, Option.some.injEq, reduceCtorEq] at he
    subst he
    rfl
  | cons f L ih =>
    intro ks i cs ds xs ys r h he hx hy
    cases ks with
    | nil => simp [fieldsOk] at h
    | cons k ks =>
    simp only [fieldsOk, Bool.and_eq_true, bne_iff_ne, ne_eq] at h
    obtain ⟨⟨⟨h1, h2⟩, h3⟩, h4⟩ := h
    have h2 := beq_iff.1 h2
    cases cs with
    | nil => simp [cellsEqK] at he
    | cons c cs =>
    cases ds with
    | nil => simp [cellsEqK] at he
    | cons e ds =>
    obtain ⟨vx, gx, rx⟩ := hx 0 c rfl
    obtain ⟨vy, gy, ry⟩ := hy 0 e rfl
    simp only [Nat.add_zero] at gx gy
    simp only [cellsEqK] at he
    have hstep : ∀ q, kindEq k c e = some q → (do
              let a ← part f.type xs f.offset
              let b ← part f.type ys f.offset
              let c ← Op.equalIn (d + 1) f.type a b
              if c = false then pure (ForInStep.done (some false, ())) else pure (ForInStep.yield (none, ())) : Sem (ForInStep (Option Bool × Unit))).run P w = .ok (if q = false then ForInStep.done (some false, ()) else ForInStep.yield (none, ())) w := by
      intro q hq
      unfold kindEq at hq
      split at hq <;> first | (cases hq; done) | skip
      · split at hq <;> cases hq
        rename_i k1 a k2 b hk
        subst hk
        cases rx; cases ry
        split at h3 <;> first | (cases h3; done) | skip
        all_goals first | contradiction | skip
        rename_i hu _
        have hp : ∀ (zs : Array Value) (v : Value), zs[i]? = some v → (part f.type zs f.offset).run P w = .ok v w := fun zs v hz => by
          simp [part, isAgg, run_underlying hu, h2, hz]
        simp only [Sem.run_bind, hp _ _ gx, hp _ _ gy, Result.andThen_ok]
        simp [Op.equalIn, run_underlying hu]
        split <;> rfl
      · cases hq
        cases rx with | str _ p hp' =>
        cases ry with | str _ q hq' =>
        subst hp'; subst hq'
        split at h3 <;> first | (cases h3; done) | skip
        all_goals first | contradiction | skip
        rename_i hu _
        have hp : ∀ (zs : Array Value) (v : Value), zs[i]? = some v → (part f.type zs f.offset).run P w = .ok v w := fun zs v hz => by
          simp [part, isAgg, run_underlying hu, h2, hz]
        simp only [Sem.run_bind, hp _ _ gx, hp _ _ gy, Result.andThen_ok]
        have : (p == q) = (p.data.toList.map UInt8.toNat == q.data.toList.map UInt8.toNat) := by
          have hpq : (p == q) = (p.data == q.data) := rfl
          rw [hpq]
          by_cases he : p = q
          · subst he; simp
          · have h1 := mt u8map_inj.1 he
            have h2 : ¬ p.data = q.data := fun h => he (ByteArray.ext h)
            rw [beq_false_of_ne h1, beq_false_of_ne h2]
        simp [Op.equalIn, run_underlying hu, this]
        split <;> rfl
      · cases hq
        cases rx; cases ry
        split at h3 <;> first | (cases h3; done) | skip
        all_goals first | contradiction | skip
        rename_i hu _
        have hp : ∀ (zs : Array Value) (v : Value), zs[i]? = some v → (part f.type zs f.offset).run P w = .ok v w := fun zs v hz => by
          simp [part, isAgg, run_underlying hu, h2, hz]
        simp only [Sem.run_bind, hp _ _ gx, hp _ _ gy, Result.andThen_ok]
        simp [Op.equalIn, run_underlying hu]
        split <;> rfl
    rw [List.forIn_cons]
    simp only [h1, if_false]
    split at he <;> first | (cases he; done) | skip
    · rename_i hq
      simp only [Sem.run_bind, hstep _ hq, Result.andThen_ok]
      refine ih h4 he (fun j c' hc => ?_) (fun j c' hc => ?_)
      · obtain ⟨v, g, rr⟩ := hx (j + 1) c' (by simpa using hc)
        exact ⟨v, by rw [← g]; congr 1; omega, rr⟩
      · obtain ⟨v, g, rr⟩ := hy (j + 1) c' (by simpa using hc)
        exact ⟨v, by rw [← g]; congr 1; omega, rr⟩
    · rename_i hq
      cases he
      simp only [Sem.run_bind, hstep _ hq, Result.andThen_ok]
      rfl

theorem sim_eqS {o : Oper} {neg : Bool} {t : TypeId} {x y : Operand} {ks : List Nat} {x' y' : AO} (ho : ∃ q, o.op = .binOp (if neg then .neq else .eql) t x y q) (hx : odOk x x' = true) (hy : odOk y y' = true)
    (he : eqsOk P t ks = true) : Sim P CO C N o (.eqS neg ks x' y') := by
  obtain ⟨q, ho⟩ := ho
  refine sim_of' fun {G w s s' a v} hs hr => ?_
  simp only [AOp.run] at hr
  split at hr <;> first | (cases hr; done) | skip
  rename_i cs ds hxe hye
  split at hr <;> first | (cases hr; done) | skip
  rename_i r hr'
  cases hr
  simp only [eqsOk, Bool.and_eq_true, Bool.not_eq_true'] at he
  obtain ⟨⟨e1, e2⟩, e3⟩ := he
  split at e3 <;> first | (cases e3; done) | skip
  rename_i fs hu
  have h1 := ev_eq hs hx hxe (by simp) (by simp)
  have h2 := ev_eq hs hy hye (by simp) (by simp)
  have hgo : ∀ cv, (eqGuard (if neg then .neq else .eql) t x y (a.eval x) (a.eval y)).run P w = .ok () w → (binOp (if neg then .neq else .eql) t (a.eval x) (a.eval y)).run P w = .ok cv w → (execOp a.eval o).run P w = .ok (.value cv) w := by
    intro cv h1 h2
    simp [execOp, ho, h1, h2]
  generalize a.eval x = xv at h1 hgo
  generalize a.eval y = yv at h2 hgo
  cases h1 with | agg _ xs _ hvx =>
  cases h2 with | agg _ ys _ hvy =>
  refine ⟨rfl, by simp, _, hgo (.bool (if neg then !r else r)) ?_ ?_, VT.of ?_⟩
  · cases neg <;> simp [eqGuard, e2]
  · have hb : binOp (if neg then .neq else .eql) t (.agg ⟨xs⟩) (.agg ⟨ys⟩) = (do let r ← Op.equal t (.agg ⟨xs⟩) (.agg ⟨ys⟩); pure (.bool (if neg then !r else r))) := by cases neg <;> rfl
    have key : ∀ d m, m = d + 1 → (Op.equalIn (m + 1) t (.agg ⟨xs⟩) (.agg ⟨ys⟩)).run P w = .ok r w := by
      intro d m hm
      have hf := fields_run (P := P) (G := G) (d := d) (w := w) (xs := ⟨xs⟩) (ys := ⟨ys⟩) e3 hr' (fun j c hc => by
        obtain ⟨v, k1, k2⟩ := hvx.get j c hc
        exact ⟨v, by simpa using k1, k2⟩) (fun j c hc => by
        obtain ⟨v, k1, k2⟩ := hvy.get j c hc
        exact ⟨v, by simpa using k1, k2⟩)
      rw [← hm] at hf
      simp [Op.equalIn, run_underlying hu, e1]
      rw [← Array.forIn_toList]
      rw [hf]
      cases r <;> rfl
    have hrun : (Op.equal t (.agg ⟨xs⟩) (.agg ⟨ys⟩)).run P w = .ok r w := by
      rw [equal_succ]
      exact key 9998 9999 rfl
    rw [hb]
    simp [hrun]
  · cases neg <;> exact .bool _
end Go.Lt
namespace Go.Lt
open Go
variable {P : Program} {CO : Nat → Code → AC → Prop} {C : Cfg} {N : Nat} {G : Gho} {w w' : World} {s s' : St} {a : Act} {v : AV}

theorem sim_un {o : Oper} {op : UnOp} {x : Operand} {y : AO} (ho : ∃ t, o.op = .unOp op t x) (hx : odOk x y = true) : Sim P CO C N o (.un op y) := by
  obtain ⟨t, ho⟩ := ho
  refine sim_of' fun {G w s s' a v} hs hr => ?_
  simp only [AOp.run] at hr
  split at hr <;> first | (cases hr; done) | skip
  rename_i u hu
  cases hr
  unfold unA at hu
  split at hu <;> first | (cases hu; done) | skip
  · rename_i b hb
    cases hu
    have h1 := ev_eq hs hx hb (by simp) (by simp)
    generalize hxx : a.eval x = xv at h1
    cases h1
    exact ⟨rfl, by simp, _, by simp [execOp, ho, hxx, Op.unary], VT.of (.bool _)⟩
  · rename_i k n hb
    cases hu
    have h1 := ev_eq hs hx hb (by simp) (by simp)
    generalize hxx : a.eval x = xv at h1
    cases h1
    exact ⟨rfl, by simp, _, by simp [execOp, ho, hxx, Op.unary, Op.intArith], VT.of (.int _ _)⟩

theorem sim_cvI {o : Oper} {src dst : TypeId} {k : IntKind} {x : Operand} {y : AO} (ho : o.op = .convert src dst x) (hx : odOk x y = true) (hs' : (P.underlying src).isSome = true) (hd : P.underlying dst = some (.int k)) : Sim P CO C N o (.cvI k y) := by
  refine sim_of' fun {G w s s' a v} hs hr => ?_
  simp only [AOp.run] at hr
  split at hr <;> first | (cases hr; done) | skip
  rename_i k' n hb
  cases hr
  have h1 := ev_eq hs hx hb (by simp) (by simp)
  generalize hxx : a.eval x = xv at h1
  cases h1
  obtain ⟨d, hd'⟩ := Option.isSome_iff_exists.mp hs'
  exact ⟨rfl, by simp, _, by simp [execOp, ho, hxx, convert, run_underlying hd', run_underlying hd, Conv.intToInt], VT.of (.int _ _)⟩

theorem sim_ifc {o : Oper} {t : TypeId} {x : Operand} {y : AO} (ho : o.op = .makeInterface t x) (hx : odOk x y = true) {d : TypeDesc} (ht : P.underlying t = some d) (hd : ∀ ms, d ≠ .interface ms) : Sim P CO C N o (.ifc t y) := by
  refine sim_of' fun {G w s s' a v} hs hr => ?_
  simp only [AOp.run] at hr
  split at hr <;> first | (cases hr; done) | skip
  rename_i hok
  cases hr
  have h1 := ev_ok hs hx hok
  refine ⟨rfl, by simp, .iface t (a.eval x), ?_, VT.of (.ifc _ _ _ h1.nrm)⟩
  have : (Instr.makeInterface t (a.eval x)).run P w = .ok (.iface t (a.eval x)) w := by
    unfold Instr.makeInterface
    rw [Sem.run_bind, run_underlying ht]
    cases d <;> first | rfl | exact absurd rfl (hd _)
  simp [execOp, ho, this]

theorem odsOk_vrs (hs : SR CO C N G w s a) : ∀ {xs : List Operand} {ys : List AO}, odsOk xs ys = true → allOk ((Env.vs C s.e ys).map AV.nrm) = true → VRs G ((Env.vs C s.e ys).map AV.nrm) (xs.map a.eval)
  | [], [], _, _ => .nil
  | [], _ :: _, h, _ => by simp [odsOk] at h
  | _ :: _, [], h, _ => by simp [odsOk] at h
  | x :: xs, y :: ys, h, hk => by
    simp only [odsOk, Bool.and_eq_true] at h
    simp only [Env.vs, List.map_cons, allOk, Bool.and_eq_true, AV.ok_nrm] at hk ⊢
    exact .cons _ _ _ _ (ev_ok hs h.1 hk.1).nrm (odsOk_vrs hs h.2 hk.2)

theorem sim_mkfn {o : Oper} {f : Nat} {xs ys : Array Operand} {p q : List AO} (ho : o.op = .makeFunc (.func f) xs ys) (hx : odsOk xs.toList p = true) (hy : odsOk ys.toList q = true) : Sim P CO C N o (.mkfn f p q) := by
  refine sim_of' fun {G w s s' a v} hs hr => ?_
  simp only [AOp.run] at hr
  split at hr <;> first | (cases hr; done) | skip
  rename_i hok
  cases hr
  simp only [Bool.and_eq_true] at hok
  refine ⟨rfl, by simp, .func (.func f) (xs.map a.eval) (ys.map a.eval), by simp [execOp, ho, Instr.makeFunc], VT.of ?_⟩
  have h1 := odsOk_vrs hs hx hok.1
  have h2 := odsOk_vrs hs hy hok.2
  have e1 : xs.toList.map a.eval = (xs.map a.eval).toList := by simp
  have e2 : ys.toList.map a.eval = (ys.map a.eval).toList := by simp
  rw [e1] at h1
  rw [e2] at h2
  exact .fn f _ _ (xs.map a.eval).toList (ys.map a.eval).toList h1 h2

/-! ### places -/
theorem sim_fad {o : Oper} {t : TypeId} {x : Operand} {i off : Nat} {y : AO} (ho : o.op = .fieldAddr t x i) (hx : odOk x y = true) {fs : Array Field} {f : Field} {inf : TypeInfo} (ht : P.underlying t = some (.struct fs))
    (hf : fs[i]? = some f) (hoff : f.offset = off) (hi : P.info? f.type = some inf) (hsz : inf.size ≠ 0) : Sim P CO C N o (.fad off y) := by
  refine sim_of' fun {G w s s' a v} hs hr => ?_
  have hrun : ∀ b o', a.eval x = .pointer (some ⟨b, o', none⟩) → (execOp a.eval o).run P w = .ok (.value (.pointer (some ⟨b, o' + off, none⟩))) w := by
    intro b o' he
    simp [execOp, ho, Instr.fieldAt, run_underlying ht, hf, he, Instr.sureAddr, fieldPlace, sizeOf, typeInfo, hi, hsz, hoff, add_lit]
  simp only [AOp.run] at hr
  split at hr <;> first | (cases hr; done) | skip
  · rename_i cs hy
    cases hr
    have h1 := ev_eq hs hx hy (by simp) (by simp)
    generalize hxx : a.eval x = xv at h1
    cases h1 with | cptr _ b o' h =>
    exact ⟨rfl, by simp, _, hrun _ _ hxx, VT.of (.cptr _ _ _ (h.drop off))⟩
  · rename_i j o' hy
    cases hr
    have hp := ev_v hs hx (by rw [hy]; simp)
    rw [hy] at hp
    obtain ⟨k, hk1, hk2⟩ := hp
    exact ⟨rfl, by simp, _, hrun _ _ hk2, ⟨k, hk1, rfl⟩⟩
  · rename_i j o' hy
    cases hr
    have h1 := ev_eq hs hx hy (by simp) (by simp)
    generalize hxx : a.eval x = xv at h1
    cases h1 with | hptr _ _ k h =>
    exact ⟨rfl, by simp, _, hrun _ _ hxx, VT.of (.hptr _ _ _ h)⟩

/-- a part of a struct's or an array's cells -/
theorem part_run {t : TypeId} {sh : Option Nat} (hsh : shOk P t sh = true) {cs : List AV} {vs : List Value} (hv : VRs G cs vs) (hl : allLeaf cs = true) {off : Nat} {u : AV} (hu : readSh sh (cs.drop off) = some u) :
    ∃ cv, (part t ⟨vs⟩ off).run P w = .ok cv w ∧ VR G u.clr cv := by
  cases sh with
  | none =>
    obtain ⟨d, i, h1, h2, h3⟩ := shOk_none hsh
    unfold readSh at hu
    simp only at hu
    split at hu
    · rename_i c r hd
      split at hu <;> first | cases hu | skip
      have hc : cs[off]? = some u := by
        have : (cs.drop off)[0]? = some u := by rw [hd]; rfl
        simpa [List.getElem?_drop] using this
      obtain ⟨cv, k1, k2⟩ := hv.get off u hc
      refine ⟨cv, ?_, k2.clr⟩
      rw [part, Sem.run_bind, run_isAgg h1, h3]
      simp [k1]
    · cases hu
  | some n =>
    obtain ⟨d, i, h1, h2, h3, h4⟩ := shOk_some hsh
    unfold readSh at hu
    simp only at hu
    split at hu <;> first | cases hu | skip
    refine ⟨.agg ⟨(vs.drop off).take n⟩, ?_, ?_⟩
    · rw [part, Sem.run_bind, run_isAgg h1, h4]
      simp [sizeOf, typeInfo, h2, h3, List.extract_eq_take_drop]
    · exact VR.clr (.agg _ _ (allLeaf_map AV.leaf_clr (allLeaf_take (allLeaf_drop hl off) n)) (VRs.map _ (fun _ _ => VR.clr) ((hv.drop off).take n)))

theorem sim_fld {o : Oper} {t : TypeId} {x : Operand} {i off : Nat} {sh : Option Nat} {y : AO} (ho : o.op = .field t x i) (hx : odOk x y = true) {fs : Array Field} {f : Field} (ht : P.underlying t = some (.struct fs))
    (hf : fs[i]? = some f) (hoff : f.offset = off) (hsh : shOk P f.type sh = true) : Sim P CO C N o (.fld off sh y) := by
  refine sim_of' fun {G w s s' a v} hs hr => ?_
  simp only [AOp.run] at hr
  split at hr <;> first | (cases hr; done) | skip
  rename_i cs hy
  split at hr <;> first | (cases hr; done) | skip
  rename_i u hu
  cases hr
  have h1 := ev_eq hs hx hy (by simp) (by simp)
  generalize hxx : a.eval x = xv at h1
  cases h1 with | agg _ vs hl h =>
  obtain ⟨cv, k1, k2⟩ := part_run (P := P) (w := w) hsh h hl hu
  refine ⟨rfl, AV.clr_ne u, cv, ?_, VT.of k2⟩
  simp [execOp, ho, hxx, Instr.field, run_underlying ht, hf, asAgg, hoff, k1]

theorem sim_ixa {o : Oper} {t e : TypeId} {x i : Operand} {m es : Nat} {sh : Option Nat} {y j : AO} (ho : o.op = .index t x i) (hx : odOk x y = true) (hi : odOk i j = true) (ht : P.underlying t = some (.array m e))
    (hes : sizeIs P e es = true) (hsh : shOk P e sh = true) : Sim P CO C N o (.ixa m es sh y j) := by
  refine sim_of' fun {G w s s' a v} hs hr => ?_
  simp only [AOp.run] at hr
  split at hr <;> first | (cases hr; done) | skip
  rename_i cs k n hy hj
  split at hr <;> first | (cases hr; done) | skip
  rename_i hn
  split at hr <;> first | (cases hr; done) | skip
  rename_i u hu
  cases hr
  have h1 := ev_eq hs hx hy (by simp) (by simp)
  have h2 := ev_eq hs hi hj (by simp) (by simp)
  generalize hxx : a.eval x = xv at h1
  generalize hjj : a.eval i = jv at h2
  cases h1 with | agg _ vs hl h =>
  cases h2
  obtain ⟨inf, hi1, hi2⟩ := sizeIs_spec hes
  obtain ⟨cv, k1, k2⟩ := part_run (P := P) (w := w) hsh h hl hu
  refine ⟨rfl, AV.clr_ne u, cv, ?_, VT.of k2⟩
  simp [execOp, ho, hxx, hjj, Instr.index, asIntOf, run_underlying ht, hn, sizeOf, typeInfo, hi1, hi2, k1]

theorem sim_ixs {o : Oper} {t : TypeId} {x i : Operand} {y j : AO} (ho : o.op = .index t x i) (hx : odOk x y = true) (hi : odOk i j = true) (ht : P.underlying t = some .string) : Sim P CO C N o (.ixs y j) := by
  refine sim_of' fun {G w s s' a v} hs hr => ?_
  simp only [AOp.run] at hr
  split at hr <;> first | (cases hr; done) | skip
  rename_i l k n hy hj
  split at hr <;> first | (cases hr; done) | skip
  rename_i hn
  split at hr <;> first | (cases hr; done) | skip
  rename_i c hc
  cases hr
  have h1 := ev_eq hs hx hy (by simp) (by simp)
  have h2 := ev_eq hs hi hj (by simp) (by simp)
  generalize hxx : a.eval x = xv at h1
  generalize hjj : a.eval i = jv at h2
  cases h1 with | str _ b hb =>
  cases h2
  subst hb
  rw [List.getElem?_map] at hc
  cases hq : b.data.toList[n.toNat]? with
  | none => simp [hq] at hc
  | some q =>
    simp only [hq, Option.map_some, Option.some.injEq] at hc
    subst hc
    have hb : b[n.toNat]? = some q := by
      have hlt : n.toNat < b.data.toList.length := (List.getElem?_eq_some_iff.1 hq).1
      have hv : b.data.toList[n.toNat] = q := (List.getElem?_eq_some_iff.1 hq).2
      have hlt' : n.toNat < b.size := by rw [Array.length_toList] at hlt; exact hlt
      rw [getElem?_pos b n.toNat hlt']
      congr 1
    refine ⟨rfl, by simp, .int .u8 q.toNat, ?_, VT.of (.int _ _)⟩
    simp [execOp, ho, hxx, hjj, Instr.index, asIntOf, run_underlying ht, hn, hb]
end Go.Lt
