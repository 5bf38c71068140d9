/-
  Lt: operations simulate: slices and strings.
  Lt: operations simulate: structs, slice literals, conversions of strings.
-/
import Derived.Test.YtjoidjpmpbidhaaDoorLtC
import Derived.Lib.Strings
import Derived.Great.FillDense
import Derived.Laws.AppendOwn
import Derived.Deep.AppendSrc
set_option linter.all false
namespace Go.Lt
open Go
variable {P : Program} {CO : Nat → Code → AC → Prop} {C : Cfg} {N : Nat} {G : Gho} {w w' : World} {s s' : St} {a : Act} {v : AV}

theorem sim_iad {o : Oper} {t e : TypeId} {x i : Operand} {es : Nat} {y j : AO} (ho : o.op = .indexAddr t x i) (hx : odOk x y = true) (hi : odOk i j = true) (ht : P.underlying t = some (.slice e)) (hes : sizeIs P e es = true) : Sim P CO C N o (.iad es y j) := by
  refine sim_of' fun {G w s s' a v} hs hr => ?_
  obtain ⟨inf, hi1, hi2⟩ := sizeIs_spec hes
  have hrun : ∀ (b off n c : Nat) (k : IntKind) (m : Int), a.eval x = .slice (some ⟨b, off, none⟩) n c → a.eval i = .int k m → 0 ≤ m → m.toNat < n → (execOp a.eval o).run P w = .ok (.value (.pointer (some ⟨b, off + m.toNat * es, none⟩))) w := by
    intro b off n c k m h1 h2 h3 h4
    have : 0 ≤ m ∧ m < (n : Int) := ⟨h3, by omega⟩
    simp [execOp, ho, h1, h2, Instr.indexAt, asIntOf, run_underlying ht, this, sizeOf, typeInfo, hi1, hi2, add_lit]
  simp only [AOp.run] at hr
  split at hr <;> first | (cases hr; done) | skip
  · rename_i o' xs k n hy hj
    split at hr <;> first | (cases hr; done) | skip
    rename_i hn
    split at hr <;> first | (cases hr; done) | skip
    rename_i u hu
    split at hr <;> first | (cases hr; done) | skip
    rename_i hes'
    have hes' := beq_iff.1 hes'
    cases hr
    have h1 := ev_eq hs hx hy (by simp) (by simp)
    have h2 := ev_eq hs hi hj (by simp) (by simp)
    generalize hxx : a.eval x = xv at h1
    generalize hjj : a.eval i = jv at h2
    cases h2
    have hlt : n.toNat < xs.length := (List.getElem?_eq_some_iff.1 hu).1
    cases h1 with
    | sl0f => simp at hlt
    | sl0t => simp at hlt
    | sl _ x0 xs cs b off es2 m c hes2 hcs hm hc h =>
      subst hm
      have he : es2 = es := by rw [← hes2 u (List.mem_of_getElem? hu), hes']
      subst he
      refine ⟨rfl, by simp, _, hrun _ _ _ _ _ _ hxx hjj hn hlt, VT.of (.cptr _ _ _ ?_)⟩
      rw [← flat_elem hes2 hu, ← hcs]
      exact (h.drop _).take _
  · rename_i b o' es2 m k n hy hj
    split at hr <;> first | (cases hr; done) | skip
    rename_i hn
    split at hr <;> first | (cases hr; done) | skip
    rename_i hlt
    simp only [Bool.and_eq_true] at hlt
    have h3 := beq_iff.1 hlt.2
    have h4 : n.toNat < m := Nat.le_of_ble_eq_true hlt.1
    cases hr
    have h1 := ev_eq hs hx hy (by simp) (by simp)
    have h2 := ev_eq hs hi hj (by simp) (by simp)
    generalize hxx : a.eval x = xv at h1
    generalize hjj : a.eval i = jv at h2
    cases h2
    cases h1 with | hsl _ _ _ _ kk c hk hc =>
    exact ⟨rfl, by simp, _, hrun _ _ _ _ _ _ hxx hjj hn h4, VT.of (.hptr _ _ kk hk)⟩

theorem sim_iaa {o : Oper} {t e : TypeId} {x i : Operand} {m es : Nat} {y j : AO} (ho : o.op = .indexAddr t x i) (hx : odOk x y = true) (hi : odOk i j = true) (ht : P.underlying t = some (.array m e)) (hes : sizeIs P e es = true) : Sim P CO C N o (.iaa m es y j) := by
  refine sim_of' fun {G w s s' a v} hs hr => ?_
  obtain ⟨inf, hi1, hi2⟩ := sizeIs_spec hes
  simp only [AOp.run] at hr
  split at hr <;> first | (cases hr; done) | skip
  rename_i cs k n hy hj
  split at hr <;> first | (cases hr; done) | skip
  rename_i hn
  cases hr
  have h1 := ev_eq hs hx hy (by simp) (by simp)
  have h2 := ev_eq hs hi hj (by simp) (by simp)
  generalize hxx : a.eval x = xv at h1
  generalize hjj : a.eval i = jv at h2
  cases h2
  cases h1 with | cptr _ b off h =>
  refine ⟨rfl, by simp, .pointer (some ⟨b, off + n.toNat * es, none⟩), ?_, VT.of (.cptr _ _ _ (h.drop _))⟩
  simp [execOp, ho, hxx, hjj, Instr.indexAt, asIntOf, run_underlying ht, Instr.sureAddr, hn, sizeOf, typeInfo, hi1, hi2, add_lit]

theorem sim_ext {o : Oper} {x : Operand} {i : Nat} {y : AO} (ho : o.op = .extract x i) (hx : odOk x y = true) : Sim P CO C N o (.ext y i) := by
  refine sim_of' fun {G w s s' a v} hs hr => ?_
  simp only [AOp.run] at hr
  split at hr <;> first | (cases hr; done) | skip
  rename_i vs hy
  split at hr <;> first | (cases hr; done) | skip
  rename_i u hu
  split at hr <;> first | (cases hr; done) | skip
  cases hr
  have h1 := ev_eq hs hx hy (by simp) (by simp)
  generalize hxx : a.eval x = xv at h1
  cases h1 with | tup _ ws h =>
  obtain ⟨cv, k1, k2⟩ := h.get i u hu
  exact ⟨rfl, AV.clr_ne u, cv, by simp [execOp, ho, hxx, Instr.extract, k1], VT.of k2.clr⟩

theorem run_builtin {o : Oper} {b : Builtin} {c : Go.Call} (ho : o.op = .call c) (hb : c.callee = .builtin b) (ρ : Operand → Value) : ∃ cs, execOp ρ o = builtin b c.argTypes o.type cs (c.args.map ρ) := by
  simp only [execOp, ho, resolve, hb, invoke]
  exact ⟨_, rfl⟩
theorem args_eval {c : Go.Call} {xs : List Operand} (ha : c.args.toList = xs) (ρ : Operand → Value) : c.args.map ρ = (xs.map ρ).toArray := by
  subst ha
  apply Array.toList_inj.1
  simp

theorem hgetM_some {h : List Blk} {i : Nat} {es : List (AV × AV)} (hh : hgetM h i = some es) : h[i]? = some (.map es) := by
  unfold hgetM at hh
  split at hh
  · cases hh; assumption
  · cases hh
theorem StRel.maps (hs : StRel CO G s.h w) {k i : Nat} (hr : G.role k = .heap i) {es : List (AV × AV)} (h : hgetM s.h i = some es) : ∃ l clk, w.heap[k]? = some (.map ⟨l⟩ clk) ∧ MEs G es l := by
  obtain ⟨blk, o, h1, h2, h3⟩ := hs.heap k i hr
  have h := hgetM_some h
  rw [h1] at h
  cases h
  cases o <;> simp only [BR] at h3
  rename_i l clk
  exact ⟨l.toList, clk, h2, h3⟩
theorem MEs.length {es : List (AV × AV)} {l : List MapEntry} (h : MEs G es l) : es.length = l.length := by
  induction es generalizing l with
  | nil => cases h; rfl
  | cons p es ih => cases h with | cons k u e es l hk hkl hv r => simp [ih r]
theorem run_getObj {k : Nat} {l : Array MapEntry} {clk : Nat} (h : w.heap[k]? = some (.map l clk)) : (getObj k).run P w = .ok (.map l clk) w := by
  simp only [getObj, Sem.run, h]

theorem sim_len {o : Oper} {c : Go.Call} {x : Operand} {t : TypeId} {d : TypeDesc} {n : Nat} {y : AO} (ho : o.op = .call c) (hb : c.callee = .builtin .len) (ha : c.args.toList = [x]) (ht : c.argTypes[0]? = some t) (hx : odOk x y = true)
    (hd : P.underlying t = some d) (hn : (d = .string ∧ n = 0) ∨ (∃ e, d = .slice e) ∧ n = 1 ∨ (∃ e f, d = .map e f) ∧ n = 2) : Sim P CO C N o (.len n y) := by
  refine sim_of' fun {G w s s' a v} hs hr => ?_
  have hrun : ∀ cv, (Builtin.len_ c.argTypes o.type #[a.eval x]).run P w = .ok cv w → (execOp a.eval o).run P w = .ok (.value cv) w := by
    intro cv h
    obtain ⟨cs, hcs⟩ := run_builtin ho hb a.eval
    rw [hcs, args_eval ha]
    simp [builtin, h]
  simp only [AOp.run] at hr
  split at hr <;> first | (cases hr; done) | skip
  · rename_i l hy
    cases hr
    have h1 := ev_eq hs hx hy (by simp) (by simp)
    generalize hxx : a.eval x = xv at h1 hrun
    cases h1 with | str _ b hb =>
    have hd' : d = .string := by rcases hn with ⟨h, _⟩ | ⟨_, h⟩ | ⟨_, h⟩ <;> first | exact h | cases h
    subst hd'
    have hl : b.size = l.length := by rw [← hb, List.length_map, Array.length_toList]; rfl
    refine ⟨rfl, by simp, _, hrun _ ?_, VT.of (.int _ _)⟩
    simp [Builtin.len_, ht, run_underlying hd, goInt, hl]
  · rename_i o' xs hy
    cases hr
    have h1 := ev_eq hs hx hy (by simp) (by simp)
    generalize hxx : a.eval x = xv at h1 hrun
    have hd' : ∃ e, d = .slice e := by rcases hn with ⟨_, h⟩ | ⟨h, _⟩ | ⟨_, h⟩ <;> first | exact h | cases h
    obtain ⟨e, rfl⟩ := hd'
    refine ⟨rfl, by simp, _, hrun _ ?_, VT.of (.int _ _)⟩
    cases h1 with
    | sl0f => simp [Builtin.len_, ht, run_underlying hd, goInt]
    | sl0t => simp [Builtin.len_, ht, run_underlying hd, goInt]
    | sl _ x0 xs cs b off es2 m c hes2 hcs hm hc h => subst hm; simp [Builtin.len_, ht, run_underlying hd, goInt]
  · rename_i hy
    cases hr
    have h1 := ev_eq hs hx hy (by simp) (by simp)
    generalize hxx : a.eval x = xv at h1 hrun
    have hd' : ∃ e, d = .slice e := by rcases hn with ⟨_, h⟩ | ⟨h, _⟩ | ⟨_, h⟩ <;> first | exact h | cases h
    obtain ⟨e, rfl⟩ := hd'
    refine ⟨rfl, by simp, _, hrun _ ?_, VT.of (.int _ _)⟩
    cases h1
    simp [Builtin.len_, ht, run_underlying hd, goInt]
  · rename_i es hy
    cases hr
    have h1 := ev_eq hs hx hy (by simp) (by simp)
    generalize hxx : a.eval x = xv at h1 hrun
    have hd' : ∃ e f, d = .map e f := by rcases hn with ⟨_, h⟩ | ⟨_, h⟩ | ⟨h, _⟩ <;> first | exact h | cases h
    obtain ⟨e, f, rfl⟩ := hd'
    refine ⟨rfl, by simp, _, hrun _ ?_, VT.of (.int _ _)⟩
    cases h1 with | cmap _ es' k l clk hobj hpm hdm h =>
    have := hs.st.obj k _ hobj
    simp [Builtin.len_, ht, run_underlying hd, goInt, run_getObj this, ← h.length, hpm.length_eq]
  · rename_i i hy
    split at hr <;> first | (cases hr; done) | skip
    rename_i es hes
    cases hr
    have h1 := ev_eq hs hx hy (by simp) (by simp)
    generalize hxx : a.eval x = xv at h1 hrun
    have hd' : ∃ e f, d = .map e f := by rcases hn with ⟨_, h⟩ | ⟨_, h⟩ | ⟨h, _⟩ <;> first | exact h | cases h
    obtain ⟨e, f, rfl⟩ := hd'
    refine ⟨rfl, by simp, _, hrun _ ?_, VT.of (.int _ _)⟩
    cases h1 with | hmap _ k hrole =>
    obtain ⟨l, clk, k1, k2⟩ := hs.st.maps hrole hes
    simp [Builtin.len_, ht, run_underlying hd, goInt, run_getObj k1, k2.length]

/-! ### slices of slices and of strings -/
theorem run_bound {k : IntKind} {i : Int} {y : Nat} {code : BoundsCode} (h0 : 0 ≤ i) (h1 : i ≤ y) : (Instr.sliceBound (.int k i) y code).run P w = .ok i.toNat w := by
  simp [Instr.sliceBound, asIntOf, h0, h1]

theorem bounds_some {lo hi : Int} {n i j : Nat} (h : bounds lo hi n = some (i, j)) : lo = i ∧ hi = j ∧ i ≤ j ∧ j ≤ n := by
  unfold bounds at h
  split at h
  · cases h; omega
  · cases h

theorem optInt_eval (hs : SR CO C N G w s a) {x : Option Operand} {y : Option AO} (h : optOk x y = true) {d n : Int} (hn : optInt C s.e d y = some n) : (x = none ∧ n = d) ∨ ∃ z k, x = some z ∧ a.eval z = .int k n := by
  unfold optOk at h
  split at h
  · simp only [optInt] at hn; cases hn; exact .inl ⟨rfl, rfl⟩
  · rename_i z u
    simp only [optInt] at hn
    split at hn <;> first | (cases hn; done) | skip
    rename_i k m hu
    cases hn
    have := ev_eq hs h hu (by simp) (by simp)
    generalize hz : a.eval z = zv at this
    cases this
    exact .inr ⟨z, k, rfl, hz⟩
  · cases h

/-- the bounds of a slice expression -/
theorem run_bounds (hs : SR CO C N G w s a) {lo hi : Option Operand} {lo' hi' : Option AO} (hl : optOk lo lo' = true) (hh : optOk hi hi' = true) {n cap : Nat} (hc : n ≤ cap) {p q : Int} (hp : optInt C s.e 0 lo' = some p) (hq : optInt C s.e n hi' = some q)
    {i j : Nat} (hb : bounds p q n = some (i, j)) (sl : Bool) : (Instr.sliceBounds sl n cap (lo.map a.eval) (hi.map a.eval) none).run P w = .ok (i, j, cap) w := by
  obtain ⟨rfl, rfl, h1, h2⟩ := bounds_some hb
  unfold Instr.sliceBounds
  rcases optInt_eval hs hh hq with ⟨rfl, he⟩ | ⟨z, k, rfl, hz⟩
  · have : j = n := by omega
    subst this
    rcases optInt_eval hs hl hp with ⟨rfl, he⟩ | ⟨z', k', rfl, hz'⟩
    · have : i = 0 := by omega
      subst this
      simp
    · simp [hz', run_bound (P := P) (w := w) (k := k') (i := (i : Int)) (y := j) (code := .sliceB) (by omega) (by omega)]
  · rcases optInt_eval hs hl hp with ⟨rfl, he⟩ | ⟨z', k', rfl, hz'⟩
    · have : i = 0 := by omega
      subst this
      simp [hz, run_bound (P := P) (w := w) (k := k) (i := (j : Int)) (y := cap) (by omega) (by omega)]
    · simp [hz, hz', run_bound (P := P) (w := w) (k := k) (i := (j : Int)) (y := cap) (by omega) (by omega), run_bound (P := P) (w := w) (k := k') (i := (i : Int)) (y := j) (code := .sliceB) (by omega) (by omega)]

theorem headEs_iff {es : Nat} {x : AV} {xs : List AV} : headEs es (x :: xs) = true ↔ x.cells.length = es := by
  simp only [headEs, beq_iff]

theorem VR.sl_sub {o : Bool} {xs : List AV} {b off es n c : Nat} (hne : xs ≠ []) (hes : ∀ y ∈ xs, y.cells.length = es) (hn : n = xs.length) (hc : n ≤ c) (h : CA G b off (xs.flatMap AV.cells)) : VR G (.sl o xs) (.slice (some ⟨b, off, none⟩) n c) := by
  cases xs with
  | nil => exact absurd rfl hne
  | cons x xs => exact .sl o x xs _ b off es n c hes rfl hn hc h

theorem sim_slc {o : Oper} {t e : TypeId} {x : Operand} {lo hi : Option Operand} {es : Nat} {y : AO} {lo' hi' : Option AO} (ho : o.op = .slice t x lo hi none) (hx : odOk x y = true) (hl : optOk lo lo' = true) (hh : optOk hi hi' = true)
    (ht : P.underlying t = some (.slice e)) (hes : sizeIs P e es = true) : Sim P CO C N o (.slc es y lo' hi') := by
  refine sim_of' fun {G w s s' a v} hs hr => ?_
  obtain ⟨inf, hi1, hi2⟩ := sizeIs_spec hes
  simp only [AOp.run] at hr
  split at hr <;> first | (cases hr; done) | skip
  rename_i o' xs hy
  split at hr <;> first | (cases hr; done) | skip
  rename_i p q hp hq
  split at hr <;> first | (cases hr; done) | skip
  rename_i i j hb
  split at hr <;> first | (cases hr; done) | skip
  rename_i hhe
  cases hr
  have h1 := ev_eq hs hx hy (by simp) (by simp)
  generalize hxx : a.eval x = xv at h1
  have hrun : ∀ base n cap, xv = .slice base n cap → n = xs.length → n ≤ cap → (execOp a.eval o).run P w = .ok (.value (.slice (if cap = i then base else base.map (·.add (i * es))) (j - i) (cap - i))) w := by
    intro base n cap hv hn hc
    subst hn
    have hbr := run_bounds (P := P) hs hl hh hc hp hq hb true
    subst hv
    simp [execOp, ho, hxx, Instr.sliceAt, run_underlying ht, Instr.slice, hbr, sizeOf, typeInfo, hi1, hi2]
  obtain ⟨e1, e2, e3, e4⟩ := bounds_some hb
  by_cases hij : i = j
  · subst hij
    have hnil : (xs.take i).drop i = [] := by simp
    rw [hnil]
    cases h1 with
    | sl0f a c => exact ⟨rfl, by simp, _, hrun _ _ _ rfl rfl (by omega), VT.of (by simp only [Nat.sub_self]; exact .sl0f _ _)⟩
    | sl0t a => exact ⟨rfl, by simp, _, hrun _ _ _ rfl rfl (by omega), VT.of (by simp only [Nat.sub_self]; exact .sl0f _ _)⟩
    | sl _ x0 xs cs b off es2 m c hes2 hcs hm hc h => exact ⟨rfl, by simp, _, hrun _ _ _ rfl hm hc, VT.of (by simp only [Nat.sub_self]; exact .sl0f _ _)⟩
  · cases h1 with
    | sl0f a c => simp at e4; omega
    | sl0t a => simp at e4; omega
    | sl _ x0 xs cs b off es2 m c hes2 hcs hm hc h =>
      have : es2 = es := by rw [← hes2 x0 (by simp)]; exact headEs_iff.1 hhe
      subst this
      refine ⟨rfl, by simp, _, hrun _ _ _ rfl hm hc, VT.of ?_⟩
      have hci : ¬ c = i := by omega
      simp only [hci, if_false, Option.map_some, add_lit]
      have hlen : (((x0 :: xs).take j).drop i).length = j - i := by simp only [List.length_drop, List.length_take]; omega
      refine VR.sl_sub (es := es2) (fun h0 => ?_) (fun y hy => hes2 y (List.mem_of_mem_take (List.mem_of_mem_drop hy))) hlen.symm (by omega) ?_
      · rw [h0] at hlen; simp at hlen; omega
      · rw [← flat_drop (fun y hy => hes2 y (List.mem_of_mem_take hy)) i (by simp only [List.length_take]; omega), ← flat_take hes2 j (by omega), ← hcs]
        exact (h.take _).drop _

theorem sim_sls {o : Oper} {t : TypeId} {x : Operand} {lo hi : Option Operand} {y : AO} {lo' hi' : Option AO} (ho : o.op = .slice t x lo hi none) (hx : odOk x y = true) (hl : optOk lo lo' = true) (hh : optOk hi hi' = true)
    (ht : P.underlying t = some .string) : Sim P CO C N o (.sls y lo' hi') := by
  refine sim_of' fun {G w s s' a v} hs hr => ?_
  simp only [AOp.run] at hr
  split at hr <;> first | (cases hr; done) | skip
  rename_i l hy
  split at hr <;> first | (cases hr; done) | skip
  rename_i p q hp hq
  split at hr <;> first | (cases hr; done) | skip
  rename_i i j hb
  cases hr
  have h1 := ev_eq hs hx hy (by simp) (by simp)
  generalize hxx : a.eval x = xv at h1
  cases h1 with | str _ bs hbs =>
  have hsz : bs.size = l.length := by rw [← hbs, List.length_map, Array.length_toList]; rfl
  have hbr := run_bounds (P := P) hs hl hh (Nat.le_refl _) hp hq hb false
  refine ⟨rfl, by simp, .string (bs.extract i j), ?_, VT.of (.str _ _ ?_)⟩
  · simp [execOp, ho, hxx, Instr.sliceAt, run_underlying ht, Instr.slice, hsz, hbr]
  · have : (bs.extract i j).data.toList = (bs.data.toList.take j).drop i := by
      rw [Lib.extract_data, List.drop_take]
    rw [this, ← hbs]
    simp [List.map_drop, List.map_take]

/-! ### minimum and maximum -/
theorem ints_eval (hs : SR CO C N G w s a) : ∀ {xs : List Operand} {ys : List AO}, odsOk xs ys = true → ∀ {k : IntKind} {l : List Int}, intsOf (Env.vs C s.e ys) = some (k, l) → xs.map a.eval = l.map (Value.int k)
  | [], [], _, k, l, h => by simp [Env.vs, intsOf] at h
  | [], _ :: _, h, _, _, _ => by simp [odsOk] at h
  | _ :: _, [], h, _, _, _ => by simp [odsOk] at h
  | x :: xs, y :: ys, h, k, l, hi => by
    simp only [odsOk, Bool.and_eq_true] at h
    simp only [Env.vs, List.map_cons] at hi ⊢
    unfold intsOf at hi
    split at hi <;> first | (cases hi; done) | skip
    · rename_i k' n he
      simp only [List.cons.injEq, List.map_eq_nil_iff] at he
      cases hi
      have h1 := ev_eq hs h.1 he.1 (by simp) (by simp)
      have hn : xs = [] := by
        have := h.2
        rw [he.2] at this
        cases xs <;> simp [odsOk] at this ⊢
      subst hn
      generalize a.eval x = xv at h1 ⊢
      cases h1
      rfl
    · rename_i k' n r hne he
      simp only [List.cons.injEq] at he
      split at hi <;> first | (cases hi; done) | skip
      rename_i k2 l2 hr
      split at hi <;> first | (cases hi; done) | skip
      rename_i hk
      cases hi
      subst hk
      have h1 := ev_eq hs h.1 he.1 (by simp) (by simp)
      have h2 := ints_eval hs h.2 (k := k) (l := l2) (by rw [Env.vs, he.2]; exact hr)
      rw [h2]
      generalize a.eval x = xv at h1 ⊢
      cases h1
      rfl

theorem run_max_list (k : IntKind) : ∀ (l : List Int) (n : Int) (w : World), ((l.map (Value.int k)).foldlM Builtin.max2 (.int k n)).run P w = .ok (.int k (l.foldl (fun a b => if b > a then b else a) n)) w
  | [], n, w => rfl
  | m :: l, n, w => by
    have ih := run_max_list k l (if m > n then m else n) w
    simp only [List.map_cons, List.foldlM_cons, Sem.run_bind, Builtin.max2, Sem.run_pure, Result.andThen_ok, List.foldl_cons]
    exact ih
theorem run_min_list (k : IntKind) : ∀ (l : List Int) (n : Int) (w : World), ((l.map (Value.int k)).foldlM Builtin.min2 (.int k n)).run P w = .ok (.int k (l.foldl (fun a b => if b < a then b else a) n)) w
  | [], n, w => rfl
  | m :: l, n, w => by
    have ih := run_min_list k l (if m < n then m else n) w
    simp only [List.map_cons, List.foldlM_cons, Sem.run_bind, Builtin.min2, Sem.run_pure, Result.andThen_ok, List.foldl_cons]
    exact ih

theorem sim_mx {o : Oper} {c : Go.Call} {y : AO} {r : List AO} (ho : o.op = .call c) (hb : c.callee = .builtin .max) (ha : odsOk c.args.toList (y :: r) = true) : Sim P CO C N o (.mx y r) := by
  refine sim_of' fun {G w s s' a v} hs hr => ?_
  simp only [AOp.run] at hr
  split at hr <;> first | (cases hr; done) | skip
  rename_i k n l hi
  cases hr
  have h := ints_eval hs ha hi
  refine ⟨rfl, by simp, _, ?_, VT.of (.int _ _)⟩
  obtain ⟨cs, hcs⟩ := run_builtin ho hb a.eval
  rw [hcs, args_eval rfl, h]
  simp [builtin, Builtin.max_, run_max_list]
theorem sim_mn {o : Oper} {c : Go.Call} {y : AO} {r : List AO} (ho : o.op = .call c) (hb : c.callee = .builtin .min) (ha : odsOk c.args.toList (y :: r) = true) : Sim P CO C N o (.mn y r) := by
  refine sim_of' fun {G w s s' a v} hs hr => ?_
  simp only [AOp.run] at hr
  split at hr <;> first | (cases hr; done) | skip
  rename_i k n l hi
  cases hr
  have h := ints_eval hs ha hi
  refine ⟨rfl, by simp, _, ?_, VT.of (.int _ _)⟩
  obtain ⟨cs, hcs⟩ := run_builtin ho hb a.eval
  rw [hcs, args_eval rfl, h]
  simp [builtin, Builtin.min_, run_min_list]
end Go.Lt
namespace Go.Lt
open Go
variable {P : Program} {CO : Nat → Code → AC → Prop} {C : Cfg} {N : Nat} {G : Gho} {w w' : World} {s s' : St} {a : Act} {v : AV}

/-- one part put -/
theorem fill_put {place : Nat → Option (Nat × Nat)} {i off size : Nat} {u : Value} {rest : List (Nat × Value)} {cells : Array Value} (hp : place i = some (off, size)) (hv : u.cells.size = size) (hfit : off + size ≤ cells.size) :
    Instr.fill place cells ((i, u) :: rest) = Instr.fill place (cells.toList.take off ++ u.cells.toList ++ cells.toList.drop (off + u.cells.toList.length)).toArray rest := by
  have hl : u.cells.toList.length = size := by simpa using hv
  rw [Instr.fill, hp]
  simp only
  rw [if_neg (by simp [hv]; omega)]
  congr 1
  rw [← Array.foldl_toList, Array.toList_zipIdx]
  obtain ⟨h1, h2⟩ := Great.foldl_set off u.cells.toList 0 cells
  apply Array.ext_getElem?
  intro k
  refine (h2 k).trans ?_
  have hsg := splice_get (cs := cells.toList) (new := u.cells.toList) (off := off) (by rw [hl]; simpa using hfit) k
  symm
  refine (List.getElem?_toArray ..).trans ?_
  rw [hsg]
  symm
  simp only [Nat.add_zero]
  by_cases hk : off ≤ k ∧ k < off + u.cells.toList.length
  · rw [if_pos hk, if_pos ⟨hk.1, hk.2, by omega⟩]
  · rw [if_neg hk, if_neg (fun h => hk ⟨h.1, h.2.1⟩)]
    simp

theorem fillParts_run (hs : SR CO C N G w s a) {place : Nat → Option (Nat × Nat)} : ∀ {ps : List (Nat × Operand)} {qs : List (Nat × Nat × AO)},
    (∀ n, ps.length = n → qs.length = n) → (∀ (j i : Nat) (x : Operand) (off size : Nat) (y : AO), ps[j]? = some (i, x) → qs[j]? = some (off, size, y) → place i = some (off, size) ∧ odOk x y = true) →
    ∀ {cs cs' : List AV} {cells : Array Value}, VRs G cs cells.toList → allLeaf cs = true → fillParts C s.e cs qs = some cs' →
    ∃ cells', Instr.fill place cells (ps.map fun p => (p.1, a.eval p.2)) = some cells' ∧ VRs G cs' cells'.toList ∧ allLeaf cs' = true
  | [], [], _, _, cs, cs', cells, h1, h2, h3 => by
    simp only [fillParts] at h3
    cases h3
    exact ⟨cells, by simp [Instr.fill], h1, h2⟩
  | [], _ :: _, hl, _, _, _, _, _, _, _ => by have := hl 0 rfl; simp at this
  | _ :: _, [], hl, _, _, _, _, _, _, _ => by have := hl _ rfl; simp at this
  | (i, x) :: ps, (off, size, y) :: qs, hl, hp, cs, cs', cells, h1, h2, h3 => by
    obtain ⟨hpl, hod⟩ := hp 0 i x off size y rfl rfl
    simp only [fillParts] at h3
    split at h3 <;> first | (cases h3; done) | skip
    rename_i hc
    split at h3 <;> first | (cases h3; done) | skip
    rename_i cs1 hsp
    simp only [Bool.and_eq_true, List.length_map] at hc
    have hsz := beq_iff.1 hc.2
    have hv := ev_ok hs hod hc.1
    have hcl := hv.cells_length hc.1
    obtain ⟨hfit, rfl⟩ := splice_some hsp
    simp only [List.length_map] at hfit
    have hlen := h1.length
    have hlen' : cs.length = cells.size := by simpa using hlen
    have hf : off + size ≤ cells.size := by omega
    have hvr : VRs G (List.map AV.clr (Env.v C s.e y).cells) (a.eval x).cells.toList := VRs.map _ (fun _ _ => VR.clr) (hv.cells hc.1)
    have h1' : VRs G (cs.take off ++ List.map AV.clr (Env.v C s.e y).cells ++ cs.drop (off + (List.map AV.clr (Env.v C s.e y).cells).length)) (cells.toList.take off ++ (a.eval x).cells.toList ++ cells.toList.drop (off + (a.eval x).cells.toList.length)) := by
      refine ((h1.take off).append hvr).append ?_
      have : (List.map AV.clr (Env.v C s.e y).cells).length = (a.eval x).cells.toList.length := hvr.length
      rw [this]
      exact h1.drop _
    have h2' : allLeaf (cs.take off ++ List.map AV.clr (Env.v C s.e y).cells ++ cs.drop (off + (List.map AV.clr (Env.v C s.e y).cells).length)) = true :=
      allLeaf_append.2 ⟨allLeaf_append.2 ⟨allLeaf_take h2 _, allLeaf_map AV.leaf_clr (hv.cells_leaf hc.1)⟩, allLeaf_drop h2 _⟩
    obtain ⟨cells', k1, k2, k3⟩ := fillParts_run hs (ps := ps) (qs := qs) (fun n hn => by have := hl (n + 1) (by simp [hn]); simpa using this) (fun j i x off size y h h' => hp (j + 1) i x off size y (by simpa using h) (by simpa using h'))
      (cells := (cells.toList.take off ++ (a.eval x).cells.toList ++ cells.toList.drop (off + (a.eval x).cells.toList.length)).toArray) (by simpa using h1') h2' h3
    refine ⟨cells', ?_, k2, k3⟩
    rw [List.map_cons, fill_put hpl (by rw [← hcl]; exact hsz) hf]
    exact k1

theorem zOk_vrs {t : TypeId} {z : List AV} (h : zOk P t z = true) : ∃ i zv, P.info? t = some i ∧ i.zero = some zv ∧ VRs G z zv.cells.toList ∧ allLeaf z = true := by
  obtain ⟨i, zv, h1, h2, h3, h4⟩ := zOk_spec h
  exact ⟨i, zv, h1, h2, kOks_vr _ _ h3, h4⟩

theorem partsOk_spec {pl : List (Nat × Nat)} : ∀ {ps : List (Nat × Operand)} {qs : List (Nat × Nat × AO)}, partsOk pl ps qs = true →
    (∀ n, ps.length = n → qs.length = n) ∧ ∀ (j i : Nat) (x : Operand) (off size : Nat) (y : AO), ps[j]? = some (i, x) → qs[j]? = some (off, size, y) → pl[i]? = some (off, size) ∧ odOk x y = true
  | [], [], _ => ⟨fun n h => h, fun j i x off size y h => by simp at h⟩
  | [], _ :: _, h => by simp [partsOk] at h
  | _ :: _, [], h => by simp [partsOk] at h
  | (i, x) :: ps, (off, size, y) :: qs, h => by
    simp only [partsOk, Bool.and_eq_true] at h
    obtain ⟨⟨h1, h2⟩, h3⟩ := h
    obtain ⟨k1, k2⟩ := partsOk_spec h3
    refine ⟨fun n hn => ?_, fun j i' x' off' size' y' hp hq => ?_⟩
    · simp only [List.length_cons] at hn ⊢
      have := k1 (n - 1) (by omega)
      omega
    · cases j with
      | zero =>
        simp only [List.getElem?_cons_zero, Option.some.injEq, Prod.mk.injEq] at hp hq
        obtain ⟨rfl, rfl⟩ := hp
        obtain ⟨rfl, rfl, rfl⟩ := hq
        split at h1 <;> first | (cases h1; done) | skip
        rename_i f hf
        simp only [Bool.and_eq_true] at h1
        obtain ⟨f1, f2⟩ := f
        have e1 := beq_iff.1 h1.1
        have e2 := beq_iff.1 h1.2
        simp only at e1 e2
        subst e1; subst e2
        exact ⟨hf, h2⟩
      | succ j => exact k2 j i' x' off' size' y' (by simpa using hp) (by simpa using hq)
theorem partsOkA_spec {es : Nat} : ∀ {ps : List (Nat × Operand)} {qs : List (Nat × Nat × AO)}, partsOkA es ps qs = true →
    (∀ n, ps.length = n → qs.length = n) ∧ ∀ (j i : Nat) (x : Operand) (off size : Nat) (y : AO), ps[j]? = some (i, x) → qs[j]? = some (off, size, y) → (i * es = off ∧ size = es) ∧ odOk x y = true
  | [], [], _ => ⟨fun n h => h, fun j i x off size y h => by simp at h⟩
  | [], _ :: _, h => by simp [partsOkA] at h
  | _ :: _, [], h => by simp [partsOkA] at h
  | (i, x) :: ps, (off, size, y) :: qs, h => by
    simp only [partsOkA, Bool.and_eq_true] at h
    obtain ⟨⟨⟨h1, h1'⟩, h2⟩, h3⟩ := h
    obtain ⟨k1, k2⟩ := partsOkA_spec h3
    refine ⟨fun n hn => ?_, fun j i' x' off' size' y' hp hq => ?_⟩
    · simp only [List.length_cons] at hn ⊢
      have := k1 (n - 1) (by omega)
      omega
    · cases j with
      | zero =>
        simp only [List.getElem?_cons_zero, Option.some.injEq, Prod.mk.injEq] at hp hq
        obtain ⟨rfl, rfl⟩ := hp
        obtain ⟨rfl, rfl, rfl⟩ := hq
        exact ⟨⟨beq_iff.1 h1, beq_iff.1 h1'⟩, h2⟩
      | succ j => exact k2 j i' x' off' size' y' (by simpa using hp) (by simpa using hq)

theorem sim_build {o : Oper} {t : TypeId} {ps : Array (Nat × Operand)} {z : List AV} {qs : List (Nat × Nat × AO)} (ho : o.op = .build t ps) (hz : zOk P t z = true)
    (ht : (∃ fs pl, P.underlying t = some (.struct fs) ∧ placesOf P fs.toList = some pl ∧ partsOk pl ps.toList qs = true) ∨ ∃ n e i, P.underlying t = some (.array n e) ∧ P.info? e = some i ∧ partsOkA i.size ps.toList qs = true) : Sim P CO C N o (.build z qs) := by
  refine sim_of' fun {G w s s' a v} hs hr => ?_
  simp only [AOp.run] at hr
  split at hr <;> first | (cases hr; done) | skip
  rename_i cs hcs
  cases hr
  obtain ⟨i, zv, h1, h2, h3, h4⟩ := zOk_vrs (G := G) hz
  have hmap : ∀ ρ : Operand → Value, (ps.map fun (i, x) => (i, ρ x)).toList = ps.toList.map fun p => (p.1, ρ p.2) := by intro ρ; simp
  have hfin : ∀ cells', P.built t (ps.map fun (i, x) => (i, a.eval x)).toList = some cells' → VRs G cs cells'.toList → allLeaf cs = true → s = s ∧ (∀ x xs, AV.agg cs ≠ .sl true (x :: xs)) ∧ ∃ cv, (execOp a.eval o).run P w = .ok (.value cv) w ∧ VT G (.agg cs) cv :=
    fun cells' k1 k2 k3 => ⟨rfl, by simp, .agg cells', by simp [execOp, ho, run_build w t _ cells' k1], VT.of (.agg _ cells'.toList k3 k2)⟩
  rcases ht with ⟨fs, pl, hu, hpl, hp⟩ | ⟨n, e, ie, hu, hie, hp⟩
  · obtain ⟨k1, k2⟩ := partsOk_spec hp
    obtain ⟨cells', m1, m2, m3⟩ := fillParts_run hs (place := fun i => pl.toArray[i]?) k1 (fun j i x off size y hj hq => by
      obtain ⟨q1, q2⟩ := k2 j i x off size y hj hq
      exact ⟨by simpa using q1, q2⟩) h3 h4 hcs
    refine hfin cells' ?_ m2 m3
    unfold placesOf at hpl
    rw [hmap]
    simp only [Program.built, h1, hu, h2, hpl]
    exact m1
  · obtain ⟨k1, k2⟩ := partsOkA_spec hp
    obtain ⟨cells', m1, m2, m3⟩ := fillParts_run hs (place := fun i => some (i * ie.size, ie.size)) k1 (fun j i x off size y hj hq => by
      obtain ⟨⟨q1, q2⟩, q3⟩ := k2 j i x off size y hj hq
      exact ⟨by rw [q1, q2], q3⟩) h3 h4 hcs
    refine hfin cells' ?_ m2 m3
    rw [hmap]
    simp only [Program.built, h1, hu, h2, hie]
    exact m1

/-! ### slice literals -/
theorem AV.nrm_cells_length (u : AV) : u.nrm.cells.length = u.cells.length := by
  unfold AV.nrm
  split <;> simp [AV.cells]

theorem fillElems_run (hs : SR CO C N G w s a) {es : Nat} : ∀ {ps : List (Nat × Operand)} {qs : List (Nat × AO)}, partsOkS ps qs = true →
    ∀ {xs xs' : List AV} {cells : Array Value}, (∀ y ∈ xs, y.cells.length = es) → VRs G (xs.flatMap AV.cells) cells.toList → allLeaf (xs.flatMap AV.cells) = true → fillElems C es s.e xs qs = some xs' →
    ∃ cells', Instr.fill (fun i => some (i * es, es)) cells (ps.map fun p => (p.1, a.eval p.2)) = some cells' ∧ VRs G (xs'.flatMap AV.cells) cells'.toList ∧ allLeaf (xs'.flatMap AV.cells) = true ∧ (∀ y ∈ xs', y.cells.length = es) ∧ xs'.length = xs.length
  | [], [], _, xs, xs', cells, h0, h1, h2, h3 => by
    simp only [fillElems] at h3
    cases h3
    exact ⟨cells, by simp [Instr.fill], h1, h2, h0, rfl⟩
  | [], _ :: _, hl, _, _, _, _, _, _, _ => by simp [partsOkS] at hl
  | _ :: _, [], hl, _, _, _, _, _, _, _ => by simp [partsOkS] at hl
  | (i, x) :: ps, (j, y) :: qs, hl, xs, xs', cells, h0, h1, h2, h3 => by
    simp only [partsOkS, Bool.and_eq_true] at hl
    obtain ⟨⟨hij, hod⟩, hrest⟩ := hl
    have hij := beq_iff.1 hij
    subst hij
    simp only [fillElems] at h3
    split at h3 <;> first | (cases h3; done) | skip
    rename_i hc
    simp only [Bool.and_eq_true] at hc
    obtain ⟨⟨hok, hes⟩, hlt⟩ := hc
    have hes := beq_iff.1 hes
    have hlt : i < xs.length := Nat.le_of_ble_eq_true hlt
    have hv := (ev_ok hs hod hok).nrm
    have hok' : (Env.v C s.e y).nrm.ok = true := by rw [AV.ok_nrm]; exact hok
    have hes' : (Env.v C s.e y).nrm.cells.length = es := by rw [AV.nrm_cells_length]; exact hes
    have hcl : (a.eval x).cells.size = es := by rw [← hv.cells_length hok']; exact hes'
    have hset : xs.set i (Env.v C s.e y).nrm = xs.take i ++ (Env.v C s.e y).nrm :: xs.drop (i + 1) := by rw [List.set_eq_take_append_cons_drop, if_pos hlt]
    have hlen := flat_length h0
    have hlen' : xs.length * es = cells.size := by rw [← hlen]; simpa using h1.length
    have hfit : i * es + es ≤ cells.size := by
      rw [← hlen', ← Nat.succ_mul]
      exact Nat.mul_le_mul_right _ hlt
    have hflat : (xs.set i (Env.v C s.e y).nrm).flatMap AV.cells = (xs.flatMap AV.cells).take (i * es) ++ (Env.v C s.e y).nrm.cells ++ (xs.flatMap AV.cells).drop (i * es + (Env.v C s.e y).nrm.cells.length) := by
      rw [hset, List.flatMap_append, List.flatMap_cons, ← flat_take h0 i (by omega), hes', ← Nat.succ_mul, flat_drop h0 (i + 1) (by omega), List.append_assoc]
    have h0' : ∀ z ∈ xs.set i (Env.v C s.e y).nrm, z.cells.length = es := by
      intro z hz
      rcases List.mem_or_eq_of_mem_set hz with hz | rfl
      · exact h0 z hz
      · exact hes'
    have hvr := hv.cells hok'
    have h1' : VRs G ((xs.set i (Env.v C s.e y).nrm).flatMap AV.cells) (cells.toList.take (i * es) ++ (a.eval x).cells.toList ++ cells.toList.drop (i * es + (a.eval x).cells.toList.length)) := by
      rw [hflat, hvr.length]
      exact ((h1.take _).append hvr).append (h1.drop _)
    have h2' : allLeaf ((xs.set i (Env.v C s.e y).nrm).flatMap AV.cells) = true := by
      rw [hflat]
      exact allLeaf_append.2 ⟨allLeaf_append.2 ⟨allLeaf_take h2 _, hv.cells_leaf hok'⟩, allLeaf_drop h2 _⟩
    obtain ⟨cells', k1, k2, k3, k4, k5⟩ := fillElems_run hs hrest (cells := (cells.toList.take (i * es) ++ (a.eval x).cells.toList ++ cells.toList.drop (i * es + (a.eval x).cells.toList.length)).toArray) h0' (by simpa using h1') h2' h3
    refine ⟨cells', ?_, k2, k3, k4, by rw [k5]; simp⟩
    rw [List.map_cons, fill_put rfl hcl hfit]
    exact k1

theorem zvOk_spec {t : TypeId} {z : AV} (h : zvOk P t z = true) : ∃ i zv, P.info? t = some i ∧ i.zero = some zv ∧ VR G z zv ∧ z.ok = true := by
  unfold zvOk at h
  split at h
  · rename_i i hi
    split at h
    · rename_i zv hz
      simp only [Bool.and_eq_true] at h
      exact ⟨i, zv, hi, hz, kOk_vr _ _ h.1, h.2⟩
    · cases h
  · cases h

/-- n times the cells of one value, side by side -/
theorem zeros_flat {z : AV} {es : Nat} (hz : z.cells.length = es) (zs : Array Value) (hv : VRs G z.cells zs.toList) (hl : allLeaf z.cells = true) (hp : 0 < es) (n : Nat) :
    VRs G ((List.replicate n z).flatMap AV.cells) (((Array.range (n * es)).map (zs[· % zs.size]!)).toList) ∧ allLeaf ((List.replicate n z).flatMap AV.cells) = true := by
  have hsz : zs.size = es := by rw [← hz]; simpa using hv.length.symm
  have hall : ∀ y ∈ List.replicate n z, y.cells.length = es := fun y hy => by rw [(List.mem_replicate.1 hy).2]; exact hz
  have hfl : ((List.replicate n z).flatMap AV.cells).length = n * es := by rw [flat_length hall]; simp
  constructor
  · refine VRs.of_get (by rw [hfl]; simp) fun i c v hc hv' => ?_
    have hi : i < n * es := by rw [← hfl]; exact (List.getElem?_eq_some_iff.1 hc).1
    have hv2 : v = zs[i % es]! := by
      simp only [Array.toList_map, Array.toList_range, List.getElem?_map, List.getElem?_range hi, Option.map_some, Option.some.injEq, hsz] at hv'
      exact hv'.symm
    have hlt : i / es < n := Nat.div_lt_of_lt_mul (by rw [Nat.mul_comm]; exact hi)
    have hm : i % es < es := Nat.mod_lt _ hp
    have he := flat_elem hall (i := i / es) (x := z) (by simp [hlt])
    have hc' : z.cells[i % es]? = some c := by
      rw [← he, List.getElem?_take, if_pos hm, List.getElem?_drop, Nat.mul_comm, Nat.div_add_mod]
      exact hc
    obtain ⟨v', k1, k2⟩ := hv.get (i % es) c hc'
    have : v = v' := by
      rw [hv2]
      have hlt' : i % es < zs.size := by omega
      rw [Array.getElem?_toList, Array.getElem?_eq_getElem hlt'] at k1
      cases k1
      simp [hlt']
    rw [this]; exact k2
  · refine allLeaf_iff.2 fun c hc => ?_
    obtain ⟨y, hy, hcy⟩ := List.mem_flatMap.1 hc
    rw [(List.mem_replicate.1 hy).2] at hcy
    exact allLeaf_iff.1 hl c hcy

/-- a new row that nobody writes any more: as a slice with the right to grow -/
theorem SR.newSlice (hs : SR CO C N G w s a) {xs : List AV} {es : Nat} {arr : Array Value} {e : TypeId} {fr : Nat × Nat} {n c : Nat} (hw : w'.heap = w.heap.push (.cells arr e fr)) (ho : w'.os = w.os) (hu : w'.output = w.output) (ht : w'.tape = w.tape)
    (hes : ∀ y ∈ xs, y.cells.length = es) (hv : VRs G (xs.flatMap AV.cells) (arr.toList.take (xs.flatMap AV.cells).length)) (hl : allLeaf (xs.flatMap AV.cells) = true) (hn : n = xs.length) (hc : n ≤ c) (own : Bool) (hown : own = true → c = n) :
    ∃ G', SR CO C N G' w' s a ∧ Le G w G' w' ∧ VR G' (.sl own xs) (.slice (some ⟨w.heap.size, 0, none⟩) n c) ∧ Own G' w' .out (.sl own xs) (.slice (some ⟨w.heap.size, 0, none⟩) n c) := by
  have hle := Gho.add_le hs.st hw ho hu ht (fun o => arr[o]?) .none
  refine ⟨_, hs.const hw, hle, ?_, ?_⟩
  · by_cases hx : xs = []
    · subst hx
      subst hn
      cases own with
      | false => exact .sl0f _ _
      | true =>
        have := hown rfl
        subst this
        exact .sl0t _
    · refine VR.sl_sub hx hes hn hc (CA.of_get fun i d hd => ?_)
      obtain ⟨v, h1, h2⟩ := hv.get i d hd
      have : arr[i]? = some v := by
        rw [List.getElem?_take] at h1
        split at h1
        · simpa using h1
        · cases h1
      exact ⟨v, by simp [Gho.add, this], allLeaf_get hl hd, h2.mono hle.gle⟩
  · intro x ys he ad m cap hv'
    injection he with e1 e2
    injection hv' with _ e3 e4
    left
    rw [← e3, ← e4]
    exact hown e1

theorem sim_bsl {o : Oper} {t e : TypeId} {n es : Nat} {ps : Array (Nat × Operand)} {z : AV} {qs : List (Nat × AO)} (ho : o.op = .buildSlice t n ps) (ht : P.underlying t = some (.slice e)) (hes : sizeIs P e es = true) (hz : zvOk P e z = true)
    (hp : partsOkS ps.toList qs = true) (hsm : n * es ≤ 16777216) (hpos : 0 < es) : Sim P CO C N o (.bsl n es z qs) := by
  intro G w s s' a v hs hr
  simp only [AOp.run] at hr
  split at hr <;> first | (cases hr; done) | skip
  rename_i xs hxs
  split at hr <;> first | (cases hr; done) | skip
  rename_i hc
  cases hr
  simp only [Bool.and_eq_true] at hc
  have hzl := beq_iff.1 hc.1
  obtain ⟨inf, hi1, hi2⟩ := sizeIs_spec hes
  obtain ⟨inf', zv, hj1, hj2, hj3, hj4⟩ := zvOk_spec (G := G) hz
  rw [hi1] at hj1
  cases hj1
  have hznr := hj3.nrm
  have hznok : z.nrm.ok = true := by rw [AV.ok_nrm]; exact hj4
  obtain ⟨hz1, hz2⟩ := zeros_flat (G := G) (z := z.nrm) (es := es) (by rw [AV.nrm_cells_length]; exact hzl) zv.cells (hznr.cells hznok) (hznr.cells_leaf hznok) hpos n
  obtain ⟨cells', k1, k2, k3, k4, k5⟩ := fillElems_run hs hp (es := es) (xs := List.replicate n z.nrm) (cells := (Array.range (n * es)).map (zv.cells[· % zv.cells.size]!)) (fun y hy => by rw [(List.mem_replicate.1 hy).2, AV.nrm_cells_length]; exact hzl) hz1 hz2 hxs
  simp only [List.length_replicate] at k5
  have hrun : (execOp a.eval o).run P w = .ok (.value (.slice (some ⟨w.heap.size, 0, none⟩) n n)) { w with heap := w.heap.push (.cells cells' e) } := by
    have hmap : (ps.map fun (i, x) => (i, a.eval x)).toList = ps.toList.map fun p => (p.1, a.eval p.2) := by simp
    have hsm' : ¬ (16777216 < n * es) := by omega
    by_cases hn0 : n * es = 0
    · have hn : n = 0 := by
        rcases Nat.mul_eq_zero.1 hn0 with h | h
        · exact h
        · omega
      subst hn
      have hps : ps.toList = [] := by
        cases hq : ps.toList with
        | nil => rfl
        | cons p r =>
          rw [hq] at hp
          cases qs with
          | nil => simp [partsOkS] at hp
          | cons q qs =>
            obtain ⟨j, y⟩ := q
            simp only [fillElems] at hxs
            split at hxs <;> first | (cases hxs; done) | skip
            rename_i hcc
            simp [Nat.blt] at hcc
      rw [hps] at k1
      simp only [List.map_nil, Instr.fill, Option.some.injEq, Nat.zero_mul] at k1
      have hps' : ps = #[] := by apply Array.toList_inj.1; exact hps
      subst hps'
      have hc0 : cells' = #[] := by rw [← k1, Array.range_zero', Array.map_empty]
      subst hc0
      simp [execOp, ho, Instr.buildSlice, run_underlying ht, sizeOf, typeInfo, hi1, Instr.fill, newRow, Array.range_zero']
    · rw [← hi2] at k1 hn0 hsm'
      simp [execOp, ho, Instr.buildSlice, run_underlying ht, sizeOf, typeInfo, zeroValue, hi1, hj2, hsm', hn0, k1, newRow]
  have hcl : cells'.toList.length = (xs.flatMap AV.cells).length := k2.length.symm
  obtain ⟨G', m1, m2, m3, m4⟩ := hs.newSlice (w' := { w with heap := w.heap.push (.cells cells' e) }) (xs := xs) (es := es) (n := n) (c := n) rfl rfl rfl rfl k4 (by rw [← hcl, List.take_length]; exact k2) k3 k5.symm (Nat.le_refl _) true (fun _ => rfl)
  exact ⟨_, _, G', .inl hrun, m1, m2, fun _ => VT.of m3, fun _ => m4⟩

/-! ### the bytes of a string -/
theorem bytesWorld_heap (w : World) (e : TypeId) (s : ByteArray) : (Lib.bytesWorld w e s).heap = w.heap.push (.cells (Lib.bytesCells w e s) e ((Lib.bytesCells w e s).size, (Lib.bytesCells w e s).size + 1)) := by
  apply Array.ext_getElem?
  intro i
  rcases Nat.lt_trichotomy i w.heap.size with h | h | h
  · rw [Lib.bytesWorld_at_old w e s i h, Array.getElem?_push]
    simp [Nat.ne_of_lt h]
  · subst h
    rw [Lib.bytesWorld_at_new]
    simp
  · rw [Array.getElem?_eq_none (by rw [Lib.bytesWorld_size]; omega), Array.getElem?_eq_none (by simp; omega)]

theorem sim_s2b {o : Oper} {src dst e : TypeId} {x : Operand} {y : AO} (ho : o.op = .convert src dst x) (hx : odOk x y = true) (hs' : (P.underlying src).isSome = true) (hd : P.underlying dst = some (.slice e)) (he : P.underlying e = some (.int .u8)) : Sim P CO C N o (.s2b y) := by
  intro G w s s' a v hs hr
  simp only [AOp.run] at hr
  split at hr <;> first | (cases hr; done) | skip
  rename_i l hy
  cases hr
  have h1 := ev_eq hs hx hy (by simp) (by simp)
  generalize hxx : a.eval x = xv at h1
  cases h1 with | str _ b hb =>
  obtain ⟨d, hd'⟩ := Option.isSome_iff_exists.mp hs'
  have hrun := Lib.run_convert_string_bytes w src dst e b hd' hd he
  have hlen : b.size = l.length := by rw [← hb, List.length_map, Array.length_toList]; rfl
  have hfl : ∀ l : List Nat, (l.map fun (c : Nat) => AV.int .u8 (c : Int)).flatMap AV.cells = l.map fun (c : Nat) => AV.int .u8 (c : Int) := by
    intro l
    induction l with
    | nil => rfl
    | cons c l ih => rw [List.map_cons, List.flatMap_cons, ih]; rfl
  have hcells : (Lib.bytesCells w e b).toList.take b.size = b.data.toList.map fun c => Value.int .u8 c.toNat := by
    unfold Lib.bytesCells
    have h0 : (b.data.map fun c => Value.int .u8 c.toNat).toList.length = b.size := by rw [Array.length_toList, Array.size_map]; rfl
    rw [Array.toList_append, List.take_append_of_le_length (by omega), List.take_of_length_le (by omega)]
    simp
  obtain ⟨G', m1, m2, m3, m4⟩ := hs.newSlice (w' := Lib.bytesWorld w e b) (xs := l.map fun (c : Nat) => AV.int .u8 (c : Int)) (es := 1) (n := b.size) (c := grownCap w b.size 0 e) (bytesWorld_heap w e b) rfl rfl rfl
    (fun y hy => by obtain ⟨c, _, rfl⟩ := List.mem_map.1 hy; rfl) (by
      rw [hfl, List.length_map, ← hlen, hcells, ← hb, List.map_map]
      refine VRs.of_get (by simp) fun i c v hc hv => ?_
      rw [List.getElem?_map] at hc hv
      cases hq : b.data.toList[i]? with
      | none => rw [hq] at hc; simp at hc
      | some q =>
        rw [hq] at hc hv
        simp only [Option.map_some, Option.some.injEq] at hc hv
        subst hc; subst hv
        exact .int _ _) (by rw [hfl]; refine allLeaf_iff.2 fun c hc => ?_; obtain ⟨c', _, rfl⟩ := List.mem_map.1 hc; rfl) (by simp [hlen]) (grownCap_ge w b.size 0 e) false (by simp)
  exact ⟨_, _, G', .inl (by simp [execOp, ho, hxx, hrun]), m1, m2, fun _ => VT.of m3, fun _ => m4⟩
end Go.Lt
