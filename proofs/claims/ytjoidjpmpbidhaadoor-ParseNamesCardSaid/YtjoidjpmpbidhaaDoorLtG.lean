/-
  Lt: what an operation looks at, and what it leaves alone.
  Lt: regions that draw their order are sound.
-/
import Derived.Test.YtjoidjpmpbidhaaDoorLtF
import Derived.OrdersIn
set_option linter.all false
namespace Go.Lt
open Go
variable {C : Cfg}

/-- operands -/
def AOp.os : AOp → List AO
  | .mv x => [x]
  | .pick c a b => [c, a, b]
  | .allocL _ _ => []
  | .allocH _ => []
  | .boxC x => [x]
  | .boxL _ x => [x]
  | .boxH x => [x]
  | .build _ ps => ps.map (·.2.2)
  | .bsl _ _ _ ps => ps.map (·.2)
  | .ldC _ x => [x]
  | .ldL _ x _ => [x]
  | .ldH _ x _ => [x]
  | .stL _ x v => [x, v]
  | .stH _ x v => [x, v]
  | .nilck x => [x]
  | .bin _ _ x y => [x, y]
  | .un _ x => [x]
  | .eqS _ _ x y => [x, y]
  | .cvI _ x => [x]
  | .s2b x => [x]
  | .ifc _ x => [x]
  | .mkfn _ a b => a ++ b
  | .fad _ x => [x]
  | .fld _ _ x => [x]
  | .iad _ x i => [x, i]
  | .iaa _ _ x i => [x, i]
  | .ixs x i => [x, i]
  | .ixa _ _ _ x i => [x, i]
  | .slc _ x lo hi => x :: (lo.toList ++ hi.toList)
  | .sls x lo hi => x :: (lo.toList ++ hi.toList)
  | .ext x _ => [x]
  | .len _ x => [x]
  | .mx x r => x :: r
  | .mn x r => x :: r
  | .app _ x y => [x, y]
  | .appH _ x y => [x, y]
  | .lkp _ _ _ m k => [m, k]
  | .lkpC _ _ _ m k => [m, k]
  | .ixB _ x y => [x, y]
  | .ixS _ _ x y => [x, y]
  | .mkmap => []
  | .mapset _ m k v => [m, k, v]
  | .tas _ _ _ x => [x]
  | .call _ f args => f :: args
  | .dfr f args => f :: args
  | .pan x => [x]

/-- what it makes of the temporaries (but for its own) -/
def AOp.env : AOp → Env → Env
  | .mv x, e => e.untake x
  | .allocL i _, e => e.purge i
  | .boxL i _, e => e.purge i
  | .stL _ _ v, e => e.untake v
  | .stH _ _ v, e => e.untake v
  | .app _ x _, e => e.untake x
  | _, e => e

theorem vs_congr {e e' : Env} : ∀ (xs : List AO), (∀ x ∈ xs, Env.o C e' x = Env.o C e x) → Env.vs C e' xs = Env.vs C e xs
  | [], _ => rfl
  | x :: xs, h => by
    have h1 := vs_congr xs fun y hy => h y (by simp [hy])
    simp only [Env.vs, List.map_cons, Env.v] at h1 ⊢
    rw [h x (by simp), h1]
theorem fillParts_congr {e e' : Env} : ∀ (ps : List (Nat × Nat × AO)) (cs : List AV), (∀ x ∈ ps.map (·.2.2), Env.o C e' x = Env.o C e x) → fillParts C e' cs ps = fillParts C e cs ps
  | [], _, _ => rfl
  | (off, size, x) :: r, cs, h => by
    simp only [fillParts, Env.v]
    rw [h x (by simp)]
    split
    · split
      · exact fillParts_congr r _ fun y hy => h y (by simp only [List.map_cons, List.mem_cons]; exact .inr hy)
      · rfl
    · rfl
theorem fillElems_congr {es : Nat} {e e' : Env} : ∀ (ps : List (Nat × AO)) (xs : List AV), (∀ x ∈ ps.map (·.2), Env.o C e' x = Env.o C e x) → fillElems C es e' xs ps = fillElems C es e xs ps
  | [], _, _ => rfl
  | (i, x) :: r, xs, h => by
    simp only [fillElems, Env.v]
    rw [h x (by simp)]
    split
    · exact fillElems_congr r _ fun y hy => h y (by simp only [List.map_cons, List.mem_cons]; exact .inr hy)
    · rfl
theorem optInt_congr {e e' : Env} {d : Int} : ∀ (x : Option AO), (∀ y ∈ x.toList, Env.o C e' y = Env.o C e y) → optInt C e' d x = optInt C e d x
  | none, _ => rfl
  | some x, h => by
    simp only [optInt, Env.v]
    rw [h x (by simp)]

theorem run_env (o : AOp) (e e' : Env) (l : Loc) (h : List Blk) (d : List (AV × List AV)) (he : ∀ x ∈ o.os, Env.o C e' x = Env.o C e x) :
    o.run C ⟨e', l, h, d⟩ = (o.run C ⟨e, l, h, d⟩).map fun r => (r.1, { r.2 with e := o.env e' }) := by
  cases o
  case build z ps =>
    simp only [AOp.run, fillParts_congr ps z he]
    repeat' (first | rfl | split)
  case bsl n es z ps =>
    simp only [AOp.run, fillElems_congr ps _ he]
    repeat' (first | rfl | split)
  case mkfn f a b =>
    simp only [AOp.run, vs_congr a fun x hx => he x (by simp [AOp.os, hx]), vs_congr b fun x hx => he x (by simp [AOp.os, hx])]
    repeat' (first | rfl | split)
  case mx x r =>
    simp only [AOp.run, vs_congr (x :: r) he]
    repeat' (first | rfl | split)
  case mn x r =>
    simp only [AOp.run, vs_congr (x :: r) he]
    repeat' (first | rfl | split)
  case dfr f args =>
    simp only [AOp.run, vs_congr args fun x hx => he x (by simp [AOp.os, hx]), Env.v, he f (by simp [AOp.os])]
    repeat' (first | rfl | split)
  case slc es x lo hi =>
    simp only [AOp.run, Env.v, he x (by simp [AOp.os]), optInt_congr lo fun y hy => he y (by simp only [AOp.os, List.mem_cons, List.mem_append]; exact .inr (.inl hy)), optInt_congr hi fun y hy => he y (by simp only [AOp.os, List.mem_cons, List.mem_append]; exact .inr (.inr hy))]
    repeat' (first | rfl | split)
  case sls x lo hi =>
    simp only [AOp.run, Env.v, he x (by simp [AOp.os]), optInt_congr lo fun y hy => he y (by simp only [AOp.os, List.mem_cons, List.mem_append]; exact .inr (.inl hy)), optInt_congr hi fun y hy => he y (by simp only [AOp.os, List.mem_cons, List.mem_append]; exact .inr (.inr hy))]
    repeat' (first | rfl | split)
  all_goals
    simp only [AOp.os, List.mem_cons, List.not_mem_nil, or_false, forall_eq_or_imp, forall_eq, false_implies, implies_true] at he
    simp only [AOp.run, Env.v, he]
    repeat' (first | rfl | split)

/-- looks at local blocks, or makes or changes one -/
def AOp.touchL : AOp → Bool
  | .ldL .. | .stL .. | .allocL .. | .boxL .. => true
  | _ => false
def AOp.setsL : AOp → Bool
  | .ldL _ _ tk => tk
  | .stL .. | .allocL .. | .boxL .. => true
  | _ => false
/-- looks at the heap, or changes it -/
def AOp.touchH : AOp → Bool
  | .allocH .. | .boxH .. | .ldH .. | .stH .. | .appH .. | .lkp .. | .mkmap | .mapset .. => true
  | .len c _ => Nat.ble 2 c
  | .call pur _ _ => !pur
  | _ => false
def AOp.setsH : AOp → Bool
  | .ldH _ _ tk => tk
  | .allocH .. | .boxH .. | .stH .. | .appH .. | .mkmap | .mapset .. => true
  | .call pur _ _ => !pur
  | _ => false
/-- calls nothing, defers nothing, makes no local block -/
def AOp.simple : AOp → Bool
  | .call .. | .pan _ | .dfr .. | .allocL .. | .boxL .. => false
  | _ => true

theorem run_nL {o : AOp} (hc : o.touchL = false) (e : Env) (l l' : Loc) (h : List Blk) (d : List (AV × List AV)) :
    o.run C ⟨e, l', h, d⟩ = (o.run C ⟨e, l, h, d⟩).map fun r => (r.1, { r.2 with l := l' }) := by
  cases o <;> simp only [AOp.touchL, Bool.true_eq_false] at hc
  all_goals
    simp only [AOp.run]
    repeat' (first | rfl | split)
theorem run_nH {o : AOp} (hc : o.touchH = false) (e : Env) (l : Loc) (h h' : List Blk) (d : List (AV × List AV)) :
    o.run C ⟨e, l, h', d⟩ = (o.run C ⟨e, l, h, d⟩).map fun r => (r.1, { r.2 with h := h' }) := by
  cases o <;> simp only [AOp.touchH, Bool.true_eq_false] at hc
  case len c x =>
    match c, hc with
    | 0, _ =>
      simp only [AOp.run]
      repeat' (first | rfl | (split <;> (try simp_all)))
    | 1, _ =>
      simp only [AOp.run]
      repeat' (first | rfl | (split <;> (try simp_all)))
  all_goals
    simp only [AOp.run]
    repeat' (first | rfl | split)
theorem run_nD {o : AOp} (hc : ∀ f as, o ≠ .dfr f as) (e : Env) (l : Loc) (h : List Blk) (d d' : List (AV × List AV)) :
    o.run C ⟨e, l, h, d'⟩ = (o.run C ⟨e, l, h, d⟩).map fun r => (r.1, { r.2 with d := d' }) := by
  cases o
  case dfr => exact absurd rfl (hc _ _)
  all_goals
    simp only [AOp.run]
    repeat' (first | rfl | split)
theorem run_sL {o : AOp} (hc : o.setsL = false) {s s' : St} {v : AV} (h : o.run C s = some (v, s')) : s'.l = s.l := by
  cases o <;> simp only [AOp.setsL, Bool.true_eq_false] at hc
  all_goals
    simp only [AOp.run, hc] at h
    repeat' (first | (cases h; done) | (cases h; rfl) | (split at h))
theorem run_sH {o : AOp} (hc : o.setsH = false) {s s' : St} {v : AV} (h : o.run C s = some (v, s')) : s'.h = s.h := by
  cases o <;> simp only [AOp.setsH, Bool.true_eq_false] at hc
  all_goals
    simp only [AOp.run, hc] at h
    repeat' (first | (cases h; done) | (cases h; rfl) | (split at h))
theorem run_sD {o : AOp} (hc : ∀ f as, o ≠ .dfr f as) {s s' : St} {v : AV} (h : o.run C s = some (v, s')) : s'.d = s.d := by
  cases o
  case dfr => exact absurd rfl (hc _ _)
  all_goals
    simp only [AOp.run] at h
    repeat' (first | (cases h; done) | (cases h; rfl) | (split at h))

theorem T.All.bind' {α β : Type} {Q : β → Prop} {t : T α} {f : α → T β} (h : t.All fun x => (f x).All Q) : (t.bind f).All Q := by
  induction t with
  | ret a => exact h
  | fail => exact h
  | ch n k ih => exact ⟨h.1, fun i hi => ih i (h.2 i hi)⟩

/-- two runs side by side -/
inductive T.Rel {α β : Type} (R : α → β → Prop) : T α → T β → Prop
  | ret (a : α) (b : β) (h : R a b) : Rel R (.ret a) (.ret b)
  | fail (u : T β) : Rel R .fail u
  | ch (n : Nat) (k : Nat → T α) (k' : Nat → T β) (h : ∀ i, Rel R (k i) (k' i)) : Rel R (.ch n k) (.ch n k')
theorem T.Rel.all {α β : Type} {R : α → β → Prop} {Q : α → Prop} {Q' : β → Prop} {t : T α} {u : T β} (h : T.Rel R t u) (hq : ∀ a b, R a b → Q a → Q' b) (ha : t.All Q) : u.All Q' := by
  induction h with
  | ret a b h => exact hq a b h ha
  | fail u => exact ha.elim
  | ch n k k' h ih => exact ⟨ha.1, fun i hi => ih i (ha.2 i hi)⟩
theorem T.Rel.bind {α β γ δ : Type} {R : α → β → Prop} {S : γ → δ → Prop} {t : T α} {u : T β} {f : α → T γ} {g : β → T δ} (h : T.Rel R t u) (hf : ∀ a b, R a b → T.Rel S (f a) (g b)) : T.Rel S (t.bind f) (u.bind g) := by
  induction h with
  | ret a b h => exact hf a b h
  | fail u => exact .fail _
  | ch n k k' h ih => exact .ch n _ _ ih
theorem T.Rel.same {α : Type} : ∀ t : T α, T.Rel (fun a b => a = b) t t
  | .ret a => .ret a a rfl
  | .fail => .fail _
  | .ch n k => .ch n k k fun i => T.Rel.same (k i)
theorem T.Rel.mono {α β : Type} {R R' : α → β → Prop} (hr : ∀ a b, R a b → R' a b) {t : T α} {u : T β} (h : T.Rel R t u) : T.Rel R' t u := by
  induction h with
  | ret a b h => exact .ret a b (hr a b h)
  | fail u => exact .fail _
  | ch n k k' h ih => exact .ch n k k' ih

/-! ### temporaries -/
def AO.tmp? : AO → Option Nat
  | .t i => some i
  | .tk i => some i
  | _ => none
def AO.tk? : AO → Option Nat
  | .tk i => some i
  | _ => none
/-- temporaries that an operation takes the right to grow of -/
def AOp.takes : AOp → List Nat
  | .mv x => x.tk?.toList
  | .stL _ _ v => v.tk?.toList
  | .stH _ _ v => v.tk?.toList
  | .app _ x _ => x.tk?.toList
  | .call _ _ args => args.filterMap AO.tk?
  | _ => []
def AOper.reads (o : AOper) : List Nat := (match o.g with | some (t, _) => [t] | none => []) ++ o.op.os.filterMap AO.tmp?
def AOper.writes (o : AOper) : List Nat := o.d.toList ++ o.op.takes

theorem get_untake (e : Env) (x : AO) (t : Nat) : (e.untake x).get t = if t ∈ x.tk?.toList then (e.get t).clr else e.get t := by
  cases x <;> simp only [Env.untake, AO.tk?, Option.toList_none, Option.toList_some, List.not_mem_nil, if_false, List.mem_singleton]
  rename_i i
  rw [Env.get_cons]
  by_cases h : i = t
  · subst h; simp
  · simp [h, Ne.symm h]
theorem clr_clr (v : AV) : v.clr.clr = v.clr := by
  cases v <;> try rfl
  rename_i o xs
  cases o <;> cases xs <;> rfl
theorem get_untakes (xs : List AO) : ∀ (e : Env) (t : Nat), (e.untakes xs).get t = if t ∈ xs.filterMap AO.tk? then (e.get t).clr else e.get t := by
  induction xs with
  | nil => intro e t; simp [Env.untakes]
  | cons x xs ih =>
    intro e t
    simp only [Env.untakes, ih, get_untake]
    cases x with
    | tk i =>
      simp only [AO.tk?, List.filterMap_cons, Option.toList_some, List.mem_singleton, List.mem_cons]
      by_cases h : t = i
      · subst h; simp [clr_clr]
      · simp [h]
    | t _ => simp [AO.tk?]
    | k _ => simp [AO.tk?]
    | g _ => simp [AO.tk?]

theorem o_congr {e e' : Env} {x : AO} (h : ∀ t ∈ x.tmp?.toList, e'.get t = e.get t) : Env.o C e' x = Env.o C e x := by
  cases x <;> simp only [Env.o]
  · rw [h _ (by simp [AO.tmp?])]
  · rw [h _ (by simp [AO.tmp?])]
theorem arg_congr {e e' : Env} {x : AO} (h : ∀ t ∈ x.tmp?.toList, e'.get t = e.get t) : Env.arg C e' x = Env.arg C e x := by
  cases x <;> simp only [Env.arg, Env.o]
  · rw [h _ (by simp [AO.tmp?])]
  · rw [h _ (by simp [AO.tmp?])]

/-- a local block that is made anew is forgotten first -/
def pg (i : Nat) (x : AV) : AV := match x.isL i with
  | true => .undef
  | false => x
theorem pg_clr (i : Nat) (x : AV) : (pg i x).clr = pg i x.clr := by
  cases x with
  | sl o xs => cases o <;> cases xs <;> rfl
  | lptr b o =>
    simp only [pg, AV.clr, AV.isL]
    cases Nat.beq b i <;> rfl
  | _ => rfl
theorem isL_clr (i : Nat) (x : AV) : x.clr.isL i = x.isL i := by
  cases x with
  | sl o xs => cases o <;> cases xs <;> rfl
  | _ => rfl
theorem pg_of {i : Nat} {x : AV} (h : x.isL i = false) : pg i x = x := by
  unfold pg; rw [h]
def nolA : AO → Bool
  | .k v => v.nol
  | .g _ => false
  | _ => true
/-- yields no pointer to a local block, unless it looks at one -/
def AOp.nolOp : AOp → Bool
  | .mv x => nolA x
  | .nilck x => nolA x
  | .fad _ x => nolA x
  | .pick .. | .lkp .. | .lkpC .. | .tas .. | .allocL .. | .boxL .. => false
  | _ => true

/-- what an operation makes of each temporary -/
structure Upd (o : AOper) (s1 s2 : St) (f : Nat → AV → AV) (r1 r2 : St) : Prop where
  loc : ∀ t x, t ∉ o.writes → f t x = x
  fst : ∀ t, r1.e.get t = f t (s1.e.get t)
  snd : ∀ t, r2.e.get t = f t (s2.e.get t)
  pu : ∀ i, o.op.nolOp = true → (∀ t ∈ o.reads, (s2.e.get t).isL i = false) → ∀ t x, f t (pg i x) = pg i (f t x)
def Lhd (s1 s2 : St) : Prop := s1.l = s2.l ∧ s1.h = s2.h ∧ s1.d = s2.d
theorem Lhd.symm {s1 s2 : St} (h : Lhd s1 s2) : Lhd s2 s1 := ⟨h.1.symm, h.2.1.symm, h.2.2.symm⟩
theorem Lhd.trans {s1 s2 s3 : St} (h : Lhd s1 s2) (k : Lhd s2 s3) : Lhd s1 s3 := ⟨h.1.trans k.1, h.2.1.trans k.2.1, h.2.2.trans k.2.2⟩

/-- may its place in the order be changed? -/
def AOper.mov (o : AOper) : Bool :=
  match o.op with
  | .call .. => true
  | .pan _ => true
  | op => op.simple

structure StepR (o : AOper) (s1 s2 : St) (r1 r2 : Option AV × St) : Prop where
  val : r1.1 = r2.1
  sim : o.op.simple = true → r1.1 = none
  upd : ∃ f, Upd o s1 s2 f r1.2 r2.2
  eqL : s1.l = s2.l → r1.2.l = r2.2.l
  setL : o.op.setsL = false → r1.2.l = s1.l ∧ r2.2.l = s2.l
  eqH : s1.h = s2.h → r1.2.h = r2.2.h
  setH : o.op.setsH = false → r1.2.h = s1.h ∧ r2.2.h = s2.h
  setD : r1.2.d = s1.d ∧ r2.2.d = s2.d

theorem St.put_get (s : St) (d : Option Nat) (v : AV) (t : Nat) : (s.put d v).e.get t = if d = some t then v else s.e.get t := by
  cases d with
  | none => simp [St.put]
  | some d =>
    simp only [St.put, Env.get_cons, Option.some.injEq]
theorem St.put_l (s : St) (d : Option Nat) (v : AV) : (s.put d v).l = s.l := by cases d <;> rfl
theorem St.put_h (s : St) (d : Option Nat) (v : AV) : (s.put d v).h = s.h := by cases d <;> rfl
theorem St.put_d (s : St) (d : Option Nat) (v : AV) : (s.put d v).d = s.d := by cases d <;> rfl

/-- putting behind an effect on some temporaries -/
theorem upd_put {o : AOper} {s1 s2 r1 r2 : St} {tk : List Nat} (htk : ∀ t ∈ tk, t ∈ o.op.takes) (h1 : ∀ t, r1.e.get t = if t ∈ tk then (s1.e.get t).clr else s1.e.get t) (h2 : ∀ t, r2.e.get t = if t ∈ tk then (s2.e.get t).clr else s2.e.get t) (v : AV)
    (hv : ∀ i, o.op.nolOp = true → (∀ t ∈ o.reads, (s2.e.get t).isL i = false) → v.isL i = false) :
    ∃ f, Upd o s1 s2 f (r1.put o.d v) (r2.put o.d v) := by
  refine ⟨fun t x => if o.d = some t then v else if t ∈ tk then x.clr else x, fun t x ht => ?_, fun t => ?_, fun t => ?_, fun i hn hi t x => ?_⟩
  · simp only [AOper.writes, List.mem_append, Option.mem_toList, not_or] at ht
    rw [if_neg (fun h => ht.1 h), if_neg (fun h => ht.2 (htk t h))]
  · simp only [St.put_get, h1]
  · simp only [St.put_get, h2]
  · split
    · rw [pg_of (hv i hn hi)]
    · split
      · exact pg_clr i x
      · rfl
theorem upd_id {o : AOper} {s1 s2 r1 r2 : St} {tk : List Nat} (htk : ∀ t ∈ tk, t ∈ o.op.takes) (h1 : ∀ t, r1.e.get t = if t ∈ tk then (s1.e.get t).clr else s1.e.get t) (h2 : ∀ t, r2.e.get t = if t ∈ tk then (s2.e.get t).clr else s2.e.get t) :
    ∃ f, Upd o s1 s2 f r1 r2 := by
  refine ⟨fun t x => if t ∈ tk then x.clr else x, fun t x ht => ?_, h1, h2, fun i hn hi t x => ?_⟩
  · simp only [AOper.writes, List.mem_append, not_or] at ht
    rw [if_neg (fun h => ht.2 (htk t h))]
  · split
    · exact pg_clr i x
    · rfl

theorem env_get {o : AOp} (hs : o.simple = true) (e : Env) (t : Nat) : (o.env e).get t = if t ∈ o.takes then (e.get t).clr else e.get t := by
  cases o <;> simp only [AOp.simple, Bool.false_eq_true] at hs <;> simp only [AOp.env, AOp.takes, get_untake, List.not_mem_nil, if_false]
  all_goals
    first | rfl | (split <;> rename_i h <;> first | exact (if_pos h).symm | exact (if_neg h).symm)

theorem readSh_nol {sh : Option Nat} {cs : List AV} {v : AV} (h : readSh sh cs = some v) (i : Nat) : v.isL i = false := by
  unfold readSh at h
  split at h
  · split at h <;> first | (cases h; done) | skip
    split at h <;> first | (cases h; done) | skip
    rename_i hl
    cases h
    cases v <;> first | rfl | (simp [AV.leaf] at hl)
  · split at h <;> cases h
    rfl
theorem ok_nol {v : AV} (h : v.ok = true) (i : Nat) : v.isL i = false := by
  cases v <;> first | rfl | (simp [AV.ok] at h)
theorem binA_nol {c : Nat} {op : BinOp} {x y v : AV} (h : binA c op x y = some v) (i : Nat) : v.isL i = false := by
  unfold binA shiftOp arithA intOp at h
  repeat' (first | (cases h; done) | (cases h; rfl) | (split at h))
theorem unA_nol {op : UnOp} {x v : AV} (h : unA op x = some v) (i : Nat) : v.isL i = false := by
  unfold unA at h
  repeat' (first | (cases h; done) | (cases h; rfl) | (split at h))

theorem val_nol {o : AOp} (hn : o.nolOp = true) {s s' : St} {v : AV} (h : o.run C s = some (v, s')) {i : Nat} (hi : ∀ t ∈ o.os.filterMap AO.tmp?, (s.e.get t).isL i = false) : v.isL i = false := by
  have hx : ∀ x ∈ o.os, nolA x = true → (Env.o C s.e x).isL i = false := by
    intro x hx hnx
    cases x with
    | t j => simp only [Env.o, isL_clr]; exact hi j (List.mem_filterMap.2 ⟨_, hx, rfl⟩)
    | tk j => simp only [Env.o]; exact hi j (List.mem_filterMap.2 ⟨_, hx, rfl⟩)
    | k u => simp only [Env.o]; cases u <;> first | rfl | (simp [nolA, AV.nol] at hnx)
    | g _ => simp [nolA] at hnx
  cases o <;> simp only [AOp.nolOp, Bool.false_eq_true] at hn
  case mv x =>
    have := hx x (by simp [AOp.os]) hn
    simp only [AOp.run] at h
    split at h <;> cases h
    exact this
  case nilck x =>
    have := hx x (by simp [AOp.os]) hn
    simp only [AOp.run] at h
    rw [← isL_clr] at this
    replace this : (Env.v C s.e x).isL i = false := this
    repeat' (first | (cases h; done) | (split at h))
    all_goals
      rename_i he
      rw [he] at this
      cases h
      exact this
  case fad off x =>
    have := hx x (by simp [AOp.os]) hn
    simp only [AOp.run] at h
    rw [← isL_clr] at this
    replace this : (Env.v C s.e x).isL i = false := this
    repeat' (first | (cases h; done) | (split at h))
    all_goals
      rename_i he
      rw [he] at this
      cases h
      exact this
  case bin c op x y =>
    simp only [AOp.run] at h
    split at h <;> cases h
    rename_i hb
    exact binA_nol hb i
  case un op x =>
    simp only [AOp.run] at h
    split at h <;> cases h
    rename_i hb
    exact unA_nol hb i
  all_goals
    simp only [AOp.run] at h
    repeat' (first | (cases h; done) | (cases h; rfl) | (split at h))
  all_goals
    cases h
    try rw [isL_clr]
    first
      | exact readSh_nol (by assumption) i
      | exact ok_nol (by assumption) i
      | (unfold optIdx; split <;> rfl)

/-- an operand that is not there -/
theorem vs_undef {e : Env} : ∀ {xs : List AO} {x : AO}, x ∈ xs → Env.o C e x = .undef → allOk ((Env.vs C e xs).map AV.nrm) = false
  | y :: xs, x, hx, h => by
    simp only [Env.vs, List.map_cons, allOk, Env.v]
    rcases List.mem_cons.1 hx with rfl | hx
    · rw [h]; rfl
    · have := vs_undef hx h
      simp only [Env.vs] at this
      rw [this, Bool.and_false]
theorem fillParts_undef {e : Env} : ∀ {ps : List (Nat × Nat × AO)} {cs : List AV} {x : AO}, x ∈ ps.map (·.2.2) → Env.o C e x = .undef → fillParts C e cs ps = none
  | (off, size, y) :: ps, cs, x, hx, h => by
    simp only [fillParts, Env.v]
    rcases List.mem_cons.1 hx with rfl | hx
    · rw [h]; rfl
    · split
      · split
        · exact fillParts_undef hx h
        · rfl
      · rfl
theorem fillElems_undef {es : Nat} {e : Env} : ∀ {ps : List (Nat × AO)} {cs : List AV} {x : AO}, x ∈ ps.map (·.2) → Env.o C e x = .undef → fillElems C es e cs ps = none
  | (j, y) :: ps, cs, x, hx, h => by
    simp only [fillElems, Env.v]
    rcases List.mem_cons.1 hx with rfl | hx
    · rw [h]; rfl
    · split
      · exact fillElems_undef hx h
      · rfl
theorem intsOf_undef {e : Env} : ∀ {xs : List AO} {x : AO}, x ∈ xs → Env.o C e x = .undef → intsOf (Env.vs C e xs) = none
  | y :: xs, x, hx, h => by
    simp only [Env.vs, List.map_cons, Env.v]
    rcases List.mem_cons.1 hx with rfl | hx
    · rw [h]; rfl
    · have := intsOf_undef hx h
      simp only [Env.vs, Env.v] at this
      have hne : xs.map (fun x => (Env.o C e x).clr) ≠ [] := by
        cases xs with
        | nil => cases hx
        | cons _ _ => simp
      unfold intsOf
      split
      · rename_i heq; cases heq
      · rename_i heq; injection heq with _ heq; exact absurd heq hne
      · rename_i k n r _ heq
        injection heq with _ heq
        have hv : Env.vs C e xs = r := heq
        rw [show intsOf r = none by rw [← heq]; exact this]
      · rfl

theorem binA_undef (c : Nat) (op : BinOp) (x : AV) : binA c op .undef x = none ∧ binA c op x .undef = none := by
  have e1 : ∀ c, eqV c .undef x = none ∧ eqV c x .undef = none := by
    intro c
    constructor
    · unfold eqV; split <;> first | contradiction | rfl
    · unfold eqV; split <;> first | contradiction | rfl
  constructor
  · unfold binA; split <;> first | rfl | (rw [(e1 c).1]) | (unfold arithA; rfl)
  · unfold binA; split <;> first | (rw [(e1 c).2]) | (cases x <;> rfl) | (unfold arithA; cases x <;> rfl)
theorem unA_undef (op : UnOp) : unA op .undef = none := by cases op <;> rfl

theorem keyOk_undef (c : Nat) : keyOk c .undef = false := by
  unfold keyOk; split <;> first | contradiction | rfl
theorem ok_undef : AV.undef.ok = false := rfl

/-- does it look at all its operands? -/
def AOp.strict : AOp → Bool
  | .pick .. | .call .. | .pan _ => false
  | _ => true
theorem run_undef {o : AOp} (hs : o.strict = true) {s : St} {x : AO} (hx : x ∈ o.os) (h : Env.o C s.e x = .undef) : o.run C s = none := by
  have hv : Env.v C s.e x = .undef := by simp only [Env.v, h]; rfl
  cases o <;> simp only [AOp.strict, Bool.false_eq_true] at hs
  case build z ps => simp only [AOp.run, fillParts_undef (ps := ps) hx h]
  case bsl n es z ps => simp only [AOp.run, fillElems_undef (ps := ps) hx h]
  case mx y r => simp only [AOp.run, intsOf_undef (xs := y :: r) hx h]
  case mn y r => simp only [AOp.run, intsOf_undef (xs := y :: r) hx h]
  case mkfn f a b =>
    simp only [AOp.run]
    rcases List.mem_append.1 hx with hx | hx
    · rw [vs_undef hx h]; rfl
    · rw [vs_undef hx h]; simp
  case dfr f args =>
    simp only [AOp.run]
    rcases List.mem_cons.1 hx with rfl | hx
    · rw [hv]
    · rw [vs_undef hx h]
      split <;> rfl
  case slc es y lo hi =>
    simp only [AOp.run]
    simp only [AOp.os, List.mem_cons, List.mem_append, Option.mem_toList] at hx
    rcases hx with rfl | hx | hx
    · rw [hv]
    · subst hx
      simp only [optInt, hv]
      split <;> rfl
    · subst hx
      split
      · simp only [optInt, hv]
        split <;> first | rfl | (split at * <;> simp_all)
      · rfl
  case sls y lo hi =>
    simp only [AOp.run]
    simp only [AOp.os, List.mem_cons, List.mem_append, Option.mem_toList] at hx
    rcases hx with rfl | hx | hx
    · rw [hv]
    · subst hx
      simp only [optInt, hv]
      split <;> rfl
    · subst hx
      split
      · simp only [optInt, hv]
        split <;> first | rfl | (split at * <;> simp_all)
      · rfl
  case bin c op y z =>
    simp only [AOp.os, List.mem_cons, List.not_mem_nil, or_false] at hx
    rcases hx with rfl | rfl
    · simp only [AOp.run, hv, (binA_undef c op _).1]
    · simp only [AOp.run, hv, (binA_undef c op _).2]
  case un op y =>
    simp only [AOp.os, List.mem_cons, List.not_mem_nil, or_false] at hx
    subst hx
    simp only [AOp.run, hv, unA_undef]
  case stL n y v =>
    simp only [AOp.os, List.mem_cons, List.not_mem_nil, or_false] at hx
    rcases hx with rfl | rfl
    · simp only [AOp.run, hv]
    · have hl : allLeaf (Env.o C s.e x).cells = false := by rw [h]; rfl
      simp only [AOp.run, hl, Bool.and_false]
      repeat' (first | rfl | split)
  case stH n y v =>
    simp only [AOp.os, List.mem_cons, List.not_mem_nil, or_false] at hx
    rcases hx with rfl | rfl
    · simp only [AOp.run, hv]
    · have hl : allLeaf (Env.o C s.e x).cells = false := by rw [h]; rfl
      simp only [AOp.run, hl, Bool.and_false]
      repeat' (first | rfl | split)
  all_goals
    simp only [AOp.os, List.mem_cons, List.not_mem_nil, or_false] at hx <;> first
      | (subst hx; simp only [AOp.run, hv, h, ok_undef]; done)
      | (rcases hx with rfl | rfl | rfl
         all_goals (simp only [AOp.run, hv, h, keyOk_undef, ok_undef, Bool.and_false, Bool.false_and]; (try rfl); (try (repeat' (first | contradiction | rfl | split))))
         done)
      | (rcases hx with rfl | rfl
         all_goals (simp only [AOp.run, hv, h, keyOk_undef, ok_undef, Bool.and_false, Bool.false_and]; (try rfl); (try (repeat' (first | contradiction | rfl | split))))
         done)
theorem wanted_congr {o : AOper} {e e' : Env} (h : ∀ t ∈ o.reads, e'.get t = e.get t) : o.wanted e' = o.wanted e := by
  unfold AOper.wanted
  unfold AOper.reads at h
  split
  · rfl
  · rename_i t w hg
    rw [hg] at h
    rw [h t (by simp)]

theorem touchL_sets {o : AOp} (h : o.touchL = false) : o.setsL = false := by cases o <;> first | rfl | cases h
theorem touchH_sets {o : AOp} (h : o.touchH = false) : o.setsH = false := by cases o <;> first | rfl | cases h | exact h

/-- a cell's right to grow has been taken -/
def Taken (h h' : List Blk) : Prop := ∃ i off cs v, hget h i = some cs ∧ cs[off]? = some v ∧ h' = h.set i (.cells (cs.set off v.clr))
/-- reads a cell, and leaves it its right to grow -/
def AOp.rdH : AOp → Bool
  | .ldH none _ false => true
  | _ => false

theorem nodfr_of_simple {o : AOp} (h : o.simple = true) : ∀ f as, o ≠ .dfr f as := by
  intro f as he; rw [he] at h; cases h

theorem hget_set {h : List Blk} {i j : Nat} {cs : List AV} (hi : (hget h i).isSome = true) : hget (h.set i (.cells cs)) j = if i = j then some cs else hget h j := by
  unfold hget at *
  rw [List.getElem?_set]
  have hlt : i < h.length := by
    cases hq : h[i]? with
    | none => rw [hq] at hi; cases hi
    | some b => exact (List.getElem?_eq_some_iff.1 hq).1
  by_cases hij : i = j
  · subst hij; simp [hlt]
  · simp [hij]
theorem leaf_clr (v : AV) : v.clr.leaf = v.leaf := by
  cases v <;> try rfl
  rename_i o xs
  cases o <;> cases xs <;> rfl
/-- a reading is none the wiser -/
theorem read_taken {cs : List AV} {off off' : Nat} {v : AV} (hv : cs[off]? = some v) : (readSh none ((cs.set off v.clr).drop off')).map AV.clr = (readSh none (cs.drop off')).map AV.clr := by
  have key : ∀ (l l' : List AV), (l[0]?).map AV.clr = (l'[0]?).map AV.clr → (readSh none l).map AV.clr = (readSh none l').map AV.clr := by
    intro l l' h
    cases l with
    | nil => cases l' with
      | nil => rfl
      | cons y l' => simp at h
    | cons x l => cases l' with
      | nil => simp at h
      | cons y l' =>
        simp only [List.getElem?_cons_zero, Option.map_some, Option.some.injEq] at h
        simp only [readSh]
        have hl : x.leaf = y.leaf := by rw [← leaf_clr x, ← leaf_clr y, h]
        rw [hl]
        split
        · simp [h]
        · rfl
  refine key _ _ ?_
  simp only [List.getElem?_drop, Nat.add_zero]
  rw [List.getElem?_set]
  split
  · rename_i he
    subst he
    split
    · rw [hv]; simp [clr_clr]
    · rename_i hge
      rw [List.getElem?_eq_none (by omega)]
  · rfl
theorem run_rdH {o : AOp} (hr : o.rdH = true) {e : Env} {l : Loc} {h h' : List Blk} {d : List (AV × List AV)} (ht : Taken h h') : (o.run C ⟨e, l, h', d⟩).map (·.1) = (o.run C ⟨e, l, h, d⟩).map (·.1) := by
  unfold AOp.rdH at hr
  split at hr <;> first | (cases hr; done) | skip
  rename_i x
  obtain ⟨i, off, cs, v, h1, h2, rfl⟩ := ht
  simp only [AOp.run]
  split
  · rename_i j off' _
    rw [hget_set (by rw [h1]; rfl)]
    by_cases hij : i = j
    · subst hij
      simp only [if_true, h1]
      have := read_taken (off' := off') h2
      cases hq : readSh none (cs.drop off') with
      | none =>
        rw [hq] at this
        cases hp : readSh none ((cs.set off v.clr).drop off') with
        | none => rfl
        | some _ => rw [hp] at this; cases this
      | some u =>
        rw [hq] at this
        cases hp : readSh none ((cs.set off v.clr).drop off') with
        | none => rw [hp] at this; cases this
        | some u' =>
          rw [hp] at this
          simp only [Option.map_some, Option.some.injEq] at this
          simp [this]
    · simp only [hij, if_false]
      cases hget h j with
      | none => rfl
      | some ds =>
        simp only
        cases readSh none (ds.drop off') <;> rfl
  · rfl

theorem pure_nol {v : AV} (h : v.pure = true) (i : Nat) : v.isL i = false := by
  cases v <;> first | rfl | (simp [AV.pure] at h)
theorem nol_isL {v : AV} (h : v.nol = true) (i : Nat) : v.isL i = false := by
  cases v <;> first | rfl | (simp [AV.nol] at h)

theorem step_rel {call : Call} {o : AOper} (hm : o.mov = true) {s1 s2 : St} (hr : ∀ t ∈ o.reads, s2.e.get t = s1.e.get t) (hL : o.op.touchL = true → s1.l = s2.l) (hH : o.op.touchH = true → s1.h = s2.h ∨ (o.op.rdH = true ∧ (Taken s1.h s2.h ∨ Taken s2.h s1.h))) : T.Rel (StepR o s1 s2) (step1 C call o s1) (step1 C call o s2) := by
  have hop : ∀ x ∈ o.op.os, ∀ t ∈ x.tmp?.toList, s2.e.get t = s1.e.get t := fun x hx t ht => hr t (by
    simp only [AOper.reads, List.mem_append, List.mem_filterMap]
    exact .inr ⟨x, hx, by simpa using ht⟩)
  unfold step1
  rw [wanted_congr hr]
  split
  · exact .fail _
  · refine .ret _ _ ⟨rfl, fun _ => rfl, upd_put (tk := []) (by simp) (by simp) (by simp) _ (fun _ _ _ => rfl), fun h => ?_, fun _ => ⟨St.put_l _ _ _, St.put_l _ _ _⟩, fun h => ?_, fun _ => ⟨St.put_h _ _ _, St.put_h _ _ _⟩, St.put_d _ _ _, St.put_d _ _ _⟩
    · simp only [St.put_l]; exact h
    · simp only [St.put_h]; exact h
  · split
    · -- a panic
      rename_i x hx
      rw [show Env.v C s2.e x = Env.v C s1.e x by simp only [Env.v]; rw [o_congr (hop x (by rw [hx]; simp [AOp.os]))]]
      split
      · refine .ret _ _ ⟨rfl, fun h => (by rw [hx] at h; cases h), upd_id (tk := []) (by simp) (by simp) (by simp), id, fun _ => ⟨rfl, rfl⟩, id, fun _ => ⟨rfl, rfl⟩, rfl, rfl⟩
      · exact .fail _
    · -- a call
      rename_i pur f args hx
      have hf : Env.v C s2.e f = Env.v C s1.e f := by simp only [Env.v]; rw [o_congr (hop f (by rw [hx]; simp [AOp.os]))]
      have ha : args.map (Env.arg C s2.e) = args.map (Env.arg C s1.e) := List.map_congr_left fun x hxa => arg_congr (hop x (by rw [hx]; simp [AOp.os, hxa]))
      simp only [hf, ha]
      have hns : o.op.simple = true → False := fun h => by rw [hx] at h; cases h
      have htk : ∀ t ∈ args.filterMap AO.tk?, t ∈ o.op.takes := fun t ht => by rw [hx]; exact ht
      split
      · rename_i c as hc _
        cases pur with
        | true =>
          simp only
          split
          · refine T.Rel.bind (T.Rel.same _) fun a b hab => ?_
            subst hab
            split
            · split
              · rename_i hpu
                refine .ret _ _ ⟨rfl, fun _ => rfl, upd_put (tk := args.filterMap AO.tk?) htk (by simp [get_untakes]) (by simp [get_untakes]) _ (fun i _ _ => pure_nol hpu i), fun h => ?_, fun _ => ⟨St.put_l _ _ _, St.put_l _ _ _⟩, fun h => ?_, fun _ => ⟨St.put_h _ _ _, St.put_h _ _ _⟩, St.put_d _ _ _, St.put_d _ _ _⟩
                · simp only [St.put_l]; exact h
                · simp only [St.put_h]; exact h
              · exact .fail _
            · split
              · exact .ret _ _ ⟨rfl, fun h => (hns h).elim, upd_id (tk := args.filterMap AO.tk?) htk (by simp [get_untakes]) (by simp [get_untakes]), fun h => h, fun _ => ⟨rfl, rfl⟩, fun h => h, fun _ => ⟨rfl, rfl⟩, rfl, rfl⟩
              · exact .fail _
          · exact .fail _
        | false =>
          have hh : s1.h = s2.h := by
            rcases hH (by rw [hx]; rfl) with h | ⟨h, _⟩
            · exact h
            · rw [hx] at h; cases h
          simp only
          rw [hh]
          refine T.Rel.bind (T.Rel.same _) fun a b hab => ?_
          subst hab
          split
          · split
            · rename_i hnol
              refine .ret _ _ ⟨rfl, fun _ => rfl, upd_put (tk := args.filterMap AO.tk?) htk (by simp [get_untakes]) (by simp [get_untakes]) _ (fun i _ _ => nol_isL hnol i), fun h => ?_, fun _ => ⟨St.put_l _ _ _, St.put_l _ _ _⟩, fun _ => ?_, fun h => (by rw [hx] at h; cases h), St.put_d _ _ _, St.put_d _ _ _⟩
              · simp only [St.put_l]; exact h
              · simp only [St.put_h]
            · exact .fail _
          · exact .ret _ _ ⟨rfl, fun h => (hns h).elim, upd_id (tk := args.filterMap AO.tk?) htk (by simp [get_untakes]) (by simp [get_untakes]), fun h => h, fun _ => ⟨rfl, rfl⟩, fun _ => rfl, fun h => (by rw [hx] at h; cases h), rfl, rfl⟩
      · exact .fail _
    · -- no call
      rename_i hnp hnc
      have hsim : o.op.simple = true := by
        unfold AOper.mov at hm
        split at hm
        · rename_i p q r he; exact absurd he (hnc p q r)
        · rename_i p he; exact absurd he (hnp p)
        · exact hm
      have hnd := nodfr_of_simple hsim
      obtain ⟨e1, l1, h1, d1⟩ := s1
      obtain ⟨e2, l2, h2, d2⟩ := s2
      simp only at hL hH
      have hE : ∀ x ∈ o.op.os, Env.o C e2 x = Env.o C e1 x := fun x hx => o_congr (hop x hx)
      have h11 := run_env (C := C) o.op e1 e1 l1 h1 d1 fun _ _ => rfl
      -- the second run, out of the first
      have h22 : ∃ R : List Blk → List Blk, o.op.run C ⟨e2, l2, h2, d2⟩ = (o.op.run C ⟨e1, l1, h1, d1⟩).map (fun r => (r.1, ⟨o.op.env e2, if o.op.touchL then r.2.l else l2, R r.2.h, d2⟩)) ∧
          (h1 = h2 → ∀ r, o.op.run C ⟨e1, l1, h1, d1⟩ = some r → R r.2.h = r.2.h) ∧ (o.op.setsH = false → ∀ x, x = h1 → R x = h2) := by
        have sL : ∀ r, o.op.run C ⟨e2, l2, h2, d2⟩ = some r → o.op.touchL = false → r.2.l = l2 := fun r hrr ht => run_sL (touchL_sets ht) hrr
        have stepE : o.op.run C ⟨e2, l2, h2, d2⟩ = (o.op.run C ⟨e1, l2, h2, d2⟩).map fun r => (r.1, { r.2 with e := o.op.env e2 }) := run_env o.op e1 e2 l2 h2 d2 hE
        have stepD : o.op.run C ⟨e1, l2, h2, d2⟩ = (o.op.run C ⟨e1, l2, h2, d1⟩).map fun r => (r.1, { r.2 with d := d2 }) := run_nD hnd e1 l2 h2 d1 d2
        have stepL : o.op.run C ⟨e1, l2, h2, d1⟩ = (o.op.run C ⟨e1, l1, h2, d1⟩).map fun r => (r.1, { r.2 with l := if o.op.touchL then r.2.l else l2 }) := by
          cases ht : o.op.touchL with
          | true =>
            have := hL ht
            subst this
            simp only [if_true]
            cases o.op.run C ⟨e1, l1, h2, d1⟩ <;> rfl
          | false =>
            simp only [Bool.false_eq_true, if_false]
            exact run_nL ht e1 l1 l2 h2 d1
        have tot : o.op.run C ⟨e2, l2, h2, d2⟩ = (o.op.run C ⟨e1, l1, h2, d1⟩).map fun r => (r.1, ⟨o.op.env e2, if o.op.touchL then r.2.l else l2, r.2.h, d2⟩) := by
          rw [stepE, stepD, stepL]
          cases o.op.run C ⟨e1, l1, h2, d1⟩ <;> rfl
        rw [tot]
        cases ht : o.op.touchH with
        | false =>
          refine ⟨fun _ => h2, ?_, ?_, ?_⟩
          · rw [run_nH ht e1 l1 h1 h2 d1]
            cases o.op.run C ⟨e1, l1, h1, d1⟩ <;> rfl
          · intro he r hrr
            have := run_sH (touchH_sets ht) (v := r.1) (s' := r.2) hrr
            rw [this]; exact he.symm
          · intro _ _ _; rfl
        | true =>
          rcases hH ht with he | ⟨hrd, htk⟩
          · subst he
            refine ⟨id, rfl, fun _ _ _ => rfl, fun _ x hx => hx⟩
          · have hset : o.op.setsH = false := by
              unfold AOp.rdH at hrd
              split at hrd <;> first | (cases hrd; done) | skip
              rename_i heq
              rw [heq]; rfl
            have hsetL : o.op.setsL = false ∧ o.op.touchL = false := by
              unfold AOp.rdH at hrd
              split at hrd <;> first | (cases hrd; done) | skip
              rename_i heq
              rw [heq]; exact ⟨rfl, rfl⟩
            refine ⟨fun _ => h2, ?_, ?_, fun _ _ _ => rfl⟩
            · have hv : (o.op.run C ⟨e1, l1, h2, d1⟩).map (·.1) = (o.op.run C ⟨e1, l1, h1, d1⟩).map (·.1) := by
                rcases htk with h | h
                · exact run_rdH hrd h
                · exact (run_rdH hrd h).symm
              cases ha : o.op.run C ⟨e1, l1, h1, d1⟩ with
              | none =>
                rw [ha] at hv
                cases hb : o.op.run C ⟨e1, l1, h2, d1⟩ with
                | none => rfl
                | some _ => rw [hb] at hv; cases hv
              | some r =>
                rw [ha] at hv
                cases hb : o.op.run C ⟨e1, l1, h2, d1⟩ with
                | none => rw [hb] at hv; cases hv
                | some r' =>
                  rw [hb] at hv
                  simp only [Option.map_some, Option.some.injEq] at hv
                  have := run_sH hset (v := r'.1) (s' := r'.2) hb
                  simp only [Option.map_some, hsetL.2, Bool.false_eq_true, if_false, hv, this]
            · intro he r hrr
              have := run_sH hset (v := r.1) (s' := r.2) hrr
              rw [this]; exact he.symm
      obtain ⟨R, h22, hR1, hR2⟩ := h22
      rw [h22]
      cases hrun : o.op.run C ⟨e1, l1, h1, d1⟩ with
      | none => exact .fail _
      | some r =>
        obtain ⟨v, r⟩ := r
        rw [hrun] at h11
        simp only [Option.map_some, Option.some.injEq, Prod.mk.injEq, true_and] at h11
        have hre : r.e = o.op.env e1 := by rw [h11]
        have hg1 : ∀ t, r.e.get t = if t ∈ o.op.takes then (e1.get t).clr else e1.get t := fun t => by rw [hre]; exact env_get hsim e1 t
        have hg2 : ∀ t, (o.op.env e2).get t = if t ∈ o.op.takes then (e2.get t).clr else e2.get t := fun t => env_get hsim e2 t
        refine .ret _ _ ⟨rfl, fun _ => rfl, upd_put (fun _ h => h) hg1 hg2 v (fun i hn hi => val_nol hn hrun fun t ht => by rw [← hr t (by simp only [AOper.reads, List.mem_append]; exact .inr ht)]; exact hi t (by simp only [AOper.reads, List.mem_append]; exact .inr ht)), fun h => ?_, fun h => ?_, fun h => ?_, fun h => ?_, ?_, ?_⟩
        · simp only [St.put_l] at h ⊢
          cases ht : o.op.touchL with
          | true => simp only [if_true]
          | false =>
            simp only [Bool.false_eq_true, if_false]
            rw [run_sL (touchL_sets ht) hrun]
            exact h
        · simp only [St.put_l]
          have := run_sL h hrun
          refine ⟨this, ?_⟩
          cases ht : o.op.touchL with
          | true => simp only [if_true]; rw [this]; exact hL ht
          | false => simp only [Bool.false_eq_true, if_false]
        · simp only [St.put_h] at h ⊢
          exact (hR1 h _ hrun).symm
        · simp only [St.put_h]
          have := run_sH h hrun
          exact ⟨this, hR2 h _ this⟩
        · simp only [St.put_d]
          exact run_sD hnd hrun
        · simp only [St.put_d]

/-- what an operation looks at is there -/
theorem step_undef {call : Call} {o : AOper} (hs : (match o.op with | .pick .. => false | _ => true) = true) {s : St} {t : Nat} (ht : t ∈ o.reads) (hg : o.g = none) (hu : s.e.get t = .undef) : step1 C call o s = .fail := by
  have hx : ∃ x ∈ o.op.os, x.tmp? = some t := by
    simp only [AOper.reads, hg, List.nil_append, List.mem_filterMap] at ht
    exact ht
  obtain ⟨x, hx, hxt⟩ := hx
  have ho : Env.o C s.e x = .undef := by
    cases x <;> simp only [AO.tmp?, Option.some.injEq, reduceCtorEq] at hxt
    · subst hxt; simp only [Env.o, hu]; rfl
    · subst hxt; simp only [Env.o, hu]
  have hv : Env.v C s.e x = .undef := by simp only [Env.v, ho]; rfl
  unfold step1
  simp only [AOper.wanted, hg]
  split
  · rename_i y he
    rw [he] at hx
    simp only [AOp.os, List.mem_singleton] at hx
    subst hx
    rw [hv]
  · rename_i pur f args he
    rw [he] at hx
    simp only [AOp.os, List.mem_cons] at hx
    rcases hx with rfl | hx
    · rw [hv]
      simp only [callee]
      split <;> first | rfl | (rename_i heq; cases heq)
    · have ha : allOk (args.map (Env.arg C s.e)) = false := by
        have harg : Env.arg C s.e x = .undef := by
          cases x <;> simp only [AO.tmp?, Option.some.injEq, reduceCtorEq] at hxt
          · simp only [Env.arg, ho]; rfl
          · subst hxt; simp only [Env.arg, hu]
        have : ∀ l : List AO, x ∈ l → allOk (l.map (Env.arg C s.e)) = false := by
          intro l
          induction l with
          | nil => intro h; cases h
          | cons y l ih =>
            intro h
            simp only [List.map_cons, allOk]
            rcases List.mem_cons.1 h with rfl | h
            · rw [harg]; rfl
            · rw [ih h, Bool.and_false]
        exact this args hx
      simp only [ha]
  · rename_i hnp hnc
    rw [run_undef ?_ hx ho]
    generalize o.op = op at hs hnp hnc
    cases op <;> first | rfl | (cases hs; done) | exact absurd rfl (hnp _) | exact absurd rfl (hnc _ _ _)

/-! ### making local blocks -/
def AOp.newL : AOp → Option Nat
  | .allocL i _ => some i
  | .boxL i _ => some i
  | _ => none
def AOp.zOf (C : Cfg) (o : AOp) (e : Env) : Option (List AV) :=
  match o with
  | .allocL _ z => some z
  | .boxL _ x => match (Env.v C e x).ok with
    | true => some ((Env.v C e x).cells.map AV.clr)
    | false => none
  | _ => none
theorem step_new {call : Call} {o : AOper} {i : Nat} (hi : o.op.newL = some i) (hg : o.g = none) (s : St) : step1 C call o s = match o.op.zOf C s.e with
    | some zs => .ret (none, St.put { s with e := s.e.purge i, l := s.l.set i zs } o.d (.lptr i 0))
    | none => .fail := by
  unfold step1
  simp only [AOper.wanted, hg]
  generalize o.op = op at hi
  cases op <;> simp only [AOp.newL, Option.some.injEq, reduceCtorEq] at hi
  · subst hi; rfl
  · subst hi
    simp only [AOp.run, AOp.zOf]
    split <;> rename_i hq
    · split at hq <;> cases hq
      rename_i hk
      simp only [hk]
    · split at hq <;> first | (cases hq; done) | skip
      rename_i hk
      simp only [hk]
theorem zOf_congr {o : AOp} {e e' : Env} (h : ∀ x ∈ o.os, Env.o C e' x = Env.o C e x) : o.zOf C e' = o.zOf C e := by
  cases o <;> try rfl
  rename_i i x
  simp only [AOp.zOf, Env.v, h x (by simp [AOp.os])]
theorem zOf_undef {o : AOp} {i : Nat} (hi : o.newL = some i) {e : Env} {x : AO} (hx : x ∈ o.os) (h : Env.o C e x = .undef) : o.zOf C e = none := by
  cases o <;> simp only [AOp.newL, Option.some.injEq, reduceCtorEq] at hi
  · cases hx
  · simp only [AOp.os, List.mem_singleton] at hx
    subst hx
    simp only [AOp.zOf, Env.v, h]
    rfl
end Go.Lt
namespace Go.Lt
open Go
variable {P : Program} {CO : Nat → Code → AC → Prop} {C : Cfg} {N : Nat} {G G' : Gho} {w w' : World} {s s' : St} {a : Act} {v : AV}

/-- states that nobody can tell apart -/
def Eqv (s1 s2 : St) : Prop := (∀ t, s1.e.get t = s2.e.get t) ∧ Lhd s1 s2
theorem Eqv.refl (s : St) : Eqv s s := ⟨fun _ => rfl, rfl, rfl, rfl⟩

theorem step_ext {call : Call} (o : AOper) {s1 s2 : St} (h : Eqv s1 s2) : T.Rel (fun r1 r2 => r1.1 = r2.1 ∧ Eqv r1.2 r2.2) (step1 C call o s1) (step1 C call o s2) := by
  by_cases hm : o.mov = true
  · refine (step_rel hm (fun t _ => (h.1 t).symm) (fun _ => h.2.1) (fun _ => .inl h.2.2.1)).mono fun r1 r2 hr => ?_
    obtain ⟨f, hf⟩ := hr.upd
    exact ⟨hr.val, fun t => by rw [hf.fst, hf.snd, h.1 t], hr.eqL h.2.1, hr.eqH h.2.2.1, hr.setD.1.trans (h.2.2.2.trans hr.setD.2.symm)⟩
  · unfold step1
    rw [wanted_congr (o := o) (e := s1.e) (e' := s2.e) fun t _ => (h.1 t).symm]
    split
    · exact .fail _
    · refine .ret _ _ ⟨rfl, fun t => by simp only [St.put_get, h.1 t], ?_⟩
      simp only [Lhd, St.put_l, St.put_h, St.put_d]
      exact h.2
    · have hnc : ∀ p q r, o.op ≠ .call p q r := fun p q r he => hm (by simp [AOper.mov, he])
      have hnp : ∀ p, o.op ≠ .pan p := fun p he => hm (by simp [AOper.mov, he])
      split
      · rename_i x he; exact absurd he (hnp _)
      · rename_i x y z he; exact absurd he (hnc _ _ _)
      · obtain ⟨e1, l1, h1, d1⟩ := s1
        obtain ⟨e2, l2, h2, d2⟩ := s2
        obtain ⟨he, ha, hb, hc⟩ := h
        simp only at he ha hb hc
        subst ha; subst hb; subst hc
        have hE : ∀ x ∈ o.op.os, Env.o C e2 x = Env.o C e1 x := fun x _ => o_congr fun t _ => (he t).symm
        have hEe : ∀ t, (o.op.env e1).get t = (o.op.env e2).get t := by
          intro t
          generalize o.op = op
          cases op <;> simp only [AOp.env, get_untake, he] <;> first | exact he t | skip
          all_goals
            rw [Env.get_purge, Env.get_purge, he t]
        have h11 := run_env (C := C) o.op e1 e1 l1 h1 d1 fun _ _ => rfl
        rw [run_env o.op e1 e2 l1 h1 d1 hE]
        cases hrun : o.op.run C ⟨e1, l1, h1, d1⟩ with
        | none => exact .fail _
        | some r =>
          obtain ⟨v, r⟩ := r
          rw [hrun] at h11
          simp only [Option.map_some, Option.some.injEq, Prod.mk.injEq, true_and] at h11
          have hre : r.e = o.op.env e1 := by rw [h11]
          refine .ret _ _ ⟨rfl, fun t => ?_, ?_⟩
          · simp only [St.put_get]
            rw [hre, hEe t]
          · simp only [Lhd, St.put_l, St.put_h, St.put_d]
            exact ⟨trivial, trivial, trivial⟩

theorem ops_ext {call : Call} {Q : Option AV × St → Prop} (hQn : ∀ s1 s2, Eqv s1 s2 → Q (none, s1) → Q (none, s2)) (hQp : ∀ v s1 s2, s1.h = s2.h → s1.d = s2.d → Q (some v, s1) → Q (some v, s2)) :
    ∀ (os : List AOper) {s1 s2 : St}, Eqv s1 s2 → (Lt.ops C call os s1).All Q → (Lt.ops C call os s2).All Q
  | [], s1, s2, h, hq => hQn s1 s2 h hq
  | o :: os, s1, s2, h, hq => by
    simp only [Lt.ops] at hq ⊢
    refine T.All.bind' ((step_ext o h).all (fun r1 r2 hr hq => ?_) (T.All.bind hq))
    obtain ⟨x1, s1⟩ := r1
    obtain ⟨x2, s2⟩ := r2
    obtain ⟨hx, hs⟩ := hr
    simp only at hx
    subst hx
    cases x1 with
    | none => exact ops_ext hQn hQp os hs hq
    | some v => exact hQp v s1 s2 hs.2.2.1 hs.2.2.2 hq

def disj (a b : List Nat) : Bool := a.all fun t => !hasNat b t
theorem hasNat_iff {l : List Nat} {t : Nat} : hasNat l t = true ↔ t ∈ l := by
  induction l with
  | nil => simp [hasNat]
  | cons x l ih =>
    simp only [hasNat, Bool.or_eq_true, ih, List.mem_cons, beq_iff]
    exact or_congr ⟨Eq.symm, Eq.symm⟩ Iff.rfl
theorem disj_spec {a b : List Nat} (h : disj a b = true) : ∀ t ∈ a, t ∉ b := by
  intro t ht hb
  unfold disj at h
  have := List.all_eq_true.1 h t ht
  rw [hasNat_iff.2 hb] at this
  cases this

/-- takes the right to grow out of a cell of the heap's -/
def AOp.tkH : AOp → Bool
  | .ldH none _ true => true
  | _ => false
/-- may 'o' come before 'k', too? -/
def freeN (k o : AOper) : Bool :=
  k.op.simple && o.mov && disj k.writes o.reads && disj k.writes o.writes && disj o.writes k.reads &&
  (!(k.op.touchL && o.op.touchL) || (!k.op.setsL && !o.op.setsL)) &&
  ((!(k.op.touchH && o.op.touchH) || (!k.op.setsH && !o.op.setsH)) || (k.op.tkH && o.op.rdH) || (k.op.rdH && o.op.tkH)) &&
  (o.op.simple || !k.op.setsH)

/-- .. where 'k' makes a local block -/
def freeA (k o : AOper) : Bool :=
  k.g.isNone && o.g.isNone && disj k.writes o.reads && disj k.writes o.writes && disj o.writes k.reads &&
  match k.op.newL with
  | some i => match o.op.newL with
    | some j => !Nat.beq i j
    | none => o.mov && !o.op.touchL && o.op.nolOp
  | none => false
def free (k o : AOper) : Bool := freeN k o || freeA k o

theorem mov_of {k : AOper} (h : k.op.simple = true) : k.mov = true := by
  unfold AOper.mov
  split <;> first | rfl | exact h
theorem orT {a b : Bool} (h : (a || b) = true) : a = true ∨ b = true := by simpa using h
theorem andT {a b : Bool} (h : (a && b) = true) : a = true ∧ b = true := by simpa using h

theorem tkH_taken {call : Call} {k : AOper} (hk : k.op.tkH = true) {s s1 : St} {x : Option AV} (h : step1 C call k s = .ret (x, s1)) : s1.h = s.h ∨ Taken s.h s1.h := by
  unfold AOp.tkH at hk
  split at hk <;> first | (cases hk; done) | skip
  rename_i y hop
  unfold step1 at h
  split at h
  · cases h
  · injection h with h
    injection h with _ h
    subst h
    left; simp only [St.put_h]
  · rw [hop] at h
    simp only [AOp.run] at h
    split at h
    · rename_i v s' hr
      injection h with h
      injection h with _ h
      subst h
      right
      split at hr <;> first | (cases hr; done) | skip
      rename_i i off _
      split at hr <;> first | (cases hr; done) | skip
      rename_i cs hcs
      split at hr <;> first | (cases hr; done) | skip
      rename_i u hu
      cases hr
      refine ⟨i, off, cs, v, hcs, ?_, by simp only [St.put_h]⟩
      have : cs[off]? = (cs.drop off)[0]? := by simp
      rw [this]
      unfold readSh at hu
      cases hd : cs.drop off with
      | nil => rw [hd] at hu; cases hu
      | cons z zs =>
        rw [hd] at hu
        simp only at hu
        split at hu <;> first | (cases hu; done) | skip
        cases hu
        rfl
    · cases h

theorem swapN {call : Call} {Q : Option AV × St → Prop} (hQn : ∀ s1 s2, Eqv s1 s2 → Q (none, s1) → Q (none, s2)) (hQp : ∀ v s1 s2, s1.h = s2.h → s1.d = s2.d → Q (some v, s1) → Q (some v, s2)) {k o : AOper} {r : List AOper} (hf : freeN k o = true) {s : St}
    (h : (Lt.ops C call (k :: o :: r) s).All Q) : (Lt.ops C call (o :: k :: r) s).All Q := by
  simp only [freeN, Bool.and_eq_true] at hf
  obtain ⟨⟨⟨⟨⟨⟨⟨hk, ho⟩, d1⟩, d2⟩, d3⟩, hcL⟩, hcH⟩, hcP⟩ := hf
  have d1 := disj_spec d1
  have d2 := disj_spec d2
  have d3 := disj_spec d3
  have hkm := mov_of hk
  -- local blocks
  have cL1 : o.op.touchL = true → k.op.setsL = false := by
    intro ht
    cases hs : k.op.setsL with
    | false => rfl
    | true =>
      have : k.op.touchL = true := by
        cases ht' : k.op.touchL with
        | true => rfl
        | false => rw [touchL_sets ht'] at hs; cases hs
      simp [ht, this, hs] at hcL
  have cL2 : k.op.touchL = true → o.op.setsL = false := by
    intro ht
    cases hs : o.op.setsL with
    | false => rfl
    | true =>
      have : o.op.touchL = true := by
        cases ht' : o.op.touchL with
        | true => rfl
        | false => rw [touchL_sets ht'] at hs; cases hs
      simp [ht, this, hs] at hcL
  -- the heap
  have cH : ((o.op.touchH = true → k.op.setsH = false) ∧ (k.op.touchH = true → o.op.setsH = false)) ∨ (k.op.tkH = true ∧ o.op.rdH = true) ∨ (k.op.rdH = true ∧ o.op.tkH = true) := by
    rcases orT hcH with hc | hc
    · rcases orT hc with hc | hc
      · left
        refine ⟨fun ht => ?_, fun ht => ?_⟩
        · cases hs : k.op.setsH with
          | false => rfl
          | true =>
            have : k.op.touchH = true := by
              cases ht' : k.op.touchH with
              | true => rfl
              | false => rw [touchH_sets ht'] at hs; cases hs
            simp [ht, this, hs] at hc
        · cases hs : o.op.setsH with
          | false => rfl
          | true =>
            have : o.op.touchH = true := by
              cases ht' : o.op.touchH with
              | true => rfl
              | false => rw [touchH_sets ht'] at hs; cases hs
            simp [ht, this, hs] at hc
      · exact .inr (.inl (andT hc))
    · exact .inr (.inr (andT hc))
  have rd_sets : ∀ {p : AOp}, p.rdH = true → p.setsH = false ∧ p.touchH = true := by
    intro p hp
    unfold AOp.rdH at hp
    split at hp <;> first | (cases hp; done) | exact ⟨rfl, rfl⟩
  -- the first step
  have k0 := step_rel (C := C) (call := call) hkm (s1 := s) (s2 := s) (fun _ _ => rfl) (fun _ => rfl) (fun _ => .inl rfl)
  simp only [Lt.ops] at h ⊢
  have h := T.All.bind h
  generalize hst : step1 C call k s = st at h k0
  cases k0 with
  | fail => exact h.elim
  | ch n kk kk' hh =>
    exfalso
    -- a simple operation chooses nothing
    unfold step1 at hst
    split at hst
    · cases hst
    · cases hst
    · split at hst
      · rename_i he; rw [he] at hk; cases hk
      · rename_i he; rw [he] at hk; cases hk
      · split at hst <;> cases hst
  | ret x _ hx =>
    obtain ⟨x1, s1⟩ := x
    obtain ⟨fk, hfk⟩ := hx.upd
    have hn := hx.sim hk
    simp only at hn
    subst hn
    have kSL := hx.setL
    have kSH := hx.setH
    have kSD := hx.setD
    simp only at kSL kSH kSD
    have h : ((step1 C call o s1).bind fun q => match q with
      | (none, s') => Lt.ops C call r s'
      | (some v, s') => .ret (some v, s')).All Q := h
    have hag : ∀ t ∈ o.reads, s.e.get t = s1.e.get t := fun t ht => by rw [hfk.fst]; exact (hfk.loc t _ fun hw => d1 t hw ht).symm
    have ho2 := step_rel (C := C) (call := call) ho hag (fun ht => (kSL (cL1 ht)).1) (fun ht => by
      rcases cH with hc | hc | hc
      · exact .inl (kSH (hc.1 ht)).1
      · rcases tkH_taken hc.1 hst with h1 | h1
        · exact .inl h1
        · exact .inr ⟨hc.2, .inr h1⟩
      · exact .inl (kSH (rd_sets hc.1).1).1)
    -- what one step of 'o' is: a return, or all of a call's
    have hret : o.op.tkH = true → ∀ r1 r2, StepR o s1 s r1 r2 → True := fun _ _ _ _ => trivial
    refine T.All.bind' (T.Rel.all (R := fun r1 r2 => StepR o s1 s r1 r2 ∧ (o.op.tkH = true → r2.2.h = s.h ∨ Taken s.h r2.2.h)) ?_ (fun r1 r2 hr hq => ?_) (T.All.bind h))
    · -- the second conjunct
      cases hto : o.op.tkH with
      | false => exact ho2.mono fun r1 r2 hr => ⟨hr, fun h => (by cases h)⟩
      | true =>
        have hos : o.op.simple = true := by
          unfold AOp.tkH at hto
          split at hto <;> first | (cases hto; done) | skip
          rename_i heq
          rw [heq]; rfl
        generalize hsto : step1 C call o s = sto at ho2
        generalize step1 C call o s1 = sto1 at ho2
        cases ho2 with
        | fail => exact .fail _
        | ret a b hab =>
          exact .ret _ _ ⟨hab, fun _ => tkH_taken hto hsto⟩
        | ch n kk kk' hh =>
          exfalso
          unfold step1 at hsto
          split at hsto
          · cases hsto
          · cases hsto
          · split at hsto
            · rename_i he; rw [he] at hos; cases hos
            · rename_i he; rw [he] at hos; cases hos
            · split at hsto <;> cases hsto
    obtain ⟨x1, s2⟩ := r1
    obtain ⟨x2, u1⟩ := r2
    obtain ⟨hr, hrt⟩ := hr
    have hxx := hr.val
    obtain ⟨fo, hfo⟩ := hr.upd
    have oS := hr.sim
    have oEL := hr.eqL
    have oEH := hr.eqH
    have oSL := hr.setL
    have oSH := hr.setH
    have oSD := hr.setD
    simp only at hxx oS oEL oEH oSL oSH oSD hfo hq hrt ⊢
    subst hxx
    have hD : s2.d = u1.d := oSD.1.trans (kSD.1.trans oSD.2.symm)
    cases x1 with
    | some v =>
      simp only at hq ⊢
      rcases orT hcP with hc | hc
      · have := oS hc
        cases this
      · exact hQp v _ _ (oEH (kSH (by simpa using hc)).1) hD hq
    | none =>
      simp only at hq ⊢
      have hag' : ∀ t ∈ k.reads, u1.e.get t = s.e.get t := fun t ht => by rw [hfo.snd]; exact hfo.loc t _ fun hw => d3 t hw ht
      have hk2 := step_rel (C := C) (call := call) hkm hag' (fun ht => (oSL (cL2 ht)).2.symm) (fun ht => by
        rcases cH with hc | hc | hc
        · exact .inl (oSH (hc.2 ht)).2.symm
        · exact .inl (oSH (rd_sets hc.2).1).2.symm
        · rcases hrt hc.2 with h1 | h1
          · exact .inl h1.symm
          · exact .inr ⟨hc.1, .inl h1⟩)
      rw [hst] at hk2
      generalize hst2 : step1 C call k u1 = st2 at hk2
      cases hk2 with | ret _ y hy =>
      obtain ⟨y1, u2⟩ := y
      obtain ⟨fk', hfk'⟩ := hy.upd
      have hy1 := hy.val
      have yEL := hy.eqL
      have yEH := hy.eqH
      have ySL := hy.setL
      have ySH := hy.setH
      have ySD := hy.setD
      simp only at hy1 yEL yEH ySL ySH ySD hfk'
      subst hy1
      refine ops_ext hQn hQp r ?_ hq
      refine ⟨fun t => ?_, ?_, ?_, ?_⟩
      · -- each temporary
        rw [hfo.fst, hfk.fst, hfk'.snd, hfo.snd]
        by_cases hw : t ∈ k.writes
        · have hw' := d2 t hw
          rw [hfo.loc t _ hw', hfo.loc t _ hw', ← hfk'.fst, ← hfk.fst]
        · rw [hfk.loc t _ hw, hfk'.loc t _ hw]
      · -- local blocks
        cases hko : k.op.touchL with
        | false =>
          have e1 := kSL (touchL_sets hko)
          have e2 := ySL (touchL_sets hko)
          rw [e2.2]
          exact oEL e1.1
        | true =>
          have e1 := oSL (cL2 hko)
          rw [e1.1]
          exact yEL e1.2.symm
      · -- the heap
        rcases cH with hc | hc | hc
        · cases hko : k.op.touchH with
          | false =>
            have e1 := kSH (touchH_sets hko)
            have e2 := ySH (touchH_sets hko)
            rw [e2.2]
            exact oEH e1.1
          | true =>
            have e1 := oSH (hc.2 hko)
            rw [e1.1]
            exact yEH e1.2.symm
        · have e1 := oSH (rd_sets hc.2).1
          rw [e1.1]
          exact yEH e1.2.symm
        · have e1 := kSH (rd_sets hc.1).1
          have e2 := ySH (rd_sets hc.1).1
          rw [e2.2]
          exact oEH e1.1
      · exact hD.trans ySD.2.symm

theorem get_pg (e : Env) (i t : Nat) : (e.purge i).get t = pg i (e.get t) := by
  rw [Env.get_purge]; rfl
theorem pg_comm (i j : Nat) (x : AV) : pg i (pg j x) = pg j (pg i x) := by
  cases x <;> try rfl
  rename_i b o
  simp only [pg, AV.isL]
  cases h1 : Nat.beq b i <;> cases h2 : Nat.beq b j <;> simp only [h1, h2]

theorem zOf_nol {o : AOp} {e : Env} {zs : List AV} (h : o.zOf C e = some zs) {x : AO} (hx : x ∈ o.os) {t : Nat} (ht : x.tmp? = some t) (j : Nat) : (e.get t).isL j = false := by
  cases o <;> simp only [AOp.zOf, reduceCtorEq] at h
  · cases hx
  · simp only [AOp.os, List.mem_singleton] at hx
    subst hx
    split at h <;> first | (cases h; done) | skip
    rename_i hk
    have hk := ok_nol hk j
    cases x <;> simp only [AO.tmp?, Option.some.injEq, reduceCtorEq] at ht
    · subst ht
      simp only [Env.v, Env.o, isL_clr] at hk
      exact hk
    · subst ht
      simp only [Env.v, Env.o, isL_clr] at hk
      exact hk

theorem swapA {call : Call} {Q : Option AV × St → Prop} (hQn : ∀ s1 s2, Eqv s1 s2 → Q (none, s1) → Q (none, s2)) (hQp : ∀ v s1 s2, s1.h = s2.h → s1.d = s2.d → Q (some v, s1) → Q (some v, s2)) {k o : AOper} {r : List AOper} (hf : freeA k o = true) {s : St}
    (h : (Lt.ops C call (k :: o :: r) s).All Q) : (Lt.ops C call (o :: k :: r) s).All Q := by
  simp only [freeA, Bool.and_eq_true, Option.isNone_iff_eq_none] at hf
  obtain ⟨⟨⟨⟨⟨hkg, hog⟩, d1⟩, d2⟩, d3⟩, hm⟩ := hf
  have d1 := disj_spec d1
  have d2 := disj_spec d2
  have d3 := disj_spec d3
  split at hm <;> first | (cases hm; done) | skip
  rename_i i hi
  simp only [Lt.ops] at h ⊢
  rw [step_new hi hkg] at h
  cases hz : k.op.zOf C s.e with
  | none => rw [hz] at h; exact h.elim
  | some zs =>
  rw [hz] at h
  simp only [T.bind] at h
  have hkw : ∀ t, k.d = some t → t ∈ k.writes := fun t ht => by simp only [AOper.writes, List.mem_append, Option.mem_toList]; exact .inl ht
  -- the state behind k
  have g1 : ∀ t, (St.put { s with e := s.e.purge i, l := s.l.set i zs } k.d (.lptr i 0)).e.get t = if k.d = some t then .lptr i 0 else pg i (s.e.get t) := fun t => by
    rw [St.put_get]; simp only [get_pg]
  have l1 : (St.put { s with e := s.e.purge i, l := s.l.set i zs } k.d (.lptr i 0)).l = s.l.set i zs := St.put_l _ _ _
  have h1 : (St.put { s with e := s.e.purge i, l := s.l.set i zs } k.d (.lptr i 0)).h = s.h := St.put_h _ _ _
  have e1 : (St.put { s with e := s.e.purge i, l := s.l.set i zs } k.d (.lptr i 0)).d = s.d := St.put_d _ _ _
  generalize St.put { s with e := s.e.purge i, l := s.l.set i zs } k.d (.lptr i 0) = s1 at h g1 l1 h1 e1
  have hro : ∀ t ∈ o.reads, s1.e.get t = pg i (s.e.get t) := fun t ht => by
    rw [g1, if_neg (fun hd => d1 t (hkw t hd) ht)]
  -- what k makes of a state that o has changed
  have hzk : ∀ u1 : St, (∀ t ∈ k.reads, u1.e.get t = s.e.get t) → k.op.zOf C u1.e = some zs := fun u1 hu => by
    rw [← hz]
    exact zOf_congr fun x hx => o_congr fun t ht => hu t (by
      simp only [AOper.reads, List.mem_append, List.mem_filterMap]
      exact .inr ⟨x, hx, by simpa using ht⟩)
  have hpk : k.op.takes = [] := by
    generalize k.op = op at hi
    cases op <;> first | rfl | (simp [AOp.newL] at hi)
  split at hm
  · -- two local blocks
    rename_i j hj
    have hij : ¬ i = j := by
      intro he
      rw [beq_iff.2 he] at hm
      cases hm
    have hpo : o.op.takes = [] := by
      generalize o.op = op at hj
      cases op <;> first | rfl | (simp [AOp.newL] at hj)
    rw [step_new hj hog] at h ⊢
    -- what o looks at is no pointer to k's block
    have hzo : o.op.zOf C s1.e = none ∨ o.op.zOf C s.e = o.op.zOf C s1.e := by
      by_cases hx : ∃ x ∈ o.op.os, ∃ t ∈ x.tmp?.toList, (s.e.get t).isL i = true
      · obtain ⟨x, hx, t, ht, hl⟩ := hx
        left
        have htr : t ∈ o.reads := by
          simp only [AOper.reads, List.mem_append, List.mem_filterMap]
          exact .inr ⟨x, hx, by simpa using ht⟩
        have hu : s1.e.get t = .undef := by rw [hro t htr, pg, hl]
        refine zOf_undef hj hx ?_
        cases x <;> simp only [AO.tmp?, Option.toList_some, Option.toList_none, List.mem_singleton, List.not_mem_nil] at ht
        · subst ht; simp only [Env.o, hu]; rfl
        · subst ht; simp only [Env.o, hu]
      · right
        refine zOf_congr fun x hx' => o_congr fun t ht => ?_
        have hl : (s.e.get t).isL i = false := by
          cases hq : (s.e.get t).isL i with
          | false => rfl
          | true => exact absurd ⟨x, hx', t, ht, hq⟩ hx
        rw [hro t (by
          simp only [AOper.reads, List.mem_append, List.mem_filterMap]
          exact .inr ⟨x, hx', by simpa using ht⟩), pg_of hl]
    cases hzz : o.op.zOf C s1.e with
    | none => rw [hzz] at h; exact h.elim
    | some zo =>
      rw [hzz] at h
      have hzs : o.op.zOf C s.e = some zo := by
        rcases hzo with hn | hn
        · rw [hn] at hzz; cases hzz
        · rw [hn, hzz]
      rw [hzs]
      simp only [T.bind] at h ⊢
      rw [step_new hi hkg, hzk _ (fun t ht => ?_)]
      · simp only [T.bind]
        refine ops_ext hQn hQp r ?_ h
        refine ⟨fun t => ?_, ?_, ?_, ?_⟩
        · simp only [St.put_get, get_pg, g1]
          by_cases ht : o.d = some t
          · have hkt : ¬ k.d = some t := fun hk => d2 t (hkw t hk) (by simp only [AOper.writes, List.mem_append, Option.mem_toList]; exact .inl ht)
            have hb : Nat.beq j i = false := beq_false.2 (Ne.symm hij)
            rw [if_pos ht, if_neg hkt, if_pos ht]
            simp only [pg, AV.isL, hb]
          · by_cases hkt : k.d = some t
            · have hb : Nat.beq i j = false := beq_false.2 hij
              rw [if_neg ht, if_pos hkt, if_pos hkt]
              simp only [pg, AV.isL, hb]
            · rw [if_neg ht, if_neg hkt, if_neg hkt, if_neg ht, pg_comm]
        · simp only [St.put_l, l1]
          rcases Nat.lt_or_gt_of_ne hij with hlt | hlt
          · exact Loc.set_comm hlt _ _ _
          · exact (Loc.set_comm hlt _ _ _).symm
        · simp only [St.put_h, h1]
        · simp only [St.put_d, e1]
      · rw [St.put_get]
        rw [if_neg (fun hd => d3 t (by simp only [AOper.writes, List.mem_append, Option.mem_toList]; exact .inl hd) ht)]
        simp only [get_pg]
        have htx : ∃ x ∈ k.op.os, x.tmp? = some t := by
          simp only [AOper.reads, hkg, List.nil_append, List.mem_filterMap] at ht
          exact ht
        obtain ⟨x, hx, hxt⟩ := htx
        exact pg_of (zOf_nol hz hx hxt j)
  · -- one local block
    simp only [Bool.and_eq_true, Bool.not_eq_true'] at hm
    obtain ⟨⟨ho, hoL⟩, hon⟩ := hm
    have hnp : (match o.op with | .pick .. => false | _ => true) = true := by
      generalize o.op = op at hon
      cases op <;> first | rfl | (simp [AOp.nolOp] at hon)
    by_cases hx : ∃ t ∈ o.reads, (s.e.get t).isL i = true
    · obtain ⟨t, ht, hl⟩ := hx
      have hu : s1.e.get t = .undef := by rw [hro t ht, pg, hl]
      rw [step_undef hnp ht hog hu] at h
      exact h.elim
    · have hl : ∀ t ∈ o.reads, (s.e.get t).isL i = false := fun t ht => by
        cases hq : (s.e.get t).isL i with
        | false => rfl
        | true => exact absurd ⟨t, ht, hq⟩ hx
      have hag : ∀ t ∈ o.reads, s.e.get t = s1.e.get t := fun t ht => by rw [hro t ht, pg_of (hl t ht)]
      have ho2 := step_rel (C := C) (call := call) ho hag (fun ht => by rw [hoL] at ht; cases ht) (fun _ => .inl h1)
      refine T.All.bind' (ho2.all (fun r1 r2 hr hq => ?_) (T.All.bind h))
      obtain ⟨x1, s2⟩ := r1
      obtain ⟨x2, u1⟩ := r2
      have hxx := hr.val
      obtain ⟨fo, hfo⟩ := hr.upd
      have oEH := hr.eqH h1
      have oSL := hr.setL (touchL_sets hoL)
      have oSD := hr.setD
      simp only at hxx oEH oSL oSD hfo hq ⊢
      subst hxx
      have hD : s2.d = u1.d := oSD.1.trans (e1.trans oSD.2.symm)
      cases x1 with
      | some v => exact hQp v _ _ oEH hD hq
      | none =>
        simp only at hq ⊢
        rw [step_new hi hkg, hzk u1 (fun t ht => by rw [hfo.snd]; exact hfo.loc t _ fun hw => d3 t hw ht)]
        simp only [T.bind]
        refine ops_ext hQn hQp r ?_ hq
        refine ⟨fun t => ?_, ?_, ?_, ?_⟩
        · rw [hfo.fst, g1, St.put_get]
          simp only [get_pg, hfo.snd]
          by_cases hkt : k.d = some t
          · rw [if_pos hkt, if_pos hkt]
            exact hfo.loc t _ (d2 t (hkw t hkt))
          · rw [if_neg hkt, if_neg hkt]
            exact hfo.pu i hon hl t _
        · rw [oSL.1, l1, St.put_l, oSL.2]
        · rw [oEH, St.put_h]
        · rw [hD, St.put_d]

theorem swap {call : Call} {Q : Option AV × St → Prop} (hQn : ∀ s1 s2, Eqv s1 s2 → Q (none, s1) → Q (none, s2)) (hQp : ∀ v s1 s2, s1.h = s2.h → s1.d = s2.d → Q (some v, s1) → Q (some v, s2)) {k o : AOper} {r : List AOper} (hf : free k o = true) {s : St}
    (h : (Lt.ops C call (k :: o :: r) s).All Q) : (Lt.ops C call (o :: k :: r) s).All Q := by
  rcases orT hf with h1 | h1
  · exact swapN hQn hQp h1 h
  · exact swapA hQn hQp h1 h

theorem move {call : Call} {Q : Option AV × St → Prop} (hQn : ∀ s1 s2, Eqv s1 s2 → Q (none, s1) → Q (none, s2)) (hQp : ∀ v s1 s2, s1.h = s2.h → s1.d = s2.d → Q (some v, s1) → Q (some v, s2)) {o : AOper} {r2 : List AOper} :
    ∀ {r1 : List AOper} {s : St}, (∀ k ∈ r1, free k o = true) → (Lt.ops C call (r1 ++ o :: r2) s).All Q → (Lt.ops C call (o :: (r1 ++ r2)) s).All Q
  | [], s, _, h => h
  | k :: r1, s, hf, h => by
    refine swap hQn hQp (hf k (by simp)) ?_
    simp only [List.cons_append] at h
    rw [Lt.ops] at h ⊢
    refine T.All.bind' (T.All.mono (fun q hq => ?_) (T.All.bind h))
    split at hq
    · exact move hQn hQp (fun k hk => hf k (by simp [hk])) hq
    · exact hq

/-! ### the check -/
def edgesOf (o : Oper) : List Nat := (o.after.toList.filter fun e => Region.binds .any e).map (·.on)
def afOf : List AOper → Nat → List Nat
  | [], _ => []
  | k :: r, i => match Nat.beq k.ix i with
    | true => k.af
    | false => afOf r i
/-- what is said to come before it, does -/
def afOk (os : List AOper) (o : Oper) (ao : AOper) : Bool :=
  let d := edgesOf o
  ao.af.all fun x => hasNat d x || d.any fun m => hasNat (afOf os m) x
def pairOk (ops : Array Oper) (k o : AOper) : Bool :=
  !Nat.beq k.ix o.ix && (hasNat o.af k.ix || free k o) && match ops[k.ix]? with
    | some c => !hasNat (edgesOf c) o.ix
    | none => false
def pairsOk (ops : Array Oper) : List AOper → Bool
  | [] => true
  | k :: r => r.all (pairOk ops k) && pairsOk ops r
def selfOk (ops : Array Oper) (n : Nat) (o : Oper) (i : Nat) : Bool := (edgesOf o).all fun e => Nat.blt e n && !Nat.beq e i
def drawOk (P : Program) (N : Nat) (rnd : Bool) (ops : Array Oper) (os : List AOper) : Bool :=
  P.follows .mixedOrders && Nat.beq os.length ops.size &&
  os.all (fun ao => match ops[ao.ix]? with
    | some o => operOk P ops N rnd o ao && afOk os o ao && selfOk ops ops.size o ao.ix
    | none => false) &&
  (List.range ops.size).all (fun i => os.any fun ao => Nat.beq ao.ix i) && pairsOk ops os

structure DrawOk (P : Program) (N : Nat) (rnd : Bool) (ops : Array Oper) (os : List AOper) : Prop where
  mixed : P.follows .mixedOrders = true
  len : os.length = ops.size
  oper : ∀ ao ∈ os, ∃ o, ops[ao.ix]? = some o ∧ operOk P ops N rnd o ao = true ∧ (∀ x ∈ ao.af, x ∈ edgesOf o ∨ ∃ m ∈ edgesOf o, x ∈ afOf os m) ∧ ∀ e ∈ edgesOf o, e < ops.size ∧ e ≠ ao.ix
  all : ∀ i, i < ops.size → ∃ ao ∈ os, ao.ix = i
  pairs : os.Pairwise fun k o => pairOk ops k o = true

theorem pairsOk_spec {ops : Array Oper} : ∀ {os : List AOper}, pairsOk ops os = true → os.Pairwise fun k o => pairOk ops k o = true
  | [], _ => .nil
  | k :: r, h => by
    simp only [pairsOk, Bool.and_eq_true, List.all_eq_true] at h
    exact .cons h.1 (pairsOk_spec h.2)
theorem drawOk_spec {rnd : Bool} {ops : Array Oper} {os : List AOper} (h : drawOk P N rnd ops os = true) : DrawOk P N rnd ops os := by
  simp only [drawOk, Bool.and_eq_true] at h
  obtain ⟨⟨⟨⟨h1, h2⟩, h3⟩, h4⟩, h5⟩ := h
  refine ⟨h1, beq_iff.1 h2, fun ao hao => ?_, fun i hi => ?_, pairsOk_spec h5⟩
  · have := List.all_eq_true.1 h3 ao hao
    split at this <;> first | (cases this; done) | skip
    rename_i o ho
    simp only [Bool.and_eq_true] at this
    obtain ⟨⟨k1, k2⟩, k3⟩ := this
    refine ⟨o, ho, k1, fun x hx => ?_, fun e he => ?_⟩
    · have := List.all_eq_true.1 k2 x hx
      rcases orT this with hd | hd
      · exact .inl (hasNat_iff.1 hd)
      · obtain ⟨m, hm, hx⟩ := List.any_eq_true.1 hd
        exact .inr ⟨m, hm, hasNat_iff.1 hx⟩
    · have := List.all_eq_true.1 k3 e he
      obtain ⟨q1, q2⟩ := andT this
      exact ⟨Nat.le_of_ble_eq_true q1, fun h => by rw [beq_iff.2 h] at q2; cases q2⟩
  · obtain ⟨ao, h1, h2⟩ := List.any_eq_true.1 (List.all_eq_true.1 h4 i (List.mem_range.2 hi))
    exact ⟨ao, h1, beq_iff.1 h2⟩

theorem afOf_mem {os : List AOper} {i : Nat} : ∀ {x : Nat}, x ∈ afOf os i → ∃ ao ∈ os, ao.ix = i ∧ afOf os i = ao.af := by
  induction os with
  | nil => intro x h; cases h
  | cons k r ih =>
    intro x h
    simp only [afOf] at h ⊢
    split at h
    · rename_i he
      exact ⟨k, by simp, beq_iff.1 he, rfl⟩
    · rename_i he
      obtain ⟨ao, h1, h2, h3⟩ := ih h
      exact ⟨ao, by simp [h1], h2, h3⟩

theorem mem_edges {o : Oper} {x : Nat} : x ∈ edgesOf o ↔ ∃ e ∈ o.after, Region.binds .any e = true ∧ e.on = x := by
  simp only [edgesOf, List.mem_map, List.mem_filter, Array.mem_toList_iff]
  constructor
  · rintro ⟨e, ⟨h1, h2⟩, h3⟩; exact ⟨e, h1, h2, h3⟩
  · rintro ⟨e, h1, h2, h3⟩; exact ⟨e, ⟨h1, h2⟩, h3⟩

theorem wpOpIn_mono2 {F : Fence} {n : Nat} {ops : Array Oper} {Q Q' : Exit → Act → World → Prop} {K K' : Act → World → Prop} {i : Nat} {a : Act} {w : World} (hk : ∀ a w, K a w → K' a w) (h : ∀ e a w, Q e a w → Q' e a w) (hh : wpOpIn F n P ops Q i K a w) : wpOpIn F n P ops Q' i K' a w := by
  have upon : ∀ (o : Oper) (a : Act) (r : Result Next), o.uponIn F n P a K Q r → o.uponIn F n P a K' Q' r := by
    intro o a r hr
    cases r with
    | ok x w' =>
      cases x <;> simp only [Oper.uponIn] at hr ⊢ <;>
        first
          | exact hk _ _ hr
          | exact ⟨hr.1, CallsIn.mono hr.2 (fun e w'' he => by cases e <;> first | exact hk _ _ he | exact h _ _ _ he | (obtain ⟨a0, w0, hq⟩ := he; exact ⟨a0, w0, h _ _ _ hq⟩))⟩
          | exact ⟨hr.1, RowsIn.mono hr.2 (fun _ _ he => hk _ _ he)⟩
          | exact ⟨hr.1, RoundIn.mono hr.2 (fun e w'' he => by cases e <;> first | exact hk _ _ he | exact h _ _ _ he | (obtain ⟨a0, w0, hq⟩ := he; exact ⟨a0, w0, h _ _ _ hq⟩))⟩
    | halt x w' => cases x <;> simp only [Oper.uponIn] at hr ⊢ <;> first | exact hr | exact h _ _ _ hr
  unfold wpOpIn at hh ⊢
  split
  · rename_i ho
    simp only [ho] at hh
    exact hk _ _ hh
  · rename_i o ho
    simp only [ho] at hh
    split
    · rename_i hw
      simp only [hw, if_true] at hh
      exact ⟨hh.1, upon o a _ hh.2⟩
    · rename_i hw
      simp only [hw] at hh
      exact ⟨hh.1, hk _ _ hh.2⟩
theorem wpAnyIn_mono {F : Fence} {n : Nat} {md : Region.Mode} {ops : Array Oper} {Q Q' : Exit → Act → World → Prop} (h : ∀ e a w, Q e a w → Q' e a w) : ∀ (fuel : Nat) (listed : Array Bool) (a : Act) (w : World), wpAnyIn F n P md ops Q fuel listed a w → wpAnyIn F n P md ops Q' fuel listed a w
  | 0, _, _, _, hh => ⟨hh.1, h _ _ _ hh.2⟩
  | fuel + 1, _, _, _, hh => ⟨fun hr => h _ _ _ (hh.1 hr), fun i hi => wpOpIn_mono2 (fun _ _ hk => wpAnyIn_mono h fuel _ _ _ hk) h (hh.2 i hi)⟩

theorem any_sound {call : Call} (hC : CallOk P CO C call) (hY : YldOk P CO C call) (hg : GlPure C) {ops : Array Oper} {os : List AOper} {ro : Option Nat} {n : Nat} {rnd : Bool} (hrnd : ro.isSome = true → rnd = true) {Q : Option AV × St → Prop}
    (hQn : ∀ s1 s2, Eqv s1 s2 → Q (none, s1) → Q (none, s2)) (hQp : ∀ v s1 s2, s1.h = s2.h → s1.d = s2.d → Q (some v, s1) → Q (some v, s2)) (hok : DrawOk P N rnd ops os) :
    ∀ (fuel : Nat) (rest : List AOper) (listed : Array Bool) {G : Gho} {w : World} {s : St} {a : Act}, rest.length ≤ fuel → rest.Sublist os → listed.size = ops.size →
      (∀ i, i < ops.size → (listed.getD i true = false ↔ ∃ ao ∈ rest, ao.ix = i)) → (∀ ao ∈ os, listed.getD ao.ix true = true → ∀ x ∈ ao.af, listed.getD x false = true) →
      SR CO C N G w s a → (Lt.ops C call rest s).All Q → wpAnyIn (FW ro) n P .any ops (RegQ CO C N G w a os Q) fuel listed a w := by
  intro fuel
  induction fuel with
  | zero =>
    intro rest listed G w s a hlen hsub hsz hun haf hs h
    have hr : rest = [] := List.length_eq_zero_iff.1 (by omega)
    subst hr
    refine ⟨?_, s, G, h, hs, .refl _ _⟩
    cases hrd : Region.ready .any ops listed with
    | nil => rfl
    | cons i _ =>
      exfalso
      have hi : i ∈ Region.ready .any ops listed := by rw [hrd]; simp
      obtain ⟨h1, o, h2, _⟩ := mem_ready.1 hi
      have hlt := (Array.getElem?_eq_some_iff.1 h2).1
      obtain ⟨ao, hao, _⟩ := (hun i hlt).1 h1
      cases hao
  | succ fuel ih =>
    intro rest listed G w s a hlen hsub hsz hun haf hs h
    have hgd : ∀ i, i < ops.size → listed.getD i false = listed.getD i true := by
      intro i hi
      have : i < listed.size := by omega
      simp [this]
    have hpw := hok.pairs.sublist hsub
    refine ⟨fun hrd => ?_, fun i hi => ?_⟩
    · -- nothing is ready: nothing is left
      cases rest with
      | nil => exact ⟨s, G, h, hs, .refl _ _⟩
      | cons ao rest =>
        exfalso
        have hao : ao ∈ os := hsub.subset (by simp)
        obtain ⟨o, ho, _, _, hself⟩ := hok.oper ao hao
        have hlt := (Array.getElem?_eq_some_iff.1 ho).1
        have : ao.ix ∈ Region.ready .any ops listed := by
          refine mem_ready.2 ⟨(hun _ hlt).2 ⟨ao, by simp, rfl⟩, o, ho, fun e he hb => ?_⟩
          have hm : e.on ∈ edgesOf o := mem_edges.2 ⟨e, he, hb, rfl⟩
          obtain ⟨h1, h2⟩ := hself _ hm
          rw [hgd _ h1]
          cases hl : listed.getD e.on true with
          | true => rfl
          | false =>
            exfalso
            obtain ⟨k, hk, hke⟩ := (hun _ h1).1 hl
            rcases List.mem_cons.1 hk with rfl | hk
            · exact h2 hke.symm
            · have := (List.pairwise_cons.1 hpw).1 k hk
              simp only [pairOk, ho, Bool.and_eq_true, Bool.not_eq_true'] at this
              have h3 := this.2
              rw [hke, hasNat_iff.2 hm] at h3
              cases h3
        rw [hrd] at this
        cases this
    · -- one is taken
      obtain ⟨hun_i, o, ho, hall⟩ := mem_ready.1 hi
      have hlt := (Array.getElem?_eq_some_iff.1 ho).1
      obtain ⟨ao, hao, hix⟩ := (hun i hlt).1 hun_i
      subst hix
      obtain ⟨r1, r2, rfl⟩ := List.append_of_mem hao
      have hmo : ao ∈ os := hsub.subset (by simp)
      obtain ⟨o', ho', hop, hafo, hself⟩ := hok.oper ao hmo
      rw [ho] at ho'
      cases ho'
      have hedge : ∀ x ∈ edgesOf o, listed.getD x false = true := fun x hx => by
        obtain ⟨e, he, hb, rfl⟩ := mem_edges.1 hx
        exact hall e he hb
      -- all that is said to come before it has come
      have hafl : ∀ x ∈ ao.af, listed.getD x false = true := by
        intro x hx
        rcases hafo x hx with h1 | ⟨m, hm, h1⟩
        · exact hedge x h1
        · obtain ⟨am, h2, h3, h4⟩ := afOf_mem h1
          rw [h4] at h1
          refine haf am h2 ?_ x h1
          rw [h3, ← hgd m (hself m hm).1]
          exact hedge m hm
      have hfree : ∀ k ∈ r1, free k ao = true := by
        intro k hk
        have hp : pairOk ops k ao = true := (List.pairwise_append.1 hpw).2.2 k hk ao (by simp)
        simp only [pairOk, Bool.and_eq_true] at hp
        rcases orT hp.1.2 with h1 | h1
        · exfalso
          have h2 := hafl k.ix (hasNat_iff.1 h1)
          obtain ⟨ok, hok', _⟩ := hok.oper k (hsub.subset (by simp [hk]))
          have hklt := (Array.getElem?_eq_some_iff.1 hok').1
          have h3 := (hun k.ix hklt).2 ⟨k, by simp [hk], rfl⟩
          rw [hgd _ hklt, h3] at h2
          cases h2
        · exact h1
      have hmv := move hQn hQp hfree h
      have hstep := step1_sound (n := n) (K := wpAnyIn (FW ro) n P .any ops (RegQ CO C N G w a os Q) fuel (listed.setIfInBounds ao.ix true)) (Qx := RegQ CO C N G w a os Q) hC hY hg hrnd hop hs (T.All.bind hmv)
        (fun s' G' a' w' hq hs' hle hk => by
          refine wpAnyIn_mono (RegQ.from hle (fun o ho => ho) fun t ht => hk t (ht ao hmo)) _ _ _ _ (ih (r1 ++ r2) (listed.setIfInBounds ao.ix true) (by simp only [List.length_append, List.length_cons] at hlen ⊢; omega) ?_ (by simpa using hsz) (fun j hj => ?_) (fun k hk hl x hx => ?_) hs' hq)
          · exact (List.Sublist.append_left (List.sublist_cons_self ao r2) r1).trans hsub
          · by_cases hji : j = ao.ix
            · subst hji
              have : ao.ix < listed.size := by omega
              simp only [Array.getD_eq_getD_getElem?, Array.getElem?_setIfInBounds, this, if_true, Option.getD_some, Bool.true_eq_false, false_iff, not_exists, not_and]
              intro k hk hke
              rcases List.mem_append.1 hk with hk | hk
              · have hp : pairOk ops k ao = true := (List.pairwise_append.1 hpw).2.2 k hk ao (by simp)
                simp only [pairOk, Bool.and_eq_true] at hp
                have := hp.1.1
                rw [beq_iff.2 hke] at this
                cases this
              · have hp : pairOk ops ao k = true := (List.pairwise_cons.1 (List.pairwise_append.1 hpw).2.1).1 k hk
                simp only [pairOk, Bool.and_eq_true] at hp
                have := hp.1.1
                rw [beq_iff.2 hke.symm] at this
                cases this
            · rw [getD_set_ne true (Ne.symm hji), hun j hj]
              constructor
              · rintro ⟨k, hk, hke⟩
                refine ⟨k, ?_, hke⟩
                simp only [List.mem_append, List.mem_cons] at hk ⊢
                rcases hk with hk | rfl | hk
                · exact .inl hk
                · exact absurd hke.symm hji
                · exact .inr hk
              · rintro ⟨k, hk, hke⟩
                refine ⟨k, ?_, hke⟩
                simp only [List.mem_append, List.mem_cons] at hk ⊢
                rcases hk with hk | hk
                · exact .inl hk
                · exact .inr (.inr hk)
          · refine getD_set_true ?_
            by_cases hki : k.ix = ao.ix
            · -- the same operation
              have hkk : k = ao := by
                have hkp : ∀ (l : List AOper), (l.Pairwise fun k o => pairOk ops k o = true) → k ∈ l → ao ∈ l → k = ao := by
                  intro l
                  induction l with
                  | nil => intro _ h; cases h
                  | cons y l ihl =>
                    intro hp h1 h2
                    obtain ⟨p1, p2⟩ := List.pairwise_cons.1 hp
                    rcases List.mem_cons.1 h1 with h1 | h1
                    · rcases List.mem_cons.1 h2 with h2 | h2
                      · rw [h1, h2]
                      · have := p1 ao h2
                        simp only [pairOk, Bool.and_eq_true] at this
                        have := this.1.1
                        rw [← h1, beq_iff.2 hki] at this
                        cases this
                    · rcases List.mem_cons.1 h2 with h2 | h2
                      · have := p1 k h1
                        simp only [pairOk, Bool.and_eq_true] at this
                        have := this.1.1
                        rw [← h2, beq_iff.2 hki.symm] at this
                        cases this
                      · exact ihl p2 h1 h2
                exact hkp os hok.pairs hk hmo
              subst hkk
              exact hafl x hx
            · rw [getD_set_ne true (Ne.symm hki)] at hl
              exact haf k hk hl x hx)
        (fun v pv s' G' w' hq hs' hle hv => ⟨v, pv, s', G', hq, rfl, hv, hle, hs'.st, hs'.dr, hs'.size, hs'.gl, fun t _ => rfl⟩)
      unfold wpOpIn
      simp only [ho]
      exact hstep

theorem reg_any {call : Call} (hC : CallOk P CO C call) (hY : YldOk P CO C call) (hg : GlPure C) {id : Nat} {ops : Array Oper} {os : List AOper} {ro : Option Nat} {n : Nat} {rnd : Bool} (hrnd : ro.isSome = true → rnd = true) {Q : Option AV × St → Prop}
    (hQn : ∀ s1 s2, Eqv s1 s2 → Q (none, s1) → Q (none, s2)) (hQp : ∀ v s1 s2, s1.h = s2.h → s1.d = s2.d → Q (some v, s1) → Q (some v, s2))
    (hok : drawOk P N rnd ops os = true) (hs : SR CO C N G w s a) (h : (Lt.ops C call os s).All Q) : (Code.region id ops true).wpIn (FW ro) n P (RegQ CO C N G w a os Q) a w := by
  have hd := drawOk_spec hok
  refine wpIn_region_any hd.mixed ?_
  have hK : Keep (fun _ => False) G w G { w with drawn := w.drawn + 1 } := ⟨.refl _, fun _ _ _ => rfl, fun _ _ _ _ => rfl, fun _ _ _ => rfl⟩
  obtain ⟨hs', hle⟩ : SR CO C N G { w with drawn := w.drawn + 1 } s a ∧ Le G w G { w with drawn := w.drawn + 1 } := by
    refine ⟨⟨⟨hs.st.con, hs.st.obj, hs.st.lt, hs.st.sep, fun b i hi => ?_, hs.st.uniq⟩, hs.env.keep hK hs.st.lt (fun _ _ _ h => h) fun _ _ h => h, ⟨fun i cs h => ?_, hs.loc.uniq, hs.loc.some⟩, DR.keep (w := w) (w' := { w with drawn := w.drawn + 1 }) (.refl _) rfl (fun _ _ h => ⟨rfl, h⟩) hs.dr, hs.size, hs.gl⟩, ⟨.refl _, Nat.le_refl _, rfl, rfl, rfl, fun _ _ h => ⟨rfl, h⟩, fun b o v h k => (by rw [h] at k; cases k), rfl, fun _ _ h => h⟩⟩
    · obtain ⟨blk, o, k1, k2, k3⟩ := hs.st.heap b i hi
      exact ⟨blk, o, k1, k2, k3.keep hK hs.st.lt fun _ _ _ h => h⟩
    · obtain ⟨k, arr, e, k1, k2, k3⟩ := hs.loc.get i cs h
      exact ⟨k, arr, e, k1, k2, k3.keep hK hs.st.lt fun _ _ _ h => h⟩
  have := any_sound (n := n) hC hY hg hrnd hQn hQp hd ops.size os (Array.replicate ops.size false) (by rw [hd.len]; exact Nat.le_refl _) (List.Sublist.refl _) (by simp) (fun i hi => ?_) (fun ao hao hl => ?_) hs' h
  · exact wpAnyIn_mono (RegQ.from hle (fun _ h => h) fun _ _ => rfl) _ _ _ _ this
  · simp only [Array.getD_eq_getD_getElem?, Array.getElem?_replicate, hi, if_true, Option.getD_some, true_iff]
    exact hd.all i hi
  · obtain ⟨o, ho, _⟩ := hd.oper ao hao
    have hlt := (Array.getElem?_eq_some_iff.1 ho).1
    simp [hlt] at hl
end Go.Lt
