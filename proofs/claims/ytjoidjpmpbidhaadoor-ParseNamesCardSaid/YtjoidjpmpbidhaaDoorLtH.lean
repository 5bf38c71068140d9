/-
  Lt: code is sound: the check, and lemmas on states.
  Lt: code is sound.
  Lt: loops over functions are sound.
  Lt: rounds of loops over functions, results, functions.
  Lt: a round of a loop over a function is sound.
  Lt: results.
  Lt: how a frame leaves: deferred calls, marks, a panic that is recovered.
  Lt: how a frame leaves is sound.
  Lt: functions are sound, at every depth of the machine.
  Lt: a function that recovers what was thrown.
-/
import Derived.Test.YtjoidjpmpbidhaaDoorLtG
import Derived.ScopeJumps
import Derived.RangeFuncIn
set_option linter.all false
namespace Go.Lt
open Go
variable {P : Program} {CO : Nat → Code → AC → Prop} {C : Cfg} {N : Nat} {G G' : Gho} {w w' : World} {s s' : St} {a : Act} {v : AV}

def codeOk (P : Program) (rnd : Bool) (N : Nat) : Code → AC → Bool
  | c, .gh _ a => codeOk P rnd N c a
  | .skip, .skip => true
  | .label l, .label l' => Nat.beq l l'
  | .ret, .ret => true
  | .exit i, .exit j => Nat.beq i j
  | .goto l, .goto l' => Nat.beq l l'
  | .seq a b, .seq a' b' => codeOk P rnd N a a' && codeOk P rnd N b b'
  | .cond c a b, .cond c' a' b' => odOk c c' && codeOk P rnd N a a' && codeOk P rnd N b b'
  | .block i a, .block j a' => Nat.beq i j && codeOk P rnd N a a'
  | .loop a, .loop a' => codeOk P rnd N a a'
  | .region _ ops draw, .reg draw' os keep => (draw == draw') && match draw with
    | true => drawOk P N rnd ops os && keep.isSome
    | false => opersOk P ops N rnd ops.toList os
  | .rangeFunc f ps asg body, .rangeF f' ps' asg' body' _ => !rnd && odOk f f' && decide (ps.toList = ps') && ps'.all (fun p => Nat.blt p N) && codeOk P true N asg asg' && codeOk P true N body body'
  | .scope a, .scope a' => !rnd && codeOk P rnd N a a' && match a'.label? with
    | some l => (findLabel a l).isSome
    | none => false
  | _, _ => false

def COk (P : Program) : Nat → Code → AC → Prop := fun N c ac => codeOk P true N c ac = true

/-! ### environments -/
theorem Env.get_pub (e : Env) (t : Nat) : e.pub.get t = match e.get t with | .lptr .. => .undef | v => v.clr := by
  induction e with
  | nil => rfl
  | cons p e ih =>
    obtain ⟨k, v⟩ := p
    simp only [Env.pub, List.map_cons, Env.get] at ih ⊢
    cases Nat.beq k t
    · exact ih
    · rfl
theorem Env.get_filter (e : Env) (f : Nat → Bool) (t : Nat) : Env.get (e.filter fun p => f p.1) t = if f t then e.get t else .undef := by
  induction e with
  | nil => simp [Env.get]
  | cons p e ih =>
    obtain ⟨k, v⟩ := p
    simp only [List.filter_cons]
    by_cases hk : k = t
    · subst hk
      by_cases hf : f k = true
      · simp [hf, Env.get]
      · simp only [hf, Bool.false_eq_true, if_false]
        rw [ih]; simp [hf]
    · by_cases hf : f k = true
      · simp only [hf, if_true, Env.get, beq_false.2 hk]
        exact ih
      · simp only [hf, Bool.false_eq_true, if_false, Env.get, beq_false.2 hk]
        exact ih
theorem Env.get_keep (e : Env) (ts : List Nat) (t : Nat) : (e.keep ts).get t = if t ∈ ts then e.get t else .undef := by
  induction ts with
  | nil => simp [Env.keep, Env.get]
  | cons k ts ih =>
    simp only [Env.keep, List.map_cons, Env.get] at ih ⊢
    by_cases hk : k = t
    · subst hk; simp
    · simp only [beq_false.2 hk, ih, List.mem_cons, Ne.symm hk, false_or]

theorem SR.keepE (hs : SR CO C N G w s a) (ts : List Nat) : SR CO C N G w { s with e := s.e.keep ts } a := by
  refine ⟨hs.st, fun t ht => ?_, hs.loc, hs.dr, hs.size, hs.gl⟩
  rw [Env.get_keep] at ht ⊢
  split at ht
  · rename_i h; simp only [h, if_true]; exact hs.env t ht
  · exact absurd rfl ht

/-- local blocks are forgotten -/
def Gho.dropL (G : Gho) : Gho := { G with role := fun k => match G.role k with
  | .loc _ => .none
  | r => r }
theorem dropL_gle : GLe G G.dropL := ⟨fun _ _ _ h => h, fun _ _ h => h, fun b i h => by simp [Gho.dropL, h]⟩
theorem dropL_le : Le G w G.dropL w :=
  ⟨dropL_gle, Nat.le_refl _, rfl, rfl, rfl, fun k _ h => ⟨rfl, by simp [Gho.dropL, h]⟩, fun b o v h k => (by change G.con b o = _ at h; rw [h] at k; cases k), rfl, fun _ _ h => h⟩
theorem dropL_heap {k i : Nat} : G.dropL.role k = .heap i ↔ G.role k = .heap i := by
  simp only [Gho.dropL]
  split
  · rename_i h; rw [h]; simp
  · rfl
theorem dropL_loc {k i : Nat} : ¬ G.dropL.role k = .loc i := by
  intro h
  simp only [Gho.dropL] at h
  split at h
  · cases h
  · rename_i hne; exact hne _ h

theorem hasDst_of {os : List AOper} {o : AOper} {t : Nat} (ho : o ∈ os) (he : o.d = some t) : hasDst os t = true := by
  induction os with
  | nil => cases ho
  | cons x os ih =>
    simp only [hasDst]
    rcases List.mem_cons.1 ho with rfl | ho
    · rw [he]; simp
    · split
      · simp [ih ho]
      · exact ih ho
/-- behind a panic -/
theorem SR.panicked {N : Nat} {h : List Blk} {d : List (AV × List AV)} {a' : Act} {os : List AOper} (hs : SR CO C N G w s a) (hle : Le G w G' w') (hst : StRel CO G' h w') (hd : DR G' w' d a'.defers) (hsz : a'.tmps.size = N)
    (hgl : ∀ g, C.gl g ≠ .undef → VR G' (C.gl g) (.pointer (some ⟨g, 0, none⟩))) (hk : ∀ t, (∀ o ∈ os, o.d ≠ some t) → a'.tmps.getD t undef = a.tmps.getD t undef) :
    SR CO C N G'.dropL w' ⟨panEnv os s.e, [], h, d⟩ a' := by
  have hK : Keep (fun k => G'.dropL.role k ≠ G'.role k) G' w' G'.dropL w' := ⟨dropL_gle, fun _ _ _ => rfl, fun _ _ _ _ => rfl, fun k _ h => Decidable.not_not.1 h⟩
  refine ⟨⟨hst.con, hst.obj, fun b hb => hst.lt b fun h => hb (by simp [Gho.dropL, h]), fun b => ⟨fun i hi => (hst.sep b).1 i (dropL_heap.1 hi), fun i hi => absurd hi dropL_loc⟩, fun b i hi => ?_, fun b b' i hi hi' => hst.uniq b b' i (dropL_heap.1 hi) (dropL_heap.1 hi')⟩,
    fun t ht => ?_, ⟨fun i cs h => by simp [Loc.get] at h, fun b b' i h => absurd h dropL_loc, fun b i h => absurd h dropL_loc⟩, hd.keep dropL_gle rfl fun r _ h => ⟨rfl, by simp [Gho.dropL, h]⟩, hsz, fun g hg => (hgl g hg).mono dropL_gle⟩
  · obtain ⟨blk, o, k1, k2, k3⟩ := hst.heap b i (dropL_heap.1 hi)
    exact ⟨blk, o, k1, k2, k3.keep hK hst.lt fun j k hk => by simp [Gho.dropL, hk]⟩
  · simp only [panEnv] at ht ⊢
    rw [Env.get_filter _ (fun k => !(hasDst os k))] at ht ⊢
    split at ht
    · rename_i hf
      simp only [hf, if_true]
      have hno : ∀ o ∈ os, o.d ≠ some t := by
        intro o ho he
        rw [hasDst_of ho he] at hf
        cases hf
      rw [hk t hno]
      rw [Env.get_pub] at ht ⊢
      have hne : s.e.get t ≠ .undef := by intro h; rw [h] at ht; exact ht rfl
      have hvt := (hs.env t hne).1
      split at ht
      · exact absurd rfl ht
      · rename_i hnl
        have hvr := hvt.vr (fun i o h => hnl i o h)
        exact ⟨VT.of ((hvr.mono hle.gle).mono dropL_gle).clr, Own.of_clr⟩
    · exact absurd rfl ht

/-! ### loops -/
theorem wpIn_loop_fuel {F : Fence} {n : Nat} {Q : Exit → Act → World → Prop} {c : Code} (I : Nat → Act → World → Prop) (h0 : ∀ a w, ¬ I 0 a w)
    (round : ∀ m a w, I (m + 1) a w → c.wpIn F n P (Exit.then (I m) Q) a w) : ∀ m a w, I m a w → (Code.loop c).wpIn F n P Q a w := by
  intro m a w hI b k cs hro hb hr
  have key : ∀ m a w, I m a w → ∃ e a' w', Q e a' w' ∧ ArrivesIn (Machine.fenced P F) P (lone (b.atR a (.code c :: .inLoop c :: k)) cs w) b k cs e a' w' := by
    intro m
    induction m with
    | zero => exact fun a w h => absurd h (h0 a w)
    | succ m ih =>
      intro a w hI
      obtain ⟨e, a₁, w₁, hq, harr⟩ := round m a w hI b (.inLoop c :: k) cs hro hb hr
      cases e with
      | normal =>
        obtain ⟨e₂, a₂, w₂, hq₂, harr₂⟩ := ih a₁ w₁ hq
        exact ⟨e₂, a₂, w₂, hq₂, .of_steps (StepsIn.trans harr (.one (fenced_calm hb hr rfl) stepR_inLoop)) harr₂⟩
      | exit id => exact ⟨_, a₁, w₁, hq, .pass (x := .inLoop c) rfl (fun _ _ => .inl (by simp)) harr⟩
      | goto l => exact ⟨_, a₁, w₁, hq, .pass (x := .inLoop c) rfl (fun _ _ => .inl (by simp)) harr⟩
      | ret => exact ⟨_, a₁, w₁, hq, .pass (x := .inLoop c) rfl (fun _ _ => .inl (by simp)) harr⟩
      | panic ch => exact ⟨_, a₁, w₁, hq, .pass (x := .inLoop c) rfl (fun _ _ => .inl (by simp)) harr⟩
      | outgrown => exact ⟨_, a₁, w₁, hq, .pass (x := .inLoop c) rfl (fun _ _ => .inl (by simp)) harr⟩
  obtain ⟨e, a', w', hq, harr⟩ := key m a w hI
  exact ⟨e, a', w', hq, .of_steps (.one (fenced_calm hb hr rfl) stepR_loop) harr⟩

theorem wp_scope_fuel {Q : Exit → Act → World → Prop} {c rest : Code} (l : Nat) (J : Nat → Act → World → Prop) (hf : findLabel c l = some rest) (h0 : ∀ a w, ¬ J 0 a w)
    (pass : ∀ m a w, J (m + 1) a w → rest.wp P (Exit.jump l (J m) Q) a w) (m : Nat) {a : Act} {w : World} (first : c.wp P (Exit.jump l (J m) Q) a w) : (Code.scope c).wp P Q a w := by
  intro b k cs
  have hg : gotoIn l (.inScope c :: k) = some (.code rest :: .inScope c :: k) := by simp [gotoIn, hf]
  have key : ∀ m a w, J m a w → ∃ e a' w', Q e a' w' ∧ Arrives P (lone (b.at a (.code rest :: .inScope c :: k)) cs w) b k cs e a' w' := by
    intro m
    induction m with
    | zero => exact fun a w h => absurd h (h0 a w)
    | succ m ih =>
      intro a w hJ
      obtain ⟨e, a₁, w₁, hq, harr⟩ := pass m a w hJ b (.inScope c :: k) cs
      cases e with
      | normal => exact ⟨.normal, a₁, w₁, hq, Steps.trans harr (.one step_inScope)⟩
      | exit id => exact ⟨.exit id, a₁, w₁, hq, fun k' hk => harr k' (by simp [exitTo, hk])⟩
      | goto l' =>
        obtain ⟨rfl, hJ'⟩ := hq
        obtain ⟨e₂, a₂, w₂, hq₂, harr₂⟩ := ih a₁ w₁ hJ'
        exact ⟨e₂, a₂, w₂, hq₂, .of_steps (harr _ hg) harr₂⟩
      | ret => exact ⟨_, a₁, w₁, hq, harr⟩
      | panic ch => exact ⟨_, a₁, w₁, hq, harr⟩
      | outgrown => exact ⟨_, a₁, w₁, hq, harr⟩
  obtain ⟨e, a₁, w₁, hq, harr⟩ := first b (.inScope c :: k) cs
  cases e with
  | normal => exact ⟨.normal, a₁, w₁, hq, .head step_scope (Steps.trans harr (.one step_inScope))⟩
  | exit id => exact ⟨.exit id, a₁, w₁, hq, fun k' hk => .head step_scope (harr k' (by simp [exitTo, hk]))⟩
  | goto l' =>
    obtain ⟨rfl, hJ'⟩ := hq
    obtain ⟨e₂, a₂, w₂, hq₂, harr₂⟩ := key m a₁ w₁ hJ'
    exact ⟨e₂, a₂, w₂, hq₂, .of_steps (.head step_scope (harr _ hg)) harr₂⟩
  | ret => exact ⟨_, a₁, w₁, hq, .of_steps (.one step_scope) harr⟩
  | panic ch => exact ⟨_, a₁, w₁, hq, .of_steps (.one step_scope) harr⟩
  | outgrown => exact ⟨_, a₁, w₁, hq, .of_steps (.one step_scope) harr⟩
end Go.Lt
namespace Go.Lt
open Go
variable {P : Program} {CO : Nat → Code → AC → Prop} {C : Cfg} {N : Nat} {G G' : Gho} {w w' : World} {s s' : St} {a : Act} {v : AV}

def ExQ (CO : Nat → Code → AC → Prop) (C : Cfg) (N : Nat) (G : Gho) (w : World) (Q : Ex × St → Prop) : Exit → Act → World → Prop
  | .normal, a', w' => ∃ s' G', Q (.norm, s') ∧ SR CO C N G' w' s' a' ∧ Le G w G' w'
  | .exit id, a', w' => ∃ s' G', Q (.exit id, s') ∧ SR CO C N G' w' s' a' ∧ Le G w G' w'
  | .goto l, a', w' => ∃ s' G', Q (.goto l, s') ∧ SR CO C N G' w' s' a' ∧ Le G w G' w'
  | .ret, a', w' => ∃ s' G', Q (.ret, s') ∧ SR CO C N G' w' s' a' ∧ Le G w G' w'
  | .panic chain, a', w' => ∃ v pv s' G', Q (.pan v, s') ∧ chain = [{ v := pv, recovered := false }] ∧ VR G' v pv ∧ SR CO C N G' w' s' a' ∧ Le G w G' w'
  | .outgrown, _, _ => False

theorem ExQ.from {Q : Ex × St → Prop} (hle : Le G w G' w') : ∀ e a' w'', ExQ CO C N G' w' Q e a' w'' → ExQ CO C N G w Q e a' w'' := by
  intro e a' w'' h
  cases e with
  | normal => obtain ⟨s', G'', h1, h2, h3⟩ := h; exact ⟨s', G'', h1, h2, hle.trans h3⟩
  | exit _ => obtain ⟨s', G'', h1, h2, h3⟩ := h; exact ⟨s', G'', h1, h2, hle.trans h3⟩
  | goto _ => obtain ⟨s', G'', h1, h2, h3⟩ := h; exact ⟨s', G'', h1, h2, hle.trans h3⟩
  | ret => obtain ⟨s', G'', h1, h2, h3⟩ := h; exact ⟨s', G'', h1, h2, hle.trans h3⟩
  | panic _ => obtain ⟨v, pv, s', G'', h1, h2, h3, h4, h5⟩ := h; exact ⟨v, pv, s', G'', h1, h2, h3, h4, hle.trans h5⟩
  | outgrown => exact h

theorem mk_le (hle : Le G w G' w') (h : ∃ b, G.mrk = some b ∧ b ≤ w.heap.size) : ∃ b, G'.mrk = some b ∧ b ≤ w'.heap.size := by
  obtain ⟨b, h1, h2⟩ := h
  exact ⟨b, hle.mrk.trans h1, Nat.le_trans h2 hle.size⟩

/-- what is shown of a piece of code -/
def Sound (P : Program) (C : Cfg) (call : Call) (n : Nat) (ac : AC) : Prop :=
  ∀ (c : Code) (ro : Option Nat) (rnd : Bool) (N : Nat) (Q : Ex × St → Prop) (G : Gho) (w : World) (s : St) (a : Act), (ro.isSome = true → rnd = true) → (rnd = false → ∃ b, G.mrk = some b ∧ b ≤ w.heap.size) → codeOk P rnd N c ac = true → SR (COk P) C N G w s a →
    ((exec C call n ac s).All Q → c.wpIn (FW ro) 0 P (ExQ (COk P) C N G w Q) a w) ∧
    ∀ (l : Nat) (rest : Code), findLabel c l = some rest → (execAfter C call n ac l s).All Q → rest.wpIn (FW ro) 0 P (ExQ (COk P) C N G w Q) a w

theorem after_iff : ∀ {P : Program} {rnd : Bool} {N : Nat} {c : Code} {ac : AC} {l : Nat}, codeOk P rnd N c ac = true → (ac.after l).isSome = (findLabel c l).isSome := by
  intro P rnd N c ac l
  induction ac generalizing c with
  | seq x y ihx ihy =>
    intro hok
    cases c <;> simp only [codeOk, Bool.false_eq_true, Bool.and_eq_true] at hok
    simp only [AC.after, findLabel]
    have h1 := ihx hok.1
    have h2 := ihy hok.2
    split
    · rename_i r hr
      rw [hr] at h1
      obtain ⟨r', hr'⟩ := Option.isSome_iff_exists.1 h1.symm
      rw [hr']; rfl
    · rename_i hr
      rw [hr] at h1
      rw [Option.isSome_eq_false_iff.1 h1.symm |> Option.isNone_iff_eq_none.1]
      exact h2
  | label l' =>
    intro hok
    cases c <;> simp only [codeOk, Bool.false_eq_true] at hok
    have := beq_iff.1 hok
    subst this
    simp only [AC.after, findLabel]
    split
    · rename_i he
      have := beq_iff.1 he
      subst this
      simp
    · rename_i he
      have := beq_false.1 he
      simp [this]
  | gh g x ih =>
    intro hok
    have hok' : codeOk P rnd N c x = true := by cases c <;> exact hok
    exact ih hok'
  | _ => intro hok; cases c <;> first | (simp [codeOk] at hok; done) | rfl

theorem FW_none : FW none = Fence.wide := rfl

theorem sound_seq {call : Call} {n : Nat} {x y : AC} (hx : Sound P C call n x) (hy : Sound P C call n y) : Sound P C call n (.seq x y) := by
  intro c ro rnd N Q G w s a hro hmk hok hs
  cases c <;> simp only [codeOk, Bool.false_eq_true, Bool.and_eq_true] at hok
  rename_i c1 c2
  have then_ : ∀ {cc : Code} {G0 : Gho} {w0 : World} {a0 : Act} {Q1 : Ex × St → Prop}, Le G w G0 w0 → cc.wpIn (FW ro) 0 P (ExQ (COk P) C N G0 w0 (fun r => (match r with
        | (.norm, s') => exec C call n y s'
        | r => .ret r).All Q)) a0 w0 → (Code.seq cc c2).wpIn (FW ro) 0 P (ExQ (COk P) C N G w Q) a0 w0 := by
    intro cc G0 w0 a0 Q1 hle h
    refine wpIn_seq (wpIn_mono h fun e a' w' hq => ?_)
    have hq := ExQ.from hle _ _ _ hq
    cases e with
    | normal =>
      obtain ⟨s', G', q1, q2, q3⟩ := hq
      exact wpIn_mono ((hy c2 ro rnd N Q G' w' s' a' hro (fun h => mk_le q3 (hmk h)) hok.2 q2).1 q1) (ExQ.from q3)
    | exit _ => exact hq
    | goto _ => exact hq
    | ret => exact hq
    | panic _ => exact hq
    | outgrown => exact hq
  refine ⟨fun h => ?_, fun l rest hl h => ?_⟩
  · simp only [exec] at h
    exact then_ (Q1 := Q) (.refl _ _) ((hx c1 ro rnd N _ G w s a hro hmk hok.1 hs).1 (T.All.bind h))
  · simp only [execAfter] at h
    simp only [findLabel] at hl
    have hit := after_iff hok.1 (l := l)
    cases hf : findLabel c1 l with
    | some r1 =>
      rw [hf] at hl
      cases hl
      split at h
      · exact then_ (Q1 := Q) (.refl _ _) ((hx c1 ro rnd N _ G w s a hro hmk hok.1 hs).2 l r1 hf (T.All.bind h))
      · rename_i hno
        rw [hno, hf] at hit
        cases hit
    | none =>
      rw [hf] at hl
      split at h
      · rename_i r hr
        rw [hr, hf] at hit
        cases hit
      · exact (hy c2 ro rnd N Q G w s a hro hmk hok.2 hs).2 l rest hl h

/-- behind a region -/
theorem RegQ.code {os : List AOper} {keep : Option (List Nat)} {Q : Ex × St → Prop} (hs : SR CO C N G w s a) :
    ∀ e a' w', RegQ CO C N G w a os (fun r => (match r with
      | (none, s') => (T.ret (Ex.norm, match keep with
        | some ts => { s' with e := s'.e.keep ts }
        | none => s') : T (Ex × St))
      | (some v, s') => .ret (.pan v, { s' with e := panEnv os s.e, l := [] })).All Q) e a' w' → ExQ CO C N G w Q e a' w' := by
  intro e a' w' h
  cases e with
  | normal =>
    obtain ⟨s', G', h1, h2, h3⟩ := h
    cases keep with
    | none => exact ⟨_, G', h1, h2, h3⟩
    | some ts => exact ⟨_, G', h1, h2.keepE ts, h3⟩
  | panic chain =>
    obtain ⟨v, pv, s', G', h1, h2, h3, h4, h5, h6, h7, h8, h9⟩ := h
    exact ⟨v, pv, _, G'.dropL, h1, h2, h3.mono dropL_gle, SR.panicked hs h4 h5 h6 h7 h8 h9, h4.trans dropL_le⟩
  | exit _ => exact h.elim
  | goto _ => exact h.elim
  | ret => exact h.elim
  | outgrown => exact h

theorem sound_leaf {call : Call} {n : Nat} : Sound P C call n .skip ∧ Sound P C call n .ret ∧ (∀ id, Sound P C call n (.exit id)) ∧ (∀ l, Sound P C call n (.label l)) ∧ ∀ l, Sound P C call n (.goto l) := by
  refine ⟨?_, ?_, fun id => ?_, fun l => ?_, fun l => ?_⟩
  all_goals
    intro c ro rnd N Q G w s a hro hmk hok hs
    cases c <;> simp only [codeOk, Bool.false_eq_true] at hok
  · exact ⟨fun h => wpIn_skip ⟨s, G, h, hs, .refl _ _⟩, fun l rest hl h => by simp [findLabel] at hl⟩
  · exact ⟨fun h => wpIn_ret ⟨s, G, h, hs, .refl _ _⟩, fun l rest hl h => by simp [findLabel] at hl⟩
  · have := beq_iff.1 hok
    subst this
    exact ⟨fun h => wpIn_exit ⟨s, G, h, hs, .refl _ _⟩, fun l rest hl h => by simp [findLabel] at hl⟩
  · have := beq_iff.1 hok
    subst this
    refine ⟨fun h => wpIn_label ⟨s, G, h, hs, .refl _ _⟩, fun l rest hl h => ?_⟩
    simp only [findLabel] at hl
    split at hl <;> cases hl
    exact wpIn_skip ⟨s, G, h, hs, .refl _ _⟩
  · have := beq_iff.1 hok
    subst this
    exact ⟨fun h => wpIn_goto ⟨s, G, h, hs, .refl _ _⟩, fun l rest hl h => by simp [findLabel] at hl⟩

theorem sound_cond {call : Call} {n : Nat} {c : AO} {x y : AC} (hx : Sound P C call n x) (hy : Sound P C call n y) : Sound P C call n (.cond c x y) := by
  intro c ro rnd N Q G w s a hro hmk hok hs
  cases c <;> simp only [codeOk, Bool.false_eq_true, Bool.and_eq_true] at hok
  refine ⟨fun h => ?_, fun l rest hl h => by simp [findLabel] at hl⟩
  simp only [exec] at h
  split at h <;> first | (exact h.elim) | skip
  · rename_i hb
    have hcv := ev_eq hs hok.1.1 hb (by simp) (by simp)
    refine wpIn_cond_true ?_ ((hx _ ro rnd N Q G w s a hro hmk hok.1.2 hs).1 h)
    generalize a.eval _ = cc at hcv ⊢
    cases hcv; rfl
  · rename_i hb
    have hcv := ev_eq hs hok.1.1 hb (by simp) (by simp)
    refine wpIn_cond_false ?_ ((hy _ ro rnd N Q G w s a hro hmk hok.2 hs).1 h)
    generalize a.eval _ = cc at hcv ⊢
    cases hcv; rfl

theorem sound_block {call : Call} {n : Nat} {id : Nat} {x : AC} (hx : Sound P C call n x) : Sound P C call n (.block id x) := by
  intro c ro rnd N Q G w s a hro hmk hok hs
  cases c <;> simp only [codeOk, Bool.false_eq_true, Bool.and_eq_true] at hok
  rename_i id' c
  have := beq_iff.1 hok.1
  subst this
  refine ⟨fun h => ?_, fun l rest hl h => by simp [findLabel] at hl⟩
  simp only [exec] at h
  refine wpIn_block (wpIn_mono ((hx c ro rnd N _ G w s a hro hmk hok.2 hs).1 (T.All.bind h)) fun e a' w' hq => ?_)
  cases e with
  | normal => exact hq
  | exit i =>
    obtain ⟨s', G', q1, q2, q3⟩ := hq
    simp only at q1
    by_cases hi : i = id'
    · subst hi
      simp only [Exit.inBlock, if_true]
      simp only [beq_iff.2] at q1
      exact ⟨s', G', q1, q2, q3⟩
    · simp only [Exit.inBlock, hi, if_false]
      simp only [beq_false.2 hi] at q1
      exact ⟨s', G', q1, q2, q3⟩
  | goto _ => exact hq
  | ret => exact hq
  | panic _ => exact hq
  | outgrown => exact hq

theorem sound_loop {call : Call} {n : Nat} {x : AC} (hx : Sound P C call n x) : Sound P C call n (.loop x) := by
  intro c ro rnd N Q G w s a hro hmk hok hs
  cases c <;> simp only [codeOk, Bool.false_eq_true] at hok
  rename_i c
  refine ⟨fun h => ?_, fun l rest hl h => by simp [findLabel] at hl⟩
  simp only [exec] at h
  refine wpIn_loop_fuel (fun m a' w' => ∃ s' G', (loopN (exec C call n x) m s').All Q ∧ SR (COk P) C N G' w' s' a' ∧ Le G w G' w') (fun a' w' ⟨s', G', q1, _⟩ => q1) (fun m a' w' ⟨s', G', q1, q2, q3⟩ => ?_) n a w ⟨s, G, h, hs, .refl _ _⟩
  simp only [loopN] at q1
  refine wpIn_mono ((hx c ro rnd N _ G' w' s' a' hro (fun h => mk_le q3 (hmk h)) hok q2).1 (T.All.bind q1)) fun e a'' w'' hq => ?_
  have hq := ExQ.from q3 _ _ _ hq
  cases e with
  | normal => exact hq
  | exit _ => exact hq
  | goto _ => exact hq
  | ret => exact hq
  | panic _ => exact hq
  | outgrown => exact hq

theorem sound_gh {call : Call} {n : Nat} {g : Gh} {x : AC} (hx : Sound P C call n x) : Sound P C call n (.gh g x) := by
  intro c ro rnd N Q G w s a hro hmk hok hs
  have hok' : codeOk P rnd N c x = true := by cases c <;> exact hok
  refine ⟨fun h => ?_, fun l rest hl h => (hx c ro rnd N Q G w s a hro hmk hok' hs).2 l rest hl h⟩
  simp only [exec] at h
  split at h <;> first | (exact h.elim) | skip
  rename_i s1 hg
  obtain ⟨G1, k1, k2⟩ := gh_sound hs hg
  exact wpIn_mono ((hx c ro rnd N Q G1 w s1 a hro (fun h => mk_le k2 (hmk h)) hok' k1).1 h) (ExQ.from k2)

theorem sound_scope {call : Call} {n : Nat} {x : AC} (hx : Sound P C call n x) : Sound P C call n (.scope x) := by
  intro c ro rnd N Q G w s a hro hmk hok hs
  cases c <;> simp only [codeOk, Bool.false_eq_true, Bool.and_eq_true] at hok
  rename_i c
  obtain ⟨⟨hrnd, hok⟩, hlab⟩ := hok
  refine ⟨fun h => ?_, fun l rest hl h => by simp [findLabel] at hl⟩
  have hnone : ro = none := by
    cases ro with
    | none => rfl
    | some l => rw [hro rfl] at hrnd; cases hrnd
  subst hnone
  simp only [exec] at h
  split at hlab <;> first | (cases hlab; done) | skip
  rename_i l hl
  rw [hl] at h
  simp only at h
  obtain ⟨rest, hrest⟩ := Option.isSome_iff_exists.1 hlab
  rw [FW_none]
  refine wpIn_wide.2 ?_
  -- one pass
  have pass : ∀ (f : St → T (Ex × St)) (cc : Code) (m : Nat) (G0 : Gho) (w0 : World) (s0 : St) (a0 : Act), (∀ Q1, (f s0).All Q1 → cc.wpIn (FW none) 0 P (ExQ (COk P) C N G0 w0 Q1) a0 w0) → Le G w G0 w0 →
      (scopeN f (execAfter C call n x l) l (m + 1) s0).All Q → cc.wp P (Exit.jump l (fun a' w' => ∃ s' G', (scopeN (execAfter C call n x l) (execAfter C call n x l) l m s').All Q ∧ SR (COk P) C N G' w' s' a' ∧ Le G w G' w') (ExQ (COk P) C N G w Q)) a0 w0 := by
    intro f cc m G0 w0 s0 a0 hcc hle hq
    simp only [scopeN] at hq
    refine wpIn_wide.1 (wpIn_mono (hcc _ (T.All.bind hq)) fun e a' w' hq => ?_)
    have hq := ExQ.from hle _ _ _ hq
    cases e with
    | normal => exact hq
    | exit _ => exact hq
    | goto l' =>
      obtain ⟨s', G', q1, q2, q3⟩ := hq
      simp only at q1
      split at q1
      · rename_i he
        exact ⟨beq_iff.1 he, s', G', q1, q2, q3⟩
      · exact q1.elim
    | ret => exact hq
    | panic _ => exact hq
    | outgrown => exact hq
  cases n with
  | zero => exact h.elim
  | succ m =>
    refine wp_scope_fuel l (fun k a' w' => ∃ s' G', (scopeN (execAfter C call (m + 1) x l) (execAfter C call (m + 1) x l) l k s').All Q ∧ SR (COk P) C N G' w' s' a' ∧ Le G w G' w') hrest (fun a' w' ⟨s', G', q1, _⟩ => q1) (fun m' a' w' ⟨s', G', q1, q2, q3⟩ => ?_) m ?_
    · exact pass _ rest m' G' w' s' a' (fun Q1 h1 => (hx c none rnd N Q1 G' w' s' a' (fun h => by cases h) (fun h => mk_le q3 (hmk h)) hok q2).2 l rest hrest h1) q3 q1
    · exact pass _ c m G w s a (fun Q1 h1 => (hx c none rnd N Q1 G w s a (fun h => by cases h) hmk hok hs).1 h1) (.refl _ _) h
theorem keep_ext {e e' : Env} (h : ∀ t, e.get t = e'.get t) (ts : List Nat) : e.keep ts = e'.keep ts := by
  simp only [Env.keep, h]
theorem sound_reg {call : Call} (hC : CallOk P (COk P) C call) (hY : YldOk P (COk P) C call) (hg : GlPure C) {n : Nat} {draw : Bool} {os : List AOper} {keep : Option (List Nat)} : Sound P C call n (.reg draw os keep) := by
  intro c ro rnd N Q G w s a hro hmk hok hs
  cases c <;> simp only [codeOk, Bool.false_eq_true, Bool.and_eq_true] at hok
  rename_i id ops d
  obtain ⟨hd, hok⟩ := hok
  have hd : d = draw := by simpa using hd
  subst hd
  refine ⟨fun h => ?_, fun l rest hl h => by simp [findLabel] at hl⟩
  simp only [exec] at h
  cases d with
  | false => exact wpIn_mono (reg_seq (n := 0) hC hY hg hro hok hs (T.All.bind h)) (RegQ.code hs)
  | true =>
    simp only [Bool.and_eq_true] at hok
    obtain ⟨hok, hkeep⟩ := hok
    cases keep with
    | none => cases hkeep
    | some ts =>
    refine wpIn_mono (reg_any (n := 0) hC hY hg hro ?_ ?_ hok hs (T.All.bind h)) (RegQ.code (keep := some ts) hs)
    · intro s1 s2 he hq
      obtain ⟨e1, l1, h1, d1⟩ := s1
      obtain ⟨e2, l2, h2, d2⟩ := s2
      obtain ⟨he, ha, hb, hc⟩ := he
      simp only at he ha hb hc hq ⊢
      subst ha; subst hb; subst hc
      rw [← keep_ext he ts]
      exact hq
    · intro v s1 s2 ha hb hq
      simp only at hq ⊢
      rw [← ha, ← hb]
      exact hq
end Go.Lt
namespace Go.Lt
open Go
variable {P : Program} {CO : Nat → Code → AC → Prop} {C : Cfg} {N : Nat} {G G' : Gho} {w w' : World} {s s' : St} {a : Act} {v : AV}

/-- a new block that is nothing to the abstract machine -/
theorem SR.newObj (hs : SR CO C N G w s a) {x : Obj} (hw : w'.heap = w.heap.push x) : SR CO C N (G.add w.heap.size (fun _ => none) .none) w' s a := by
  have hk := Gho.add_keep hs.st hw (fun _ => none) .none
  obtain ⟨h1, h2, h3⟩ := hs.add_rest hw (fun _ => none) .none (by simp)
  have hl := hs.st.lt
  refine ⟨⟨fun b o v hc' => ?_, fun b x hx => ?_, fun b hb => ?_, fun b => ⟨fun i hi => ?_, fun i hi => ?_⟩, fun b i hi => ?_, fun b b' i hi hi' => ?_⟩, h1, h2, h3, hs.size, fun g hg => (hs.gl g hg).mono hk.gle⟩
  · simp only [Gho.add] at hc'
    split at hc'
    · cases hc'
    · have h := hs.st.con b o v hc'
      have hlt := World.block_lt_of_cell? w _ h
      rw [cell_same (push_old hw hlt)]; exact h
  · simp only [Gho.add] at hx
    split at hx
    · cases hx
    · have h := hs.st.obj b x hx
      have hlt := (Array.getElem?_eq_some_iff.1 h).1
      rw [push_old hw hlt]; exact h
  · simp only [Gho.add] at hb
    split at hb
    · exact absurd rfl hb
    · have := hl b hb; rw [hw]; simp; omega
  · simp only [Gho.add] at hi ⊢
    split at hi
    · cases hi
    · rename_i hb
      simp only [hb, if_false]; exact (hs.st.sep b).1 i hi
  · simp only [Gho.add] at hi ⊢
    split at hi
    · cases hi
    · rename_i hb
      simp only [hb, if_false]; exact (hs.st.sep b).2 i hi
  · simp only [Gho.add] at hi
    split at hi
    · cases hi
    · obtain ⟨blk, o, k1, k2, k3⟩ := hs.st.heap b i hi
      have hlt := hl b (by rw [hi]; simp)
      exact ⟨blk, o, k1, (push_old hw hlt).trans k2, k3.keep hk hl fun _ _ _ h => h⟩
  · simp only [Gho.add] at hi hi'
    split at hi
    · cases hi
    · split at hi'
      · cases hi'
      · exact hs.st.uniq b b' i hi hi'

theorem EnvC.of (hs : SR CO C N G w s a) (keep : List Nat) {G' : Gho} (hle : GLe G G') : EnvC G' (s.e.keep keep).pub a.tmps := by
  intro t ht
  rw [Env.get_pub] at ht ⊢
  rw [Env.get_keep] at ht ⊢
  split at ht
  · exact absurd rfl ht
  · rename_i hnl
    split at ht
    · rename_i hmem
      simp only [hmem, if_true] at hnl ⊢
      have hne : s.e.get t ≠ .undef := by intro h; rw [h] at ht; exact ht rfl
      have := (hs.env t hne).1.vr (fun i o h => hnl i o h)
      exact ⟨(this.mono hle).clr, noOwn_clr _⟩
    · exact absurd rfl ht

theorem run_getLoop {k : Nat} {L : Loop} (h : w.heap[k]? = some (.loop L)) : (Instr.getLoop k).run P w = .ok L w := by
  simp only [Instr.getLoop, Sem.run_bind, getObj, Sem.run, h, Result.andThen_ok]
  rfl
theorem run_setLoop {k : Nat} {L L' : Loop} (h : w.heap[k]? = some (.loop L)) : (setObj k (.loop L')).run P w = .ok () { w with heap := w.heap.setIfInBounds k (.loop L') } := by
  simp only [setObj, Sem.run, h]

/-- a loop's block -/
theorem StRel.loop {h : List Blk} (hs : StRel CO G h w) {k i : Nat} (hr : G.role k = .heap i) {st : LSt} {pend : Pend} {e : Env} {ps : List Nat} {asg body : AC} (hb : h[i]? = some (.loop st pend e ps asg body)) :
    ∃ L : Loop, w.heap[k]? = some (.loop L) ∧ BR CO G w i (.loop st pend e ps asg body) (.loop L) := by
  obtain ⟨blk, o, k1, k2, k3⟩ := hs.heap k i hr
  rw [hb] at k1
  cases k1
  cases o <;> simp only [BR] at k3
  exact ⟨_, k2, k3⟩

theorem sound_range {call : Call} (hC : CallOk P (COk P) C call) (hg : GlPure C) {n : Nat} {f : AO} {ps : List Nat} {asg body : AC} {keep : List Nat} : Sound P C call n (.rangeF f ps asg body keep) := by
  intro c ro rnd N Q G w s a hro hmk hok hs
  cases c <;> simp only [codeOk, Bool.false_eq_true, Bool.and_eq_true, decide_eq_true_eq] at hok
  rename_i fo psA asgC bodyC
  obtain ⟨⟨⟨⟨⟨hrnd, hf⟩, hps⟩, hpsN⟩, hasg⟩, hbody⟩ := hok
  refine ⟨fun h => ?_, fun l rest hl h => by simp [findLabel] at hl⟩
  have hrf : rnd = false := by simpa using hrnd
  have hnone : ro = none := by
    cases ro with
    | none => rfl
    | some l => rw [hro rfl] at hrf; cases hrf
  subst hnone
  have hmrk := hmk hrf
  simp only [exec] at h
  split at h <;> first | (exact h.elim) | skip
  rename_i g as hce
  split at h <;> first | (exact h.elim) | skip
  rename_i hak
  unfold callee at hce
  split at hce <;> first | (cases hce; done) | skip
  rename_i g' pa pb hfe
  cases hce
  have hfv := ev_eq hs hf hfe (by simp) (by simp)
  generalize hff : a.eval fo = fv at hfv
  cases hfv with | fn _ _ _ va vb hva hvb =>
  refine wpIn_rangeFunc fun fnid _ => ?_
  -- the loop's record
  let L : Loop := { state := .ready, pending := none, fn := fnid, tmps := a.tmps, params := psA, assign := asgC, body := bodyC, defers := w.heap.size }
  let w1 : World := { w with heap := w.heap.push (.deferred (some [])) }
  let w2 : World := { w1 with heap := w1.heap.push (.loop L) }
  have hsz1 : w1.heap.size = w.heap.size + 1 := by simp [w1]
  have hs1 : SR (COk P) C N (G.add w.heap.size (fun _ => none) .none) w1 s a := hs.newObj (w' := w1) (x := .deferred (some [])) rfl
  have hle1 : Le G w (G.add w.heap.size (fun _ => none) .none) w1 := Gho.add_le (w' := w1) (x := .deferred (some [])) hs.st rfl rfl rfl rfl _ _
  have hs2 := hs1.heapNew (w' := w2) (x := .loop L) rfl (.loop .ready .none (s.e.keep keep).pub ps asg body) (fun G' w' hle => by
    refine ⟨trivial, trivial, ?_, ?_, ?_, EnvC.of hs1 keep hle, fun p hp => ?_⟩
    · show psA = ⟨ps⟩
      apply Array.toList_inj.1; exact hps
    · show COk P a.tmps.size asgC asg
      rw [hs.size]; exact hasg
    · show COk P a.tmps.size bodyC body
      rw [hs.size]; exact hbody
    · show p < a.tmps.size
      rw [hs.size]
      exact Nat.le_of_ble_eq_true (List.all_eq_true.1 hpsN p hp))
  have hle2 : Le (G.add w.heap.size (fun _ => none) .none) w1 ((G.add w.heap.size (fun _ => none) .none).add w1.heap.size (fun _ => none) (.heap s.h.length)) w2 := Gho.add_le (w' := w2) (x := .loop L) hs1.st rfl rfl rfl rfl _ _
  generalize hG2 : (G.add w.heap.size (fun _ => none) .none).add w1.heap.size (fun _ => none) (.heap s.h.length) = G2 at hs2 hle2
  have hrole : G2.role (w.heap.size + 1) = .heap s.h.length := by rw [← hG2, ← hsz1]; simp [Gho.add]
  have hmark : w2.heap[w.heap.size]? = some (.deferred (some [])) := by
    have h1 : w1.heap[w.heap.size]? = some (.deferred (some [])) := by simp [w1]
    rw [← h1]
    exact push_old (w := w1) (w' := w2) (x := .loop L) rfl (by rw [hsz1]; omega)
  have hrole0 : G2.role w.heap.size = .none := by rw [← hG2]; simp [Gho.add, hsz1]
  have hle : Le G w G2 w2 := hle1.trans hle2
  let a2 : Act := { a with defers := [{ target := .collected w.heap.size, args := #[] }] ++ a.defers }
  have hs3 : SR (COk P) C N G2 w2 { s with h := s.h ++ [.loop .ready .none (s.e.keep keep).pub ps asg body] } a2 :=
    ⟨hs2.st, hs2.env, hs2.loc, .mark _ _ _ hmark hrole0 (by obtain ⟨b, h1, h2⟩ := hmrk; exact ⟨b, hle.mrk.trans h1, h2⟩) (fun x hx he => by
      have := hs.dr.marks_lt x hx _ he
      omega) hs2.dr, hs2.size, hs2.gl⟩
  -- the call
  obtain ⟨e1, e2⟩ := hC g _ _ _ (T.All.bind h)
  have hA : ArgsR G2 w2 [.yld s.h.length] [.func (.yield (w.heap.size + 1)) #[] #[]] :=
    ⟨.cons _ _ _ _ (.yld _ _ hrole) .nil, 0, fun i c v hc _ => by
      have : noOwn c := by
        cases i with
        | zero => simp only [List.getElem?_cons_zero, Option.some.injEq] at hc; subst hc; intro x xs; simp
        | succ i => simp at hc
      exact ⟨fun _ => this, fun _ => Own.of_ne this⟩⟩
  have hA2 := hA.wrap (hva.mono hle.gle) (hvb.mono hle.gle)
  have hcall := e2 (G2.hide false .out none) w2 _ hs3.st.hide (hide_clean _ _) (GlR.hide hg hs3.gl false none) hA2.hide
  have henter : (Instr.enterLoop fnid a.tmps psA asgC bodyC none).run P w = .ok (w.heap.size + 1, [{ target := .collected w.heap.size, args := #[] }]) w2 := by
    simp [Instr.enterLoop, newObj, Sem.run, w2, w1, L]
  have hargs' : ((⟨va⟩ : Array Value) ++ #[.func (.yield (w.heap.size + 1)) #[] #[]]) ++ (⟨vb⟩ : Array Value) = ⟨va ++ [.func (.yield (w.heap.size + 1)) #[] #[]] ++ vb⟩ := by
    apply Array.toList_inj.1
    simp
  refine ⟨w.heap.size + 1, _, w2, { target := .fn (.func g) ⟨vb⟩, args := ⟨va⟩ ++ #[.func (.yield (w.heap.size + 1)) #[] #[]] }, w2, g, _, w2, henter, ?_, fun _ _ => trivial, ?_, fun h => (by cases h), CallsIn.mono (callsIn_FW hcall) fun e w3 hr => ?_⟩
  · have hc : a.eval (.const (.func (.yield (w.heap.size + 1)) #[] #[])) = .func (.yield (w.heap.size + 1)) #[] #[] := rfl
    simp [resolve, rangeCall, hff, Deferred.ofValue, hc]
  · simp only [invoke]
    rw [hargs', e1]
  · cases e with
    | returned cv =>
      obtain ⟨u, h', G', q1, q2, q3, q4, q5⟩ := hr
      simp only at q1
      have hb := hs3.back q3 q2
      have hL := back_le hs3.st.lt q3
      generalize hGb : G2.back w2.heap.size false G' = Gb at hb hL
      split at q1 <;> first | (exact q1.elim) | skip
      rename_i st pend e0 ps0 asg0 body0 hblk
      have hrb : Gb.role (w.heap.size + 1) = .heap s.h.length := hL.gle.role _ _ hrole
      obtain ⟨L', hL', hbr⟩ := hb.st.loop hrb hblk
      have hlst := hbr.1
      have hpend := hbr.2.1
      have hkl : w.heap.size + 1 < w3.heap.size := hb.st.lt _ (by rw [hrb]; simp)
      have hnb : st ≠ .busy := by rintro rfl; exact q1
      have hend : (Instr.endLoop (w.heap.size + 1)).run P w3 = .ok L'.pending { w3 with heap := w3.heap.setIfInBounds (w.heap.size + 1) (.loop { L' with state := .exhausted }) } := by
        have hst : (L'.state == .busy) = false := by
          cases st <;> cases hq : L'.state <;> simp only [hq, LStR] at hlst <;> first | rfl | exact absurd rfl hnb
        simp only [Instr.endLoop, Sem.run_bind, run_getLoop hL', Result.andThen_ok, hst, Bool.false_eq_true, if_false]
        simp [run_setLoop hL']
      obtain ⟨g1, g2⟩ := hb.setBlk (w' := { w3 with heap := w3.heap.setIfInBounds (w.heap.size + 1) (.loop { L' with state := .exhausted }) }) (blk := .dead) (x := .loop { L' with state := .exhausted }) hrb hblk (by simp) (by simp) rfl rfl rfl
        (fun b hb => by simp [Array.getElem?_setIfInBounds_ne (Ne.symm hb)]) (by simp [hkl]) trivial
      have hleF := (hle.trans hL).trans g2
      generalize ({ w3 with heap := w3.heap.setIfInBounds (w.heap.size + 1) (.loop { L' with state := .exhausted }) } : World) = W4 at hend g1 g2 hleF
      refine ⟨L'.pending, W4, hend, ?_⟩
      cases pend with
      | none =>
        have hq : Q (.norm, { s with h := h'.set s.h.length .dead }) := by
          cases st <;> first | exact q1 | exact absurd rfl hnb
        cases hp : L'.pending with
        | none => exact ⟨_, Gb, hq, g1, hleF⟩
        | some c => rw [hp] at hpend; exact hpend.elim
      | ret =>
        have hq : Q (.ret, { s with h := h'.set s.h.length .dead }) := by
          cases st <;> first | exact q1 | exact absurd rfl hnb
        cases hp : L'.pending with
        | none => rw [hp] at hpend; exact hpend.elim
        | some c =>
          rw [hp] at hpend
          cases c <;> simp only [PendR] at hpend
          exact wpIn_ret ⟨_, Gb, hq, g1, hleF⟩
      | exit i =>
        have hq : Q (.exit i, { s with h := h'.set s.h.length .dead }) := by
          cases st <;> first | exact q1 | exact absurd rfl hnb
        cases hp : L'.pending with
        | none => rw [hp] at hpend; exact hpend.elim
        | some c =>
          rw [hp] at hpend
          cases c <;> simp only [PendR] at hpend
          subst hpend
          exact wpIn_exit ⟨_, Gb, hq, g1, hleF⟩
    | panicked chain =>
      obtain ⟨u, h', G', pv, q1, q2, q3, q4, q5⟩ := hr
      have hb := hs3.back q4 q3
      have hL := back_le hs3.st.lt q4
      obtain ⟨g1, _, _⟩ := back_gle q4
      refine ⟨u, pv, _, (G2.back w2.heap.size false G').dropL, q1, q2, (q5.mono (g1 rfl)).mono dropL_gle, ?_, (hle.trans hL).trans dropL_le⟩
      have hpan := SR.panicked (os := []) hs3 hL hb.st hb.dr hb.size hb.gl (fun t _ => rfl)
      exact hpan
    | outgrown => exact hr.elim
end Go.Lt
namespace Go.Lt
open Go
variable {P : Program} {CO : Nat → Code → AC → Prop} {C : Cfg} {N : Nat} {G G' : Gho} {w w' : World} {s s' : St} {a : Act} {v : AV}

theorem exec_sound {call : Call} (hC : CallOk P (COk P) C call) (hY : YldOk P (COk P) C call) (hg : GlPure C) (n : Nat) (ac : AC) : Sound P C call n ac := by
  induction ac with
  | skip => exact sound_leaf.1
  | ret => exact sound_leaf.2.1
  | exit id => exact sound_leaf.2.2.1 id
  | label l => exact sound_leaf.2.2.2.1 l
  | goto l => exact sound_leaf.2.2.2.2 l
  | seq x y hx hy => exact sound_seq hx hy
  | cond c x y hx hy => exact sound_cond hx hy
  | block id x hx => exact sound_block hx
  | loop x hx => exact sound_loop hx
  | reg d os k => exact sound_reg hC hY hg
  | rangeF f ps asg body keep _ _ => exact sound_range hC hg
  | scope x hx => exact sound_scope hx
  | gh g x hx => exact sound_gh hx

/-! ### a round -/
theorem foldl_zip_size : ∀ (ps : List Nat) (cs : List Value) (tmps : Array Value), ((ps.zip cs).foldl (fun tmps (x : Nat × Value) => tmps.setIfInBounds x.1 x.2) tmps).size = tmps.size
  | [], _, _ => rfl
  | _ :: _, [], _ => rfl
  | p :: ps, c :: cs, tmps => by
    simp only [List.zip_cons_cons, List.foldl_cons]
    rw [foldl_zip_size]; simp

/-- the parameters of a round: later ones win, in both -/
theorem setParams_rel {n : Nat} : ∀ {ps : List Nat} {as : List AV} {cs : List Value} {e e' : Env} {tmps : Array Value}, setParams ps as e = some e' → VRs G as cs → (∀ p ∈ ps, p < n) → tmps.size = n → EnvC G e tmps →
    EnvC G e' ((ps.zip cs).foldl (fun tmps (x : Nat × Value) => tmps.setIfInBounds x.1 x.2) tmps)
  | [], [], cs, e, e', tmps, h, hv, _, _, he => by
    simp only [setParams] at h
    cases h
    exact he
  | [], _ :: _, cs, e, e', tmps, h, hv, _, _, he => by simp [setParams] at h
  | _ :: _, [], cs, e, e', tmps, h, hv, _, _, he => by simp [setParams] at h
  | p :: ps, c :: as, cs, e, e', tmps, h, hv, hp, hsz, he => by
    cases hv with | cons _ cv _ cs hc hr =>
    simp only [setParams] at h
    split at h <;> first | (cases h; done) | skip
    rename_i hnot
    split at h <;> first | (cases h; done) | skip
    rename_i e1 h1
    cases h
    have hnd : p ∉ ps := by
      intro hmem
      have : ∀ l : List Nat, p ∈ l → hasNat l p = true := by
        intro l
        induction l with
        | nil => intro h; cases h
        | cons x l ih =>
          intro h
          simp only [hasNat, Bool.or_eq_true]
          rcases List.mem_cons.1 h with rfl | h
          · exact .inl (beq_iff.2 rfl)
          · exact .inr (ih h)
      rw [this ps hmem] at hnot
      cases hnot
    simp only [List.zip_cons_cons, List.foldl_cons]
    have hlt := hp p (by simp)
    have ih := setParams_rel (n := n) (tmps := tmps) h1 hr (fun q hq => hp q (by simp [hq])) hsz he
    -- the parameter's own place is not touched by the others
    have hcomm : ∀ (qs : List Nat) (ds : List Value) (tm : Array Value), p ∉ qs → ((qs.zip ds).foldl (fun tmps (x : Nat × Value) => tmps.setIfInBounds x.1 x.2) (tm.setIfInBounds p cv)) = ((qs.zip ds).foldl (fun tmps (x : Nat × Value) => tmps.setIfInBounds x.1 x.2) tm).setIfInBounds p cv := by
      intro qs
      induction qs with
      | nil => intro ds tm _; rfl
      | cons q qs ihq =>
        intro ds tm hn
        cases ds with
        | nil => rfl
        | cons d ds =>
          simp only [List.zip_cons_cons, List.foldl_cons]
          have hpq : p ≠ q := fun h => hn (by simp [h])
          rw [Array.setIfInBounds_comm _ _ hpq]
          exact ihq ds _ (fun h => hn (by simp [h]))
    rw [hcomm ps cs tmps hnd]
    intro t ht
    rw [Env.get_cons] at ht ⊢
    rw [tmps_set (by rw [foldl_zip_size, hsz]; exact hlt)]
    split at ht
    · rename_i he; subst he
      simp only [if_true]
      exact ⟨hc.clr, noOwn_clr _⟩
    · rename_i he
      simp only [he, if_false]
      exact ih t ht
end Go.Lt
namespace Go.Lt
open Go
variable {P : Program} {CO : Nat → Code → AC → Prop} {C : Cfg} {N : Nat} {G G' : Gho} {w w' : World} {s s' : St} {a : Act} {v : AV}

/-- a frame at its start -/
theorem SR.start {h : List Blk} {e : Env} {tmps : Array Value} (hst : StRel CO G h w) (hcl : Clean G) (hgl : GlR C G) (he : ∀ t, e.get t ≠ .undef → VT G (e.get t) (tmps.getD t undef) ∧ Own G w (.tmp t) (e.get t) (tmps.getD t undef)) :
    SR CO C tmps.size G w ⟨e, [], h, []⟩ { tmps := tmps, defers := [] } := by
  have hnl : ∀ b i, G.role b ≠ .loc i := by
    intro b i hb
    rcases hcl b with h | ⟨_, h⟩ | ⟨_, _, h⟩ | h <;> rw [h] at hb <;> cases hb
  exact ⟨hst, he, ⟨fun i cs h => by simp [Loc.get] at h, fun b b' i h => absurd h (hnl b i), fun b i h => absurd h (hnl b i)⟩, .nil, rfl, hgl⟩

/-- a loop's record changed in its state -/
theorem SR.setLoop (hs : SR CO C N G w s a) {k i : Nat} (hr : G.role k = .heap i) {st st' : LSt} {pend pend' : Pend} {e : Env} {ps : List Nat} {asg body : AC} (hb : s.h[i]? = some (.loop st pend e ps asg body)) {L L' : Loop} (hL : w.heap[k]? = some (.loop L))
    (hbr : BR CO G w i (.loop st pend e ps asg body) (.loop L)) (h1 : LStR st' L'.state) (h2 : PendR pend' L'.pending) (h3 : L'.params = L.params) (h4 : L'.tmps = L.tmps) (h5 : L'.assign = L.assign) (h6 : L'.body = L.body) :
    SR CO C N G { w with heap := w.heap.setIfInBounds k (.loop L') } { s with h := s.h.set i (.loop st' pend' e ps asg body) } a ∧ Le G w G { w with heap := w.heap.setIfInBounds k (.loop L') } := by
  have hk : k < w.heap.size := hs.st.lt k (by rw [hr]; simp)
  refine hs.setBlk (w' := { w with heap := w.heap.setIfInBounds k (.loop L') }) (blk := .loop st' pend' e ps asg body) (x := .loop L') hr hb (by simp) (by simp) rfl rfl rfl (fun b hb => by simp [Array.getElem?_setIfInBounds_ne (Ne.symm hb)]) (by simp [hk]) ?_
  simp only [BR] at hbr ⊢
  rw [h3, h4, h5, h6]
  exact ⟨h1, h2, hbr.2.2.1, hbr.2.2.2.1, hbr.2.2.2.2.1, hbr.2.2.2.2.2⟩

theorem round_sound {n : Nat} (hC : CallOk P (COk P) C (acall C n)) (hY : YldOk P (COk P) C (acall C n)) (hg : GlPure C) : YldOk P (COk P) C (fun c as h => match c with
    | .yld b => acall C (n + 1) (.yld b) as h
    | .fn _ => .fail) := by
  intro b as h Q hq G w cs k hst hcl hgl hA hrole
  simp only [acall] at hq
  split at hq <;> first | (exact hq.elim) | skip
  rename_i pend e ps asg body hb
  split at hq <;> first | (exact hq.elim) | skip
  rename_i e' he'
  obtain ⟨L, hL, hbr⟩ := hst.loop hrole hb
  have hbr' := hbr
  simp only [BR] at hbr'
  obtain ⟨b1, b2, b3, b4, b5, b6, b7⟩ := hbr'
  have hlen : cs.length = L.params.size := by
    rw [← hA.vr.length, b3]
    have : ∀ {ps : List Nat} {as : List AV} {e e' : Env}, setParams ps as e = some e' → as.length = ps.length := by
      intro ps
      induction ps with
      | nil => intro as e e' h; cases as <;> simp [setParams] at h ⊢
      | cons p ps ih =>
        intro as e e' h
        cases as with
        | nil => simp [setParams] at h
        | cons c as =>
          simp only [setParams] at h
          split at h <;> first | (cases h; done) | skip
          split at h <;> first | (cases h; done) | skip
          rename_i e1 h1
          simp [ih h1]
    simpa using this he'
  refine ⟨L, hL, hlen, roundIn_of_wpIn trivial ?_⟩
  have hfold : ((L.params.zip ⟨cs⟩).foldl (fun tmps (t, a) => tmps.setIfInBounds t a) L.tmps) = (ps.zip cs).foldl (fun tmps (x : Nat × Value) => tmps.setIfInBounds x.1 x.2) L.tmps := by
    rw [b3]
    rw [← Array.foldl_toList]
    simp
  rw [hfold]
  have henv := setParams_rel (n := L.tmps.size) he' hA.vr b7 rfl b6
  generalize htm : (ps.zip cs).foldl (fun tmps (x : Nat × Value) => tmps.setIfInBounds x.1 x.2) L.tmps = tm at henv
  have hsz : tm.size = L.tmps.size := by rw [← htm]; exact foldl_zip_size _ _ _
  have hs0 : SR (COk P) C tm.size G w ⟨e', [], h, []⟩ { tmps := tm, defers := [] } := SR.start hst hcl hgl fun t ht => ⟨VT.of (henv t ht).1, Own.of_ne (henv t ht).2⟩
  have hE := exec_sound hC hY hg n
  have h1 := (hE asg L.assign (some k) true tm.size _ G w _ _ (fun _ => rfl) (fun h => by cases h) (by rw [hsz]; exact b4) hs0).1 (T.All.bind hq)
  refine wpIn_mono h1 fun ex a1 w1 hx => ?_
  cases ex with
  | exit _ => obtain ⟨s', G', q1, _⟩ := hx; exact q1.elim
  | goto _ => obtain ⟨s', G', q1, _⟩ := hx; exact q1.elim
  | ret => obtain ⟨s', G', q1, _⟩ := hx; exact q1.elim
  | panic _ => obtain ⟨v, pv, s', G', q1, _⟩ := hx; exact q1.elim
  | outgrown => exact hx.elim
  | normal =>
    obtain ⟨s1, G1, q1, hs1, hle1⟩ := hx
    simp only at q1
    split at q1 <;> first | (exact q1.elim) | skip
    rename_i p1 e1 ps1 asg1 body1 hb1
    have hr1 := hle1.gle.role k b hrole
    obtain ⟨L1, hL1, hbr1⟩ := hs1.st.loop hr1 hb1
    have hst1 : L1.state = .ready := by
      have := hbr1.1
      cases hq : L1.state <;> simp only [hq, LStR] at this <;> rfl
    have hbegin : (Instr.beginRound k).run P w1 = .ok () { w1 with heap := w1.heap.setIfInBounds k (.loop { L1 with state := .busy }) } := by
      simp only [Instr.beginRound, Sem.run_bind, run_getLoop hL1, Result.andThen_ok, run_setLoop hL1, hst1]
      rfl
    refine ⟨_, hbegin, ?_⟩
    obtain ⟨hs2, hle2⟩ := hs1.setLoop hr1 hb1 hL1 hbr1 (st' := .busy) (pend' := p1) (L' := { L1 with state := .busy }) trivial hbr1.2.1 rfl rfl rfl rfl
    generalize ({ w1 with heap := w1.heap.setIfInBounds k (.loop { L1 with state := .busy }) } : World) = w2 at hs2 hle2
    have h2 := (hE body L.body (some k) true tm.size _ G1 w2 _ _ (fun _ => rfl) (fun h => by cases h) (by rw [hsz]; exact b5) hs2).1 (T.All.bind q1)
    have hle12 := hle1.trans hle2
    refine wpIn_mono h2 fun ex a3 w3 hx => ?_
    -- the record behind the body
    have fin : ∀ (s3 : St) (G3 : Gho) (st' : LSt) (pend' : Pend) (jump : Option Code), SR (COk P) C tm.size G3 w3 s3 a3 → Le G1 w2 G3 w3 → LStR st' (if jump.isNone then .ready else .done) → PendR pend' jump →
        (∀ e ps asg body p0, s3.h[b]? = some (.loop .busy p0 e ps asg body) → Q (.ret (.bool jump.isNone), s3.h.set b (.loop st' pend' e ps asg body))) → (∃ p0 e ps asg body, s3.h[b]? = some (.loop .busy p0 e ps asg body)) →
        ∃ v w', (Instr.endRound k jump).run P w3 = .ok v w' ∧ OutR (COk P) G w Q (.returned v) w' := by
      intro s3 G3 st' pend' jump hs3 hle3 hl hp hQ ⟨p0, e3, ps3, asg3, body3, hb3⟩
      have hr3 := hle3.gle.role k b hr1
      obtain ⟨L3, hL3, hbr3⟩ := hs3.st.loop hr3 hb3
      obtain ⟨hs4, hle4⟩ := hs3.setLoop hr3 hb3 hL3 hbr3 (st' := st') (pend' := pend') (L' := { L3 with state := if jump.isNone then .ready else .done, pending := jump }) hl hp rfl rfl rfl rfl
      refine ⟨.bool jump.isNone, _, ?_, .bool jump.isNone, _, G3, hQ e3 ps3 asg3 body3 p0 hb3, hs4.st, (hle12.trans hle3).trans hle4, .bool _, Own.of_ne (by simp)⟩
      simp [Instr.endRound, run_getLoop hL3, run_setLoop hL3]
    cases ex with
    | normal =>
      obtain ⟨s3, G3, q3, hs3, hle3⟩ := hx
      simp only at q3
      split at q3 <;> first | (exact q3.elim) | skip
      rename_i p0 e3 ps3 asg3 body3 hb3
      refine fin s3 G3 .ready .none none hs3 hle3 trivial trivial (fun e ps asg body p0' h => ?_) ⟨p0, e3, ps3, asg3, body3, hb3⟩
      rw [hb3] at h
      cases h
      exact q3
    | ret =>
      obtain ⟨s3, G3, q3, hs3, hle3⟩ := hx
      simp only at q3
      split at q3 <;> first | (exact q3.elim) | skip
      rename_i p0 e3 ps3 asg3 body3 hb3
      refine fin s3 G3 .done .ret (some .ret) hs3 hle3 trivial trivial (fun e ps asg body p0' h => ?_) ⟨p0, e3, ps3, asg3, body3, hb3⟩
      rw [hb3] at h
      cases h
      exact q3
    | exit id =>
      obtain ⟨s3, G3, q3, hs3, hle3⟩ := hx
      simp only at q3
      split at q3 <;> first | (exact q3.elim) | skip
      rename_i p0 e3 ps3 asg3 body3 hb3
      refine fin s3 G3 .done (.exit id) (some (.exit id)) hs3 hle3 trivial rfl (fun e ps asg body p0' h => ?_) ⟨p0, e3, ps3, asg3, body3, hb3⟩
      rw [hb3] at h
      cases h
      exact q3
    | goto _ =>
      obtain ⟨s3, G3, q3, _⟩ := hx
      simp only at q3
      split at q3 <;> exact q3.elim
    | panic _ =>
      obtain ⟨v, pv, s3, G3, q3, _⟩ := hx
      simp only at q3
      split at q3 <;> exact q3.elim
    | outgrown => exact hx.elim
end Go.Lt
namespace Go.Lt
open Go
variable {P : Program} {CO : Nat → Code → AC → Prop} {C : Cfg} {N : Nat} {G G' : Gho} {w w' : World} {s s' : St} {a : Act} {v : AV}

def resOk1 (P : Program) (N : Nat) : ResultVar → ARes → Bool
  | .tmp t, .tmp u => Nat.beq t u && Nat.blt t N
  | .tmp t, .own u => Nat.beq t u && Nat.blt t N
  | .cell x t, .cell u sh => Nat.beq x u && Nat.blt x N && shOk P t sh
  | _, _ => false
def resOk (P : Program) (N : Nat) : List ResultVar → List ARes → Bool
  | [], [] => true
  | r :: rs, q :: qs => resOk1 P N r q && resOk P N rs qs
  | _, _ => false

/-- one result -/
def res1 (tmps : Array Value) : ResultVar → Sem Value
  | .tmp t => pure (tmps.getD t undef)
  | .cell x t => do loadVar t (← asAddr (tmps.getD x undef))

theorem read1 (hs : SR CO C N G w s a) {r : ResultVar} {q : ARes} (h : resOk1 P N r q = true) {vs : List AV} {rest : List ARes} (hr : readRes s (q :: rest) = some vs) :
    ∃ u us cv, vs = u :: us ∧ readRes s rest = some us ∧ (res1 a.tmps r).run P w = .ok cv w ∧ VR G u cv ∧ (noOwn u ∨ ∃ t, q = .own t ∧ u = s.e.get t ∧ Own G w (.tmp t) u cv) := by
  cases q with
  | tmp t =>
    cases r <;> simp only [resOk1, Bool.false_eq_true, Bool.and_eq_true] at h
    have := beq_iff.1 h.1
    subst this
    simp only [readRes] at hr
    split at hr <;> first | (cases hr; done) | skip
    rename_i us hok hus
    cases hr
    have hv := (hs.env _ (by intro h'; rw [h'] at hok; cases hok)).1.vr (by intro i o h'; rw [h'] at hok; cases hok)
    exact ⟨_, us, _, rfl, hus, rfl, hv.nrm, .inl (noOwn_nrm _)⟩
  | own t =>
    cases r <;> simp only [resOk1, Bool.false_eq_true, Bool.and_eq_true] at h
    have := beq_iff.1 h.1
    subst this
    simp only [readRes] at hr
    split at hr <;> first | (cases hr; done) | skip
    rename_i us hok hus
    cases hr
    have he := hs.env _ (show s.e.get _ ≠ .undef by intro h'; rw [h'] at hok; cases hok)
    have hv := he.1.vr (by intro i o h'; rw [h'] at hok; cases hok)
    exact ⟨_, us, _, rfl, hus, rfl, hv, .inr ⟨_, rfl, rfl, he.2⟩⟩
  | cell t sh =>
    cases r <;> simp only [resOk1, Bool.false_eq_true, Bool.and_eq_true] at h
    obtain ⟨⟨h1, h2⟩, h3⟩ := h
    have := beq_iff.1 h1
    subst this
    simp only [readRes] at hr
    split at hr <;> first | (cases hr; done) | skip
    rename_i u us hu hus
    cases hr
    split at hu <;> first | (cases hu; done) | skip
    · rename_i i off he
      split at hu <;> first | (cases hu; done) | skip
      rename_i cs hcs
      have hp := (hs.env _ (by rw [he]; simp)).1
      rw [he] at hp
      obtain ⟨k, hk1, hk2⟩ := hp
      obtain ⟨k', arr, e, j1, j2, j3⟩ := hs.loc.get i cs hcs
      have := hs.loc.uniq k k' i hk1 j1
      subst this
      obtain ⟨cv, m1, m2, _⟩ := load_at (P := P) (w := w) (G := G) (b := k) (off := off) h3 hu (fun _ _ hc => j3.at j2 hc)
      refine ⟨_, us, cv, rfl, hus, ?_, ?_, .inl (noOwn_nrm _)⟩
      · simp [res1, hk2, asAddr, m1]
      · have hh : u.clr.nrm = u.nrm := by
          unfold AV.clr
          split <;> rfl
        rw [← hh]; exact m2.nrm
    · rename_i i off he
      split at hu <;> first | (cases hu; done) | skip
      rename_i cs hcs
      have hp := (hs.env _ (by rw [he]; simp)).1.vr (by rw [he]; simp)
      rw [he] at hp
      generalize hxx : a.tmps.getD _ undef = xv at hp
      cases hp with | hptr _ _ k hrole =>
      obtain ⟨arr, e, j2, j3⟩ := hs.st.cells hrole hcs
      obtain ⟨cv, m1, m2, _⟩ := load_at (P := P) (w := w) (G := G) (b := k) (off := off) h3 hu (fun _ _ hc => j3.at j2 hc)
      refine ⟨_, us, cv, rfl, hus, ?_, ?_, .inl (noOwn_nrm _)⟩
      · simp [res1, hxx, asAddr, m1]
      · have hh : u.clr.nrm = u.nrm := by
          unfold AV.clr
          split <;> rfl
        rw [← hh]; exact m2.nrm
theorem reads (hs : SR CO C N G w s a) : ∀ {rs : List ResultVar} {qs : List ARes} {vs : List AV}, resOk P N rs qs = true → readRes s qs = some vs →
    ∃ cvs, (rs.mapM (res1 a.tmps)).run P w = .ok cvs w ∧ VRs G vs cvs ∧ vs.length = rs.length
  | [], [], vs, _, h => by
    simp only [readRes] at h
    cases h
    exact ⟨[], rfl, .nil, rfl⟩
  | [], _ :: _, _, h, _ => by simp [resOk] at h
  | _ :: _, [], _, h, _ => by simp [resOk] at h
  | r :: rs, q :: qs, vs, h, hr => by
    simp only [resOk, Bool.and_eq_true] at h
    obtain ⟨u, us, cv, rfl, h1, h2, h3, _⟩ := read1 (P := P) hs h.1 hr
    obtain ⟨cvs, k1, k2, k3⟩ := reads hs h.2 h1
    exact ⟨cv :: cvs, by simp [List.mapM_cons, h2, k1], .cons _ _ _ _ h3 k2, by simp [k3]⟩

theorem results_eq (fn : Func) (tmps : Array Value) : Go.results fn tmps = (do
    let vs ← fn.results.mapM (res1 tmps)
    pure (if h : vs.size = 1 then vs[0] else .tuple vs)) := by
  unfold Go.results
  congr 2

theorem results_sound (hs : SR CO C N G w s a) {fn : Func} {qs : List ARes} {u : AV} (h : resOk P N fn.results.toList qs = true) (hr : Lt.results s qs = some u) :
    ∃ cv G', (Go.results fn a.tmps).run P w = .ok cv w ∧ StRel CO G' s.h w ∧ Le G w G' w ∧ VR G' u cv ∧ Own G' w .out u cv := by
  have hrun : ∀ cvs : List Value, (fn.results.toList.mapM (res1 a.tmps)).run P w = .ok cvs w → (Go.results fn a.tmps).run P w = .ok (if h : cvs.length = 1 then cvs[0] else .tuple ⟨cvs⟩) w := by
    intro cvs hc
    rw [results_eq, Array.mapM_eq_mapM_toList]
    simp [hc]
  unfold Lt.results at hr
  split at hr <;> first | (cases hr; done) | skip
  · rename_i v hv
    cases hr
    cases hq : fn.results.toList with
    | nil =>
      rw [hq] at h
      cases qs with
      | nil => simp [readRes] at hv
      | cons _ _ => simp [resOk] at h
    | cons r rs =>
      rw [hq] at h
      cases qs with
      | nil => simp [resOk] at h
      | cons q qs =>
        simp only [resOk, Bool.and_eq_true] at h
        obtain ⟨u', us, cv, he, h1, h2, h3, h4⟩ := read1 (P := P) hs h.1 hv
        injection he with he1 he2
        subst he1
        subst he2
        obtain ⟨cvs, k1, k2, k3⟩ := reads (P := P) hs h.2 h1
        have hcvs : cvs = [] := by cases k2; rfl
        subst hcvs
        have := hrun [cv] (by rw [hq]; simp [List.mapM_cons, h2, k1])
        simp only [List.length_singleton, dite_true, List.getElem_cons_zero] at this
        rcases h4 with h4 | ⟨t, _, hut, ho⟩
        · exact ⟨cv, G, this, hs.st, .refl _ _, h3, Own.of_ne h4⟩
        · refine ⟨cv, G.mv (.tmp t) .out, this, hs.st.mv (by simp), Gho.mv_le _ _, h3.mono (Gho.mv_gle _ _), ho.mv⟩
  · rename_i l hl hv
    cases hr
    obtain ⟨cvs, k1, k2, k3⟩ := reads (P := P) hs h hv
    have hlen := k2.length
    have hne : ¬ cvs.length = 1 := by
      intro h1
      rw [h1] at hlen
      obtain ⟨x, rfl⟩ := List.length_eq_one_iff.1 hlen
      exact hl x rfl
    have := hrun cvs k1
    rw [dif_neg hne] at this
    exact ⟨_, G, this, hs.st, .refl _ _, .tup _ _ (k2.map _ fun _ _ => VR.nrm), Own.of_ne (by simp)⟩
end Go.Lt
namespace Go.Lt
open Go
variable {P : Program} {CO : Nat → Code → AC → Prop} {C : Cfg} {N : Nat} {G G' : Gho} {w w' : World} {s s' : St} {a : Act} {v : AV}

/-- the contracts of functions that are called as deferred ones -/
def DefOk (P : Program) (CO : Nat → Code → AC → Prop) (C : Cfg) (call : Call) : Prop :=
  ∀ (f : Nat) (as : List AV) (h : List Blk) (Q : AOut × List Blk → Prop), C.dok f = true → (call (.fn f) as h).All Q →
    (∀ (args : Array Value) (w : World), (callFunc f args).run P w = .ok (.enter f args) w) ∧
    ∀ (G : Gho) (w : World) (cs : List Value) (u : FrameMode), StRel CO G h w → Clean G → GlR C G → ArgsR G w as cs → CallsDIn Fence.wide 0 P f ⟨cs⟩ u w fun e u' w' => u' = u ∧ OutR CO G w Q e w'
/-- .. and of the one that recovers -/
def CatchOk (P : Program) (CO : Nat → Code → AC → Prop) (C : Cfg) : Prop :=
  ∀ (f np : Nat) (φ : List AV → AV → List Blk → Option (List Blk)), C.catch_ f = some (np, φ) →
    (∀ (args : Array Value) (w : World), (callFunc f args).run P w = .ok (.enter f args) w) ∧
    ∀ (G : Gho) (w : World) (as : List AV) (cs : List Value) (h : List Blk), as.length = np → StRel CO G h w → Clean G → GlR C G → ArgsR G w as cs →
      (∀ (v : AV) (pv : Value) (h' : List Blk), φ as v h = some h' → VR G v pv → CallsDIn Fence.wide 0 P f ⟨cs⟩ (.panicking [{ v := pv, recovered := false }]) w fun e u' w' => (∃ r, e = .returned r) ∧ settle u' = .returning ∧ ∃ G', StRel CO G' h' w' ∧ Le G w G' w') ∧
      CallsDIn Fence.wide 0 P f ⟨cs⟩ .returning w fun e u' w' => (∃ r, e = .returned r) ∧ settle u' = .returning ∧ ∃ G', StRel CO G' h w' ∧ Le G w G' w'

/-- the mode of a frame that leaves -/
def ModeR (G : Gho) : Option AV → FrameMode → Prop
  | none, u => u = .returning
  | some v, u => ∃ pv, u = .panicking [{ v := pv, recovered := false }] ∧ VR G v pv
theorem run_takeDeferred {r : Nat} (h : w.heap[r]? = some (.deferred (some []))) : (Instr.takeDeferred r).run P w = .ok [] { w with heap := w.heap.setIfInBounds r (.deferred none) } := by
  simp only [Instr.takeDeferred, Sem.run_bind, getObj, Sem.run, h, Result.andThen_ok, setObj]
  rfl

/-- a block that is nothing to the abstract machine is something else -/
theorem SR.setNone (hs : SR CO C N G w s a) {r : Nat} {x : Obj} (hr : G.role r = .none) (hc : ∀ o, G.con r o = none) (ho : G.obj r = none) (hlt : r < w.heap.size) (hd : DR G { w with heap := w.heap.setIfInBounds r x } s.d a.defers) :
    SR CO C N G { w with heap := w.heap.setIfInBounds r x } s a := by
  have hw : ∀ b, b ≠ r → (w.heap.setIfInBounds r x)[b]? = w.heap[b]? := fun b hb => by simp [Array.getElem?_setIfInBounds_ne (Ne.symm hb)]
  have hK : Keep (fun b => b = r) G w G { w with heap := w.heap.setIfInBounds r x } := ⟨.refl G, fun b _ h => hw b h, fun _ _ _ _ => rfl, fun _ _ _ => rfl⟩
  have hl := hs.st.lt
  have htl : ∀ p b, G.role b = .tail p → ¬ b = r := fun p b h e => by subst e; rw [hr] at h; cases h
  refine ⟨⟨fun b o v h => ?_, fun b y h => ?_, fun b hb => by simpa using hl b hb, hs.st.sep, fun b i hi => ?_, hs.st.uniq⟩, hs.env.keep hK hl (fun _ => htl _) (fun _ _ h => h), ⟨fun i cs h => ?_, hs.loc.uniq, hs.loc.some⟩, hd, hs.size, hs.gl⟩
  · have hb : b ≠ r := by rintro rfl; rw [hc] at h; cases h
    rw [cell_same (w := w) (hw b hb)]; exact hs.st.con b o v h
  · have hb : b ≠ r := by rintro rfl; rw [ho] at h; cases h
    rw [show ({ w with heap := w.heap.setIfInBounds r x } : World).heap[b]? = w.heap[b]? from hw b hb]; exact hs.st.obj b y h
  · obtain ⟨blk, o, k1, k2, k3⟩ := hs.st.heap b i hi
    have hb : b ≠ r := by rintro rfl; rw [hr] at hi; cases hi
    exact ⟨blk, o, k1, (hw b hb).trans k2, k3.keep hK hl fun _ => htl _⟩
  · obtain ⟨k', arr', e', h1, h2, h3⟩ := hs.loc.get i cs h
    have hb : k' ≠ r := by rintro rfl; rw [hr] at h1; cases h1
    exact ⟨k', arr', e', h1, (hw k' hb).trans h2, h3.keep hK hl fun _ => htl _⟩
theorem SR.defers (hs : SR CO C N G w s a) {d : List (AV × List AV)} {ds : List Deferred} (h : DR G w d ds) : SR CO C N G w { s with d := d } { a with defers := ds } :=
  ⟨hs.st, hs.env, hs.loc, h, hs.size, hs.gl⟩

/-- a mark taken -/
theorem SR.takeMark (hs : SR CO C N G w s a) {r : Nat} {ds : List Deferred} (ha : a.defers = { target := .collected r, args := #[] } :: ds) :
    (Instr.takeDeferred r).run P w = .ok [] { w with heap := w.heap.setIfInBounds r (.deferred none) } ∧ SR CO C N G { w with heap := w.heap.setIfInBounds r (.deferred none) } s { a with defers := ds } := by
  have hd := hs.dr
  rw [ha] at hd
  generalize hdd : s.d = d at hd
  cases hd with | mark _ _ _ hr hn hm hf h =>
  have hlt : r < w.heap.size := (Array.getElem?_eq_some_iff.1 hr).1
  refine ⟨run_takeDeferred hr, ?_⟩
  have hs' : SR CO C N G w s { a with defers := ds } := by
    have := hs.defers h
    rw [← hdd] at this
    exact this
  refine hs'.setNone hn (fun o => ?_) ?_ hlt ?_
  · cases hc : G.con r o with
    | none => rfl
    | some v =>
      have := hs.st.con r o v hc
      simp [World.cell?, hr] at this
  · cases ho : G.obj r with
    | none => rfl
    | some x =>
      have := hs.st.obj r x ho
      rw [hr] at this
      cases this
  · have : ∀ {d : List (AV × List AV)} {ds : List Deferred}, DR G w d ds → (∀ x ∈ ds, x.target ≠ .collected r) → DR G { w with heap := w.heap.setIfInBounds r (.deferred none) } d ds := by
      intro d ds h
      induction h with
      | nil => intro _; exact .nil
      | mark r' d ds hr' hn' hm' hf' _ ih =>
        intro hx
        have hne : r' ≠ r := fun e => hx { target := .collected r', args := #[] } (by simp) (by rw [e])
        refine .mark r' d ds ?_ hn' hm' hf' (ih fun x hx' => hx x (by simp [hx']))
        simpa [Array.getElem?_setIfInBounds_ne (Ne.symm hne)] using hr'
      | call f a b as va vb vs d ds ha hb hs _ ih =>
        intro hx
        exact .call f a b as va vb vs d ds ha hb hs (ih fun x hx' => hx x (by simp [hx']))
    rw [hdd]
    exact this h hf
end Go.Lt
namespace Go.Lt
open Go
variable {P : Program} {CO : Nat → Code → AC → Prop} {C : Cfg} {N : Nat} {G G' : Gho} {w w' : World} {s s' : St} {a : Act} {v : AV}

theorem ModeR.run {m : Option AV} {u : FrameMode} (h : ModeR G m u) : u ≠ .run := by
  cases m with
  | none => rw [show u = .returning from h]; simp
  | some v => obtain ⟨pv, rfl, _⟩ := h; simp
theorem ModeR.mono (hle : GLe G G') {m : Option AV} {u : FrameMode} (h : ModeR G m u) : ModeR G' m u := by
  cases m with
  | none => exact h
  | some v => obtain ⟨pv, h1, h2⟩ := h; exact ⟨pv, h1, h2.mono hle⟩
theorem ModeR.settle {m : Option AV} {u : FrameMode} (h : ModeR G m u) : settle u = u := by
  cases m with
  | none => rw [show u = .returning from h]; rfl
  | some v => obtain ⟨pv, rfl, _⟩ := h; rfl
theorem callsDIn_wide {n m : Nat} {f : FuncId} {args : Array Value} {u : FrameMode} {R : Ending → FrameMode → World → Prop} (h : CallsDIn Fence.wide m P f args u w R) : CallsDIn Fence.wide n P f args u w R :=
  ⟨trivial, fun c cs hu _ => h.2 c cs hu (room_wide _)⟩

theorem leave_sound {call : Call} (hD : DefOk P CO C call) (hX : CatchOk P CO C) (hg : GlPure C) {fn : Func} {n : Nat} {Q : Option AV × List Blk → Prop} {R : Ending → World → Prop} {G0 : Gho} {w0 : World} {e : Env} {l : Loc} {tmps : Array Value}
    (hb0 : G0.mrk = some w0.heap.size)
    (hfin : ∀ (m : Option AV) (u : FrameMode) (h : List Blk) (G : Gho) (w : World), Q (m, h) → ModeR G m u → SR CO C N G w ⟨e, l, h, []⟩ { tmps := tmps, defers := [] } → Le G0 w0 G w → LeavesInM Fence.wide n P fn tmps R [] u w) :
    ∀ (ds : List Deferred) (d : List (AV × List AV)) (m : Option AV) (u : FrameMode) (h : List Blk) (G : Gho) (w : World), SR CO C N G w ⟨e, l, h, d⟩ { tmps := tmps, defers := ds } → Le G0 w0 G w → ModeR G m u → (leave C call d m h).All Q → LeavesInM Fence.wide n P fn tmps R ds u w := by
  intro ds
  induction ds with
  | nil =>
    intro d m u h G w hs hle hm hq
    have hd := hs.dr
    simp only at hd
    cases hd
    exact hfin m u h G w hq hm hs hle
  | cons x ds ih =>
    intro d m u h G w hs hle hm hq
    have hd := hs.dr
    simp only at hd
    refine ⟨hm.run, ?_⟩
    cases hd with
    | mark r _ _ hr hn hmk hf hrest =>
      left
      obtain ⟨k1, k2⟩ := hs.takeMark (P := P) rfl
      refine ⟨r, _, rfl, k1, ih d m u h G _ k2 ?_ hm hq⟩
      obtain ⟨b, hb1, hb2⟩ := hmk
      rw [hle.mrk, hb0] at hb1
      cases hb1
      exact ⟨hle.gle, by simpa using hle.size, hle.os, hle.out, hle.tape, fun k hk hr => by
        obtain ⟨h1, h2⟩ := hle.same k hk hr
        refine ⟨?_, h2⟩
        rw [← h1]
        exact Array.getElem?_setIfInBounds_ne (by omega), hle.cons, hle.mrk, hle.objs⟩
    | call f a b as va vb vs d _ ha hb hs' hrest =>
      right
      refine ⟨fun h => (by cases h), .func f, ⟨vb⟩, f, (⟨va⟩ ++ ⟨vs⟩) ++ ⟨vb⟩, rfl, ?_⟩
      have hs2 := hs.defers hrest
      simp only [leave, callee] at hq
      have hA : ArgsR (G.hide false .out none) w (a.map AV.nrm ++ as.map AV.nrm ++ b.map AV.nrm) (va ++ vs ++ vb) := by
        refine ⟨(((ha.map _ fun _ _ => VR.nrm).append (hs'.map _ fun _ _ => VR.nrm)).append (hb.map _ fun _ _ => VR.nrm)).mono (hide_gle none), 0, fun i c v hc _ => ?_⟩
        have hno : noOwn c := by
          have := List.mem_of_getElem? hc
          simp only [List.mem_append, List.mem_map] at this
          rcases this with (⟨x, _, rfl⟩ | ⟨x, _, rfl⟩) | ⟨x, _, rfl⟩ <;> exact noOwn_nrm x
        exact ⟨fun _ => hno, fun _ => Own.of_ne hno⟩
      have hargs : ((⟨va⟩ : Array Value) ++ ⟨vs⟩) ++ ⟨vb⟩ = ⟨va ++ vs ++ vb⟩ := by
        apply Array.toList_inj.1
        simp
      have hst := hs.st.hide (p := .out) (mrk := none)
      have hgl := GlR.hide hg hs.gl false none
      have fin : ∀ (h' : List Blk) (G' : Gho) (w' : World) (m' : Option AV) (u' : FrameMode), StRel CO G' h' w' → Le (G.hide false .out none) w G' w' → (GLe G (G.back w.heap.size false G') → ModeR (G.back w.heap.size false G') m' u') → (leave C call d m' h').All Q → LeavesInM Fence.wide n P fn tmps R ds u' w' := by
        intro h' G' w' m' u' k1 k2 k3 k4
        have hL := back_le hs.st.lt k2
        exact ih d m' u' h' _ w' (hs2.back k2 k1) (hle.trans hL) (k3 hL.gle) k4
      split at hq
      · rename_i np φ hφ
        split at hq <;> first | (exact hq.elim) | skip
        rename_i hnp
        obtain ⟨e1, e2⟩ := hX f np φ hφ
        obtain ⟨c1, c2⟩ := e2 _ w _ _ _ (beq_iff.1 hnp) hst (hide_clean _ _) hgl hA
        refine ⟨by simp only [invoke]; exact e1 _ _, fun _ _ => trivial, ?_⟩
        rw [hargs]
        split at hq
        · rename_i v
          split at hq <;> first | (exact hq.elim) | skip
          rename_i h' hh'
          obtain ⟨pv, rfl, hpv⟩ := hm
          refine callsDIn_wide (CallsDIn.mono (c1 v pv h' hh' (hpv.mono (hide_gle none))) fun e u' w' hr => ?_)
          obtain ⟨⟨r, rfl⟩, hu', G', k1, k2⟩ := hr
          exact fin h' G' w' none _ k1 k2 (fun _ => hu') hq
        · rw [show u = .returning from hm]
          refine callsDIn_wide (CallsDIn.mono c2 fun e u' w' hr => ?_)
          obtain ⟨⟨r, rfl⟩, hu', G', k1, k2⟩ := hr
          exact fin h G' w' none _ k1 k2 (fun _ => hu') hq
      · split at hq <;> first | (exact hq.elim) | skip
        rename_i hdk
        simp only [Bool.and_eq_true] at hdk
        obtain ⟨e1, e2⟩ := hD f _ _ _ hdk.1 (T.All.bind hq)
        refine ⟨by simp only [invoke]; exact e1 _ _, fun _ _ => trivial, ?_⟩
        rw [hargs]
        refine callsDIn_wide (CallsDIn.mono (e2 _ w _ u hst (hide_clean _ _) hgl hA) fun e u' w' hr => ?_)
        obtain ⟨rfl, hr⟩ := hr
        cases e with
        | returned cv =>
          obtain ⟨v, h', G', q1, q2, q3, _⟩ := hr
          refine fin h' G' w' m _ q2 q3 (fun hgl => ?_) q1
          rw [hm.settle]
          exact hm.mono hgl
        | panicked chain =>
          obtain ⟨v, h', G', pv, q1, _⟩ := hr
          exact q1.elim
        | outgrown => exact hr.elim
end Go.Lt
namespace Go.Lt
open Go
variable {P : Program} {CO : Nat → Code → AC → Prop} {C : Cfg} {N : Nat} {G G' : Gho} {w w' : World} {s s' : St} {a : Act} {v : AV}

/-! ### what a frame of a loop's round or of a deferred call defers: nothing -/
theorem run_d {o : AOp} {s s' : St} {v : AV} (h : o.run C s = some (v, s')) (hn : ∀ f as, o ≠ .dfr f as) : s'.d = s.d := by
  cases o
  case dfr => exact absurd rfl (hn _ _)
  all_goals
    simp only [AOp.run] at h
    repeat' (first | (cases h; done) | (cases h; rfl) | (split at h))
theorem step1_d {call : Call} {o : AOper} {s : St} {Q : Option AV × St → Prop} (hn : ∀ f as, o.op ≠ .dfr f as) (h : (step1 C call o s).All Q) : (step1 C call o s).All fun r => Q r ∧ r.2.d = s.d := by
  have put_d : ∀ (s : St) (d : Option Nat) (v : AV), (s.put d v).d = s.d := fun s d v => by cases d <;> rfl
  have bnd : ∀ {α β : Type} {t : T α} {f : α → T β} {Q Q' : β → Prop}, (t.bind f).All Q → (∀ x, (f x).All Q → (f x).All Q') → (t.bind f).All Q' := by
    intro α β t f Q Q' h hx
    induction t with
    | ret a => exact hx a h
    | fail => exact h
    | ch n k ih => exact ⟨h.1, fun i hi => ih i (h.2 i hi)⟩
  unfold step1 at h ⊢
  split at h <;> first | (exact h.elim) | skip
  · exact ⟨h, put_d _ _ _⟩
  · split at h
    · split at h <;> first | (exact h.elim) | skip
      exact ⟨h, rfl⟩
    · simp only at h ⊢
      split at h <;> first | (exact h.elim) | skip
      split at h
      · split at h <;> first | (exact h.elim) | skip
        refine bnd h fun x hx => ?_
        split at hx
        · split at hx <;> first | (exact hx.elim) | exact ⟨hx, put_d _ _ _⟩
        · split at hx <;> first | (exact hx.elim) | exact ⟨hx, rfl⟩
      · refine bnd h fun x hx => ?_
        split at hx
        · split at hx <;> first | (exact hx.elim) | exact ⟨hx, put_d _ _ _⟩
        · exact ⟨hx, rfl⟩
    · split at h <;> first | (exact h.elim) | skip
      rename_i v s' hr
      exact ⟨h, (put_d _ _ _).trans (run_d hr hn)⟩

theorem ops_d {call : Call} {Q : Option AV × St → Prop} : ∀ {os : List AOper} {s : St}, (∀ o ∈ os, ∀ f as, o.op ≠ .dfr f as) → (Lt.ops C call os s).All Q → (Lt.ops C call os s).All fun r => Q r ∧ r.2.d = s.d
  | [], s, _, h => ⟨h, rfl⟩
  | o :: os, s, hn, h => by
    simp only [Lt.ops] at h ⊢
    have h1 := step1_d (hn o (by simp)) (T.All.bind h)
    refine T.All.bind' (T.All.mono (fun r hr => ?_) h1)
    obtain ⟨hr, hd⟩ := hr
    split at hr
    · have := ops_d (fun o ho => hn o (by simp [ho])) hr
      simp only at hd
      rw [← hd]
      exact this
    · exact ⟨hr, hd⟩

theorem operOk_nodfr {ops : Array Oper} {o : Oper} {ao : AOper} (h : operOk P ops N true o ao = true) : ∀ f as, ao.op ≠ .dfr f as := by
  intro f as he
  simp only [operOk, Bool.and_eq_true] at h
  have := h.2
  rw [he] at this
  simp [opOkR] at this

theorem exec_d {call : Call} {n : Nat} (ac : AC) : ∀ {c : Code} {N : Nat} {s : St} {Q : Ex × St → Prop}, codeOk P true N c ac = true → (exec C call n ac s).All Q → (exec C call n ac s).All fun r => Q r ∧ r.2.d = s.d := by
  induction ac with
  | skip => intro c N s Q _ h; simp only [exec] at h ⊢; exact ⟨h, rfl⟩
  | ret => intro c N s Q _ h; simp only [exec] at h ⊢; exact ⟨h, rfl⟩
  | exit id => intro c N s Q _ h; simp only [exec] at h ⊢; exact ⟨h, rfl⟩
  | label l => intro c N s Q _ h; simp only [exec] at h ⊢; exact ⟨h, rfl⟩
  | goto l => intro c N s Q _ h; simp only [exec] at h ⊢; exact ⟨h, rfl⟩
  | seq x y hx hy =>
    intro c N s Q hok h
    cases c <;> simp only [codeOk, Bool.false_eq_true, Bool.and_eq_true] at hok
    simp only [exec] at h ⊢
    refine T.All.bind' (T.All.mono (fun r hr => ?_) (hx hok.1 (T.All.bind h)))
    obtain ⟨hr, hd⟩ := hr
    split at hr
    · have := hy hok.2 hr
      simp only at hd
      rw [← hd]
      exact this
    · exact ⟨hr, hd⟩
  | cond cc x y hx hy =>
    intro c N s Q hok h
    cases c <;> simp only [codeOk, Bool.false_eq_true, Bool.and_eq_true] at hok
    simp only [exec] at h ⊢
    split at h <;> first | (exact h.elim) | skip
    · exact hx hok.1.2 h
    · exact hy hok.2 h
  | block id x hx =>
    intro c N s Q hok h
    cases c <;> simp only [codeOk, Bool.false_eq_true, Bool.and_eq_true] at hok
    simp only [exec] at h ⊢
    refine T.All.bind' (T.All.mono (fun r hr => ?_) (hx hok.2 (T.All.bind h)))
    obtain ⟨hr, hd⟩ := hr
    split at hr
    · simp only at hd ⊢
      split at hr
      · rename_i he
        exact ⟨hr, hd⟩
      · rename_i he
        exact ⟨hr, hd⟩
    · exact ⟨hr, hd⟩
  | loop x hx =>
    intro c N s Q hok h
    cases c <;> simp only [codeOk, Bool.false_eq_true] at hok
    simp only [exec] at h ⊢
    have key : ∀ (m : Nat) (s : St), (loopN (exec C call n x) m s).All Q → (loopN (exec C call n x) m s).All fun r => Q r ∧ r.2.d = s.d := by
      intro m
      induction m with
      | zero => intro s h; exact h
      | succ m ih =>
        intro s h
        simp only [loopN] at h ⊢
        refine T.All.bind' (T.All.mono (fun r hr => ?_) (hx hok (T.All.bind h)))
        obtain ⟨hr, hd⟩ := hr
        split at hr
        · have := ih _ hr
          simp only at hd
          rw [← hd]
          exact this
        · exact ⟨hr, hd⟩
    exact key n s h
  | reg d os k =>
    intro c N s Q hok h
    cases c <;> simp only [codeOk, Bool.false_eq_true, Bool.and_eq_true] at hok
    obtain ⟨_, hok⟩ := hok
    have hnd : ∀ o ∈ os, ∀ f as, o.op ≠ .dfr f as := by
      intro o ho
      split at hok
      · obtain ⟨o', _, h2, _⟩ := (drawOk_spec (andT hok).1).oper o ho
        exact operOk_nodfr h2
      · obtain ⟨_, hops⟩ := opersOk_spec hok
        obtain ⟨i, hi, rfl⟩ := List.getElem_of_mem ho
        obtain ⟨o', _, h2⟩ := hops i _ (List.getElem?_eq_getElem hi)
        exact operOk_nodfr h2
    simp only [exec] at h ⊢
    refine T.All.bind' (T.All.mono (fun r hr => ?_) (ops_d hnd (T.All.bind h)))
    obtain ⟨hr, hd⟩ := hr
    split at hr
    · cases k <;> exact ⟨hr, hd⟩
    · exact ⟨hr, hd⟩
  | rangeF f ps asg body keep _ _ =>
    intro c N s Q hok h
    cases c <;> simp [codeOk] at hok
  | scope x hx =>
    intro c N s Q hok h
    cases c <;> simp [codeOk] at hok
  | gh g x hx =>
    intro c N s Q hok h
    have hok' : codeOk P true N c x = true := by cases c <;> exact hok
    simp only [exec] at h ⊢
    split at h <;> first | (exact h.elim) | skip
    rename_i s1 hg
    have hd : s1.d = s.d := by
      cases g <;> simp only [Gh.run] at hg <;> repeat' (first | (cases hg; done) | (cases hg; rfl) | (split at hg))
    have := hx hok' h
    rw [hd] at this
    exact this

/-! ### contracts -/
def PrimOk (P : Program) (CO : Nat → Code → AC → Prop) (C : Cfg) (f : Nat) (φ : List AV → List Blk → Option (AV × List Blk)) : Prop :=
  (∀ (args : Array Value) (w : World), (callFunc f args).run P w = .ok (.enter f args) w) ∧
  ∀ (as : List AV) (h : List Blk) (v : AV) (h' : List Blk), φ as h = some (v, h') → ∀ (G : Gho) (w : World) (cs : List Value), StRel CO G h w → Clean G → GlR C G → ArgsR G w as cs →
    CallsIn Fence.wide 0 P f ⟨cs⟩ w (OutR CO G w fun r => r = (.ret v, h'))

def fnOk (P : Program) (rnd : Bool) (f : Nat) (af : AFun) : Bool :=
  match P.funcs[f]? with
  | some fn => match fn.body with
    | some c => (fn.name != "runtime.NumGoroutine") && codeOk P rnd fn.ntmps c af.body && resOk P fn.ntmps fn.results.toList af.res && Nat.ble af.np fn.ntmps
    | none => false
  | none => false
theorem fnOk_spec {rnd : Bool} {f : Nat} {af : AFun} (h : fnOk P rnd f af = true) : ∃ fn c, P.funcs[f]? = some fn ∧ fn.body = some c ∧ (fn.name == "runtime.NumGoroutine") = false ∧ codeOk P rnd fn.ntmps c af.body = true ∧ resOk P fn.ntmps fn.results.toList af.res = true ∧ af.np ≤ fn.ntmps := by
  unfold fnOk at h
  split at h <;> first | (cases h; done) | skip
  rename_i fn hfn
  split at h <;> first | (cases h; done) | skip
  rename_i c hc
  simp only [Bool.and_eq_true] at h
  exact ⟨fn, c, hfn, hc, by simpa [bne] using h.1.1.1, h.1.1.2, h.1.2, Nat.le_of_ble_eq_true h.2⟩

structure Tied (P : Program) (C : Cfg) : Prop where
  prim : ∀ f φ, C.prim f = some φ → PrimOk P (COk P) C f φ
  fn : ∀ f af, C.prim f = none → C.fn f = some af → fnOk P false f af = true
  dok : ∀ f, C.dok f = true → C.prim f = none ∧ ∀ af, C.fn f = some af → fnOk P true f af = true
  catch_ : CatchOk P (COk P) C
  gl : GlPure C

theorem callFunc_enter {f : Nat} {fn : Func} {c : Code} (hf : P.funcs[f]? = some fn) (hb : fn.body = some c) (hn : (fn.name == "runtime.NumGoroutine") = false) (args : Array Value) (w : World) : (callFunc f args).run P w = .ok (.enter f args) w := by
  have hn' : ¬ fn.name = "runtime.NumGoroutine" := by simpa using hn
  simp [callFunc, hf, hb, hn']

theorem readRes_d {e : Env} {l : Loc} {h : List Blk} {d d' : List (AV × List AV)} : ∀ rs : List ARes, readRes ⟨e, l, h, d⟩ rs = readRes ⟨e, l, h, d'⟩ rs
  | [] => rfl
  | .tmp t :: r => by simp only [readRes, readRes_d r (d := d) (d' := d')]
  | .own t :: r => by simp only [readRes, readRes_d r (d := d) (d' := d')]
  | .cell t sh :: r => by simp only [readRes, readRes_d r (d := d) (d' := d')]
theorem results_d {e : Env} {l : Loc} {h : List Blk} {d d' : List (AV × List AV)} (rs : List ARes) : Lt.results ⟨e, l, h, d⟩ rs = Lt.results ⟨e, l, h, d'⟩ rs := by
  simp only [Lt.results, readRes_d rs (d := d) (d' := d')]

theorem argEnv_get : ∀ (as : List AV) (i t : Nat), (argEnv i as).get t = if i ≤ t then (as[t - i]?).getD .undef else .undef
  | [], i, t => by simp [argEnv, Env.get]
  | v :: r, i, t => by
    simp only [argEnv, Env.get]
    by_cases h : i = t
    · subst h; simp
    · simp only [beq_false.2 h, argEnv_get r (i + 1) t]
      by_cases h' : i ≤ t
      · have h1 : i + 1 ≤ t := by omega
        have h2 : t - i = (t - (i + 1)) + 1 := by omega
        simp [h', h1, h2]
      · have h1 : ¬ i + 1 ≤ t := by omega
        simp [h', h1]

def Gho.setM (G : Gho) (m : Option Nat) : Gho := { G with mrk := m }
theorem mk_gle (m : Option Nat) : GLe G (G.setM m) := ⟨fun _ _ _ h => h, fun _ _ h => h, fun _ _ h => h⟩
theorem mk_gle' (m : Option Nat) : GLe (G.setM m) G := ⟨fun _ _ _ h => h, fun _ _ h => h, fun _ _ h => h⟩
theorem mk_keep (m : Option Nat) : Keep (fun _ => False) G w (G.setM m) w := ⟨mk_gle m, fun _ _ _ => rfl, fun _ _ _ _ => rfl, fun _ _ _ => rfl⟩
theorem StRel.mkM {h : List Blk} (hs : StRel CO G h w) (m : Option Nat) : StRel CO (G.setM m) h w :=
  ⟨hs.con, hs.obj, hs.lt, hs.sep, fun b i hi => let ⟨blk, o, k1, k2, k3⟩ := hs.heap b i hi; ⟨blk, o, k1, k2, k3.keep (mk_keep m) hs.lt fun _ _ _ h => h⟩, hs.uniq⟩
theorem Own.mkM {p : Pl} {c : AV} {v : Value} (h : Own G w p c v) (m : Option Nat) : Own (G.setM m) w p c v := h

/-- what the caller of a function sees of its end -/
theorem le_out {m : Option Nat} {j : Nat} (h : Le ((G.mv .out (.tmp j)).setM m) w G' w') : Le G w (G'.setM G.mrk) w' where
  gle := ((Gho.mv_gle _ _).trans (mk_gle m)).trans (h.gle.trans (mk_gle _))
  size := h.size
  os := h.os
  out := h.out
  tape := h.tape
  same k hk hr := h.same k hk (by simp [Gho.setM, Gho.mv, hr])
  cons b o v hc hn := by
    rcases h.cons b o v hc hn with h1 | h1
    · exact .inl h1
    · right
      intro hr
      exact h1 (by simp [Gho.setM, Gho.mv, hr])
  mrk := rfl
  objs b x hx := h.objs b x hx

/-- a function's frame at its start -/
theorem SR.enter {h : List Blk} (hst : StRel CO G h w) (hcl : Clean G) (hgl : GlR C G) {as : List AV} {cs : List Value} (hA : ArgsR G w as cs) (m : Option Nat) {N : Nat} (hN : as.length ≤ N) :
    ∃ j, SR CO C N ((G.mv .out (.tmp j)).setM m) w ⟨argEnv 0 as, [], h, []⟩ { tmps := (⟨cs⟩ : Array Value) ++ Array.replicate (N - (⟨cs⟩ : Array Value).size) undef, defers := [] } := by
  obtain ⟨hv, j, ho⟩ := hA
  refine ⟨j, ?_⟩
  have hst' := (hst.mv (p := .out) (q := .tmp j) (by simp)).mkM m
  have hle : GLe G ((G.mv .out (.tmp j)).setM m) := (Gho.mv_gle _ _).trans (mk_gle m)
  have hnl : ∀ b i, ((G.mv .out (.tmp j)).setM m).role b ≠ .loc i := by
    intro b i hb
    have hb : G.role b = .loc i := Gho.mv_loc.1 hb
    rcases hcl b with h | ⟨_, h⟩ | ⟨_, _, h⟩ | h <;> rw [h] at hb <;> cases hb
  refine ⟨hst', fun t ht => ?_, ⟨fun i cs h => by simp [Loc.get] at h, fun b b' i h => absurd h (hnl b i), fun b i h => absurd h (hnl b i)⟩, .nil, ?_, fun g hg => (hgl g hg).mono hle⟩
  · rw [argEnv_get] at ht ⊢
    simp only [Nat.zero_le, if_true, Nat.sub_zero] at ht ⊢
    cases hc : as[t]? with
    | none => rw [hc] at ht; exact absurd rfl ht
    | some c =>
      have hlt := (List.getElem?_eq_some_iff.1 hc).1
      have hlt' : t < cs.length := by rw [← hv.length]; exact hlt
      have hval : ((⟨cs⟩ : Array Value) ++ Array.replicate (N - (⟨cs⟩ : Array Value).size) undef).getD t undef = cs[t] := by
        simp [Array.getElem?_append, hlt']
      rw [hval]
      simp only [Option.getD_some]
      obtain ⟨u, hu, hvr⟩ := hv.get _ _ hc
      rw [List.getElem?_eq_getElem hlt'] at hu
      cases hu
      refine ⟨VT.of (hvr.mono hle), ?_⟩
      obtain ⟨h1, h2⟩ := ho t c cs[t] hc (List.getElem?_eq_getElem hlt')
      by_cases ht : t = j
      · subst ht
        exact (h2 rfl).mv.mkM m
      · exact Own.of_ne (h1 ht)
  · have := hv.length
    simp
    omega

theorem OutR.mono {Q Q' : AOut × List Blk → Prop} (hq : ∀ r, Q r → Q' r) {e : Ending} {w' : World} (h : OutR CO G w Q e w') : OutR CO G w Q' e w' := by
  cases e with
  | returned v => obtain ⟨u, h', G', k, r⟩ := h; exact ⟨u, h', G', hq _ k, r⟩
  | panicked ch => obtain ⟨u, h', G', pv, k, r⟩ := h; exact ⟨u, h', G', pv, hq _ k, r⟩
  | outgrown => exact h

/-- results, as the caller sees them -/
theorem results_out {fn : Func} {qs : List ARes} {j : Nat} {m : Option Nat} {Q : AOut × List Blk → Prop} {a : Act} (hs : SR CO C N G' w' s a) (hle : Le ((G.mv .out (.tmp j)).setM m) w G' w') {u : AV} (h : resOk P N fn.results.toList qs = true) (hr : Lt.results s qs = some u) (hq : Q (.ret u, s.h)) :
    ∃ cv, (Go.results fn a.tmps).run P w' = .ok cv w' ∧ OutR CO G w Q (.returned cv) w' := by
  obtain ⟨cv, G2, k1, k2, k3, k4, k5⟩ := results_sound hs h hr
  exact ⟨cv, k1, u, s.h, _, hq, k2.mkM _, le_out (hle.trans k3), k4.mono (mk_gle _), k5.mkM _⟩
theorem panic_out {j : Nat} {m : Option Nat} {Q : AOut × List Blk → Prop} {h : List Blk} (hst : StRel CO G' h w') (hle : Le ((G.mv .out (.tmp j)).setM m) w G' w') {u : AV} {pv : Value} (hv : VR G' u pv) (hq : Q (.pan u, h)) :
    OutR CO G w Q (.panicked [{ v := pv, recovered := false }]) w' :=
  ⟨u, h, _, pv, hq, rfl, hst.mkM _, le_out hle, hv.mono (mk_gle _)⟩

theorem fn_sound {n : Nat} (hC : CallOk P (COk P) C (acall C n)) (hY : YldOk P (COk P) C (acall C n)) (hD : DefOk P (COk P) C (acall C n)) (hT : Tied P C) {f : Nat} {af : AFun} (hp : C.prim f = none) (hf : C.fn f = some af) {as : List AV} {h : List Blk} {Q : AOut × List Blk → Prop}
    (hq : (acall C (n + 1) (.fn f) as h).All Q) (hcl : Clean G) (hgl : GlR C G) {cs : List Value} (hst : StRel (COk P) G h w) (hA : ArgsR G w as cs) : CallsIn Fence.wide 0 P f ⟨cs⟩ w (OutR (COk P) G w Q) := by
  obtain ⟨fn, c, e1, e2, e3, e4, e5, e6⟩ := fnOk_spec (hT.fn f af hp hf)
  simp only [acall, hp, hf] at hq
  split at hq <;> first | (exact hq.elim) | skip
  rename_i hnp
  have hnp := beq_iff.1 hnp
  obtain ⟨j, hs⟩ := SR.enter (C := C) hst hcl hgl hA (some w.heap.size) (N := fn.ntmps) (by omega)
  have hE := (exec_sound hC hY hT.gl n af.body c none false fn.ntmps _ _ w _ _ (fun h => by cases h) (fun _ => ⟨_, rfl, Nat.le_refl _⟩) e4 hs).1 (T.All.bind hq)
  -- behind the body
  have fin : ∀ (m : Option AV) (u : FrameMode) (s' : St) (a' : Act) (G' : Gho) (w' : World), SR (COk P) C fn.ntmps G' w' s' a' → Le ((G.mv .out (.tmp j)).setM (some w.heap.size)) w G' w' → ModeR G' m u → (finish C (acall C n) af m s').All Q →
      LeavesInM Fence.wide 0 P fn a'.tmps (OutR (COk P) G w Q) a'.defers u w' := by
    intro m u s' a' G' w' k1 k2 k3 k4
    simp only [finish] at k4
    refine leave_sound hD hT.catch_ hT.gl (G0 := (G.mv .out (.tmp j)).setM (some w.heap.size)) (w0 := w) (e := s'.e) (l := s'.l) (tmps := a'.tmps) rfl (fun m1 u1 h1 G1 w1 q1 q2 q3 q4 => ?_) a'.defers s'.d m u s'.h G' w' k1 k2 k3 (T.All.bind k4)
    cases m1 with
    | none =>
      rw [show u1 = .returning from q2]
      simp only at q1
      split at q1 <;> first | (exact q1.elim) | skip
      rename_i v hv
      have hv' : Lt.results ⟨s'.e, s'.l, h1, []⟩ af.res = some v := by rw [← hv]; exact results_d _
      exact results_out (a := { tmps := a'.tmps, defers := [] }) q3 q4 e5 hv' q1
    | some v =>
      obtain ⟨pv, rfl, hpv⟩ := q2
      exact panic_out q3.st q4 hpv q1
  refine callsIn_of_wp_marks e1 e2 trivial (wpIn_mono hE fun e a' w' hx => ?_)
  cases e with
  | normal =>
    obtain ⟨s', G', q1, q2, q3⟩ := hx
    exact fin none .returning s' a' G' w' q2 q3 rfl q1
  | ret =>
    obtain ⟨s', G', q1, q2, q3⟩ := hx
    exact fin none .returning s' a' G' w' q2 q3 rfl q1
  | panic chain =>
    obtain ⟨v, pv, s', G', q1, rfl, q2, q3, q4⟩ := hx
    exact fin (some v) _ s' a' G' w' q3 q4 ⟨pv, rfl, q2⟩ q1
  | exit id => obtain ⟨s', G', q1, _⟩ := hx; exact q1.elim
  | goto l => obtain ⟨s', G', q1, _⟩ := hx; exact q1.elim
  | outgrown => exact hx.elim

theorem def_sound {n : Nat} (hC : CallOk P (COk P) C (acall C n)) (hY : YldOk P (COk P) C (acall C n)) (hT : Tied P C) {f : Nat} {af : AFun} (hd : C.dok f = true) (hf : C.fn f = some af) {as : List AV} {h : List Blk} {Q : AOut × List Blk → Prop}
    (hq : (acall C (n + 1) (.fn f) as h).All Q) (hcl : Clean G) (hgl : GlR C G) {cs : List Value} {u : FrameMode} (hst : StRel (COk P) G h w) (hA : ArgsR G w as cs) : CallsDIn Fence.wide 0 P f ⟨cs⟩ u w fun e u' w' => u' = u ∧ OutR (COk P) G w Q e w' := by
  obtain ⟨hp, hfn⟩ := hT.dok f hd
  obtain ⟨fn, c, e1, e2, e3, e4, e5, e6⟩ := fnOk_spec (hfn af hf)
  simp only [acall, hp, hf] at hq
  split at hq <;> first | (exact hq.elim) | skip
  rename_i hnp
  have hnp := beq_iff.1 hnp
  obtain ⟨j, hs⟩ := SR.enter (C := C) hst hcl hgl hA none (N := fn.ntmps) (by omega)
  have hE := (exec_sound hC hY hT.gl n af.body c none true fn.ntmps _ _ w _ _ (fun h => by cases h) (fun h => by cases h) e4 hs).1 (exec_d af.body e4 (T.All.bind hq))
  -- nothing has been deferred
  have nod : ∀ {s' : St} {a' : Act} {G' : Gho} {w' : World}, SR (COk P) C fn.ntmps G' w' s' a' → Le ((G.mv .out (.tmp j)).setM none) w G' w' → s'.d = [] → a'.defers = [] := by
    intro s' a' G' w' k1 k2 k3
    have hdr := k1.dr
    rw [k3] at hdr
    generalize a'.defers = ds at hdr
    cases hdr with
    | nil => rfl
    | mark r _ _ _ _ hm =>
      obtain ⟨b, hb, _⟩ := hm
      rw [k2.mrk] at hb
      cases hb
  have fin : ∀ (s' : St) (a' : Act) (G' : Gho) (w' : World), SR (COk P) C fn.ntmps G' w' s' a' → Le ((G.mv .out (.tmp j)).setM none) w G' w' → (finish C (acall C n) af none s').All Q → s'.d = [] →
      a'.defers = [] ∧ ∃ v, (Go.results fn a'.tmps).run P w' = .ok v w' ∧ OutR (COk P) G w Q (.returned v) w' := by
    intro s' a' G' w' k1 k2 k3 k4
    refine ⟨nod k1 k2 k4, ?_⟩
    simp only [finish, k4, leave, T.bind] at k3
    split at k3 <;> first | (exact k3.elim) | skip
    rename_i v hv
    have hv' : Lt.results s' af.res = some v := by rw [← hv]; exact results_d (e := s'.e) (l := s'.l) (h := s'.h) (d := s'.d) af.res
    exact results_out k1 k2 e5 hv' k3
  refine callsDIn_of_wp e1 e2 trivial (wpIn_mono hE fun e a' w' hx => ?_)
  cases e with
  | normal =>
    obtain ⟨s', G', ⟨q1, qd⟩, q2, q3⟩ := hx
    exact fin s' a' G' w' q2 q3 q1 qd
  | ret =>
    obtain ⟨s', G', ⟨q1, qd⟩, q2, q3⟩ := hx
    exact fin s' a' G' w' q2 q3 q1 qd
  | panic chain =>
    obtain ⟨v, pv, s', G', ⟨q1, qd⟩, rfl, q2, q3, q4⟩ := hx
    refine ⟨nod q3 q4 qd, ?_⟩
    simp only at qd
    simp only [finish, qd, leave, T.bind] at q1
    exact panic_out q3.st q4 q2 q1
  | exit id => obtain ⟨s', G', ⟨q1, _⟩, _⟩ := hx; exact q1.elim
  | goto l => obtain ⟨s', G', ⟨q1, _⟩, _⟩ := hx; exact q1.elim
  | outgrown => exact hx.elim

theorem all_sound (hT : Tied P C) : ∀ n, CallOk P (COk P) C (acall C n) ∧ YldOk P (COk P) C (acall C n) ∧ DefOk P (COk P) C (acall C n) := by
  intro n
  induction n with
  | zero =>
    refine ⟨fun f as h Q hq => ?_, fun b as h Q hq => ?_, fun f as h Q _ hq => ?_⟩ <;> (simp only [acall] at hq; exact hq.elim)
  | succ n ih =>
    obtain ⟨hC, hY, hD⟩ := ih
    refine ⟨fun f as h Q hq => ?_, fun b as h Q hq => round_sound hC hY hT.gl b as h Q hq, fun f as h Q hd hq => ?_⟩
    · cases hp : C.prim f with
      | some φ =>
        obtain ⟨p1, p2⟩ := hT.prim f φ hp
        refine ⟨p1, fun G w cs k1 k2 k3 k4 => ?_⟩
        simp only [acall, hp] at hq
        split at hq <;> first | (exact hq.elim) | skip
        rename_i v h' hv
        exact CallsIn.mono (p2 as h v h' hv G w cs k1 k2 k3 k4) fun e w' hr => OutR.mono (fun r hr => by rw [hr]; exact hq) hr
      | none =>
        cases hf : C.fn f with
        | none => simp only [acall, hp, hf] at hq; exact hq.elim
        | some af =>
          obtain ⟨fn, c, e1, e2, e3, _⟩ := fnOk_spec (hT.fn f af hp hf)
          exact ⟨callFunc_enter e1 e2 e3, fun G w cs k1 k2 k3 k4 => fn_sound hC hY hD hT hp hf hq k2 k3 k1 k4⟩
    · obtain ⟨hp, hfn⟩ := hT.dok f hd
      cases hf : C.fn f with
      | none => simp only [acall, hp, hf] at hq; exact hq.elim
      | some af =>
        obtain ⟨fn, c, e1, e2, e3, _⟩ := fnOk_spec (hfn af hf)
        exact ⟨callFunc_enter e1 e2 e3, fun G w cs u k1 k2 k3 k4 => def_sound hC hY hT hd hf hq k2 k3 k1 k4⟩
end Go.Lt
namespace Go.Lt
open Go
variable {P : Program} {CO : Nat → Code → AC → Prop} {C : Cfg} {N : Nat} {G G' : Gho} {w w' : World} {s s' : St} {a : Act} {v : AV}

def C0 : Cfg := { fn := fun _ => none, gl := fun _ => .undef, prim := fun _ => none, catch_ := fun _ => none, dok := fun _ => false }
def noCall : Call := fun _ _ _ => .fail
def catchRun (t : Nat) (ac : AC) (as : List AV) (v : AV) (h : List Blk) : Option (List Blk) :=
  match exec C0 noCall 8 ac ⟨(t, v) :: argEnv 0 as, [], h, []⟩ with
  | .ret (.norm, s) => match s.d with
    | [] => some s.h
    | _ => none
  | _ => none
def catchφ (t : Nat) (ac : AC) (as : List AV) (v : AV) (h : List Blk) : Option (List Blk) :=
  match v with
  | .ifc ty u => catchRun t ac as (.ifc ty u) h
  | _ => none

theorem catchRun_spec {t : Nat} {ac : AC} {as : List AV} {v : AV} {h h' : List Blk} (hr : catchRun t ac as v h = some h') : ∃ s, exec C0 noCall 8 ac ⟨(t, v) :: argEnv 0 as, [], h, []⟩ = .ret (.norm, s) ∧ s.d = [] ∧ s.h = h' := by
  unfold catchRun at hr
  split at hr <;> first | (cases hr; done) | skip
  rename_i s he
  split at hr <;> first | (cases hr; done) | skip
  rename_i hd
  cases hr
  exact ⟨s, he, hd, rfl⟩

def isRecover (t : Nat) (o : Oper) : Bool :=
  match o.op, o.dst, o.guard with
  | .call c, some d, none => Nat.beq d t && (match c.callee with
    | .builtin .recover => true
    | _ => false) && c.args.isEmpty
  | _, _, _ => false

/-- the rest of the body, whatever has been recovered -/
theorem catch_rest {f : Nat} {fn : Func} {c : Code} {t : Nat} {ac : AC} (hN : t < fn.ntmps) (hc : codeOk P true fn.ntmps c ac = true) (hres : fn.results.toList = []) {as : List AV} {cs : List Value} {h h' : List Blk} {v : AV} {pv : Value} (hlen : as.length ≤ fn.ntmps)
    (hst : StRel (COk P) G h w) (hcl : Clean G) (hA : ArgsR G w as cs) (hv : VR G v pv) (hno : noOwn v) (hr : catchRun t ac as v h = some h') :
    c.wpIn Fence.wide 0 P (fun e a' w' => match e with
      | .normal => a'.defers = [] ∧ (∃ r, (Go.results fn a'.tmps).run P w' = .ok r w') ∧ ∃ G', StRel (COk P) G' h' w' ∧ Le G w G' w'
      | _ => False) (({ tmps := (⟨cs⟩ : Array Value) ++ Array.replicate (fn.ntmps - (⟨cs⟩ : Array Value).size) undef, defers := [] } : Act).put (some t) pv) w := by
  obtain ⟨s, hex, hsd, hsh⟩ := catchRun_spec hr
  obtain ⟨j, hs⟩ := SR.enter (CO := COk P) (C := C0) hst hcl (fun g hg => absurd rfl hg) hA none hlen
  have hle0 : GLe G ((G.mv .out (.tmp j)).setM none) := (Gho.mv_gle _ _).trans (mk_gle _)
  obtain ⟨G2, k1, k2⟩ := hs.put (d := some t) (v := v) (cv := pv) (fun t' ht => by cases ht; exact hN) (fun _ => VT.of (hv.mono hle0)) (fun _ => Own.of_ne hno)
  have hC : CallOk P (COk P) C0 noCall := fun f as h Q hq => hq.elim
  have hY : YldOk P (COk P) C0 noCall := fun b as h Q hq => hq.elim
  have hg : GlPure C0 := fun g hg => absurd rfl hg
  have hE := (exec_sound hC hY hg 8 ac c none true fn.ntmps (fun r => r = (.norm, s)) G2 w _ _ (fun h => by cases h) (fun h => by cases h) hc k1).1 (by
    show T.All _ (exec C0 noCall 8 ac ⟨(t, v) :: argEnv 0 as, [], h, []⟩)
    rw [hex]
    exact rfl)
  refine wpIn_mono hE fun e a' w' hx => ?_
  cases e with
  | normal =>
    obtain ⟨s', G', q1, q2, q3⟩ := hx
    have q1 : s' = s := by injection q1
    subst q1
    have hle := k2.trans q3
    refine ⟨?_, ?_, G'.setM G.mrk, by rw [← hsh]; exact q2.st.mkM _, le_out hle⟩
    · have hdr := q2.dr
      rw [hsd] at hdr
      generalize a'.defers = ds at hdr
      cases hdr with
      | nil => rfl
      | mark r _ _ _ _ hm =>
        obtain ⟨b, hb, _⟩ := hm
        rw [hle.mrk] at hb
        cases hb
    · obtain ⟨cv, _, e1, _⟩ := results_sound (P := P) q2 (fn := fn) (qs := []) (u := .tup []) (by rw [hres]; rfl) rfl
      exact ⟨cv, e1⟩
  | exit _ => obtain ⟨s', G', q1, _⟩ := hx; cases q1
  | goto _ => obtain ⟨s', G', q1, _⟩ := hx; cases q1
  | ret => obtain ⟨s', G', q1, _⟩ := hx; cases q1
  | panic _ => obtain ⟨v', pv', s', G', q1, _⟩ := hx; cases q1
  | outgrown => exact hx.elim

theorem catch_ok {f : Nat} {fn : Func} {id : Nat} {o : Oper} {c : Code} {t : Nat} {ac : AC} (hf : P.funcs[f]? = some fn) (hb : fn.body = some (.seq (.region id #[o] false) c)) (hn : (fn.name == "runtime.NumGoroutine") = false)
    (ho : isRecover t o = true) (hN : t < fn.ntmps) (hc : codeOk P true fn.ntmps c ac = true) (hres : fn.results.toList = []) (hp : fn.params.size ≤ fn.ntmps)
    (hnil : ∀ as h, as.length = fn.params.size → catchRun t ac as .nifc h = some h) :
    (∀ (args : Array Value) (w : World), (callFunc f args).run P w = .ok (.enter f args) w) ∧
    ∀ (G : Gho) (w : World) (as : List AV) (cs : List Value) (h : List Blk), as.length = fn.params.size → StRel (COk P) G h w → Clean G → GlR C G → ArgsR G w as cs →
      (∀ (v : AV) (pv : Value) (h' : List Blk), catchφ t ac as v h = some h' → VR G v pv → CallsDIn Fence.wide 0 P f ⟨cs⟩ (.panicking [{ v := pv, recovered := false }]) w fun e u' w' => (∃ r, e = .returned r) ∧ settle u' = .returning ∧ ∃ G', StRel (COk P) G' h' w' ∧ Le G w G' w') ∧
      CallsDIn Fence.wide 0 P f ⟨cs⟩ .returning w fun e u' w' => (∃ r, e = .returned r) ∧ settle u' = .returning ∧ ∃ G', StRel (COk P) G' h w' ∧ Le G w G' w' := by
  refine ⟨callFunc_enter hf hb hn, fun G w as cs h hl hst hcl _ hA => ?_⟩
  unfold isRecover at ho
  split at ho <;> first | (cases ho; done) | skip
  rename_i cc d hop hdst hgd
  simp only [Bool.and_eq_true] at ho
  obtain ⟨⟨h1, h2⟩, h3⟩ := ho
  have h1 := beq_iff.1 h1
  subst h1
  split at h2 <;> first | (cases h2; done) | skip
  rename_i hcal
  have hrun : ∀ (ρ : Operand → Value) (w : World), (execOp ρ o).run P w = .ok .recover w := by
    intro ρ w
    have ha : cc.args = #[] := by simpa using h3
    simp [execOp, hop, resolve, hcal, ha]
    rfl
  have hw : ∀ tm : Array Value, Region.wanted o (yielded #[o] tm) = true := fun tm => by simp [Region.wanted, hgd]
  have go : ∀ (u : FrameMode) (h' : List Blk) (v : AV) (pv : Value), VR G v pv → noOwn v → catchRun d ac as v h = some h' →
      (∀ (c₀ : Frame) (cs0 : List Frame), c₀.mode = u → ∃ u', settle u' = .returning ∧ ((recoverD (c₀ :: cs0) = some (pv, { c₀ with mode := u' } :: cs0)) ∨ (recoverD (c₀ :: cs0) = none ∧ pv = .nilIface ∧ u' = u))) →
      CallsDIn Fence.wide 0 P f ⟨cs⟩ u w fun e u' w' => (∃ r, e = .returned r) ∧ settle u' = .returning ∧ ∃ G', StRel (COk P) G' h' w' ∧ Le G w G' w' := by
    intro u h' v pv hv hno hr hrec
    refine callsDIn_of_wpSIn hf hb trivial fun c₀ cs0 hu => ?_
    obtain ⟨u', hu', hrc⟩ := hrec c₀ cs0 hu
    have hrest := catch_rest (f := f) hN hc hres (by omega) hst hcl hA hv hno hr
    refine wpSIn_seq (wpSIn_region ?_)
    have hr1 : List.range (#[o] : Array Oper).size = [0] := rfl
    rw [hr1]
    simp only [wpOpsSIn, List.getElem?_toArray, List.getElem?_cons_zero, hw, if_true, hrun]
    refine ⟨fun _ _ => trivial, ?_⟩
    rcases hrc with hrc | ⟨hrc, rfl, rfl⟩
    · rw [hrc]
      simp only [hdst]
      refine wpSIn_of_wpIn rfl (wpIn_mono hrest fun e a' w' hx => ?_)
      cases e <;> first | exact hx.elim | skip
      obtain ⟨q1, ⟨r, q2⟩, q3⟩ := hx
      exact ⟨q1, u', rfl, r, q2, ⟨r, rfl⟩, hu', q3⟩
    · rw [hrc]
      simp only [hdst]
      refine wpSIn_of_wpIn rfl (wpIn_mono hrest fun e a' w' hx => ?_)
      cases e <;> first | exact hx.elim | skip
      obtain ⟨q1, ⟨r, q2⟩, q3⟩ := hx
      exact ⟨q1, u', by rw [← hu], r, q2, ⟨r, rfl⟩, hu', q3⟩
  refine ⟨fun v pv h' hφ hv => ?_, ?_⟩
  · unfold catchφ at hφ
    split at hφ <;> first | (cases hφ; done) | skip
    refine go _ h' _ pv hv (fun _ _ h => by cases h) hφ fun c₀ cs0 hu => ?_
    refine ⟨.panicking [{ v := pv, recovered := true }], rfl, .inl ?_⟩
    simp [recoverD, hu]
  · refine go .returning h .nifc .nilIface .nifc (fun _ _ h => by cases h) (hnil as h hl) fun c₀ cs0 hu => ⟨.returning, rfl, .inr ⟨by simp [recoverD, hu], rfl, rfl⟩⟩

/-- the function that recovers, in a machine -/
theorem catch_tied {f : Nat} {fn : Func} {id : Nat} {o : Oper} {c : Code} {t : Nat} {ac : AC} (hC : ∀ g np φ, C.catch_ g = some (np, φ) → g = f ∧ np = fn.params.size ∧ φ = catchφ t ac) (hf : P.funcs[f]? = some fn) (hb : fn.body = some (.seq (.region id #[o] false) c)) (hn : (fn.name == "runtime.NumGoroutine") = false)
    (ho : isRecover t o = true) (hN : t < fn.ntmps) (hc : codeOk P true fn.ntmps c ac = true) (hres : fn.results.toList = []) (hp : fn.params.size ≤ fn.ntmps)
    (hnil : ∀ as h, as.length = fn.params.size → catchRun t ac as .nifc h = some h) : CatchOk P (COk P) C := by
  intro g np φ hg
  obtain ⟨rfl, rfl, rfl⟩ := hC g np φ hg
  exact catch_ok hf hb hn ho hN hc hres hp hnil
end Go.Lt
