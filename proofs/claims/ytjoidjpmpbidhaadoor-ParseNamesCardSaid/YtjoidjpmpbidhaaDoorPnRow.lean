/-
  ParseNames: the machine is the program's; its closed calls are facts.
  ParseNames: what the program's variables hold; the row; the card.
  ParseNames: the row and the card.
-/
import Derived.Test.YtjoidjpmpbidhaaDoorPnCfg
import Derived.Test.YtjoidjpmpbidhaaDoorPnOks
import Derived.Test.YtjoidjpmpbidhaaDoorPnPairs
import Derived.Test.YtjoidjpmpbidhaaDoorPnRun1
import Derived.Test.YtjoidjpmpbidhaaDoorPnRun2
import Derived.Test.YtjoidjpmpbidhaaDoorPnRun3
import Derived.Test.YtjoidjpmpbidhaaDoorPnRun4
import Derived.Test.YtjoidjpmpbidhaaDoorPnRun5
import Derived.Test.YtjoidjpmpbidhaaDoorRows
import Derived.Test.YtjoidjpmpbidhaaDoorCards
import Derived.Test.YtjoidjpmpbidhaaDoorTie
import Derived.HandedShaped
import Derived.LaidMore
import Derived.LaidLaws
import Derived.MakeChecks
import Derived.FnData
import Derived.Shelf.Vars
import Derived.OpenShut
import Derived.SevenTiedAt
set_option linter.all false
set_option maxRecDepth 100000
namespace Go.Lt
open Go Go.Proofs
theorem runs_spec {C : Cfg} {n : Nat} {l : List Memo} (h : runs C n l = true) : ∀ m ∈ l, (acall C n (.fn m.f) m.as []).All fun r => ∃ h, r = (.ret m.v, h) := fun m hm => by
  have := List.all_eq_true.1 h m hm
  rw [callK_eq] at this
  exact isRet_all this
/-- a machine that is the program's answers a closed call so -/
def Fact (P : Program) (gl : Nat → AV) (m : Memo) : Prop := ∃ C', Tied P C' ∧ C'.gl = gl ∧ ∃ n, (acall C' n (.fn m.f) m.as []).All fun r => ∃ h, r = (.ret m.v, h)
theorem facts_of {P : Program} {C : Cfg} (hT : Tied P C) {n : Nat} {l : List Memo} (h : runs C n l = true) : ∀ m ∈ l, Fact P C.gl m := fun m hm => ⟨C, hT, rfl, n, runs_spec h m hm⟩
theorem Tied.memos {P : Program} {C : Cfg} (hT : Tied P C) {l : List Memo} (hp : (l.all fun m => m.v.pure && !C.dok m.f) = true) (hf : ∀ m ∈ l, Fact P C.gl m) : Tied P (C.memo l) :=
  hT.memo fun m hm => by
    have := List.all_eq_true.1 hp m hm
    simp only [Bool.and_eq_true, Bool.not_eq_true'] at this
    exact ⟨this.1, this.2, hf m hm⟩

theorem d_ok0 : fnOk Tryd.prog true 84 f_parse_Parse_1 = true := by unfold fnOk; rw [Tryd.func84]; kernel_rfl
theorem d_ok1 : fnOk Tryd.prog true 77 f_parse_Expr_1 = true := by unfold fnOk; rw [Tryd.func77]; kernel_rfl
theorem d_ok2 : fnOk Tryd.prog true 104 f_parse_Stmts_1 = true := by unfold fnOk; rw [Tryd.func104]; kernel_rfl
theorem glP_pure (M : Int) (g : Nat) (h : (glP M).get g ≠ .undef) : ((glP M).get g).pure = true := by
  simp only [glP, Env.get] at h ⊢
  split <;> rename_i h1 <;> simp only [h1] at h
  · kernel_rfl
  split <;> rename_i h1 <;> simp only [h1] at h
  · kernel_rfl
  split <;> rename_i h1 <;> simp only [h1] at h
  · kernel_rfl
  split <;> rename_i h1 <;> simp only [h1] at h
  · kernel_rfl
  split <;> rename_i h1 <;> simp only [h1] at h
  · rfl
  exact absurd rfl h
theorem catch_nil (a : AV) (h : List Blk) : catchRun 5 c_parse_catch [a] .nifc h = some h := by kernel_rfl
theorem tiedL (M : Int) : Tied Tryd.prog (cfgL M) where
  prim f φ h := by cases h
  fn f af _ h := FT.get_all fnTree_ok h
  dok f h := by
    refine ⟨rfl, fun af ha => ?_⟩
    simp only [cfgL, Bool.or_eq_true, beq_iff] at h
    rcases h with (h | h) | h <;> subst h
    · obtain rfl : f_parse_Parse_1 = af := Option.some.inj ((show fnTree.get F.parse_Parse_1 = some f_parse_Parse_1 from rfl).symm.trans ha)
      exact d_ok0
    · obtain rfl : f_parse_Expr_1 = af := Option.some.inj ((show fnTree.get F.parse_Expr_1 = some f_parse_Expr_1 from rfl).symm.trans ha)
      exact d_ok1
    · obtain rfl : f_parse_Stmts_1 = af := Option.some.inj ((show fnTree.get F.parse_Stmts_1 = some f_parse_Stmts_1 from rfl).symm.trans ha)
      exact d_ok2
  catch_ := catch_tied (f := 78) (fn := Tryd.f78) (t := 5) (ac := c_parse_catch) (fun g np φ h => by
      simp only [cfgL] at h
      split at h
      · rename_i hg
        rw [beq_iff] at hg
        cases h
        exact ⟨hg, rfl, rfl⟩
      · cases h) Tryd.func78 rfl (by kernel_rfl) (by kernel_rfl) (of_decide_eq_true (by kernel_rfl)) (by kernel_rfl) (by kernel_rfl) (of_decide_eq_true (by kernel_rfl)) (fun a0 h hl => by
      match a0, hl with
      | [a], _ => exact catch_nil a h)
  gl g h := glP_pure M g h
theorem tiedP (M : Int) : Tied Tryd.prog (cfgP M) := (tiedL M).memos (by kernel_rfl) (facts_of (tiedL M) (pnC M))
theorem tiedP1 (M : Int) : Tied Tryd.prog (cfgP1 M) := (tiedP M).memos (by kernel_rfl) fun m hm => by
  rcases List.mem_append.1 (show m ∈ pnMemo1 ++ pnMemo2 from hm) with h | h
  · exact facts_of (tiedP M) (pnR1 M) m h
  · exact facts_of (tiedP M) (pnR2 M) m h
theorem tiedP2 (M : Int) : Tied Tryd.prog (cfgP2 M) := (tiedP1 M).memos (by kernel_rfl) fun m hm => by
  rcases List.mem_append.1 (show m ∈ pnMemo3 ++ (pnMemo4 ++ pnMemo5) from hm) with h | h
  · exact facts_of (tiedP1 M) (pnR3 M) m h
  rcases List.mem_append.1 h with h | h
  · exact facts_of (tiedP M) (pnR4 M) m h
  · exact facts_of (tiedP M) (pnR5 M) m h
theorem pn_law (M : Int) : ∃ n, (acall (cfgP2 M) n (.fn F.law07_ParseNames) [] []).All fun r => ∃ h, r = (.ret (.bool true), h) := by
  refine ⟨1000, ?_⟩
  have := pn_run M
  rw [callK_eq] at this
  unfold isTrue at this
  split at this <;> first | (cases this; done) | skip
  rename_i h0 he
  rw [he]
  exact ⟨_, rfl⟩
end Go.Lt
set_option maxRecDepth 100000
namespace Go.Lt
open Go Go.Proofs Go.Proofs.YtjoidjpmpbidhaaDoor

theorem CA_of {G : Gho} {b : Nat} : ∀ {vs : List Value} {cs : List AV} {off : Nat}, VRs G cs vs → allLeaf cs = true → (∀ i v, vs[i]? = some v → G.con b (off + i) = some v) → CA G b off cs
  | [], _, _, h, _, _ => by cases h; exact .nil _ _
  | v :: vs, _, off, h, hl, hc => by
    cases h with
    | cons c _ cs _ h1 h2 =>
      simp only [allLeaf, Bool.and_eq_true] at hl
      exact .cons _ _ c v cs (hc 0 v rfl) hl.1 h1 (CA_of h2 hl.2 fun i v hv => by rw [show off + 1 + i = off + (i + 1) by omega]; exact hc (i + 1) v hv)

/-- a variable that a row lists: the machine's constant -/
theorem laid_con {P : Program} {W : World} {n : String} {g g' : Nat} {t t' : TypeId} {cs : Array Value} {fuel : Nat} {d : DataW Unit} {p : List MemPlace} {avs : List AV} (hg : P.globalNamed n = some g) (hg' : P.globalNamed n = some g')
    (ht : (P.globals[g]?).map (·.type) = some t) (ht' : (P.globals[g']?).map (·.type) = some t') (hv : W.var? P n = some cs) (hd : DataW.trod (fun _ => ()) P W 0 (fun _ => true) false fuel t cs.toList = some (d, p)) (ha : dAV P t' d = some avs) :
    VR (startG W) (.cptr avs) (.pointer (some ⟨g', 0, none⟩)) := by
  obtain rfl := Option.some.inj (hg'.symm.trans hg)
  obtain rfl := Option.some.inj (ht'.symm.trans ht)
  obtain ⟨h1, h2⟩ := dAV_sound _ _ _ _ hd avs ha
  refine .cptr _ _ _ (CA_of h1 h2 fun i v hi => ?_)
  show W.cell? _ = _
  rw [Nat.zero_add, World.var?_cell hg' hv i]
  simpa using hi

theorem gKeysN : Tryd.prog.globalNamed "lamplighter/lex.keys" = some 3 := by kernel_rfl
theorem gTypesN : Tryd.prog.globalNamed "lamplighter/parse.types" = some 2 := by kernel_rfl
theorem gLevelsN : Tryd.prog.globalNamed "lamplighter/parse.levels" = some 0 := by kernel_rfl
theorem gSignsN : Tryd.prog.globalNamed "lamplighter/parse.signs" = some 1 := by kernel_rfl
theorem tKeysN : (Tryd.prog.globals[3]?).map (·.type) = some 158 := by kernel_rfl
theorem tTypesN : (Tryd.prog.globals[2]?).map (·.type) = some 117 := by kernel_rfl
theorem tLevelsN : (Tryd.prog.globals[0]?).map (·.type) = some 116 := by kernel_rfl
theorem tSignsN : (Tryd.prog.globals[1]?).map (·.type) = some 117 := by kernel_rfl
theorem dKeys : dAV Tryd.prog 158 (Rows.laid_lamplighter_lex_keys : DataW Unit) = some [gKeys] := by kernel_rfl
theorem dTypes : dAV Tryd.prog 117 (Rows.laid_lamplighter_parse_types : DataW Unit) = some [gTypes] := by kernel_rfl
theorem dLevels : dAV Tryd.prog 116 (Rows.laid_lamplighter_parse_levels : DataW Unit) = some gLevels := by kernel_rfl
theorem dSigns : dAV Tryd.prog 117 (Rows.laid_lamplighter_parse_signs : DataW Unit) = some [gSigns] := by kernel_rfl

def laid4 : List (String × DataW Unit) := [("lamplighter/lex.keys", Rows.laid_lamplighter_lex_keys), ("lamplighter/parse.types", Rows.laid_lamplighter_parse_types), ("lamplighter/parse.levels", Rows.laid_lamplighter_parse_levels), ("lamplighter/parse.signs", Rows.laid_lamplighter_parse_signs)]
theorem gl_of {W : World} (h : laidMetH Tryd.prog laid4 W) (hs : W.ShapedOpen Tryd.prog) : ∃ M, ∀ g, (glP M).get g ≠ .undef → VR (startG W) ((glP M).get g) (.pointer (some ⟨g, 0, none⟩)) := by
  rw [MakeChecks.laidMetH_plain _ _ _ (by kernel_rfl)] at h
  obtain ⟨ps, ⟨g0, t0, cs0, f0, p0, q0, hg0, ht0, hv0, hd0, ⟨g1, t1, cs1, f1, p1, q1, hg1, ht1, hv1, hd1, ⟨g2, t2, cs2, f2, p2, q2, hg2, ht2, hv2, hd2, ⟨g3, t3, cs3, f3, p3, q3, hg3, ht3, hv3, hd3, _, _⟩, _⟩, _⟩, _⟩, _, _⟩ := h
  obtain ⟨M, hM⟩ := cell_of_shapedOpen_int (P := Tryd.prog) (g := 4) (t := 3) (zero := #[.int .i64 0]) hs (of_decide_eq_true (by kernel_rfl)) (by kernel_rfl) rfl (by kernel_rfl) (by kernel_rfl) Tryd.underlying3
  refine ⟨M, fun g hne => ?_⟩
  have k0 := laid_con hg0 gKeysN ht0 tKeysN hv0 hd0 dKeys
  have k1 := laid_con hg1 gTypesN ht1 tTypesN hv1 hd1 dTypes
  have k2 := laid_con hg2 gLevelsN ht2 tLevelsN hv2 hd2 dLevels
  have k3 := laid_con hg3 gSignsN ht3 tSignsN hv3 hd3 dSigns
  have k4 : VR (startG W) (.cptr [.int .i64 M]) (.pointer (some ⟨4, 0, none⟩)) := .cptr _ _ _ (.cons _ _ _ _ _ hM rfl (.int _ _) (.nil _ _))
  simp only [glP, Env.get] at hne ⊢
  split <;> rename_i h1
  · rw [beq_iff] at h1; subst h1; exact k2
  simp only [h1] at hne
  split <;> rename_i h2
  · rw [beq_iff] at h2; subst h2; exact k3
  simp only [h2] at hne
  split <;> rename_i h3
  · rw [beq_iff] at h3; subst h3; exact k1
  simp only [h3] at hne
  split <;> rename_i h4
  · rw [beq_iff] at h4; subst h4; exact k0
  simp only [h4] at hne
  split <;> rename_i h5
  · rw [beq_iff] at h5; subst h5; exact k4
  simp only [h5] at hne
  exact absurd rfl hne
end Go.Lt
set_option maxRecDepth 100000
namespace Go.Lt
open Go Go.Proofs Go.Proofs.YtjoidjpmpbidhaaDoor Go.ChangeShapes Go.RowKit

/-- a row's wrap: the listed variables and the world's shape kept for the contract -/
theorem returnsIn_laid {H : Type} {enc : TypeId × Value → H} {a : Assume} {C : Checked} {os : Os} {f : FuncId} {fn : Func} {s : ChangeSpec} {conds : List PathCond} {apart fresh handsOn again : Bool} {X : World → Array Value → Prop}
    (hX : ∀ (w w' : World) (args : Array Value), w.heap = w'.heap → X w args → X w' args)
    (own : ownKnob C.prog.godebug = none) (started : os.Started) (noInit : C.prog.inits.idxOf? f = none) (hfn : C.prog.funcs[f]? = some fn)
    (witness : ∃ (w : World) (tape : Tape) (i : Input), w.os = os ∧ (w.forCall tape i).Shaped C.prog ∧ i.vars = [] ∧ Input.okWide C.prog (w.forCall tape i) .any w.heap.size f i ∧
      ((s.pre enc C.prog fn conds apart (w.forCall tape i).memory i.args ∧ X (w.forCall tape i).memory i.args) ∧ sizedMet enc C.prog fn (OpenSpec.ofChange s) apart (w.forCall tape i).memory i.args) ∧ a.holds C.prog (lone (Frame.enter C.prog f i.args .normal) [] (w.forCall tape i)))
    (contract : ∀ (W : World) (base : Nat) (args : Array Value) (ds gs : List (DataW H)) (before : List MemPlace),
      (∀ (j : Nat) t v, fn.params[j]? = some t → args[j]? = some v → Value.okWide C.prog W .any base t v) →
      DataW.Whole enc C.prog fn.params.toList s.vars apart W args.toList ds gs before → X W args → W.ShapedOpen C.prog →
      Calls C.prog f args W fun e W' => ∃ v, e = .returned v ∧ s.post enc C.prog fn apart fresh handsOn again W args v W') :
    ReturnsInHanded a C os f .any (fun w args => (s.pre enc C.prog fn conds apart w args ∧ X w args) ∧ sizedMet enc C.prog fn (OpenSpec.ofChange s) apart w args) (s.post enc C.prog fn apart fresh handsOn again) := by
  refine returnsInHanded_of_calls own started noInit witness fun w tape i _ hsh _ hok hpre _ => ?_
  obtain ⟨_, _, _, fn', hfn', _, _, _, _, hval⟩ := hok
  obtain rfl : fn' = fn := Option.some.inj (hfn'.symm.trans hfn)
  obtain ⟨⟨⟨ds, gs, before, hw, _⟩, hx⟩, _⟩ := hpre
  refine (contract (w.forCall tape i) w.heap.size i.args ds gs before hval (DataW.Whole.of_heap (w' := w.forCall tape i) (by rfl) hw) (hX _ _ _ (by rfl) hx) hsh).mono fun e W' ⟨v, he, hp⟩ => ?_
  subst he
  exact ChangeSpec.post_blind hp

theorem own : ownKnob Tryd.prog.godebug = none := by kernel_rfl
theorem door_met (os : Os) (args : Array Value) : laidMetH Tryd.prog laid4 ((World.doorLaid Tryd.prog 400 os).forCall (fun _ _ => 0) ⟨#[], args, []⟩).memory :=
  laidMetH_of_parts3 (fuel := 8) (laidMet_of_run' 8 (by kernel_rfl) (by kernel_rfl)) (by kernel_rfl) (by kernel_rfl)

theorem lifted (os : Os) (started : os.Started) (H : Type) (enc : TypeId × Value → H) :
    ReturnsInHanded {} Tryd.checked os 7 .any (fun w args => (Rows.parseNamesSpec.pre enc Tryd.prog Tryd.f7 [] false w args ∧ laidMetH Tryd.prog laid4 w) ∧ sizedMet enc Tryd.prog Tryd.f7 (OpenSpec.ofChange Rows.parseNamesSpec) false w args)
      (Rows.parseNamesSpec.post enc Tryd.prog Tryd.f7 false true false false) := by
  refine returnsIn_laid (C := Tryd.checked) (X := fun w _ => laidMetH Tryd.prog laid4 w) (fun _ _ _ hh h => h.of_heap hh) own started (by kernel_rfl) Tryd.func7
    (ChangeSpec.witness_shaped (enc := enc) (C := Tryd.checked) (os := os) (X := fun w _ => laidMetH Tryd.prog laid4 w) false (World.doorLaid Tryd.prog 400 os) #[] 8 rfl (World.shaped_of_RefB (by kernel_rfl) (by kernel_rfl)) (by kernel_rfl) (by kernel_rfl) (by kernel_rfl) (door_met os _)) ?_
  intro W base args ds gs before hval hW hL hS
  have hW' := hW
  obtain ⟨p, q, hA0, hV, rfl, hfz, hnd⟩ := hW
  have hA : DataW.TrodAll enc Tryd.prog W 0 (fun _ => true) true [] args.toList ds p := hA0
  obtain ⟨rfl, rfl, rfl⟩ := trodAll_none hA
  obtain ⟨rfl, rfl⟩ := trodVars_none hV
  obtain ⟨M, hM⟩ := gl_of hL hS
  refine (law_calls (P := Tryd.prog) (C := cfgP2 M) (tiedP2 M) (enc := enc) (base := base) (T := []) (ts := []) hA (fun j t v h => by cases h) rfl (fun t h => by cases h) (fun g hne => hM g hne) (fun a0 has => ?_)).mono fun e W' ⟨he, ho, hu, hh⟩ => ?_
  · cases has
    exact pn_law M
  · exact ⟨_, he, _, _, _, [], [], [], hW', trodAll_mk1 (shut_bool Tryd.underlying4 _), trodAll_mk0, rfl, kept_but ho hu hh _, fun h => by cases h⟩
end Go.Lt
