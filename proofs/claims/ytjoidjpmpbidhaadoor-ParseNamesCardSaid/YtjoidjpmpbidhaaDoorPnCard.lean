/-
  lamplighterlaw07.ParseNames returns true: the law takes no argument; the listed package-level variables start as the program's text lays them; internal/bytealg.MaxLen may hold any number.
-/
import Derived.Test.YtjoidjpmpbidhaaDoorPnRow
set_option linter.all false
set_option maxRecDepth 100000
namespace Go.Proofs.YtjoidjpmpbidhaaDoor
open Go Go.Lt Go.Proofs
theorem parseNames_row : Rows.ParseNamesSaid :=
  OpenClaim.holds_of_wide 7 Tryd.f7 rfl rfl rfl rfl rfl rfl rfl ⟨rfl, rfl, rfl, rfl, rfl⟩ rfl rfl rfl rfl rfl (by kernel_rfl) Tryd.func7 (by kernel_rfl)
    (of_decide_eq_true (by kernel_rfl)) (by unfold Func.isWrapper; first | (rw [if_pos (by decide +kernel)]; kernel_rfl) | (rw [if_neg (by decide +kernel)]; exact ⟨rfl, rfl⟩))
    (fun os started H enc _ => lifted os started H enc)
theorem parseNames_card : Rows.ParseNamesCardSaid :=
  Claim7.holds_tied_plain_at .later [] [.mapped, .mapped, .widerDeep, .mapped] true (true, "23401c03db0b32c21026d56bc533dcac2ae605cfad43f71d073eab339115dbf2") true
    parseNames_row (fun _ h => by cases h) (by kernel_rfl) (fun _ h => by cases h) parseNames_row_tie rfl ⟨rfl, rfl⟩ (by kernel_rfl) rfl
    (fun f fn hf hfn => by
      obtain rfl : f = 7 := Option.some.inj ((show Tryd.prog.funcNamed "lamplighter/lamplighterlaw07.ParseNames" = some 7 by kernel_rfl).symm.trans hf) |>.symm
      obtain rfl : fn = Tryd.f7 := (Option.some.inj (Tryd.func7.symm.trans hfn)).symm
      exact ⟨by kernel_rfl, fun j t ht => by
        rw [Tryd.params7] at ht
        simp at ht⟩)
    (by kernel_rfl)
#print axioms parseNames_card
end Go.Proofs.YtjoidjpmpbidhaaDoor
