/-
  DERIVED. GIVEN WITH THE SEED: THE CARDS: each row of YtjoidjpmpbidhaaDoorRows.lean that lists a variable, with what it lists TIED to the program's text (the seventh form; the later family's looks); each row that meets fmt, with fmt's text TOLD by the authors' own Lean function (tested against real Go, not proved from fmt's source: count such statements apart). THE CARD IS WHAT COUNTS. Prove the row's statement (the work); the ties are given (YtjoidjpmpbidhaaDoorTie.lean); close each card by the builder's one call (the guide's Derived/Test/ToyasCard.lean, 'card_holds'). Laid BY PROGRAM, IN A SANDBOX (cutbox-door.mjs). By AI agents, Wed Nov 11 2026. No macro, syntax, notation, axiom, sorry.
-/
import Derived.Test.YtjoidjpmpbidhaaDoorRows
import GoSem.ClaimSeven
namespace Go.Proofs.YtjoidjpmpbidhaaDoor
namespace Rows

/-- THE TIED CARD OF 'lamplighterlaw06.AstCalls'. -/
def astCallsCard : Claim7 := { stood := { row := astCallsRow, standIns := [], harness := (true, "23401c03db0b32c21026d56bc533dcac2ae605cfad43f71d073eab339115dbf2"), looks := true }, kinds := [], alts := [], laidByText := true, laidKinds := [.mapped], laidTests := true, laidLooks := .later }
def AstCallsCardSaid : Prop := Claim7.holds Tryd.pinned (.plain (OpenSpec.ofChange astCallsSpec)) astCallsCard

/-- THE TIED CARD OF 'lamplighterlaw06.AstParts'. -/
def astPartsCard : Claim7 := { stood := { row := astPartsRow, standIns := [], harness := (true, "23401c03db0b32c21026d56bc533dcac2ae605cfad43f71d073eab339115dbf2"), looks := true }, kinds := [], alts := [], laidByText := true, laidKinds := [.mapped], laidTests := true, laidLooks := .later }
def AstPartsCardSaid : Prop := Claim7.holds Tryd.pinned (.plain (OpenSpec.ofChange astPartsSpec)) astPartsCard

/-- THE TIED CARD OF 'lamplighterlaw07.ParseBrackets'. -/
def parseBracketsCard : Claim7 := { stood := { row := parseBracketsRow, standIns := [], harness := (true, "23401c03db0b32c21026d56bc533dcac2ae605cfad43f71d073eab339115dbf2"), looks := true }, kinds := [], alts := [], laidByText := true, laidKinds := [.mapped, .mapped, .widerDeep, .mapped], laidTests := true, laidLooks := .later }
def ParseBracketsCardSaid : Prop := Claim7.holds Tryd.pinned (.plain (OpenSpec.ofChange parseBracketsSpec)) parseBracketsCard

/-- THE TIED CARD OF 'lamplighterlaw07.ParseBinds'. -/
def parseBindsCard : Claim7 := { stood := { row := parseBindsRow, standIns := [], harness := (true, "23401c03db0b32c21026d56bc533dcac2ae605cfad43f71d073eab339115dbf2"), looks := true }, kinds := [], alts := [], laidByText := true, laidKinds := [.mapped, .mapped, .widerDeep, .mapped], laidTests := true, laidLooks := .later }
def ParseBindsCardSaid : Prop := Claim7.holds Tryd.pinned (.plain (OpenSpec.ofChange parseBindsSpec)) parseBindsCard

/-- THE TIED CARD OF 'lamplighterlaw07.ParseNames'. -/
def parseNamesCard : Claim7 := { stood := { row := parseNamesRow, standIns := [], harness := (true, "23401c03db0b32c21026d56bc533dcac2ae605cfad43f71d073eab339115dbf2"), looks := true }, kinds := [], alts := [], laidByText := true, laidKinds := [.mapped, .mapped, .widerDeep, .mapped], laidTests := true, laidLooks := .later }
def ParseNamesCardSaid : Prop := Claim7.holds Tryd.pinned (.plain (OpenSpec.ofChange parseNamesSpec)) parseNamesCard

/-- THE SECOND FORM's CARD OF 'lamplighterlaw06.AstCalls'. -/
def astCallsUptoCard : Claim7 := { stood := { row := astCallsUptoRow, standIns := [], harness := (true, "23401c03db0b32c21026d56bc533dcac2ae605cfad43f71d073eab339115dbf2"), looks := true }, kinds := [], alts := [], laidByText := true, laidKinds := [.mapped], laidTests := true, laidLooks := .later }
def AstCallsUptoCardSaid : Prop := Claim7.holds Tryd.pinned (.plain (OpenSpec.upto astCallsSpec)) astCallsUptoCard

/-- THE SECOND FORM's CARD OF 'lamplighterlaw06.AstParts'. -/
def astPartsUptoCard : Claim7 := { stood := { row := astPartsUptoRow, standIns := [], harness := (true, "23401c03db0b32c21026d56bc533dcac2ae605cfad43f71d073eab339115dbf2"), looks := true }, kinds := [], alts := [], laidByText := true, laidKinds := [.mapped], laidTests := true, laidLooks := .later }
def AstPartsUptoCardSaid : Prop := Claim7.holds Tryd.pinned (.plain (OpenSpec.upto astPartsSpec)) astPartsUptoCard

/-- THE SECOND FORM's CARD OF 'lamplighterlaw07.ParseBrackets'. -/
def parseBracketsUptoCard : Claim7 := { stood := { row := parseBracketsUptoRow, standIns := [], harness := (true, "23401c03db0b32c21026d56bc533dcac2ae605cfad43f71d073eab339115dbf2"), looks := true }, kinds := [], alts := [], laidByText := true, laidKinds := [.mapped, .mapped, .widerDeep, .mapped], laidTests := true, laidLooks := .later }
def ParseBracketsUptoCardSaid : Prop := Claim7.holds Tryd.pinned (.plain (OpenSpec.upto parseBracketsSpec)) parseBracketsUptoCard

/-- THE SECOND FORM's CARD OF 'lamplighterlaw07.ParseBinds'. -/
def parseBindsUptoCard : Claim7 := { stood := { row := parseBindsUptoRow, standIns := [], harness := (true, "23401c03db0b32c21026d56bc533dcac2ae605cfad43f71d073eab339115dbf2"), looks := true }, kinds := [], alts := [], laidByText := true, laidKinds := [.mapped, .mapped, .widerDeep, .mapped], laidTests := true, laidLooks := .later }
def ParseBindsUptoCardSaid : Prop := Claim7.holds Tryd.pinned (.plain (OpenSpec.upto parseBindsSpec)) parseBindsUptoCard

/-- THE SECOND FORM's CARD OF 'lamplighterlaw07.ParseNames'. -/
def parseNamesUptoCard : Claim7 := { stood := { row := parseNamesUptoRow, standIns := [], harness := (true, "23401c03db0b32c21026d56bc533dcac2ae605cfad43f71d073eab339115dbf2"), looks := true }, kinds := [], alts := [], laidByText := true, laidKinds := [.mapped, .mapped, .widerDeep, .mapped], laidTests := true, laidLooks := .later }
def ParseNamesUptoCardSaid : Prop := Claim7.holds Tryd.pinned (.plain (OpenSpec.upto parseNamesSpec)) parseNamesUptoCard
end Rows
end Go.Proofs.YtjoidjpmpbidhaaDoor
