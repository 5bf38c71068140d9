/-
  NARROWER THAN 'FOR EVERY INPUT', by the rows' own cells (each row's printed sentence says how): AstCalls: loops, laid · AstParts: loops, laid · ParseBrackets: laid · ParseBinds: laid · ParseNames: laid.
  DERIVED. THE GIVEN ROWS OF THIS SEAT. 5 by the template 'for every input the law returns true; each argument reads behind the call as it read before'; 0 by the template 'total and deterministic' (their statements: YtjoidjpmpbidhaaDoorTotals.lean).
  GIVEN WITH THE SEED: the statements are not yours to turn. If you find one false, say at which input.
  Laid BY PROGRAM, IN A SANDBOX (cutbox-rows.mjs): the forced cells as the released guide's own fill.sh prints them over the translation 5f9ec864c6f475ae… (all of the seat's roots in one cut). By AI agents, Wed Nov 11 2026. No macro, syntax, notation, axiom, sorry.
-/
import Derived.Test.YtjoidjpmpbidhaaDoorChecked
import GoSem.Claim
import GoSem.ClaimJoined
import GoSem.ClaimMapViews
import Derived.JoinedTies
import Derived.KernelRfl
namespace Go.Proofs.YtjoidjpmpbidhaaDoor
/- THE CELL 'sum', in the pinned program and in every row, IS THE sha256 OF THE DUMP (.gsa) THAT YtjoidjpmpbidhaaDoorProg.lean LOADS. Nothing in Lean hashes anything: it is a label: what it is worth is what the hold of that sum in a sandbox is worth. -/
noncomputable def Tryd.pinned : Pinned := { name := "ytjoidjpmpbidhaadoor", sum := "5f9ec864c6f475aed6e9c328cd3d31776074a8863a0e71935b1873216b347ce3", checked := Tryd.checked }
namespace Rows
def none {H : Type} : Left H := { results := [], args := [] }

/- WHAT THE LISTED PACKAGE-LEVEL VARIABLES READ AS WHEN THE CALL BEGINS. Each datum BY PROGRAM (the guide's laid-datum.mjs) off the statement by which the dump's own 'gosem.cut.vars' lays the variable. In a bare row this is a premise. The card (YtjoidjpmpbidhaaDoorCards.lean) ties it to the program's text. -/
def laid_lamplighter_lex_keys {H : Type} : DataW H := .map [(.string [97, 116, 111, 109, 105, 99], .agg []), (.string [98, 111, 116, 104], .agg []), (.string [100, 105, 115, 97, 98, 108, 101], .agg []), (.string [101, 108, 115, 101], .agg []), (.string [101, 110, 97, 98, 108, 101], .agg []), (.string [102, 117, 110, 99], .agg []), (.string [105, 51, 50], .agg []), (.string [105, 102], .agg []), (.string [108, 101, 118, 101, 108], .agg []), (.string [109, 97, 105, 110], .agg []), (.string [111, 110], .agg []), (.string [112, 111, 114, 116], .agg []), (.string [112, 114, 105, 111], .agg []), (.string [114, 101, 97, 100], .agg []), (.string [114, 101, 116, 117, 114, 110], .agg []), (.string [115, 116, 97, 99, 107], .agg []), (.string [117, 49, 54], .agg []), (.string [117, 51, 50], .agg []), (.string [117, 56], .agg []), (.string [119, 104, 105, 108, 101], .agg []), (.string [119, 114, 105, 116, 101], .agg [])]
def laid_lamplighter_parse_types {H : Type} : DataW H := .map [(.string [105, 51, 50], .lit (.int .i64 4)), (.string [117, 49, 54], .lit (.int .i64 2)), (.string [117, 51, 50], .lit (.int .i64 3)), (.string [117, 56], .lit (.int .i64 1))]
def laid_lamplighter_parse_levels {H : Type} : DataW H := .agg [.nil, .slice [.lit (.string [124])] [], .slice [.lit (.string [94])] [], .slice [.lit (.string [38])] [], .slice [.lit (.string [61, 61]), .lit (.string [33, 61])] [], .slice [.lit (.string [60]), .lit (.string [60, 61]), .lit (.string [62]), .lit (.string [62, 61])] [], .slice [.lit (.string [60, 60]), .lit (.string [62, 62])] [], .slice [.lit (.string [43]), .lit (.string [45])] [], .slice [.lit (.string [42]), .lit (.string [47]), .lit (.string [37])] []]
def laid_lamplighter_parse_signs {H : Type} : DataW H := .map [(.string [33, 61], .lit (.int .i64 15)), (.string [37], .lit (.int .i64 5)), (.string [38], .lit (.int .i64 8)), (.string [42], .lit (.int .i64 3)), (.string [43], .lit (.int .i64 1)), (.string [45], .lit (.int .i64 2)), (.string [47], .lit (.int .i64 4)), (.string [60], .lit (.int .i64 16)), (.string [60, 60], .lit (.int .i64 11)), (.string [60, 61], .lit (.int .i64 17)), (.string [61, 61], .lit (.int .i64 14)), (.string [62], .lit (.int .i64 20)), (.string [62, 61], .lit (.int .i64 21)), (.string [62, 62], .lit (.int .i64 12)), (.string [94], .lit (.int .i64 10)), (.string [124], .lit (.int .i64 9))]

/-- 'lamplighterlaw06.AstCalls': WHATEVER THE INPUT: true; the input reads as it did. -/
def astCallsSpec : ChangeSpec := { name := "astCalls", fn := fun _ => fun
  | [d1, d2, d3, d4, d5, d6, d7] => { results := [.lit (.bool true)], args := [d1, d2, d3, d4, d5, d6, d7] }
  | _ => none }
def astCallsRow : OpenClaim := { program := "ytjoidjpmpbidhaadoor", sum := "5f9ec864c6f475aed6e9c328cd3d31776074a8863a0e71935b1873216b347ce3", func := "lamplighter/lamplighterlaw06.AstCalls", spec := "astCalls", unfollowed := true, recurses := true, named := ["lamplighter/lex.keys"], loops := true, apart := false, laid := [("lamplighter/lex.keys", laid_lamplighter_lex_keys)] }
def AstCallsSaid : Prop := astCallsRow.holds Tryd.pinned (OpenSpec.ofChange astCallsSpec)

/-- ITS FALSE NEIGHBOUR: 'it returns false'. Refute it at one input. -/
def astCallsWrong : ChangeSpec := { name := "astCalls", fn := fun _ => fun
  | [d1, d2, d3, d4, d5, d6, d7] => { results := [.lit (.bool false)], args := [d1, d2, d3, d4, d5, d6, d7] }
  | _ => none }
def AstCallsWrongFalsely : Prop := astCallsRow.holds Tryd.pinned (OpenSpec.ofChange astCallsWrong)

/-- 'lamplighterlaw06.AstParts': WHATEVER THE INPUT: true; the input reads as it did. -/
def astPartsSpec : ChangeSpec := { name := "astParts", fn := fun _ => fun
  | [d1, d2] => { results := [.lit (.bool true)], args := [d1, d2] }
  | _ => none }
def astPartsRow : OpenClaim := { program := "ytjoidjpmpbidhaadoor", sum := "5f9ec864c6f475aed6e9c328cd3d31776074a8863a0e71935b1873216b347ce3", func := "lamplighter/lamplighterlaw06.AstParts", spec := "astParts", unfollowed := true, recurses := true, named := ["lamplighter/lex.keys"], loops := true, apart := false, laid := [("lamplighter/lex.keys", laid_lamplighter_lex_keys)] }
def AstPartsSaid : Prop := astPartsRow.holds Tryd.pinned (OpenSpec.ofChange astPartsSpec)

/-- ITS FALSE NEIGHBOUR: 'it returns false'. Refute it at one input. -/
def astPartsWrong : ChangeSpec := { name := "astParts", fn := fun _ => fun
  | [d1, d2] => { results := [.lit (.bool false)], args := [d1, d2] }
  | _ => none }
def AstPartsWrongFalsely : Prop := astPartsRow.holds Tryd.pinned (OpenSpec.ofChange astPartsWrong)

/-- 'lamplighterlaw07.ParseBrackets': WHATEVER THE INPUT: true; the input reads as it did. -/
def parseBracketsSpec : ChangeSpec := { name := "parseBrackets", fn := fun _ => fun
  | [d] => { results := [.lit (.bool true)], args := [d] }
  | _ => none }
def parseBracketsRow : OpenClaim := { program := "ytjoidjpmpbidhaadoor", sum := "5f9ec864c6f475aed6e9c328cd3d31776074a8863a0e71935b1873216b347ce3", func := "lamplighter/lamplighterlaw07.ParseBrackets", spec := "parseBrackets", inPlace := ["internal/bytealg.IndexByteString", "internal/bytealg.IndexString"], unfollowed := true, recurses := true, named := ["lamplighter/lex.keys", "internal/bytealg.MaxLen", "lamplighter/parse.levels", "lamplighter/parse.signs", "lamplighter/parse.types"], apart := false, laid := [("lamplighter/lex.keys", laid_lamplighter_lex_keys), ("lamplighter/parse.types", laid_lamplighter_parse_types), ("lamplighter/parse.levels", laid_lamplighter_parse_levels), ("lamplighter/parse.signs", laid_lamplighter_parse_signs)] }
def ParseBracketsSaid : Prop := parseBracketsRow.holds Tryd.pinned (OpenSpec.ofChange parseBracketsSpec)

/-- ITS FALSE NEIGHBOUR: 'it returns false'. Refute it at one input. -/
def parseBracketsWrong : ChangeSpec := { name := "parseBrackets", fn := fun _ => fun
  | [d] => { results := [.lit (.bool false)], args := [d] }
  | _ => none }
def ParseBracketsWrongFalsely : Prop := parseBracketsRow.holds Tryd.pinned (OpenSpec.ofChange parseBracketsWrong)

/-- 'lamplighterlaw07.ParseBinds': WHATEVER THE INPUT: true; the input reads as it did. -/
def parseBindsSpec : ChangeSpec := { name := "parseBinds", fn := fun _ => fun
  | [d1, d2] => { results := [.lit (.bool true)], args := [d1, d2] }
  | _ => none }
def parseBindsRow : OpenClaim := { program := "ytjoidjpmpbidhaadoor", sum := "5f9ec864c6f475aed6e9c328cd3d31776074a8863a0e71935b1873216b347ce3", func := "lamplighter/lamplighterlaw07.ParseBinds", spec := "parseBinds", inPlace := ["internal/bytealg.IndexByteString", "internal/bytealg.IndexString"], unfollowed := true, recurses := true, named := ["lamplighter/lex.keys", "internal/bytealg.MaxLen", "lamplighter/parse.levels", "lamplighter/parse.signs", "lamplighter/parse.types"], apart := false, laid := [("lamplighter/lex.keys", laid_lamplighter_lex_keys), ("lamplighter/parse.types", laid_lamplighter_parse_types), ("lamplighter/parse.levels", laid_lamplighter_parse_levels), ("lamplighter/parse.signs", laid_lamplighter_parse_signs)] }
def ParseBindsSaid : Prop := parseBindsRow.holds Tryd.pinned (OpenSpec.ofChange parseBindsSpec)

/-- ITS FALSE NEIGHBOUR: 'it returns false'. Refute it at one input. -/
def parseBindsWrong : ChangeSpec := { name := "parseBinds", fn := fun _ => fun
  | [d1, d2] => { results := [.lit (.bool false)], args := [d1, d2] }
  | _ => none }
def ParseBindsWrongFalsely : Prop := parseBindsRow.holds Tryd.pinned (OpenSpec.ofChange parseBindsWrong)

/-- 'lamplighterlaw07.ParseNames': WHATEVER THE INPUT: true; the input reads as it did. -/
def parseNamesSpec : ChangeSpec := { name := "parseNames", fn := fun _ => fun
  | [] => { results := [.lit (.bool true)], args := [] }
  | _ => none }
def parseNamesRow : OpenClaim := { program := "ytjoidjpmpbidhaadoor", sum := "5f9ec864c6f475aed6e9c328cd3d31776074a8863a0e71935b1873216b347ce3", func := "lamplighter/lamplighterlaw07.ParseNames", spec := "parseNames", inPlace := ["internal/bytealg.IndexByteString", "internal/bytealg.IndexString"], unfollowed := true, recurses := true, named := ["lamplighter/lex.keys", "internal/bytealg.MaxLen", "lamplighter/parse.types", "lamplighter/parse.levels", "lamplighter/parse.signs"], apart := false, laid := [("lamplighter/lex.keys", laid_lamplighter_lex_keys), ("lamplighter/parse.types", laid_lamplighter_parse_types), ("lamplighter/parse.levels", laid_lamplighter_parse_levels), ("lamplighter/parse.signs", laid_lamplighter_parse_signs)] }
def ParseNamesSaid : Prop := parseNamesRow.holds Tryd.pinned (OpenSpec.ofChange parseNamesSpec)

/-- ITS FALSE NEIGHBOUR: 'it returns false'. Refute it at one input. -/
def parseNamesWrong : ChangeSpec := { name := "parseNames", fn := fun _ => fun
  | [] => { results := [.lit (.bool false)], args := [] }
  | _ => none }
def ParseNamesWrongFalsely : Prop := parseNamesRow.holds Tryd.pinned (OpenSpec.ofChange parseNamesWrong)

/- THE SECOND FORM. 'bulk': how many values and letters a reading holds, each counted each time it is reached (what is shared counts as often as it is met; a slice's spare places count too). A statement '..UptoSaid' is the law's where the arguments, and the package variables that the reading takes, are together of bulk at most 1048576: NARROWER than '..Said'. Prove '..Said' where nothing that the law and all that it calls make is longer than what came in: it says more and counts as full. Else prove '..UptoSaid'. A law counts once. -/
mutual
def uptoBulk {H : Type} : DataW H → Nat
  | .lit (.string bytes) => bytes.length + 1
  | .lit _ => 1
  | .nil => 1
  | .ptr d => uptoBulk d + 1
  | .slice elems spare => uptoBulkAll elems + uptoBulkAll spare + 1
  | .agg parts => uptoBulkAll parts + 1
  | .iface _ d => uptoBulk d + 1
  | .map entries => uptoBulkEntries entries + 1
  | .held _ => 1
def uptoBulkAll {H : Type} : List (DataW H) → Nat
  | [] => 0
  | d :: r => uptoBulk d + uptoBulkAll r
def uptoBulkEntries {H : Type} : List (Lit × DataW H) → Nat
  | [] => 0
  | x :: r => uptoBulkEntry x + uptoBulkEntries r
def uptoBulkEntry {H : Type} : Lit × DataW H → Nat
  | (.string bytes, d) => bytes.length + uptoBulk d + 1
  | (_, d) => uptoBulk d + 1
 end
def uptoSmall : (H : Type) → List (DataW H) → Bool := fun _ ds => decide (uptoBulkAll ds ≤ 1048576)
def OpenSpec.upto (s : _root_.Go.ChangeSpec) : _root_.Go.OpenSpec := { _root_.Go.OpenSpec.ofChange s with cond := some uptoSmall }

/-- 'lamplighterlaw06.AstCalls', WHERE WHAT IT READS IS OF BULK AT MOST 1048576: true; the input reads as it did. -/
def astCallsUptoRow : OpenClaim := { program := "ytjoidjpmpbidhaadoor", sum := "5f9ec864c6f475aed6e9c328cd3d31776074a8863a0e71935b1873216b347ce3", func := "lamplighter/lamplighterlaw06.AstCalls", spec := "astCalls", unfollowed := true, recurses := true, named := ["lamplighter/lex.keys"], loops := true, apart := false, laid := [("lamplighter/lex.keys", laid_lamplighter_lex_keys)], narrowed := true }
def AstCallsUptoSaid : Prop := astCallsUptoRow.holds Tryd.pinned (OpenSpec.upto astCallsSpec)

/-- 'lamplighterlaw06.AstParts', WHERE WHAT IT READS IS OF BULK AT MOST 1048576: true; the input reads as it did. -/
def astPartsUptoRow : OpenClaim := { program := "ytjoidjpmpbidhaadoor", sum := "5f9ec864c6f475aed6e9c328cd3d31776074a8863a0e71935b1873216b347ce3", func := "lamplighter/lamplighterlaw06.AstParts", spec := "astParts", unfollowed := true, recurses := true, named := ["lamplighter/lex.keys"], loops := true, apart := false, laid := [("lamplighter/lex.keys", laid_lamplighter_lex_keys)], narrowed := true }
def AstPartsUptoSaid : Prop := astPartsUptoRow.holds Tryd.pinned (OpenSpec.upto astPartsSpec)

/-- 'lamplighterlaw07.ParseBrackets', WHERE WHAT IT READS IS OF BULK AT MOST 1048576: true; the input reads as it did. -/
def parseBracketsUptoRow : OpenClaim := { program := "ytjoidjpmpbidhaadoor", sum := "5f9ec864c6f475aed6e9c328cd3d31776074a8863a0e71935b1873216b347ce3", func := "lamplighter/lamplighterlaw07.ParseBrackets", spec := "parseBrackets", inPlace := ["internal/bytealg.IndexByteString", "internal/bytealg.IndexString"], unfollowed := true, recurses := true, named := ["lamplighter/lex.keys", "internal/bytealg.MaxLen", "lamplighter/parse.levels", "lamplighter/parse.signs", "lamplighter/parse.types"], apart := false, laid := [("lamplighter/lex.keys", laid_lamplighter_lex_keys), ("lamplighter/parse.types", laid_lamplighter_parse_types), ("lamplighter/parse.levels", laid_lamplighter_parse_levels), ("lamplighter/parse.signs", laid_lamplighter_parse_signs)], narrowed := true }
def ParseBracketsUptoSaid : Prop := parseBracketsUptoRow.holds Tryd.pinned (OpenSpec.upto parseBracketsSpec)

/-- 'lamplighterlaw07.ParseBinds', WHERE WHAT IT READS IS OF BULK AT MOST 1048576: true; the input reads as it did. -/
def parseBindsUptoRow : OpenClaim := { program := "ytjoidjpmpbidhaadoor", sum := "5f9ec864c6f475aed6e9c328cd3d31776074a8863a0e71935b1873216b347ce3", func := "lamplighter/lamplighterlaw07.ParseBinds", spec := "parseBinds", inPlace := ["internal/bytealg.IndexByteString", "internal/bytealg.IndexString"], unfollowed := true, recurses := true, named := ["lamplighter/lex.keys", "internal/bytealg.MaxLen", "lamplighter/parse.levels", "lamplighter/parse.signs", "lamplighter/parse.types"], apart := false, laid := [("lamplighter/lex.keys", laid_lamplighter_lex_keys), ("lamplighter/parse.types", laid_lamplighter_parse_types), ("lamplighter/parse.levels", laid_lamplighter_parse_levels), ("lamplighter/parse.signs", laid_lamplighter_parse_signs)], narrowed := true }
def ParseBindsUptoSaid : Prop := parseBindsUptoRow.holds Tryd.pinned (OpenSpec.upto parseBindsSpec)

/-- 'lamplighterlaw07.ParseNames', WHERE WHAT IT READS IS OF BULK AT MOST 1048576: true; the input reads as it did. -/
def parseNamesUptoRow : OpenClaim := { program := "ytjoidjpmpbidhaadoor", sum := "5f9ec864c6f475aed6e9c328cd3d31776074a8863a0e71935b1873216b347ce3", func := "lamplighter/lamplighterlaw07.ParseNames", spec := "parseNames", inPlace := ["internal/bytealg.IndexByteString", "internal/bytealg.IndexString"], unfollowed := true, recurses := true, named := ["lamplighter/lex.keys", "internal/bytealg.MaxLen", "lamplighter/parse.types", "lamplighter/parse.levels", "lamplighter/parse.signs"], apart := false, laid := [("lamplighter/lex.keys", laid_lamplighter_lex_keys), ("lamplighter/parse.types", laid_lamplighter_parse_types), ("lamplighter/parse.levels", laid_lamplighter_parse_levels), ("lamplighter/parse.signs", laid_lamplighter_parse_signs)], narrowed := true }
def ParseNamesUptoSaid : Prop := parseNamesUptoRow.holds Tryd.pinned (OpenSpec.upto parseNamesSpec)

end Rows
end Go.Proofs.YtjoidjpmpbidhaaDoor
