/-
  ParseNames: the machine.
  ParseNames: its closed calls.
-/
import Derived.Test.YtjoidjpmpbidhaaDoorPnCodeB
import Derived.Test.YtjoidjpmpbidhaaDoorLtI
import Derived.KernelRfl
set_option linter.all false
namespace Go.Lt
def glP (M : Int) : Env := [(Gl.parse_levels, .cptr gLevels), (Gl.parse_signs, .cptr [gSigns]), (Gl.parse_types, .cptr [gTypes]), (Gl.lex_keys, .cptr [gKeys]), (Gl.internal_bytealg_MaxLen, .cptr [.int .i64 M])]
/-- the machine, told of nothing -/
def cfgL (M : Int) : Cfg where
  fn := fnTree.get
  gl := fun g => (glP M).get g
  prim := fun _ => none
  catch_ := fun f => match Nat.beq f F.parse_catch with
    | true => some (1, catchφ 5 c_parse_catch)
    | false => none
  dok := fun f => Nat.beq f F.parse_Parse_1 || Nat.beq f F.parse_Expr_1 || Nat.beq f F.parse_Stmts_1
/-- the pairs of bytes that this claim's sources bring to strings.Contains -/
def pnPairs : List (Nat × Nat) := [(125, 10), (40, 117), (40, 49), (41, 59), (42, 51), (43, 50), (59, 10), (60, 120), (91, 48), (91, 50), (93, 59)]
def pnMemo0 : List Memo := pnPairs.map fun p => ⟨F.strings_Contains, [.str twoSigns, .str [p.1, p.2]], .bool false⟩
def cfgP (M : Int) : Cfg := (cfgL M).memo pnMemo0
/-- the closed calls of a list, each run -/
def runs (C : Cfg) (n : Nat) (l : List Memo) : Bool := l.all fun m => isRet (eqAV m.v) (callK C n (.fn m.f) m.as [])
def isTrue : T (AOut × List Blk) → Bool
  | .ret (.ret (.bool true), _) => true
  | _ => false
end Go.Lt
set_option maxRecDepth 100000
namespace Go.Lt
open Go
def pnA0 : List AV := [.str [115, 116, 97, 99, 107, 32, 57, 59, 10, 117, 56, 32, 97, 91, 50, 93, 32, 61, 32, 49, 44, 32, 50, 59, 10, 112, 111, 114, 116, 32, 98, 111, 116, 104, 32, 122, 59, 10, 102, 117, 110, 99, 32, 102, 40, 117, 56, 32, 120, 41, 32, 123, 32, 114, 101, 116, 117, 114, 110, 32, 120, 59, 32, 125, 10, 109, 97, 105, 110, 32, 123, 32, 97, 91, 48, 93, 32, 61, 32, 102, 40, 49, 41, 59, 32, 125, 10, 111, 110, 32, 51, 32, 112, 114, 105, 111, 32, 50, 32, 123, 32, 125]]
def pnV0 : AV := .tup [.agg [.int .i64 9, .sl false [.agg [.str [97], .int .i64 1, .int .i64 2, .sl false [.int .u32 1, .int .u32 2], .int .i64 2]], .sl false [.agg [.str [122], .bool true, .bool true, .int .i64 3]], .sl false [.agg [.int .i64 1, .str [102], .sl false [.agg [.str [120], .int .i64 1]], .int .i64 0, .int .i64 0, .sl false [.agg [.int .i64 6, .int .i64 4, .int .i64 0, .int .i64 0, .str [], .sl false [], .sl false [], .sl false [.agg [.int .i64 2, .int .i64 0, .int .i64 0, .int .u32 0, .str [120], .sl false []]], .sl false [], .sl false []]], .int .i64 4], .agg [.int .i64 2, .str [], .sl false [], .int .i64 0, .int .i64 0, .sl false [.agg [.int .i64 2, .int .i64 5, .int .i64 0, .int .i64 0, .str [97], .sl false [], .sl false [.agg [.int .i64 1, .int .i64 0, .int .i64 0, .int .u32 0, .str [], .sl false []]], .sl false [.agg [.int .i64 4, .int .i64 0, .int .i64 0, .int .u32 0, .str [102], .sl false [.agg [.int .i64 1, .int .i64 0, .int .i64 0, .int .u32 1, .str [], .sl false []]]]], .sl false [], .sl false []]], .int .i64 5], .agg [.int .i64 3, .str [], .sl false [], .int .i64 3, .int .i64 2, .sl false [], .int .i64 6]]], .agg [.int .i64 0, .int .i64 0, .int .i64 0]]
def pnA1 : List AV := [.str [115, 116, 97, 99, 107, 32, 48, 59]]
def pnV1 : AV := .tup [.agg [.int .i64 0, .sl false [], .sl false [], .sl false []], .agg [.int .i64 14, .int .i64 0, .int .i64 0]]
def pnA2 : List AV := [.str [115, 116, 97, 99, 107, 32, 57, 59, 32, 117, 56, 32, 97, 91, 48, 93, 59]]
def pnV2 : AV := .tup [.agg [.int .i64 0, .sl false [], .sl false [], .sl false []], .agg [.int .i64 14, .int .i64 0, .int .i64 0]]
def pnA3 : List AV := [.str [49, 43, 50, 42, 51, 60, 120]]
def pnV3 : AV := .tup [.agg [.int .i64 6, .int .i64 16, .int .i64 0, .int .u32 0, .str [], .sl false [.agg [.int .i64 6, .int .i64 1, .int .i64 0, .int .u32 0, .str [], .sl false [.agg [.int .i64 1, .int .i64 0, .int .i64 0, .int .u32 1, .str [], .sl false []], .agg [.int .i64 6, .int .i64 3, .int .i64 0, .int .u32 0, .str [], .sl false [.agg [.int .i64 1, .int .i64 0, .int .i64 0, .int .u32 2, .str [], .sl false []], .agg [.int .i64 1, .int .i64 0, .int .i64 0, .int .u32 3, .str [], .sl false []]]]]], .agg [.int .i64 2, .int .i64 0, .int .i64 0, .int .u32 0, .str [120], .sl false []]]], .agg [.int .i64 0, .int .i64 0, .int .i64 0]]
def pnA4 : List AV := [.str [49, 43]]
def pnV4 : AV := .tup [.agg [.int .i64 0, .int .i64 0, .int .i64 0, .int .u32 0, .str [], .sl false []], .agg [.int .i64 14, .int .i64 1, .int .i64 3]]
def pnA5 : List AV := [.str [120, 32, 61, 32, 59]]
def pnV5 : AV := .tup [.sl false [], .agg [.int .i64 14, .int .i64 1, .int .i64 5]]
def pnA6 : List AV := [.str [115, 116, 97, 99, 107, 32, 57, 59, 10, 117, 56, 32, 97, 91, 50, 93, 32, 61, 32, 49, 44, 32, 50, 59, 10, 112, 111, 114, 116, 32, 98, 111, 116, 104, 32, 122, 59, 10, 102, 117, 110, 99, 32, 102, 40, 117, 56, 32, 120, 41, 32, 123, 32, 114, 101, 116, 117, 114, 110, 32, 120, 59, 32, 125, 10, 109, 97, 105, 110, 32, 123, 32, 97, 91, 48, 93, 32, 61, 32, 102, 40, 49, 41, 59, 32, 125, 10, 111, 110, 32, 51, 32, 112, 114, 105, 111, 32, 50, 32, 123, 32, 125]]
def pnV6 : AV := .tup [.sl false [.agg [.int .i64 2, .str [115, 116, 97, 99, 107], .int .i64 1, .int .i64 1, .int .u32 0], .agg [.int .i64 3, .str [57], .int .i64 1, .int .i64 7, .int .u32 9], .agg [.int .i64 4, .str [59], .int .i64 1, .int .i64 8, .int .u32 0], .agg [.int .i64 2, .str [117, 56], .int .i64 2, .int .i64 1, .int .u32 0], .agg [.int .i64 1, .str [97], .int .i64 2, .int .i64 4, .int .u32 0], .agg [.int .i64 4, .str [91], .int .i64 2, .int .i64 5, .int .u32 0], .agg [.int .i64 3, .str [50], .int .i64 2, .int .i64 6, .int .u32 2], .agg [.int .i64 4, .str [93], .int .i64 2, .int .i64 7, .int .u32 0], .agg [.int .i64 4, .str [61], .int .i64 2, .int .i64 9, .int .u32 0], .agg [.int .i64 3, .str [49], .int .i64 2, .int .i64 11, .int .u32 1], .agg [.int .i64 4, .str [44], .int .i64 2, .int .i64 12, .int .u32 0], .agg [.int .i64 3, .str [50], .int .i64 2, .int .i64 14, .int .u32 2], .agg [.int .i64 4, .str [59], .int .i64 2, .int .i64 15, .int .u32 0], .agg [.int .i64 2, .str [112, 111, 114, 116], .int .i64 3, .int .i64 1, .int .u32 0], .agg [.int .i64 2, .str [98, 111, 116, 104], .int .i64 3, .int .i64 6, .int .u32 0], .agg [.int .i64 1, .str [122], .int .i64 3, .int .i64 11, .int .u32 0], .agg [.int .i64 4, .str [59], .int .i64 3, .int .i64 12, .int .u32 0], .agg [.int .i64 2, .str [102, 117, 110, 99], .int .i64 4, .int .i64 1, .int .u32 0], .agg [.int .i64 1, .str [102], .int .i64 4, .int .i64 6, .int .u32 0], .agg [.int .i64 4, .str [40], .int .i64 4, .int .i64 7, .int .u32 0], .agg [.int .i64 2, .str [117, 56], .int .i64 4, .int .i64 8, .int .u32 0], .agg [.int .i64 1, .str [120], .int .i64 4, .int .i64 11, .int .u32 0], .agg [.int .i64 4, .str [41], .int .i64 4, .int .i64 12, .int .u32 0], .agg [.int .i64 4, .str [123], .int .i64 4, .int .i64 14, .int .u32 0], .agg [.int .i64 2, .str [114, 101, 116, 117, 114, 110], .int .i64 4, .int .i64 16, .int .u32 0], .agg [.int .i64 1, .str [120], .int .i64 4, .int .i64 23, .int .u32 0], .agg [.int .i64 4, .str [59], .int .i64 4, .int .i64 24, .int .u32 0], .agg [.int .i64 4, .str [125], .int .i64 4, .int .i64 26, .int .u32 0], .agg [.int .i64 2, .str [109, 97, 105, 110], .int .i64 5, .int .i64 1, .int .u32 0], .agg [.int .i64 4, .str [123], .int .i64 5, .int .i64 6, .int .u32 0], .agg [.int .i64 1, .str [97], .int .i64 5, .int .i64 8, .int .u32 0], .agg [.int .i64 4, .str [91], .int .i64 5, .int .i64 9, .int .u32 0], .agg [.int .i64 3, .str [48], .int .i64 5, .int .i64 10, .int .u32 0], .agg [.int .i64 4, .str [93], .int .i64 5, .int .i64 11, .int .u32 0], .agg [.int .i64 4, .str [61], .int .i64 5, .int .i64 13, .int .u32 0], .agg [.int .i64 1, .str [102], .int .i64 5, .int .i64 15, .int .u32 0], .agg [.int .i64 4, .str [40], .int .i64 5, .int .i64 16, .int .u32 0], .agg [.int .i64 3, .str [49], .int .i64 5, .int .i64 17, .int .u32 1], .agg [.int .i64 4, .str [41], .int .i64 5, .int .i64 18, .int .u32 0], .agg [.int .i64 4, .str [59], .int .i64 5, .int .i64 19, .int .u32 0], .agg [.int .i64 4, .str [125], .int .i64 5, .int .i64 21, .int .u32 0], .agg [.int .i64 2, .str [111, 110], .int .i64 6, .int .i64 1, .int .u32 0], .agg [.int .i64 3, .str [51], .int .i64 6, .int .i64 4, .int .u32 3], .agg [.int .i64 2, .str [112, 114, 105, 111], .int .i64 6, .int .i64 6, .int .u32 0], .agg [.int .i64 3, .str [50], .int .i64 6, .int .i64 11, .int .u32 2], .agg [.int .i64 4, .str [123], .int .i64 6, .int .i64 13, .int .u32 0], .agg [.int .i64 4, .str [125], .int .i64 6, .int .i64 15, .int .u32 0]], .agg [.int .i64 0, .int .i64 0, .int .i64 0]]
def pnA7 : List AV := [.str [115, 116, 97, 99, 107, 32, 57, 59, 10, 117, 56, 32, 97, 91, 50, 93, 32, 61, 32, 49, 44, 32, 50, 59, 10, 112, 111, 114, 116, 32, 98, 111, 116, 104, 32, 122, 59, 10, 102, 117, 110, 99, 32, 102, 40, 117, 56, 32, 120, 41, 32, 123, 32, 114, 101, 116, 117, 114, 110, 32, 120, 59, 32, 125, 10, 109, 97, 105, 110, 32, 123, 32, 97, 91, 48, 93, 32, 61, 32, 102, 40, 49, 41, 59, 32, 125, 10, 111, 110, 32, 51, 32, 112, 114, 105, 111, 32, 50, 32, 123, 32, 125], .int .i64 102]
def pnV7 : AV := .tup [.int .i64 6, .int .i64 16]
def pnA8 : List AV := [.agg [.int .i64 9, .sl false [.agg [.str [97], .int .i64 1, .int .i64 2, .sl false [.int .u32 1, .int .u32 2], .int .i64 2]], .sl false [.agg [.str [122], .bool true, .bool true, .int .i64 3]], .sl false [.agg [.int .i64 1, .str [102], .sl false [.agg [.str [120], .int .i64 1]], .int .i64 0, .int .i64 0, .sl false [.agg [.int .i64 6, .int .i64 4, .int .i64 0, .int .i64 0, .str [], .sl false [], .sl false [], .sl false [.agg [.int .i64 2, .int .i64 0, .int .i64 0, .int .u32 0, .str [120], .sl false []]], .sl false [], .sl false []]], .int .i64 4], .agg [.int .i64 2, .str [], .sl false [], .int .i64 0, .int .i64 0, .sl false [.agg [.int .i64 2, .int .i64 5, .int .i64 0, .int .i64 0, .str [97], .sl false [], .sl false [.agg [.int .i64 1, .int .i64 0, .int .i64 0, .int .u32 0, .str [], .sl false []]], .sl false [.agg [.int .i64 4, .int .i64 0, .int .i64 0, .int .u32 0, .str [102], .sl false [.agg [.int .i64 1, .int .i64 0, .int .i64 0, .int .u32 1, .str [], .sl false []]]]], .sl false [], .sl false []]], .int .i64 5], .agg [.int .i64 3, .str [], .sl false [], .int .i64 3, .int .i64 2, .sl false [], .int .i64 6]]]]
def pnV8 : AV := .int .i64 0
def pnMemo1 : List Memo := [⟨F.lex_All, pnA6, pnV6⟩]
def pnMemo2 : List Memo := [⟨F.lex_Line, pnA7, pnV7⟩, ⟨F.ast_Check, pnA8, pnV8⟩]
def pnMemo12 : List Memo := [⟨F.lex_All, pnA6, pnV6⟩, ⟨F.lex_Line, pnA7, pnV7⟩, ⟨F.ast_Check, pnA8, pnV8⟩]
def pnMemo3 : List Memo := [⟨F.parse_Parse, pnA0, pnV0⟩]
def pnMemo4 : List Memo := [⟨F.parse_Parse, pnA1, pnV1⟩, ⟨F.parse_Parse, pnA2, pnV2⟩, ⟨F.parse_Expr, pnA3, pnV3⟩]
def pnMemo5 : List Memo := [⟨F.parse_Expr, pnA4, pnV4⟩, ⟨F.parse_Stmts, pnA5, pnV5⟩]
def pnMemo345 : List Memo := [⟨F.parse_Parse, pnA0, pnV0⟩, ⟨F.parse_Parse, pnA1, pnV1⟩, ⟨F.parse_Parse, pnA2, pnV2⟩, ⟨F.parse_Expr, pnA3, pnV3⟩, ⟨F.parse_Expr, pnA4, pnV4⟩, ⟨F.parse_Stmts, pnA5, pnV5⟩]
def cfgP1 (M : Int) : Cfg := (cfgP M).memo pnMemo12
def cfgP2 (M : Int) : Cfg := (cfgP1 M).memo pnMemo345
end Go.Lt
