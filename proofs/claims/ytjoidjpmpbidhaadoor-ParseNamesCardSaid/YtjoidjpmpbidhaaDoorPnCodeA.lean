/-
  Abstract code, printed by a program out of the translation.
-/
import Derived.Test.YtjoidjpmpbidhaaDoorLtI
set_option linter.all false
set_option maxRecDepth 100000
namespace Go.Lt
namespace F
def law07_ParseNames : Nat := 7
def parse_Parse : Nat := 40
def law07_lives : Nat := 36
def parse_Level : Nat := 39
def parse_Parse_1 : Nat := 84
def parse_catch : Nat := 78
def parse_begin : Nat := 79
def parse_parser_must : Nat := 85
def parse_parser_number : Nat := 86
def parse_parser_isType : Nat := 87
def parse_parser_declared : Nat := 88
def parse_parser_is : Nat := 89
def parse_parser_gate : Nat := 90
def parse_parser_decl : Nat := 91
def ast_Check : Nat := 12
def parse_judge : Nat := 82
def parse_Expr : Nat := 37
def parse_Stmts : Nat := 74
def law07_num : Nat := 76
def law07_bin : Nat := 75
def kit_Expr : Nat := 38
def lex_All : Nat := 106
def lex_Line : Nat := 107
def parse_parser_may : Nat := 109
def parse_parser_wrong : Nat := 110
def parse_parser_now : Nat := 112
def parse_parser_typ : Nat := 113
def parse_parser_name : Nat := 114
def parse_parser_block : Nat := 115
def ast_all : Nat := 44
def ast_check : Nat := 45
def ast_global : Nat := 46
def ast_name : Nat := 47
def ast_decl : Nat := 48
def parse_long : Nat := 111
def parse_Expr_1 : Nat := 77
def parse_parser_expr : Nat := 80
def parse_parser_end : Nat := 81
def ast_CheckExpr : Nat := 14
def parse_Stmts_1 : Nat := 104
def parse_parser_stmt : Nat := 105
def ast_CheckStmt : Nat := 16
def kit_Exprs : Nat := 83
def lex_between : Nat := 134
def lex_lexer_skip : Nat := 135
def ast_all_1 : Nat := 93
def ast_each_api_Stmt : Nat := 92
def ast_node_size : Nat := 56
def ast_node_deep : Nat := 57
def ast_node_right : Nat := 94
def ast_Width : Nat := 28
def lex_Kind : Nat := 95
def slices_ContainsFunc_api_Param_api_Param : Nat := 96
def ast_decl_1 : Nat := 97
def parse_parser_unary : Nat := 108
def parse_parser_one : Nat := 131
def parse_parser_test : Nat := 132
def parse_parser_args : Nat := 133
def lex_lexer_now : Nat := 142
def strings_IndexByte : Nat := 143
def lex_letter : Nat := 118
def lex_word : Nat := 144
def lex_digit : Nat := 119
def lex_number : Nat := 145
def lex_sign : Nat := 146
def ast_node_children : Nat := 103
def ast_expr : Nat := 116
def ast_stmt : Nat := 117
def slices_IndexFunc_api_Param_api_Param : Nat := 120
def parse_parser_primary : Nat := 136
def internal_stringslite_IndexByte : Nat := 148
def lex_lexer_token : Nat := 149
def lex_hex : Nat := 150
def strings_Contains : Nat := 151
def ast_node_children_1 : Nat := 124
def ast_same : Nat := 68
def word_Name : Nat := 137
def ast_operator : Nat := 138
def ast_stmt_1 : Nat := 139
def slices_ContainsFunc_string_string : Nat := 140
def ast_stmt_2 : Nat := 141
def internal_bytealg_IndexByteString : Nat := 152
def strings_Index : Nat := 153
def ast_node_children_1_1 : Nat := 126
def ast_each_api_Expr : Nat := 125
def ast_node_children_1_2 : Nat := 127
def ast_node_children_1_3 : Nat := 128
def ast_node_children_1_4 : Nat := 129
def ast_node_children_1_5 : Nat := 130
def slices_IndexFunc_string_string : Nat := 147
def internal_stringslite_Index : Nat := 154
def internal_bytealg_IndexString : Nat := 155
def internal_bytealg_Cutover : Nat := 156
def internal_bytealg_IndexRabinKarp_string : Nat := 157
def internal_bytealg_hashStr_string : Nat := 158
end F
namespace Ty
def check_wrong : Nat := 0
def parse_thrown : Nat := 144
end Ty
namespace Gl
def parse_levels : Nat := 0
def parse_signs : Nat := 1
def parse_types : Nat := 2
def lex_keys : Nat := 3
def internal_bytealg_MaxLen : Nat := 4
end Gl
def r_law07_ParseNames_0 : List AOper := [
  ⟨some 0, .mv (.k (.bool false)), none, 0, []⟩]
def r_law07_ParseNames_1 : List AOper := [
  ⟨some 8, .call true (.k (.fn F.parse_Parse [] [])) [.k (.str [115, 116, 97, 99, 107, 32, 57, 59, 10, 117, 56, 32, 97, 91, 50, 93, 32, 61, 32, 49, 44, 32, 50, 59, 10, 112, 111, 114, 116, 32, 98, 111, 116, 104, 32, 122, 59, 10, 102, 117, 110, 99, 32, 102, 40, 117, 56, 32, 120, 41, 32, 123, 32, 114, 101, 116, 117, 114, 110, 32, 120, 59, 32, 125, 10, 109, 97, 105, 110, 32, 123, 32, 97, 91, 48, 93, 32, 61, 32, 102, 40, 49, 41, 59, 32, 125, 10, 111, 110, 32, 51, 32, 112, 114, 105, 111, 32, 50, 32, 123, 32, 125])], none, 0, []⟩,
  ⟨some 7, .mv (.t 8), none, 0, []⟩,
  ⟨some 9, .ext (.t 7) 0, none, 0, []⟩,
  ⟨some 10, .ext (.t 7) 1, none, 0, []⟩,
  ⟨some 1, .allocL 1 [.int .i64 0, .sl true [], .sl true [], .sl true []], none, 0, []⟩,
  ⟨some 2, .allocL 2 [.int .i64 0, .int .i64 0, .int .i64 0], none, 0, []⟩,
  ⟨none, .stL 4 (.t 1) (.t 9), none, 0, []⟩,
  ⟨none, .stL 3 (.t 2) (.t 10), none, 0, []⟩]
def r_law07_ParseNames_2 : List AOper := [
  ⟨some 12, .call true (.k (.fn F.parse_Parse [] [])) [.k (.str [115, 116, 97, 99, 107, 32, 48, 59])], none, 0, []⟩,
  ⟨some 11, .mv (.t 12), none, 0, []⟩,
  ⟨some 13, .ext (.t 11) 0, none, 0, []⟩,
  ⟨some 14, .ext (.t 11) 1, none, 0, []⟩,
  ⟨some 3, .allocL 3 [.int .i64 0, .sl true [], .sl true [], .sl true []], none, 0, []⟩,
  ⟨some 4, .allocL 4 [.int .i64 0, .int .i64 0, .int .i64 0], none, 0, []⟩,
  ⟨none, .stL 4 (.t 3) (.t 13), none, 0, []⟩,
  ⟨none, .stL 3 (.t 4) (.t 14), none, 0, []⟩]
def r_law07_ParseNames_3 : List AOper := [
  ⟨some 16, .call true (.k (.fn F.parse_Parse [] [])) [.k (.str [115, 116, 97, 99, 107, 32, 57, 59, 32, 117, 56, 32, 97, 91, 48, 93, 59])], none, 0, []⟩,
  ⟨some 15, .mv (.t 16), none, 0, []⟩,
  ⟨some 17, .ext (.t 15) 0, none, 0, []⟩,
  ⟨some 18, .ext (.t 15) 1, none, 0, []⟩,
  ⟨some 5, .allocL 5 [.int .i64 0, .sl true [], .sl true [], .sl true []], none, 0, []⟩,
  ⟨some 6, .allocL 6 [.int .i64 0, .int .i64 0, .int .i64 0], none, 0, []⟩,
  ⟨none, .stL 4 (.t 5) (.t 17), none, 0, []⟩,
  ⟨none, .stL 3 (.t 6) (.t 18), none, 0, []⟩]
def r_law07_ParseNames_4 : List AOper := [
  ⟨some 19, .call true (.k (.fn F.law07_lives [] [])) [], none, 0, []⟩,
  ⟨some 20, .mv (.t 19), none, 0, []⟩,
  ⟨some 21, .ldL (some 3) (.t 2) false, some (20, true), 0, []⟩,
  ⟨some 22, .build [.int .i64 0, .int .i64 0, .int .i64 0] [], some (20, true), 0, []⟩,
  ⟨some 23, .eqS false [0, 0, 0] (.t 21) (.t 22), some (20, true), 0, []⟩,
  ⟨some 24, .pick (.t 20) (.t 23) (.k (.bool false)), none, 0, []⟩,
  ⟨some 25, .mv (.t 24), none, 0, []⟩,
  ⟨some 26, .fad 0 (.t 1), some (25, true), 0, []⟩,
  ⟨some 27, .ldL (none) (.t 26) false, some (25, true), 0, []⟩,
  ⟨some 28, .bin 0 .eql (.t 27) (.k (.int .i64 9)), some (25, true), 0, []⟩,
  ⟨some 29, .pick (.t 25) (.t 28) (.k (.bool false)), none, 0, []⟩,
  ⟨some 30, .mv (.t 29), none, 0, []⟩,
  ⟨some 31, .fad 1 (.t 1), some (30, true), 0, []⟩,
  ⟨some 32, .ldL (none) (.t 31) false, some (30, true), 0, []⟩,
  ⟨some 33, .len 1 (.t 32), some (30, true), 0, []⟩,
  ⟨some 34, .bin 0 .eql (.t 33) (.k (.int .i64 1)), some (30, true), 0, []⟩,
  ⟨some 35, .pick (.t 30) (.t 34) (.k (.bool false)), none, 0, []⟩,
  ⟨some 36, .mv (.t 35), none, 0, []⟩,
  ⟨some 37, .fad 1 (.t 1), some (36, true), 0, []⟩,
  ⟨some 38, .ldL (none) (.t 37) false, some (36, true), 0, []⟩,
  ⟨some 39, .iad 5 (.t 38) (.k (.int .i64 0)), some (36, true), 0, []⟩,
  ⟨some 40, .fad 2 (.t 39), some (36, true), 0, []⟩,
  ⟨some 41, .ldC (none) (.t 40), some (36, true), 0, []⟩,
  ⟨some 42, .bin 0 .eql (.t 41) (.k (.int .i64 2)), some (36, true), 0, []⟩,
  ⟨some 43, .pick (.t 36) (.t 42) (.k (.bool false)), none, 0, []⟩,
  ⟨some 44, .mv (.t 43), none, 0, []⟩,
  ⟨some 45, .fad 1 (.t 1), some (44, true), 0, []⟩,
  ⟨some 46, .ldL (none) (.t 45) false, some (44, true), 0, []⟩,
  ⟨some 47, .iad 5 (.t 46) (.k (.int .i64 0)), some (44, true), 0, []⟩,
  ⟨some 48, .fad 4 (.t 47), some (44, true), 0, []⟩,
  ⟨some 49, .ldC (none) (.t 48), some (44, true), 0, []⟩,
  ⟨some 50, .bin 0 .eql (.t 49) (.k (.int .i64 2)), some (44, true), 0, []⟩,
  ⟨some 51, .pick (.t 44) (.t 50) (.k (.bool false)), none, 0, []⟩,
  ⟨some 52, .mv (.t 51), none, 0, []⟩,
  ⟨some 53, .fad 2 (.t 1), some (52, true), 0, []⟩,
  ⟨some 54, .ldL (none) (.t 53) false, some (52, true), 0, []⟩,
  ⟨some 55, .len 1 (.t 54), some (52, true), 0, []⟩,
  ⟨some 56, .bin 0 .eql (.t 55) (.k (.int .i64 1)), some (52, true), 0, []⟩,
  ⟨some 57, .pick (.t 52) (.t 56) (.k (.bool false)), none, 0, []⟩,
  ⟨some 58, .mv (.t 57), none, 0, []⟩,
  ⟨some 59, .fad 2 (.t 1), some (58, true), 0, []⟩,
  ⟨some 60, .ldL (none) (.t 59) false, some (58, true), 0, []⟩,
  ⟨some 61, .iad 4 (.t 60) (.k (.int .i64 0)), some (58, true), 0, []⟩,
  ⟨some 62, .fad 1 (.t 61), some (58, true), 0, []⟩,
  ⟨some 63, .ldC (none) (.t 62), some (58, true), 0, []⟩,
  ⟨some 64, .pick (.t 58) (.t 63) (.k (.bool false)), none, 0, []⟩,
  ⟨some 65, .mv (.t 64), none, 0, []⟩,
  ⟨some 66, .fad 2 (.t 1), some (65, true), 0, []⟩,
  ⟨some 67, .ldL (none) (.t 66) false, some (65, true), 0, []⟩,
  ⟨some 68, .iad 4 (.t 67) (.k (.int .i64 0)), some (65, true), 0, []⟩,
  ⟨some 69, .fad 2 (.t 68), some (65, true), 0, []⟩,
  ⟨some 70, .ldC (none) (.t 69), some (65, true), 0, []⟩,
  ⟨some 71, .pick (.t 65) (.t 70) (.k (.bool false)), none, 0, []⟩,
  ⟨some 72, .mv (.t 71), none, 0, []⟩,
  ⟨some 73, .fad 3 (.t 1), some (72, true), 0, []⟩,
  ⟨some 74, .ldL (none) (.t 73) false, some (72, true), 0, []⟩,
  ⟨some 75, .len 1 (.t 74), some (72, true), 0, []⟩,
  ⟨some 76, .bin 0 .eql (.t 75) (.k (.int .i64 3)), some (72, true), 0, []⟩,
  ⟨some 77, .pick (.t 72) (.t 76) (.k (.bool false)), none, 0, []⟩,
  ⟨some 78, .mv (.t 77), none, 0, []⟩,
  ⟨some 79, .fad 3 (.t 1), some (78, true), 0, []⟩,
  ⟨some 80, .ldL (none) (.t 79) false, some (78, true), 0, []⟩,
  ⟨some 81, .iad 7 (.t 80) (.k (.int .i64 2)), some (78, true), 0, []⟩,
  ⟨some 82, .fad 4 (.t 81), some (78, true), 0, []⟩,
  ⟨some 83, .ldC (none) (.t 82), some (78, true), 0, []⟩,
  ⟨some 84, .bin 0 .eql (.t 83) (.k (.int .i64 2)), some (78, true), 0, []⟩,
  ⟨some 85, .pick (.t 78) (.t 84) (.k (.bool false)), none, 0, []⟩,
  ⟨some 86, .mv (.t 85), none, 0, []⟩,
  ⟨some 87, .fad 3 (.t 1), some (86, true), 0, []⟩,
  ⟨some 88, .ldL (none) (.t 87) false, some (86, true), 0, []⟩,
  ⟨some 89, .iad 7 (.t 88) (.k (.int .i64 1)), some (86, true), 0, []⟩,
  ⟨some 90, .fad 5 (.t 89), some (86, true), 0, []⟩,
  ⟨some 91, .ldC (none) (.t 90), some (86, true), 0, []⟩,
  ⟨some 92, .iad 10 (.t 91) (.k (.int .i64 0)), some (86, true), 0, []⟩,
  ⟨some 93, .fad 1 (.t 92), some (86, true), 0, []⟩,
  ⟨some 94, .ldC (none) (.t 93), some (86, true), 0, []⟩,
  ⟨some 95, .bin 0 .eql (.t 94) (.k (.int .i64 5)), some (86, true), 0, []⟩,
  ⟨some 96, .pick (.t 86) (.t 95) (.k (.bool false)), none, 0, []⟩,
  ⟨some 97, .mv (.t 96), none, 0, []⟩,
  ⟨some 98, .ldL (some 3) (.t 4) false, some (97, true), 0, []⟩,
  ⟨some 99, .build [.int .i64 0, .int .i64 0, .int .i64 0] [(0, 1, .k (.int .i64 14))], some (97, true), 0, []⟩,
  ⟨some 100, .eqS false [0, 0, 0] (.t 98) (.t 99), some (97, true), 0, []⟩,
  ⟨some 101, .pick (.t 97) (.t 100) (.k (.bool false)), none, 0, []⟩,
  ⟨some 102, .mv (.t 101), none, 0, []⟩,
  ⟨some 103, .ldL (some 3) (.t 6) false, some (102, true), 0, []⟩,
  ⟨some 104, .ldL (some 3) (.t 4) false, some (102, true), 0, []⟩,
  ⟨some 105, .eqS false [0, 0, 0] (.t 103) (.t 104), some (102, true), 0, []⟩,
  ⟨some 106, .pick (.t 102) (.t 105) (.k (.bool false)), none, 0, []⟩,
  ⟨some 107, .mv (.t 106), none, 0, []⟩,
  ⟨some 108, .call true (.k (.fn F.parse_Level [] [])) [.k (.int .i64 21)], some (107, true), 0, []⟩,
  ⟨some 109, .bin 0 .eql (.t 108) (.k (.int .i64 5)), some (107, true), 0, []⟩,
  ⟨some 110, .pick (.t 107) (.t 109) (.k (.bool false)), none, 0, []⟩,
  ⟨some 111, .mv (.t 110), none, 0, []⟩,
  ⟨some 112, .call true (.k (.fn F.parse_Level [] [])) [.k (.int .i64 13)], some (111, true), 0, []⟩,
  ⟨some 113, .bin 0 .eql (.t 112) (.k (.int .i64 0)), some (111, true), 0, []⟩,
  ⟨some 114, .pick (.t 111) (.t 113) (.k (.bool false)), none, 0, []⟩,
  ⟨some 0, .mv (.t 114), none, 0, []⟩]
def c_law07_ParseNames : AC :=
  (.seq
   (.reg false r_law07_ParseNames_0 (some []))
   (.seq
    (.reg false r_law07_ParseNames_1 (some [1, 2]))
    (.seq
     (.reg false r_law07_ParseNames_2 (some [1, 2, 4]))
     (.seq
      (.reg false r_law07_ParseNames_3 (some [1, 2, 4, 6]))
      (.seq
       (.reg false r_law07_ParseNames_4 (some [0]))
       .ret)))))
def f_law07_ParseNames : AFun := ⟨0, [.tmp 0], c_law07_ParseNames⟩

def r_parse_Parse_0 : List AOper := [
  ⟨some 2, .allocH [.int .i64 0, .sl true [], .sl true [], .sl true []], none, 0, []⟩,
  ⟨some 3, .allocH [.int .i64 0, .int .i64 0, .int .i64 0], none, 0, []⟩]
def r_parse_Parse_1 : List AOper := [
  ⟨some 12, .mkfn F.parse_Parse_1 [] [.t 3, .t 2], none, 0, []⟩,
  ⟨none, .dfr (.t 12) [], none, 0, []⟩]
def r_parse_Parse_2 : List AOper := [
  ⟨none, .dfr (.k (.fn F.parse_catch [] [])) [.t 3], none, 0, []⟩]
def r_parse_Parse_3 : List AOper := [
  ⟨some 13, .mv (.t 0), none, 0, []⟩,
  ⟨some 14, .call false (.k (.fn F.parse_begin [] [])) [.t 13], none, 0, []⟩,
  ⟨some 4, .mv (.t 14), none, 0, []⟩]
def r_parse_Parse_4 : List AOper := [
  ⟨some 5, .allocL 5 [.int .i64 0, .sl true [], .sl true [], .sl true []], none, 0, []⟩]
def r_parse_Parse_5 : List AOper := [
  ⟨some 6, .mv (.k (.bool false)), none, 0, []⟩]
def r_parse_Parse_6 : List AOper := [
  ⟨some 15, .mv (.t 4), none, 0, []⟩,
  ⟨some 16, .call false (.k (.fn F.parse_parser_must [] [])) [.t 15, .k (.str [115, 116, 97, 99, 107])], none, 0, []⟩]
def r_parse_Parse_7 : List AOper := [
  ⟨some 17, .mv (.t 4), none, 0, []⟩,
  ⟨some 18, .call false (.k (.fn F.parse_parser_number [] [])) [.t 17], none, 0, []⟩,
  ⟨some 19, .cvI .i64 (.t 18), none, 0, []⟩,
  ⟨some 20, .fad 0 (.t 5), none, 0, []⟩,
  ⟨none, .stL 1 (.t 20) (.t 19), none, 0, []⟩]
def r_parse_Parse_8 : List AOper := [
  ⟨some 21, .mv (.t 4), none, 0, []⟩,
  ⟨some 22, .call false (.k (.fn F.parse_parser_must [] [])) [.t 21, .k (.str [59])], none, 0, []⟩]
def r_parse_Parse_9 : List AOper := [
  ⟨some 23, .mv (.t 4), none, 0, []⟩,
  ⟨some 24, .nilck (.t 23), none, 1, [0]⟩,
  ⟨some 25, .fad 1 (.t 24), none, 2, [0, 1]⟩,
  ⟨some 26, .ldH (none) (.t 25) false, none, 3, [0, 1, 2]⟩,
  ⟨some 27, .mv (.t 4), none, 4, []⟩,
  ⟨some 28, .nilck (.t 27), none, 5, [4]⟩,
  ⟨some 29, .fad 0 (.t 28), none, 6, [4, 5]⟩,
  ⟨some 30, .ldH (none) (.t 29) false, none, 7, [4, 5, 6]⟩,
  ⟨some 31, .len 1 (.t 30), none, 8, [4, 5, 6, 7]⟩,
  ⟨some 32, .bin 0 .lss (.t 26) (.t 31), none, 9, [0, 1, 2, 3, 4, 5, 6, 7, 8]⟩]
def r_parse_Parse_10 : List AOper := [
  ⟨some 34, .mv (.t 4), none, 0, []⟩,
  ⟨some 35, .call false (.k (.fn F.parse_parser_isType [] [])) [.t 34], none, 0, []⟩,
  ⟨some 33, .mv (.t 35), none, 0, []⟩,
  ⟨some 36, .ext (.t 33) 0, none, 0, []⟩,
  ⟨some 37, .ext (.t 33) 1, none, 0, []⟩,
  ⟨some 7, .mv (.t 36), none, 0, []⟩,
  ⟨some 8, .mv (.t 37), none, 0, []⟩]
def r_parse_Parse_11 : List AOper := [
  ⟨some 38, .mv (.t 8), none, 0, []⟩]
def r_parse_Parse_12 : List AOper := [
  ⟨some 40, .mv (.t 4), none, 0, []⟩,
  ⟨some 41, .call false (.k (.fn F.parse_parser_declared [] [])) [.t 40], none, 0, []⟩,
  ⟨some 39, .mv (.t 41), none, 0, []⟩,
  ⟨some 42, .ext (.t 39) 0, none, 0, []⟩,
  ⟨some 43, .ext (.t 39) 1, none, 0, []⟩,
  ⟨some 9, .allocL 9 [.str [], .int .i64 0, .int .i64 0, .sl true [], .int .i64 0], none, 0, []⟩,
  ⟨none, .stL 5 (.t 9) (.t 42), none, 0, []⟩,
  ⟨some 10, .mv (.t 43), none, 0, []⟩]
def r_parse_Parse_13 : List AOper := [
  ⟨some 44, .fad 1 (.t 5), none, 0, []⟩,
  ⟨some 45, .ldL (none) (.t 44) true, none, 0, []⟩,
  ⟨some 46, .ldL (some 5) (.t 9) false, none, 0, []⟩,
  ⟨some 47, .bsl 1 5 (.agg [.str [], .int .i64 0, .int .i64 0, .sl true [], .int .i64 0]) [(0, .t 46)], none, 0, []⟩,
  ⟨some 48, .app 5 (.tk 45) (.t 47), none, 0, []⟩,
  ⟨some 49, .mv (.t 6), none, 0, []⟩,
  ⟨some 50, .mv (.t 49), none, 0, []⟩,
  ⟨some 51, .mv (.t 10), some (50, false), 0, []⟩,
  ⟨some 52, .pick (.t 50) (.k (.bool true)) (.t 51), none, 0, []⟩,
  ⟨some 53, .fad 1 (.t 5), none, 0, []⟩,
  ⟨none, .stL 1 (.t 53) (.tk 48), none, 0, []⟩,
  ⟨some 6, .mv (.t 52), none, 0, []⟩]
def r_parse_Parse_14 : List AOper := [
  ⟨some 54, .mv (.t 4), none, 0, []⟩,
  ⟨some 55, .call false (.k (.fn F.parse_parser_is [] [])) [.t 54, .k (.str [112, 111, 114, 116])], none, 0, []⟩]
def r_parse_Parse_15 : List AOper := [
  ⟨some 56, .fad 2 (.t 5), none, 0, []⟩,
  ⟨some 57, .ldL (none) (.t 56) true, none, 1, [0]⟩,
  ⟨some 58, .mv (.t 4), none, 2, []⟩,
  ⟨some 59, .call false (.k (.fn F.parse_parser_gate [] [])) [.t 58], none, 3, [2]⟩,
  ⟨some 60, .bsl 1 4 (.agg [.str [], .bool false, .bool false, .int .i64 0]) [(0, .t 59)], none, 4, [2, 3]⟩,
  ⟨some 61, .app 4 (.tk 57) (.t 60), none, 5, [0, 1, 2, 3, 4]⟩,
  ⟨some 62, .fad 2 (.t 5), none, 6, [0, 1, 2, 3, 4, 5]⟩,
  ⟨none, .stL 1 (.t 62) (.tk 61), none, 7, [0, 1, 2, 3, 4, 5, 6]⟩]
def r_parse_Parse_16 : List AOper := [
  ⟨some 63, .fad 3 (.t 5), none, 0, []⟩,
  ⟨some 64, .ldL (none) (.t 63) true, none, 1, [0]⟩,
  ⟨some 65, .mv (.t 4), none, 2, []⟩,
  ⟨some 66, .call false (.k (.fn F.parse_parser_decl [] [])) [.t 65], none, 3, [2]⟩,
  ⟨some 67, .bsl 1 7 (.agg [.int .i64 0, .str [], .sl true [], .int .i64 0, .int .i64 0, .sl true [], .int .i64 0]) [(0, .t 66)], none, 4, [2, 3]⟩,
  ⟨some 68, .app 7 (.tk 64) (.t 67), none, 5, [0, 1, 2, 3, 4]⟩,
  ⟨some 69, .fad 3 (.t 5), none, 6, [0, 1, 2, 3, 4, 5]⟩,
  ⟨none, .stL 1 (.t 69) (.tk 68), none, 7, [0, 1, 2, 3, 4, 5, 6]⟩]
def r_parse_Parse_17 : List AOper := [
  ⟨some 70, .ldL (some 4) (.t 5) false, none, 0, []⟩,
  ⟨some 71, .call true (.k (.fn F.ast_Check [] [])) [.t 70], none, 0, []⟩,
  ⟨some 11, .mv (.t 71), none, 0, []⟩]
def r_parse_Parse_18 : List AOper := [
  ⟨some 72, .mv (.t 11), none, 0, []⟩,
  ⟨some 73, .bin 0 .eql (.t 72) (.k (.int .i64 0)), none, 0, []⟩,
  ⟨some 74, .mv (.t 73), none, 0, []⟩,
  ⟨some 75, .mv (.t 6), some (74, true), 0, []⟩,
  ⟨some 76, .pick (.t 74) (.t 75) (.k (.bool false)), none, 0, []⟩]
def r_parse_Parse_19 : List AOper := [
  ⟨some 11, .mv (.k (.int .i64 2)), none, 0, []⟩]
def r_parse_Parse_20 : List AOper := [
  ⟨some 77, .mv (.t 11), none, 0, []⟩,
  ⟨some 78, .call true (.k (.fn F.parse_judge [] [])) [.t 77], none, 0, []⟩]
def r_parse_Parse_21 : List AOper := [
  ⟨some 79, .ldL (some 4) (.t 5) false, none, 0, []⟩,
  ⟨some 80, .build [.int .i64 0, .int .i64 0, .int .i64 0] [], none, 0, []⟩,
  ⟨none, .stH 4 (.t 2) (.t 79), none, 0, []⟩,
  ⟨none, .stH 3 (.t 3) (.t 80), none, 0, []⟩]
def c_parse_Parse : AC :=
  (.seq
   (.reg false r_parse_Parse_0 (some [0, 2, 3]))
   (.seq
    (.reg false r_parse_Parse_1 (some [0, 2, 3]))
    (.seq
     (.reg false r_parse_Parse_2 (some [0, 2, 3]))
     (.seq
      (.reg false r_parse_Parse_3 (some [2, 3, 4]))
      (.seq
       (.reg false r_parse_Parse_4 (some [2, 3, 4, 5]))
       (.seq
        (.reg false r_parse_Parse_5 (some [2, 3, 4, 5, 6]))
        (.seq
         (.reg false r_parse_Parse_6 (some [2, 3, 4, 5, 6]))
         (.seq
          (.reg false r_parse_Parse_7 (some [2, 3, 4, 5, 6]))
          (.seq
           (.reg false r_parse_Parse_8 (some [2, 3, 4, 5, 6]))
           (.seq
            (.block 0
             (.loop
              (.seq
               (.seq
                (.reg true r_parse_Parse_9 (some [2, 3, 4, 5, 6, 32]))
                (.cond (.t 32)
                 .skip
                 (.exit 0)))
               (.block 1
                (.seq
                 (.seq
                  (.reg false r_parse_Parse_10 (some [2, 3, 4, 5, 6, 8]))
                  (.seq
                   (.reg false r_parse_Parse_11 (some [2, 3, 4, 5, 6, 38]))
                   (.cond (.t 38)
                    (.seq
                     (.reg false r_parse_Parse_12 (some [2, 3, 4, 5, 6, 9, 10]))
                     (.seq
                      (.reg false r_parse_Parse_13 (some [2, 3, 4, 5, 6]))
                      (.exit 1)))
                    .skip)))
                 (.seq
                  (.seq
                   (.reg false r_parse_Parse_14 (some [2, 3, 4, 5, 6, 55]))
                   (.cond (.t 55)
                    (.seq
                     (.reg true r_parse_Parse_15 (some [2, 3, 4, 5, 6]))
                     (.exit 1))
                    .skip))
                  (.reg true r_parse_Parse_16 (some [2, 3, 4, 5, 6]))))))))
            (.seq
             (.reg false r_parse_Parse_17 (some [2, 3, 5, 6, 11]))
             (.seq
              (.seq
               (.reg false r_parse_Parse_18 (some [2, 3, 5, 11, 76]))
               (.cond (.t 76)
                (.reg false r_parse_Parse_19 (some [2, 3, 5, 11]))
                .skip))
              (.seq
               (.reg false r_parse_Parse_20 (some [2, 3, 5]))
               (.seq
                (.reg false r_parse_Parse_21 (some [2, 3]))
                .ret))))))))))))))
def f_parse_Parse : AFun := ⟨1, [.cell 2 (some 4), .cell 3 (some 3)], c_parse_Parse⟩

def r_law07_lives_0 : List AOper := [
  ⟨some 0, .mv (.k (.bool false)), none, 0, []⟩]
def r_law07_lives_1 : List AOper := [
  ⟨some 9, .call true (.k (.fn F.parse_Expr [] [])) [.k (.str [49, 43, 50, 42, 51, 60, 120])], none, 0, []⟩,
  ⟨some 8, .mv (.t 9), none, 0, []⟩,
  ⟨some 10, .ext (.t 8) 0, none, 0, []⟩,
  ⟨some 11, .ext (.t 8) 1, none, 0, []⟩,
  ⟨some 1, .allocL 1 [.int .i64 0, .int .i64 0, .int .i64 0, .int .u32 0, .str [], .sl true []], none, 0, []⟩,
  ⟨some 2, .allocL 2 [.int .i64 0, .int .i64 0, .int .i64 0], none, 0, []⟩,
  ⟨none, .stL 6 (.t 1) (.t 10), none, 0, []⟩,
  ⟨none, .stL 3 (.t 2) (.t 11), none, 0, []⟩]
def r_law07_lives_2 : List AOper := [
  ⟨some 13, .call true (.k (.fn F.parse_Expr [] [])) [.k (.str [49, 43])], none, 0, []⟩,
  ⟨some 12, .mv (.t 13), none, 0, []⟩,
  ⟨some 14, .ext (.t 12) 0, none, 0, []⟩,
  ⟨some 15, .ext (.t 12) 1, none, 0, []⟩,
  ⟨some 3, .allocL 3 [.int .i64 0, .int .i64 0, .int .i64 0, .int .u32 0, .str [], .sl true []], none, 0, []⟩,
  ⟨some 4, .allocL 4 [.int .i64 0, .int .i64 0, .int .i64 0], none, 0, []⟩,
  ⟨none, .stL 6 (.t 3) (.t 14), none, 0, []⟩,
  ⟨none, .stL 3 (.t 4) (.t 15), none, 0, []⟩]
def r_law07_lives_3 : List AOper := [
  ⟨some 17, .call true (.k (.fn F.parse_Stmts [] [])) [.k (.str [120, 32, 61, 32, 59])], none, 0, []⟩,
  ⟨some 16, .mv (.t 17), none, 0, []⟩,
  ⟨some 18, .ext (.t 16) 0, none, 0, []⟩,
  ⟨some 19, .ext (.t 16) 1, none, 0, []⟩,
  ⟨some 6, .allocL 6 [.int .i64 0, .int .i64 0, .int .i64 0], none, 0, []⟩,
  ⟨some 5, .mv (.t 18), none, 0, []⟩,
  ⟨none, .stL 3 (.t 6) (.t 19), none, 0, []⟩]
def r_law07_lives_4 : List AOper := [
  ⟨some 20, .call true (.k (.fn F.law07_num [] [])) [.k (.int .u32 1)], none, 0, []⟩,
  ⟨some 21, .call true (.k (.fn F.law07_num [] [])) [.k (.int .u32 2)], none, 0, []⟩,
  ⟨some 22, .call true (.k (.fn F.law07_num [] [])) [.k (.int .u32 3)], none, 0, []⟩,
  ⟨some 23, .call true (.k (.fn F.law07_bin [] [])) [.k (.int .i64 3), .t 21, .t 22], none, 0, []⟩,
  ⟨some 24, .call true (.k (.fn F.law07_bin [] [])) [.k (.int .i64 1), .t 20, .t 23], none, 0, []⟩,
  ⟨some 25, .build [.int .i64 0, .int .i64 0, .int .i64 0, .int .u32 0, .str [], .sl true []] [(0, 1, .k (.int .i64 2)), (4, 1, .k (.str [120]))], none, 0, []⟩,
  ⟨some 26, .call true (.k (.fn F.law07_bin [] [])) [.k (.int .i64 16), .t 24, .t 25], none, 0, []⟩,
  ⟨some 7, .allocL 7 [.int .i64 0, .int .i64 0, .int .i64 0, .int .u32 0, .str [], .sl true []], none, 0, []⟩,
  ⟨none, .stL 6 (.t 7) (.t 26), none, 0, []⟩]
def r_law07_lives_5 : List AOper := [
  ⟨some 27, .ldL (some 3) (.t 2) false, none, 0, []⟩,
  ⟨some 28, .build [.int .i64 0, .int .i64 0, .int .i64 0] [], none, 0, []⟩,
  ⟨some 29, .eqS false [0, 0, 0] (.t 27) (.t 28), none, 0, []⟩,
  ⟨some 30, .mv (.t 29), none, 0, []⟩,
  ⟨some 31, .ldL (some 6) (.t 1) false, some (30, true), 0, []⟩,
  ⟨some 32, .ldL (some 6) (.t 7) false, some (30, true), 0, []⟩,
  ⟨some 33, .call true (.k (.fn F.kit_Expr [] [])) [.t 31, .t 32], some (30, true), 0, []⟩,
  ⟨some 34, .pick (.t 30) (.t 33) (.k (.bool false)), none, 0, []⟩,
  ⟨some 35, .mv (.t 34), none, 0, []⟩,
  ⟨some 36, .ldL (some 3) (.t 4) false, some (35, true), 0, []⟩,
  ⟨some 37, .build [.int .i64 0, .int .i64 0, .int .i64 0] [(0, 1, .k (.int .i64 14)), (1, 1, .k (.int .i64 1)), (2, 1, .k (.int .i64 3))], some (35, true), 0, []⟩,
  ⟨some 38, .eqS false [0, 0, 0] (.t 36) (.t 37), some (35, true), 0, []⟩,
  ⟨some 39, .pick (.t 35) (.t 38) (.k (.bool false)), none, 0, []⟩,
  ⟨some 40, .mv (.t 39), none, 0, []⟩,
  ⟨some 41, .ldL (some 3) (.t 6) false, some (40, true), 0, []⟩,
  ⟨some 42, .build [.int .i64 0, .int .i64 0, .int .i64 0] [(0, 1, .k (.int .i64 14)), (1, 1, .k (.int .i64 1)), (2, 1, .k (.int .i64 5))], some (40, true), 0, []⟩,
  ⟨some 43, .eqS false [0, 0, 0] (.t 41) (.t 42), some (40, true), 0, []⟩,
  ⟨some 44, .pick (.t 40) (.t 43) (.k (.bool false)), none, 0, []⟩,
  ⟨some 0, .mv (.t 44), none, 0, []⟩]
def c_law07_lives : AC :=
  (.seq
   (.reg false r_law07_lives_0 (some []))
   (.seq
    (.reg false r_law07_lives_1 (some [1, 2]))
    (.seq
     (.reg false r_law07_lives_2 (some [1, 2, 4]))
     (.seq
      (.reg false r_law07_lives_3 (some [1, 2, 4, 6]))
      (.seq
       (.reg false r_law07_lives_4 (some [1, 2, 4, 6, 7]))
       (.seq
        (.reg false r_law07_lives_5 (some [0]))
        .ret))))))
def f_law07_lives : AFun := ⟨0, [.tmp 0], c_law07_lives⟩

def r_parse_Level_0 : List AOper := [
  ⟨some 2, .mv (.k (.int .i64 0)), none, 0, []⟩]
def r_parse_Level_1 : List AOper := [
  ⟨some 7, .ldC (some 9) (.g Gl.parse_levels), none, 0, []⟩,
  ⟨some 8, .mv (.k (.int .i64 0)), none, 0, []⟩]
def r_parse_Level_2 : List AOper := [
  ⟨some 9, .bin 0 .lss (.t 8) (.k (.int .i64 9)), none, 0, []⟩]
def r_parse_Level_3 : List AOper := [
  ⟨some 10, .mv (.t 8), none, 0, []⟩,
  ⟨some 11, .ixa 9 1 (none) (.t 7) (.t 8), none, 0, []⟩,
  ⟨some 3, .mv (.t 10), none, 0, []⟩,
  ⟨some 4, .mv (.t 11), none, 0, []⟩]
def r_parse_Level_4 : List AOper := [
  ⟨some 12, .mv (.t 4), none, 0, []⟩,
  ⟨some 13, .len 1 (.t 12), none, 0, []⟩,
  ⟨some 14, .mv (.k (.int .i64 0)), none, 0, []⟩]
def r_parse_Level_5 : List AOper := [
  ⟨some 15, .bin 0 .lss (.t 14) (.t 13), none, 0, []⟩]
def r_parse_Level_6 : List AOper := [
  ⟨some 16, .iad 1 (.t 12) (.t 14), none, 0, []⟩,
  ⟨some 17, .ldC (none) (.t 16), none, 0, []⟩,
  ⟨some 6, .mv (.t 17), none, 0, []⟩]
def r_parse_Level_7 : List AOper := [
  ⟨some 18, .ldC (none) (.g Gl.parse_signs), none, 0, []⟩,
  ⟨some 19, .mv (.t 6), none, 0, []⟩,
  ⟨some 20, .lkpC 0 false (.int .i64 0) (.t 18) (.t 19), none, 0, []⟩,
  ⟨some 21, .mv (.t 0), none, 0, []⟩,
  ⟨some 22, .bin 0 .eql (.t 20) (.t 21), none, 0, []⟩]
def r_parse_Level_8 : List AOper := [
  ⟨some 23, .mv (.t 3), none, 0, []⟩,
  ⟨some 2, .mv (.t 23), none, 0, []⟩]
def r_parse_Level_9 : List AOper := [
  ⟨some 24, .bin 0 .add (.t 14) (.k (.int .i64 1)), none, 0, []⟩,
  ⟨some 14, .mv (.t 24), none, 0, []⟩]
def r_parse_Level_10 : List AOper := [
  ⟨some 25, .bin 0 .add (.t 8) (.k (.int .i64 1)), none, 0, []⟩,
  ⟨some 8, .mv (.t 25), none, 0, []⟩]
def r_parse_Level_11 : List AOper := [
  ⟨some 2, .mv (.k (.int .i64 0)), none, 0, []⟩]
def c_parse_Level : AC :=
  (.seq
   (.reg false r_parse_Level_0 (some [0]))
   (.seq
    (.seq
     (.reg false r_parse_Level_1 (some [0, 7, 8]))
     (.block 0
      (.loop
       (.seq
        (.reg false r_parse_Level_2 (some [0, 7, 8, 9]))
        (.seq
         (.cond (.t 9)
          .skip
          (.exit 0))
         (.seq
          (.block 1
           (.seq
            (.reg false r_parse_Level_3 (some [0, 3, 4, 7, 8]))
            (.seq
             (.reg false r_parse_Level_4 (some [0, 3, 7, 8, 12, 13, 14]))
             (.block 2
              (.loop
               (.seq
                (.reg false r_parse_Level_5 (some [0, 3, 7, 8, 12, 13, 14, 15]))
                (.seq
                 (.cond (.t 15)
                  .skip
                  (.exit 2))
                 (.seq
                  (.block 3
                   (.seq
                    (.reg false r_parse_Level_6 (some [0, 3, 6, 7, 8, 12, 13, 14]))
                    (.seq
                     (.reg false r_parse_Level_7 (some [0, 3, 7, 8, 12, 13, 14, 22]))
                     (.cond (.t 22)
                      (.seq
                       (.reg false r_parse_Level_8 (some [2]))
                       .ret)
                      .skip))))
                  (.reg false r_parse_Level_9 (some [0, 3, 7, 8, 12, 13, 14]))))))))))
          (.reg false r_parse_Level_10 (some [0, 7, 8]))))))))
    (.seq
     (.reg false r_parse_Level_11 (some [2]))
     .ret)))
def f_parse_Level : AFun := ⟨1, [.tmp 2], c_parse_Level⟩

def r_parse_Parse_1_0 : List AOper := [
  ⟨some 2, .ldH (some 3) (.t 0) false, none, 0, []⟩,
  ⟨some 3, .build [.int .i64 0, .int .i64 0, .int .i64 0] [], none, 0, []⟩,
  ⟨some 4, .eqS true [0, 0, 0] (.t 2) (.t 3), none, 0, []⟩]
def r_parse_Parse_1_1 : List AOper := [
  ⟨some 5, .build [.int .i64 0, .sl true [], .sl true [], .sl true []] [], none, 0, []⟩,
  ⟨none, .stH 4 (.t 1) (.t 5), none, 0, []⟩]
def c_parse_Parse_1 : AC :=
  (.seq
   (.reg false r_parse_Parse_1_0 (some [1, 4]))
   (.cond (.t 4)
    (.reg false r_parse_Parse_1_1 (some []))
    .skip))
def f_parse_Parse_1 : AFun := ⟨2, [], c_parse_Parse_1⟩

def r_parse_catch_3 : List AOper := [
  ⟨some 7, .bin 4 .eql (.t 5) (.k (.nifc)), none, 0, []⟩]
def r_parse_catch_4 : List AOper := [
  ⟨some 2, .mv (.t 5), none, 0, []⟩]
def r_parse_catch_5 : List AOper := [
  ⟨some 8, .tas Ty.parse_thrown true (.agg [.int .i64 0, .int .i64 0, .int .i64 0]) (.t 5), none, 0, []⟩,
  ⟨some 9, .ext (.t 8) 1, none, 0, []⟩,
  ⟨some 10, .ext (.t 8) 0, none, 0, []⟩]
def r_parse_catch_6 : List AOper := [
  ⟨some 3, .allocL 3 [.int .i64 0, .int .i64 0, .int .i64 0], none, 0, []⟩,
  ⟨none, .stL 3 (.t 3) (.t 10), none, 0, []⟩]
def r_parse_catch_7 : List AOper := [
  ⟨some 11, .mv (.t 0), none, 0, []⟩,
  ⟨some 12, .fad 0 (.t 3), none, 0, []⟩,
  ⟨some 13, .ldL (some 3) (.t 12) false, none, 0, []⟩,
  ⟨some 14, .nilck (.t 11), none, 0, []⟩,
  ⟨none, .stH 3 (.t 14) (.t 13), none, 0, []⟩]
def r_parse_catch_1 : List AOper := [
  ⟨some 4, .mv (.t 5), none, 0, []⟩]
def r_parse_catch_2 : List AOper := [
  ⟨some 6, .mv (.t 4), none, 0, []⟩,
  ⟨none, .pan (.t 6), none, 0, []⟩]
def c_parse_catch : AC :=
  (.block 0
   (.seq
    (.reg false r_parse_catch_3 (some [0, 5, 7]))
    (.cond (.t 7)
     (.reg false r_parse_catch_4 (some []))
     (.seq
      (.reg false r_parse_catch_5 (some [0, 5, 9, 10]))
      (.cond (.t 9)
       (.seq
        (.reg false r_parse_catch_6 (some [0, 3]))
        (.reg false r_parse_catch_7 (some [])))
       (.seq
        (.reg false r_parse_catch_1 (some [4]))
        (.reg false r_parse_catch_2 (some []))))))))
def f_parse_catch : AFun := ⟨1, [], c_parse_catch⟩

def r_parse_begin_0 : List AOper := [
  ⟨some 2, .mv (.k (.nptr)), none, 0, []⟩]
def r_parse_begin_1 : List AOper := [
  ⟨some 7, .mv (.t 0), none, 0, []⟩,
  ⟨some 8, .call true (.k (.fn F.lex_All [] [])) [.t 7], none, 0, []⟩,
  ⟨some 6, .mv (.t 8), none, 0, []⟩,
  ⟨some 9, .ext (.t 6) 0, none, 0, []⟩,
  ⟨some 10, .ext (.t 6) 1, none, 0, []⟩,
  ⟨some 4, .allocL 4 [.int .i64 0, .int .i64 0, .int .i64 0], none, 0, []⟩,
  ⟨some 3, .mv (.t 9), none, 0, []⟩,
  ⟨none, .stL 3 (.t 4) (.t 10), none, 0, []⟩]
def r_parse_begin_2 : List AOper := [
  ⟨some 11, .ldL (some 3) (.t 4) false, none, 0, []⟩,
  ⟨some 12, .build [.int .i64 0, .int .i64 0, .int .i64 0] [], none, 0, []⟩,
  ⟨some 13, .eqS true [0, 0, 0] (.t 11) (.t 12), none, 0, []⟩]
def r_parse_begin_3 : List AOper := [
  ⟨some 14, .ldL (some 3) (.t 4) false, none, 0, []⟩,
  ⟨some 15, .build [.int .i64 0, .int .i64 0, .int .i64 0] [(0, 3, .t 14)], none, 0, []⟩,
  ⟨some 16, .ifc Ty.parse_thrown (.t 15), none, 0, []⟩,
  ⟨none, .pan (.t 16), none, 0, []⟩]
def r_parse_begin_4 : List AOper := [
  ⟨some 17, .mv (.t 3), none, 0, []⟩,
  ⟨some 18, .build [.sl true [], .int .i64 0, .int .i64 0, .int .i64 0] [(0, 1, .t 17)], none, 0, []⟩,
  ⟨some 19, .boxH (.t 18), none, 0, []⟩,
  ⟨some 5, .mv (.t 19), none, 0, []⟩]
def r_parse_begin_5 : List AOper := [
  ⟨some 21, .mv (.t 5), none, 0, []⟩,
  ⟨some 22, .mv (.t 5), none, 0, []⟩,
  ⟨some 23, .mv (.t 0), none, 0, []⟩,
  ⟨some 24, .mv (.t 0), none, 0, []⟩,
  ⟨some 25, .len 0 (.t 24), none, 0, []⟩,
  ⟨some 26, .call true (.k (.fn F.lex_Line [] [])) [.t 23, .t 25], none, 0, []⟩,
  ⟨some 20, .mv (.t 26), none, 0, []⟩,
  ⟨some 27, .ext (.t 20) 0, none, 0, []⟩,
  ⟨some 28, .ext (.t 20) 1, none, 0, []⟩,
  ⟨some 29, .nilck (.t 21), none, 0, []⟩,
  ⟨some 30, .fad 2 (.t 29), none, 0, []⟩,
  ⟨none, .stH 1 (.t 30) (.t 27), none, 0, []⟩,
  ⟨some 31, .nilck (.t 22), none, 0, []⟩,
  ⟨some 32, .fad 3 (.t 31), none, 0, []⟩,
  ⟨none, .stH 1 (.t 32) (.t 28), none, 0, []⟩]
def r_parse_begin_6 : List AOper := [
  ⟨some 33, .mv (.t 5), none, 0, []⟩,
  ⟨some 2, .mv (.t 33), none, 0, []⟩]
def c_parse_begin : AC :=
  (.seq
   (.reg false r_parse_begin_0 (some [0]))
   (.seq
    (.reg false r_parse_begin_1 (some [0, 3, 4]))
    (.seq
     (.seq
      (.reg false r_parse_begin_2 (some [0, 3, 4, 13]))
      (.cond (.t 13)
       (.reg false r_parse_begin_3 (some [0, 3]))
       .skip))
     (.seq
      (.reg false r_parse_begin_4 (some [0, 5]))
      (.seq
       (.reg false r_parse_begin_5 (some [5]))
       (.seq
        (.reg false r_parse_begin_6 (some [2]))
        .ret))))))
def f_parse_begin : AFun := ⟨1, [.tmp 2], c_parse_begin⟩

def r_parse_parser_must_0 : List AOper := [
  ⟨some 4, .mv (.t 0), none, 0, []⟩,
  ⟨some 5, .mv (.t 1), none, 0, []⟩,
  ⟨some 6, .call false (.k (.fn F.parse_parser_may [] [])) [.t 4, .t 5], none, 0, []⟩,
  ⟨some 7, .un .not (.t 6), none, 0, []⟩]
def r_parse_parser_must_1 : List AOper := [
  ⟨some 8, .mv (.t 0), none, 0, []⟩,
  ⟨some 9, .call false (.k (.fn F.parse_parser_wrong [] [])) [.t 8], none, 0, []⟩]
def c_parse_parser_must : AC :=
  (.seq
   (.reg false r_parse_parser_must_0 (some [0, 7]))
   (.cond (.t 7)
    (.reg false r_parse_parser_must_1 (some []))
    .skip))
def f_parse_parser_must : AFun := ⟨2, [], c_parse_parser_must⟩

def r_parse_parser_number_0 : List AOper := [
  ⟨some 2, .mv (.k (.int .u32 0)), none, 0, []⟩]
def r_parse_parser_number_1 : List AOper := [
  ⟨some 4, .mv (.t 0), none, 0, []⟩,
  ⟨some 5, .call false (.k (.fn F.parse_parser_now [] [])) [.t 4], none, 0, []⟩,
  ⟨some 3, .allocL 3 [.int .i64 0, .str [], .int .i64 0, .int .i64 0, .int .u32 0], none, 0, []⟩,
  ⟨none, .stL 5 (.t 3) (.t 5), none, 0, []⟩]
def r_parse_parser_number_2 : List AOper := [
  ⟨some 6, .fad 0 (.t 3), none, 0, []⟩,
  ⟨some 7, .ldL (none) (.t 6) false, none, 0, []⟩,
  ⟨some 8, .bin 0 .neq (.t 7) (.k (.int .i64 3)), none, 0, []⟩]
def r_parse_parser_number_3 : List AOper := [
  ⟨some 9, .mv (.t 0), none, 0, []⟩,
  ⟨some 10, .call false (.k (.fn F.parse_parser_wrong [] [])) [.t 9], none, 0, []⟩]
def r_parse_parser_number_4 : List AOper := [
  ⟨some 11, .mv (.t 0), none, 0, []⟩,
  ⟨some 12, .nilck (.t 11), none, 0, []⟩,
  ⟨some 13, .fad 1 (.t 12), none, 0, []⟩,
  ⟨some 14, .ldH (none) (.t 13) false, none, 0, []⟩,
  ⟨some 15, .bin 0 .add (.t 14) (.k (.int .i64 1)), none, 0, []⟩,
  ⟨some 16, .nilck (.t 11), none, 0, []⟩,
  ⟨some 17, .fad 1 (.t 16), none, 0, []⟩,
  ⟨none, .stH 1 (.t 17) (.t 15), none, 0, []⟩]
def r_parse_parser_number_5 : List AOper := [
  ⟨some 18, .fad 4 (.t 3), none, 0, []⟩,
  ⟨some 19, .ldL (none) (.t 18) false, none, 0, []⟩,
  ⟨some 2, .mv (.t 19), none, 0, []⟩]
def c_parse_parser_number : AC :=
  (.seq
   (.reg false r_parse_parser_number_0 (some [0]))
   (.seq
    (.reg false r_parse_parser_number_1 (some [0, 3]))
    (.seq
     (.seq
      (.reg false r_parse_parser_number_2 (some [0, 3, 8]))
      (.cond (.t 8)
       (.reg false r_parse_parser_number_3 (some [0, 3]))
       .skip))
     (.seq
      (.reg false r_parse_parser_number_4 (some [3]))
      (.seq
       (.reg false r_parse_parser_number_5 (some [2]))
       .ret)))))
def f_parse_parser_number : AFun := ⟨1, [.tmp 2], c_parse_parser_number⟩

def r_parse_parser_isType_0 : List AOper := [
  ⟨some 2, .mv (.k (.int .i64 0)), none, 0, []⟩,
  ⟨some 3, .mv (.k (.bool false)), none, 0, []⟩]
def r_parse_parser_isType_1 : List AOper := [
  ⟨some 7, .mv (.t 0), none, 0, []⟩,
  ⟨some 8, .call false (.k (.fn F.parse_parser_now [] [])) [.t 7], none, 0, []⟩,
  ⟨some 4, .allocL 4 [.int .i64 0, .str [], .int .i64 0, .int .i64 0, .int .u32 0], none, 0, []⟩,
  ⟨none, .stL 5 (.t 4) (.t 8), none, 0, []⟩]
def r_parse_parser_isType_2 : List AOper := [
  ⟨some 10, .ldC (none) (.g Gl.parse_types), none, 0, []⟩,
  ⟨some 11, .fad 1 (.t 4), none, 0, []⟩,
  ⟨some 12, .ldL (none) (.t 11) false, none, 0, []⟩,
  ⟨some 13, .lkpC 0 true (.int .i64 0) (.t 10) (.t 12), none, 0, []⟩,
  ⟨some 9, .mv (.t 13), none, 0, []⟩,
  ⟨some 14, .ext (.t 9) 0, none, 0, []⟩,
  ⟨some 15, .ext (.t 9) 1, none, 0, []⟩,
  ⟨some 5, .mv (.t 14), none, 0, []⟩,
  ⟨some 6, .mv (.t 15), none, 0, []⟩]
def r_parse_parser_isType_3 : List AOper := [
  ⟨some 16, .mv (.t 5), none, 0, []⟩,
  ⟨some 17, .mv (.t 6), none, 1, []⟩,
  ⟨some 18, .mv (.t 17), none, 2, [1]⟩,
  ⟨some 19, .fad 0 (.t 4), some (18, true), 3, [1, 2]⟩,
  ⟨some 20, .ldL (none) (.t 19) false, some (18, true), 4, [1, 2, 3]⟩,
  ⟨some 21, .bin 0 .eql (.t 20) (.k (.int .i64 2)), some (18, true), 5, [1, 2, 3, 4]⟩,
  ⟨some 22, .pick (.t 18) (.t 21) (.k (.bool false)), none, 6, [1, 2, 3, 4, 5]⟩,
  ⟨some 2, .mv (.t 16), none, 7, [0, 1, 2]⟩,
  ⟨some 3, .mv (.t 22), none, 8, [0, 1, 2, 3, 4, 5, 6, 7]⟩]
def c_parse_parser_isType : AC :=
  (.seq
   (.reg false r_parse_parser_isType_0 (some [0]))
   (.seq
    (.reg false r_parse_parser_isType_1 (some [4]))
    (.seq
     (.reg false r_parse_parser_isType_2 (some [4, 5, 6]))
     (.seq
      (.reg true r_parse_parser_isType_3 (some [2, 3]))
      .ret))))
def f_parse_parser_isType : AFun := ⟨1, [.tmp 2, .tmp 3], c_parse_parser_isType⟩

def r_parse_parser_declared_0 : List AOper := [
  ⟨some 2, .allocL 2 [.str [], .int .i64 0, .int .i64 0, .sl true [], .int .i64 0], none, 0, []⟩,
  ⟨some 3, .mv (.k (.bool false)), none, 0, []⟩]
def r_parse_parser_declared_1 : List AOper := [
  ⟨some 4, .mv (.t 0), none, 0, []⟩,
  ⟨some 5, .call false (.k (.fn F.parse_parser_now [] [])) [.t 4], none, 0, []⟩,
  ⟨some 6, .fld 2 (none) (.t 5), none, 0, []⟩,
  ⟨some 7, .mv (.t 0), none, 0, []⟩,
  ⟨some 8, .call false (.k (.fn F.parse_parser_typ [] [])) [.t 7], none, 0, []⟩,
  ⟨some 9, .fad 4 (.t 2), none, 0, []⟩,
  ⟨none, .stL 1 (.t 9) (.t 6), none, 0, []⟩,
  ⟨some 10, .fad 1 (.t 2), none, 0, []⟩,
  ⟨none, .stL 1 (.t 10) (.t 8), none, 0, []⟩]
def r_parse_parser_declared_2 : List AOper := [
  ⟨some 11, .mv (.t 0), none, 0, []⟩,
  ⟨some 12, .call false (.k (.fn F.parse_parser_name [] [])) [.t 11], none, 0, []⟩,
  ⟨some 13, .fad 0 (.t 2), none, 0, []⟩,
  ⟨none, .stL 1 (.t 13) (.t 12), none, 0, []⟩]
def r_parse_parser_declared_3 : List AOper := [
  ⟨some 14, .mv (.t 0), none, 0, []⟩,
  ⟨some 15, .call false (.k (.fn F.parse_parser_may [] [])) [.t 14, .k (.str [91])], none, 0, []⟩]
def r_parse_parser_declared_4 : List AOper := [
  ⟨some 16, .mv (.t 0), none, 0, []⟩,
  ⟨some 17, .call false (.k (.fn F.parse_parser_number [] [])) [.t 16], none, 0, []⟩,
  ⟨some 18, .cvI .i64 (.t 17), none, 0, []⟩,
  ⟨some 19, .fad 2 (.t 2), none, 0, []⟩,
  ⟨none, .stL 1 (.t 19) (.t 18), none, 0, []⟩]
def r_parse_parser_declared_5 : List AOper := [
  ⟨some 20, .fad 2 (.t 2), none, 0, []⟩,
  ⟨some 21, .ldL (none) (.t 20) false, none, 0, []⟩,
  ⟨some 22, .bin 0 .eql (.t 21) (.k (.int .i64 0)), none, 0, []⟩,
  ⟨some 3, .mv (.t 22), none, 0, []⟩]
def r_parse_parser_declared_6 : List AOper := [
  ⟨some 23, .mv (.t 0), none, 0, []⟩,
  ⟨some 24, .call false (.k (.fn F.parse_parser_must [] [])) [.t 23, .k (.str [93])], none, 0, []⟩]
def r_parse_parser_declared_7 : List AOper := [
  ⟨some 25, .mv (.t 0), none, 0, []⟩,
  ⟨some 26, .call false (.k (.fn F.parse_parser_may [] [])) [.t 25, .k (.str [61])], none, 0, []⟩]
def r_parse_parser_declared_8 : List AOper := [
  ⟨some 27, .fad 3 (.t 2), none, 0, []⟩,
  ⟨some 28, .ldL (none) (.t 27) true, none, 1, [0]⟩,
  ⟨some 29, .mv (.t 0), none, 2, []⟩,
  ⟨some 30, .call false (.k (.fn F.parse_parser_number [] [])) [.t 29], none, 3, [2]⟩,
  ⟨some 31, .bsl 1 1 (.int .u32 0) [(0, .t 30)], none, 4, [2, 3]⟩,
  ⟨some 32, .app 1 (.tk 28) (.t 31), none, 5, [0, 1, 2, 3, 4]⟩,
  ⟨some 33, .fad 3 (.t 2), none, 6, [0, 1, 2, 3, 4, 5]⟩,
  ⟨none, .stL 1 (.t 33) (.tk 32), none, 7, [0, 1, 2, 3, 4, 5, 6]⟩]
def r_parse_parser_declared_9 : List AOper := [
  ⟨some 34, .mv (.t 0), none, 0, []⟩,
  ⟨some 35, .call false (.k (.fn F.parse_parser_may [] [])) [.t 34, .k (.str [44])], none, 0, []⟩]
def r_parse_parser_declared_10 : List AOper := [
  ⟨some 36, .fad 3 (.t 2), none, 0, []⟩,
  ⟨some 37, .ldL (none) (.t 36) true, none, 1, [0]⟩,
  ⟨some 38, .mv (.t 0), none, 2, []⟩,
  ⟨some 39, .call false (.k (.fn F.parse_parser_number [] [])) [.t 38], none, 3, [2]⟩,
  ⟨some 40, .bsl 1 1 (.int .u32 0) [(0, .t 39)], none, 4, [2, 3]⟩,
  ⟨some 41, .app 1 (.tk 37) (.t 40), none, 5, [0, 1, 2, 3, 4]⟩,
  ⟨some 42, .fad 3 (.t 2), none, 6, [0, 1, 2, 3, 4, 5]⟩,
  ⟨none, .stL 1 (.t 42) (.tk 41), none, 7, [0, 1, 2, 3, 4, 5, 6]⟩]
def r_parse_parser_declared_11 : List AOper := [
  ⟨some 43, .mv (.t 0), none, 0, []⟩,
  ⟨some 44, .call false (.k (.fn F.parse_parser_must [] [])) [.t 43, .k (.str [59])], none, 0, []⟩]
def r_parse_parser_declared_12 : List AOper := [
  ⟨some 45, .ldL (some 5) (.t 2) false, none, 0, []⟩,
  ⟨some 46, .mv (.t 3), none, 0, []⟩,
  ⟨none, .stL 5 (.t 2) (.t 45), none, 0, []⟩,
  ⟨some 3, .mv (.t 46), none, 0, []⟩]
def c_parse_parser_declared : AC :=
  (.seq
   (.reg false r_parse_parser_declared_0 (some [0, 2, 3]))
   (.seq
    (.reg false r_parse_parser_declared_1 (some [0, 2, 3]))
    (.seq
     (.reg false r_parse_parser_declared_2 (some [0, 2, 3]))
     (.seq
      (.seq
       (.reg false r_parse_parser_declared_3 (some [0, 2, 3, 15]))
       (.cond (.t 15)
        (.seq
         (.reg false r_parse_parser_declared_4 (some [0, 2]))
         (.seq
          (.reg false r_parse_parser_declared_5 (some [0, 2, 3]))
          (.reg false r_parse_parser_declared_6 (some [0, 2, 3]))))
        .skip))
      (.seq
       (.seq
        (.reg false r_parse_parser_declared_7 (some [0, 2, 3, 26]))
        (.cond (.t 26)
         (.seq
          (.reg true r_parse_parser_declared_8 (some [0, 2, 3]))
          (.block 0
           (.loop
            (.seq
             (.seq
              (.reg false r_parse_parser_declared_9 (some [0, 2, 3, 35]))
              (.cond (.t 35)
               .skip
               (.exit 0)))
             (.block 1
              (.reg true r_parse_parser_declared_10 (some [0, 2, 3])))))))
         .skip))
       (.seq
        (.reg false r_parse_parser_declared_11 (some [2, 3]))
        (.seq
         (.reg false r_parse_parser_declared_12 (some [2, 3]))
         .ret)))))))
def f_parse_parser_declared : AFun := ⟨1, [.cell 2 (some 5), .tmp 3], c_parse_parser_declared⟩

def r_parse_parser_is_0 : List AOper := [
  ⟨some 4, .mv (.k (.bool false)), none, 0, []⟩]
def r_parse_parser_is_1 : List AOper := [
  ⟨some 6, .mv (.t 0), none, 0, []⟩,
  ⟨some 7, .call false (.k (.fn F.parse_parser_now [] [])) [.t 6], none, 0, []⟩,
  ⟨some 5, .allocL 5 [.int .i64 0, .str [], .int .i64 0, .int .i64 0, .int .u32 0], none, 0, []⟩,
  ⟨none, .stL 5 (.t 5) (.t 7), none, 0, []⟩]
def r_parse_parser_is_2 : List AOper := [
  ⟨some 8, .fad 0 (.t 5), none, 0, []⟩,
  ⟨some 9, .ldL (none) (.t 8) false, none, 0, []⟩,
  ⟨some 10, .bin 0 .eql (.t 9) (.k (.int .i64 2)), none, 0, []⟩,
  ⟨some 11, .mv (.t 10), none, 0, []⟩,
  ⟨some 12, .fad 0 (.t 5), some (11, false), 0, []⟩,
  ⟨some 13, .ldL (none) (.t 12) false, some (11, false), 0, []⟩,
  ⟨some 14, .bin 0 .eql (.t 13) (.k (.int .i64 4)), some (11, false), 0, []⟩,
  ⟨some 15, .pick (.t 11) (.k (.bool true)) (.t 14), none, 0, []⟩,
  ⟨some 16, .mv (.t 15), none, 0, []⟩,
  ⟨some 17, .fad 1 (.t 5), some (16, true), 0, []⟩,
  ⟨some 18, .ldL (none) (.t 17) false, some (16, true), 0, []⟩,
  ⟨some 19, .mv (.t 1), some (16, true), 0, []⟩,
  ⟨some 20, .bin 0 .eql (.t 18) (.t 19), some (16, true), 0, []⟩,
  ⟨some 21, .pick (.t 16) (.t 20) (.k (.bool false)), none, 0, []⟩,
  ⟨some 4, .mv (.t 21), none, 0, []⟩]
def c_parse_parser_is : AC :=
  (.seq
   (.reg false r_parse_parser_is_0 (some [0, 1]))
   (.seq
    (.reg false r_parse_parser_is_1 (some [1, 5]))
    (.seq
     (.reg false r_parse_parser_is_2 (some [4]))
     .ret)))
def f_parse_parser_is : AFun := ⟨2, [.tmp 4], c_parse_parser_is⟩

def r_parse_parser_gate_0 : List AOper := [
  ⟨some 2, .allocL 2 [.str [], .bool false, .bool false, .int .i64 0], none, 0, []⟩]
def r_parse_parser_gate_1 : List AOper := [
  ⟨some 4, .mv (.t 0), none, 0, []⟩,
  ⟨some 5, .call false (.k (.fn F.parse_parser_now [] [])) [.t 4], none, 0, []⟩,
  ⟨some 6, .fld 2 (none) (.t 5), none, 0, []⟩,
  ⟨some 7, .build [.str [], .bool false, .bool false, .int .i64 0] [(3, 1, .t 6)], none, 0, []⟩,
  ⟨some 3, .allocL 3 [.str [], .bool false, .bool false, .int .i64 0], none, 0, []⟩,
  ⟨none, .stL 4 (.t 3) (.t 7), none, 0, []⟩]
def r_parse_parser_gate_2 : List AOper := [
  ⟨some 8, .mv (.t 0), none, 0, []⟩,
  ⟨some 9, .call false (.k (.fn F.parse_parser_must [] [])) [.t 8, .k (.str [112, 111, 114, 116])], none, 0, []⟩]
def r_parse_parser_gate_5 : List AOper := [
  ⟨some 15, .mv (.t 0), none, 0, []⟩,
  ⟨some 16, .call false (.k (.fn F.parse_parser_may [] [])) [.t 15, .k (.str [114, 101, 97, 100])], none, 0, []⟩,
  ⟨some 14, .mv (.t 16), none, 0, []⟩]
def r_parse_parser_gate_6 : List AOper := [
  ⟨some 17, .fad 1 (.t 3), none, 0, []⟩,
  ⟨none, .stL 1 (.t 17) (.k (.bool true)), none, 0, []⟩]
def r_parse_parser_gate_7 : List AOper := [
  ⟨some 19, .mv (.t 0), none, 0, []⟩,
  ⟨some 20, .call false (.k (.fn F.parse_parser_may [] [])) [.t 19, .k (.str [119, 114, 105, 116, 101])], none, 0, []⟩,
  ⟨some 18, .mv (.t 20), none, 0, []⟩]
def r_parse_parser_gate_8 : List AOper := [
  ⟨some 21, .fad 2 (.t 3), none, 0, []⟩,
  ⟨none, .stL 1 (.t 21) (.k (.bool true)), none, 0, []⟩]
def r_parse_parser_gate_3 : List AOper := [
  ⟨some 10, .mv (.t 0), none, 0, []⟩,
  ⟨some 11, .call false (.k (.fn F.parse_parser_must [] [])) [.t 10, .k (.str [98, 111, 116, 104])], none, 0, []⟩]
def r_parse_parser_gate_4 : List AOper := [
  ⟨some 12, .fad 1 (.t 3), none, 0, []⟩,
  ⟨none, .stL 1 (.t 12) (.k (.bool true)), none, 0, []⟩,
  ⟨some 13, .fad 2 (.t 3), none, 0, []⟩,
  ⟨none, .stL 1 (.t 13) (.k (.bool true)), none, 0, []⟩]
def r_parse_parser_gate_9 : List AOper := [
  ⟨some 22, .mv (.t 0), none, 0, []⟩,
  ⟨some 23, .call false (.k (.fn F.parse_parser_name [] [])) [.t 22], none, 0, []⟩,
  ⟨some 24, .fad 0 (.t 3), none, 0, []⟩,
  ⟨none, .stL 1 (.t 24) (.t 23), none, 0, []⟩]
def r_parse_parser_gate_10 : List AOper := [
  ⟨some 25, .mv (.t 0), none, 0, []⟩,
  ⟨some 26, .call false (.k (.fn F.parse_parser_must [] [])) [.t 25, .k (.str [59])], none, 0, []⟩]
def r_parse_parser_gate_11 : List AOper := [
  ⟨some 27, .ldL (some 4) (.t 3) false, none, 0, []⟩,
  ⟨none, .stL 4 (.t 2) (.t 27), none, 0, []⟩]
def c_parse_parser_gate : AC :=
  (.seq
   (.reg false r_parse_parser_gate_0 (some [0, 2]))
   (.seq
    (.reg false r_parse_parser_gate_1 (some [0, 2, 3]))
    (.seq
     (.reg false r_parse_parser_gate_2 (some [0, 2, 3]))
     (.seq
      (.block 0
       (.seq
        (.reg false r_parse_parser_gate_5 (some [0, 2, 3, 14]))
        (.cond (.t 14)
         (.reg false r_parse_parser_gate_6 (some [0, 2, 3]))
         (.seq
          (.reg false r_parse_parser_gate_7 (some [0, 2, 3, 18]))
          (.cond (.t 18)
           (.reg false r_parse_parser_gate_8 (some [0, 2, 3]))
           (.seq
            (.reg false r_parse_parser_gate_3 (some [0, 2, 3]))
            (.reg false r_parse_parser_gate_4 (some [0, 2, 3]))))))))
      (.seq
       (.reg false r_parse_parser_gate_9 (some [0, 2, 3]))
       (.seq
        (.reg false r_parse_parser_gate_10 (some [2, 3]))
        (.seq
         (.reg false r_parse_parser_gate_11 (some [2]))
         .ret)))))))
def f_parse_parser_gate : AFun := ⟨1, [.cell 2 (some 4)], c_parse_parser_gate⟩

def r_parse_parser_decl_0 : List AOper := [
  ⟨some 2, .allocL 2 [.int .i64 0, .str [], .sl true [], .int .i64 0, .int .i64 0, .sl true [], .int .i64 0], none, 0, []⟩]
def r_parse_parser_decl_1 : List AOper := [
  ⟨some 6, .mv (.t 0), none, 0, []⟩,
  ⟨some 7, .call false (.k (.fn F.parse_parser_now [] [])) [.t 6], none, 0, []⟩,
  ⟨some 8, .fld 2 (none) (.t 7), none, 0, []⟩,
  ⟨some 9, .build [.int .i64 0, .str [], .sl true [], .int .i64 0, .int .i64 0, .sl true [], .int .i64 0] [(6, 1, .t 8)], none, 0, []⟩,
  ⟨some 3, .allocL 3 [.int .i64 0, .str [], .sl true [], .int .i64 0, .int .i64 0, .sl true [], .int .i64 0], none, 0, []⟩,
  ⟨none, .stL 7 (.t 3) (.t 9), none, 0, []⟩]
def r_parse_parser_decl_4 : List AOper := [
  ⟨some 14, .mv (.t 0), none, 0, []⟩,
  ⟨some 15, .call false (.k (.fn F.parse_parser_may [] [])) [.t 14, .k (.str [102, 117, 110, 99])], none, 0, []⟩,
  ⟨some 13, .mv (.t 15), none, 0, []⟩]
def r_parse_parser_decl_5 : List AOper := [
  ⟨some 16, .mv (.t 0), none, 0, []⟩,
  ⟨some 17, .call false (.k (.fn F.parse_parser_name [] [])) [.t 16], none, 0, []⟩,
  ⟨some 18, .fad 0 (.t 3), none, 0, []⟩,
  ⟨none, .stL 1 (.t 18) (.k (.int .i64 1)), none, 0, []⟩,
  ⟨some 19, .fad 1 (.t 3), none, 0, []⟩,
  ⟨none, .stL 1 (.t 19) (.t 17), none, 0, []⟩]
def r_parse_parser_decl_6 : List AOper := [
  ⟨some 20, .mv (.t 0), none, 0, []⟩,
  ⟨some 21, .call false (.k (.fn F.parse_parser_must [] [])) [.t 20, .k (.str [40])], none, 0, []⟩]
def r_parse_parser_decl_7 : List AOper := [
  ⟨some 22, .mv (.t 0), none, 0, []⟩,
  ⟨some 23, .call false (.k (.fn F.parse_parser_may [] [])) [.t 22, .k (.str [41])], none, 0, []⟩,
  ⟨some 24, .un .not (.t 23), none, 0, []⟩,
  ⟨some 4, .mv (.t 24), none, 0, []⟩]
def r_parse_parser_decl_8 : List AOper := [
  ⟨some 25, .mv (.t 4), none, 0, []⟩]
def r_parse_parser_decl_9 : List AOper := [
  ⟨some 26, .mv (.t 0), none, 0, []⟩,
  ⟨some 27, .call false (.k (.fn F.parse_parser_typ [] [])) [.t 26], none, 0, []⟩,
  ⟨some 5, .mv (.t 27), none, 0, []⟩]
def r_parse_parser_decl_10 : List AOper := [
  ⟨some 28, .fad 2 (.t 3), none, 0, []⟩,
  ⟨some 29, .ldL (none) (.t 28) true, none, 1, [0]⟩,
  ⟨some 30, .mv (.t 0), none, 2, []⟩,
  ⟨some 32, .mv (.t 5), none, 4, []⟩,
  ⟨some 31, .call false (.k (.fn F.parse_parser_name [] [])) [.t 30], none, 3, [2]⟩,
  ⟨some 33, .build [.str [], .int .i64 0] [(0, 1, .t 31), (1, 1, .t 32)], none, 5, [2, 3, 4]⟩,
  ⟨some 34, .bsl 1 2 (.agg [.str [], .int .i64 0]) [(0, .t 33)], none, 6, [2, 3, 4, 5]⟩,
  ⟨some 35, .app 2 (.tk 29) (.t 34), none, 7, [0, 1, 2, 3, 4, 5, 6]⟩,
  ⟨some 36, .fad 2 (.t 3), none, 8, [0, 1, 2, 3, 4, 5, 6, 7]⟩,
  ⟨none, .stL 1 (.t 36) (.tk 35), none, 9, [0, 1, 2, 3, 4, 5, 6, 7, 8]⟩]
def r_parse_parser_decl_11 : List AOper := [
  ⟨some 37, .mv (.t 0), none, 0, []⟩,
  ⟨some 38, .call false (.k (.fn F.parse_parser_may [] [])) [.t 37, .k (.str [44])], none, 0, []⟩,
  ⟨some 4, .mv (.t 38), none, 0, []⟩]
def r_parse_parser_decl_12 : List AOper := [
  ⟨some 39, .mv (.t 4), none, 0, []⟩,
  ⟨some 40, .un .not (.t 39), none, 0, []⟩]
def r_parse_parser_decl_13 : List AOper := [
  ⟨some 41, .mv (.t 0), none, 0, []⟩,
  ⟨some 42, .call false (.k (.fn F.parse_parser_must [] [])) [.t 41, .k (.str [41])], none, 0, []⟩]
def r_parse_parser_decl_14 : List AOper := [
  ⟨some 44, .mv (.t 0), none, 0, []⟩,
  ⟨some 45, .call false (.k (.fn F.parse_parser_may [] [])) [.t 44, .k (.str [111, 110])], none, 0, []⟩,
  ⟨some 43, .mv (.t 45), none, 0, []⟩]
def r_parse_parser_decl_15 : List AOper := [
  ⟨some 46, .mv (.t 0), none, 0, []⟩,
  ⟨some 47, .call false (.k (.fn F.parse_parser_number [] [])) [.t 46], none, 0, []⟩,
  ⟨some 48, .cvI .i64 (.t 47), none, 0, []⟩,
  ⟨some 49, .fad 0 (.t 3), none, 0, []⟩,
  ⟨none, .stL 1 (.t 49) (.k (.int .i64 3)), none, 0, []⟩,
  ⟨some 50, .fad 3 (.t 3), none, 0, []⟩,
  ⟨none, .stL 1 (.t 50) (.t 48), none, 0, []⟩]
def r_parse_parser_decl_16 : List AOper := [
  ⟨some 51, .mv (.t 0), none, 0, []⟩,
  ⟨some 52, .call false (.k (.fn F.parse_parser_must [] [])) [.t 51, .k (.str [112, 114, 105, 111])], none, 0, []⟩]
def r_parse_parser_decl_17 : List AOper := [
  ⟨some 53, .mv (.t 0), none, 0, []⟩,
  ⟨some 54, .call false (.k (.fn F.parse_parser_number [] [])) [.t 53], none, 0, []⟩,
  ⟨some 55, .cvI .i64 (.t 54), none, 0, []⟩,
  ⟨some 56, .fad 4 (.t 3), none, 0, []⟩,
  ⟨none, .stL 1 (.t 56) (.t 55), none, 0, []⟩]
def r_parse_parser_decl_2 : List AOper := [
  ⟨some 10, .mv (.t 0), none, 0, []⟩,
  ⟨some 11, .call false (.k (.fn F.parse_parser_must [] [])) [.t 10, .k (.str [109, 97, 105, 110])], none, 0, []⟩]
def r_parse_parser_decl_3 : List AOper := [
  ⟨some 12, .fad 0 (.t 3), none, 0, []⟩,
  ⟨none, .stL 1 (.t 12) (.k (.int .i64 2)), none, 0, []⟩]
def r_parse_parser_decl_18 : List AOper := [
  ⟨some 57, .mv (.t 0), none, 0, []⟩,
  ⟨some 58, .call false (.k (.fn F.parse_parser_block [] [])) [.t 57], none, 0, []⟩,
  ⟨some 59, .fad 5 (.t 3), none, 0, []⟩,
  ⟨none, .stL 1 (.t 59) (.t 58), none, 0, []⟩]
def r_parse_parser_decl_19 : List AOper := [
  ⟨some 60, .ldL (some 7) (.t 3) false, none, 0, []⟩,
  ⟨none, .stL 7 (.t 2) (.t 60), none, 0, []⟩]
def c_parse_parser_decl : AC :=
  (.seq
   (.reg false r_parse_parser_decl_0 (some [0, 2]))
   (.seq
    (.reg false r_parse_parser_decl_1 (some [0, 2, 3]))
    (.seq
     (.block 0
      (.seq
       (.reg false r_parse_parser_decl_4 (some [0, 2, 3, 13]))
       (.cond (.t 13)
        (.seq
         (.reg false r_parse_parser_decl_5 (some [0, 2, 3]))
         (.seq
          (.reg false r_parse_parser_decl_6 (some [0, 2, 3]))
          (.seq
           (.reg false r_parse_parser_decl_7 (some [0, 2, 3, 4]))
           (.block 1
            (.loop
             (.seq
              (.seq
               (.reg false r_parse_parser_decl_8 (some [0, 2, 3, 25]))
               (.cond (.t 25)
                .skip
                (.exit 1)))
              (.block 2
               (.seq
                (.reg false r_parse_parser_decl_9 (some [0, 2, 3, 5]))
                (.seq
                 (.reg true r_parse_parser_decl_10 (some [0, 2, 3]))
                 (.seq
                  (.reg false r_parse_parser_decl_11 (some [0, 2, 3, 4]))
                  (.seq
                   (.reg false r_parse_parser_decl_12 (some [0, 2, 3, 4, 40]))
                   (.cond (.t 40)
                    (.reg false r_parse_parser_decl_13 (some [0, 2, 3, 4]))
                    .skip))))))))))))
        (.seq
         (.reg false r_parse_parser_decl_14 (some [0, 2, 3, 43]))
         (.cond (.t 43)
          (.seq
           (.reg false r_parse_parser_decl_15 (some [0, 2, 3]))
           (.seq
            (.reg false r_parse_parser_decl_16 (some [0, 2, 3]))
            (.reg false r_parse_parser_decl_17 (some [0, 2, 3]))))
          (.seq
           (.reg false r_parse_parser_decl_2 (some [0, 2, 3]))
           (.reg false r_parse_parser_decl_3 (some [0, 2, 3]))))))))
     (.seq
      (.reg false r_parse_parser_decl_18 (some [2, 3]))
      (.seq
       (.reg false r_parse_parser_decl_19 (some [2]))
       .ret)))))
def f_parse_parser_decl : AFun := ⟨1, [.cell 2 (some 7)], c_parse_parser_decl⟩

def r_ast_Check_0 : List AOper := [
  ⟨some 1, .boxC (.t 0), none, 0, []⟩,
  ⟨some 2, .mv (.k (.int .i64 0)), none, 0, []⟩]
def r_ast_Check_1 : List AOper := [
  ⟨some 11, .ldC (some 4) (.t 1), none, 0, []⟩,
  ⟨some 12, .call true (.k (.fn F.ast_all [] [])) [.t 11], none, 0, []⟩,
  ⟨some 3, .mv (.t 12), none, 0, []⟩]
def r_ast_Check_2 : List AOper := [
  ⟨some 13, .mv (.t 3), none, 0, []⟩,
  ⟨some 14, .call true (.k (.fn F.ast_check [] [])) [.t 13], none, 0, []⟩,
  ⟨some 4, .mv (.t 14), none, 0, []⟩]
def r_ast_Check_3 : List AOper := [
  ⟨some 15, .mv (.t 4), none, 0, []⟩,
  ⟨some 16, .bin 0 .eql (.t 15) (.k (.int .i64 3)), none, 0, []⟩]
def r_ast_Check_4 : List AOper := [
  ⟨some 17, .mv (.t 4), none, 0, []⟩,
  ⟨some 2, .mv (.t 17), none, 0, []⟩]
def r_ast_Check_5 : List AOper := [
  ⟨some 18, .mv (.t 4), none, 0, []⟩,
  ⟨some 19, .bin 0 .neq (.t 18) (.k (.int .i64 0)), none, 0, []⟩,
  ⟨some 20, .mv (.t 19), none, 0, []⟩,
  ⟨some 21, .fad 0 (.t 1), some (20, false), 0, []⟩,
  ⟨some 22, .ldC (none) (.t 21), some (20, false), 0, []⟩,
  ⟨some 23, .bin 0 .lss (.t 22) (.k (.int .i64 1)), some (20, false), 0, []⟩,
  ⟨some 24, .pick (.t 20) (.k (.bool true)) (.t 23), none, 0, []⟩,
  ⟨some 25, .mv (.t 24), none, 0, []⟩,
  ⟨some 26, .fad 0 (.t 1), some (25, false), 0, []⟩,
  ⟨some 27, .ldC (none) (.t 26), some (25, false), 0, []⟩,
  ⟨some 28, .bin 0 .gtr (.t 27) (.k (.int .i64 65536)), some (25, false), 0, []⟩,
  ⟨some 29, .pick (.t 25) (.k (.bool true)) (.t 28), none, 0, []⟩]
def r_ast_Check_6 : List AOper := [
  ⟨some 2, .mv (.k (.int .i64 2)), none, 0, []⟩]
def r_ast_Check_7 : List AOper := [
  ⟨some 30, .fad 1 (.t 1), none, 0, []⟩,
  ⟨some 31, .ldC (none) (.t 30), none, 0, []⟩,
  ⟨some 32, .len 1 (.t 31), none, 0, []⟩,
  ⟨some 33, .mv (.k (.int .i64 0)), none, 0, []⟩]
def r_ast_Check_8 : List AOper := [
  ⟨some 34, .bin 0 .lss (.t 33) (.t 32), none, 0, []⟩]
def r_ast_Check_9 : List AOper := [
  ⟨some 35, .iad 5 (.t 31) (.t 33), none, 0, []⟩,
  ⟨some 36, .ldC (some 5) (.t 35), none, 0, []⟩,
  ⟨some 6, .allocL 6 [.str [], .int .i64 0, .int .i64 0, .sl true [], .int .i64 0], none, 0, []⟩,
  ⟨none, .stL 5 (.t 6) (.t 36), none, 0, []⟩]
def r_ast_Check_10 : List AOper := [
  ⟨some 37, .ldL (some 5) (.t 6) false, none, 0, []⟩,
  ⟨some 38, .call true (.k (.fn F.ast_global [] [])) [.t 37], none, 0, []⟩,
  ⟨some 39, .un .not (.t 38), none, 0, []⟩]
def r_ast_Check_11 : List AOper := [
  ⟨some 2, .mv (.k (.int .i64 2)), none, 0, []⟩]
def r_ast_Check_12 : List AOper := [
  ⟨some 40, .bin 0 .add (.t 33) (.k (.int .i64 1)), none, 0, []⟩,
  ⟨some 33, .mv (.t 40), none, 0, []⟩]
def r_ast_Check_13 : List AOper := [
  ⟨some 41, .fad 2 (.t 1), none, 0, []⟩,
  ⟨some 42, .ldC (none) (.t 41), none, 0, []⟩,
  ⟨some 43, .len 1 (.t 42), none, 0, []⟩,
  ⟨some 44, .mv (.k (.int .i64 0)), none, 0, []⟩]
def r_ast_Check_14 : List AOper := [
  ⟨some 45, .bin 0 .lss (.t 44) (.t 43), none, 0, []⟩]
def r_ast_Check_15 : List AOper := [
  ⟨some 46, .iad 4 (.t 42) (.t 44), none, 0, []⟩,
  ⟨some 47, .ldC (some 4) (.t 46), none, 0, []⟩,
  ⟨some 8, .allocL 8 [.str [], .bool false, .bool false, .int .i64 0], none, 0, []⟩,
  ⟨none, .stL 4 (.t 8) (.t 47), none, 0, []⟩]
def r_ast_Check_16 : List AOper := [
  ⟨some 48, .fad 0 (.t 8), none, 0, []⟩,
  ⟨some 49, .ldL (none) (.t 48) false, none, 0, []⟩,
  ⟨some 50, .call true (.k (.fn F.ast_name [] [])) [.t 49], none, 0, []⟩,
  ⟨some 51, .un .not (.t 50), none, 0, []⟩,
  ⟨some 52, .mv (.t 51), none, 0, []⟩,
  ⟨some 53, .fad 1 (.t 8), some (52, false), 0, []⟩,
  ⟨some 54, .ldL (none) (.t 53) false, some (52, false), 0, []⟩,
  ⟨some 55, .un .not (.t 54), some (52, false), 0, []⟩,
  ⟨some 56, .mv (.t 55), some (52, false), 0, []⟩,
  ⟨some 57, .fad 2 (.t 8), some (56, true), 0, []⟩,
  ⟨some 58, .ldL (none) (.t 57) false, some (56, true), 0, []⟩,
  ⟨some 59, .un .not (.t 58), some (56, true), 0, []⟩,
  ⟨some 60, .pick (.t 56) (.t 59) (.k (.bool false)), some (52, false), 0, []⟩,
  ⟨some 61, .pick (.t 52) (.k (.bool true)) (.t 60), none, 0, []⟩,
  ⟨some 62, .mv (.t 61), none, 0, []⟩,
  ⟨some 63, .fad 3 (.t 8), some (62, false), 0, []⟩,
  ⟨some 64, .ldL (none) (.t 63) false, some (62, false), 0, []⟩,
  ⟨some 65, .bin 0 .lss (.t 64) (.k (.int .i64 0)), some (62, false), 0, []⟩,
  ⟨some 66, .pick (.t 62) (.k (.bool true)) (.t 65), none, 0, []⟩]
def r_ast_Check_17 : List AOper := [
  ⟨some 2, .mv (.k (.int .i64 2)), none, 0, []⟩]
def r_ast_Check_18 : List AOper := [
  ⟨some 67, .bin 0 .add (.t 44) (.k (.int .i64 1)), none, 0, []⟩,
  ⟨some 44, .mv (.t 67), none, 0, []⟩]
def r_ast_Check_19 : List AOper := [
  ⟨some 68, .fad 3 (.t 1), none, 0, []⟩,
  ⟨some 69, .ldC (none) (.t 68), none, 0, []⟩,
  ⟨some 70, .len 1 (.t 69), none, 0, []⟩,
  ⟨some 71, .mv (.k (.int .i64 0)), none, 0, []⟩]
def r_ast_Check_20 : List AOper := [
  ⟨some 72, .bin 0 .lss (.t 71) (.t 70), none, 0, []⟩]
def r_ast_Check_21 : List AOper := [
  ⟨some 73, .iad 7 (.t 69) (.t 71), none, 0, []⟩,
  ⟨some 74, .ldC (some 7) (.t 73), none, 0, []⟩,
  ⟨some 10, .allocL 10 [.int .i64 0, .str [], .sl true [], .int .i64 0, .int .i64 0, .sl true [], .int .i64 0], none, 0, []⟩,
  ⟨none, .stL 7 (.t 10) (.t 74), none, 0, []⟩]
def r_ast_Check_22 : List AOper := [
  ⟨some 75, .ldL (some 7) (.t 10) false, none, 0, []⟩,
  ⟨some 76, .call true (.k (.fn F.ast_decl [] [])) [.t 75], none, 0, []⟩,
  ⟨some 77, .un .not (.t 76), none, 0, []⟩]
def r_ast_Check_23 : List AOper := [
  ⟨some 2, .mv (.k (.int .i64 2)), none, 0, []⟩]
def r_ast_Check_24 : List AOper := [
  ⟨some 78, .bin 0 .add (.t 71) (.k (.int .i64 1)), none, 0, []⟩,
  ⟨some 71, .mv (.t 78), none, 0, []⟩]
def r_ast_Check_25 : List AOper := [
  ⟨some 2, .mv (.k (.int .i64 0)), none, 0, []⟩]
def c_ast_Check : AC :=
  (.seq
   (.reg false r_ast_Check_0 (some [1]))
   (.seq
    (.reg false r_ast_Check_1 (some [1, 3]))
    (.seq
     (.reg false r_ast_Check_2 (some [1, 4]))
     (.seq
      (.seq
       (.reg false r_ast_Check_3 (some [1, 4, 16]))
       (.cond (.t 16)
        (.seq
         (.reg false r_ast_Check_4 (some [2]))
         .ret)
        .skip))
      (.seq
       (.seq
        (.reg false r_ast_Check_5 (some [1, 29]))
        (.cond (.t 29)
         (.seq
          (.reg false r_ast_Check_6 (some [2]))
          .ret)
         .skip))
       (.seq
        (.seq
         (.reg false r_ast_Check_7 (some [1, 31, 32, 33]))
         (.block 0
          (.loop
           (.seq
            (.reg false r_ast_Check_8 (some [1, 31, 32, 33, 34]))
            (.seq
             (.cond (.t 34)
              .skip
              (.exit 0))
             (.seq
              (.block 1
               (.seq
                (.reg false r_ast_Check_9 (some [1, 6, 31, 32, 33]))
                (.seq
                 (.reg false r_ast_Check_10 (some [1, 31, 32, 33, 39]))
                 (.cond (.t 39)
                  (.seq
                   (.reg false r_ast_Check_11 (some [2]))
                   .ret)
                  .skip))))
              (.reg false r_ast_Check_12 (some [1, 31, 32, 33]))))))))
        (.seq
         (.seq
          (.reg false r_ast_Check_13 (some [1, 42, 43, 44]))
          (.block 2
           (.loop
            (.seq
             (.reg false r_ast_Check_14 (some [1, 42, 43, 44, 45]))
             (.seq
              (.cond (.t 45)
               .skip
               (.exit 2))
              (.seq
               (.block 3
                (.seq
                 (.reg false r_ast_Check_15 (some [1, 8, 42, 43, 44]))
                 (.seq
                  (.reg false r_ast_Check_16 (some [1, 42, 43, 44, 66]))
                  (.cond (.t 66)
                   (.seq
                    (.reg false r_ast_Check_17 (some [2]))
                    .ret)
                   .skip))))
               (.reg false r_ast_Check_18 (some [1, 42, 43, 44]))))))))
         (.seq
          (.seq
           (.reg false r_ast_Check_19 (some [69, 70, 71]))
           (.block 4
            (.loop
             (.seq
              (.reg false r_ast_Check_20 (some [69, 70, 71, 72]))
              (.seq
               (.cond (.t 72)
                .skip
                (.exit 4))
               (.seq
                (.block 5
                 (.seq
                  (.reg false r_ast_Check_21 (some [10, 69, 70, 71]))
                  (.seq
                   (.reg false r_ast_Check_22 (some [69, 70, 71, 77]))
                   (.cond (.t 77)
                    (.seq
                     (.reg false r_ast_Check_23 (some [2]))
                     .ret)
                    .skip))))
                (.reg false r_ast_Check_24 (some [69, 70, 71]))))))))
          (.seq
           (.reg false r_ast_Check_25 (some [2]))
           .ret)))))))))
def f_ast_Check : AFun := ⟨1, [.tmp 2], c_ast_Check⟩

def r_parse_judge_0 : List AOper := [
  ⟨some 2, .mv (.t 0), none, 0, []⟩]
def r_parse_judge_2 : List AOper := [
  ⟨some 7, .bin 0 .eql (.t 2) (.k (.int .i64 0)), none, 0, []⟩,
  ⟨some 6, .mv (.t 7), none, 0, []⟩]
def r_parse_judge_3 : List AOper := [
  ⟨some 9, .bin 0 .eql (.t 2) (.k (.int .i64 3)), none, 0, []⟩,
  ⟨some 8, .mv (.t 9), none, 0, []⟩]
def r_parse_judge_4 : List AOper := [
  ⟨some 10, .call true (.k (.fn F.parse_long [] [])) [], none, 0, []⟩]
def r_parse_judge_1 : List AOper := [
  ⟨some 3, .build [.int .i64 0, .int .i64 0, .int .i64 0] [(0, 1, .k (.int .i64 14))], none, 0, []⟩,
  ⟨some 4, .build [.int .i64 0, .int .i64 0, .int .i64 0] [(0, 3, .t 3)], none, 0, []⟩,
  ⟨some 5, .ifc Ty.parse_thrown (.t 4), none, 0, []⟩,
  ⟨none, .pan (.t 5), none, 0, []⟩]
def c_parse_judge : AC :=
  (.seq
   (.reg false r_parse_judge_0 (some [2]))
   (.block 0
    (.seq
     (.reg false r_parse_judge_2 (some [2, 6]))
     (.cond (.t 6)
      .skip
      (.seq
       (.reg false r_parse_judge_3 (some [8]))
       (.cond (.t 8)
        (.reg false r_parse_judge_4 (some []))
        (.reg false r_parse_judge_1 (some []))))))))
def f_parse_judge : AFun := ⟨1, [], c_parse_judge⟩

def r_parse_Expr_0 : List AOper := [
  ⟨some 2, .allocH [.int .i64 0, .int .i64 0, .int .i64 0, .int .u32 0, .str [], .sl true []], none, 0, []⟩,
  ⟨some 3, .allocH [.int .i64 0, .int .i64 0, .int .i64 0], none, 0, []⟩]
def r_parse_Expr_1 : List AOper := [
  ⟨some 6, .mkfn F.parse_Expr_1 [] [.t 3, .t 2], none, 0, []⟩,
  ⟨none, .dfr (.t 6) [], none, 0, []⟩]
def r_parse_Expr_2 : List AOper := [
  ⟨none, .dfr (.k (.fn F.parse_catch [] [])) [.t 3], none, 0, []⟩]
def r_parse_Expr_3 : List AOper := [
  ⟨some 7, .mv (.t 0), none, 0, []⟩,
  ⟨some 8, .call false (.k (.fn F.parse_begin [] [])) [.t 7], none, 0, []⟩,
  ⟨some 4, .mv (.t 8), none, 0, []⟩]
def r_parse_Expr_4 : List AOper := [
  ⟨some 9, .mv (.t 4), none, 0, []⟩,
  ⟨some 10, .call false (.k (.fn F.parse_parser_expr [] [])) [.t 9, .k (.int .i64 1)], none, 0, []⟩,
  ⟨some 5, .allocL 5 [.int .i64 0, .int .i64 0, .int .i64 0, .int .u32 0, .str [], .sl true []], none, 0, []⟩,
  ⟨none, .stL 6 (.t 5) (.t 10), none, 0, []⟩]
def r_parse_Expr_5 : List AOper := [
  ⟨some 11, .mv (.t 4), none, 0, []⟩,
  ⟨some 12, .call false (.k (.fn F.parse_parser_end [] [])) [.t 11], none, 0, []⟩]
def r_parse_Expr_6 : List AOper := [
  ⟨some 13, .ldL (some 6) (.t 5) false, none, 0, []⟩,
  ⟨some 14, .call true (.k (.fn F.ast_CheckExpr [] [])) [.t 13], none, 0, []⟩,
  ⟨some 15, .call true (.k (.fn F.parse_judge [] [])) [.t 14], none, 0, []⟩]
def r_parse_Expr_7 : List AOper := [
  ⟨some 16, .ldL (some 6) (.t 5) false, none, 0, []⟩,
  ⟨some 17, .build [.int .i64 0, .int .i64 0, .int .i64 0] [], none, 0, []⟩,
  ⟨none, .stH 6 (.t 2) (.t 16), none, 0, []⟩,
  ⟨none, .stH 3 (.t 3) (.t 17), none, 0, []⟩]
def c_parse_Expr : AC :=
  (.seq
   (.reg false r_parse_Expr_0 (some [0, 2, 3]))
   (.seq
    (.reg false r_parse_Expr_1 (some [0, 2, 3]))
    (.seq
     (.reg false r_parse_Expr_2 (some [0, 2, 3]))
     (.seq
      (.reg false r_parse_Expr_3 (some [2, 3, 4]))
      (.seq
       (.reg false r_parse_Expr_4 (some [2, 3, 4, 5]))
       (.seq
        (.reg false r_parse_Expr_5 (some [2, 3, 5]))
        (.seq
         (.reg false r_parse_Expr_6 (some [2, 3, 5]))
         (.seq
          (.reg false r_parse_Expr_7 (some [2, 3]))
          .ret))))))))
def f_parse_Expr : AFun := ⟨1, [.cell 2 (some 6), .cell 3 (some 3)], c_parse_Expr⟩

def r_parse_Stmts_0 : List AOper := [
  ⟨some 2, .allocH [.sl true []], none, 0, []⟩,
  ⟨some 3, .allocH [.int .i64 0, .int .i64 0, .int .i64 0], none, 0, []⟩]
def r_parse_Stmts_1 : List AOper := [
  ⟨some 8, .mkfn F.parse_Stmts_1 [] [.t 3, .t 2], none, 0, []⟩,
  ⟨none, .dfr (.t 8) [], none, 0, []⟩]
def r_parse_Stmts_2 : List AOper := [
  ⟨none, .dfr (.k (.fn F.parse_catch [] [])) [.t 3], none, 0, []⟩]
def r_parse_Stmts_3 : List AOper := [
  ⟨some 9, .mv (.t 0), none, 0, []⟩,
  ⟨some 10, .call false (.k (.fn F.parse_begin [] [])) [.t 9], none, 0, []⟩,
  ⟨some 4, .mv (.t 10), none, 0, []⟩]
def r_parse_Stmts_4 : List AOper := [
  ⟨some 5, .mv (.k (.sl true [])), none, 0, []⟩]
def r_parse_Stmts_5 : List AOper := [
  ⟨some 11, .mv (.t 4), none, 0, []⟩,
  ⟨some 12, .nilck (.t 11), none, 1, [0]⟩,
  ⟨some 13, .fad 1 (.t 12), none, 2, [0, 1]⟩,
  ⟨some 14, .ldH (none) (.t 13) false, none, 3, [0, 1, 2]⟩,
  ⟨some 15, .mv (.t 4), none, 4, []⟩,
  ⟨some 16, .nilck (.t 15), none, 5, [4]⟩,
  ⟨some 17, .fad 0 (.t 16), none, 6, [4, 5]⟩,
  ⟨some 18, .ldH (none) (.t 17) false, none, 7, [4, 5, 6]⟩,
  ⟨some 19, .len 1 (.t 18), none, 8, [4, 5, 6, 7]⟩,
  ⟨some 20, .bin 0 .lss (.t 14) (.t 19), none, 9, [0, 1, 2, 3, 4, 5, 6, 7, 8]⟩]
def r_parse_Stmts_6 : List AOper := [
  ⟨some 21, .mv (.tk 5), none, 0, []⟩,
  ⟨some 22, .mv (.t 4), none, 0, []⟩,
  ⟨some 23, .call false (.k (.fn F.parse_parser_stmt [] [])) [.t 22], none, 0, []⟩,
  ⟨some 24, .bsl 1 10 (.agg [.int .i64 0, .int .i64 0, .int .i64 0, .int .i64 0, .str [], .sl true [], .sl true [], .sl true [], .sl true [], .sl true []]) [(0, .t 23)], none, 0, []⟩,
  ⟨some 25, .app 10 (.tk 21) (.t 24), none, 0, []⟩,
  ⟨some 5, .mv (.tk 25), none, 0, []⟩]
def r_parse_Stmts_7 : List AOper := [
  ⟨some 26, .mv (.t 5), none, 0, []⟩,
  ⟨some 27, .len 1 (.t 26), none, 0, []⟩,
  ⟨some 28, .mv (.k (.int .i64 0)), none, 0, []⟩]
def r_parse_Stmts_8 : List AOper := [
  ⟨some 29, .bin 0 .lss (.t 28) (.t 27), none, 0, []⟩]
def r_parse_Stmts_9 : List AOper := [
  ⟨some 30, .iad 10 (.t 26) (.t 28), none, 0, []⟩,
  ⟨some 31, .ldC (some 10) (.t 30), none, 0, []⟩,
  ⟨some 7, .allocL 7 [.int .i64 0, .int .i64 0, .int .i64 0, .int .i64 0, .str [], .sl true [], .sl true [], .sl true [], .sl true [], .sl true []], none, 0, []⟩,
  ⟨none, .stL 10 (.t 7) (.t 31), none, 0, []⟩]
def r_parse_Stmts_10 : List AOper := [
  ⟨some 32, .ldL (some 10) (.t 7) false, none, 0, []⟩,
  ⟨some 33, .call true (.k (.fn F.ast_CheckStmt [] [])) [.t 32], none, 0, []⟩,
  ⟨some 34, .call true (.k (.fn F.parse_judge [] [])) [.t 33], none, 0, []⟩]
def r_parse_Stmts_11 : List AOper := [
  ⟨some 35, .bin 0 .add (.t 28) (.k (.int .i64 1)), none, 0, []⟩,
  ⟨some 28, .mv (.t 35), none, 0, []⟩]
def r_parse_Stmts_12 : List AOper := [
  ⟨some 36, .mv (.t 5), none, 0, []⟩,
  ⟨some 37, .build [.int .i64 0, .int .i64 0, .int .i64 0] [], none, 0, []⟩,
  ⟨none, .stH 1 (.t 2) (.t 36), none, 0, []⟩,
  ⟨none, .stH 3 (.t 3) (.t 37), none, 0, []⟩]
def c_parse_Stmts : AC :=
  (.seq
   (.reg false r_parse_Stmts_0 (some [0, 2, 3]))
   (.seq
    (.reg false r_parse_Stmts_1 (some [0, 2, 3]))
    (.seq
     (.reg false r_parse_Stmts_2 (some [0, 2, 3]))
     (.seq
      (.reg false r_parse_Stmts_3 (some [2, 3, 4]))
      (.seq
       (.reg false r_parse_Stmts_4 (some [2, 3, 4, 5]))
       (.seq
        (.block 0
         (.loop
          (.seq
           (.seq
            (.reg true r_parse_Stmts_5 (some [2, 3, 4, 5, 20]))
            (.cond (.t 20)
             .skip
             (.exit 0)))
           (.block 1
            (.reg false r_parse_Stmts_6 (some [2, 3, 4, 5]))))))
        (.seq
         (.seq
          (.reg false r_parse_Stmts_7 (some [2, 3, 5, 26, 27, 28]))
          (.block 2
           (.loop
            (.seq
             (.reg false r_parse_Stmts_8 (some [2, 3, 5, 26, 27, 28, 29]))
             (.seq
              (.cond (.t 29)
               .skip
               (.exit 2))
              (.seq
               (.block 3
                (.seq
                 (.reg false r_parse_Stmts_9 (some [2, 3, 5, 7, 26, 27, 28]))
                 (.reg false r_parse_Stmts_10 (some [2, 3, 5, 26, 27, 28]))))
               (.reg false r_parse_Stmts_11 (some [2, 3, 5, 26, 27, 28]))))))))
         (.seq
          (.reg false r_parse_Stmts_12 (some [2, 3]))
          .ret))))))))
def f_parse_Stmts : AFun := ⟨1, [.cell 2 (none), .cell 3 (some 3)], c_parse_Stmts⟩

def r_law07_num_0 : List AOper := [
  ⟨some 2, .allocL 2 [.int .i64 0, .int .i64 0, .int .i64 0, .int .u32 0, .str [], .sl true []], none, 0, []⟩]
def r_law07_num_1 : List AOper := [
  ⟨some 3, .mv (.t 0), none, 0, []⟩,
  ⟨some 4, .build [.int .i64 0, .int .i64 0, .int .i64 0, .int .u32 0, .str [], .sl true []] [(0, 1, .k (.int .i64 1)), (3, 1, .t 3)], none, 0, []⟩,
  ⟨none, .stL 6 (.t 2) (.t 4), none, 0, []⟩]
def c_law07_num : AC :=
  (.seq
   (.reg false r_law07_num_0 (some [0, 2]))
   (.seq
    (.reg false r_law07_num_1 (some [2]))
    .ret))
def f_law07_num : AFun := ⟨1, [.cell 2 (some 6)], c_law07_num⟩

def r_law07_bin_0 : List AOper := [
  ⟨some 4, .boxC (.t 1), none, 0, []⟩,
  ⟨some 5, .boxC (.t 2), none, 0, []⟩,
  ⟨some 6, .allocL 6 [.int .i64 0, .int .i64 0, .int .i64 0, .int .u32 0, .str [], .sl true []], none, 0, []⟩]
def r_law07_bin_1 : List AOper := [
  ⟨some 7, .mv (.t 0), none, 0, []⟩,
  ⟨some 8, .ldC (some 6) (.t 4), none, 0, []⟩,
  ⟨some 9, .ldC (some 6) (.t 5), none, 0, []⟩,
  ⟨some 10, .bsl 2 6 (.agg [.int .i64 0, .int .i64 0, .int .i64 0, .int .u32 0, .str [], .sl true []]) [(0, .t 8), (1, .t 9)], none, 0, []⟩,
  ⟨some 11, .build [.int .i64 0, .int .i64 0, .int .i64 0, .int .u32 0, .str [], .sl true []] [(0, 1, .k (.int .i64 6)), (1, 1, .t 7), (5, 1, .t 10)], none, 0, []⟩,
  ⟨none, .stL 6 (.t 6) (.t 11), none, 0, []⟩]
def c_law07_bin : AC :=
  (.seq
   (.reg false r_law07_bin_0 (some [0, 4, 5, 6]))
   (.seq
    (.reg false r_law07_bin_1 (some [6]))
    .ret))
def f_law07_bin : AFun := ⟨3, [.cell 6 (some 6)], c_law07_bin⟩

def r_kit_Expr_0 : List AOper := [
  ⟨some 2, .boxC (.t 0), none, 0, []⟩,
  ⟨some 3, .boxC (.t 1), none, 0, []⟩,
  ⟨some 4, .mv (.k (.bool false)), none, 0, []⟩]
def r_kit_Expr_1 : List AOper := [
  ⟨some 5, .fad 0 (.t 2), none, 0, []⟩,
  ⟨some 6, .ldC (none) (.t 5), none, 0, []⟩,
  ⟨some 7, .fad 0 (.t 3), none, 0, []⟩,
  ⟨some 8, .ldC (none) (.t 7), none, 0, []⟩,
  ⟨some 9, .bin 0 .eql (.t 6) (.t 8), none, 0, []⟩,
  ⟨some 10, .mv (.t 9), none, 0, []⟩,
  ⟨some 11, .fad 1 (.t 2), some (10, true), 0, []⟩,
  ⟨some 12, .ldC (none) (.t 11), some (10, true), 0, []⟩,
  ⟨some 13, .fad 1 (.t 3), some (10, true), 0, []⟩,
  ⟨some 14, .ldC (none) (.t 13), some (10, true), 0, []⟩,
  ⟨some 15, .bin 0 .eql (.t 12) (.t 14), some (10, true), 0, []⟩,
  ⟨some 16, .pick (.t 10) (.t 15) (.k (.bool false)), none, 0, []⟩,
  ⟨some 17, .mv (.t 16), none, 0, []⟩,
  ⟨some 18, .fad 2 (.t 2), some (17, true), 0, []⟩,
  ⟨some 19, .ldC (none) (.t 18), some (17, true), 0, []⟩,
  ⟨some 20, .fad 2 (.t 3), some (17, true), 0, []⟩,
  ⟨some 21, .ldC (none) (.t 20), some (17, true), 0, []⟩,
  ⟨some 22, .bin 0 .eql (.t 19) (.t 21), some (17, true), 0, []⟩,
  ⟨some 23, .pick (.t 17) (.t 22) (.k (.bool false)), none, 0, []⟩,
  ⟨some 24, .mv (.t 23), none, 0, []⟩,
  ⟨some 25, .fad 3 (.t 2), some (24, true), 0, []⟩,
  ⟨some 26, .ldC (none) (.t 25), some (24, true), 0, []⟩,
  ⟨some 27, .fad 3 (.t 3), some (24, true), 0, []⟩,
  ⟨some 28, .ldC (none) (.t 27), some (24, true), 0, []⟩,
  ⟨some 29, .bin 0 .eql (.t 26) (.t 28), some (24, true), 0, []⟩,
  ⟨some 30, .pick (.t 24) (.t 29) (.k (.bool false)), none, 0, []⟩,
  ⟨some 31, .mv (.t 30), none, 0, []⟩,
  ⟨some 32, .fad 4 (.t 2), some (31, true), 0, []⟩,
  ⟨some 33, .ldC (none) (.t 32), some (31, true), 0, []⟩,
  ⟨some 34, .fad 4 (.t 3), some (31, true), 0, []⟩,
  ⟨some 35, .ldC (none) (.t 34), some (31, true), 0, []⟩,
  ⟨some 36, .bin 0 .eql (.t 33) (.t 35), some (31, true), 0, []⟩,
  ⟨some 37, .pick (.t 31) (.t 36) (.k (.bool false)), none, 0, []⟩,
  ⟨some 38, .mv (.t 37), none, 0, []⟩,
  ⟨some 39, .fad 5 (.t 2), some (38, true), 0, []⟩,
  ⟨some 40, .ldC (none) (.t 39), some (38, true), 0, []⟩,
  ⟨some 41, .fad 5 (.t 3), some (38, true), 0, []⟩,
  ⟨some 42, .ldC (none) (.t 41), some (38, true), 0, []⟩,
  ⟨some 43, .call true (.k (.fn F.kit_Exprs [] [])) [.t 40, .t 42], some (38, true), 0, []⟩,
  ⟨some 44, .pick (.t 38) (.t 43) (.k (.bool false)), none, 0, []⟩,
  ⟨some 4, .mv (.t 44), none, 0, []⟩]
def c_kit_Expr : AC :=
  (.seq
   (.reg false r_kit_Expr_0 (some [2, 3]))
   (.seq
    (.reg false r_kit_Expr_1 (some [4]))
    .ret))
def f_kit_Expr : AFun := ⟨2, [.tmp 4], c_kit_Expr⟩

def r_lex_All_0 : List AOper := [
  ⟨some 2, .mv (.k (.sl true [])), none, 0, []⟩,
  ⟨some 3, .allocL 3 [.int .i64 0, .int .i64 0, .int .i64 0], none, 0, []⟩]
def r_lex_All_1 : List AOper := [
  ⟨some 6, .mv (.t 0), none, 0, []⟩,
  ⟨some 7, .len 0 (.t 6), none, 0, []⟩,
  ⟨some 8, .bin 0 .gtr (.t 7) (.k (.int .i64 65536)), none, 0, []⟩]
def r_lex_All_2 : List AOper := [
  ⟨some 9, .build [.int .i64 0, .int .i64 0, .int .i64 0] [(0, 1, .k (.int .i64 3))], none, 0, []⟩,
  ⟨some 2, .mv (.k (.sl true [])), none, 0, []⟩,
  ⟨none, .stL 3 (.t 3) (.t 9), none, 0, []⟩]
def r_lex_All_3 : List AOper := [
  ⟨some 10, .mv (.t 0), none, 0, []⟩,
  ⟨some 11, .build [.str [], .int .i64 0, .int .i64 0, .int .i64 0, .sl true [], .bool false] [(0, 1, .t 10), (2, 1, .k (.int .i64 1)), (3, 1, .k (.int .i64 1))], none, 0, []⟩,
  ⟨some 12, .boxH (.t 11), none, 0, []⟩,
  ⟨some 4, .mv (.t 12), none, 0, []⟩]
def r_lex_All_4 : List AOper := [
  ⟨some 5, .mv (.k (.fn F.lex_between [] [])), none, 0, []⟩]
def r_lex_All_5 : List AOper := [
  ⟨some 13, .mv (.t 5), none, 0, []⟩,
  ⟨some 14, .bin 3 .neq (.t 13) (.k (.nfn)), none, 0, []⟩]
def r_lex_All_6 : List AOper := [
  ⟨some 15, .mv (.t 5), none, 0, []⟩,
  ⟨some 16, .mv (.t 4), none, 0, []⟩,
  ⟨some 17, .call false (.t 15) [.t 16], none, 0, []⟩,
  ⟨some 5, .mv (.t 17), none, 0, []⟩]
def r_lex_All_7 : List AOper := [
  ⟨some 18, .mv (.t 4), none, 0, []⟩,
  ⟨some 19, .nilck (.t 18), none, 0, []⟩,
  ⟨some 20, .fad 5 (.t 19), none, 0, []⟩,
  ⟨some 21, .ldH (none) (.t 20) false, none, 0, []⟩]
def r_lex_All_8 : List AOper := [
  ⟨some 22, .mv (.t 4), none, 0, []⟩,
  ⟨some 23, .nilck (.t 22), none, 1, [0]⟩,
  ⟨some 24, .fad 2 (.t 23), none, 2, [0, 1]⟩,
  ⟨some 25, .ldH (none) (.t 24) false, none, 3, [0, 1, 2]⟩,
  ⟨some 26, .mv (.t 4), none, 4, []⟩,
  ⟨some 27, .nilck (.t 26), none, 5, [4]⟩,
  ⟨some 28, .fad 3 (.t 27), none, 6, [4, 5]⟩,
  ⟨some 29, .ldH (none) (.t 28) false, none, 7, [4, 5, 6]⟩,
  ⟨some 30, .build [.int .i64 0, .int .i64 0, .int .i64 0] [(0, 1, .k (.int .i64 11)), (1, 1, .t 25), (2, 1, .t 29)], none, 8, [0, 1, 2, 3, 4, 5, 6, 7]⟩,
  ⟨some 2, .mv (.k (.sl true [])), none, 9, []⟩,
  ⟨none, .stL 3 (.t 3) (.t 30), none, 10, [0, 1, 2, 3, 4, 5, 6, 7, 8, 9]⟩]
def r_lex_All_9 : List AOper := [
  ⟨some 31, .mv (.t 4), none, 0, []⟩,
  ⟨some 32, .nilck (.t 31), none, 0, []⟩,
  ⟨some 33, .fad 4 (.t 32), none, 0, []⟩,
  ⟨some 34, .ldH (none) (.t 33) false, none, 0, []⟩,
  ⟨some 35, .build [.int .i64 0, .int .i64 0, .int .i64 0] [], none, 0, []⟩,
  ⟨some 2, .mv (.t 34), none, 0, []⟩,
  ⟨none, .stL 3 (.t 3) (.t 35), none, 0, []⟩]
def c_lex_All : AC :=
  (.seq
   (.reg false r_lex_All_0 (some [0, 3]))
   (.seq
    (.seq
     (.reg false r_lex_All_1 (some [0, 3, 8]))
     (.cond (.t 8)
      (.seq
       (.reg false r_lex_All_2 (some [2, 3]))
       .ret)
      .skip))
    (.seq
     (.reg false r_lex_All_3 (some [3, 4]))
     (.seq
      (.seq
       (.reg false r_lex_All_4 (some [3, 4, 5]))
       (.block 0
        (.loop
         (.seq
          (.seq
           (.reg false r_lex_All_5 (some [3, 4, 5, 14]))
           (.cond (.t 14)
            .skip
            (.exit 0)))
          (.block 1
           (.reg false r_lex_All_6 (some [3, 4, 5])))))))
      (.seq
       (.seq
        (.reg false r_lex_All_7 (some [3, 4, 21]))
        (.cond (.t 21)
         (.seq
          (.reg true r_lex_All_8 (some [2, 3]))
          .ret)
         .skip))
       (.seq
        (.reg false r_lex_All_9 (some [2, 3]))
        .ret))))))
def f_lex_All : AFun := ⟨1, [.tmp 2, .cell 3 (some 3)], c_lex_All⟩

def r_lex_Line_0 : List AOper := [
  ⟨some 4, .mv (.k (.int .i64 0)), none, 0, []⟩,
  ⟨some 5, .mv (.k (.int .i64 0)), none, 0, []⟩]
def r_lex_Line_1 : List AOper := [
  ⟨some 7, .mv (.t 0), none, 0, []⟩,
  ⟨some 8, .build [.str [], .int .i64 0, .int .i64 0, .int .i64 0, .sl true [], .bool false] [(0, 1, .t 7), (2, 1, .k (.int .i64 1)), (3, 1, .k (.int .i64 1))], none, 0, []⟩,
  ⟨some 9, .boxH (.t 8), none, 0, []⟩,
  ⟨some 6, .mv (.t 9), none, 0, []⟩]
def r_lex_Line_2 : List AOper := [
  ⟨some 10, .mv (.t 6), none, 0, []⟩,
  ⟨some 11, .mv (.t 0), none, 0, []⟩,
  ⟨some 12, .len 0 (.t 11), none, 0, []⟩,
  ⟨some 13, .mv (.t 1), none, 0, []⟩,
  ⟨some 14, .mx (.k (.int .i64 0)) [.t 13], none, 0, []⟩,
  ⟨some 15, .mn (.t 12) [.t 14], none, 0, []⟩,
  ⟨some 16, .call false (.k (.fn F.lex_lexer_skip [] [])) [.t 10, .t 15], none, 0, []⟩]
def r_lex_Line_3 : List AOper := [
  ⟨some 17, .mv (.t 6), none, 0, []⟩,
  ⟨some 18, .nilck (.t 17), none, 1, [0]⟩,
  ⟨some 19, .fad 2 (.t 18), none, 2, [0, 1]⟩,
  ⟨some 20, .ldH (none) (.t 19) false, none, 3, [0, 1, 2]⟩,
  ⟨some 21, .mv (.t 6), none, 4, []⟩,
  ⟨some 22, .nilck (.t 21), none, 5, [4]⟩,
  ⟨some 23, .fad 3 (.t 22), none, 6, [4, 5]⟩,
  ⟨some 24, .ldH (none) (.t 23) false, none, 7, [4, 5, 6]⟩,
  ⟨some 4, .mv (.t 20), none, 8, [0, 1, 2, 3]⟩,
  ⟨some 5, .mv (.t 24), none, 9, [0, 1, 2, 3, 4, 5, 6, 7, 8]⟩]
def c_lex_Line : AC :=
  (.seq
   (.reg false r_lex_Line_0 (some [0, 1]))
   (.seq
    (.reg false r_lex_Line_1 (some [0, 1, 6]))
    (.seq
     (.reg false r_lex_Line_2 (some [6]))
     (.seq
      (.reg true r_lex_Line_3 (some [4, 5]))
      .ret))))
def f_lex_Line : AFun := ⟨2, [.tmp 4, .tmp 5], c_lex_Line⟩

def r_parse_parser_may_0 : List AOper := [
  ⟨some 4, .mv (.k (.bool false)), none, 0, []⟩]
def r_parse_parser_may_1 : List AOper := [
  ⟨some 5, .mv (.t 0), none, 0, []⟩,
  ⟨some 6, .mv (.t 1), none, 0, []⟩,
  ⟨some 7, .call false (.k (.fn F.parse_parser_is [] [])) [.t 5, .t 6], none, 0, []⟩,
  ⟨some 8, .un .not (.t 7), none, 0, []⟩]
def r_parse_parser_may_2 : List AOper := [
  ⟨some 4, .mv (.k (.bool false)), none, 0, []⟩]
def r_parse_parser_may_3 : List AOper := [
  ⟨some 9, .mv (.t 0), none, 0, []⟩,
  ⟨some 10, .nilck (.t 9), none, 0, []⟩,
  ⟨some 11, .fad 1 (.t 10), none, 0, []⟩,
  ⟨some 12, .ldH (none) (.t 11) false, none, 0, []⟩,
  ⟨some 13, .bin 0 .add (.t 12) (.k (.int .i64 1)), none, 0, []⟩,
  ⟨some 14, .nilck (.t 9), none, 0, []⟩,
  ⟨some 15, .fad 1 (.t 14), none, 0, []⟩,
  ⟨none, .stH 1 (.t 15) (.t 13), none, 0, []⟩]
def r_parse_parser_may_4 : List AOper := [
  ⟨some 4, .mv (.k (.bool true)), none, 0, []⟩]
def c_parse_parser_may : AC :=
  (.seq
   (.reg false r_parse_parser_may_0 (some [0, 1]))
   (.seq
    (.seq
     (.reg false r_parse_parser_may_1 (some [0, 8]))
     (.cond (.t 8)
      (.seq
       (.reg false r_parse_parser_may_2 (some [4]))
       .ret)
      .skip))
    (.seq
     (.reg false r_parse_parser_may_3 (some []))
     (.seq
      (.reg false r_parse_parser_may_4 (some [4]))
      .ret))))
def f_parse_parser_may : AFun := ⟨2, [.tmp 4], c_parse_parser_may⟩

def r_parse_parser_wrong_0 : List AOper := [
  ⟨some 3, .mv (.t 0), none, 0, []⟩,
  ⟨some 4, .call false (.k (.fn F.parse_parser_now [] [])) [.t 3], none, 0, []⟩,
  ⟨some 2, .allocL 2 [.int .i64 0, .str [], .int .i64 0, .int .i64 0, .int .u32 0], none, 0, []⟩,
  ⟨none, .stL 5 (.t 2) (.t 4), none, 0, []⟩]
def r_parse_parser_wrong_1 : List AOper := [
  ⟨some 5, .fad 2 (.t 2), none, 0, []⟩,
  ⟨some 6, .ldL (none) (.t 5) false, none, 0, []⟩,
  ⟨some 7, .fad 3 (.t 2), none, 0, []⟩,
  ⟨some 8, .ldL (none) (.t 7) false, none, 0, []⟩,
  ⟨some 9, .build [.int .i64 0, .int .i64 0, .int .i64 0] [(0, 1, .k (.int .i64 14)), (1, 1, .t 6), (2, 1, .t 8)], none, 0, []⟩,
  ⟨some 10, .build [.int .i64 0, .int .i64 0, .int .i64 0] [(0, 3, .t 9)], none, 0, []⟩,
  ⟨some 11, .ifc Ty.parse_thrown (.t 10), none, 0, []⟩,
  ⟨none, .pan (.t 11), none, 0, []⟩]
def c_parse_parser_wrong : AC :=
  (.seq
   (.reg false r_parse_parser_wrong_0 (some [2]))
   (.reg false r_parse_parser_wrong_1 (some [])))
def f_parse_parser_wrong : AFun := ⟨1, [], c_parse_parser_wrong⟩

def r_parse_parser_now_0 : List AOper := [
  ⟨some 2, .allocL 2 [.int .i64 0, .str [], .int .i64 0, .int .i64 0, .int .u32 0], none, 0, []⟩]
def r_parse_parser_now_1 : List AOper := [
  ⟨some 3, .mv (.t 0), none, 0, []⟩,
  ⟨some 4, .nilck (.t 3), none, 1, [0]⟩,
  ⟨some 5, .fad 1 (.t 4), none, 2, [0, 1]⟩,
  ⟨some 6, .ldH (none) (.t 5) false, none, 3, [0, 1, 2]⟩,
  ⟨some 7, .mv (.t 0), none, 4, []⟩,
  ⟨some 8, .nilck (.t 7), none, 5, [4]⟩,
  ⟨some 9, .fad 0 (.t 8), none, 6, [4, 5]⟩,
  ⟨some 10, .ldH (none) (.t 9) false, none, 7, [4, 5, 6]⟩,
  ⟨some 11, .len 1 (.t 10), none, 8, [4, 5, 6, 7]⟩,
  ⟨some 12, .bin 0 .lss (.t 6) (.t 11), none, 9, [0, 1, 2, 3, 4, 5, 6, 7, 8]⟩]
def r_parse_parser_now_2 : List AOper := [
  ⟨some 13, .mv (.t 0), none, 0, []⟩,
  ⟨some 14, .nilck (.t 13), none, 1, [0]⟩,
  ⟨some 15, .fad 0 (.t 14), none, 2, [0, 1]⟩,
  ⟨some 16, .ldH (none) (.t 15) false, none, 3, [0, 1, 2]⟩,
  ⟨some 17, .mv (.t 0), none, 4, []⟩,
  ⟨some 18, .nilck (.t 17), none, 5, [4]⟩,
  ⟨some 19, .fad 1 (.t 18), none, 6, [4, 5]⟩,
  ⟨some 20, .ldH (none) (.t 19) false, none, 7, [4, 5, 6]⟩,
  ⟨some 21, .iad 5 (.t 16) (.t 20), none, 8, [0, 1, 2, 3, 4, 5, 6, 7]⟩,
  ⟨some 22, .ldC (some 5) (.t 21), none, 9, [0, 1, 2, 3, 4, 5, 6, 7, 8]⟩,
  ⟨none, .stL 5 (.t 2) (.t 22), none, 10, [0, 1, 2, 3, 4, 5, 6, 7, 8, 9]⟩]
def r_parse_parser_now_3 : List AOper := [
  ⟨some 23, .mv (.t 0), none, 0, []⟩,
  ⟨some 24, .nilck (.t 23), none, 1, [0]⟩,
  ⟨some 25, .fad 2 (.t 24), none, 2, [0, 1]⟩,
  ⟨some 26, .ldH (none) (.t 25) false, none, 3, [0, 1, 2]⟩,
  ⟨some 27, .mv (.t 0), none, 4, []⟩,
  ⟨some 28, .nilck (.t 27), none, 5, [4]⟩,
  ⟨some 29, .fad 3 (.t 28), none, 6, [4, 5]⟩,
  ⟨some 30, .ldH (none) (.t 29) false, none, 7, [4, 5, 6]⟩,
  ⟨some 31, .build [.int .i64 0, .str [], .int .i64 0, .int .i64 0, .int .u32 0] [(2, 1, .t 26), (3, 1, .t 30)], none, 8, [0, 1, 2, 3, 4, 5, 6, 7]⟩,
  ⟨none, .stL 5 (.t 2) (.t 31), none, 9, [0, 1, 2, 3, 4, 5, 6, 7, 8]⟩]
def c_parse_parser_now : AC :=
  (.seq
   (.reg false r_parse_parser_now_0 (some [0, 2]))
   (.seq
    (.seq
     (.reg true r_parse_parser_now_1 (some [0, 2, 12]))
     (.cond (.t 12)
      (.seq
       (.reg true r_parse_parser_now_2 (some [2]))
       .ret)
      .skip))
    (.seq
     (.reg true r_parse_parser_now_3 (some [2]))
     .ret)))
def f_parse_parser_now : AFun := ⟨1, [.cell 2 (some 5)], c_parse_parser_now⟩

def r_parse_parser_typ_0 : List AOper := [
  ⟨some 2, .mv (.k (.int .i64 0)), none, 0, []⟩]
def r_parse_parser_typ_1 : List AOper := [
  ⟨some 6, .mv (.t 0), none, 0, []⟩,
  ⟨some 7, .call false (.k (.fn F.parse_parser_isType [] [])) [.t 6], none, 0, []⟩,
  ⟨some 5, .mv (.t 7), none, 0, []⟩,
  ⟨some 8, .ext (.t 5) 0, none, 0, []⟩,
  ⟨some 9, .ext (.t 5) 1, none, 0, []⟩,
  ⟨some 3, .mv (.t 8), none, 0, []⟩,
  ⟨some 4, .mv (.t 9), none, 0, []⟩]
def r_parse_parser_typ_2 : List AOper := [
  ⟨some 10, .mv (.t 4), none, 0, []⟩,
  ⟨some 11, .un .not (.t 10), none, 0, []⟩]
def r_parse_parser_typ_3 : List AOper := [
  ⟨some 12, .mv (.t 0), none, 0, []⟩,
  ⟨some 13, .call false (.k (.fn F.parse_parser_wrong [] [])) [.t 12], none, 0, []⟩]
def r_parse_parser_typ_4 : List AOper := [
  ⟨some 14, .mv (.t 0), none, 0, []⟩,
  ⟨some 15, .nilck (.t 14), none, 0, []⟩,
  ⟨some 16, .fad 1 (.t 15), none, 0, []⟩,
  ⟨some 17, .ldH (none) (.t 16) false, none, 0, []⟩,
  ⟨some 18, .bin 0 .add (.t 17) (.k (.int .i64 1)), none, 0, []⟩,
  ⟨some 19, .nilck (.t 14), none, 0, []⟩,
  ⟨some 20, .fad 1 (.t 19), none, 0, []⟩,
  ⟨none, .stH 1 (.t 20) (.t 18), none, 0, []⟩]
def r_parse_parser_typ_5 : List AOper := [
  ⟨some 21, .mv (.t 3), none, 0, []⟩,
  ⟨some 2, .mv (.t 21), none, 0, []⟩]
def c_parse_parser_typ : AC :=
  (.seq
   (.reg false r_parse_parser_typ_0 (some [0]))
   (.seq
    (.reg false r_parse_parser_typ_1 (some [0, 3, 4]))
    (.seq
     (.seq
      (.reg false r_parse_parser_typ_2 (some [0, 3, 11]))
      (.cond (.t 11)
       (.reg false r_parse_parser_typ_3 (some [0, 3]))
       .skip))
     (.seq
      (.reg false r_parse_parser_typ_4 (some [3]))
      (.seq
       (.reg false r_parse_parser_typ_5 (some [2]))
       .ret)))))
def f_parse_parser_typ : AFun := ⟨1, [.tmp 2], c_parse_parser_typ⟩

def r_parse_parser_name_0 : List AOper := [
  ⟨some 2, .mv (.k (.str [])), none, 0, []⟩]
def r_parse_parser_name_1 : List AOper := [
  ⟨some 4, .mv (.t 0), none, 0, []⟩,
  ⟨some 5, .call false (.k (.fn F.parse_parser_now [] [])) [.t 4], none, 0, []⟩,
  ⟨some 3, .allocL 3 [.int .i64 0, .str [], .int .i64 0, .int .i64 0, .int .u32 0], none, 0, []⟩,
  ⟨none, .stL 5 (.t 3) (.t 5), none, 0, []⟩]
def r_parse_parser_name_2 : List AOper := [
  ⟨some 6, .fad 0 (.t 3), none, 0, []⟩,
  ⟨some 7, .ldL (none) (.t 6) false, none, 0, []⟩,
  ⟨some 8, .bin 0 .neq (.t 7) (.k (.int .i64 1)), none, 0, []⟩]
def r_parse_parser_name_3 : List AOper := [
  ⟨some 9, .mv (.t 0), none, 0, []⟩,
  ⟨some 10, .call false (.k (.fn F.parse_parser_wrong [] [])) [.t 9], none, 0, []⟩]
def r_parse_parser_name_4 : List AOper := [
  ⟨some 11, .mv (.t 0), none, 0, []⟩,
  ⟨some 12, .nilck (.t 11), none, 0, []⟩,
  ⟨some 13, .fad 1 (.t 12), none, 0, []⟩,
  ⟨some 14, .ldH (none) (.t 13) false, none, 0, []⟩,
  ⟨some 15, .bin 0 .add (.t 14) (.k (.int .i64 1)), none, 0, []⟩,
  ⟨some 16, .nilck (.t 11), none, 0, []⟩,
  ⟨some 17, .fad 1 (.t 16), none, 0, []⟩,
  ⟨none, .stH 1 (.t 17) (.t 15), none, 0, []⟩]
def r_parse_parser_name_5 : List AOper := [
  ⟨some 18, .fad 1 (.t 3), none, 0, []⟩,
  ⟨some 19, .ldL (none) (.t 18) false, none, 0, []⟩,
  ⟨some 2, .mv (.t 19), none, 0, []⟩]
def c_parse_parser_name : AC :=
  (.seq
   (.reg false r_parse_parser_name_0 (some [0]))
   (.seq
    (.reg false r_parse_parser_name_1 (some [0, 3]))
    (.seq
     (.seq
      (.reg false r_parse_parser_name_2 (some [0, 3, 8]))
      (.cond (.t 8)
       (.reg false r_parse_parser_name_3 (some [0, 3]))
       .skip))
     (.seq
      (.reg false r_parse_parser_name_4 (some [3]))
      (.seq
       (.reg false r_parse_parser_name_5 (some [2]))
       .ret)))))
def f_parse_parser_name : AFun := ⟨1, [.tmp 2], c_parse_parser_name⟩

def r_parse_parser_block_0 : List AOper := [
  ⟨some 2, .mv (.k (.sl true [])), none, 0, []⟩]
def r_parse_parser_block_1 : List AOper := [
  ⟨some 3, .mv (.t 0), none, 0, []⟩,
  ⟨some 4, .call false (.k (.fn F.parse_parser_must [] [])) [.t 3, .k (.str [123])], none, 0, []⟩]
def r_parse_parser_block_2 : List AOper := [
  ⟨some 5, .mv (.t 0), none, 0, []⟩,
  ⟨some 6, .call false (.k (.fn F.parse_parser_may [] [])) [.t 5, .k (.str [125])], none, 0, []⟩,
  ⟨some 7, .un .not (.t 6), none, 0, []⟩]
def r_parse_parser_block_3 : List AOper := [
  ⟨some 8, .mv (.tk 2), none, 0, []⟩,
  ⟨some 9, .mv (.t 0), none, 0, []⟩,
  ⟨some 10, .call false (.k (.fn F.parse_parser_stmt [] [])) [.t 9], none, 0, []⟩,
  ⟨some 11, .bsl 1 10 (.agg [.int .i64 0, .int .i64 0, .int .i64 0, .int .i64 0, .str [], .sl true [], .sl true [], .sl true [], .sl true [], .sl true []]) [(0, .t 10)], none, 0, []⟩,
  ⟨some 12, .app 10 (.tk 8) (.t 11), none, 0, []⟩,
  ⟨some 2, .mv (.tk 12), none, 0, []⟩]
def r_parse_parser_block_4 : List AOper := [
  ⟨some 13, .mv (.t 2), none, 0, []⟩,
  ⟨some 2, .mv (.t 13), none, 0, []⟩]
def c_parse_parser_block : AC :=
  (.seq
   (.reg false r_parse_parser_block_0 (some [0, 2]))
   (.seq
    (.reg false r_parse_parser_block_1 (some [0, 2]))
    (.seq
     (.block 0
      (.loop
       (.seq
        (.seq
         (.reg false r_parse_parser_block_2 (some [0, 2, 7]))
         (.cond (.t 7)
          .skip
          (.exit 0)))
        (.block 1
         (.reg false r_parse_parser_block_3 (some [0, 2]))))))
     (.seq
      (.reg false r_parse_parser_block_4 (some [2]))
      .ret))))
def f_parse_parser_block : AFun := ⟨1, [.tmp 2], c_parse_parser_block⟩

def r_ast_all_0 : List AOper := [
  ⟨some 1, .boxC (.t 0), none, 0, []⟩,
  ⟨some 2, .allocH [.sl true []], none, 0, []⟩]
def r_ast_all_1 : List AOper := [
  ⟨some 4, .fad 3 (.t 1), none, 0, []⟩,
  ⟨some 5, .ldC (none) (.t 4), none, 0, []⟩,
  ⟨some 6, .len 1 (.t 5), none, 0, []⟩,
  ⟨some 7, .mv (.k (.int .i64 0)), none, 0, []⟩]
def r_ast_all_2 : List AOper := [
  ⟨some 8, .bin 0 .lss (.t 7) (.t 6), none, 0, []⟩]
def r_ast_all_3 : List AOper := [
  ⟨some 9, .mv (.t 7), none, 0, []⟩,
  ⟨some 3, .mv (.t 9), none, 0, []⟩]
def r_ast_all_4 : List AOper := [
  ⟨some 10, .fad 3 (.t 1), none, 0, []⟩,
  ⟨some 11, .ldC (none) (.t 10), none, 0, []⟩,
  ⟨some 12, .mv (.t 3), none, 0, []⟩,
  ⟨some 13, .iad 7 (.t 11) (.t 12), none, 0, []⟩,
  ⟨some 14, .fad 5 (.t 13), none, 0, []⟩,
  ⟨some 15, .ldC (none) (.t 14), none, 0, []⟩,
  ⟨some 16, .mkfn F.ast_all_1 [] [.t 2], none, 0, []⟩,
  ⟨some 17, .call false (.k (.fn F.ast_each_api_Stmt [] [])) [.t 15, .t 16], none, 0, []⟩]
def r_ast_all_5 : List AOper := [
  ⟨some 18, .bin 0 .add (.t 7) (.k (.int .i64 1)), none, 0, []⟩,
  ⟨some 7, .mv (.t 18), none, 0, []⟩]
def r_ast_all_6 : List AOper := [
  ⟨some 19, .ldH (none) (.t 2) false, none, 0, []⟩,
  ⟨none, .stH 1 (.t 2) (.t 19), none, 0, []⟩]
def c_ast_all : AC :=
  (.seq
   (.reg false r_ast_all_0 (some [1, 2]))
   (.seq
    (.seq
     (.reg false r_ast_all_1 (some [1, 2, 6, 7]))
     (.block 0
      (.loop
       (.seq
        (.reg false r_ast_all_2 (some [1, 2, 6, 7, 8]))
        (.seq
         (.cond (.t 8)
          .skip
          (.exit 0))
         (.seq
          (.block 1
           (.seq
            (.reg false r_ast_all_3 (some [1, 2, 3, 6, 7]))
            (.reg false r_ast_all_4 (some [1, 2, 6, 7]))))
          (.reg false r_ast_all_5 (some [1, 2, 6, 7]))))))))
    (.seq
     (.reg false r_ast_all_6 (some [2]))
     .ret)))
def f_ast_all : AFun := ⟨1, [.cell 2 (none)], c_ast_all⟩

def r_ast_check_0 : List AOper := [
  ⟨some 2, .mv (.k (.int .i64 0)), none, 0, []⟩]
def r_ast_check_1 : List AOper := [
  ⟨some 3, .mv (.k (.int .i64 0)), none, 0, []⟩]
def r_ast_check_2 : List AOper := [
  ⟨some 8, .mv (.t 0), none, 0, []⟩,
  ⟨some 9, .len 1 (.t 8), none, 0, []⟩,
  ⟨some 10, .mv (.k (.int .i64 0)), none, 0, []⟩]
def r_ast_check_3 : List AOper := [
  ⟨some 11, .bin 0 .lss (.t 10) (.t 9), none, 0, []⟩]
def r_ast_check_4 : List AOper := [
  ⟨some 12, .iad 2 (.t 8) (.t 10), none, 0, []⟩,
  ⟨some 13, .ldC (some 2) (.t 12), none, 0, []⟩,
  ⟨some 5, .allocL 5 [.nptr, .nptr], none, 0, []⟩,
  ⟨none, .stL 2 (.t 5) (.t 13), none, 0, []⟩]
def r_ast_check_5 : List AOper := [
  ⟨some 14, .mv (.t 3), none, 0, []⟩,
  ⟨some 15, .ldL (some 2) (.t 5) false, none, 0, []⟩,
  ⟨some 16, .call true (.k (.fn F.ast_node_size [] [])) [.t 15], none, 0, []⟩,
  ⟨some 17, .bin 0 .add (.t 14) (.t 16), none, 0, []⟩,
  ⟨some 3, .mv (.t 17), none, 0, []⟩]
def r_ast_check_6 : List AOper := [
  ⟨some 18, .mv (.t 3), none, 0, []⟩,
  ⟨some 19, .bin 0 .gtr (.t 18) (.k (.int .i64 4000)), none, 0, []⟩,
  ⟨some 20, .mv (.t 19), none, 0, []⟩,
  ⟨some 21, .ldL (some 2) (.t 5) false, some (20, false), 0, []⟩,
  ⟨some 22, .call true (.k (.fn F.ast_node_deep [] [])) [.t 21], some (20, false), 0, []⟩,
  ⟨some 23, .bin 0 .gtr (.t 22) (.k (.int .i64 60)), some (20, false), 0, []⟩,
  ⟨some 24, .pick (.t 20) (.k (.bool true)) (.t 23), none, 0, []⟩]
def r_ast_check_7 : List AOper := [
  ⟨some 2, .mv (.k (.int .i64 3)), none, 0, []⟩]
def r_ast_check_8 : List AOper := [
  ⟨some 25, .bin 0 .add (.t 10) (.k (.int .i64 1)), none, 0, []⟩,
  ⟨some 10, .mv (.t 25), none, 0, []⟩]
def r_ast_check_9 : List AOper := [
  ⟨some 26, .mv (.t 0), none, 0, []⟩,
  ⟨some 27, .len 1 (.t 26), none, 0, []⟩,
  ⟨some 28, .mv (.k (.int .i64 0)), none, 0, []⟩]
def r_ast_check_10 : List AOper := [
  ⟨some 29, .bin 0 .lss (.t 28) (.t 27), none, 0, []⟩]
def r_ast_check_11 : List AOper := [
  ⟨some 30, .iad 2 (.t 26) (.t 28), none, 0, []⟩,
  ⟨some 31, .ldC (some 2) (.t 30), none, 0, []⟩,
  ⟨some 7, .allocL 7 [.nptr, .nptr], none, 0, []⟩,
  ⟨none, .stL 2 (.t 7) (.t 31), none, 0, []⟩]
def r_ast_check_12 : List AOper := [
  ⟨some 32, .ldL (some 2) (.t 7) false, none, 0, []⟩,
  ⟨some 33, .call true (.k (.fn F.ast_node_right [] [])) [.t 32], none, 0, []⟩,
  ⟨some 34, .un .not (.t 33), none, 0, []⟩]
def r_ast_check_13 : List AOper := [
  ⟨some 2, .mv (.k (.int .i64 2)), none, 0, []⟩]
def r_ast_check_14 : List AOper := [
  ⟨some 35, .bin 0 .add (.t 28) (.k (.int .i64 1)), none, 0, []⟩,
  ⟨some 28, .mv (.t 35), none, 0, []⟩]
def r_ast_check_15 : List AOper := [
  ⟨some 2, .mv (.k (.int .i64 0)), none, 0, []⟩]
def c_ast_check : AC :=
  (.seq
   (.reg false r_ast_check_0 (some [0]))
   (.seq
    (.reg false r_ast_check_1 (some [0, 3]))
    (.seq
     (.seq
      (.reg false r_ast_check_2 (some [0, 3, 8, 9, 10]))
      (.block 0
       (.loop
        (.seq
         (.reg false r_ast_check_3 (some [0, 3, 8, 9, 10, 11]))
         (.seq
          (.cond (.t 11)
           .skip
           (.exit 0))
          (.seq
           (.block 1
            (.seq
             (.reg false r_ast_check_4 (some [0, 3, 5, 8, 9, 10]))
             (.seq
              (.reg false r_ast_check_5 (some [0, 3, 5, 8, 9, 10]))
              (.seq
               (.reg false r_ast_check_6 (some [0, 3, 8, 9, 10, 24]))
               (.cond (.t 24)
                (.seq
                 (.reg false r_ast_check_7 (some [2]))
                 .ret)
                .skip)))))
           (.reg false r_ast_check_8 (some [0, 3, 8, 9, 10]))))))))
     (.seq
      (.seq
       (.reg false r_ast_check_9 (some [26, 27, 28]))
       (.block 2
        (.loop
         (.seq
          (.reg false r_ast_check_10 (some [26, 27, 28, 29]))
          (.seq
           (.cond (.t 29)
            .skip
            (.exit 2))
           (.seq
            (.block 3
             (.seq
              (.reg false r_ast_check_11 (some [7, 26, 27, 28]))
              (.seq
               (.reg false r_ast_check_12 (some [26, 27, 28, 34]))
               (.cond (.t 34)
                (.seq
                 (.reg false r_ast_check_13 (some [2]))
                 .ret)
                .skip))))
            (.reg false r_ast_check_14 (some [26, 27, 28]))))))))
      (.seq
       (.reg false r_ast_check_15 (some [2]))
       .ret)))))
def f_ast_check : AFun := ⟨1, [.tmp 2], c_ast_check⟩

def r_ast_global_0 : List AOper := [
  ⟨some 1, .boxC (.t 0), none, 0, []⟩,
  ⟨some 2, .mv (.k (.bool false)), none, 0, []⟩]
def r_ast_global_1 : List AOper := [
  ⟨some 3, .fad 0 (.t 1), none, 0, []⟩,
  ⟨some 4, .ldC (none) (.t 3), none, 0, []⟩,
  ⟨some 5, .call true (.k (.fn F.ast_name [] [])) [.t 4], none, 0, []⟩,
  ⟨some 6, .mv (.t 5), none, 0, []⟩,
  ⟨some 7, .fad 1 (.t 1), some (6, true), 0, []⟩,
  ⟨some 8, .ldC (none) (.t 7), some (6, true), 0, []⟩,
  ⟨some 9, .call true (.k (.fn F.ast_Width [] [])) [.t 8], some (6, true), 0, []⟩,
  ⟨some 10, .bin 0 .gtr (.t 9) (.k (.int .i64 0)), some (6, true), 0, []⟩,
  ⟨some 11, .pick (.t 6) (.t 10) (.k (.bool false)), none, 0, []⟩,
  ⟨some 12, .mv (.t 11), none, 0, []⟩,
  ⟨some 13, .fad 2 (.t 1), some (12, true), 0, []⟩,
  ⟨some 14, .ldC (none) (.t 13), some (12, true), 0, []⟩,
  ⟨some 15, .bin 0 .geq (.t 14) (.k (.int .i64 0)), some (12, true), 0, []⟩,
  ⟨some 16, .pick (.t 12) (.t 15) (.k (.bool false)), none, 0, []⟩,
  ⟨some 17, .mv (.t 16), none, 0, []⟩,
  ⟨some 18, .fad 2 (.t 1), some (17, true), 0, []⟩,
  ⟨some 19, .ldC (none) (.t 18), some (17, true), 0, []⟩,
  ⟨some 20, .bin 0 .leq (.t 19) (.k (.int .i64 4096)), some (17, true), 0, []⟩,
  ⟨some 21, .pick (.t 17) (.t 20) (.k (.bool false)), none, 0, []⟩,
  ⟨some 22, .mv (.t 21), none, 0, []⟩,
  ⟨some 23, .fad 3 (.t 1), some (22, true), 0, []⟩,
  ⟨some 24, .ldC (none) (.t 23), some (22, true), 0, []⟩,
  ⟨some 25, .len 1 (.t 24), some (22, true), 0, []⟩,
  ⟨some 26, .fad 2 (.t 1), some (22, true), 0, []⟩,
  ⟨some 27, .ldC (none) (.t 26), some (22, true), 0, []⟩,
  ⟨some 28, .mx (.k (.int .i64 1)) [.t 27], some (22, true), 0, []⟩,
  ⟨some 29, .bin 0 .leq (.t 25) (.t 28), some (22, true), 0, []⟩,
  ⟨some 30, .pick (.t 22) (.t 29) (.k (.bool false)), none, 0, []⟩,
  ⟨some 31, .mv (.t 30), none, 0, []⟩,
  ⟨some 32, .fad 4 (.t 1), some (31, true), 0, []⟩,
  ⟨some 33, .ldC (none) (.t 32), some (31, true), 0, []⟩,
  ⟨some 34, .bin 0 .geq (.t 33) (.k (.int .i64 0)), some (31, true), 0, []⟩,
  ⟨some 35, .pick (.t 31) (.t 34) (.k (.bool false)), none, 0, []⟩,
  ⟨some 2, .mv (.t 35), none, 0, []⟩]
def c_ast_global : AC :=
  (.seq
   (.reg false r_ast_global_0 (some [1]))
   (.seq
    (.reg false r_ast_global_1 (some [2]))
    .ret))
def f_ast_global : AFun := ⟨1, [.tmp 2], c_ast_global⟩

def r_ast_name_0 : List AOper := [
  ⟨some 2, .mv (.k (.bool false)), none, 0, []⟩]
def r_ast_name_1 : List AOper := [
  ⟨some 3, .mv (.t 0), none, 0, []⟩,
  ⟨some 4, .call true (.k (.fn F.lex_Kind [] [])) [.t 3], none, 0, []⟩,
  ⟨some 5, .bin 0 .eql (.t 4) (.k (.int .i64 1)), none, 0, []⟩,
  ⟨some 2, .mv (.t 5), none, 0, []⟩]
def c_ast_name : AC :=
  (.seq
   (.reg false r_ast_name_0 (some [0]))
   (.seq
    (.reg false r_ast_name_1 (some [2]))
    .ret))
def f_ast_name : AFun := ⟨1, [.tmp 2], c_ast_name⟩

def r_ast_decl_0 : List AOper := [
  ⟨some 1, .boxC (.t 0), none, 0, []⟩,
  ⟨some 2, .mv (.k (.bool false)), none, 0, []⟩]
def r_ast_decl_1 : List AOper := [
  ⟨some 3, .fad 6 (.t 1), none, 0, []⟩,
  ⟨some 4, .ldC (none) (.t 3), none, 0, []⟩,
  ⟨some 5, .bin 0 .lss (.t 4) (.k (.int .i64 0)), none, 0, []⟩]
def r_ast_decl_2 : List AOper := [
  ⟨some 2, .mv (.k (.bool false)), none, 0, []⟩]
def r_ast_decl_3 : List AOper := [
  ⟨some 6, .fad 0 (.t 1), none, 0, []⟩,
  ⟨some 7, .ldC (none) (.t 6), none, 0, []⟩]
def r_ast_decl_4 : List AOper := [
  ⟨some 9, .bin 0 .eql (.t 7) (.k (.int .i64 1)), none, 0, []⟩,
  ⟨some 8, .mv (.t 9), none, 0, []⟩]
def r_ast_decl_5 : List AOper := [
  ⟨some 10, .fad 1 (.t 1), none, 0, []⟩,
  ⟨some 11, .ldC (none) (.t 10), none, 0, []⟩,
  ⟨some 12, .call true (.k (.fn F.ast_name [] [])) [.t 11], none, 0, []⟩,
  ⟨some 13, .un .not (.t 12), none, 0, []⟩,
  ⟨some 14, .mv (.t 13), none, 0, []⟩,
  ⟨some 15, .fad 2 (.t 1), some (14, false), 0, []⟩,
  ⟨some 16, .ldC (none) (.t 15), some (14, false), 0, []⟩,
  ⟨some 17, .len 1 (.t 16), some (14, false), 0, []⟩,
  ⟨some 18, .bin 0 .gtr (.t 17) (.k (.int .i64 8)), some (14, false), 0, []⟩,
  ⟨some 19, .pick (.t 14) (.k (.bool true)) (.t 18), none, 0, []⟩,
  ⟨some 20, .mv (.t 19), none, 0, []⟩,
  ⟨some 21, .fad 3 (.t 1), some (20, false), 0, []⟩,
  ⟨some 22, .ldC (none) (.t 21), some (20, false), 0, []⟩,
  ⟨some 23, .bin 0 .neq (.t 22) (.k (.int .i64 0)), some (20, false), 0, []⟩,
  ⟨some 24, .pick (.t 20) (.k (.bool true)) (.t 23), none, 0, []⟩,
  ⟨some 25, .mv (.t 24), none, 0, []⟩,
  ⟨some 26, .fad 4 (.t 1), some (25, false), 0, []⟩,
  ⟨some 27, .ldC (none) (.t 26), some (25, false), 0, []⟩,
  ⟨some 28, .bin 0 .neq (.t 27) (.k (.int .i64 0)), some (25, false), 0, []⟩,
  ⟨some 29, .pick (.t 25) (.k (.bool true)) (.t 28), none, 0, []⟩]
def r_ast_decl_6 : List AOper := [
  ⟨some 2, .mv (.k (.bool false)), none, 0, []⟩]
def r_ast_decl_7 : List AOper := [
  ⟨some 30, .fad 2 (.t 1), none, 0, []⟩,
  ⟨some 31, .ldC (none) (.t 30), none, 0, []⟩,
  ⟨some 32, .call true (.k (.fn F.slices_ContainsFunc_api_Param_api_Param [] [])) [.t 31, .k (.fn F.ast_decl_1 [] [])], none, 0, []⟩,
  ⟨some 33, .un .not (.t 32), none, 0, []⟩,
  ⟨some 2, .mv (.t 33), none, 0, []⟩]
def r_ast_decl_8 : List AOper := [
  ⟨some 35, .bin 0 .eql (.t 7) (.k (.int .i64 2)), none, 0, []⟩,
  ⟨some 34, .mv (.t 35), none, 0, []⟩]
def r_ast_decl_9 : List AOper := [
  ⟨some 36, .fad 1 (.t 1), none, 0, []⟩,
  ⟨some 37, .ldC (none) (.t 36), none, 0, []⟩,
  ⟨some 38, .bin 0 .eql (.t 37) (.k (.str [])), none, 0, []⟩,
  ⟨some 39, .mv (.t 38), none, 0, []⟩,
  ⟨some 40, .fad 2 (.t 1), some (39, true), 0, []⟩,
  ⟨some 41, .ldC (none) (.t 40), some (39, true), 0, []⟩,
  ⟨some 42, .len 1 (.t 41), some (39, true), 0, []⟩,
  ⟨some 43, .bin 0 .eql (.t 42) (.k (.int .i64 0)), some (39, true), 0, []⟩,
  ⟨some 44, .pick (.t 39) (.t 43) (.k (.bool false)), none, 0, []⟩,
  ⟨some 45, .mv (.t 44), none, 0, []⟩,
  ⟨some 46, .fad 3 (.t 1), some (45, true), 0, []⟩,
  ⟨some 47, .ldC (none) (.t 46), some (45, true), 0, []⟩,
  ⟨some 48, .bin 0 .eql (.t 47) (.k (.int .i64 0)), some (45, true), 0, []⟩,
  ⟨some 49, .pick (.t 45) (.t 48) (.k (.bool false)), none, 0, []⟩,
  ⟨some 50, .mv (.t 49), none, 0, []⟩,
  ⟨some 51, .fad 4 (.t 1), some (50, true), 0, []⟩,
  ⟨some 52, .ldC (none) (.t 51), some (50, true), 0, []⟩,
  ⟨some 53, .bin 0 .eql (.t 52) (.k (.int .i64 0)), some (50, true), 0, []⟩,
  ⟨some 54, .pick (.t 50) (.t 53) (.k (.bool false)), none, 0, []⟩,
  ⟨some 2, .mv (.t 54), none, 0, []⟩]
def r_ast_decl_10 : List AOper := [
  ⟨some 56, .bin 0 .eql (.t 7) (.k (.int .i64 3)), none, 0, []⟩,
  ⟨some 55, .mv (.t 56), none, 0, []⟩]
def r_ast_decl_11 : List AOper := [
  ⟨some 57, .fad 1 (.t 1), none, 0, []⟩,
  ⟨some 58, .ldC (none) (.t 57), none, 0, []⟩,
  ⟨some 59, .bin 0 .eql (.t 58) (.k (.str [])), none, 0, []⟩,
  ⟨some 60, .mv (.t 59), none, 0, []⟩,
  ⟨some 61, .fad 2 (.t 1), some (60, true), 0, []⟩,
  ⟨some 62, .ldC (none) (.t 61), some (60, true), 0, []⟩,
  ⟨some 63, .len 1 (.t 62), some (60, true), 0, []⟩,
  ⟨some 64, .bin 0 .eql (.t 63) (.k (.int .i64 0)), some (60, true), 0, []⟩,
  ⟨some 65, .pick (.t 60) (.t 64) (.k (.bool false)), none, 0, []⟩,
  ⟨some 66, .mv (.t 65), none, 0, []⟩,
  ⟨some 67, .fad 3 (.t 1), some (66, true), 0, []⟩,
  ⟨some 68, .ldC (none) (.t 67), some (66, true), 0, []⟩,
  ⟨some 69, .bin 0 .geq (.t 68) (.k (.int .i64 0)), some (66, true), 0, []⟩,
  ⟨some 70, .pick (.t 66) (.t 69) (.k (.bool false)), none, 0, []⟩,
  ⟨some 71, .mv (.t 70), none, 0, []⟩,
  ⟨some 72, .fad 3 (.t 1), some (71, true), 0, []⟩,
  ⟨some 73, .ldC (none) (.t 72), some (71, true), 0, []⟩,
  ⟨some 74, .bin 0 .leq (.t 73) (.k (.int .i64 31)), some (71, true), 0, []⟩,
  ⟨some 75, .pick (.t 71) (.t 74) (.k (.bool false)), none, 0, []⟩,
  ⟨some 76, .mv (.t 75), none, 0, []⟩,
  ⟨some 77, .fad 4 (.t 1), some (76, true), 0, []⟩,
  ⟨some 78, .ldC (none) (.t 77), some (76, true), 0, []⟩,
  ⟨some 79, .bin 0 .geq (.t 78) (.k (.int .i64 1)), some (76, true), 0, []⟩,
  ⟨some 80, .pick (.t 76) (.t 79) (.k (.bool false)), none, 0, []⟩,
  ⟨some 81, .mv (.t 80), none, 0, []⟩,
  ⟨some 82, .fad 4 (.t 1), some (81, true), 0, []⟩,
  ⟨some 83, .ldC (none) (.t 82), some (81, true), 0, []⟩,
  ⟨some 84, .bin 0 .leq (.t 83) (.k (.int .i64 15)), some (81, true), 0, []⟩,
  ⟨some 85, .pick (.t 81) (.t 84) (.k (.bool false)), none, 0, []⟩,
  ⟨some 2, .mv (.t 85), none, 0, []⟩]
def r_ast_decl_12 : List AOper := [
  ⟨some 2, .mv (.k (.bool false)), none, 0, []⟩]
def c_ast_decl : AC :=
  (.seq
   (.reg false r_ast_decl_0 (some [1]))
   (.seq
    (.seq
     (.reg false r_ast_decl_1 (some [1, 5]))
     (.cond (.t 5)
      (.seq
       (.reg false r_ast_decl_2 (some [2]))
       .ret)
      .skip))
    (.seq
     (.seq
      (.reg false r_ast_decl_3 (some [1, 7]))
      (.block 0
       (.seq
        (.reg false r_ast_decl_4 (some [1, 7, 8]))
        (.cond (.t 8)
         (.seq
          (.seq
           (.reg false r_ast_decl_5 (some [1, 29]))
           (.cond (.t 29)
            (.seq
             (.reg false r_ast_decl_6 (some [2]))
             .ret)
            .skip))
          (.seq
           (.reg false r_ast_decl_7 (some [2]))
           .ret))
         (.seq
          (.reg false r_ast_decl_8 (some [1, 7, 34]))
          (.cond (.t 34)
           (.seq
            (.reg false r_ast_decl_9 (some [2]))
            .ret)
           (.seq
            (.reg false r_ast_decl_10 (some [1, 55]))
            (.cond (.t 55)
             (.seq
              (.reg false r_ast_decl_11 (some [2]))
              .ret)
             .skip))))))))
     (.seq
      (.reg false r_ast_decl_12 (some [2]))
      .ret))))
def f_ast_decl : AFun := ⟨1, [.tmp 2], c_ast_decl⟩

def r_parse_long_0 : List AOper := [
  ⟨some 0, .build [.int .i64 0, .int .i64 0, .int .i64 0] [(0, 1, .k (.int .i64 3))], none, 0, []⟩,
  ⟨some 1, .build [.int .i64 0, .int .i64 0, .int .i64 0] [(0, 3, .t 0)], none, 0, []⟩,
  ⟨some 2, .ifc Ty.parse_thrown (.t 1), none, 0, []⟩,
  ⟨none, .pan (.t 2), none, 0, []⟩]
def c_parse_long : AC :=
  (.reg false r_parse_long_0 (some []))
def f_parse_long : AFun := ⟨0, [], c_parse_long⟩

def r_parse_Expr_1_0 : List AOper := [
  ⟨some 2, .ldH (some 3) (.t 0) false, none, 0, []⟩,
  ⟨some 3, .build [.int .i64 0, .int .i64 0, .int .i64 0] [], none, 0, []⟩,
  ⟨some 4, .eqS true [0, 0, 0] (.t 2) (.t 3), none, 0, []⟩]
def r_parse_Expr_1_1 : List AOper := [
  ⟨some 5, .build [.int .i64 0, .int .i64 0, .int .i64 0, .int .u32 0, .str [], .sl true []] [], none, 0, []⟩,
  ⟨none, .stH 6 (.t 1) (.t 5), none, 0, []⟩]
def c_parse_Expr_1 : AC :=
  (.seq
   (.reg false r_parse_Expr_1_0 (some [1, 4]))
   (.cond (.t 4)
    (.reg false r_parse_Expr_1_1 (some []))
    .skip))
def f_parse_Expr_1 : AFun := ⟨2, [], c_parse_Expr_1⟩

def r_parse_parser_expr_0 : List AOper := [
  ⟨some 4, .allocL 4 [.int .i64 0, .int .i64 0, .int .i64 0, .int .u32 0, .str [], .sl true []], none, 0, []⟩]
def r_parse_parser_expr_1 : List AOper := [
  ⟨some 8, .mv (.t 1), none, 0, []⟩,
  ⟨some 9, .bin 0 .gtr (.t 8) (.k (.int .i64 8)), none, 0, []⟩]
def r_parse_parser_expr_2 : List AOper := [
  ⟨some 10, .mv (.t 0), none, 0, []⟩,
  ⟨some 11, .call false (.k (.fn F.parse_parser_unary [] [])) [.t 10], none, 0, []⟩,
  ⟨none, .stL 6 (.t 4) (.t 11), none, 0, []⟩]
def r_parse_parser_expr_3 : List AOper := [
  ⟨some 12, .mv (.t 0), none, 0, []⟩,
  ⟨some 13, .mv (.t 1), none, 0, []⟩,
  ⟨some 14, .bin 0 .add (.t 13) (.k (.int .i64 1)), none, 0, []⟩,
  ⟨some 15, .call false (.k (.fn F.parse_parser_expr [] [])) [.t 12, .t 14], none, 0, []⟩,
  ⟨some 5, .allocL 5 [.int .i64 0, .int .i64 0, .int .i64 0, .int .u32 0, .str [], .sl true []], none, 0, []⟩,
  ⟨none, .stL 6 (.t 5) (.t 15), none, 0, []⟩]
def r_parse_parser_expr_4 : List AOper := [
  ⟨some 16, .mv (.t 1), none, 0, []⟩,
  ⟨some 17, .iaa 9 1 (.g Gl.parse_levels) (.t 16), none, 0, []⟩,
  ⟨some 18, .ldC (none) (.t 17), none, 0, []⟩,
  ⟨some 19, .len 1 (.t 18), none, 0, []⟩,
  ⟨some 20, .mv (.k (.int .i64 0)), none, 0, []⟩]
def r_parse_parser_expr_5 : List AOper := [
  ⟨some 21, .bin 0 .lss (.t 20) (.t 19), none, 0, []⟩]
def r_parse_parser_expr_6 : List AOper := [
  ⟨some 22, .iad 1 (.t 18) (.t 20), none, 0, []⟩,
  ⟨some 23, .ldC (none) (.t 22), none, 0, []⟩,
  ⟨some 7, .mv (.t 23), none, 0, []⟩]
def r_parse_parser_expr_7 : List AOper := [
  ⟨some 24, .mv (.t 0), none, 0, []⟩,
  ⟨some 25, .mv (.t 7), none, 0, []⟩,
  ⟨some 26, .call false (.k (.fn F.parse_parser_may [] [])) [.t 24, .t 25], none, 0, []⟩]
def r_parse_parser_expr_8 : List AOper := [
  ⟨some 27, .ldC (none) (.g Gl.parse_signs), none, 0, []⟩,
  ⟨some 28, .mv (.t 7), none, 1, []⟩,
  ⟨some 29, .lkpC 0 false (.int .i64 0) (.t 27) (.t 28), none, 2, [0, 1]⟩,
  ⟨some 30, .ldL (some 6) (.t 5) false, none, 3, []⟩,
  ⟨some 31, .mv (.t 0), none, 4, []⟩,
  ⟨some 32, .mv (.t 1), none, 5, []⟩,
  ⟨some 33, .bin 0 .add (.t 32) (.k (.int .i64 1)), none, 6, [5]⟩,
  ⟨some 34, .call false (.k (.fn F.parse_parser_expr [] [])) [.t 31, .t 33], none, 7, [4, 5, 6]⟩,
  ⟨some 35, .bsl 2 6 (.agg [.int .i64 0, .int .i64 0, .int .i64 0, .int .u32 0, .str [], .sl true []]) [(0, .t 30), (1, .t 34)], none, 8, [3, 4, 5, 6, 7]⟩,
  ⟨some 36, .build [.int .i64 0, .int .i64 0, .int .i64 0, .int .u32 0, .str [], .sl true []] [(0, 1, .k (.int .i64 6)), (1, 1, .t 29), (5, 1, .t 35)], none, 9, [0, 1, 2, 3, 4, 5, 6, 7, 8]⟩,
  ⟨none, .stL 6 (.t 5) (.t 36), none, 10, [0, 1, 2, 3, 4, 5, 6, 7, 8, 9]⟩]
def r_parse_parser_expr_9 : List AOper := [
  ⟨some 37, .bin 0 .add (.t 20) (.k (.int .i64 1)), none, 0, []⟩,
  ⟨some 20, .mv (.t 37), none, 0, []⟩]
def r_parse_parser_expr_10 : List AOper := [
  ⟨some 38, .ldL (some 6) (.t 5) false, none, 0, []⟩,
  ⟨none, .stL 6 (.t 4) (.t 38), none, 0, []⟩]
def c_parse_parser_expr : AC :=
  (.seq
   (.reg false r_parse_parser_expr_0 (some [0, 1, 4]))
   (.scope
    (.seq
     (.seq
      (.reg false r_parse_parser_expr_1 (some [0, 1, 4, 9]))
      (.cond (.t 9)
       (.seq
        (.reg false r_parse_parser_expr_2 (some [4]))
        .ret)
       .skip))
     (.seq
      (.reg false r_parse_parser_expr_3 (some [0, 1, 4, 5]))
      (.seq
       (.label 0)
       (.seq
        (.seq
         (.reg false r_parse_parser_expr_4 (some [0, 1, 4, 5, 18, 19, 20]))
         (.block 0
          (.loop
           (.seq
            (.reg false r_parse_parser_expr_5 (some [0, 1, 4, 5, 18, 19, 20, 21]))
            (.seq
             (.cond (.t 21)
              .skip
              (.exit 0))
             (.seq
              (.block 1
               (.seq
                (.reg false r_parse_parser_expr_6 (some [0, 1, 4, 5, 7, 18, 19, 20]))
                (.seq
                 (.reg false r_parse_parser_expr_7 (some [0, 1, 4, 5, 7, 18, 19, 20, 26]))
                 (.cond (.t 26)
                  (.seq
                   (.reg true r_parse_parser_expr_8 (some [0, 1, 4, 5]))
                   (.goto 0))
                  .skip))))
              (.reg false r_parse_parser_expr_9 (some [0, 1, 4, 5, 18, 19, 20]))))))))
        (.seq
         (.reg false r_parse_parser_expr_10 (some [4]))
         .ret)))))))
def f_parse_parser_expr : AFun := ⟨2, [.cell 4 (some 6)], c_parse_parser_expr⟩

def r_parse_parser_end_0 : List AOper := [
  ⟨some 2, .mv (.t 0), none, 0, []⟩,
  ⟨some 3, .nilck (.t 2), none, 1, [0]⟩,
  ⟨some 4, .fad 1 (.t 3), none, 2, [0, 1]⟩,
  ⟨some 5, .ldH (none) (.t 4) false, none, 3, [0, 1, 2]⟩,
  ⟨some 6, .mv (.t 0), none, 4, []⟩,
  ⟨some 7, .nilck (.t 6), none, 5, [4]⟩,
  ⟨some 8, .fad 0 (.t 7), none, 6, [4, 5]⟩,
  ⟨some 9, .ldH (none) (.t 8) false, none, 7, [4, 5, 6]⟩,
  ⟨some 10, .len 1 (.t 9), none, 8, [4, 5, 6, 7]⟩,
  ⟨some 11, .bin 0 .lss (.t 5) (.t 10), none, 9, [0, 1, 2, 3, 4, 5, 6, 7, 8]⟩]
def r_parse_parser_end_1 : List AOper := [
  ⟨some 12, .mv (.t 0), none, 0, []⟩,
  ⟨some 13, .call false (.k (.fn F.parse_parser_wrong [] [])) [.t 12], none, 0, []⟩]
def c_parse_parser_end : AC :=
  (.seq
   (.reg true r_parse_parser_end_0 (some [0, 11]))
   (.cond (.t 11)
    (.reg false r_parse_parser_end_1 (some []))
    .skip))
def f_parse_parser_end : AFun := ⟨1, [], c_parse_parser_end⟩

def r_ast_CheckExpr_0 : List AOper := [
  ⟨some 1, .boxC (.t 0), none, 0, []⟩,
  ⟨some 2, .mv (.k (.int .i64 0)), none, 0, []⟩]
def r_ast_CheckExpr_1 : List AOper := [
  ⟨some 3, .build [.nptr, .nptr] [(0, 1, .t 1)], none, 0, []⟩,
  ⟨some 4, .bsl 1 2 (.agg [.nptr, .nptr]) [(0, .t 3)], none, 0, []⟩,
  ⟨some 5, .call true (.k (.fn F.ast_check [] [])) [.t 4], none, 0, []⟩,
  ⟨some 2, .mv (.t 5), none, 0, []⟩]
def c_ast_CheckExpr : AC :=
  (.seq
   (.reg false r_ast_CheckExpr_0 (some [1]))
   (.seq
    (.reg false r_ast_CheckExpr_1 (some [2]))
    .ret))
def f_ast_CheckExpr : AFun := ⟨1, [.tmp 2], c_ast_CheckExpr⟩

def r_parse_Stmts_1_0 : List AOper := [
  ⟨some 2, .ldH (some 3) (.t 0) false, none, 0, []⟩,
  ⟨some 3, .build [.int .i64 0, .int .i64 0, .int .i64 0] [], none, 0, []⟩,
  ⟨some 4, .eqS true [0, 0, 0] (.t 2) (.t 3), none, 0, []⟩]
def r_parse_Stmts_1_1 : List AOper := [
  ⟨none, .stH 1 (.t 1) (.k (.sl true [])), none, 0, []⟩]
def c_parse_Stmts_1 : AC :=
  (.seq
   (.reg false r_parse_Stmts_1_0 (some [1, 4]))
   (.cond (.t 4)
    (.reg false r_parse_Stmts_1_1 (some []))
    .skip))
def f_parse_Stmts_1 : AFun := ⟨2, [], c_parse_Stmts_1⟩

def r_parse_parser_stmt_0 : List AOper := [
  ⟨some 2, .allocL 2 [.int .i64 0, .int .i64 0, .int .i64 0, .int .i64 0, .str [], .sl true [], .sl true [], .sl true [], .sl true [], .sl true []], none, 0, []⟩]
def r_parse_parser_stmt_1 : List AOper := [
  ⟨some 6, .mv (.t 0), none, 0, []⟩,
  ⟨some 7, .call false (.k (.fn F.parse_parser_now [] [])) [.t 6], none, 0, []⟩,
  ⟨some 8, .fld 2 (none) (.t 7), none, 0, []⟩,
  ⟨some 9, .build [.int .i64 0, .int .i64 0, .int .i64 0, .int .i64 0, .str [], .sl true [], .sl true [], .sl true [], .sl true [], .sl true []] [(1, 1, .t 8)], none, 0, []⟩,
  ⟨some 3, .allocL 3 [.int .i64 0, .int .i64 0, .int .i64 0, .int .i64 0, .str [], .sl true [], .sl true [], .sl true [], .sl true [], .sl true []], none, 0, []⟩,
  ⟨none, .stL 10 (.t 3) (.t 9), none, 0, []⟩]
def r_parse_parser_stmt_2 : List AOper := [
  ⟨some 11, .mv (.t 0), none, 0, []⟩,
  ⟨some 12, .call false (.k (.fn F.parse_parser_isType [] [])) [.t 11], none, 0, []⟩,
  ⟨some 10, .mv (.t 12), none, 0, []⟩,
  ⟨some 13, .ext (.t 10) 0, none, 0, []⟩,
  ⟨some 14, .ext (.t 10) 1, none, 0, []⟩,
  ⟨some 4, .mv (.t 13), none, 0, []⟩,
  ⟨some 5, .mv (.t 14), none, 0, []⟩]
def r_parse_parser_stmt_3 : List AOper := [
  ⟨some 15, .mv (.t 5), none, 0, []⟩]
def r_parse_parser_stmt_4 : List AOper := [
  ⟨some 16, .mv (.t 0), none, 0, []⟩,
  ⟨some 17, .nilck (.t 16), none, 0, []⟩,
  ⟨some 18, .fad 1 (.t 17), none, 0, []⟩,
  ⟨some 19, .ldH (none) (.t 18) false, none, 0, []⟩,
  ⟨some 20, .bin 0 .add (.t 19) (.k (.int .i64 1)), none, 0, []⟩,
  ⟨some 21, .nilck (.t 16), none, 0, []⟩,
  ⟨some 22, .fad 1 (.t 21), none, 0, []⟩,
  ⟨none, .stH 1 (.t 22) (.t 20), none, 0, []⟩]
def r_parse_parser_stmt_5 : List AOper := [
  ⟨some 23, .mv (.t 4), none, 0, []⟩,
  ⟨some 24, .mv (.t 0), none, 0, []⟩,
  ⟨some 25, .call false (.k (.fn F.parse_parser_name [] [])) [.t 24], none, 0, []⟩,
  ⟨some 26, .fad 0 (.t 3), none, 0, []⟩,
  ⟨none, .stL 1 (.t 26) (.k (.int .i64 1)), none, 0, []⟩,
  ⟨some 27, .fad 2 (.t 3), none, 0, []⟩,
  ⟨none, .stL 1 (.t 27) (.t 23), none, 0, []⟩,
  ⟨some 28, .fad 4 (.t 3), none, 0, []⟩,
  ⟨none, .stL 1 (.t 28) (.t 25), none, 0, []⟩]
def r_parse_parser_stmt_6 : List AOper := [
  ⟨some 29, .mv (.t 0), none, 0, []⟩,
  ⟨some 30, .call false (.k (.fn F.parse_parser_must [] [])) [.t 29, .k (.str [61])], none, 0, []⟩]
def r_parse_parser_stmt_7 : List AOper := [
  ⟨some 31, .mv (.t 0), none, 0, []⟩,
  ⟨some 32, .call false (.k (.fn F.parse_parser_one [] [])) [.t 31], none, 0, []⟩,
  ⟨some 33, .fad 7 (.t 3), none, 0, []⟩,
  ⟨none, .stL 1 (.t 33) (.t 32), none, 0, []⟩]
def r_parse_parser_stmt_8 : List AOper := [
  ⟨some 34, .mv (.t 0), none, 0, []⟩,
  ⟨some 35, .call false (.k (.fn F.parse_parser_must [] [])) [.t 34, .k (.str [59])], none, 0, []⟩]
def r_parse_parser_stmt_9 : List AOper := [
  ⟨some 36, .ldL (some 10) (.t 3) false, none, 0, []⟩,
  ⟨none, .stL 10 (.t 2) (.t 36), none, 0, []⟩]
def r_parse_parser_stmt_19 : List AOper := [
  ⟨some 65, .mv (.t 0), none, 0, []⟩,
  ⟨some 66, .call false (.k (.fn F.parse_parser_may [] [])) [.t 65, .k (.str [105, 102])], none, 0, []⟩,
  ⟨some 64, .mv (.t 66), none, 0, []⟩]
def r_parse_parser_stmt_20 : List AOper := [
  ⟨some 67, .mv (.t 0), none, 0, []⟩,
  ⟨some 68, .call false (.k (.fn F.parse_parser_test [] [])) [.t 67], none, 0, []⟩,
  ⟨some 69, .mv (.t 0), none, 0, []⟩,
  ⟨some 70, .call false (.k (.fn F.parse_parser_block [] [])) [.t 69], none, 0, []⟩,
  ⟨some 71, .fad 0 (.t 3), none, 0, []⟩,
  ⟨none, .stL 1 (.t 71) (.k (.int .i64 4)), none, 0, []⟩,
  ⟨some 72, .fad 7 (.t 3), none, 0, []⟩,
  ⟨none, .stL 1 (.t 72) (.t 68), none, 0, []⟩,
  ⟨some 73, .fad 8 (.t 3), none, 0, []⟩,
  ⟨none, .stL 1 (.t 73) (.t 70), none, 0, []⟩]
def r_parse_parser_stmt_21 : List AOper := [
  ⟨some 74, .mv (.t 0), none, 0, []⟩,
  ⟨some 75, .call false (.k (.fn F.parse_parser_may [] [])) [.t 74, .k (.str [101, 108, 115, 101])], none, 0, []⟩]
def r_parse_parser_stmt_22 : List AOper := [
  ⟨some 76, .mv (.t 0), none, 0, []⟩,
  ⟨some 77, .call false (.k (.fn F.parse_parser_block [] [])) [.t 76], none, 0, []⟩,
  ⟨some 78, .fad 9 (.t 3), none, 0, []⟩,
  ⟨none, .stL 1 (.t 78) (.t 77), none, 0, []⟩]
def r_parse_parser_stmt_23 : List AOper := [
  ⟨some 79, .ldL (some 10) (.t 3) false, none, 0, []⟩,
  ⟨none, .stL 10 (.t 2) (.t 79), none, 0, []⟩]
def r_parse_parser_stmt_24 : List AOper := [
  ⟨some 81, .mv (.t 0), none, 0, []⟩,
  ⟨some 82, .call false (.k (.fn F.parse_parser_may [] [])) [.t 81, .k (.str [119, 104, 105, 108, 101])], none, 0, []⟩,
  ⟨some 80, .mv (.t 82), none, 0, []⟩]
def r_parse_parser_stmt_25 : List AOper := [
  ⟨some 83, .mv (.t 0), none, 0, []⟩,
  ⟨some 84, .call false (.k (.fn F.parse_parser_test [] [])) [.t 83], none, 0, []⟩,
  ⟨some 85, .mv (.t 0), none, 0, []⟩,
  ⟨some 86, .call false (.k (.fn F.parse_parser_block [] [])) [.t 85], none, 0, []⟩,
  ⟨some 87, .fad 0 (.t 3), none, 0, []⟩,
  ⟨none, .stL 1 (.t 87) (.k (.int .i64 5)), none, 0, []⟩,
  ⟨some 88, .fad 7 (.t 3), none, 0, []⟩,
  ⟨none, .stL 1 (.t 88) (.t 84), none, 0, []⟩,
  ⟨some 89, .fad 8 (.t 3), none, 0, []⟩,
  ⟨none, .stL 1 (.t 89) (.t 86), none, 0, []⟩]
def r_parse_parser_stmt_26 : List AOper := [
  ⟨some 90, .ldL (some 10) (.t 3) false, none, 0, []⟩,
  ⟨none, .stL 10 (.t 2) (.t 90), none, 0, []⟩]
def r_parse_parser_stmt_27 : List AOper := [
  ⟨some 92, .mv (.t 0), none, 0, []⟩,
  ⟨some 93, .call false (.k (.fn F.parse_parser_may [] [])) [.t 92, .k (.str [97, 116, 111, 109, 105, 99])], none, 0, []⟩,
  ⟨some 91, .mv (.t 93), none, 0, []⟩]
def r_parse_parser_stmt_28 : List AOper := [
  ⟨some 94, .fad 0 (.t 3), none, 0, []⟩,
  ⟨none, .stL 1 (.t 94) (.k (.int .i64 10)), none, 0, []⟩]
def r_parse_parser_stmt_29 : List AOper := [
  ⟨some 95, .mv (.t 0), none, 0, []⟩,
  ⟨some 96, .call false (.k (.fn F.parse_parser_must [] [])) [.t 95, .k (.str [40])], none, 0, []⟩]
def r_parse_parser_stmt_30 : List AOper := [
  ⟨some 97, .fad 5 (.t 3), none, 0, []⟩,
  ⟨some 98, .ldL (none) (.t 97) true, none, 1, [0]⟩,
  ⟨some 99, .mv (.t 0), none, 2, []⟩,
  ⟨some 100, .call false (.k (.fn F.parse_parser_name [] [])) [.t 99], none, 3, [2]⟩,
  ⟨some 101, .bsl 1 1 (.str []) [(0, .t 100)], none, 4, [2, 3]⟩,
  ⟨some 102, .app 1 (.tk 98) (.t 101), none, 5, [0, 1, 2, 3, 4]⟩,
  ⟨some 103, .fad 5 (.t 3), none, 6, [0, 1, 2, 3, 4, 5]⟩,
  ⟨none, .stL 1 (.t 103) (.tk 102), none, 7, [0, 1, 2, 3, 4, 5, 6]⟩]
def r_parse_parser_stmt_31 : List AOper := [
  ⟨some 104, .mv (.t 0), none, 0, []⟩,
  ⟨some 105, .call false (.k (.fn F.parse_parser_may [] [])) [.t 104, .k (.str [44])], none, 0, []⟩]
def r_parse_parser_stmt_32 : List AOper := [
  ⟨some 106, .fad 5 (.t 3), none, 0, []⟩,
  ⟨some 107, .ldL (none) (.t 106) true, none, 1, [0]⟩,
  ⟨some 108, .mv (.t 0), none, 2, []⟩,
  ⟨some 109, .call false (.k (.fn F.parse_parser_name [] [])) [.t 108], none, 3, [2]⟩,
  ⟨some 110, .bsl 1 1 (.str []) [(0, .t 109)], none, 4, [2, 3]⟩,
  ⟨some 111, .app 1 (.tk 107) (.t 110), none, 5, [0, 1, 2, 3, 4]⟩,
  ⟨some 112, .fad 5 (.t 3), none, 6, [0, 1, 2, 3, 4, 5]⟩,
  ⟨none, .stL 1 (.t 112) (.tk 111), none, 7, [0, 1, 2, 3, 4, 5, 6]⟩]
def r_parse_parser_stmt_33 : List AOper := [
  ⟨some 113, .mv (.t 0), none, 0, []⟩,
  ⟨some 114, .call false (.k (.fn F.parse_parser_must [] [])) [.t 113, .k (.str [41])], none, 0, []⟩]
def r_parse_parser_stmt_34 : List AOper := [
  ⟨some 115, .mv (.t 0), none, 0, []⟩,
  ⟨some 116, .call false (.k (.fn F.parse_parser_block [] [])) [.t 115], none, 0, []⟩,
  ⟨some 117, .fad 8 (.t 3), none, 0, []⟩,
  ⟨none, .stL 1 (.t 117) (.t 116), none, 0, []⟩]
def r_parse_parser_stmt_35 : List AOper := [
  ⟨some 118, .ldL (some 10) (.t 3) false, none, 0, []⟩,
  ⟨none, .stL 10 (.t 2) (.t 118), none, 0, []⟩]
def r_parse_parser_stmt_36 : List AOper := [
  ⟨some 120, .mv (.t 0), none, 0, []⟩,
  ⟨some 121, .call false (.k (.fn F.parse_parser_may [] [])) [.t 120, .k (.str [114, 101, 116, 117, 114, 110])], none, 0, []⟩,
  ⟨some 119, .mv (.t 121), none, 0, []⟩]
def r_parse_parser_stmt_37 : List AOper := [
  ⟨some 122, .mv (.t 0), none, 0, []⟩,
  ⟨some 123, .call false (.k (.fn F.parse_parser_one [] [])) [.t 122], none, 0, []⟩,
  ⟨some 124, .fad 0 (.t 3), none, 0, []⟩,
  ⟨none, .stL 1 (.t 124) (.k (.int .i64 6)), none, 0, []⟩,
  ⟨some 125, .fad 7 (.t 3), none, 0, []⟩,
  ⟨none, .stL 1 (.t 125) (.t 123), none, 0, []⟩]
def r_parse_parser_stmt_38 : List AOper := [
  ⟨some 127, .mv (.t 0), none, 0, []⟩,
  ⟨some 128, .call false (.k (.fn F.parse_parser_may [] [])) [.t 127, .k (.str [101, 110, 97, 98, 108, 101])], none, 0, []⟩,
  ⟨some 126, .mv (.t 128), none, 0, []⟩]
def r_parse_parser_stmt_39 : List AOper := [
  ⟨some 129, .mv (.t 0), none, 0, []⟩,
  ⟨some 130, .call false (.k (.fn F.parse_parser_number [] [])) [.t 129], none, 0, []⟩,
  ⟨some 131, .cvI .i64 (.t 130), none, 0, []⟩,
  ⟨some 132, .fad 0 (.t 3), none, 0, []⟩,
  ⟨none, .stL 1 (.t 132) (.k (.int .i64 7)), none, 0, []⟩,
  ⟨some 133, .fad 3 (.t 3), none, 0, []⟩,
  ⟨none, .stL 1 (.t 133) (.t 131), none, 0, []⟩]
def r_parse_parser_stmt_40 : List AOper := [
  ⟨some 135, .mv (.t 0), none, 0, []⟩,
  ⟨some 136, .call false (.k (.fn F.parse_parser_may [] [])) [.t 135, .k (.str [100, 105, 115, 97, 98, 108, 101])], none, 0, []⟩,
  ⟨some 134, .mv (.t 136), none, 0, []⟩]
def r_parse_parser_stmt_41 : List AOper := [
  ⟨some 137, .mv (.t 0), none, 0, []⟩,
  ⟨some 138, .call false (.k (.fn F.parse_parser_number [] [])) [.t 137], none, 0, []⟩,
  ⟨some 139, .cvI .i64 (.t 138), none, 0, []⟩,
  ⟨some 140, .fad 0 (.t 3), none, 0, []⟩,
  ⟨none, .stL 1 (.t 140) (.k (.int .i64 8)), none, 0, []⟩,
  ⟨some 141, .fad 3 (.t 3), none, 0, []⟩,
  ⟨none, .stL 1 (.t 141) (.t 139), none, 0, []⟩]
def r_parse_parser_stmt_42 : List AOper := [
  ⟨some 143, .mv (.t 0), none, 0, []⟩,
  ⟨some 144, .call false (.k (.fn F.parse_parser_may [] [])) [.t 143, .k (.str [108, 101, 118, 101, 108])], none, 0, []⟩,
  ⟨some 142, .mv (.t 144), none, 0, []⟩]
def r_parse_parser_stmt_43 : List AOper := [
  ⟨some 145, .mv (.t 0), none, 0, []⟩,
  ⟨some 146, .call false (.k (.fn F.parse_parser_number [] [])) [.t 145], none, 0, []⟩,
  ⟨some 147, .cvI .i64 (.t 146), none, 0, []⟩,
  ⟨some 148, .fad 0 (.t 3), none, 0, []⟩,
  ⟨none, .stL 1 (.t 148) (.k (.int .i64 9)), none, 0, []⟩,
  ⟨some 149, .fad 3 (.t 3), none, 0, []⟩,
  ⟨none, .stL 1 (.t 149) (.t 147), none, 0, []⟩]
def r_parse_parser_stmt_10 : List AOper := [
  ⟨some 37, .mv (.t 0), none, 0, []⟩,
  ⟨some 38, .call false (.k (.fn F.parse_parser_name [] [])) [.t 37], none, 0, []⟩,
  ⟨some 39, .fad 4 (.t 3), none, 0, []⟩,
  ⟨none, .stL 1 (.t 39) (.t 38), none, 0, []⟩]
def r_parse_parser_stmt_11 : List AOper := [
  ⟨some 40, .mv (.t 0), none, 0, []⟩,
  ⟨some 41, .call false (.k (.fn F.parse_parser_may [] [])) [.t 40, .k (.str [40])], none, 0, []⟩]
def r_parse_parser_stmt_12 : List AOper := [
  ⟨some 42, .fad 4 (.t 3), none, 0, []⟩,
  ⟨some 43, .ldL (none) (.t 42) false, none, 1, [0]⟩,
  ⟨some 44, .mv (.t 0), none, 2, []⟩,
  ⟨some 48, .fad 0 (.t 3), none, 6, [0, 1]⟩,
  ⟨some 45, .call false (.k (.fn F.parse_parser_args [] [])) [.t 44], none, 3, [2]⟩,
  ⟨some 46, .build [.int .i64 0, .int .i64 0, .int .i64 0, .int .u32 0, .str [], .sl true []] [(0, 1, .k (.int .i64 4)), (4, 1, .t 43), (5, 1, .t 45)], none, 4, [0, 1, 2, 3]⟩,
  ⟨some 47, .bsl 1 6 (.agg [.int .i64 0, .int .i64 0, .int .i64 0, .int .u32 0, .str [], .sl true []]) [(0, .t 46)], none, 5, [0, 1, 2, 3, 4]⟩,
  ⟨none, .stL 1 (.t 48) (.k (.int .i64 3)), none, 7, [0, 1, 2, 3, 6]⟩,
  ⟨some 49, .fad 7 (.t 3), none, 8, [0, 1, 2, 3, 4, 5, 6, 7]⟩,
  ⟨none, .stL 1 (.t 49) (.t 47), none, 9, [0, 1, 2, 3, 4, 5, 6, 7, 8]⟩,
  ⟨some 50, .fad 4 (.t 3), none, 10, [0, 1, 2, 3, 4, 5, 6, 7, 8, 9]⟩,
  ⟨none, .stL 1 (.t 50) (.k (.str [])), none, 11, [0, 1, 2, 3, 4, 5, 6, 7, 8, 9, 10]⟩]
def r_parse_parser_stmt_13 : List AOper := [
  ⟨some 51, .fad 0 (.t 3), none, 0, []⟩,
  ⟨none, .stL 1 (.t 51) (.k (.int .i64 2)), none, 0, []⟩]
def r_parse_parser_stmt_14 : List AOper := [
  ⟨some 52, .mv (.t 0), none, 0, []⟩,
  ⟨some 53, .call false (.k (.fn F.parse_parser_may [] [])) [.t 52, .k (.str [91])], none, 0, []⟩]
def r_parse_parser_stmt_15 : List AOper := [
  ⟨some 54, .mv (.t 0), none, 0, []⟩,
  ⟨some 55, .call false (.k (.fn F.parse_parser_one [] [])) [.t 54], none, 0, []⟩,
  ⟨some 56, .fad 6 (.t 3), none, 0, []⟩,
  ⟨none, .stL 1 (.t 56) (.t 55), none, 0, []⟩]
def r_parse_parser_stmt_16 : List AOper := [
  ⟨some 57, .mv (.t 0), none, 0, []⟩,
  ⟨some 58, .call false (.k (.fn F.parse_parser_must [] [])) [.t 57, .k (.str [93])], none, 0, []⟩]
def r_parse_parser_stmt_17 : List AOper := [
  ⟨some 59, .mv (.t 0), none, 0, []⟩,
  ⟨some 60, .call false (.k (.fn F.parse_parser_must [] [])) [.t 59, .k (.str [61])], none, 0, []⟩]
def r_parse_parser_stmt_18 : List AOper := [
  ⟨some 61, .mv (.t 0), none, 0, []⟩,
  ⟨some 62, .call false (.k (.fn F.parse_parser_one [] [])) [.t 61], none, 0, []⟩,
  ⟨some 63, .fad 7 (.t 3), none, 0, []⟩,
  ⟨none, .stL 1 (.t 63) (.t 62), none, 0, []⟩]
def r_parse_parser_stmt_44 : List AOper := [
  ⟨some 150, .mv (.t 0), none, 0, []⟩,
  ⟨some 151, .call false (.k (.fn F.parse_parser_must [] [])) [.t 150, .k (.str [59])], none, 0, []⟩]
def r_parse_parser_stmt_45 : List AOper := [
  ⟨some 152, .ldL (some 10) (.t 3) false, none, 0, []⟩,
  ⟨none, .stL 10 (.t 2) (.t 152), none, 0, []⟩]
def c_parse_parser_stmt : AC :=
  (.seq
   (.reg false r_parse_parser_stmt_0 (some [0, 2]))
   (.seq
    (.reg false r_parse_parser_stmt_1 (some [0, 2, 3]))
    (.seq
     (.seq
      (.reg false r_parse_parser_stmt_2 (some [0, 2, 3, 4, 5]))
      (.seq
       (.reg false r_parse_parser_stmt_3 (some [0, 2, 3, 4, 15]))
       (.cond (.t 15)
        (.seq
         (.reg false r_parse_parser_stmt_4 (some [0, 2, 3, 4]))
         (.seq
          (.reg false r_parse_parser_stmt_5 (some [0, 2, 3]))
          (.seq
           (.reg false r_parse_parser_stmt_6 (some [0, 2, 3]))
           (.seq
            (.reg false r_parse_parser_stmt_7 (some [0, 2, 3]))
            (.seq
             (.reg false r_parse_parser_stmt_8 (some [2, 3]))
             (.seq
              (.reg false r_parse_parser_stmt_9 (some [2]))
              .ret))))))
        .skip)))
     (.seq
      (.block 0
       (.seq
        (.reg false r_parse_parser_stmt_19 (some [0, 2, 3, 64]))
        (.cond (.t 64)
         (.seq
          (.reg false r_parse_parser_stmt_20 (some [0, 2, 3]))
          (.seq
           (.seq
            (.reg false r_parse_parser_stmt_21 (some [0, 2, 3, 75]))
            (.cond (.t 75)
             (.reg false r_parse_parser_stmt_22 (some [2, 3]))
             .skip))
           (.seq
            (.reg false r_parse_parser_stmt_23 (some [2]))
            .ret)))
         (.seq
          (.reg false r_parse_parser_stmt_24 (some [0, 2, 3, 80]))
          (.cond (.t 80)
           (.seq
            (.reg false r_parse_parser_stmt_25 (some [2, 3]))
            (.seq
             (.reg false r_parse_parser_stmt_26 (some [2]))
             .ret))
           (.seq
            (.reg false r_parse_parser_stmt_27 (some [0, 2, 3, 91]))
            (.cond (.t 91)
             (.seq
              (.reg false r_parse_parser_stmt_28 (some [0, 2, 3]))
              (.seq
               (.reg false r_parse_parser_stmt_29 (some [0, 2, 3]))
               (.seq
                (.reg true r_parse_parser_stmt_30 (some [0, 2, 3]))
                (.seq
                 (.block 1
                  (.loop
                   (.seq
                    (.seq
                     (.reg false r_parse_parser_stmt_31 (some [0, 2, 3, 105]))
                     (.cond (.t 105)
                      .skip
                      (.exit 1)))
                    (.block 2
                     (.reg true r_parse_parser_stmt_32 (some [0, 2, 3]))))))
                 (.seq
                  (.reg false r_parse_parser_stmt_33 (some [0, 2, 3]))
                  (.seq
                   (.reg false r_parse_parser_stmt_34 (some [2, 3]))
                   (.seq
                    (.reg false r_parse_parser_stmt_35 (some [2]))
                    .ret)))))))
             (.seq
              (.reg false r_parse_parser_stmt_36 (some [0, 2, 3, 119]))
              (.cond (.t 119)
               (.reg false r_parse_parser_stmt_37 (some [0, 2, 3]))
               (.seq
                (.reg false r_parse_parser_stmt_38 (some [0, 2, 3, 126]))
                (.cond (.t 126)
                 (.reg false r_parse_parser_stmt_39 (some [0, 2, 3]))
                 (.seq
                  (.reg false r_parse_parser_stmt_40 (some [0, 2, 3, 134]))
                  (.cond (.t 134)
                   (.reg false r_parse_parser_stmt_41 (some [0, 2, 3]))
                   (.seq
                    (.reg false r_parse_parser_stmt_42 (some [0, 2, 3, 142]))
                    (.cond (.t 142)
                     (.reg false r_parse_parser_stmt_43 (some [0, 2, 3]))
                     (.seq
                      (.reg false r_parse_parser_stmt_10 (some [0, 2, 3]))
                      (.seq
                       (.seq
                        (.reg false r_parse_parser_stmt_11 (some [0, 2, 3, 41]))
                        (.cond (.t 41)
                         (.seq
                          (.reg true r_parse_parser_stmt_12 (some [0, 2, 3]))
                          (.exit 0))
                         .skip))
                       (.seq
                        (.reg false r_parse_parser_stmt_13 (some [0, 2, 3]))
                        (.seq
                         (.seq
                          (.reg false r_parse_parser_stmt_14 (some [0, 2, 3, 53]))
                          (.cond (.t 53)
                           (.seq
                            (.reg false r_parse_parser_stmt_15 (some [0, 2, 3]))
                            (.reg false r_parse_parser_stmt_16 (some [0, 2, 3])))
                           .skip))
                         (.seq
                          (.reg false r_parse_parser_stmt_17 (some [0, 2, 3]))
                          (.reg false r_parse_parser_stmt_18 (some [0, 2, 3]))))))))))))))))))))))
      (.seq
       (.reg false r_parse_parser_stmt_44 (some [2, 3]))
       (.seq
        (.reg false r_parse_parser_stmt_45 (some [2]))
        .ret))))))
def f_parse_parser_stmt : AFun := ⟨1, [.cell 2 (some 10)], c_parse_parser_stmt⟩

def r_ast_CheckStmt_0 : List AOper := [
  ⟨some 1, .boxC (.t 0), none, 0, []⟩,
  ⟨some 2, .mv (.k (.int .i64 0)), none, 0, []⟩]
def r_ast_CheckStmt_1 : List AOper := [
  ⟨some 3, .build [.nptr, .nptr] [(1, 1, .t 1)], none, 0, []⟩,
  ⟨some 4, .bsl 1 2 (.agg [.nptr, .nptr]) [(0, .t 3)], none, 0, []⟩,
  ⟨some 5, .call true (.k (.fn F.ast_check [] [])) [.t 4], none, 0, []⟩,
  ⟨some 2, .mv (.t 5), none, 0, []⟩]
def c_ast_CheckStmt : AC :=
  (.seq
   (.reg false r_ast_CheckStmt_0 (some [1]))
   (.seq
    (.reg false r_ast_CheckStmt_1 (some [2]))
    .ret))
def f_ast_CheckStmt : AFun := ⟨1, [.tmp 2], c_ast_CheckStmt⟩

def r_kit_Exprs_0 : List AOper := [
  ⟨some 4, .mv (.k (.bool false)), none, 0, []⟩]
def r_kit_Exprs_1 : List AOper := [
  ⟨some 6, .mv (.t 0), none, 0, []⟩,
  ⟨some 7, .len 1 (.t 6), none, 0, []⟩,
  ⟨some 8, .mv (.t 1), none, 0, []⟩,
  ⟨some 9, .len 1 (.t 8), none, 0, []⟩,
  ⟨some 10, .bin 0 .neq (.t 7) (.t 9), none, 0, []⟩]
def r_kit_Exprs_2 : List AOper := [
  ⟨some 4, .mv (.k (.bool false)), none, 0, []⟩]
def r_kit_Exprs_3 : List AOper := [
  ⟨some 5, .mv (.k (.int .i64 0)), none, 0, []⟩]
def r_kit_Exprs_4 : List AOper := [
  ⟨some 11, .mv (.t 5), none, 0, []⟩,
  ⟨some 12, .mv (.t 0), none, 0, []⟩,
  ⟨some 13, .len 1 (.t 12), none, 0, []⟩,
  ⟨some 14, .bin 0 .lss (.t 11) (.t 13), none, 0, []⟩]
def r_kit_Exprs_6 : List AOper := [
  ⟨some 17, .mv (.t 0), none, 0, []⟩,
  ⟨some 18, .mv (.t 5), none, 1, []⟩,
  ⟨some 19, .iad 6 (.t 17) (.t 18), none, 2, [0, 1]⟩,
  ⟨some 20, .ldC (some 6) (.t 19), none, 3, [0, 1, 2]⟩,
  ⟨some 21, .mv (.t 1), none, 4, []⟩,
  ⟨some 22, .mv (.t 5), none, 5, []⟩,
  ⟨some 23, .iad 6 (.t 21) (.t 22), none, 6, [4, 5]⟩,
  ⟨some 24, .ldC (some 6) (.t 23), none, 7, [4, 5, 6]⟩,
  ⟨some 25, .call true (.k (.fn F.kit_Expr [] [])) [.t 20, .t 24], none, 8, [0, 1, 2, 3, 4, 5, 6, 7]⟩,
  ⟨some 26, .un .not (.t 25), none, 9, [0, 1, 2, 3, 4, 5, 6, 7, 8]⟩]
def r_kit_Exprs_7 : List AOper := [
  ⟨some 4, .mv (.k (.bool false)), none, 0, []⟩]
def r_kit_Exprs_5 : List AOper := [
  ⟨some 15, .mv (.t 5), none, 0, []⟩,
  ⟨some 16, .bin 0 .add (.t 15) (.k (.int .i64 1)), none, 0, []⟩,
  ⟨some 5, .mv (.t 16), none, 0, []⟩]
def r_kit_Exprs_8 : List AOper := [
  ⟨some 4, .mv (.k (.bool true)), none, 0, []⟩]
def c_kit_Exprs : AC :=
  (.seq
   (.reg false r_kit_Exprs_0 (some [0, 1]))
   (.seq
    (.seq
     (.reg false r_kit_Exprs_1 (some [0, 1, 10]))
     (.cond (.t 10)
      (.seq
       (.reg false r_kit_Exprs_2 (some [4]))
       .ret)
      .skip))
    (.seq
     (.seq
      (.reg false r_kit_Exprs_3 (some [0, 1, 5]))
      (.block 0
       (.loop
        (.seq
         (.seq
          (.reg false r_kit_Exprs_4 (some [0, 1, 5, 14]))
          (.cond (.t 14)
           .skip
           (.exit 0)))
         (.seq
          (.block 1
           (.seq
            (.reg true r_kit_Exprs_6 (some [0, 1, 5, 26]))
            (.cond (.t 26)
             (.seq
              (.reg false r_kit_Exprs_7 (some [4]))
              .ret)
             .skip)))
          (.reg false r_kit_Exprs_5 (some [0, 1, 5])))))))
     (.seq
      (.reg false r_kit_Exprs_8 (some [4]))
      .ret))))
def f_kit_Exprs : AFun := ⟨2, [.tmp 4], c_kit_Exprs⟩

def r_lex_between_0 : List AOper := [
  ⟨some 2, .mv (.k (.nfn)), none, 0, []⟩]
def r_lex_between_1 : List AOper := [
  ⟨some 5, .mv (.t 0), none, 0, []⟩,
  ⟨some 6, .nilck (.t 5), none, 1, [0]⟩,
  ⟨some 7, .fad 1 (.t 6), none, 2, [0, 1]⟩,
  ⟨some 8, .ldH (none) (.t 7) false, none, 3, [0, 1, 2]⟩,
  ⟨some 9, .mv (.t 0), none, 4, []⟩,
  ⟨some 10, .nilck (.t 9), none, 5, [4]⟩,
  ⟨some 11, .fad 0 (.t 10), none, 6, [4, 5]⟩,
  ⟨some 12, .ldH (none) (.t 11) false, none, 7, [4, 5, 6]⟩,
  ⟨some 13, .len 0 (.t 12), none, 8, [4, 5, 6, 7]⟩,
  ⟨some 14, .bin 0 .lss (.t 8) (.t 13), none, 9, [0, 1, 2, 3, 4, 5, 6, 7, 8]⟩]
def r_lex_between_2 : List AOper := [
  ⟨some 15, .mv (.t 0), none, 0, []⟩,
  ⟨some 16, .call false (.k (.fn F.lex_lexer_now [] [])) [.t 15, .k (.int .i64 0)], none, 0, []⟩,
  ⟨some 3, .mv (.t 16), none, 0, []⟩]
def r_lex_between_4 : List AOper := [
  ⟨some 18, .mv (.t 3), none, 0, []⟩,
  ⟨some 19, .bin 0 .eql (.t 18) (.k (.int .u8 32)), none, 0, []⟩,
  ⟨some 20, .mv (.t 19), none, 0, []⟩,
  ⟨some 21, .mv (.t 3), some (20, false), 0, []⟩,
  ⟨some 22, .bin 0 .eql (.t 21) (.k (.int .u8 9)), some (20, false), 0, []⟩,
  ⟨some 23, .pick (.t 20) (.k (.bool true)) (.t 22), none, 0, []⟩,
  ⟨some 24, .mv (.t 23), none, 0, []⟩,
  ⟨some 25, .mv (.t 3), some (24, false), 0, []⟩,
  ⟨some 26, .bin 0 .eql (.t 25) (.k (.int .u8 10)), some (24, false), 0, []⟩,
  ⟨some 27, .pick (.t 24) (.k (.bool true)) (.t 26), none, 0, []⟩,
  ⟨some 28, .mv (.t 27), none, 0, []⟩,
  ⟨some 29, .mv (.t 3), some (28, false), 0, []⟩,
  ⟨some 30, .bin 0 .eql (.t 29) (.k (.int .u8 13)), some (28, false), 0, []⟩,
  ⟨some 31, .pick (.t 28) (.k (.bool true)) (.t 30), none, 0, []⟩,
  ⟨some 17, .mv (.t 31), none, 0, []⟩]
def r_lex_between_5 : List AOper := [
  ⟨some 32, .mv (.t 0), none, 0, []⟩,
  ⟨some 33, .call false (.k (.fn F.lex_lexer_skip [] [])) [.t 32, .k (.int .i64 1)], none, 0, []⟩]
def r_lex_between_6 : List AOper := [
  ⟨some 35, .mv (.t 3), none, 0, []⟩,
  ⟨some 36, .bin 0 .eql (.t 35) (.k (.int .u8 47)), none, 0, []⟩,
  ⟨some 37, .mv (.t 36), none, 0, []⟩,
  ⟨some 38, .mv (.t 0), some (37, true), 0, []⟩,
  ⟨some 39, .call false (.k (.fn F.lex_lexer_now [] [])) [.t 38, .k (.int .i64 1)], some (37, true), 0, []⟩,
  ⟨some 40, .bin 0 .eql (.t 39) (.k (.int .u8 47)), some (37, true), 0, []⟩,
  ⟨some 41, .pick (.t 37) (.t 40) (.k (.bool false)), none, 0, []⟩,
  ⟨some 34, .mv (.t 41), none, 0, []⟩]
def r_lex_between_7 : List AOper := [
  ⟨some 42, .mv (.t 0), none, 0, []⟩,
  ⟨some 43, .nilck (.t 42), none, 1, [0]⟩,
  ⟨some 44, .fad 0 (.t 43), none, 2, [0, 1]⟩,
  ⟨some 45, .ldH (none) (.t 44) false, none, 3, [0, 1, 2]⟩,
  ⟨some 46, .mv (.t 0), none, 4, []⟩,
  ⟨some 47, .nilck (.t 46), none, 5, [4]⟩,
  ⟨some 48, .fad 1 (.t 47), none, 6, [4, 5]⟩,
  ⟨some 49, .ldH (none) (.t 48) false, none, 7, [4, 5, 6]⟩,
  ⟨some 50, .sls (.t 45) (some (.t 49)) none, none, 8, [0, 1, 2, 3, 4, 5, 6, 7]⟩,
  ⟨some 51, .call true (.k (.fn F.strings_IndexByte [] [])) [.t 50, .k (.int .u8 10)], none, 9, [0, 1, 2, 3, 4, 5, 6, 7, 8]⟩,
  ⟨some 4, .mv (.t 51), none, 10, [0, 1, 2, 3, 4, 5, 6, 7, 8, 9]⟩]
def r_lex_between_8 : List AOper := [
  ⟨some 52, .mv (.t 4), none, 0, []⟩,
  ⟨some 53, .bin 0 .lss (.t 52) (.k (.int .i64 0)), none, 0, []⟩]
def r_lex_between_9 : List AOper := [
  ⟨some 54, .mv (.t 0), none, 0, []⟩,
  ⟨some 55, .nilck (.t 54), none, 1, [0]⟩,
  ⟨some 56, .fad 0 (.t 55), none, 2, [0, 1]⟩,
  ⟨some 57, .ldH (none) (.t 56) false, none, 3, [0, 1, 2]⟩,
  ⟨some 58, .len 0 (.t 57), none, 4, [0, 1, 2, 3]⟩,
  ⟨some 59, .mv (.t 0), none, 5, []⟩,
  ⟨some 60, .nilck (.t 59), none, 6, [5]⟩,
  ⟨some 61, .fad 1 (.t 60), none, 7, [5, 6]⟩,
  ⟨some 62, .ldH (none) (.t 61) false, none, 8, [5, 6, 7]⟩,
  ⟨some 63, .bin 0 .sub (.t 58) (.t 62), none, 9, [0, 1, 2, 3, 4, 5, 6, 7, 8]⟩,
  ⟨some 4, .mv (.t 63), none, 10, [0, 1, 2, 3, 4, 5, 6, 7, 8, 9]⟩]
def r_lex_between_10 : List AOper := [
  ⟨some 64, .mv (.t 0), none, 0, []⟩,
  ⟨some 65, .mv (.t 4), none, 0, []⟩,
  ⟨some 66, .call false (.k (.fn F.lex_lexer_skip [] [])) [.t 64, .t 65], none, 0, []⟩]
def r_lex_between_11 : List AOper := [
  ⟨some 68, .mv (.t 3), none, 0, []⟩,
  ⟨some 69, .call true (.k (.fn F.lex_letter [] [])) [.t 68], none, 0, []⟩,
  ⟨some 67, .mv (.t 69), none, 0, []⟩]
def r_lex_between_12 : List AOper := [
  ⟨some 2, .mv (.k (.fn F.lex_word [] [])), none, 0, []⟩]
def r_lex_between_13 : List AOper := [
  ⟨some 71, .mv (.t 3), none, 0, []⟩,
  ⟨some 72, .call true (.k (.fn F.lex_digit [] [])) [.t 71], none, 0, []⟩,
  ⟨some 70, .mv (.t 72), none, 0, []⟩]
def r_lex_between_14 : List AOper := [
  ⟨some 2, .mv (.k (.fn F.lex_number [] [])), none, 0, []⟩]
def r_lex_between_3 : List AOper := [
  ⟨some 2, .mv (.k (.fn F.lex_sign [] [])), none, 0, []⟩]
def r_lex_between_15 : List AOper := [
  ⟨some 2, .mv (.k (.nfn)), none, 0, []⟩]
def c_lex_between : AC :=
  (.seq
   (.reg false r_lex_between_0 (some [0]))
   (.seq
    (.block 0
     (.loop
      (.seq
       (.seq
        (.reg true r_lex_between_1 (some [0, 14]))
        (.cond (.t 14)
         .skip
         (.exit 0)))
       (.block 1
        (.seq
         (.reg false r_lex_between_2 (some [0, 3]))
         (.block 2
          (.seq
           (.reg false r_lex_between_4 (some [0, 3, 17]))
           (.cond (.t 17)
            (.reg false r_lex_between_5 (some [0]))
            (.seq
             (.reg false r_lex_between_6 (some [0, 3, 34]))
             (.cond (.t 34)
              (.seq
               (.reg true r_lex_between_7 (some [0, 4]))
               (.seq
                (.seq
                 (.reg false r_lex_between_8 (some [0, 4, 53]))
                 (.cond (.t 53)
                  (.reg true r_lex_between_9 (some [0, 4]))
                  .skip))
                (.reg false r_lex_between_10 (some [0]))))
              (.seq
               (.reg false r_lex_between_11 (some [3, 67]))
               (.cond (.t 67)
                (.seq
                 (.reg false r_lex_between_12 (some [2]))
                 .ret)
                (.seq
                 (.reg false r_lex_between_13 (some [70]))
                 (.cond (.t 70)
                  (.seq
                   (.reg false r_lex_between_14 (some [2]))
                   .ret)
                  (.seq
                   (.reg false r_lex_between_3 (some [2]))
                   .ret)))))))))))))))
    (.seq
     (.reg false r_lex_between_15 (some [2]))
     .ret)))
def f_lex_between : AFun := ⟨1, [.tmp 2], c_lex_between⟩

def r_lex_lexer_skip_0 : List AOper := [
  ⟨some 6, .mv (.t 0), none, 0, []⟩,
  ⟨some 7, .nilck (.t 6), none, 1, [0]⟩,
  ⟨some 8, .fad 0 (.t 7), none, 2, [0, 1]⟩,
  ⟨some 9, .ldH (none) (.t 8) false, none, 3, [0, 1, 2]⟩,
  ⟨some 10, .mv (.t 0), none, 4, []⟩,
  ⟨some 11, .nilck (.t 10), none, 5, [4]⟩,
  ⟨some 12, .fad 1 (.t 11), none, 6, [4, 5]⟩,
  ⟨some 13, .ldH (none) (.t 12) false, none, 7, [4, 5, 6]⟩,
  ⟨some 14, .mv (.t 0), none, 8, []⟩,
  ⟨some 15, .nilck (.t 14), none, 9, [8]⟩,
  ⟨some 16, .fad 1 (.t 15), none, 10, [8, 9]⟩,
  ⟨some 17, .ldH (none) (.t 16) false, none, 11, [8, 9, 10]⟩,
  ⟨some 18, .mv (.t 1), none, 12, []⟩,
  ⟨some 19, .bin 0 .add (.t 17) (.t 18), none, 13, [8, 9, 10, 11, 12]⟩,
  ⟨some 20, .sls (.t 9) (some (.t 13)) (some (.t 19)), none, 14, [0, 1, 2, 3, 4, 5, 6, 7, 8, 9, 10, 11, 12, 13]⟩,
  ⟨some 21, .s2b (.t 20), none, 15, [0, 1, 2, 3, 4, 5, 6, 7, 8, 9, 10, 11, 12, 13, 14]⟩,
  ⟨some 22, .len 1 (.t 21), none, 16, [0, 1, 2, 3, 4, 5, 6, 7, 8, 9, 10, 11, 12, 13, 14, 15]⟩,
  ⟨some 23, .mv (.k (.int .i64 0)), none, 17, []⟩]
def r_lex_lexer_skip_1 : List AOper := [
  ⟨some 24, .bin 0 .lss (.t 23) (.t 22), none, 0, []⟩]
def r_lex_lexer_skip_2 : List AOper := [
  ⟨some 25, .iad 1 (.t 21) (.t 23), none, 0, []⟩,
  ⟨some 26, .ldC (none) (.t 25), none, 0, []⟩,
  ⟨some 5, .mv (.t 26), none, 0, []⟩]
def r_lex_lexer_skip_3 : List AOper := [
  ⟨some 27, .mv (.t 0), none, 0, []⟩,
  ⟨some 28, .nilck (.t 27), none, 0, []⟩,
  ⟨some 29, .fad 3 (.t 28), none, 0, []⟩,
  ⟨some 30, .ldH (none) (.t 29) false, none, 0, []⟩,
  ⟨some 31, .bin 0 .add (.t 30) (.k (.int .i64 1)), none, 0, []⟩,
  ⟨some 32, .nilck (.t 27), none, 0, []⟩,
  ⟨some 33, .fad 3 (.t 32), none, 0, []⟩,
  ⟨none, .stH 1 (.t 33) (.t 31), none, 0, []⟩]
def r_lex_lexer_skip_4 : List AOper := [
  ⟨some 34, .mv (.t 5), none, 0, []⟩,
  ⟨some 35, .bin 0 .eql (.t 34) (.k (.int .u8 10)), none, 0, []⟩]
def r_lex_lexer_skip_5 : List AOper := [
  ⟨some 36, .mv (.t 0), none, 0, []⟩,
  ⟨some 37, .mv (.t 0), none, 0, []⟩,
  ⟨some 38, .mv (.t 0), none, 0, []⟩,
  ⟨some 39, .nilck (.t 38), none, 0, []⟩,
  ⟨some 40, .fad 2 (.t 39), none, 0, []⟩,
  ⟨some 41, .ldH (none) (.t 40) false, none, 0, []⟩,
  ⟨some 42, .bin 0 .add (.t 41) (.k (.int .i64 1)), none, 0, []⟩,
  ⟨some 43, .nilck (.t 36), none, 0, []⟩,
  ⟨some 44, .fad 2 (.t 43), none, 0, []⟩,
  ⟨none, .stH 1 (.t 44) (.t 42), none, 0, []⟩,
  ⟨some 45, .nilck (.t 37), none, 0, []⟩,
  ⟨some 46, .fad 3 (.t 45), none, 0, []⟩,
  ⟨none, .stH 1 (.t 46) (.k (.int .i64 1)), none, 0, []⟩]
def r_lex_lexer_skip_6 : List AOper := [
  ⟨some 47, .bin 0 .add (.t 23) (.k (.int .i64 1)), none, 0, []⟩,
  ⟨some 23, .mv (.t 47), none, 0, []⟩]
def r_lex_lexer_skip_7 : List AOper := [
  ⟨some 48, .mv (.t 0), none, 0, []⟩,
  ⟨some 49, .nilck (.t 48), none, 0, []⟩,
  ⟨some 50, .fad 1 (.t 49), none, 0, []⟩,
  ⟨some 51, .ldH (none) (.t 50) false, none, 0, []⟩,
  ⟨some 52, .mv (.t 1), none, 0, []⟩,
  ⟨some 53, .bin 0 .add (.t 51) (.t 52), none, 0, []⟩,
  ⟨some 54, .nilck (.t 48), none, 0, []⟩,
  ⟨some 55, .fad 1 (.t 54), none, 0, []⟩,
  ⟨none, .stH 1 (.t 55) (.t 53), none, 0, []⟩]
def c_lex_lexer_skip : AC :=
  (.seq
   (.seq
    (.reg true r_lex_lexer_skip_0 (some [0, 1, 21, 22, 23]))
    (.block 0
     (.loop
      (.seq
       (.reg false r_lex_lexer_skip_1 (some [0, 1, 21, 22, 23, 24]))
       (.seq
        (.cond (.t 24)
         .skip
         (.exit 0))
        (.seq
         (.block 1
          (.seq
           (.reg false r_lex_lexer_skip_2 (some [0, 1, 5, 21, 22, 23]))
           (.seq
            (.reg false r_lex_lexer_skip_3 (some [0, 1, 5, 21, 22, 23]))
            (.seq
             (.reg false r_lex_lexer_skip_4 (some [0, 1, 21, 22, 23, 35]))
             (.cond (.t 35)
              (.reg false r_lex_lexer_skip_5 (some [0, 1, 21, 22, 23]))
              .skip)))))
         (.reg false r_lex_lexer_skip_6 (some [0, 1, 21, 22, 23]))))))))
   (.reg false r_lex_lexer_skip_7 (some [])))
def f_lex_lexer_skip : AFun := ⟨2, [], c_lex_lexer_skip⟩

def r_ast_all_1_0 : List AOper := [
  ⟨some 3, .mv (.k (.bool false)), none, 0, []⟩]
def r_ast_all_1_1 : List AOper := [
  ⟨some 4, .ldH (none) (.t 1) true, none, 0, []⟩,
  ⟨some 5, .mv (.t 0), none, 0, []⟩,
  ⟨some 6, .build [.nptr, .nptr] [(1, 1, .t 5)], none, 0, []⟩,
  ⟨some 7, .bsl 1 2 (.agg [.nptr, .nptr]) [(0, .t 6)], none, 0, []⟩,
  ⟨some 8, .app 2 (.tk 4) (.t 7), none, 0, []⟩,
  ⟨none, .stH 1 (.t 1) (.tk 8), none, 0, []⟩]
def r_ast_all_1_2 : List AOper := [
  ⟨some 3, .mv (.k (.bool true)), none, 0, []⟩]
def c_ast_all_1 : AC :=
  (.seq
   (.reg false r_ast_all_1_0 (some [0, 1]))
   (.seq
    (.reg false r_ast_all_1_1 (some []))
    (.seq
     (.reg false r_ast_all_1_2 (some [3]))
     .ret)))
def f_ast_all_1 : AFun := ⟨2, [.tmp 3], c_ast_all_1⟩

def r_ast_each_api_Stmt_0 : List AOper := [
  ⟨some 4, .mv (.k (.bool false)), none, 0, []⟩]
def r_ast_each_api_Stmt_1 : List AOper := [
  ⟨some 6, .mv (.t 0), none, 0, []⟩,
  ⟨some 7, .len 1 (.t 6), none, 0, []⟩,
  ⟨some 8, .mv (.k (.int .i64 0)), none, 0, []⟩]
def r_ast_each_api_Stmt_2 : List AOper := [
  ⟨some 9, .bin 0 .lss (.t 8) (.t 7), none, 0, []⟩]
def r_ast_each_api_Stmt_3 : List AOper := [
  ⟨some 10, .mv (.t 8), none, 0, []⟩,
  ⟨some 5, .mv (.t 10), none, 0, []⟩]
def r_ast_each_api_Stmt_4 : List AOper := [
  ⟨some 11, .mv (.t 1), none, 0, []⟩,
  ⟨some 12, .mv (.t 0), none, 0, []⟩,
  ⟨some 13, .mv (.t 5), none, 0, []⟩,
  ⟨some 14, .iad 10 (.t 12) (.t 13), none, 0, []⟩,
  ⟨some 15, .call false (.t 11) [.t 14], none, 0, []⟩,
  ⟨some 16, .un .not (.t 15), none, 0, []⟩]
def r_ast_each_api_Stmt_5 : List AOper := [
  ⟨some 4, .mv (.k (.bool false)), none, 0, []⟩]
def r_ast_each_api_Stmt_6 : List AOper := [
  ⟨some 17, .bin 0 .add (.t 8) (.k (.int .i64 1)), none, 0, []⟩,
  ⟨some 8, .mv (.t 17), none, 0, []⟩]
def r_ast_each_api_Stmt_7 : List AOper := [
  ⟨some 4, .mv (.k (.bool true)), none, 0, []⟩]
def c_ast_each_api_Stmt : AC :=
  (.seq
   (.reg false r_ast_each_api_Stmt_0 (some [0, 1]))
   (.seq
    (.seq
     (.reg false r_ast_each_api_Stmt_1 (some [0, 1, 7, 8]))
     (.block 0
      (.loop
       (.seq
        (.reg false r_ast_each_api_Stmt_2 (some [0, 1, 7, 8, 9]))
        (.seq
         (.cond (.t 9)
          .skip
          (.exit 0))
         (.seq
          (.block 1
           (.seq
            (.reg false r_ast_each_api_Stmt_3 (some [0, 1, 5, 7, 8]))
            (.seq
             (.reg false r_ast_each_api_Stmt_4 (some [0, 1, 7, 8, 16]))
             (.cond (.t 16)
              (.seq
               (.reg false r_ast_each_api_Stmt_5 (some [4]))
               .ret)
              .skip))))
          (.reg false r_ast_each_api_Stmt_6 (some [0, 1, 7, 8]))))))))
    (.seq
     (.reg false r_ast_each_api_Stmt_7 (some [4]))
     .ret)))
def f_ast_each_api_Stmt : AFun := ⟨2, [.tmp 4], c_ast_each_api_Stmt⟩

def r_ast_node_size_0 : List AOper := [
  ⟨some 1, .boxC (.t 0), none, 0, []⟩,
  ⟨some 2, .mv (.k (.int .i64 0)), none, 0, []⟩]
def r_ast_node_size_1 : List AOper := [
  ⟨some 3, .allocH [.int .i64 0], none, 0, []⟩,
  ⟨none, .stH 1 (.t 3) (.k (.int .i64 1)), none, 0, []⟩]
def r_ast_node_size_2 : List AOper := [
  ⟨some 5, .ldC (some 2) (.t 1), none, 0, []⟩,
  ⟨some 6, .call true (.k (.fn F.ast_node_children [] [])) [.t 5], none, 0, []⟩]
def r_ast_node_size_3 : List AOper := [
  ⟨some 4, .allocL 4 [.nptr, .nptr], none, 0, []⟩,
  ⟨none, .stL 2 (.t 4) (.t 7), none, 0, []⟩]
def r_ast_node_size_4 : List AOper := [
  ⟨some 8, .ldH (none) (.t 3) false, none, 0, []⟩,
  ⟨some 9, .ldL (some 2) (.t 4) false, none, 1, []⟩,
  ⟨some 10, .call true (.k (.fn F.ast_node_size [] [])) [.t 9], none, 2, [1]⟩,
  ⟨some 11, .bin 0 .add (.t 8) (.t 10), none, 3, [0, 1, 2]⟩,
  ⟨none, .stH 1 (.t 3) (.t 11), none, 4, [0, 1, 2, 3]⟩]
end Go.Lt
