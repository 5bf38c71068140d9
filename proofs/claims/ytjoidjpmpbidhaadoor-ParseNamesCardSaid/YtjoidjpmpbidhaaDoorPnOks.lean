/-
  The code that the machine holds is that of the translation: function by function, by computation.
-/
import Derived.Test.YtjoidjpmpbidhaaDoorPnCodeB
import Derived.Test.YtjoidjpmpbidhaaDoorLtI
import Derived.KernelRfl
import Derived.Test.YtjoidjpmpbidhaaDoorProg
set_option linter.all false
set_option maxRecDepth 100000
namespace Go.Lt
open Go Go.Proofs
theorem ok_law07_ParseNames : fnOk Tryd.prog false 7 f_law07_ParseNames = true := by unfold fnOk; rw [Tryd.func7]; kernel_rfl
theorem ok_ast_Check : fnOk Tryd.prog false 12 f_ast_Check = true := by unfold fnOk; rw [Tryd.func12]; kernel_rfl
theorem ok_ast_CheckExpr : fnOk Tryd.prog false 14 f_ast_CheckExpr = true := by unfold fnOk; rw [Tryd.func14]; kernel_rfl
theorem ok_ast_CheckStmt : fnOk Tryd.prog false 16 f_ast_CheckStmt = true := by unfold fnOk; rw [Tryd.func16]; kernel_rfl
theorem ok_ast_Width : fnOk Tryd.prog false 28 f_ast_Width = true := by unfold fnOk; rw [Tryd.func28]; kernel_rfl
theorem ok_law07_lives : fnOk Tryd.prog false 36 f_law07_lives = true := by unfold fnOk; rw [Tryd.func36]; kernel_rfl
theorem ok_parse_Expr : fnOk Tryd.prog false 37 f_parse_Expr = true := by unfold fnOk; rw [Tryd.func37]; kernel_rfl
theorem ok_kit_Expr : fnOk Tryd.prog false 38 f_kit_Expr = true := by unfold fnOk; rw [Tryd.func38]; kernel_rfl
theorem ok_parse_Level : fnOk Tryd.prog false 39 f_parse_Level = true := by unfold fnOk; rw [Tryd.func39]; kernel_rfl
theorem ok_parse_Parse : fnOk Tryd.prog false 40 f_parse_Parse = true := by unfold fnOk; rw [Tryd.func40]; kernel_rfl
theorem ok_ast_all : fnOk Tryd.prog false 44 f_ast_all = true := by unfold fnOk; rw [Tryd.func44]; kernel_rfl
theorem ok_ast_check : fnOk Tryd.prog false 45 f_ast_check = true := by unfold fnOk; rw [Tryd.func45]; kernel_rfl
theorem ok_ast_global : fnOk Tryd.prog false 46 f_ast_global = true := by unfold fnOk; rw [Tryd.func46]; kernel_rfl
theorem ok_ast_name : fnOk Tryd.prog false 47 f_ast_name = true := by unfold fnOk; rw [Tryd.func47]; kernel_rfl
theorem ok_ast_decl : fnOk Tryd.prog false 48 f_ast_decl = true := by unfold fnOk; rw [Tryd.func48]; kernel_rfl
theorem ok_ast_node_size : fnOk Tryd.prog false 56 f_ast_node_size = true := by unfold fnOk; rw [Tryd.func56]; kernel_rfl
theorem ok_ast_node_deep : fnOk Tryd.prog false 57 f_ast_node_deep = true := by unfold fnOk; rw [Tryd.func57]; kernel_rfl
theorem ok_ast_same : fnOk Tryd.prog false 68 f_ast_same = true := by unfold fnOk; rw [Tryd.func68]; kernel_rfl
theorem ok_parse_Stmts : fnOk Tryd.prog false 74 f_parse_Stmts = true := by unfold fnOk; rw [Tryd.func74]; kernel_rfl
theorem ok_law07_bin : fnOk Tryd.prog false 75 f_law07_bin = true := by unfold fnOk; rw [Tryd.func75]; kernel_rfl
theorem ok_law07_num : fnOk Tryd.prog false 76 f_law07_num = true := by unfold fnOk; rw [Tryd.func76]; kernel_rfl
theorem ok_parse_Expr_1 : fnOk Tryd.prog false 77 f_parse_Expr_1 = true := by unfold fnOk; rw [Tryd.func77]; kernel_rfl
theorem ok_parse_begin : fnOk Tryd.prog false 79 f_parse_begin = true := by unfold fnOk; rw [Tryd.func79]; kernel_rfl
theorem ok_parse_parser_expr : fnOk Tryd.prog false 80 f_parse_parser_expr = true := by unfold fnOk; rw [Tryd.func80]; kernel_rfl
theorem ok_parse_parser_end : fnOk Tryd.prog false 81 f_parse_parser_end = true := by unfold fnOk; rw [Tryd.func81]; kernel_rfl
theorem ok_parse_judge : fnOk Tryd.prog false 82 f_parse_judge = true := by unfold fnOk; rw [Tryd.func82]; kernel_rfl
theorem ok_kit_Exprs : fnOk Tryd.prog false 83 f_kit_Exprs = true := by unfold fnOk; rw [Tryd.func83]; kernel_rfl
theorem ok_parse_Parse_1 : fnOk Tryd.prog false 84 f_parse_Parse_1 = true := by unfold fnOk; rw [Tryd.func84]; kernel_rfl
theorem ok_parse_parser_must : fnOk Tryd.prog false 85 f_parse_parser_must = true := by unfold fnOk; rw [Tryd.func85]; kernel_rfl
theorem ok_parse_parser_number : fnOk Tryd.prog false 86 f_parse_parser_number = true := by unfold fnOk; rw [Tryd.func86]; kernel_rfl
theorem ok_parse_parser_isType : fnOk Tryd.prog false 87 f_parse_parser_isType = true := by unfold fnOk; rw [Tryd.func87]; kernel_rfl
theorem ok_parse_parser_declared : fnOk Tryd.prog false 88 f_parse_parser_declared = true := by unfold fnOk; rw [Tryd.func88]; kernel_rfl
theorem ok_parse_parser_is : fnOk Tryd.prog false 89 f_parse_parser_is = true := by unfold fnOk; rw [Tryd.func89]; kernel_rfl
theorem ok_parse_parser_gate : fnOk Tryd.prog false 90 f_parse_parser_gate = true := by unfold fnOk; rw [Tryd.func90]; kernel_rfl
theorem ok_parse_parser_decl : fnOk Tryd.prog false 91 f_parse_parser_decl = true := by unfold fnOk; rw [Tryd.func91]; kernel_rfl
theorem ok_ast_each_api_Stmt : fnOk Tryd.prog false 92 f_ast_each_api_Stmt = true := by unfold fnOk; rw [Tryd.func92]; kernel_rfl
theorem ok_ast_all_1 : fnOk Tryd.prog false 93 f_ast_all_1 = true := by unfold fnOk; rw [Tryd.func93]; kernel_rfl
theorem ok_ast_node_right : fnOk Tryd.prog false 94 f_ast_node_right = true := by unfold fnOk; rw [Tryd.func94]; kernel_rfl
theorem ok_lex_Kind : fnOk Tryd.prog false 95 f_lex_Kind = true := by unfold fnOk; rw [Tryd.func95]; kernel_rfl
theorem ok_slices_ContainsFunc_api_Param_api_Param : fnOk Tryd.prog false 96 f_slices_ContainsFunc_api_Param_api_Param = true := by unfold fnOk; rw [Tryd.func96]; kernel_rfl
theorem ok_ast_decl_1 : fnOk Tryd.prog false 97 f_ast_decl_1 = true := by unfold fnOk; rw [Tryd.func97]; kernel_rfl
theorem ok_ast_node_children : fnOk Tryd.prog false 103 f_ast_node_children = true := by unfold fnOk; rw [Tryd.func103]; kernel_rfl
theorem ok_parse_Stmts_1 : fnOk Tryd.prog false 104 f_parse_Stmts_1 = true := by unfold fnOk; rw [Tryd.func104]; kernel_rfl
theorem ok_parse_parser_stmt : fnOk Tryd.prog false 105 f_parse_parser_stmt = true := by unfold fnOk; rw [Tryd.func105]; kernel_rfl
theorem ok_lex_All : fnOk Tryd.prog false 106 f_lex_All = true := by unfold fnOk; rw [Tryd.func106]; kernel_rfl
theorem ok_lex_Line : fnOk Tryd.prog false 107 f_lex_Line = true := by unfold fnOk; rw [Tryd.func107]; kernel_rfl
theorem ok_parse_parser_unary : fnOk Tryd.prog false 108 f_parse_parser_unary = true := by unfold fnOk; rw [Tryd.func108]; kernel_rfl
theorem ok_parse_parser_may : fnOk Tryd.prog false 109 f_parse_parser_may = true := by unfold fnOk; rw [Tryd.func109]; kernel_rfl
theorem ok_parse_parser_wrong : fnOk Tryd.prog false 110 f_parse_parser_wrong = true := by unfold fnOk; rw [Tryd.func110]; kernel_rfl
theorem ok_parse_long : fnOk Tryd.prog false 111 f_parse_long = true := by unfold fnOk; rw [Tryd.func111]; kernel_rfl
theorem ok_parse_parser_now : fnOk Tryd.prog false 112 f_parse_parser_now = true := by unfold fnOk; rw [Tryd.func112]; kernel_rfl
theorem ok_parse_parser_typ : fnOk Tryd.prog false 113 f_parse_parser_typ = true := by unfold fnOk; rw [Tryd.func113]; kernel_rfl
theorem ok_parse_parser_name : fnOk Tryd.prog false 114 f_parse_parser_name = true := by unfold fnOk; rw [Tryd.func114]; kernel_rfl
theorem ok_parse_parser_block : fnOk Tryd.prog false 115 f_parse_parser_block = true := by unfold fnOk; rw [Tryd.func115]; kernel_rfl
theorem ok_ast_expr : fnOk Tryd.prog false 116 f_ast_expr = true := by unfold fnOk; rw [Tryd.func116]; kernel_rfl
theorem ok_ast_stmt : fnOk Tryd.prog false 117 f_ast_stmt = true := by unfold fnOk; rw [Tryd.func117]; kernel_rfl
theorem ok_lex_letter : fnOk Tryd.prog false 118 f_lex_letter = true := by unfold fnOk; rw [Tryd.func118]; kernel_rfl
theorem ok_lex_digit : fnOk Tryd.prog false 119 f_lex_digit = true := by unfold fnOk; rw [Tryd.func119]; kernel_rfl
theorem ok_slices_IndexFunc_api_Param_api_Param : fnOk Tryd.prog false 120 f_slices_IndexFunc_api_Param_api_Param = true := by unfold fnOk; rw [Tryd.func120]; kernel_rfl
theorem ok_ast_node_children_1 : fnOk Tryd.prog false 124 f_ast_node_children_1 = true := by unfold fnOk; rw [Tryd.func124]; kernel_rfl
theorem ok_ast_each_api_Expr : fnOk Tryd.prog false 125 f_ast_each_api_Expr = true := by unfold fnOk; rw [Tryd.func125]; kernel_rfl
theorem ok_ast_node_children_1_1 : fnOk Tryd.prog false 126 f_ast_node_children_1_1 = true := by unfold fnOk; rw [Tryd.func126]; kernel_rfl
theorem ok_ast_node_children_1_2 : fnOk Tryd.prog false 127 f_ast_node_children_1_2 = true := by unfold fnOk; rw [Tryd.func127]; kernel_rfl
theorem ok_ast_node_children_1_3 : fnOk Tryd.prog false 128 f_ast_node_children_1_3 = true := by unfold fnOk; rw [Tryd.func128]; kernel_rfl
theorem ok_ast_node_children_1_4 : fnOk Tryd.prog false 129 f_ast_node_children_1_4 = true := by unfold fnOk; rw [Tryd.func129]; kernel_rfl
theorem ok_ast_node_children_1_5 : fnOk Tryd.prog false 130 f_ast_node_children_1_5 = true := by unfold fnOk; rw [Tryd.func130]; kernel_rfl
theorem ok_parse_parser_one : fnOk Tryd.prog false 131 f_parse_parser_one = true := by unfold fnOk; rw [Tryd.func131]; kernel_rfl
theorem ok_parse_parser_test : fnOk Tryd.prog false 132 f_parse_parser_test = true := by unfold fnOk; rw [Tryd.func132]; kernel_rfl
theorem ok_parse_parser_args : fnOk Tryd.prog false 133 f_parse_parser_args = true := by unfold fnOk; rw [Tryd.func133]; kernel_rfl
theorem ok_lex_between : fnOk Tryd.prog false 134 f_lex_between = true := by unfold fnOk; rw [Tryd.func134]; kernel_rfl
theorem ok_lex_lexer_skip : fnOk Tryd.prog false 135 f_lex_lexer_skip = true := by unfold fnOk; rw [Tryd.func135]; kernel_rfl
theorem ok_parse_parser_primary : fnOk Tryd.prog false 136 f_parse_parser_primary = true := by unfold fnOk; rw [Tryd.func136]; kernel_rfl
theorem ok_word_Name : fnOk Tryd.prog false 137 f_word_Name = true := by unfold fnOk; rw [Tryd.func137]; kernel_rfl
theorem ok_ast_operator : fnOk Tryd.prog false 138 f_ast_operator = true := by unfold fnOk; rw [Tryd.func138]; kernel_rfl
theorem ok_ast_stmt_1 : fnOk Tryd.prog false 139 f_ast_stmt_1 = true := by unfold fnOk; rw [Tryd.func139]; kernel_rfl
theorem ok_slices_ContainsFunc_string_string : fnOk Tryd.prog false 140 f_slices_ContainsFunc_string_string = true := by unfold fnOk; rw [Tryd.func140]; kernel_rfl
theorem ok_ast_stmt_2 : fnOk Tryd.prog false 141 f_ast_stmt_2 = true := by unfold fnOk; rw [Tryd.func141]; kernel_rfl
theorem ok_lex_lexer_now : fnOk Tryd.prog false 142 f_lex_lexer_now = true := by unfold fnOk; rw [Tryd.func142]; kernel_rfl
theorem ok_strings_IndexByte : fnOk Tryd.prog false 143 f_strings_IndexByte = true := by unfold fnOk; rw [Tryd.func143]; kernel_rfl
theorem ok_lex_word : fnOk Tryd.prog false 144 f_lex_word = true := by unfold fnOk; rw [Tryd.func144]; kernel_rfl
theorem ok_lex_number : fnOk Tryd.prog false 145 f_lex_number = true := by unfold fnOk; rw [Tryd.func145]; kernel_rfl
theorem ok_lex_sign : fnOk Tryd.prog false 146 f_lex_sign = true := by unfold fnOk; rw [Tryd.func146]; kernel_rfl
theorem ok_slices_IndexFunc_string_string : fnOk Tryd.prog false 147 f_slices_IndexFunc_string_string = true := by unfold fnOk; rw [Tryd.func147]; kernel_rfl
theorem ok_internal_stringslite_IndexByte : fnOk Tryd.prog false 148 f_internal_stringslite_IndexByte = true := by unfold fnOk; rw [Tryd.func148]; kernel_rfl
theorem ok_lex_lexer_token : fnOk Tryd.prog false 149 f_lex_lexer_token = true := by unfold fnOk; rw [Tryd.func149]; kernel_rfl
theorem ok_lex_hex : fnOk Tryd.prog false 150 f_lex_hex = true := by unfold fnOk; rw [Tryd.func150]; kernel_rfl
theorem ok_strings_Contains : fnOk Tryd.prog false 151 f_strings_Contains = true := by unfold fnOk; rw [Tryd.func151]; kernel_rfl
theorem ok_strings_Index : fnOk Tryd.prog false 153 f_strings_Index = true := by unfold fnOk; rw [Tryd.func153]; kernel_rfl
theorem ok_internal_stringslite_Index : fnOk Tryd.prog false 154 f_internal_stringslite_Index = true := by unfold fnOk; rw [Tryd.func154]; kernel_rfl
theorem ok_internal_bytealg_Cutover : fnOk Tryd.prog false 156 f_internal_bytealg_Cutover = true := by unfold fnOk; rw [Tryd.func156]; kernel_rfl
theorem ok_internal_bytealg_IndexRabinKarp_string : fnOk Tryd.prog false 157 f_internal_bytealg_IndexRabinKarp_string = true := by unfold fnOk; rw [Tryd.func157]; kernel_rfl
theorem ok_internal_bytealg_hashStr_string : fnOk Tryd.prog false 158 f_internal_bytealg_hashStr_string = true := by unfold fnOk; rw [Tryd.func158]; kernel_rfl
theorem fnTree_ok : fnTree.All fun f af => fnOk Tryd.prog false f af = true :=
  ⟨⟨⟨⟨⟨⟨⟨trivial, ok_law07_ParseNames, trivial⟩, ok_ast_Check, trivial⟩, ok_ast_CheckExpr, ⟨⟨trivial, ok_ast_CheckStmt, trivial⟩, ok_ast_Width, trivial⟩⟩, ok_law07_lives, ⟨⟨⟨trivial, ok_parse_Expr, trivial⟩, ok_kit_Expr, trivial⟩, ok_parse_Level, ⟨⟨trivial, ok_parse_Parse, trivial⟩, ok_ast_all, trivial⟩⟩⟩, ok_ast_check, ⟨⟨⟨⟨trivial, ok_ast_global, trivial⟩, ok_ast_name, trivial⟩, ok_ast_decl, ⟨⟨trivial, ok_ast_node_size, trivial⟩, ok_ast_node_deep, trivial⟩⟩, ok_ast_same, ⟨⟨⟨trivial, ok_parse_Stmts, trivial⟩, ok_law07_bin, trivial⟩, ok_law07_num, ⟨⟨trivial, ok_parse_Expr_1, trivial⟩, ok_parse_begin, trivial⟩⟩⟩⟩, ok_parse_parser_expr, ⟨⟨⟨⟨⟨trivial, ok_parse_parser_end, trivial⟩, ok_parse_judge, trivial⟩, ok_kit_Exprs, ⟨⟨trivial, ok_parse_Parse_1, trivial⟩, ok_parse_parser_must, trivial⟩⟩, ok_parse_parser_number, ⟨⟨⟨trivial, ok_parse_parser_isType, trivial⟩, ok_parse_parser_declared, trivial⟩, ok_parse_parser_is, ⟨⟨trivial, ok_parse_parser_gate, trivial⟩, ok_parse_parser_decl, trivial⟩⟩⟩, ok_ast_each_api_Stmt, ⟨⟨⟨⟨trivial, ok_ast_all_1, trivial⟩, ok_ast_node_right, trivial⟩, ok_lex_Kind, ⟨⟨trivial, ok_slices_ContainsFunc_api_Param_api_Param, trivial⟩, ok_ast_decl_1, trivial⟩⟩, ok_ast_node_children, ⟨⟨⟨trivial, ok_parse_Stmts_1, trivial⟩, ok_parse_parser_stmt, trivial⟩, ok_lex_All, ⟨trivial, ok_lex_Line, trivial⟩⟩⟩⟩⟩, ok_parse_parser_unary, ⟨⟨⟨⟨⟨⟨trivial, ok_parse_parser_may, trivial⟩, ok_parse_parser_wrong, trivial⟩, ok_parse_long, ⟨⟨trivial, ok_parse_parser_now, trivial⟩, ok_parse_parser_typ, trivial⟩⟩, ok_parse_parser_name, ⟨⟨⟨trivial, ok_parse_parser_block, trivial⟩, ok_ast_expr, trivial⟩, ok_ast_stmt, ⟨⟨trivial, ok_lex_letter, trivial⟩, ok_lex_digit, trivial⟩⟩⟩, ok_slices_IndexFunc_api_Param_api_Param, ⟨⟨⟨⟨trivial, ok_ast_node_children_1, trivial⟩, ok_ast_each_api_Expr, trivial⟩, ok_ast_node_children_1_1, ⟨⟨trivial, ok_ast_node_children_1_2, trivial⟩, ok_ast_node_children_1_3, trivial⟩⟩, ok_ast_node_children_1_4, ⟨⟨⟨trivial, ok_ast_node_children_1_5, trivial⟩, ok_parse_parser_one, trivial⟩, ok_parse_parser_test, ⟨trivial, ok_parse_parser_args, trivial⟩⟩⟩⟩, ok_lex_between, ⟨⟨⟨⟨⟨trivial, ok_lex_lexer_skip, trivial⟩, ok_parse_parser_primary, trivial⟩, ok_word_Name, ⟨⟨trivial, ok_ast_operator, trivial⟩, ok_ast_stmt_1, trivial⟩⟩, ok_slices_ContainsFunc_string_string, ⟨⟨⟨trivial, ok_ast_stmt_2, trivial⟩, ok_lex_lexer_now, trivial⟩, ok_strings_IndexByte, ⟨⟨trivial, ok_lex_word, trivial⟩, ok_lex_number, trivial⟩⟩⟩, ok_lex_sign, ⟨⟨⟨⟨trivial, ok_slices_IndexFunc_string_string, trivial⟩, ok_internal_stringslite_IndexByte, trivial⟩, ok_lex_lexer_token, ⟨⟨trivial, ok_lex_hex, trivial⟩, ok_strings_Contains, trivial⟩⟩, ok_strings_Index, ⟨⟨⟨trivial, ok_internal_stringslite_Index, trivial⟩, ok_internal_bytealg_Cutover, trivial⟩, ok_internal_bytealg_IndexRabinKarp_string, ⟨trivial, ok_internal_bytealg_hashStr_string, trivial⟩⟩⟩⟩⟩⟩
end Go.Lt
