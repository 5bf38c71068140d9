/-
  Abstract code, printed by a program out of the translation.
-/
import Derived.Test.YtjoidjpmpbidhaaDoorPnCodeA
set_option linter.all false
set_option maxRecDepth 100000
namespace Go.Lt
def r_ast_node_size_5 : List AOper := [
  ⟨some 12, .ldH (none) (.t 3) false, none, 0, []⟩,
  ⟨some 2, .mv (.t 12), none, 0, []⟩]
def c_ast_node_size : AC :=
  (.seq
   (.reg false r_ast_node_size_0 (some [1]))
   (.seq
    (.reg false r_ast_node_size_1 (some [1, 3]))
    (.seq
     (.seq
      (.reg false r_ast_node_size_2 (some [3, 6]))
      (.block 0
       (.rangeF (.t 6) [7]
        (.reg false r_ast_node_size_3 (some [3, 4]))
        (.block 1
         (.reg true r_ast_node_size_4 (some [])))
       [3])))
     (.seq
      (.reg false r_ast_node_size_5 (some [2]))
      .ret))))
def f_ast_node_size : AFun := ⟨1, [.tmp 2], c_ast_node_size⟩

def r_ast_node_deep_0 : List AOper := [
  ⟨some 1, .boxC (.t 0), none, 0, []⟩,
  ⟨some 2, .mv (.k (.int .i64 0)), none, 0, []⟩]
def r_ast_node_deep_1 : List AOper := [
  ⟨some 3, .allocH [.int .i64 0], none, 0, []⟩,
  ⟨none, .stH 1 (.t 3) (.k (.int .i64 0)), none, 0, []⟩]
def r_ast_node_deep_2 : List AOper := [
  ⟨some 5, .ldC (some 2) (.t 1), none, 0, []⟩,
  ⟨some 6, .call true (.k (.fn F.ast_node_children [] [])) [.t 5], none, 0, []⟩]
def r_ast_node_deep_3 : List AOper := [
  ⟨some 4, .allocL 4 [.nptr, .nptr], none, 0, []⟩,
  ⟨none, .stL 2 (.t 4) (.t 7), none, 0, []⟩]
def r_ast_node_deep_4 : List AOper := [
  ⟨some 8, .ldH (none) (.t 3) false, none, 0, []⟩,
  ⟨some 9, .ldL (some 2) (.t 4) false, none, 1, []⟩,
  ⟨some 10, .call true (.k (.fn F.ast_node_deep [] [])) [.t 9], none, 2, [1]⟩,
  ⟨some 11, .mx (.t 8) [.t 10], none, 3, [0, 1, 2]⟩,
  ⟨none, .stH 1 (.t 3) (.t 11), none, 4, [0, 1, 2, 3]⟩]
def r_ast_node_deep_5 : List AOper := [
  ⟨some 12, .ldH (none) (.t 3) false, none, 0, []⟩,
  ⟨some 13, .bin 0 .add (.t 12) (.k (.int .i64 1)), none, 0, []⟩,
  ⟨some 2, .mv (.t 13), none, 0, []⟩]
def c_ast_node_deep : AC :=
  (.seq
   (.reg false r_ast_node_deep_0 (some [1]))
   (.seq
    (.reg false r_ast_node_deep_1 (some [1, 3]))
    (.seq
     (.seq
      (.reg false r_ast_node_deep_2 (some [3, 6]))
      (.block 0
       (.rangeF (.t 6) [7]
        (.reg false r_ast_node_deep_3 (some [3, 4]))
        (.block 1
         (.reg true r_ast_node_deep_4 (some [])))
       [3])))
     (.seq
      (.reg false r_ast_node_deep_5 (some [2]))
      .ret))))
def f_ast_node_deep : AFun := ⟨1, [.tmp 2], c_ast_node_deep⟩

def r_ast_node_right_0 : List AOper := [
  ⟨some 1, .boxC (.t 0), none, 0, []⟩,
  ⟨some 2, .allocH [.bool false], none, 0, []⟩]
def r_ast_node_right_1 : List AOper := [
  ⟨some 4, .fad 0 (.t 1), none, 0, []⟩,
  ⟨some 5, .ldC (none) (.t 4), none, 0, []⟩,
  ⟨some 6, .bin 2 .neq (.t 5) (.k (.nptr)), none, 0, []⟩,
  ⟨some 7, .mv (.t 6), none, 0, []⟩,
  ⟨some 8, .fad 0 (.t 1), some (7, true), 0, []⟩,
  ⟨some 9, .ldC (none) (.t 8), some (7, true), 0, []⟩,
  ⟨some 10, .call true (.k (.fn F.ast_expr [] [])) [.t 9], some (7, true), 0, []⟩,
  ⟨some 11, .un .not (.t 10), some (7, true), 0, []⟩,
  ⟨some 12, .pick (.t 7) (.t 11) (.k (.bool false)), none, 0, []⟩,
  ⟨some 13, .mv (.t 12), none, 0, []⟩,
  ⟨some 14, .fad 1 (.t 1), some (13, false), 0, []⟩,
  ⟨some 15, .ldC (none) (.t 14), some (13, false), 0, []⟩,
  ⟨some 16, .bin 2 .neq (.t 15) (.k (.nptr)), some (13, false), 0, []⟩,
  ⟨some 17, .mv (.t 16), some (13, false), 0, []⟩,
  ⟨some 18, .fad 1 (.t 1), some (17, true), 0, []⟩,
  ⟨some 19, .ldC (none) (.t 18), some (17, true), 0, []⟩,
  ⟨some 20, .call true (.k (.fn F.ast_stmt [] [])) [.t 19], some (17, true), 0, []⟩,
  ⟨some 21, .un .not (.t 20), some (17, true), 0, []⟩,
  ⟨some 22, .pick (.t 17) (.t 21) (.k (.bool false)), some (13, false), 0, []⟩,
  ⟨some 23, .pick (.t 13) (.k (.bool true)) (.t 22), none, 0, []⟩]
def r_ast_node_right_2 : List AOper := [
  ⟨none, .stH 1 (.t 2) (.k (.bool false)), none, 0, []⟩]
def r_ast_node_right_3 : List AOper := [
  ⟨some 24, .ldC (some 2) (.t 1), none, 0, []⟩,
  ⟨some 25, .call true (.k (.fn F.ast_node_children [] [])) [.t 24], none, 0, []⟩]
def r_ast_node_right_4 : List AOper := [
  ⟨some 3, .allocL 3 [.nptr, .nptr], none, 0, []⟩,
  ⟨none, .stL 2 (.t 3) (.t 26), none, 0, []⟩]
def r_ast_node_right_5 : List AOper := [
  ⟨some 27, .ldL (some 2) (.t 3) false, none, 0, []⟩,
  ⟨some 28, .call true (.k (.fn F.ast_node_right [] [])) [.t 27], none, 0, []⟩,
  ⟨some 29, .un .not (.t 28), none, 0, []⟩]
def r_ast_node_right_6 : List AOper := [
  ⟨none, .stH 1 (.t 2) (.k (.bool false)), none, 0, []⟩]
def r_ast_node_right_7 : List AOper := [
  ⟨none, .stH 1 (.t 2) (.k (.bool true)), none, 0, []⟩]
def c_ast_node_right : AC :=
  (.seq
   (.reg false r_ast_node_right_0 (some [1, 2]))
   (.seq
    (.seq
     (.reg false r_ast_node_right_1 (some [1, 2, 23]))
     (.cond (.t 23)
      (.seq
       (.reg false r_ast_node_right_2 (some [2]))
       .ret)
      .skip))
    (.seq
     (.seq
      (.reg false r_ast_node_right_3 (some [2, 25]))
      (.block 0
       (.rangeF (.t 25) [26]
        (.reg false r_ast_node_right_4 (some [2, 3]))
        (.block 1
         (.seq
          (.reg false r_ast_node_right_5 (some [2, 29]))
          (.cond (.t 29)
           (.seq
            (.reg false r_ast_node_right_6 (some [2]))
            .ret)
           .skip)))
       [2])))
     (.seq
      (.reg false r_ast_node_right_7 (some [2]))
      .ret))))
def f_ast_node_right : AFun := ⟨1, [.cell 2 (none)], c_ast_node_right⟩

def r_ast_Width_0 : List AOper := [
  ⟨some 2, .mv (.k (.int .i64 0)), none, 0, []⟩]
def r_ast_Width_1 : List AOper := [
  ⟨some 3, .mv (.t 0), none, 0, []⟩]
def r_ast_Width_2 : List AOper := [
  ⟨some 5, .bin 0 .eql (.t 3) (.k (.int .i64 1)), none, 0, []⟩,
  ⟨some 4, .mv (.t 5), none, 0, []⟩]
def r_ast_Width_3 : List AOper := [
  ⟨some 2, .mv (.k (.int .i64 8)), none, 0, []⟩]
def r_ast_Width_4 : List AOper := [
  ⟨some 7, .bin 0 .eql (.t 3) (.k (.int .i64 2)), none, 0, []⟩,
  ⟨some 6, .mv (.t 7), none, 0, []⟩]
def r_ast_Width_5 : List AOper := [
  ⟨some 2, .mv (.k (.int .i64 16)), none, 0, []⟩]
def r_ast_Width_6 : List AOper := [
  ⟨some 9, .bin 0 .eql (.t 3) (.k (.int .i64 3)), none, 0, []⟩,
  ⟨some 8, .mv (.t 9), none, 0, []⟩]
def r_ast_Width_7 : List AOper := [
  ⟨some 10, .bin 0 .eql (.t 3) (.k (.int .i64 4)), none, 0, []⟩,
  ⟨some 8, .mv (.t 10), none, 0, []⟩]
def r_ast_Width_8 : List AOper := [
  ⟨some 2, .mv (.k (.int .i64 32)), none, 0, []⟩]
def r_ast_Width_9 : List AOper := [
  ⟨some 2, .mv (.k (.int .i64 0)), none, 0, []⟩]
def c_ast_Width : AC :=
  (.seq
   (.reg false r_ast_Width_0 (some [0]))
   (.seq
    (.seq
     (.reg false r_ast_Width_1 (some [3]))
     (.block 0
      (.seq
       (.reg false r_ast_Width_2 (some [3, 4]))
       (.cond (.t 4)
        (.seq
         (.reg false r_ast_Width_3 (some [2]))
         .ret)
        (.seq
         (.reg false r_ast_Width_4 (some [3, 6]))
         (.cond (.t 6)
          (.seq
           (.reg false r_ast_Width_5 (some [2]))
           .ret)
          (.seq
           (.seq
            (.reg false r_ast_Width_6 (some [3, 8]))
            (.cond (.t 8)
             .skip
             (.reg false r_ast_Width_7 (some [8]))))
           (.cond (.t 8)
            (.seq
             (.reg false r_ast_Width_8 (some [2]))
             .ret)
            .skip))))))))
    (.seq
     (.reg false r_ast_Width_9 (some [2]))
     .ret)))
def f_ast_Width : AFun := ⟨1, [.tmp 2], c_ast_Width⟩

def r_lex_Kind_0 : List AOper := [
  ⟨some 2, .mv (.k (.int .i64 0)), none, 0, []⟩]
def r_lex_Kind_1 : List AOper := [
  ⟨some 6, .mv (.t 0), none, 0, []⟩,
  ⟨some 7, .bin 0 .eql (.t 6) (.k (.str [])), none, 0, []⟩,
  ⟨some 8, .mv (.t 7), none, 0, []⟩,
  ⟨some 9, .mv (.t 0), some (8, false), 0, []⟩,
  ⟨some 10, .ixs (.t 9) (.k (.int .i64 0)), some (8, false), 0, []⟩,
  ⟨some 11, .call true (.k (.fn F.lex_letter [] [])) [.t 10], some (8, false), 0, []⟩,
  ⟨some 12, .un .not (.t 11), some (8, false), 0, []⟩,
  ⟨some 13, .pick (.t 8) (.k (.bool true)) (.t 12), none, 0, []⟩]
def r_lex_Kind_2 : List AOper := [
  ⟨some 2, .mv (.k (.int .i64 0)), none, 0, []⟩]
def r_lex_Kind_3 : List AOper := [
  ⟨some 14, .mv (.t 0), none, 0, []⟩,
  ⟨some 15, .len 0 (.t 14), none, 0, []⟩,
  ⟨some 16, .mv (.k (.int .i64 0)), none, 0, []⟩]
def r_lex_Kind_4 : List AOper := [
  ⟨some 17, .bin 0 .lss (.t 16) (.t 15), none, 0, []⟩]
def r_lex_Kind_5 : List AOper := [
  ⟨some 18, .mv (.t 16), none, 0, []⟩,
  ⟨some 3, .mv (.t 18), none, 0, []⟩]
def r_lex_Kind_6 : List AOper := [
  ⟨some 19, .mv (.t 0), none, 0, []⟩,
  ⟨some 20, .mv (.t 3), none, 0, []⟩,
  ⟨some 21, .ixs (.t 19) (.t 20), none, 0, []⟩,
  ⟨some 22, .call true (.k (.fn F.lex_letter [] [])) [.t 21], none, 0, []⟩,
  ⟨some 23, .un .not (.t 22), none, 0, []⟩,
  ⟨some 24, .mv (.t 23), none, 0, []⟩,
  ⟨some 25, .mv (.t 0), some (24, true), 0, []⟩,
  ⟨some 26, .mv (.t 3), some (24, true), 0, []⟩,
  ⟨some 27, .ixs (.t 25) (.t 26), some (24, true), 0, []⟩,
  ⟨some 28, .call true (.k (.fn F.lex_digit [] [])) [.t 27], some (24, true), 0, []⟩,
  ⟨some 29, .un .not (.t 28), some (24, true), 0, []⟩,
  ⟨some 30, .pick (.t 24) (.t 29) (.k (.bool false)), none, 0, []⟩]
def r_lex_Kind_7 : List AOper := [
  ⟨some 2, .mv (.k (.int .i64 0)), none, 0, []⟩]
def r_lex_Kind_8 : List AOper := [
  ⟨some 31, .bin 0 .add (.t 16) (.k (.int .i64 1)), none, 0, []⟩,
  ⟨some 16, .mv (.t 31), none, 0, []⟩]
def r_lex_Kind_9 : List AOper := [
  ⟨some 33, .ldC (none) (.g Gl.lex_keys), none, 0, []⟩,
  ⟨some 34, .mv (.t 0), none, 0, []⟩,
  ⟨some 35, .lkpC 0 true (.agg []) (.t 33) (.t 34), none, 0, []⟩,
  ⟨some 32, .mv (.t 35), none, 0, []⟩,
  ⟨some 36, .ext (.t 32) 0, none, 0, []⟩,
  ⟨some 37, .ext (.t 32) 1, none, 0, []⟩,
  ⟨some 4, .allocL 4 [], none, 0, []⟩,
  ⟨none, .stL 0 (.t 4) (.t 36), none, 0, []⟩,
  ⟨some 5, .mv (.t 37), none, 0, []⟩]
def r_lex_Kind_10 : List AOper := [
  ⟨some 38, .mv (.t 5), none, 0, []⟩]
def r_lex_Kind_11 : List AOper := [
  ⟨some 2, .mv (.k (.int .i64 2)), none, 0, []⟩]
def r_lex_Kind_12 : List AOper := [
  ⟨some 2, .mv (.k (.int .i64 1)), none, 0, []⟩]
def c_lex_Kind : AC :=
  (.seq
   (.reg false r_lex_Kind_0 (some [0]))
   (.seq
    (.seq
     (.reg false r_lex_Kind_1 (some [0, 13]))
     (.cond (.t 13)
      (.seq
       (.reg false r_lex_Kind_2 (some [2]))
       .ret)
      .skip))
    (.seq
     (.seq
      (.reg false r_lex_Kind_3 (some [0, 15, 16]))
      (.block 0
       (.loop
        (.seq
         (.reg false r_lex_Kind_4 (some [0, 15, 16, 17]))
         (.seq
          (.cond (.t 17)
           .skip
           (.exit 0))
          (.seq
           (.block 1
            (.seq
             (.reg false r_lex_Kind_5 (some [0, 3, 15, 16]))
             (.seq
              (.reg false r_lex_Kind_6 (some [0, 15, 16, 30]))
              (.cond (.t 30)
               (.seq
                (.reg false r_lex_Kind_7 (some [2]))
                .ret)
               .skip))))
           (.reg false r_lex_Kind_8 (some [0, 15, 16]))))))))
     (.seq
      (.seq
       (.reg false r_lex_Kind_9 (some [5]))
       (.seq
        (.reg false r_lex_Kind_10 (some [38]))
        (.cond (.t 38)
         (.seq
          (.reg false r_lex_Kind_11 (some [2]))
          .ret)
         .skip)))
      (.seq
       (.reg false r_lex_Kind_12 (some [2]))
       .ret)))))
def f_lex_Kind : AFun := ⟨1, [.tmp 2], c_lex_Kind⟩

def r_slices_ContainsFunc_api_Param_api_Param_0 : List AOper := [
  ⟨some 4, .mv (.k (.bool false)), none, 0, []⟩]
def r_slices_ContainsFunc_api_Param_api_Param_1 : List AOper := [
  ⟨some 5, .mv (.t 0), none, 0, []⟩,
  ⟨some 6, .mv (.t 1), none, 0, []⟩,
  ⟨some 7, .call false (.k (.fn F.slices_IndexFunc_api_Param_api_Param [] [])) [.t 5, .t 6], none, 0, []⟩,
  ⟨some 8, .bin 0 .geq (.t 7) (.k (.int .i64 0)), none, 0, []⟩,
  ⟨some 4, .mv (.t 8), none, 0, []⟩]
def c_slices_ContainsFunc_api_Param_api_Param : AC :=
  (.seq
   (.reg false r_slices_ContainsFunc_api_Param_api_Param_0 (some [0, 1]))
   (.seq
    (.reg false r_slices_ContainsFunc_api_Param_api_Param_1 (some [4]))
    .ret))
def f_slices_ContainsFunc_api_Param_api_Param : AFun := ⟨2, [.tmp 4], c_slices_ContainsFunc_api_Param_api_Param⟩

def r_ast_decl_1_0 : List AOper := [
  ⟨some 1, .boxC (.t 0), none, 0, []⟩,
  ⟨some 2, .mv (.k (.bool false)), none, 0, []⟩]
def r_ast_decl_1_1 : List AOper := [
  ⟨some 3, .fad 0 (.t 1), none, 0, []⟩,
  ⟨some 4, .ldC (none) (.t 3), none, 0, []⟩,
  ⟨some 5, .call true (.k (.fn F.ast_name [] [])) [.t 4], none, 0, []⟩,
  ⟨some 6, .un .not (.t 5), none, 0, []⟩,
  ⟨some 7, .mv (.t 6), none, 0, []⟩,
  ⟨some 8, .fad 1 (.t 1), some (7, false), 0, []⟩,
  ⟨some 9, .ldC (none) (.t 8), some (7, false), 0, []⟩,
  ⟨some 10, .call true (.k (.fn F.ast_Width [] [])) [.t 9], some (7, false), 0, []⟩,
  ⟨some 11, .bin 0 .eql (.t 10) (.k (.int .i64 0)), some (7, false), 0, []⟩,
  ⟨some 12, .pick (.t 7) (.k (.bool true)) (.t 11), none, 0, []⟩,
  ⟨some 2, .mv (.t 12), none, 0, []⟩]
def c_ast_decl_1 : AC :=
  (.seq
   (.reg false r_ast_decl_1_0 (some [1]))
   (.seq
    (.reg false r_ast_decl_1_1 (some [2]))
    .ret))
def f_ast_decl_1 : AFun := ⟨1, [.tmp 2], c_ast_decl_1⟩

def r_parse_parser_unary_0 : List AOper := [
  ⟨some 2, .allocL 2 [.int .i64 0, .int .i64 0, .int .i64 0, .int .u32 0, .str [], .sl true []], none, 0, []⟩]
def r_parse_parser_unary_1 : List AOper := [
  ⟨some 5, .build [.str [], .str [], .str [], .str []] [(1, 1, .k (.str [45])), (2, 1, .k (.str [126])), (3, 1, .k (.str [33]))], none, 0, []⟩,
  ⟨some 6, .mv (.k (.int .i64 0)), none, 0, []⟩]
def r_parse_parser_unary_2 : List AOper := [
  ⟨some 7, .bin 0 .lss (.t 6) (.k (.int .i64 4)), none, 0, []⟩]
def r_parse_parser_unary_3 : List AOper := [
  ⟨some 8, .mv (.t 6), none, 0, []⟩,
  ⟨some 9, .ixa 4 1 (none) (.t 5) (.t 6), none, 0, []⟩,
  ⟨some 3, .mv (.t 8), none, 0, []⟩,
  ⟨some 4, .mv (.t 9), none, 0, []⟩]
def r_parse_parser_unary_4 : List AOper := [
  ⟨some 10, .mv (.t 4), none, 0, []⟩,
  ⟨some 11, .bin 0 .neq (.t 10) (.k (.str [])), none, 0, []⟩,
  ⟨some 12, .mv (.t 11), none, 0, []⟩,
  ⟨some 13, .mv (.t 0), some (12, true), 0, []⟩,
  ⟨some 14, .mv (.t 4), some (12, true), 0, []⟩,
  ⟨some 15, .call false (.k (.fn F.parse_parser_may [] [])) [.t 13, .t 14], some (12, true), 0, []⟩,
  ⟨some 16, .pick (.t 12) (.t 15) (.k (.bool false)), none, 0, []⟩]
def r_parse_parser_unary_5 : List AOper := [
  ⟨some 17, .mv (.t 3), none, 0, []⟩,
  ⟨some 18, .mv (.t 0), none, 0, []⟩,
  ⟨some 19, .call false (.k (.fn F.parse_parser_unary [] [])) [.t 18], none, 0, []⟩,
  ⟨some 20, .bsl 1 6 (.agg [.int .i64 0, .int .i64 0, .int .i64 0, .int .u32 0, .str [], .sl true []]) [(0, .t 19)], none, 0, []⟩,
  ⟨some 21, .build [.int .i64 0, .int .i64 0, .int .i64 0, .int .u32 0, .str [], .sl true []] [(0, 1, .k (.int .i64 5)), (1, 1, .t 17), (5, 1, .t 20)], none, 0, []⟩,
  ⟨none, .stL 6 (.t 2) (.t 21), none, 0, []⟩]
def r_parse_parser_unary_6 : List AOper := [
  ⟨some 22, .bin 0 .add (.t 6) (.k (.int .i64 1)), none, 0, []⟩,
  ⟨some 6, .mv (.t 22), none, 0, []⟩]
def r_parse_parser_unary_7 : List AOper := [
  ⟨some 23, .mv (.t 0), none, 0, []⟩,
  ⟨some 24, .call false (.k (.fn F.parse_parser_primary [] [])) [.t 23], none, 0, []⟩,
  ⟨none, .stL 6 (.t 2) (.t 24), none, 0, []⟩]
def c_parse_parser_unary : AC :=
  (.seq
   (.reg false r_parse_parser_unary_0 (some [0, 2]))
   (.seq
    (.seq
     (.reg false r_parse_parser_unary_1 (some [0, 2, 5, 6]))
     (.block 0
      (.loop
       (.seq
        (.reg false r_parse_parser_unary_2 (some [0, 2, 5, 6, 7]))
        (.seq
         (.cond (.t 7)
          .skip
          (.exit 0))
         (.seq
          (.block 1
           (.seq
            (.reg false r_parse_parser_unary_3 (some [0, 2, 3, 4, 5, 6]))
            (.seq
             (.reg false r_parse_parser_unary_4 (some [0, 2, 3, 5, 6, 16]))
             (.cond (.t 16)
              (.seq
               (.reg false r_parse_parser_unary_5 (some [2]))
               .ret)
              .skip))))
          (.reg false r_parse_parser_unary_6 (some [0, 2, 5, 6]))))))))
    (.seq
     (.reg false r_parse_parser_unary_7 (some [2]))
     .ret)))
def f_parse_parser_unary : AFun := ⟨1, [.cell 2 (some 6)], c_parse_parser_unary⟩

def r_parse_parser_one_0 : List AOper := [
  ⟨some 2, .mv (.k (.sl true [])), none, 0, []⟩]
def r_parse_parser_one_1 : List AOper := [
  ⟨some 3, .mv (.t 0), none, 0, []⟩,
  ⟨some 4, .call false (.k (.fn F.parse_parser_expr [] [])) [.t 3, .k (.int .i64 1)], none, 0, []⟩,
  ⟨some 5, .bsl 1 6 (.agg [.int .i64 0, .int .i64 0, .int .i64 0, .int .u32 0, .str [], .sl true []]) [(0, .t 4)], none, 0, []⟩,
  ⟨some 2, .mv (.t 5), none, 0, []⟩]
def c_parse_parser_one : AC :=
  (.seq
   (.reg false r_parse_parser_one_0 (some [0]))
   (.seq
    (.reg false r_parse_parser_one_1 (some [2]))
    .ret))
def f_parse_parser_one : AFun := ⟨1, [.tmp 2], c_parse_parser_one⟩

def r_parse_parser_test_0 : List AOper := [
  ⟨some 2, .mv (.k (.sl true [])), none, 0, []⟩]
def r_parse_parser_test_1 : List AOper := [
  ⟨some 4, .mv (.t 0), none, 0, []⟩,
  ⟨some 5, .call false (.k (.fn F.parse_parser_must [] [])) [.t 4, .k (.str [40])], none, 0, []⟩]
def r_parse_parser_test_2 : List AOper := [
  ⟨some 6, .mv (.t 0), none, 0, []⟩,
  ⟨some 7, .call false (.k (.fn F.parse_parser_one [] [])) [.t 6], none, 0, []⟩,
  ⟨some 3, .mv (.t 7), none, 0, []⟩]
def r_parse_parser_test_3 : List AOper := [
  ⟨some 8, .mv (.t 0), none, 0, []⟩,
  ⟨some 9, .call false (.k (.fn F.parse_parser_must [] [])) [.t 8, .k (.str [41])], none, 0, []⟩]
def r_parse_parser_test_4 : List AOper := [
  ⟨some 10, .mv (.t 3), none, 0, []⟩,
  ⟨some 2, .mv (.t 10), none, 0, []⟩]
def c_parse_parser_test : AC :=
  (.seq
   (.reg false r_parse_parser_test_0 (some [0]))
   (.seq
    (.reg false r_parse_parser_test_1 (some [0]))
    (.seq
     (.reg false r_parse_parser_test_2 (some [0, 3]))
     (.seq
      (.reg false r_parse_parser_test_3 (some [3]))
      (.seq
       (.reg false r_parse_parser_test_4 (some [2]))
       .ret)))))
def f_parse_parser_test : AFun := ⟨1, [.tmp 2], c_parse_parser_test⟩

def r_parse_parser_args_0 : List AOper := [
  ⟨some 2, .mv (.k (.sl true [])), none, 0, []⟩]
def r_parse_parser_args_1 : List AOper := [
  ⟨some 3, .mv (.t 0), none, 0, []⟩,
  ⟨some 4, .call false (.k (.fn F.parse_parser_may [] [])) [.t 3, .k (.str [41])], none, 0, []⟩]
def r_parse_parser_args_2 : List AOper := [
  ⟨some 2, .mv (.k (.sl true [])), none, 0, []⟩]
def r_parse_parser_args_3 : List AOper := [
  ⟨some 5, .mv (.tk 2), none, 0, []⟩,
  ⟨some 6, .mv (.t 0), none, 0, []⟩,
  ⟨some 7, .call false (.k (.fn F.parse_parser_expr [] [])) [.t 6, .k (.int .i64 1)], none, 0, []⟩,
  ⟨some 8, .bsl 1 6 (.agg [.int .i64 0, .int .i64 0, .int .i64 0, .int .u32 0, .str [], .sl true []]) [(0, .t 7)], none, 0, []⟩,
  ⟨some 9, .app 6 (.tk 5) (.t 8), none, 0, []⟩,
  ⟨some 2, .mv (.tk 9), none, 0, []⟩]
def r_parse_parser_args_4 : List AOper := [
  ⟨some 10, .mv (.t 0), none, 0, []⟩,
  ⟨some 11, .call false (.k (.fn F.parse_parser_may [] [])) [.t 10, .k (.str [44])], none, 0, []⟩]
def r_parse_parser_args_5 : List AOper := [
  ⟨some 12, .mv (.tk 2), none, 0, []⟩,
  ⟨some 13, .mv (.t 0), none, 0, []⟩,
  ⟨some 14, .call false (.k (.fn F.parse_parser_expr [] [])) [.t 13, .k (.int .i64 1)], none, 0, []⟩,
  ⟨some 15, .bsl 1 6 (.agg [.int .i64 0, .int .i64 0, .int .i64 0, .int .u32 0, .str [], .sl true []]) [(0, .t 14)], none, 0, []⟩,
  ⟨some 16, .app 6 (.tk 12) (.t 15), none, 0, []⟩,
  ⟨some 2, .mv (.tk 16), none, 0, []⟩]
def r_parse_parser_args_6 : List AOper := [
  ⟨some 17, .mv (.t 0), none, 0, []⟩,
  ⟨some 18, .call false (.k (.fn F.parse_parser_must [] [])) [.t 17, .k (.str [41])], none, 0, []⟩]
def r_parse_parser_args_7 : List AOper := [
  ⟨some 19, .mv (.t 2), none, 0, []⟩,
  ⟨some 2, .mv (.t 19), none, 0, []⟩]
def c_parse_parser_args : AC :=
  (.seq
   (.reg false r_parse_parser_args_0 (some [0, 2]))
   (.seq
    (.seq
     (.reg false r_parse_parser_args_1 (some [0, 2, 4]))
     (.cond (.t 4)
      (.seq
       (.reg false r_parse_parser_args_2 (some [2]))
       .ret)
      .skip))
    (.seq
     (.reg false r_parse_parser_args_3 (some [0, 2]))
     (.seq
      (.block 0
       (.loop
        (.seq
         (.seq
          (.reg false r_parse_parser_args_4 (some [0, 2, 11]))
          (.cond (.t 11)
           .skip
           (.exit 0)))
         (.block 1
          (.reg false r_parse_parser_args_5 (some [0, 2]))))))
      (.seq
       (.reg false r_parse_parser_args_6 (some [2]))
       (.seq
        (.reg false r_parse_parser_args_7 (some [2]))
        .ret))))))
def f_parse_parser_args : AFun := ⟨1, [.tmp 2], c_parse_parser_args⟩

def r_lex_lexer_now_0 : List AOper := [
  ⟨some 4, .mv (.k (.int .u8 0)), none, 0, []⟩]
def r_lex_lexer_now_1 : List AOper := [
  ⟨some 5, .mv (.t 0), none, 0, []⟩,
  ⟨some 6, .nilck (.t 5), none, 1, [0]⟩,
  ⟨some 7, .fad 1 (.t 6), none, 2, [0, 1]⟩,
  ⟨some 8, .ldH (none) (.t 7) false, none, 3, [0, 1, 2]⟩,
  ⟨some 9, .mv (.t 1), none, 4, []⟩,
  ⟨some 10, .bin 0 .add (.t 8) (.t 9), none, 5, [0, 1, 2, 3, 4]⟩,
  ⟨some 11, .mv (.t 0), none, 6, []⟩,
  ⟨some 12, .nilck (.t 11), none, 7, [6]⟩,
  ⟨some 13, .fad 0 (.t 12), none, 8, [6, 7]⟩,
  ⟨some 14, .ldH (none) (.t 13) false, none, 9, [6, 7, 8]⟩,
  ⟨some 15, .len 0 (.t 14), none, 10, [6, 7, 8, 9]⟩,
  ⟨some 16, .bin 0 .lss (.t 10) (.t 15), none, 11, [0, 1, 2, 3, 4, 5, 6, 7, 8, 9, 10]⟩]
def r_lex_lexer_now_2 : List AOper := [
  ⟨some 17, .mv (.t 0), none, 0, []⟩,
  ⟨some 18, .nilck (.t 17), none, 1, [0]⟩,
  ⟨some 19, .fad 0 (.t 18), none, 2, [0, 1]⟩,
  ⟨some 20, .ldH (none) (.t 19) false, none, 3, [0, 1, 2]⟩,
  ⟨some 21, .mv (.t 0), none, 4, []⟩,
  ⟨some 22, .nilck (.t 21), none, 5, [4]⟩,
  ⟨some 23, .fad 1 (.t 22), none, 6, [4, 5]⟩,
  ⟨some 24, .ldH (none) (.t 23) false, none, 7, [4, 5, 6]⟩,
  ⟨some 25, .mv (.t 1), none, 8, []⟩,
  ⟨some 26, .bin 0 .add (.t 24) (.t 25), none, 9, [4, 5, 6, 7, 8]⟩,
  ⟨some 27, .ixs (.t 20) (.t 26), none, 10, [0, 1, 2, 3, 4, 5, 6, 7, 8, 9]⟩,
  ⟨some 4, .mv (.t 27), none, 11, [0, 1, 2, 3, 4, 5, 6, 7, 8, 9, 10]⟩]
def r_lex_lexer_now_3 : List AOper := [
  ⟨some 4, .mv (.k (.int .u8 0)), none, 0, []⟩]
def c_lex_lexer_now : AC :=
  (.seq
   (.reg false r_lex_lexer_now_0 (some [0, 1]))
   (.seq
    (.seq
     (.reg true r_lex_lexer_now_1 (some [0, 1, 16]))
     (.cond (.t 16)
      (.seq
       (.reg true r_lex_lexer_now_2 (some [4]))
       .ret)
      .skip))
    (.seq
     (.reg false r_lex_lexer_now_3 (some [4]))
     .ret)))
def f_lex_lexer_now : AFun := ⟨2, [.tmp 4], c_lex_lexer_now⟩

def r_strings_IndexByte_0 : List AOper := [
  ⟨some 4, .mv (.k (.int .i64 0)), none, 0, []⟩]
def r_strings_IndexByte_1 : List AOper := [
  ⟨some 5, .mv (.t 0), none, 0, []⟩,
  ⟨some 6, .mv (.t 1), none, 0, []⟩,
  ⟨some 7, .call true (.k (.fn F.internal_stringslite_IndexByte [] [])) [.t 5, .t 6], none, 0, []⟩,
  ⟨some 4, .mv (.t 7), none, 0, []⟩]
def c_strings_IndexByte : AC :=
  (.seq
   (.reg false r_strings_IndexByte_0 (some [0, 1]))
   (.seq
    (.reg false r_strings_IndexByte_1 (some [4]))
    .ret))
def f_strings_IndexByte : AFun := ⟨2, [.tmp 4], c_strings_IndexByte⟩

def r_lex_letter_0 : List AOper := [
  ⟨some 2, .mv (.k (.bool false)), none, 0, []⟩]
def r_lex_letter_1 : List AOper := [
  ⟨some 3, .mv (.t 0), none, 0, []⟩,
  ⟨some 4, .bin 0 .geq (.t 3) (.k (.int .u8 97)), none, 0, []⟩,
  ⟨some 5, .mv (.t 4), none, 0, []⟩,
  ⟨some 6, .mv (.t 0), some (5, true), 0, []⟩,
  ⟨some 7, .bin 0 .leq (.t 6) (.k (.int .u8 122)), some (5, true), 0, []⟩,
  ⟨some 8, .pick (.t 5) (.t 7) (.k (.bool false)), none, 0, []⟩,
  ⟨some 9, .mv (.t 8), none, 0, []⟩,
  ⟨some 10, .mv (.t 0), some (9, false), 0, []⟩,
  ⟨some 11, .bin 0 .eql (.t 10) (.k (.int .u8 95)), some (9, false), 0, []⟩,
  ⟨some 12, .pick (.t 9) (.k (.bool true)) (.t 11), none, 0, []⟩,
  ⟨some 2, .mv (.t 12), none, 0, []⟩]
def c_lex_letter : AC :=
  (.seq
   (.reg false r_lex_letter_0 (some [0]))
   (.seq
    (.reg false r_lex_letter_1 (some [2]))
    .ret))
def f_lex_letter : AFun := ⟨1, [.tmp 2], c_lex_letter⟩

def r_lex_word_0 : List AOper := [
  ⟨some 2, .mv (.k (.nfn)), none, 0, []⟩]
def r_lex_word_1 : List AOper := [
  ⟨some 3, .mv (.k (.int .i64 1)), none, 0, []⟩]
def r_lex_word_2 : List AOper := [
  ⟨some 4, .mv (.t 0), none, 0, []⟩,
  ⟨some 5, .mv (.t 3), none, 0, []⟩,
  ⟨some 6, .call false (.k (.fn F.lex_lexer_now [] [])) [.t 4, .t 5], none, 0, []⟩,
  ⟨some 7, .call true (.k (.fn F.lex_letter [] [])) [.t 6], none, 0, []⟩,
  ⟨some 8, .mv (.t 7), none, 0, []⟩,
  ⟨some 9, .mv (.t 0), some (8, false), 0, []⟩,
  ⟨some 10, .mv (.t 3), some (8, false), 0, []⟩,
  ⟨some 11, .call false (.k (.fn F.lex_lexer_now [] [])) [.t 9, .t 10], some (8, false), 0, []⟩,
  ⟨some 12, .call true (.k (.fn F.lex_digit [] [])) [.t 11], some (8, false), 0, []⟩,
  ⟨some 13, .pick (.t 8) (.k (.bool true)) (.t 12), none, 0, []⟩]
def r_lex_word_3 : List AOper := [
  ⟨some 14, .mv (.t 3), none, 0, []⟩,
  ⟨some 15, .bin 0 .add (.t 14) (.k (.int .i64 1)), none, 0, []⟩,
  ⟨some 3, .mv (.t 15), none, 0, []⟩]
def r_lex_word_4 : List AOper := [
  ⟨some 16, .mv (.t 0), none, 0, []⟩,
  ⟨some 17, .mv (.t 0), none, 1, []⟩,
  ⟨some 18, .nilck (.t 17), none, 2, [1]⟩,
  ⟨some 19, .fad 0 (.t 18), none, 3, [1, 2]⟩,
  ⟨some 20, .ldH (none) (.t 19) false, none, 4, [1, 2, 3]⟩,
  ⟨some 21, .mv (.t 0), none, 5, []⟩,
  ⟨some 22, .nilck (.t 21), none, 6, [5]⟩,
  ⟨some 23, .fad 1 (.t 22), none, 7, [5, 6]⟩,
  ⟨some 24, .ldH (none) (.t 23) false, none, 8, [5, 6, 7]⟩,
  ⟨some 25, .mv (.t 0), none, 9, []⟩,
  ⟨some 26, .nilck (.t 25), none, 10, [9]⟩,
  ⟨some 27, .fad 1 (.t 26), none, 11, [9, 10]⟩,
  ⟨some 28, .ldH (none) (.t 27) false, none, 12, [9, 10, 11]⟩,
  ⟨some 29, .mv (.t 3), none, 13, []⟩,
  ⟨some 30, .bin 0 .add (.t 28) (.t 29), none, 14, [9, 10, 11, 12, 13]⟩,
  ⟨some 31, .sls (.t 20) (some (.t 24)) (some (.t 30)), none, 15, [1, 2, 3, 4, 5, 6, 7, 8, 9, 10, 11, 12, 13, 14]⟩,
  ⟨some 33, .mv (.t 3), none, 17, []⟩,
  ⟨some 32, .call true (.k (.fn F.lex_Kind [] [])) [.t 31], none, 16, [1, 2, 3, 4, 5, 6, 7, 8, 9, 10, 11, 12, 13, 14, 15]⟩,
  ⟨some 34, .call false (.k (.fn F.lex_lexer_token [] [])) [.t 16, .t 32, .t 33, .k (.int .u32 0)], none, 18, [0, 1, 2, 3, 4, 5, 6, 7, 8, 9, 10, 11, 12, 13, 14, 15, 16, 17]⟩]
def r_lex_word_5 : List AOper := [
  ⟨some 2, .mv (.k (.fn F.lex_between [] [])), none, 0, []⟩]
def c_lex_word : AC :=
  (.seq
   (.reg false r_lex_word_0 (some [0]))
   (.seq
    (.reg false r_lex_word_1 (some [0, 3]))
    (.seq
     (.block 0
      (.loop
       (.seq
        (.seq
         (.reg false r_lex_word_2 (some [0, 3, 13]))
         (.cond (.t 13)
          .skip
          (.exit 0)))
        (.block 1
         (.reg false r_lex_word_3 (some [0, 3]))))))
     (.seq
      (.reg true r_lex_word_4 (some []))
      (.seq
       (.reg false r_lex_word_5 (some [2]))
       .ret)))))
def f_lex_word : AFun := ⟨1, [.tmp 2], c_lex_word⟩

def r_lex_digit_0 : List AOper := [
  ⟨some 2, .mv (.k (.bool false)), none, 0, []⟩]
def r_lex_digit_1 : List AOper := [
  ⟨some 3, .mv (.t 0), none, 0, []⟩,
  ⟨some 4, .bin 0 .geq (.t 3) (.k (.int .u8 48)), none, 0, []⟩,
  ⟨some 5, .mv (.t 4), none, 0, []⟩,
  ⟨some 6, .mv (.t 0), some (5, true), 0, []⟩,
  ⟨some 7, .bin 0 .leq (.t 6) (.k (.int .u8 57)), some (5, true), 0, []⟩,
  ⟨some 8, .pick (.t 5) (.t 7) (.k (.bool false)), none, 0, []⟩,
  ⟨some 2, .mv (.t 8), none, 0, []⟩]
def c_lex_digit : AC :=
  (.seq
   (.reg false r_lex_digit_0 (some [0]))
   (.seq
    (.reg false r_lex_digit_1 (some [2]))
    .ret))
def f_lex_digit : AFun := ⟨1, [.tmp 2], c_lex_digit⟩

def r_lex_number_0 : List AOper := [
  ⟨some 2, .mv (.k (.nfn)), none, 0, []⟩]
def r_lex_number_1 : List AOper := [
  ⟨some 3, .mv (.k (.int .i64 0)), none, 0, []⟩,
  ⟨some 4, .mv (.k (.int .u64 10)), none, 0, []⟩,
  ⟨some 5, .mv (.k (.int .i64 0)), none, 0, []⟩,
  ⟨some 6, .mv (.k (.int .u64 0)), none, 0, []⟩]
def r_lex_number_2 : List AOper := [
  ⟨some 10, .mv (.t 0), none, 0, []⟩,
  ⟨some 11, .call false (.k (.fn F.lex_lexer_now [] [])) [.t 10, .k (.int .i64 0)], none, 0, []⟩,
  ⟨some 12, .bin 0 .eql (.t 11) (.k (.int .u8 48)), none, 0, []⟩,
  ⟨some 13, .mv (.t 12), none, 0, []⟩,
  ⟨some 14, .mv (.t 0), some (13, true), 0, []⟩,
  ⟨some 15, .call false (.k (.fn F.lex_lexer_now [] [])) [.t 14, .k (.int .i64 1)], some (13, true), 0, []⟩,
  ⟨some 16, .bin 0 .eql (.t 15) (.k (.int .u8 120)), some (13, true), 0, []⟩,
  ⟨some 17, .pick (.t 13) (.t 16) (.k (.bool false)), none, 0, []⟩]
def r_lex_number_3 : List AOper := [
  ⟨some 3, .mv (.k (.int .i64 2)), none, 0, []⟩,
  ⟨some 4, .mv (.k (.int .u64 16)), none, 0, []⟩]
def r_lex_number_5 : List AOper := [
  ⟨some 21, .mv (.t 0), none, 0, []⟩,
  ⟨some 22, .mv (.t 3), none, 0, []⟩,
  ⟨some 23, .call false (.k (.fn F.lex_lexer_now [] [])) [.t 21, .t 22], none, 0, []⟩,
  ⟨some 24, .call true (.k (.fn F.lex_hex [] [])) [.t 23], none, 0, []⟩,
  ⟨some 20, .mv (.t 24), none, 0, []⟩,
  ⟨some 25, .ext (.t 20) 0, none, 0, []⟩,
  ⟨some 26, .ext (.t 20) 1, none, 0, []⟩,
  ⟨some 7, .mv (.t 25), none, 0, []⟩,
  ⟨some 8, .mv (.t 26), none, 0, []⟩]
def r_lex_number_6 : List AOper := [
  ⟨some 27, .mv (.t 8), none, 0, []⟩,
  ⟨some 28, .un .not (.t 27), none, 0, []⟩,
  ⟨some 29, .mv (.t 28), none, 0, []⟩,
  ⟨some 30, .mv (.t 7), some (29, false), 0, []⟩,
  ⟨some 31, .mv (.t 4), some (29, false), 0, []⟩,
  ⟨some 32, .bin 0 .geq (.t 30) (.t 31), some (29, false), 0, []⟩,
  ⟨some 33, .pick (.t 29) (.k (.bool true)) (.t 32), none, 0, []⟩]
def r_lex_number_7 : List AOper := [
  ⟨some 34, .mv (.t 6), none, 0, []⟩,
  ⟨some 35, .mv (.t 4), none, 0, []⟩,
  ⟨some 36, .bin 0 .mul (.t 34) (.t 35), none, 0, []⟩,
  ⟨some 37, .mv (.t 7), none, 0, []⟩,
  ⟨some 38, .bin 0 .add (.t 36) (.t 37), none, 0, []⟩,
  ⟨some 39, .mn (.t 38) [.k (.int .u64 4294967296)], none, 0, []⟩,
  ⟨some 6, .mv (.t 39), none, 0, []⟩]
def r_lex_number_8 : List AOper := [
  ⟨some 40, .mv (.t 5), none, 0, []⟩,
  ⟨some 41, .bin 0 .add (.t 40) (.k (.int .i64 1)), none, 0, []⟩,
  ⟨some 5, .mv (.t 41), none, 0, []⟩]
def r_lex_number_4 : List AOper := [
  ⟨some 18, .mv (.t 3), none, 0, []⟩,
  ⟨some 19, .bin 0 .add (.t 18) (.k (.int .i64 1)), none, 0, []⟩,
  ⟨some 3, .mv (.t 19), none, 0, []⟩]
def r_lex_number_9 : List AOper := [
  ⟨some 42, .mv (.t 0), none, 0, []⟩,
  ⟨some 43, .mv (.t 3), none, 0, []⟩,
  ⟨some 44, .call false (.k (.fn F.lex_lexer_now [] [])) [.t 42, .t 43], none, 0, []⟩,
  ⟨some 9, .mv (.t 44), none, 0, []⟩]
def r_lex_number_10 : List AOper := [
  ⟨some 45, .mv (.t 5), none, 0, []⟩,
  ⟨some 46, .bin 0 .eql (.t 45) (.k (.int .i64 0)), none, 0, []⟩,
  ⟨some 47, .mv (.t 46), none, 0, []⟩,
  ⟨some 48, .mv (.t 6), some (47, false), 0, []⟩,
  ⟨some 49, .bin 0 .geq (.t 48) (.k (.int .u64 4294967296)), some (47, false), 0, []⟩,
  ⟨some 50, .pick (.t 47) (.k (.bool true)) (.t 49), none, 0, []⟩,
  ⟨some 51, .mv (.t 50), none, 0, []⟩,
  ⟨some 52, .mv (.t 9), some (51, false), 0, []⟩,
  ⟨some 53, .call true (.k (.fn F.lex_letter [] [])) [.t 52], some (51, false), 0, []⟩,
  ⟨some 54, .pick (.t 51) (.k (.bool true)) (.t 53), none, 0, []⟩,
  ⟨some 55, .mv (.t 54), none, 0, []⟩,
  ⟨some 56, .mv (.t 9), some (55, false), 0, []⟩,
  ⟨some 57, .call true (.k (.fn F.lex_digit [] [])) [.t 56], some (55, false), 0, []⟩,
  ⟨some 58, .pick (.t 55) (.k (.bool true)) (.t 57), none, 0, []⟩,
  ⟨some 59, .mv (.t 58), none, 0, []⟩,
  ⟨some 60, .mv (.t 9), some (59, false), 0, []⟩,
  ⟨some 61, .bin 0 .geq (.t 60) (.k (.int .u8 65)), some (59, false), 0, []⟩,
  ⟨some 62, .mv (.t 61), some (59, false), 0, []⟩,
  ⟨some 63, .mv (.t 9), some (62, true), 0, []⟩,
  ⟨some 64, .bin 0 .leq (.t 63) (.k (.int .u8 90)), some (62, true), 0, []⟩,
  ⟨some 65, .pick (.t 62) (.t 64) (.k (.bool false)), some (59, false), 0, []⟩,
  ⟨some 66, .pick (.t 59) (.k (.bool true)) (.t 65), none, 0, []⟩]
def r_lex_number_11 : List AOper := [
  ⟨some 67, .mv (.t 0), none, 0, []⟩,
  ⟨some 68, .nilck (.t 67), none, 0, []⟩,
  ⟨some 69, .fad 5 (.t 68), none, 0, []⟩,
  ⟨none, .stH 1 (.t 69) (.k (.bool true)), none, 0, []⟩]
def r_lex_number_12 : List AOper := [
  ⟨some 2, .mv (.k (.nfn)), none, 0, []⟩]
def r_lex_number_13 : List AOper := [
  ⟨some 70, .mv (.t 0), none, 0, []⟩,
  ⟨some 71, .mv (.t 3), none, 0, []⟩,
  ⟨some 72, .mv (.t 6), none, 0, []⟩,
  ⟨some 73, .cvI .u32 (.t 72), none, 0, []⟩,
  ⟨some 74, .call false (.k (.fn F.lex_lexer_token [] [])) [.t 70, .k (.int .i64 3), .t 71, .t 73], none, 0, []⟩]
def r_lex_number_14 : List AOper := [
  ⟨some 2, .mv (.k (.fn F.lex_between [] [])), none, 0, []⟩]
def c_lex_number : AC :=
  (.seq
   (.reg false r_lex_number_0 (some [0]))
   (.seq
    (.reg false r_lex_number_1 (some [0, 3, 4, 5, 6]))
    (.seq
     (.seq
      (.reg false r_lex_number_2 (some [0, 3, 4, 5, 6, 17]))
      (.cond (.t 17)
       (.reg false r_lex_number_3 (some [0, 3, 4, 5, 6]))
       .skip))
     (.seq
      (.block 0
       (.loop
        (.seq
         (.block 1
          (.seq
           (.reg false r_lex_number_5 (some [0, 3, 4, 5, 6, 7, 8]))
           (.seq
            (.seq
             (.reg false r_lex_number_6 (some [0, 3, 4, 5, 6, 7, 33]))
             (.cond (.t 33)
              (.exit 0)
              .skip))
            (.seq
             (.reg false r_lex_number_7 (some [0, 3, 4, 5, 6]))
             (.reg false r_lex_number_8 (some [0, 3, 4, 5, 6]))))))
         (.reg false r_lex_number_4 (some [0, 3, 4, 5, 6])))))
      (.seq
       (.reg false r_lex_number_9 (some [0, 3, 5, 6, 9]))
       (.seq
        (.seq
         (.reg false r_lex_number_10 (some [0, 3, 6, 66]))
         (.cond (.t 66)
          (.seq
           (.reg false r_lex_number_11 (some []))
           (.seq
            (.reg false r_lex_number_12 (some [2]))
            .ret))
          .skip))
        (.seq
         (.reg false r_lex_number_13 (some []))
         (.seq
          (.reg false r_lex_number_14 (some [2]))
          .ret))))))))
def f_lex_number : AFun := ⟨1, [.tmp 2], c_lex_number⟩

def r_lex_sign_0 : List AOper := [
  ⟨some 2, .mv (.k (.nfn)), none, 0, []⟩]
def r_lex_sign_1 : List AOper := [
  ⟨some 4, .mv (.t 0), none, 0, []⟩,
  ⟨some 5, .nilck (.t 4), none, 1, [0]⟩,
  ⟨some 6, .fad 1 (.t 5), none, 2, [0, 1]⟩,
  ⟨some 7, .ldH (none) (.t 6) false, none, 3, [0, 1, 2]⟩,
  ⟨some 8, .bin 0 .add (.t 7) (.k (.int .i64 2)), none, 4, [0, 1, 2, 3]⟩,
  ⟨some 9, .mv (.t 0), none, 5, []⟩,
  ⟨some 10, .nilck (.t 9), none, 6, [5]⟩,
  ⟨some 11, .fad 0 (.t 10), none, 7, [5, 6]⟩,
  ⟨some 12, .ldH (none) (.t 11) false, none, 8, [5, 6, 7]⟩,
  ⟨some 13, .len 0 (.t 12), none, 9, [5, 6, 7, 8]⟩,
  ⟨some 14, .bin 0 .leq (.t 8) (.t 13), none, 10, [0, 1, 2, 3, 4, 5, 6, 7, 8, 9]⟩]
def r_lex_sign_2 : List AOper := [
  ⟨some 15, .mv (.t 0), none, 0, []⟩,
  ⟨some 16, .nilck (.t 15), none, 1, [0]⟩,
  ⟨some 17, .fad 0 (.t 16), none, 2, [0, 1]⟩,
  ⟨some 18, .ldH (none) (.t 17) false, none, 3, [0, 1, 2]⟩,
  ⟨some 19, .mv (.t 0), none, 4, []⟩,
  ⟨some 20, .nilck (.t 19), none, 5, [4]⟩,
  ⟨some 21, .fad 1 (.t 20), none, 6, [4, 5]⟩,
  ⟨some 22, .ldH (none) (.t 21) false, none, 7, [4, 5, 6]⟩,
  ⟨some 23, .mv (.t 0), none, 8, []⟩,
  ⟨some 24, .nilck (.t 23), none, 9, [8]⟩,
  ⟨some 25, .fad 1 (.t 24), none, 10, [8, 9]⟩,
  ⟨some 26, .ldH (none) (.t 25) false, none, 11, [8, 9, 10]⟩,
  ⟨some 27, .bin 0 .add (.t 26) (.k (.int .i64 2)), none, 12, [8, 9, 10, 11]⟩,
  ⟨some 28, .sls (.t 18) (some (.t 22)) (some (.t 27)), none, 13, [0, 1, 2, 3, 4, 5, 6, 7, 8, 9, 10, 11, 12]⟩,
  ⟨some 3, .mv (.t 28), none, 14, [0, 1, 2, 3, 4, 5, 6, 7, 8, 9, 10, 11, 12, 13]⟩]
def r_lex_sign_3 : List AOper := [
  ⟨some 29, .mv (.t 3), none, 0, []⟩,
  ⟨some 30, .ixs (.t 29) (.k (.int .i64 0)), none, 0, []⟩,
  ⟨some 31, .bin 0 .neq (.t 30) (.k (.int .u8 32)), none, 0, []⟩,
  ⟨some 32, .mv (.t 31), none, 0, []⟩,
  ⟨some 33, .mv (.t 3), some (32, true), 0, []⟩,
  ⟨some 34, .ixs (.t 33) (.k (.int .i64 1)), some (32, true), 0, []⟩,
  ⟨some 35, .bin 0 .neq (.t 34) (.k (.int .u8 32)), some (32, true), 0, []⟩,
  ⟨some 36, .pick (.t 32) (.t 35) (.k (.bool false)), none, 0, []⟩,
  ⟨some 37, .mv (.t 36), none, 0, []⟩,
  ⟨some 38, .mv (.t 3), some (37, true), 0, []⟩,
  ⟨some 39, .call true (.k (.fn F.strings_Contains [] [])) [.k (.str [60, 60, 32, 62, 62, 32, 61, 61, 32, 33, 61, 32, 60, 61, 32, 62, 61]), .t 38], some (37, true), 0, []⟩,
  ⟨some 40, .pick (.t 37) (.t 39) (.k (.bool false)), none, 0, []⟩]
def r_lex_sign_4 : List AOper := [
  ⟨some 41, .mv (.t 0), none, 0, []⟩,
  ⟨some 42, .call false (.k (.fn F.lex_lexer_token [] [])) [.t 41, .k (.int .i64 4), .k (.int .i64 2), .k (.int .u32 0)], none, 0, []⟩]
def r_lex_sign_5 : List AOper := [
  ⟨some 2, .mv (.k (.fn F.lex_between [] [])), none, 0, []⟩]
def r_lex_sign_6 : List AOper := [
  ⟨some 43, .mv (.t 0), none, 0, []⟩,
  ⟨some 44, .call false (.k (.fn F.lex_lexer_now [] [])) [.t 43, .k (.int .i64 0)], none, 0, []⟩,
  ⟨some 45, .call true (.k (.fn F.strings_IndexByte [] [])) [.k (.str [60, 62, 61, 43, 45, 42, 47, 37, 38, 124, 94, 126, 33, 40, 41, 123, 125, 91, 93, 44, 59]), .t 44], none, 0, []⟩,
  ⟨some 46, .bin 0 .lss (.t 45) (.k (.int .i64 0)), none, 0, []⟩,
  ⟨some 47, .mv (.t 46), none, 0, []⟩,
  ⟨some 48, .mv (.t 0), some (47, false), 0, []⟩,
  ⟨some 49, .call false (.k (.fn F.lex_lexer_now [] [])) [.t 48, .k (.int .i64 0)], some (47, false), 0, []⟩,
  ⟨some 50, .bin 0 .eql (.t 49) (.k (.int .u8 0)), some (47, false), 0, []⟩,
  ⟨some 51, .pick (.t 47) (.k (.bool true)) (.t 50), none, 0, []⟩]
def r_lex_sign_7 : List AOper := [
  ⟨some 52, .mv (.t 0), none, 0, []⟩,
  ⟨some 53, .nilck (.t 52), none, 0, []⟩,
  ⟨some 54, .fad 5 (.t 53), none, 0, []⟩,
  ⟨none, .stH 1 (.t 54) (.k (.bool true)), none, 0, []⟩]
def r_lex_sign_8 : List AOper := [
  ⟨some 2, .mv (.k (.nfn)), none, 0, []⟩]
def r_lex_sign_9 : List AOper := [
  ⟨some 55, .mv (.t 0), none, 0, []⟩,
  ⟨some 56, .call false (.k (.fn F.lex_lexer_token [] [])) [.t 55, .k (.int .i64 4), .k (.int .i64 1), .k (.int .u32 0)], none, 0, []⟩]
def r_lex_sign_10 : List AOper := [
  ⟨some 2, .mv (.k (.fn F.lex_between [] [])), none, 0, []⟩]
def c_lex_sign : AC :=
  (.seq
   (.reg false r_lex_sign_0 (some [0]))
   (.seq
    (.seq
     (.reg true r_lex_sign_1 (some [0, 14]))
     (.cond (.t 14)
      (.seq
       (.reg true r_lex_sign_2 (some [0, 3]))
       (.seq
        (.reg false r_lex_sign_3 (some [0, 40]))
        (.cond (.t 40)
         (.seq
          (.reg false r_lex_sign_4 (some []))
          (.seq
           (.reg false r_lex_sign_5 (some [2]))
           .ret))
         .skip)))
      .skip))
    (.seq
     (.seq
      (.reg false r_lex_sign_6 (some [0, 51]))
      (.cond (.t 51)
       (.seq
        (.reg false r_lex_sign_7 (some []))
        (.seq
         (.reg false r_lex_sign_8 (some [2]))
         .ret))
       .skip))
     (.seq
      (.reg false r_lex_sign_9 (some []))
      (.seq
       (.reg false r_lex_sign_10 (some [2]))
       .ret)))))
def f_lex_sign : AFun := ⟨1, [.tmp 2], c_lex_sign⟩

def r_ast_node_children_0 : List AOper := [
  ⟨some 1, .boxC (.t 0), none, 0, []⟩,
  ⟨some 2, .mv (.k (.nfn)), none, 0, []⟩]
def r_ast_node_children_1 : List AOper := [
  ⟨some 3, .mkfn F.ast_node_children_1 [] [.t 1], none, 0, []⟩,
  ⟨some 2, .mv (.t 3), none, 0, []⟩]
def c_ast_node_children : AC :=
  (.seq
   (.reg false r_ast_node_children_0 (some [1]))
   (.seq
    (.reg false r_ast_node_children_1 (some [2]))
    .ret))
def f_ast_node_children : AFun := ⟨1, [.tmp 2], c_ast_node_children⟩

def r_ast_expr_0 : List AOper := [
  ⟨some 2, .mv (.k (.bool false)), none, 0, []⟩]
def r_ast_expr_1 : List AOper := [
  ⟨some 3, .mv (.k (.bool false)), none, 0, []⟩]
def r_ast_expr_2 : List AOper := [
  ⟨some 5, .mv (.t 0), none, 0, []⟩,
  ⟨some 6, .nilck (.t 5), none, 0, []⟩,
  ⟨some 7, .fad 0 (.t 6), none, 0, []⟩,
  ⟨some 8, .ldC (none) (.t 7), none, 0, []⟩,
  ⟨some 9, .build [.int .i64 0, .int .i64 0, .int .i64 0, .int .u32 0, .str [], .sl true []] [(0, 1, .t 8)], none, 0, []⟩,
  ⟨some 4, .allocL 4 [.int .i64 0, .int .i64 0, .int .i64 0, .int .u32 0, .str [], .sl true []], none, 0, []⟩,
  ⟨none, .stL 6 (.t 4) (.t 9), none, 0, []⟩]
def r_ast_expr_3 : List AOper := [
  ⟨some 10, .mv (.t 0), none, 0, []⟩,
  ⟨some 11, .nilck (.t 10), none, 0, []⟩,
  ⟨some 12, .fad 0 (.t 11), none, 0, []⟩,
  ⟨some 13, .ldC (none) (.t 12), none, 0, []⟩]
def r_ast_expr_4 : List AOper := [
  ⟨some 15, .bin 0 .eql (.t 13) (.k (.int .i64 1)), none, 0, []⟩,
  ⟨some 14, .mv (.t 15), none, 0, []⟩]
def r_ast_expr_5 : List AOper := [
  ⟨some 16, .mv (.t 0), none, 0, []⟩,
  ⟨some 17, .nilck (.t 16), none, 0, []⟩,
  ⟨some 18, .fad 3 (.t 17), none, 0, []⟩,
  ⟨some 19, .ldC (none) (.t 18), none, 0, []⟩,
  ⟨some 20, .fad 3 (.t 4), none, 0, []⟩,
  ⟨none, .stL 1 (.t 20) (.t 19), none, 0, []⟩]
def r_ast_expr_6 : List AOper := [
  ⟨some 21, .mv (.t 0), none, 0, []⟩,
  ⟨some 22, .nilck (.t 21), none, 1, [0]⟩,
  ⟨some 23, .fad 5 (.t 22), none, 2, [0, 1]⟩,
  ⟨some 24, .ldC (none) (.t 23), none, 3, [0, 1, 2]⟩,
  ⟨some 25, .len 1 (.t 24), none, 4, [0, 1, 2, 3]⟩,
  ⟨some 26, .bin 0 .eql (.t 25) (.k (.int .i64 0)), none, 5, [0, 1, 2, 3, 4]⟩,
  ⟨some 27, .mv (.t 26), none, 6, [0, 1, 2, 3, 4, 5]⟩,
  ⟨some 28, .mv (.t 0), some (27, true), 7, [0, 1, 2, 3, 4, 5, 6]⟩,
  ⟨some 29, .nilck (.t 28), some (27, true), 8, [0, 1, 2, 3, 4, 5, 6, 7]⟩,
  ⟨some 30, .ldC (some 6) (.t 29), some (27, true), 9, [0, 1, 2, 3, 4, 5, 6, 7, 8]⟩,
  ⟨some 31, .ldL (some 6) (.t 4) false, some (27, true), 10, [0, 1, 2, 3, 4, 5, 6]⟩,
  ⟨some 32, .call true (.k (.fn F.ast_same [] [])) [.t 30, .t 31], some (27, true), 11, [0, 1, 2, 3, 4, 5, 6, 7, 8, 9, 10]⟩,
  ⟨some 33, .pick (.t 27) (.t 32) (.k (.bool false)), none, 12, [0, 1, 2, 3, 4, 5, 6, 7, 8, 9, 10, 11]⟩,
  ⟨some 3, .mv (.t 33), none, 13, [0, 1, 2, 3, 4, 5, 6, 7, 8, 9, 10, 11, 12]⟩]
def r_ast_expr_7 : List AOper := [
  ⟨some 35, .bin 0 .eql (.t 13) (.k (.int .i64 2)), none, 0, []⟩,
  ⟨some 34, .mv (.t 35), none, 0, []⟩]
def r_ast_expr_8 : List AOper := [
  ⟨some 36, .mv (.t 0), none, 0, []⟩,
  ⟨some 37, .nilck (.t 36), none, 0, []⟩,
  ⟨some 38, .fad 4 (.t 37), none, 0, []⟩,
  ⟨some 39, .ldC (none) (.t 38), none, 0, []⟩,
  ⟨some 40, .fad 4 (.t 4), none, 0, []⟩,
  ⟨none, .stL 1 (.t 40) (.t 39), none, 0, []⟩]
def r_ast_expr_9 : List AOper := [
  ⟨some 41, .mv (.t 0), none, 0, []⟩,
  ⟨some 42, .nilck (.t 41), none, 1, [0]⟩,
  ⟨some 43, .fad 5 (.t 42), none, 2, [0, 1]⟩,
  ⟨some 44, .ldC (none) (.t 43), none, 3, [0, 1, 2]⟩,
  ⟨some 45, .len 1 (.t 44), none, 4, [0, 1, 2, 3]⟩,
  ⟨some 46, .bin 0 .eql (.t 45) (.k (.int .i64 0)), none, 5, [0, 1, 2, 3, 4]⟩,
  ⟨some 47, .mv (.t 46), none, 6, [0, 1, 2, 3, 4, 5]⟩,
  ⟨some 48, .mv (.t 0), some (47, true), 7, [0, 1, 2, 3, 4, 5, 6]⟩,
  ⟨some 49, .nilck (.t 48), some (47, true), 8, [0, 1, 2, 3, 4, 5, 6, 7]⟩,
  ⟨some 50, .fad 4 (.t 49), some (47, true), 9, [0, 1, 2, 3, 4, 5, 6, 7, 8]⟩,
  ⟨some 51, .ldC (none) (.t 50), some (47, true), 10, [0, 1, 2, 3, 4, 5, 6, 7, 8, 9]⟩,
  ⟨some 52, .call true (.k (.fn F.ast_name [] [])) [.t 51], some (47, true), 11, [0, 1, 2, 3, 4, 5, 6, 7, 8, 9, 10]⟩,
  ⟨some 53, .pick (.t 47) (.t 52) (.k (.bool false)), none, 12, [0, 1, 2, 3, 4, 5, 6, 7, 8, 9, 10, 11]⟩,
  ⟨some 54, .mv (.t 53), none, 13, [0, 1, 2, 3, 4, 5, 6, 7, 8, 9, 10, 11, 12]⟩,
  ⟨some 55, .mv (.t 0), some (54, true), 14, [0, 1, 2, 3, 4, 5, 6, 7, 8, 9, 10, 11, 12, 13]⟩,
  ⟨some 56, .nilck (.t 55), some (54, true), 15, [0, 1, 2, 3, 4, 5, 6, 7, 8, 9, 10, 11, 12, 13, 14]⟩,
  ⟨some 57, .ldC (some 6) (.t 56), some (54, true), 16, [0, 1, 2, 3, 4, 5, 6, 7, 8, 9, 10, 11, 12, 13, 14, 15]⟩,
  ⟨some 58, .ldL (some 6) (.t 4) false, some (54, true), 17, [0, 1, 2, 3, 4, 5, 6, 7, 8, 9, 10, 11, 12, 13]⟩,
  ⟨some 59, .call true (.k (.fn F.ast_same [] [])) [.t 57, .t 58], some (54, true), 18, [0, 1, 2, 3, 4, 5, 6, 7, 8, 9, 10, 11, 12, 13, 14, 15, 16, 17]⟩,
  ⟨some 60, .pick (.t 54) (.t 59) (.k (.bool false)), none, 19, [0, 1, 2, 3, 4, 5, 6, 7, 8, 9, 10, 11, 12, 13, 14, 15, 16, 17, 18]⟩,
  ⟨some 3, .mv (.t 60), none, 20, [0, 1, 2, 3, 4, 5, 6, 7, 8, 9, 10, 11, 12, 13, 14, 15, 16, 17, 18, 19]⟩]
def r_ast_expr_10 : List AOper := [
  ⟨some 62, .bin 0 .eql (.t 13) (.k (.int .i64 3)), none, 0, []⟩,
  ⟨some 61, .mv (.t 62), none, 0, []⟩]
def r_ast_expr_11 : List AOper := [
  ⟨some 63, .mv (.t 0), none, 0, []⟩,
  ⟨some 64, .nilck (.t 63), none, 0, []⟩,
  ⟨some 65, .fad 4 (.t 64), none, 0, []⟩,
  ⟨some 66, .ldC (none) (.t 65), none, 0, []⟩,
  ⟨some 67, .fad 4 (.t 4), none, 0, []⟩,
  ⟨none, .stL 1 (.t 67) (.t 66), none, 0, []⟩]
def r_ast_expr_12 : List AOper := [
  ⟨some 68, .mv (.t 0), none, 0, []⟩,
  ⟨some 69, .nilck (.t 68), none, 1, [0]⟩,
  ⟨some 70, .fad 5 (.t 69), none, 2, [0, 1]⟩,
  ⟨some 71, .ldC (none) (.t 70), none, 3, [0, 1, 2]⟩,
  ⟨some 72, .len 1 (.t 71), none, 4, [0, 1, 2, 3]⟩,
  ⟨some 73, .bin 0 .eql (.t 72) (.k (.int .i64 1)), none, 5, [0, 1, 2, 3, 4]⟩,
  ⟨some 74, .mv (.t 73), none, 6, [0, 1, 2, 3, 4, 5]⟩,
  ⟨some 75, .mv (.t 0), some (74, true), 7, [0, 1, 2, 3, 4, 5, 6]⟩,
  ⟨some 76, .nilck (.t 75), some (74, true), 8, [0, 1, 2, 3, 4, 5, 6, 7]⟩,
  ⟨some 77, .fad 4 (.t 76), some (74, true), 9, [0, 1, 2, 3, 4, 5, 6, 7, 8]⟩,
  ⟨some 78, .ldC (none) (.t 77), some (74, true), 10, [0, 1, 2, 3, 4, 5, 6, 7, 8, 9]⟩,
  ⟨some 79, .call true (.k (.fn F.ast_name [] [])) [.t 78], some (74, true), 11, [0, 1, 2, 3, 4, 5, 6, 7, 8, 9, 10]⟩,
  ⟨some 80, .pick (.t 74) (.t 79) (.k (.bool false)), none, 12, [0, 1, 2, 3, 4, 5, 6, 7, 8, 9, 10, 11]⟩,
  ⟨some 81, .mv (.t 80), none, 13, [0, 1, 2, 3, 4, 5, 6, 7, 8, 9, 10, 11, 12]⟩,
  ⟨some 82, .mv (.t 0), some (81, true), 14, [0, 1, 2, 3, 4, 5, 6, 7, 8, 9, 10, 11, 12, 13]⟩,
  ⟨some 83, .nilck (.t 82), some (81, true), 15, [0, 1, 2, 3, 4, 5, 6, 7, 8, 9, 10, 11, 12, 13, 14]⟩,
  ⟨some 84, .ldC (some 6) (.t 83), some (81, true), 16, [0, 1, 2, 3, 4, 5, 6, 7, 8, 9, 10, 11, 12, 13, 14, 15]⟩,
  ⟨some 85, .ldL (some 6) (.t 4) false, some (81, true), 17, [0, 1, 2, 3, 4, 5, 6, 7, 8, 9, 10, 11, 12, 13]⟩,
  ⟨some 86, .call true (.k (.fn F.ast_same [] [])) [.t 84, .t 85], some (81, true), 18, [0, 1, 2, 3, 4, 5, 6, 7, 8, 9, 10, 11, 12, 13, 14, 15, 16, 17]⟩,
  ⟨some 87, .pick (.t 81) (.t 86) (.k (.bool false)), none, 19, [0, 1, 2, 3, 4, 5, 6, 7, 8, 9, 10, 11, 12, 13, 14, 15, 16, 17, 18]⟩,
  ⟨some 3, .mv (.t 87), none, 20, [0, 1, 2, 3, 4, 5, 6, 7, 8, 9, 10, 11, 12, 13, 14, 15, 16, 17, 18, 19]⟩]
def r_ast_expr_13 : List AOper := [
  ⟨some 89, .bin 0 .eql (.t 13) (.k (.int .i64 4)), none, 0, []⟩,
  ⟨some 88, .mv (.t 89), none, 0, []⟩]
def r_ast_expr_14 : List AOper := [
  ⟨some 90, .mv (.t 0), none, 0, []⟩,
  ⟨some 91, .nilck (.t 90), none, 0, []⟩,
  ⟨some 92, .fad 4 (.t 91), none, 0, []⟩,
  ⟨some 93, .ldC (none) (.t 92), none, 0, []⟩,
  ⟨some 94, .fad 4 (.t 4), none, 0, []⟩,
  ⟨none, .stL 1 (.t 94) (.t 93), none, 0, []⟩]
def r_ast_expr_15 : List AOper := [
  ⟨some 95, .mv (.t 0), none, 0, []⟩,
  ⟨some 96, .nilck (.t 95), none, 1, [0]⟩,
  ⟨some 97, .fad 5 (.t 96), none, 2, [0, 1]⟩,
  ⟨some 98, .ldC (none) (.t 97), none, 3, [0, 1, 2]⟩,
  ⟨some 99, .len 1 (.t 98), none, 4, [0, 1, 2, 3]⟩,
  ⟨some 100, .bin 0 .leq (.t 99) (.k (.int .i64 8)), none, 5, [0, 1, 2, 3, 4]⟩,
  ⟨some 101, .mv (.t 100), none, 6, [0, 1, 2, 3, 4, 5]⟩,
  ⟨some 102, .mv (.t 0), some (101, true), 7, [0, 1, 2, 3, 4, 5, 6]⟩,
  ⟨some 103, .nilck (.t 102), some (101, true), 8, [0, 1, 2, 3, 4, 5, 6, 7]⟩,
  ⟨some 104, .fad 4 (.t 103), some (101, true), 9, [0, 1, 2, 3, 4, 5, 6, 7, 8]⟩,
  ⟨some 105, .ldC (none) (.t 104), some (101, true), 10, [0, 1, 2, 3, 4, 5, 6, 7, 8, 9]⟩,
  ⟨some 106, .call true (.k (.fn F.ast_name [] [])) [.t 105], some (101, true), 11, [0, 1, 2, 3, 4, 5, 6, 7, 8, 9, 10]⟩,
  ⟨some 107, .pick (.t 101) (.t 106) (.k (.bool false)), none, 12, [0, 1, 2, 3, 4, 5, 6, 7, 8, 9, 10, 11]⟩,
  ⟨some 108, .mv (.t 107), none, 13, [0, 1, 2, 3, 4, 5, 6, 7, 8, 9, 10, 11, 12]⟩,
  ⟨some 109, .mv (.t 0), some (108, true), 14, [0, 1, 2, 3, 4, 5, 6, 7, 8, 9, 10, 11, 12, 13]⟩,
  ⟨some 110, .nilck (.t 109), some (108, true), 15, [0, 1, 2, 3, 4, 5, 6, 7, 8, 9, 10, 11, 12, 13, 14]⟩,
  ⟨some 111, .ldC (some 6) (.t 110), some (108, true), 16, [0, 1, 2, 3, 4, 5, 6, 7, 8, 9, 10, 11, 12, 13, 14, 15]⟩,
  ⟨some 112, .ldL (some 6) (.t 4) false, some (108, true), 17, [0, 1, 2, 3, 4, 5, 6, 7, 8, 9, 10, 11, 12, 13]⟩,
  ⟨some 113, .call true (.k (.fn F.ast_same [] [])) [.t 111, .t 112], some (108, true), 18, [0, 1, 2, 3, 4, 5, 6, 7, 8, 9, 10, 11, 12, 13, 14, 15, 16, 17]⟩,
  ⟨some 114, .pick (.t 108) (.t 113) (.k (.bool false)), none, 19, [0, 1, 2, 3, 4, 5, 6, 7, 8, 9, 10, 11, 12, 13, 14, 15, 16, 17, 18]⟩,
  ⟨some 3, .mv (.t 114), none, 20, [0, 1, 2, 3, 4, 5, 6, 7, 8, 9, 10, 11, 12, 13, 14, 15, 16, 17, 18, 19]⟩]
def r_ast_expr_16 : List AOper := [
  ⟨some 116, .bin 0 .eql (.t 13) (.k (.int .i64 5)), none, 0, []⟩,
  ⟨some 115, .mv (.t 116), none, 0, []⟩]
def r_ast_expr_17 : List AOper := [
  ⟨some 117, .mv (.t 0), none, 0, []⟩,
  ⟨some 118, .nilck (.t 117), none, 0, []⟩,
  ⟨some 119, .fad 1 (.t 118), none, 0, []⟩,
  ⟨some 120, .ldC (none) (.t 119), none, 0, []⟩,
  ⟨some 121, .fad 1 (.t 4), none, 0, []⟩,
  ⟨none, .stL 1 (.t 121) (.t 120), none, 0, []⟩]
def r_ast_expr_18 : List AOper := [
  ⟨some 122, .mv (.t 0), none, 0, []⟩,
  ⟨some 123, .nilck (.t 122), none, 1, [0]⟩,
  ⟨some 124, .fad 5 (.t 123), none, 2, [0, 1]⟩,
  ⟨some 125, .ldC (none) (.t 124), none, 3, [0, 1, 2]⟩,
  ⟨some 126, .len 1 (.t 125), none, 4, [0, 1, 2, 3]⟩,
  ⟨some 127, .bin 0 .eql (.t 126) (.k (.int .i64 1)), none, 5, [0, 1, 2, 3, 4]⟩,
  ⟨some 128, .mv (.t 127), none, 6, [0, 1, 2, 3, 4, 5]⟩,
  ⟨some 129, .mv (.t 0), some (128, true), 7, [0, 1, 2, 3, 4, 5, 6]⟩,
  ⟨some 130, .nilck (.t 129), some (128, true), 8, [0, 1, 2, 3, 4, 5, 6, 7]⟩,
  ⟨some 131, .fad 1 (.t 130), some (128, true), 9, [0, 1, 2, 3, 4, 5, 6, 7, 8]⟩,
  ⟨some 132, .ldC (none) (.t 131), some (128, true), 10, [0, 1, 2, 3, 4, 5, 6, 7, 8, 9]⟩,
  ⟨some 133, .call true (.k (.fn F.word_Name [] [])) [.t 132], some (128, true), 11, [0, 1, 2, 3, 4, 5, 6, 7, 8, 9, 10]⟩,
  ⟨some 134, .bin 0 .neq (.t 133) (.k (.str [])), some (128, true), 12, [0, 1, 2, 3, 4, 5, 6, 7, 8, 9, 10, 11]⟩,
  ⟨some 135, .pick (.t 128) (.t 134) (.k (.bool false)), none, 13, [0, 1, 2, 3, 4, 5, 6, 7, 8, 9, 10, 11, 12]⟩,
  ⟨some 136, .mv (.t 135), none, 14, [0, 1, 2, 3, 4, 5, 6, 7, 8, 9, 10, 11, 12, 13]⟩,
  ⟨some 137, .mv (.t 0), some (136, true), 15, [0, 1, 2, 3, 4, 5, 6, 7, 8, 9, 10, 11, 12, 13, 14]⟩,
  ⟨some 138, .nilck (.t 137), some (136, true), 16, [0, 1, 2, 3, 4, 5, 6, 7, 8, 9, 10, 11, 12, 13, 14, 15]⟩,
  ⟨some 139, .ldC (some 6) (.t 138), some (136, true), 17, [0, 1, 2, 3, 4, 5, 6, 7, 8, 9, 10, 11, 12, 13, 14, 15, 16]⟩,
  ⟨some 140, .ldL (some 6) (.t 4) false, some (136, true), 18, [0, 1, 2, 3, 4, 5, 6, 7, 8, 9, 10, 11, 12, 13, 14]⟩,
  ⟨some 141, .call true (.k (.fn F.ast_same [] [])) [.t 139, .t 140], some (136, true), 19, [0, 1, 2, 3, 4, 5, 6, 7, 8, 9, 10, 11, 12, 13, 14, 15, 16, 17, 18]⟩,
  ⟨some 142, .pick (.t 136) (.t 141) (.k (.bool false)), none, 20, [0, 1, 2, 3, 4, 5, 6, 7, 8, 9, 10, 11, 12, 13, 14, 15, 16, 17, 18, 19]⟩,
  ⟨some 3, .mv (.t 142), none, 21, [0, 1, 2, 3, 4, 5, 6, 7, 8, 9, 10, 11, 12, 13, 14, 15, 16, 17, 18, 19, 20]⟩]
def r_ast_expr_19 : List AOper := [
  ⟨some 144, .bin 0 .eql (.t 13) (.k (.int .i64 6)), none, 0, []⟩,
  ⟨some 143, .mv (.t 144), none, 0, []⟩]
def r_ast_expr_20 : List AOper := [
  ⟨some 145, .mv (.t 0), none, 0, []⟩,
  ⟨some 146, .nilck (.t 145), none, 0, []⟩,
  ⟨some 147, .fad 1 (.t 146), none, 0, []⟩,
  ⟨some 148, .ldC (none) (.t 147), none, 0, []⟩,
  ⟨some 149, .fad 1 (.t 4), none, 0, []⟩,
  ⟨none, .stL 1 (.t 149) (.t 148), none, 0, []⟩]
def r_ast_expr_21 : List AOper := [
  ⟨some 150, .mv (.t 0), none, 0, []⟩,
  ⟨some 151, .nilck (.t 150), none, 1, [0]⟩,
  ⟨some 152, .fad 5 (.t 151), none, 2, [0, 1]⟩,
  ⟨some 153, .ldC (none) (.t 152), none, 3, [0, 1, 2]⟩,
  ⟨some 154, .len 1 (.t 153), none, 4, [0, 1, 2, 3]⟩,
  ⟨some 155, .bin 0 .eql (.t 154) (.k (.int .i64 2)), none, 5, [0, 1, 2, 3, 4]⟩,
  ⟨some 156, .mv (.t 155), none, 6, [0, 1, 2, 3, 4, 5]⟩,
  ⟨some 157, .mv (.t 0), some (156, true), 7, [0, 1, 2, 3, 4, 5, 6]⟩,
  ⟨some 158, .nilck (.t 157), some (156, true), 8, [0, 1, 2, 3, 4, 5, 6, 7]⟩,
  ⟨some 159, .fad 1 (.t 158), some (156, true), 9, [0, 1, 2, 3, 4, 5, 6, 7, 8]⟩,
  ⟨some 160, .ldC (none) (.t 159), some (156, true), 10, [0, 1, 2, 3, 4, 5, 6, 7, 8, 9]⟩,
  ⟨some 161, .call true (.k (.fn F.ast_operator [] [])) [.t 160], some (156, true), 11, [0, 1, 2, 3, 4, 5, 6, 7, 8, 9, 10]⟩,
  ⟨some 162, .pick (.t 156) (.t 161) (.k (.bool false)), none, 12, [0, 1, 2, 3, 4, 5, 6, 7, 8, 9, 10, 11]⟩,
  ⟨some 163, .mv (.t 162), none, 13, [0, 1, 2, 3, 4, 5, 6, 7, 8, 9, 10, 11, 12]⟩,
  ⟨some 164, .mv (.t 0), some (163, true), 14, [0, 1, 2, 3, 4, 5, 6, 7, 8, 9, 10, 11, 12, 13]⟩,
  ⟨some 165, .nilck (.t 164), some (163, true), 15, [0, 1, 2, 3, 4, 5, 6, 7, 8, 9, 10, 11, 12, 13, 14]⟩,
  ⟨some 166, .ldC (some 6) (.t 165), some (163, true), 16, [0, 1, 2, 3, 4, 5, 6, 7, 8, 9, 10, 11, 12, 13, 14, 15]⟩,
  ⟨some 167, .ldL (some 6) (.t 4) false, some (163, true), 17, [0, 1, 2, 3, 4, 5, 6, 7, 8, 9, 10, 11, 12, 13]⟩,
  ⟨some 168, .call true (.k (.fn F.ast_same [] [])) [.t 166, .t 167], some (163, true), 18, [0, 1, 2, 3, 4, 5, 6, 7, 8, 9, 10, 11, 12, 13, 14, 15, 16, 17]⟩,
  ⟨some 169, .pick (.t 163) (.t 168) (.k (.bool false)), none, 19, [0, 1, 2, 3, 4, 5, 6, 7, 8, 9, 10, 11, 12, 13, 14, 15, 16, 17, 18]⟩,
  ⟨some 3, .mv (.t 169), none, 20, [0, 1, 2, 3, 4, 5, 6, 7, 8, 9, 10, 11, 12, 13, 14, 15, 16, 17, 18, 19]⟩]
def r_ast_expr_22 : List AOper := [
  ⟨some 171, .bin 0 .eql (.t 13) (.k (.int .i64 7)), none, 0, []⟩,
  ⟨some 170, .mv (.t 171), none, 0, []⟩]
def r_ast_expr_23 : List AOper := [
  ⟨some 172, .mv (.t 0), none, 0, []⟩,
  ⟨some 173, .nilck (.t 172), none, 0, []⟩,
  ⟨some 174, .fad 2 (.t 173), none, 0, []⟩,
  ⟨some 175, .ldC (none) (.t 174), none, 0, []⟩,
  ⟨some 176, .fad 2 (.t 4), none, 0, []⟩,
  ⟨none, .stL 1 (.t 176) (.t 175), none, 0, []⟩]
def r_ast_expr_24 : List AOper := [
  ⟨some 177, .mv (.t 0), none, 0, []⟩,
  ⟨some 178, .nilck (.t 177), none, 1, [0]⟩,
  ⟨some 179, .fad 5 (.t 178), none, 2, [0, 1]⟩,
  ⟨some 180, .ldC (none) (.t 179), none, 3, [0, 1, 2]⟩,
  ⟨some 181, .len 1 (.t 180), none, 4, [0, 1, 2, 3]⟩,
  ⟨some 182, .bin 0 .eql (.t 181) (.k (.int .i64 1)), none, 5, [0, 1, 2, 3, 4]⟩,
  ⟨some 183, .mv (.t 182), none, 6, [0, 1, 2, 3, 4, 5]⟩,
  ⟨some 184, .mv (.t 0), some (183, true), 7, [0, 1, 2, 3, 4, 5, 6]⟩,
  ⟨some 185, .nilck (.t 184), some (183, true), 8, [0, 1, 2, 3, 4, 5, 6, 7]⟩,
  ⟨some 186, .fad 2 (.t 185), some (183, true), 9, [0, 1, 2, 3, 4, 5, 6, 7, 8]⟩,
  ⟨some 187, .ldC (none) (.t 186), some (183, true), 10, [0, 1, 2, 3, 4, 5, 6, 7, 8, 9]⟩,
  ⟨some 188, .call true (.k (.fn F.ast_Width [] [])) [.t 187], some (183, true), 11, [0, 1, 2, 3, 4, 5, 6, 7, 8, 9, 10]⟩,
  ⟨some 189, .bin 0 .gtr (.t 188) (.k (.int .i64 0)), some (183, true), 12, [0, 1, 2, 3, 4, 5, 6, 7, 8, 9, 10, 11]⟩,
  ⟨some 190, .pick (.t 183) (.t 189) (.k (.bool false)), none, 13, [0, 1, 2, 3, 4, 5, 6, 7, 8, 9, 10, 11, 12]⟩,
  ⟨some 191, .mv (.t 190), none, 14, [0, 1, 2, 3, 4, 5, 6, 7, 8, 9, 10, 11, 12, 13]⟩,
  ⟨some 192, .mv (.t 0), some (191, true), 15, [0, 1, 2, 3, 4, 5, 6, 7, 8, 9, 10, 11, 12, 13, 14]⟩,
  ⟨some 193, .nilck (.t 192), some (191, true), 16, [0, 1, 2, 3, 4, 5, 6, 7, 8, 9, 10, 11, 12, 13, 14, 15]⟩,
  ⟨some 194, .ldC (some 6) (.t 193), some (191, true), 17, [0, 1, 2, 3, 4, 5, 6, 7, 8, 9, 10, 11, 12, 13, 14, 15, 16]⟩,
  ⟨some 195, .ldL (some 6) (.t 4) false, some (191, true), 18, [0, 1, 2, 3, 4, 5, 6, 7, 8, 9, 10, 11, 12, 13, 14]⟩,
  ⟨some 196, .call true (.k (.fn F.ast_same [] [])) [.t 194, .t 195], some (191, true), 19, [0, 1, 2, 3, 4, 5, 6, 7, 8, 9, 10, 11, 12, 13, 14, 15, 16, 17, 18]⟩,
  ⟨some 197, .pick (.t 191) (.t 196) (.k (.bool false)), none, 20, [0, 1, 2, 3, 4, 5, 6, 7, 8, 9, 10, 11, 12, 13, 14, 15, 16, 17, 18, 19]⟩,
  ⟨some 3, .mv (.t 197), none, 21, [0, 1, 2, 3, 4, 5, 6, 7, 8, 9, 10, 11, 12, 13, 14, 15, 16, 17, 18, 19, 20]⟩]
def r_ast_expr_25 : List AOper := [
  ⟨some 198, .mv (.t 3), none, 0, []⟩,
  ⟨some 2, .mv (.t 198), none, 0, []⟩]
def c_ast_expr : AC :=
  (.seq
   (.reg false r_ast_expr_0 (some [0]))
   (.seq
    (.reg false r_ast_expr_1 (some [0, 3]))
    (.seq
     (.seq
      (.reg false r_ast_expr_2 (some [0, 3, 4]))
      (.seq
       (.reg false r_ast_expr_3 (some [0, 3, 4, 13]))
       (.block 0
        (.seq
         (.reg false r_ast_expr_4 (some [0, 3, 4, 13, 14]))
         (.cond (.t 14)
          (.seq
           (.reg false r_ast_expr_5 (some [0, 4]))
           (.reg true r_ast_expr_6 (some [3])))
          (.seq
           (.reg false r_ast_expr_7 (some [0, 3, 4, 13, 34]))
           (.cond (.t 34)
            (.seq
             (.reg false r_ast_expr_8 (some [0, 4]))
             (.reg true r_ast_expr_9 (some [3])))
            (.seq
             (.reg false r_ast_expr_10 (some [0, 3, 4, 13, 61]))
             (.cond (.t 61)
              (.seq
               (.reg false r_ast_expr_11 (some [0, 4]))
               (.reg true r_ast_expr_12 (some [3])))
              (.seq
               (.reg false r_ast_expr_13 (some [0, 3, 4, 13, 88]))
               (.cond (.t 88)
                (.seq
                 (.reg false r_ast_expr_14 (some [0, 4]))
                 (.reg true r_ast_expr_15 (some [3])))
                (.seq
                 (.reg false r_ast_expr_16 (some [0, 3, 4, 13, 115]))
                 (.cond (.t 115)
                  (.seq
                   (.reg false r_ast_expr_17 (some [0, 4]))
                   (.reg true r_ast_expr_18 (some [3])))
                  (.seq
                   (.reg false r_ast_expr_19 (some [0, 3, 4, 13, 143]))
                   (.cond (.t 143)
                    (.seq
                     (.reg false r_ast_expr_20 (some [0, 4]))
                     (.reg true r_ast_expr_21 (some [3])))
                    (.seq
                     (.reg false r_ast_expr_22 (some [0, 3, 4, 170]))
                     (.cond (.t 170)
                      (.seq
                       (.reg false r_ast_expr_23 (some [0, 4]))
                       (.reg true r_ast_expr_24 (some [3])))
                      .skip)))))))))))))))))
     (.seq
      (.reg false r_ast_expr_25 (some [2]))
      .ret))))
def f_ast_expr : AFun := ⟨1, [.tmp 2], c_ast_expr⟩

def r_ast_stmt_0 : List AOper := [
  ⟨some 1, .boxC (.t 0), none, 0, []⟩,
  ⟨some 2, .mv (.k (.bool false)), none, 0, []⟩]
def r_ast_stmt_1 : List AOper := [
  ⟨some 4, .mkfn F.ast_stmt_1 [] [.t 1], none, 0, []⟩,
  ⟨some 3, .mv (.t 4), none, 0, []⟩]
def r_ast_stmt_2 : List AOper := [
  ⟨some 5, .ldC (none) (.t 1), none, 0, []⟩,
  ⟨some 6, .nilck (.t 5), none, 0, []⟩,
  ⟨some 7, .fad 1 (.t 6), none, 0, []⟩,
  ⟨some 8, .ldC (none) (.t 7), none, 0, []⟩,
  ⟨some 9, .bin 0 .lss (.t 8) (.k (.int .i64 0)), none, 0, []⟩]
def r_ast_stmt_3 : List AOper := [
  ⟨some 2, .mv (.k (.bool false)), none, 0, []⟩]
def r_ast_stmt_4 : List AOper := [
  ⟨some 10, .ldC (none) (.t 1), none, 0, []⟩,
  ⟨some 11, .nilck (.t 10), none, 0, []⟩,
  ⟨some 12, .fad 0 (.t 11), none, 0, []⟩,
  ⟨some 13, .ldC (none) (.t 12), none, 0, []⟩]
def r_ast_stmt_5 : List AOper := [
  ⟨some 15, .bin 0 .eql (.t 13) (.k (.int .i64 1)), none, 0, []⟩,
  ⟨some 14, .mv (.t 15), none, 0, []⟩]
def r_ast_stmt_6 : List AOper := [
  ⟨some 16, .mv (.t 3), none, 0, []⟩,
  ⟨some 17, .call false (.t 16) [.k (.bool true), .k (.bool false), .k (.bool true), .k (.bool false), .k (.bool false), .k (.bool true), .k (.bool false), .k (.bool false)], none, 0, []⟩,
  ⟨some 18, .mv (.t 17), none, 0, []⟩,
  ⟨some 19, .ldC (none) (.t 1), some (18, true), 0, []⟩,
  ⟨some 20, .nilck (.t 19), some (18, true), 0, []⟩,
  ⟨some 21, .fad 4 (.t 20), some (18, true), 0, []⟩,
  ⟨some 22, .ldC (none) (.t 21), some (18, true), 0, []⟩,
  ⟨some 23, .call true (.k (.fn F.ast_name [] [])) [.t 22], some (18, true), 0, []⟩,
  ⟨some 24, .pick (.t 18) (.t 23) (.k (.bool false)), none, 0, []⟩,
  ⟨some 25, .mv (.t 24), none, 0, []⟩,
  ⟨some 26, .ldC (none) (.t 1), some (25, true), 0, []⟩,
  ⟨some 27, .nilck (.t 26), some (25, true), 0, []⟩,
  ⟨some 28, .fad 2 (.t 27), some (25, true), 0, []⟩,
  ⟨some 29, .ldC (none) (.t 28), some (25, true), 0, []⟩,
  ⟨some 30, .call true (.k (.fn F.ast_Width [] [])) [.t 29], some (25, true), 0, []⟩,
  ⟨some 31, .bin 0 .gtr (.t 30) (.k (.int .i64 0)), some (25, true), 0, []⟩,
  ⟨some 32, .pick (.t 25) (.t 31) (.k (.bool false)), none, 0, []⟩,
  ⟨some 2, .mv (.t 32), none, 0, []⟩]
def r_ast_stmt_7 : List AOper := [
  ⟨some 34, .bin 0 .eql (.t 13) (.k (.int .i64 2)), none, 0, []⟩,
  ⟨some 33, .mv (.t 34), none, 0, []⟩]
def r_ast_stmt_8 : List AOper := [
  ⟨some 35, .mv (.t 3), none, 0, []⟩,
  ⟨some 36, .call false (.t 35) [.k (.bool false), .k (.bool false), .k (.bool true), .k (.bool false), .k (.bool true), .k (.bool true), .k (.bool false), .k (.bool false)], none, 0, []⟩,
  ⟨some 37, .mv (.t 36), none, 0, []⟩,
  ⟨some 38, .ldC (none) (.t 1), some (37, true), 0, []⟩,
  ⟨some 39, .nilck (.t 38), some (37, true), 0, []⟩,
  ⟨some 40, .fad 4 (.t 39), some (37, true), 0, []⟩,
  ⟨some 41, .ldC (none) (.t 40), some (37, true), 0, []⟩,
  ⟨some 42, .call true (.k (.fn F.ast_name [] [])) [.t 41], some (37, true), 0, []⟩,
  ⟨some 43, .pick (.t 37) (.t 42) (.k (.bool false)), none, 0, []⟩,
  ⟨some 44, .mv (.t 43), none, 0, []⟩,
  ⟨some 45, .ldC (none) (.t 1), some (44, true), 0, []⟩,
  ⟨some 46, .nilck (.t 45), some (44, true), 0, []⟩,
  ⟨some 47, .fad 6 (.t 46), some (44, true), 0, []⟩,
  ⟨some 48, .ldC (none) (.t 47), some (44, true), 0, []⟩,
  ⟨some 49, .len 1 (.t 48), some (44, true), 0, []⟩,
  ⟨some 50, .bin 0 .leq (.t 49) (.k (.int .i64 1)), some (44, true), 0, []⟩,
  ⟨some 51, .pick (.t 44) (.t 50) (.k (.bool false)), none, 0, []⟩,
  ⟨some 2, .mv (.t 51), none, 0, []⟩]
def r_ast_stmt_9 : List AOper := [
  ⟨some 53, .bin 0 .eql (.t 13) (.k (.int .i64 3)), none, 0, []⟩,
  ⟨some 52, .mv (.t 53), none, 0, []⟩]
def r_ast_stmt_10 : List AOper := [
  ⟨some 54, .mv (.t 3), none, 0, []⟩,
  ⟨some 55, .call false (.t 54) [.k (.bool false), .k (.bool false), .k (.bool false), .k (.bool false), .k (.bool false), .k (.bool true), .k (.bool false), .k (.bool false)], none, 0, []⟩,
  ⟨some 56, .mv (.t 55), none, 0, []⟩,
  ⟨some 57, .ldC (none) (.t 1), some (56, true), 0, []⟩,
  ⟨some 58, .nilck (.t 57), some (56, true), 0, []⟩,
  ⟨some 59, .fad 7 (.t 58), some (56, true), 0, []⟩,
  ⟨some 60, .ldC (none) (.t 59), some (56, true), 0, []⟩,
  ⟨some 61, .iad 6 (.t 60) (.k (.int .i64 0)), some (56, true), 0, []⟩,
  ⟨some 62, .fad 0 (.t 61), some (56, true), 0, []⟩,
  ⟨some 63, .ldC (none) (.t 62), some (56, true), 0, []⟩,
  ⟨some 64, .bin 0 .eql (.t 63) (.k (.int .i64 4)), some (56, true), 0, []⟩,
  ⟨some 65, .pick (.t 56) (.t 64) (.k (.bool false)), none, 0, []⟩,
  ⟨some 2, .mv (.t 65), none, 0, []⟩]
def r_ast_stmt_11 : List AOper := [
  ⟨some 67, .bin 0 .eql (.t 13) (.k (.int .i64 4)), none, 0, []⟩,
  ⟨some 66, .mv (.t 67), none, 0, []⟩]
def r_ast_stmt_12 : List AOper := [
  ⟨some 68, .mv (.t 3), none, 0, []⟩,
  ⟨some 69, .call false (.t 68) [.k (.bool false), .k (.bool false), .k (.bool false), .k (.bool false), .k (.bool false), .k (.bool true), .k (.bool true), .k (.bool true)], none, 0, []⟩,
  ⟨some 2, .mv (.t 69), none, 0, []⟩]
def r_ast_stmt_13 : List AOper := [
  ⟨some 71, .bin 0 .eql (.t 13) (.k (.int .i64 5)), none, 0, []⟩,
  ⟨some 70, .mv (.t 71), none, 0, []⟩]
def r_ast_stmt_14 : List AOper := [
  ⟨some 72, .mv (.t 3), none, 0, []⟩,
  ⟨some 73, .call false (.t 72) [.k (.bool false), .k (.bool false), .k (.bool false), .k (.bool false), .k (.bool false), .k (.bool true), .k (.bool true), .k (.bool false)], none, 0, []⟩,
  ⟨some 2, .mv (.t 73), none, 0, []⟩]
def r_ast_stmt_15 : List AOper := [
  ⟨some 75, .bin 0 .eql (.t 13) (.k (.int .i64 6)), none, 0, []⟩,
  ⟨some 74, .mv (.t 75), none, 0, []⟩]
def r_ast_stmt_16 : List AOper := [
  ⟨some 76, .mv (.t 3), none, 0, []⟩,
  ⟨some 77, .call false (.t 76) [.k (.bool false), .k (.bool false), .k (.bool false), .k (.bool false), .k (.bool false), .k (.bool true), .k (.bool false), .k (.bool false)], none, 0, []⟩,
  ⟨some 2, .mv (.t 77), none, 0, []⟩]
def r_ast_stmt_17 : List AOper := [
  ⟨some 79, .bin 0 .eql (.t 13) (.k (.int .i64 7)), none, 0, []⟩,
  ⟨some 78, .mv (.t 79), none, 0, []⟩]
def r_ast_stmt_18 : List AOper := [
  ⟨some 80, .bin 0 .eql (.t 13) (.k (.int .i64 8)), none, 0, []⟩,
  ⟨some 78, .mv (.t 80), none, 0, []⟩]
def r_ast_stmt_19 : List AOper := [
  ⟨some 81, .mv (.t 3), none, 0, []⟩,
  ⟨some 82, .call false (.t 81) [.k (.bool false), .k (.bool true), .k (.bool false), .k (.bool false), .k (.bool false), .k (.bool false), .k (.bool false), .k (.bool false)], none, 0, []⟩,
  ⟨some 83, .mv (.t 82), none, 0, []⟩,
  ⟨some 84, .ldC (none) (.t 1), some (83, true), 0, []⟩,
  ⟨some 85, .nilck (.t 84), some (83, true), 0, []⟩,
  ⟨some 86, .fad 3 (.t 85), some (83, true), 0, []⟩,
  ⟨some 87, .ldC (none) (.t 86), some (83, true), 0, []⟩,
  ⟨some 88, .bin 0 .geq (.t 87) (.k (.int .i64 0)), some (83, true), 0, []⟩,
  ⟨some 89, .pick (.t 83) (.t 88) (.k (.bool false)), none, 0, []⟩,
  ⟨some 90, .mv (.t 89), none, 0, []⟩,
  ⟨some 91, .ldC (none) (.t 1), some (90, true), 0, []⟩,
  ⟨some 92, .nilck (.t 91), some (90, true), 0, []⟩,
  ⟨some 93, .fad 3 (.t 92), some (90, true), 0, []⟩,
  ⟨some 94, .ldC (none) (.t 93), some (90, true), 0, []⟩,
  ⟨some 95, .bin 0 .leq (.t 94) (.k (.int .i64 31)), some (90, true), 0, []⟩,
  ⟨some 96, .pick (.t 90) (.t 95) (.k (.bool false)), none, 0, []⟩,
  ⟨some 2, .mv (.t 96), none, 0, []⟩]
def r_ast_stmt_20 : List AOper := [
  ⟨some 98, .bin 0 .eql (.t 13) (.k (.int .i64 9)), none, 0, []⟩,
  ⟨some 97, .mv (.t 98), none, 0, []⟩]
def r_ast_stmt_21 : List AOper := [
  ⟨some 99, .mv (.t 3), none, 0, []⟩,
  ⟨some 100, .call false (.t 99) [.k (.bool false), .k (.bool true), .k (.bool false), .k (.bool false), .k (.bool false), .k (.bool false), .k (.bool false), .k (.bool false)], none, 0, []⟩,
  ⟨some 101, .mv (.t 100), none, 0, []⟩,
  ⟨some 102, .ldC (none) (.t 1), some (101, true), 0, []⟩,
  ⟨some 103, .nilck (.t 102), some (101, true), 0, []⟩,
  ⟨some 104, .fad 3 (.t 103), some (101, true), 0, []⟩,
  ⟨some 105, .ldC (none) (.t 104), some (101, true), 0, []⟩,
  ⟨some 106, .bin 0 .geq (.t 105) (.k (.int .i64 0)), some (101, true), 0, []⟩,
  ⟨some 107, .pick (.t 101) (.t 106) (.k (.bool false)), none, 0, []⟩,
  ⟨some 108, .mv (.t 107), none, 0, []⟩,
  ⟨some 109, .ldC (none) (.t 1), some (108, true), 0, []⟩,
  ⟨some 110, .nilck (.t 109), some (108, true), 0, []⟩,
  ⟨some 111, .fad 3 (.t 110), some (108, true), 0, []⟩,
  ⟨some 112, .ldC (none) (.t 111), some (108, true), 0, []⟩,
  ⟨some 113, .bin 0 .leq (.t 112) (.k (.int .i64 15)), some (108, true), 0, []⟩,
  ⟨some 114, .pick (.t 108) (.t 113) (.k (.bool false)), none, 0, []⟩,
  ⟨some 2, .mv (.t 114), none, 0, []⟩]
def r_ast_stmt_22 : List AOper := [
  ⟨some 116, .bin 0 .eql (.t 13) (.k (.int .i64 10)), none, 0, []⟩,
  ⟨some 115, .mv (.t 116), none, 0, []⟩]
def r_ast_stmt_23 : List AOper := [
  ⟨some 117, .mv (.t 3), none, 0, []⟩,
  ⟨some 118, .call false (.t 117) [.k (.bool false), .k (.bool false), .k (.bool false), .k (.bool true), .k (.bool false), .k (.bool false), .k (.bool true), .k (.bool false)], none, 0, []⟩,
  ⟨some 119, .mv (.t 118), none, 0, []⟩,
  ⟨some 120, .ldC (none) (.t 1), some (119, true), 0, []⟩,
  ⟨some 121, .nilck (.t 120), some (119, true), 0, []⟩,
  ⟨some 122, .fad 5 (.t 121), some (119, true), 0, []⟩,
  ⟨some 123, .ldC (none) (.t 122), some (119, true), 0, []⟩,
  ⟨some 124, .len 1 (.t 123), some (119, true), 0, []⟩,
  ⟨some 125, .bin 0 .geq (.t 124) (.k (.int .i64 1)), some (119, true), 0, []⟩,
  ⟨some 126, .pick (.t 119) (.t 125) (.k (.bool false)), none, 0, []⟩,
  ⟨some 127, .mv (.t 126), none, 0, []⟩,
  ⟨some 128, .ldC (none) (.t 1), some (127, true), 0, []⟩,
  ⟨some 129, .nilck (.t 128), some (127, true), 0, []⟩,
  ⟨some 130, .fad 5 (.t 129), some (127, true), 0, []⟩,
  ⟨some 131, .ldC (none) (.t 130), some (127, true), 0, []⟩,
  ⟨some 132, .call true (.k (.fn F.slices_ContainsFunc_string_string [] [])) [.t 131, .k (.fn F.ast_stmt_2 [] [])], some (127, true), 0, []⟩,
  ⟨some 133, .un .not (.t 132), some (127, true), 0, []⟩,
  ⟨some 134, .pick (.t 127) (.t 133) (.k (.bool false)), none, 0, []⟩,
  ⟨some 2, .mv (.t 134), none, 0, []⟩]
def r_ast_stmt_24 : List AOper := [
  ⟨some 2, .mv (.k (.bool false)), none, 0, []⟩]
def c_ast_stmt : AC :=
  (.seq
   (.reg false r_ast_stmt_0 (some [1]))
   (.seq
    (.reg false r_ast_stmt_1 (some [1, 3]))
    (.seq
     (.seq
      (.reg false r_ast_stmt_2 (some [1, 3, 9]))
      (.cond (.t 9)
       (.seq
        (.reg false r_ast_stmt_3 (some [2]))
        .ret)
       .skip))
     (.seq
      (.seq
       (.reg false r_ast_stmt_4 (some [1, 3, 13]))
       (.block 0
        (.seq
         (.reg false r_ast_stmt_5 (some [1, 3, 13, 14]))
         (.cond (.t 14)
          (.seq
           (.reg false r_ast_stmt_6 (some [2]))
           .ret)
          (.seq
           (.reg false r_ast_stmt_7 (some [1, 3, 13, 33]))
           (.cond (.t 33)
            (.seq
             (.reg false r_ast_stmt_8 (some [2]))
             .ret)
            (.seq
             (.reg false r_ast_stmt_9 (some [1, 3, 13, 52]))
             (.cond (.t 52)
              (.seq
               (.reg false r_ast_stmt_10 (some [2]))
               .ret)
              (.seq
               (.reg false r_ast_stmt_11 (some [1, 3, 13, 66]))
               (.cond (.t 66)
                (.seq
                 (.reg false r_ast_stmt_12 (some [2]))
                 .ret)
                (.seq
                 (.reg false r_ast_stmt_13 (some [1, 3, 13, 70]))
                 (.cond (.t 70)
                  (.seq
                   (.reg false r_ast_stmt_14 (some [2]))
                   .ret)
                  (.seq
                   (.reg false r_ast_stmt_15 (some [1, 3, 13, 74]))
                   (.cond (.t 74)
                    (.seq
                     (.reg false r_ast_stmt_16 (some [2]))
                     .ret)
                    (.seq
                     (.seq
                      (.reg false r_ast_stmt_17 (some [1, 3, 13, 78]))
                      (.cond (.t 78)
                       .skip
                       (.reg false r_ast_stmt_18 (some [1, 3, 13, 78]))))
                     (.cond (.t 78)
                      (.seq
                       (.reg false r_ast_stmt_19 (some [2]))
                       .ret)
                      (.seq
                       (.reg false r_ast_stmt_20 (some [1, 3, 13, 97]))
                       (.cond (.t 97)
                        (.seq
                         (.reg false r_ast_stmt_21 (some [2]))
                         .ret)
                        (.seq
                         (.reg false r_ast_stmt_22 (some [1, 3, 115]))
                         (.cond (.t 115)
                          (.seq
                           (.reg false r_ast_stmt_23 (some [2]))
                           .ret)
                          .skip))))))))))))))))))))
      (.seq
       (.reg false r_ast_stmt_24 (some [2]))
       .ret)))))
def f_ast_stmt : AFun := ⟨1, [.tmp 2], c_ast_stmt⟩

def r_slices_IndexFunc_api_Param_api_Param_0 : List AOper := [
  ⟨some 4, .mv (.k (.int .i64 0)), none, 0, []⟩]
def r_slices_IndexFunc_api_Param_api_Param_1 : List AOper := [
  ⟨some 6, .mv (.t 0), none, 0, []⟩,
  ⟨some 7, .len 1 (.t 6), none, 0, []⟩,
  ⟨some 8, .mv (.k (.int .i64 0)), none, 0, []⟩]
def r_slices_IndexFunc_api_Param_api_Param_2 : List AOper := [
  ⟨some 9, .bin 0 .lss (.t 8) (.t 7), none, 0, []⟩]
def r_slices_IndexFunc_api_Param_api_Param_3 : List AOper := [
  ⟨some 10, .mv (.t 8), none, 0, []⟩,
  ⟨some 5, .mv (.t 10), none, 0, []⟩]
def r_slices_IndexFunc_api_Param_api_Param_4 : List AOper := [
  ⟨some 11, .mv (.t 1), none, 0, []⟩,
  ⟨some 12, .mv (.t 0), none, 0, []⟩,
  ⟨some 13, .mv (.t 5), none, 0, []⟩,
  ⟨some 14, .iad 2 (.t 12) (.t 13), none, 0, []⟩,
  ⟨some 15, .ldC (some 2) (.t 14), none, 0, []⟩,
  ⟨some 16, .call false (.t 11) [.t 15], none, 0, []⟩]
def r_slices_IndexFunc_api_Param_api_Param_5 : List AOper := [
  ⟨some 17, .mv (.t 5), none, 0, []⟩,
  ⟨some 4, .mv (.t 17), none, 0, []⟩]
def r_slices_IndexFunc_api_Param_api_Param_6 : List AOper := [
  ⟨some 18, .bin 0 .add (.t 8) (.k (.int .i64 1)), none, 0, []⟩,
  ⟨some 8, .mv (.t 18), none, 0, []⟩]
def r_slices_IndexFunc_api_Param_api_Param_7 : List AOper := [
  ⟨some 4, .mv (.k (.int .i64 (-1))), none, 0, []⟩]
def c_slices_IndexFunc_api_Param_api_Param : AC :=
  (.seq
   (.reg false r_slices_IndexFunc_api_Param_api_Param_0 (some [0, 1]))
   (.seq
    (.seq
     (.reg false r_slices_IndexFunc_api_Param_api_Param_1 (some [0, 1, 7, 8]))
     (.block 0
      (.loop
       (.seq
        (.reg false r_slices_IndexFunc_api_Param_api_Param_2 (some [0, 1, 7, 8, 9]))
        (.seq
         (.cond (.t 9)
          .skip
          (.exit 0))
         (.seq
          (.block 1
           (.seq
            (.reg false r_slices_IndexFunc_api_Param_api_Param_3 (some [0, 1, 5, 7, 8]))
            (.seq
             (.reg false r_slices_IndexFunc_api_Param_api_Param_4 (some [0, 1, 5, 7, 8, 16]))
             (.cond (.t 16)
              (.seq
               (.reg false r_slices_IndexFunc_api_Param_api_Param_5 (some [4]))
               .ret)
              .skip))))
          (.reg false r_slices_IndexFunc_api_Param_api_Param_6 (some [0, 1, 7, 8]))))))))
    (.seq
     (.reg false r_slices_IndexFunc_api_Param_api_Param_7 (some [4]))
     .ret)))
def f_slices_IndexFunc_api_Param_api_Param : AFun := ⟨2, [.tmp 4], c_slices_IndexFunc_api_Param_api_Param⟩

def r_parse_parser_primary_0 : List AOper := [
  ⟨some 2, .allocL 2 [.int .i64 0, .int .i64 0, .int .i64 0, .int .u32 0, .str [], .sl true []], none, 0, []⟩]
def r_parse_parser_primary_1 : List AOper := [
  ⟨some 11, .mv (.t 0), none, 0, []⟩,
  ⟨some 12, .call false (.k (.fn F.parse_parser_isType [] [])) [.t 11], none, 0, []⟩,
  ⟨some 10, .mv (.t 12), none, 0, []⟩,
  ⟨some 13, .ext (.t 10) 0, none, 0, []⟩,
  ⟨some 14, .ext (.t 10) 1, none, 0, []⟩,
  ⟨some 3, .mv (.t 13), none, 0, []⟩,
  ⟨some 4, .mv (.t 14), none, 0, []⟩]
def r_parse_parser_primary_2 : List AOper := [
  ⟨some 15, .mv (.t 4), none, 0, []⟩]
def r_parse_parser_primary_3 : List AOper := [
  ⟨some 16, .mv (.t 0), none, 0, []⟩,
  ⟨some 17, .nilck (.t 16), none, 0, []⟩,
  ⟨some 18, .fad 1 (.t 17), none, 0, []⟩,
  ⟨some 19, .ldH (none) (.t 18) false, none, 0, []⟩,
  ⟨some 20, .bin 0 .add (.t 19) (.k (.int .i64 1)), none, 0, []⟩,
  ⟨some 21, .nilck (.t 16), none, 0, []⟩,
  ⟨some 22, .fad 1 (.t 21), none, 0, []⟩,
  ⟨none, .stH 1 (.t 22) (.t 20), none, 0, []⟩]
def r_parse_parser_primary_4 : List AOper := [
  ⟨some 23, .mv (.t 0), none, 0, []⟩,
  ⟨some 24, .call false (.k (.fn F.parse_parser_must [] [])) [.t 23, .k (.str [40])], none, 0, []⟩]
def r_parse_parser_primary_5 : List AOper := [
  ⟨some 25, .mv (.t 0), none, 0, []⟩,
  ⟨some 26, .call false (.k (.fn F.parse_parser_expr [] [])) [.t 25, .k (.int .i64 1)], none, 0, []⟩,
  ⟨some 5, .allocL 5 [.int .i64 0, .int .i64 0, .int .i64 0, .int .u32 0, .str [], .sl true []], none, 0, []⟩,
  ⟨none, .stL 6 (.t 5) (.t 26), none, 0, []⟩]
def r_parse_parser_primary_6 : List AOper := [
  ⟨some 27, .mv (.t 0), none, 0, []⟩,
  ⟨some 28, .call false (.k (.fn F.parse_parser_must [] [])) [.t 27, .k (.str [41])], none, 0, []⟩]
def r_parse_parser_primary_7 : List AOper := [
  ⟨some 29, .mv (.t 3), none, 0, []⟩,
  ⟨some 30, .ldL (some 6) (.t 5) false, none, 0, []⟩,
  ⟨some 31, .bsl 1 6 (.agg [.int .i64 0, .int .i64 0, .int .i64 0, .int .u32 0, .str [], .sl true []]) [(0, .t 30)], none, 0, []⟩,
  ⟨some 32, .build [.int .i64 0, .int .i64 0, .int .i64 0, .int .u32 0, .str [], .sl true []] [(0, 1, .k (.int .i64 7)), (2, 1, .t 29), (5, 1, .t 31)], none, 0, []⟩,
  ⟨none, .stL 6 (.t 2) (.t 32), none, 0, []⟩]
def r_parse_parser_primary_8 : List AOper := [
  ⟨some 33, .mv (.t 0), none, 0, []⟩,
  ⟨some 34, .call false (.k (.fn F.parse_parser_now [] [])) [.t 33], none, 0, []⟩,
  ⟨some 6, .allocL 6 [.int .i64 0, .str [], .int .i64 0, .int .i64 0, .int .u32 0], none, 0, []⟩,
  ⟨none, .stL 5 (.t 6) (.t 34), none, 0, []⟩]
def r_parse_parser_primary_9 : List AOper := [
  ⟨some 36, .fad 0 (.t 6), none, 0, []⟩,
  ⟨some 37, .ldL (none) (.t 36) false, none, 0, []⟩,
  ⟨some 38, .bin 0 .eql (.t 37) (.k (.int .i64 3)), none, 0, []⟩,
  ⟨some 35, .mv (.t 38), none, 0, []⟩]
def r_parse_parser_primary_10 : List AOper := [
  ⟨some 39, .mv (.t 0), none, 0, []⟩,
  ⟨some 40, .call false (.k (.fn F.parse_parser_number [] [])) [.t 39], none, 0, []⟩,
  ⟨some 41, .build [.int .i64 0, .int .i64 0, .int .i64 0, .int .u32 0, .str [], .sl true []] [(0, 1, .k (.int .i64 1)), (3, 1, .t 40)], none, 0, []⟩,
  ⟨none, .stL 6 (.t 2) (.t 41), none, 0, []⟩]
def r_parse_parser_primary_11 : List AOper := [
  ⟨some 43, .fad 0 (.t 6), none, 0, []⟩,
  ⟨some 44, .ldL (none) (.t 43) false, none, 0, []⟩,
  ⟨some 45, .bin 0 .eql (.t 44) (.k (.int .i64 1)), none, 0, []⟩,
  ⟨some 42, .mv (.t 45), none, 0, []⟩]
def r_parse_parser_primary_12 : List AOper := [
  ⟨some 46, .mv (.t 0), none, 0, []⟩,
  ⟨some 47, .call false (.k (.fn F.parse_parser_name [] [])) [.t 46], none, 0, []⟩,
  ⟨some 7, .mv (.t 47), none, 0, []⟩]
def r_parse_parser_primary_13 : List AOper := [
  ⟨some 48, .mv (.t 0), none, 0, []⟩,
  ⟨some 49, .call false (.k (.fn F.parse_parser_may [] [])) [.t 48, .k (.str [91])], none, 0, []⟩]
def r_parse_parser_primary_14 : List AOper := [
  ⟨some 50, .mv (.t 0), none, 0, []⟩,
  ⟨some 51, .call false (.k (.fn F.parse_parser_expr [] [])) [.t 50, .k (.int .i64 1)], none, 0, []⟩,
  ⟨some 8, .allocL 8 [.int .i64 0, .int .i64 0, .int .i64 0, .int .u32 0, .str [], .sl true []], none, 0, []⟩,
  ⟨none, .stL 6 (.t 8) (.t 51), none, 0, []⟩]
def r_parse_parser_primary_15 : List AOper := [
  ⟨some 52, .mv (.t 0), none, 0, []⟩,
  ⟨some 53, .call false (.k (.fn F.parse_parser_must [] [])) [.t 52, .k (.str [93])], none, 0, []⟩]
def r_parse_parser_primary_16 : List AOper := [
  ⟨some 54, .mv (.t 7), none, 0, []⟩,
  ⟨some 55, .ldL (some 6) (.t 8) false, none, 0, []⟩,
  ⟨some 56, .bsl 1 6 (.agg [.int .i64 0, .int .i64 0, .int .i64 0, .int .u32 0, .str [], .sl true []]) [(0, .t 55)], none, 0, []⟩,
  ⟨some 57, .build [.int .i64 0, .int .i64 0, .int .i64 0, .int .u32 0, .str [], .sl true []] [(0, 1, .k (.int .i64 3)), (4, 1, .t 54), (5, 1, .t 56)], none, 0, []⟩,
  ⟨none, .stL 6 (.t 2) (.t 57), none, 0, []⟩]
def r_parse_parser_primary_17 : List AOper := [
  ⟨some 58, .mv (.t 0), none, 0, []⟩,
  ⟨some 59, .call false (.k (.fn F.parse_parser_may [] [])) [.t 58, .k (.str [40])], none, 0, []⟩]
def r_parse_parser_primary_18 : List AOper := [
  ⟨some 60, .mv (.t 7), none, 0, []⟩,
  ⟨some 61, .mv (.t 0), none, 0, []⟩,
  ⟨some 62, .call false (.k (.fn F.parse_parser_args [] [])) [.t 61], none, 0, []⟩,
  ⟨some 63, .build [.int .i64 0, .int .i64 0, .int .i64 0, .int .u32 0, .str [], .sl true []] [(0, 1, .k (.int .i64 4)), (4, 1, .t 60), (5, 1, .t 62)], none, 0, []⟩,
  ⟨none, .stL 6 (.t 2) (.t 63), none, 0, []⟩]
def r_parse_parser_primary_19 : List AOper := [
  ⟨some 64, .mv (.t 7), none, 0, []⟩,
  ⟨some 65, .build [.int .i64 0, .int .i64 0, .int .i64 0, .int .u32 0, .str [], .sl true []] [(0, 1, .k (.int .i64 2)), (4, 1, .t 64)], none, 0, []⟩,
  ⟨none, .stL 6 (.t 2) (.t 65), none, 0, []⟩]
def r_parse_parser_primary_20 : List AOper := [
  ⟨some 66, .mv (.t 0), none, 0, []⟩,
  ⟨some 67, .call false (.k (.fn F.parse_parser_must [] [])) [.t 66, .k (.str [40])], none, 0, []⟩]
def r_parse_parser_primary_21 : List AOper := [
  ⟨some 68, .mv (.t 0), none, 0, []⟩,
  ⟨some 69, .call false (.k (.fn F.parse_parser_expr [] [])) [.t 68, .k (.int .i64 1)], none, 0, []⟩,
  ⟨some 9, .allocL 9 [.int .i64 0, .int .i64 0, .int .i64 0, .int .u32 0, .str [], .sl true []], none, 0, []⟩,
  ⟨none, .stL 6 (.t 9) (.t 69), none, 0, []⟩]
def r_parse_parser_primary_22 : List AOper := [
  ⟨some 70, .mv (.t 0), none, 0, []⟩,
  ⟨some 71, .call false (.k (.fn F.parse_parser_must [] [])) [.t 70, .k (.str [41])], none, 0, []⟩]
def r_parse_parser_primary_23 : List AOper := [
  ⟨some 72, .ldL (some 6) (.t 9) false, none, 0, []⟩,
  ⟨none, .stL 6 (.t 2) (.t 72), none, 0, []⟩]
def c_parse_parser_primary : AC :=
  (.seq
   (.reg false r_parse_parser_primary_0 (some [0, 2]))
   (.seq
    (.seq
     (.reg false r_parse_parser_primary_1 (some [0, 2, 3, 4]))
     (.seq
      (.reg false r_parse_parser_primary_2 (some [0, 2, 3, 15]))
      (.cond (.t 15)
       (.seq
        (.reg false r_parse_parser_primary_3 (some [0, 2, 3]))
        (.seq
         (.reg false r_parse_parser_primary_4 (some [0, 2, 3]))
         (.seq
          (.reg false r_parse_parser_primary_5 (some [0, 2, 3, 5]))
          (.seq
           (.reg false r_parse_parser_primary_6 (some [2, 3, 5]))
           (.seq
            (.reg false r_parse_parser_primary_7 (some [2]))
            .ret)))))
       .skip)))
    (.seq
     (.seq
      (.reg false r_parse_parser_primary_8 (some [0, 2, 6]))
      (.block 0
       (.seq
        (.reg false r_parse_parser_primary_9 (some [0, 2, 6, 35]))
        (.cond (.t 35)
         (.seq
          (.reg false r_parse_parser_primary_10 (some [2]))
          .ret)
         (.seq
          (.reg false r_parse_parser_primary_11 (some [0, 2, 42]))
          (.cond (.t 42)
           (.seq
            (.reg false r_parse_parser_primary_12 (some [0, 2, 7]))
            (.seq
             (.seq
              (.reg false r_parse_parser_primary_13 (some [0, 2, 7, 49]))
              (.cond (.t 49)
               (.seq
                (.reg false r_parse_parser_primary_14 (some [0, 2, 7, 8]))
                (.seq
                 (.reg false r_parse_parser_primary_15 (some [2, 7, 8]))
                 (.seq
                  (.reg false r_parse_parser_primary_16 (some [2]))
                  .ret)))
               .skip))
             (.seq
              (.seq
               (.reg false r_parse_parser_primary_17 (some [0, 2, 7, 59]))
               (.cond (.t 59)
                (.seq
                 (.reg false r_parse_parser_primary_18 (some [2]))
                 .ret)
                .skip))
              (.seq
               (.reg false r_parse_parser_primary_19 (some [2]))
               .ret))))
           .skip))))))
     (.seq
      (.reg false r_parse_parser_primary_20 (some [0, 2]))
      (.seq
       (.reg false r_parse_parser_primary_21 (some [0, 2, 9]))
       (.seq
        (.reg false r_parse_parser_primary_22 (some [2, 9]))
        (.seq
         (.reg false r_parse_parser_primary_23 (some [2]))
         .ret)))))))
def f_parse_parser_primary : AFun := ⟨1, [.cell 2 (some 6)], c_parse_parser_primary⟩

def r_internal_stringslite_IndexByte_0 : List AOper := [
  ⟨some 4, .mv (.k (.int .i64 0)), none, 0, []⟩]
def r_internal_stringslite_IndexByte_1 : List AOper := [
  ⟨some 5, .mv (.t 0), none, 0, []⟩,
  ⟨some 6, .mv (.t 1), none, 0, []⟩,
  ⟨some 7, .ixB 152 (.t 5) (.t 6), none, 0, []⟩,
  ⟨some 4, .mv (.t 7), none, 0, []⟩]
def c_internal_stringslite_IndexByte : AC :=
  (.seq
   (.reg false r_internal_stringslite_IndexByte_0 (some [0, 1]))
   (.seq
    (.reg false r_internal_stringslite_IndexByte_1 (some [4]))
    .ret))
def f_internal_stringslite_IndexByte : AFun := ⟨2, [.tmp 4], c_internal_stringslite_IndexByte⟩

def r_lex_lexer_token_0 : List AOper := [
  ⟨some 8, .mv (.t 0), none, 0, []⟩,
  ⟨some 9, .mv (.t 0), none, 1, []⟩,
  ⟨some 10, .nilck (.t 9), none, 2, [1]⟩,
  ⟨some 11, .fad 4 (.t 10), none, 3, [1, 2]⟩,
  ⟨some 12, .ldH (none) (.t 11) true, none, 4, [1, 2, 3]⟩,
  ⟨some 13, .mv (.t 1), none, 5, []⟩,
  ⟨some 14, .mv (.t 0), none, 6, []⟩,
  ⟨some 15, .nilck (.t 14), none, 7, [6]⟩,
  ⟨some 16, .fad 0 (.t 15), none, 8, [6, 7]⟩,
  ⟨some 17, .ldH (none) (.t 16) false, none, 9, [6, 7, 8]⟩,
  ⟨some 18, .mv (.t 0), none, 10, []⟩,
  ⟨some 19, .nilck (.t 18), none, 11, [10]⟩,
  ⟨some 20, .fad 1 (.t 19), none, 12, [10, 11]⟩,
  ⟨some 21, .ldH (none) (.t 20) false, none, 13, [10, 11, 12]⟩,
  ⟨some 22, .mv (.t 0), none, 14, []⟩,
  ⟨some 23, .nilck (.t 22), none, 15, [14]⟩,
  ⟨some 24, .fad 1 (.t 23), none, 16, [14, 15]⟩,
  ⟨some 25, .ldH (none) (.t 24) false, none, 17, [14, 15, 16]⟩,
  ⟨some 26, .mv (.t 2), none, 18, []⟩,
  ⟨some 27, .bin 0 .add (.t 25) (.t 26), none, 19, [14, 15, 16, 17, 18]⟩,
  ⟨some 28, .sls (.t 17) (some (.t 21)) (some (.t 27)), none, 20, [6, 7, 8, 9, 10, 11, 12, 13, 14, 15, 16, 17, 18, 19]⟩,
  ⟨some 29, .mv (.t 0), none, 21, []⟩,
  ⟨some 30, .nilck (.t 29), none, 22, [21]⟩,
  ⟨some 31, .fad 2 (.t 30), none, 23, [21, 22]⟩,
  ⟨some 32, .ldH (none) (.t 31) false, none, 24, [21, 22, 23]⟩,
  ⟨some 33, .mv (.t 0), none, 25, []⟩,
  ⟨some 34, .nilck (.t 33), none, 26, [25]⟩,
  ⟨some 35, .fad 3 (.t 34), none, 27, [25, 26]⟩,
  ⟨some 36, .ldH (none) (.t 35) false, none, 28, [25, 26, 27]⟩,
  ⟨some 37, .mv (.t 3), none, 29, []⟩,
  ⟨some 38, .build [.int .i64 0, .str [], .int .i64 0, .int .i64 0, .int .u32 0] [(0, 1, .t 13), (1, 1, .t 28), (2, 1, .t 32), (3, 1, .t 36), (4, 1, .t 37)], none, 30, [5, 6, 7, 8, 9, 10, 11, 12, 13, 14, 15, 16, 17, 18, 19, 20, 21, 22, 23, 24, 25, 26, 27, 28, 29]⟩,
  ⟨some 39, .bsl 1 5 (.agg [.int .i64 0, .str [], .int .i64 0, .int .i64 0, .int .u32 0]) [(0, .t 38)], none, 31, [5, 6, 7, 8, 9, 10, 11, 12, 13, 14, 15, 16, 17, 18, 19, 20, 21, 22, 23, 24, 25, 26, 27, 28, 29, 30]⟩,
  ⟨some 40, .app 5 (.tk 12) (.t 39), none, 32, [1, 2, 3, 4, 5, 6, 7, 8, 9, 10, 11, 12, 13, 14, 15, 16, 17, 18, 19, 20, 21, 22, 23, 24, 25, 26, 27, 28, 29, 30, 31]⟩,
  ⟨some 41, .nilck (.t 8), none, 33, [0, 1, 2, 3, 4, 5, 6, 7, 8, 9, 10, 11, 12, 13, 14, 15, 16, 17, 18, 19, 20, 21, 22, 23, 24, 25, 26, 27, 28, 29, 30, 31, 32]⟩,
  ⟨some 42, .fad 4 (.t 41), none, 34, [0, 1, 2, 3, 4, 5, 6, 7, 8, 9, 10, 11, 12, 13, 14, 15, 16, 17, 18, 19, 20, 21, 22, 23, 24, 25, 26, 27, 28, 29, 30, 31, 32, 33]⟩,
  ⟨none, .stH 1 (.t 42) (.tk 40), none, 35, [0, 1, 2, 3, 4, 5, 6, 7, 8, 9, 10, 11, 12, 13, 14, 15, 16, 17, 18, 19, 20, 21, 22, 23, 24, 25, 26, 27, 28, 29, 30, 31, 32, 33, 34]⟩]
def r_lex_lexer_token_1 : List AOper := [
  ⟨some 43, .mv (.t 0), none, 0, []⟩,
  ⟨some 44, .mv (.t 2), none, 0, []⟩,
  ⟨some 45, .call false (.k (.fn F.lex_lexer_skip [] [])) [.t 43, .t 44], none, 0, []⟩]
def c_lex_lexer_token : AC :=
  (.seq
   (.reg true r_lex_lexer_token_0 (some [0, 2]))
   (.reg false r_lex_lexer_token_1 (some [])))
def f_lex_lexer_token : AFun := ⟨4, [], c_lex_lexer_token⟩

def r_lex_hex_0 : List AOper := [
  ⟨some 2, .mv (.k (.int .u64 0)), none, 0, []⟩,
  ⟨some 3, .mv (.k (.bool false)), none, 0, []⟩]
def r_lex_hex_1 : List AOper := [
  ⟨some 5, .mv (.t 0), none, 0, []⟩,
  ⟨some 6, .call true (.k (.fn F.lex_digit [] [])) [.t 5], none, 0, []⟩,
  ⟨some 4, .mv (.t 6), none, 0, []⟩]
def r_lex_hex_2 : List AOper := [
  ⟨some 7, .mv (.t 0), none, 0, []⟩,
  ⟨some 8, .bin 0 .sub (.t 7) (.k (.int .u8 48)), none, 0, []⟩,
  ⟨some 9, .cvI .u64 (.t 8), none, 0, []⟩,
  ⟨some 2, .mv (.t 9), none, 0, []⟩,
  ⟨some 3, .mv (.k (.bool true)), none, 0, []⟩]
def r_lex_hex_3 : List AOper := [
  ⟨some 11, .mv (.t 0), none, 0, []⟩,
  ⟨some 12, .bin 0 .geq (.t 11) (.k (.int .u8 97)), none, 0, []⟩,
  ⟨some 13, .mv (.t 12), none, 0, []⟩,
  ⟨some 14, .mv (.t 0), some (13, true), 0, []⟩,
  ⟨some 15, .bin 0 .leq (.t 14) (.k (.int .u8 102)), some (13, true), 0, []⟩,
  ⟨some 16, .pick (.t 13) (.t 15) (.k (.bool false)), none, 0, []⟩,
  ⟨some 10, .mv (.t 16), none, 0, []⟩]
def r_lex_hex_4 : List AOper := [
  ⟨some 17, .mv (.t 0), none, 0, []⟩,
  ⟨some 18, .bin 0 .sub (.t 17) (.k (.int .u8 97)), none, 0, []⟩,
  ⟨some 19, .cvI .u64 (.t 18), none, 0, []⟩,
  ⟨some 20, .bin 0 .add (.t 19) (.k (.int .u64 10)), none, 0, []⟩,
  ⟨some 2, .mv (.t 20), none, 0, []⟩,
  ⟨some 3, .mv (.k (.bool true)), none, 0, []⟩]
def r_lex_hex_5 : List AOper := [
  ⟨some 2, .mv (.k (.int .u64 0)), none, 0, []⟩,
  ⟨some 3, .mv (.k (.bool false)), none, 0, []⟩]
def c_lex_hex : AC :=
  (.seq
   (.reg false r_lex_hex_0 (some [0]))
   (.seq
    (.block 0
     (.seq
      (.reg false r_lex_hex_1 (some [0, 4]))
      (.cond (.t 4)
       (.seq
        (.reg false r_lex_hex_2 (some [2, 3]))
        .ret)
       (.seq
        (.reg false r_lex_hex_3 (some [0, 10]))
        (.cond (.t 10)
         (.seq
          (.reg false r_lex_hex_4 (some [2, 3]))
          .ret)
         .skip)))))
    (.seq
     (.reg false r_lex_hex_5 (some [2, 3]))
     .ret)))
def f_lex_hex : AFun := ⟨1, [.tmp 2, .tmp 3], c_lex_hex⟩

def r_strings_Contains_0 : List AOper := [
  ⟨some 4, .mv (.k (.bool false)), none, 0, []⟩]
def r_strings_Contains_1 : List AOper := [
  ⟨some 5, .mv (.t 0), none, 0, []⟩,
  ⟨some 6, .mv (.t 1), none, 0, []⟩,
  ⟨some 7, .call true (.k (.fn F.strings_Index [] [])) [.t 5, .t 6], none, 0, []⟩,
  ⟨some 8, .bin 0 .geq (.t 7) (.k (.int .i64 0)), none, 0, []⟩,
  ⟨some 4, .mv (.t 8), none, 0, []⟩]
def c_strings_Contains : AC :=
  (.seq
   (.reg false r_strings_Contains_0 (some [0, 1]))
   (.seq
    (.reg false r_strings_Contains_1 (some [4]))
    .ret))
def f_strings_Contains : AFun := ⟨2, [.tmp 4], c_strings_Contains⟩

def r_ast_node_children_1_0 : List AOper := [
  ⟨some 2, .boxC (.t 0), none, 0, []⟩]
def r_ast_node_children_1_1 : List AOper := [
  ⟨some 4, .fad 0 (.t 1), none, 0, []⟩,
  ⟨some 5, .ldC (none) (.t 4), none, 0, []⟩,
  ⟨some 6, .bin 2 .neq (.t 5) (.k (.nptr)), none, 0, []⟩]
def r_ast_node_children_1_2 : List AOper := [
  ⟨some 7, .fad 0 (.t 1), none, 0, []⟩,
  ⟨some 8, .ldC (none) (.t 7), none, 0, []⟩,
  ⟨some 9, .nilck (.t 8), none, 0, []⟩,
  ⟨some 10, .fad 5 (.t 9), none, 0, []⟩,
  ⟨some 11, .ldC (none) (.t 10), none, 0, []⟩,
  ⟨some 12, .mkfn F.ast_node_children_1_1 [] [.t 2], none, 0, []⟩,
  ⟨some 13, .call false (.k (.fn F.ast_each_api_Expr [] [])) [.t 11, .t 12], none, 0, []⟩]
def r_ast_node_children_1_3 : List AOper := [
  ⟨some 14, .fad 1 (.t 1), none, 0, []⟩,
  ⟨some 15, .ldC (none) (.t 14), none, 0, []⟩,
  ⟨some 16, .nilck (.t 15), none, 0, []⟩,
  ⟨some 17, .fad 6 (.t 16), none, 0, []⟩,
  ⟨some 18, .ldC (none) (.t 17), none, 0, []⟩,
  ⟨some 19, .mkfn F.ast_node_children_1_2 [] [.t 2], none, 0, []⟩,
  ⟨some 20, .call false (.k (.fn F.ast_each_api_Expr [] [])) [.t 18, .t 19], none, 0, []⟩,
  ⟨some 3, .mv (.t 20), none, 0, []⟩]
def r_ast_node_children_1_4 : List AOper := [
  ⟨some 21, .mv (.t 3), none, 0, []⟩,
  ⟨some 22, .mv (.t 21), none, 0, []⟩,
  ⟨some 23, .fad 1 (.t 1), some (22, true), 0, []⟩,
  ⟨some 24, .ldC (none) (.t 23), some (22, true), 0, []⟩,
  ⟨some 25, .nilck (.t 24), some (22, true), 0, []⟩,
  ⟨some 26, .fad 7 (.t 25), some (22, true), 0, []⟩,
  ⟨some 27, .ldC (none) (.t 26), some (22, true), 0, []⟩,
  ⟨some 28, .mkfn F.ast_node_children_1_3 [] [.t 2], some (22, true), 0, []⟩,
  ⟨some 29, .call false (.k (.fn F.ast_each_api_Expr [] [])) [.t 27, .t 28], some (22, true), 0, []⟩,
  ⟨some 30, .pick (.t 22) (.t 29) (.k (.bool false)), none, 0, []⟩,
  ⟨some 3, .mv (.t 30), none, 0, []⟩]
def r_ast_node_children_1_5 : List AOper := [
  ⟨some 31, .mv (.t 3), none, 0, []⟩,
  ⟨some 32, .mv (.t 31), none, 0, []⟩,
  ⟨some 33, .fad 1 (.t 1), some (32, true), 0, []⟩,
  ⟨some 34, .ldC (none) (.t 33), some (32, true), 0, []⟩,
  ⟨some 35, .nilck (.t 34), some (32, true), 0, []⟩,
  ⟨some 36, .fad 8 (.t 35), some (32, true), 0, []⟩,
  ⟨some 37, .ldC (none) (.t 36), some (32, true), 0, []⟩,
  ⟨some 38, .mkfn F.ast_node_children_1_4 [] [.t 2], some (32, true), 0, []⟩,
  ⟨some 39, .call false (.k (.fn F.ast_each_api_Stmt [] [])) [.t 37, .t 38], some (32, true), 0, []⟩,
  ⟨some 40, .pick (.t 32) (.t 39) (.k (.bool false)), none, 0, []⟩,
  ⟨some 3, .mv (.t 40), none, 0, []⟩]
def r_ast_node_children_1_6 : List AOper := [
  ⟨some 41, .mv (.t 3), none, 0, []⟩,
  ⟨some 42, .mv (.t 41), none, 0, []⟩,
  ⟨some 43, .fad 1 (.t 1), some (42, true), 0, []⟩,
  ⟨some 44, .ldC (none) (.t 43), some (42, true), 0, []⟩,
  ⟨some 45, .nilck (.t 44), some (42, true), 0, []⟩,
  ⟨some 46, .fad 9 (.t 45), some (42, true), 0, []⟩,
  ⟨some 47, .ldC (none) (.t 46), some (42, true), 0, []⟩,
  ⟨some 48, .mkfn F.ast_node_children_1_5 [] [.t 2], some (42, true), 0, []⟩,
  ⟨some 49, .call false (.k (.fn F.ast_each_api_Stmt [] [])) [.t 47, .t 48], some (42, true), 0, []⟩,
  ⟨some 50, .pick (.t 42) (.t 49) (.k (.bool false)), none, 0, []⟩]
def c_ast_node_children_1 : AC :=
  (.seq
   (.reg false r_ast_node_children_1_0 (some [1, 2]))
   (.seq
    (.seq
     (.reg false r_ast_node_children_1_1 (some [1, 2, 6]))
     (.cond (.t 6)
      (.seq
       (.reg false r_ast_node_children_1_2 (some []))
       .ret)
      .skip))
    (.seq
     (.reg false r_ast_node_children_1_3 (some [1, 2, 3]))
     (.seq
      (.reg false r_ast_node_children_1_4 (some [1, 2, 3]))
      (.seq
       (.reg false r_ast_node_children_1_5 (some [1, 2, 3]))
       (.reg false r_ast_node_children_1_6 (some [])))))))
def f_ast_node_children_1 : AFun := ⟨2, [], c_ast_node_children_1⟩

def r_ast_same_0 : List AOper := [
  ⟨some 2, .boxC (.t 0), none, 0, []⟩,
  ⟨some 3, .boxC (.t 1), none, 0, []⟩,
  ⟨some 4, .mv (.k (.bool false)), none, 0, []⟩]
def r_ast_same_1 : List AOper := [
  ⟨some 5, .fad 0 (.t 2), none, 0, []⟩,
  ⟨some 6, .ldC (none) (.t 5), none, 0, []⟩,
  ⟨some 7, .fad 0 (.t 3), none, 0, []⟩,
  ⟨some 8, .ldC (none) (.t 7), none, 0, []⟩,
  ⟨some 9, .bin 0 .eql (.t 6) (.t 8), none, 0, []⟩,
  ⟨some 10, .mv (.t 9), none, 0, []⟩,
  ⟨some 11, .fad 1 (.t 2), some (10, true), 0, []⟩,
  ⟨some 12, .ldC (none) (.t 11), some (10, true), 0, []⟩,
  ⟨some 13, .fad 1 (.t 3), some (10, true), 0, []⟩,
  ⟨some 14, .ldC (none) (.t 13), some (10, true), 0, []⟩,
  ⟨some 15, .bin 0 .eql (.t 12) (.t 14), some (10, true), 0, []⟩,
  ⟨some 16, .pick (.t 10) (.t 15) (.k (.bool false)), none, 0, []⟩,
  ⟨some 17, .mv (.t 16), none, 0, []⟩,
  ⟨some 18, .fad 2 (.t 2), some (17, true), 0, []⟩,
  ⟨some 19, .ldC (none) (.t 18), some (17, true), 0, []⟩,
  ⟨some 20, .fad 2 (.t 3), some (17, true), 0, []⟩,
  ⟨some 21, .ldC (none) (.t 20), some (17, true), 0, []⟩,
  ⟨some 22, .bin 0 .eql (.t 19) (.t 21), some (17, true), 0, []⟩,
  ⟨some 23, .pick (.t 17) (.t 22) (.k (.bool false)), none, 0, []⟩,
  ⟨some 24, .mv (.t 23), none, 0, []⟩,
  ⟨some 25, .fad 3 (.t 2), some (24, true), 0, []⟩,
  ⟨some 26, .ldC (none) (.t 25), some (24, true), 0, []⟩,
  ⟨some 27, .fad 3 (.t 3), some (24, true), 0, []⟩,
  ⟨some 28, .ldC (none) (.t 27), some (24, true), 0, []⟩,
  ⟨some 29, .bin 0 .eql (.t 26) (.t 28), some (24, true), 0, []⟩,
  ⟨some 30, .pick (.t 24) (.t 29) (.k (.bool false)), none, 0, []⟩,
  ⟨some 31, .mv (.t 30), none, 0, []⟩,
  ⟨some 32, .fad 4 (.t 2), some (31, true), 0, []⟩,
  ⟨some 33, .ldC (none) (.t 32), some (31, true), 0, []⟩,
  ⟨some 34, .fad 4 (.t 3), some (31, true), 0, []⟩,
  ⟨some 35, .ldC (none) (.t 34), some (31, true), 0, []⟩,
  ⟨some 36, .bin 0 .eql (.t 33) (.t 35), some (31, true), 0, []⟩,
  ⟨some 37, .pick (.t 31) (.t 36) (.k (.bool false)), none, 0, []⟩,
  ⟨some 4, .mv (.t 37), none, 0, []⟩]
def c_ast_same : AC :=
  (.seq
   (.reg false r_ast_same_0 (some [2, 3]))
   (.seq
    (.reg false r_ast_same_1 (some [4]))
    .ret))
def f_ast_same : AFun := ⟨2, [.tmp 4], c_ast_same⟩

def r_word_Name_0 : List AOper := [
  ⟨some 2, .mv (.k (.str [])), none, 0, []⟩]
def r_word_Name_1 : List AOper := [
  ⟨some 3, .mv (.t 0), none, 0, []⟩]
def r_word_Name_2 : List AOper := [
  ⟨some 5, .bin 0 .eql (.t 3) (.k (.int .i64 1)), none, 0, []⟩,
  ⟨some 4, .mv (.t 5), none, 0, []⟩]
def r_word_Name_3 : List AOper := [
  ⟨some 2, .mv (.k (.str [110, 101, 103])), none, 0, []⟩]
def r_word_Name_4 : List AOper := [
  ⟨some 7, .bin 0 .eql (.t 3) (.k (.int .i64 2)), none, 0, []⟩,
  ⟨some 6, .mv (.t 7), none, 0, []⟩]
def r_word_Name_5 : List AOper := [
  ⟨some 2, .mv (.k (.str [110, 111, 116])), none, 0, []⟩]
def r_word_Name_6 : List AOper := [
  ⟨some 9, .bin 0 .eql (.t 3) (.k (.int .i64 3)), none, 0, []⟩,
  ⟨some 8, .mv (.t 9), none, 0, []⟩]
def r_word_Name_7 : List AOper := [
  ⟨some 2, .mv (.k (.str [122, 101, 114, 111])), none, 0, []⟩]
def r_word_Name_8 : List AOper := [
  ⟨some 2, .mv (.k (.str [])), none, 0, []⟩]
def c_word_Name : AC :=
  (.seq
   (.reg false r_word_Name_0 (some [0]))
   (.seq
    (.seq
     (.reg false r_word_Name_1 (some [3]))
     (.block 0
      (.seq
       (.reg false r_word_Name_2 (some [3, 4]))
       (.cond (.t 4)
        (.seq
         (.reg false r_word_Name_3 (some [2]))
         .ret)
        (.seq
         (.reg false r_word_Name_4 (some [3, 6]))
         (.cond (.t 6)
          (.seq
           (.reg false r_word_Name_5 (some [2]))
           .ret)
          (.seq
           (.reg false r_word_Name_6 (some [8]))
           (.cond (.t 8)
            (.seq
             (.reg false r_word_Name_7 (some [2]))
             .ret)
            .skip))))))))
    (.seq
     (.reg false r_word_Name_8 (some [2]))
     .ret)))
def f_word_Name : AFun := ⟨1, [.tmp 2], c_word_Name⟩

def r_ast_operator_0 : List AOper := [
  ⟨some 2, .mv (.k (.bool false)), none, 0, []⟩]
def r_ast_operator_1 : List AOper := [
  ⟨some 3, .mv (.t 0), none, 0, []⟩]
def r_ast_operator_2 : List AOper := [
  ⟨some 5, .bin 0 .eql (.t 3) (.k (.int .i64 20)), none, 0, []⟩,
  ⟨some 4, .mv (.t 5), none, 0, []⟩]
def r_ast_operator_3 : List AOper := [
  ⟨some 6, .bin 0 .eql (.t 3) (.k (.int .i64 21)), none, 0, []⟩,
  ⟨some 4, .mv (.t 6), none, 0, []⟩]
def r_ast_operator_4 : List AOper := [
  ⟨some 7, .bin 0 .eql (.t 3) (.k (.int .i64 1)), none, 0, []⟩,
  ⟨some 4, .mv (.t 7), none, 0, []⟩]
def r_ast_operator_5 : List AOper := [
  ⟨some 8, .bin 0 .eql (.t 3) (.k (.int .i64 2)), none, 0, []⟩,
  ⟨some 4, .mv (.t 8), none, 0, []⟩]
def r_ast_operator_6 : List AOper := [
  ⟨some 9, .bin 0 .eql (.t 3) (.k (.int .i64 3)), none, 0, []⟩,
  ⟨some 4, .mv (.t 9), none, 0, []⟩]
def r_ast_operator_7 : List AOper := [
  ⟨some 10, .bin 0 .eql (.t 3) (.k (.int .i64 4)), none, 0, []⟩,
  ⟨some 4, .mv (.t 10), none, 0, []⟩]
def r_ast_operator_8 : List AOper := [
  ⟨some 11, .bin 0 .eql (.t 3) (.k (.int .i64 5)), none, 0, []⟩,
  ⟨some 4, .mv (.t 11), none, 0, []⟩]
def r_ast_operator_9 : List AOper := [
  ⟨some 12, .bin 0 .eql (.t 3) (.k (.int .i64 8)), none, 0, []⟩,
  ⟨some 4, .mv (.t 12), none, 0, []⟩]
def r_ast_operator_10 : List AOper := [
  ⟨some 13, .bin 0 .eql (.t 3) (.k (.int .i64 9)), none, 0, []⟩,
  ⟨some 4, .mv (.t 13), none, 0, []⟩]
def r_ast_operator_11 : List AOper := [
  ⟨some 14, .bin 0 .eql (.t 3) (.k (.int .i64 10)), none, 0, []⟩,
  ⟨some 4, .mv (.t 14), none, 0, []⟩]
def r_ast_operator_12 : List AOper := [
  ⟨some 15, .bin 0 .eql (.t 3) (.k (.int .i64 11)), none, 0, []⟩,
  ⟨some 4, .mv (.t 15), none, 0, []⟩]
def r_ast_operator_13 : List AOper := [
  ⟨some 16, .bin 0 .eql (.t 3) (.k (.int .i64 12)), none, 0, []⟩,
  ⟨some 4, .mv (.t 16), none, 0, []⟩]
def r_ast_operator_14 : List AOper := [
  ⟨some 17, .bin 0 .eql (.t 3) (.k (.int .i64 14)), none, 0, []⟩,
  ⟨some 4, .mv (.t 17), none, 0, []⟩]
def r_ast_operator_15 : List AOper := [
  ⟨some 18, .bin 0 .eql (.t 3) (.k (.int .i64 15)), none, 0, []⟩,
  ⟨some 4, .mv (.t 18), none, 0, []⟩]
def r_ast_operator_16 : List AOper := [
  ⟨some 19, .bin 0 .eql (.t 3) (.k (.int .i64 16)), none, 0, []⟩,
  ⟨some 4, .mv (.t 19), none, 0, []⟩]
def r_ast_operator_17 : List AOper := [
  ⟨some 20, .bin 0 .eql (.t 3) (.k (.int .i64 17)), none, 0, []⟩,
  ⟨some 4, .mv (.t 20), none, 0, []⟩]
def r_ast_operator_18 : List AOper := [
  ⟨some 2, .mv (.k (.bool true)), none, 0, []⟩]
def r_ast_operator_19 : List AOper := [
  ⟨some 2, .mv (.k (.bool false)), none, 0, []⟩]
def c_ast_operator : AC :=
  (.seq
   (.reg false r_ast_operator_0 (some [0]))
   (.seq
    (.seq
     (.reg false r_ast_operator_1 (some [3]))
     (.block 0
      (.seq
       (.seq
        (.reg false r_ast_operator_2 (some [3, 4]))
        (.cond (.t 4)
         .skip
         (.seq
          (.reg false r_ast_operator_3 (some [3, 4]))
          (.cond (.t 4)
           .skip
           (.seq
            (.reg false r_ast_operator_4 (some [3, 4]))
            (.cond (.t 4)
             .skip
             (.seq
              (.reg false r_ast_operator_5 (some [3, 4]))
              (.cond (.t 4)
               .skip
               (.seq
                (.reg false r_ast_operator_6 (some [3, 4]))
                (.cond (.t 4)
                 .skip
                 (.seq
                  (.reg false r_ast_operator_7 (some [3, 4]))
                  (.cond (.t 4)
                   .skip
                   (.seq
                    (.reg false r_ast_operator_8 (some [3, 4]))
                    (.cond (.t 4)
                     .skip
                     (.seq
                      (.reg false r_ast_operator_9 (some [3, 4]))
                      (.cond (.t 4)
                       .skip
                       (.seq
                        (.reg false r_ast_operator_10 (some [3, 4]))
                        (.cond (.t 4)
                         .skip
                         (.seq
                          (.reg false r_ast_operator_11 (some [3, 4]))
                          (.cond (.t 4)
                           .skip
                           (.seq
                            (.reg false r_ast_operator_12 (some [3, 4]))
                            (.cond (.t 4)
                             .skip
                             (.seq
                              (.reg false r_ast_operator_13 (some [3, 4]))
                              (.cond (.t 4)
                               .skip
                               (.seq
                                (.reg false r_ast_operator_14 (some [3, 4]))
                                (.cond (.t 4)
                                 .skip
                                 (.seq
                                  (.reg false r_ast_operator_15 (some [3, 4]))
                                  (.cond (.t 4)
                                   .skip
                                   (.seq
                                    (.reg false r_ast_operator_16 (some [3, 4]))
                                    (.cond (.t 4)
                                     .skip
                                     (.reg false r_ast_operator_17 (some [4]))))))))))))))))))))))))))))))))
       (.cond (.t 4)
        (.seq
         (.reg false r_ast_operator_18 (some [2]))
         .ret)
        .skip))))
    (.seq
     (.reg false r_ast_operator_19 (some [2]))
     .ret)))
def f_ast_operator : AFun := ⟨1, [.tmp 2], c_ast_operator⟩

def r_ast_stmt_1_0 : List AOper := [
  ⟨some 17, .mv (.k (.bool false)), none, 0, []⟩]
def r_ast_stmt_1_1 : List AOper := [
  ⟨some 18, .mv (.t 0), none, 0, []⟩,
  ⟨some 19, .mv (.t 18), none, 0, []⟩,
  ⟨some 20, .ldC (none) (.t 8), some (19, false), 0, []⟩,
  ⟨some 21, .nilck (.t 20), some (19, false), 0, []⟩,
  ⟨some 22, .fad 2 (.t 21), some (19, false), 0, []⟩,
  ⟨some 23, .ldC (none) (.t 22), some (19, false), 0, []⟩,
  ⟨some 24, .bin 0 .eql (.t 23) (.k (.int .i64 0)), some (19, false), 0, []⟩,
  ⟨some 25, .pick (.t 19) (.k (.bool true)) (.t 24), none, 0, []⟩,
  ⟨some 26, .mv (.t 25), none, 0, []⟩,
  ⟨some 27, .mv (.t 1), some (26, true), 0, []⟩,
  ⟨some 28, .mv (.t 27), some (26, true), 0, []⟩,
  ⟨some 29, .ldC (none) (.t 8), some (28, false), 0, []⟩,
  ⟨some 30, .nilck (.t 29), some (28, false), 0, []⟩,
  ⟨some 31, .fad 3 (.t 30), some (28, false), 0, []⟩,
  ⟨some 32, .ldC (none) (.t 31), some (28, false), 0, []⟩,
  ⟨some 33, .bin 0 .eql (.t 32) (.k (.int .i64 0)), some (28, false), 0, []⟩,
  ⟨some 34, .pick (.t 28) (.k (.bool true)) (.t 33), some (26, true), 0, []⟩,
  ⟨some 35, .pick (.t 26) (.t 34) (.k (.bool false)), none, 0, []⟩,
  ⟨some 36, .mv (.t 35), none, 0, []⟩,
  ⟨some 37, .mv (.t 2), some (36, true), 0, []⟩,
  ⟨some 38, .mv (.t 37), some (36, true), 0, []⟩,
  ⟨some 39, .ldC (none) (.t 8), some (38, false), 0, []⟩,
  ⟨some 40, .nilck (.t 39), some (38, false), 0, []⟩,
  ⟨some 41, .fad 4 (.t 40), some (38, false), 0, []⟩,
  ⟨some 42, .ldC (none) (.t 41), some (38, false), 0, []⟩,
  ⟨some 43, .bin 0 .eql (.t 42) (.k (.str [])), some (38, false), 0, []⟩,
  ⟨some 44, .pick (.t 38) (.k (.bool true)) (.t 43), some (36, true), 0, []⟩,
  ⟨some 45, .pick (.t 36) (.t 44) (.k (.bool false)), none, 0, []⟩,
  ⟨some 46, .mv (.t 45), none, 0, []⟩,
  ⟨some 47, .mv (.t 3), some (46, true), 0, []⟩,
  ⟨some 48, .mv (.t 47), some (46, true), 0, []⟩,
  ⟨some 49, .ldC (none) (.t 8), some (48, false), 0, []⟩,
  ⟨some 50, .nilck (.t 49), some (48, false), 0, []⟩,
  ⟨some 51, .fad 5 (.t 50), some (48, false), 0, []⟩,
  ⟨some 52, .ldC (none) (.t 51), some (48, false), 0, []⟩,
  ⟨some 53, .len 1 (.t 52), some (48, false), 0, []⟩,
  ⟨some 54, .bin 0 .eql (.t 53) (.k (.int .i64 0)), some (48, false), 0, []⟩,
  ⟨some 55, .pick (.t 48) (.k (.bool true)) (.t 54), some (46, true), 0, []⟩,
  ⟨some 56, .pick (.t 46) (.t 55) (.k (.bool false)), none, 0, []⟩,
  ⟨some 57, .mv (.t 56), none, 0, []⟩,
  ⟨some 58, .mv (.t 4), some (57, true), 0, []⟩,
  ⟨some 59, .mv (.t 58), some (57, true), 0, []⟩,
  ⟨some 60, .ldC (none) (.t 8), some (59, false), 0, []⟩,
  ⟨some 61, .nilck (.t 60), some (59, false), 0, []⟩,
  ⟨some 62, .fad 6 (.t 61), some (59, false), 0, []⟩,
  ⟨some 63, .ldC (none) (.t 62), some (59, false), 0, []⟩,
  ⟨some 64, .len 1 (.t 63), some (59, false), 0, []⟩,
  ⟨some 65, .bin 0 .eql (.t 64) (.k (.int .i64 0)), some (59, false), 0, []⟩,
  ⟨some 66, .pick (.t 59) (.k (.bool true)) (.t 65), some (57, true), 0, []⟩,
  ⟨some 67, .pick (.t 57) (.t 66) (.k (.bool false)), none, 0, []⟩,
  ⟨some 68, .mv (.t 67), none, 0, []⟩,
  ⟨some 69, .ldC (none) (.t 8), some (68, true), 0, []⟩,
  ⟨some 70, .nilck (.t 69), some (68, true), 0, []⟩,
  ⟨some 71, .fad 7 (.t 70), some (68, true), 0, []⟩,
  ⟨some 72, .ldC (none) (.t 71), some (68, true), 0, []⟩,
  ⟨some 73, .len 1 (.t 72), some (68, true), 0, []⟩,
  ⟨some 74, .bin 0 .eql (.t 73) (.k (.int .i64 1)), some (68, true), 0, []⟩,
  ⟨some 75, .mv (.t 5), some (68, true), 0, []⟩,
  ⟨some 76, .bin 1 .eql (.t 74) (.t 75), some (68, true), 0, []⟩,
  ⟨some 77, .pick (.t 68) (.t 76) (.k (.bool false)), none, 0, []⟩,
  ⟨some 78, .mv (.t 77), none, 0, []⟩,
  ⟨some 79, .mv (.t 5), some (78, true), 0, []⟩,
  ⟨some 80, .mv (.t 79), some (78, true), 0, []⟩,
  ⟨some 81, .ldC (none) (.t 8), some (80, false), 0, []⟩,
  ⟨some 82, .nilck (.t 81), some (80, false), 0, []⟩,
  ⟨some 83, .fad 7 (.t 82), some (80, false), 0, []⟩,
  ⟨some 84, .ldC (none) (.t 83), some (80, false), 0, []⟩,
  ⟨some 85, .len 1 (.t 84), some (80, false), 0, []⟩,
  ⟨some 86, .bin 0 .eql (.t 85) (.k (.int .i64 0)), some (80, false), 0, []⟩,
  ⟨some 87, .pick (.t 80) (.k (.bool true)) (.t 86), some (78, true), 0, []⟩,
  ⟨some 88, .pick (.t 78) (.t 87) (.k (.bool false)), none, 0, []⟩,
  ⟨some 89, .mv (.t 88), none, 0, []⟩,
  ⟨some 90, .mv (.t 6), some (89, true), 0, []⟩,
  ⟨some 91, .mv (.t 90), some (89, true), 0, []⟩,
  ⟨some 92, .ldC (none) (.t 8), some (91, false), 0, []⟩,
  ⟨some 93, .nilck (.t 92), some (91, false), 0, []⟩,
  ⟨some 94, .fad 8 (.t 93), some (91, false), 0, []⟩,
  ⟨some 95, .ldC (none) (.t 94), some (91, false), 0, []⟩,
  ⟨some 96, .len 1 (.t 95), some (91, false), 0, []⟩,
  ⟨some 97, .bin 0 .eql (.t 96) (.k (.int .i64 0)), some (91, false), 0, []⟩,
  ⟨some 98, .pick (.t 91) (.k (.bool true)) (.t 97), some (89, true), 0, []⟩,
  ⟨some 99, .pick (.t 89) (.t 98) (.k (.bool false)), none, 0, []⟩,
  ⟨some 100, .mv (.t 99), none, 0, []⟩,
  ⟨some 101, .mv (.t 7), some (100, true), 0, []⟩,
  ⟨some 102, .mv (.t 101), some (100, true), 0, []⟩,
  ⟨some 103, .ldC (none) (.t 8), some (102, false), 0, []⟩,
  ⟨some 104, .nilck (.t 103), some (102, false), 0, []⟩,
  ⟨some 105, .fad 9 (.t 104), some (102, false), 0, []⟩,
  ⟨some 106, .ldC (none) (.t 105), some (102, false), 0, []⟩,
  ⟨some 107, .len 1 (.t 106), some (102, false), 0, []⟩,
  ⟨some 108, .bin 0 .eql (.t 107) (.k (.int .i64 0)), some (102, false), 0, []⟩,
  ⟨some 109, .pick (.t 102) (.k (.bool true)) (.t 108), some (100, true), 0, []⟩,
  ⟨some 110, .pick (.t 100) (.t 109) (.k (.bool false)), none, 0, []⟩,
  ⟨some 17, .mv (.t 110), none, 0, []⟩]
def c_ast_stmt_1 : AC :=
  (.seq
   (.reg false r_ast_stmt_1_0 (some [0, 1, 2, 3, 4, 5, 6, 7, 8]))
   (.seq
    (.reg false r_ast_stmt_1_1 (some [17]))
    .ret))
def f_ast_stmt_1 : AFun := ⟨9, [.tmp 17], c_ast_stmt_1⟩

def r_slices_ContainsFunc_string_string_0 : List AOper := [
  ⟨some 4, .mv (.k (.bool false)), none, 0, []⟩]
def r_slices_ContainsFunc_string_string_1 : List AOper := [
  ⟨some 5, .mv (.t 0), none, 0, []⟩,
  ⟨some 6, .mv (.t 1), none, 0, []⟩,
  ⟨some 7, .call false (.k (.fn F.slices_IndexFunc_string_string [] [])) [.t 5, .t 6], none, 0, []⟩,
  ⟨some 8, .bin 0 .geq (.t 7) (.k (.int .i64 0)), none, 0, []⟩,
  ⟨some 4, .mv (.t 8), none, 0, []⟩]
def c_slices_ContainsFunc_string_string : AC :=
  (.seq
   (.reg false r_slices_ContainsFunc_string_string_0 (some [0, 1]))
   (.seq
    (.reg false r_slices_ContainsFunc_string_string_1 (some [4]))
    .ret))
def f_slices_ContainsFunc_string_string : AFun := ⟨2, [.tmp 4], c_slices_ContainsFunc_string_string⟩

def r_ast_stmt_2_0 : List AOper := [
  ⟨some 2, .mv (.k (.bool false)), none, 0, []⟩]
def r_ast_stmt_2_1 : List AOper := [
  ⟨some 3, .mv (.t 0), none, 0, []⟩,
  ⟨some 4, .call true (.k (.fn F.ast_name [] [])) [.t 3], none, 0, []⟩,
  ⟨some 5, .un .not (.t 4), none, 0, []⟩,
  ⟨some 2, .mv (.t 5), none, 0, []⟩]
def c_ast_stmt_2 : AC :=
  (.seq
   (.reg false r_ast_stmt_2_0 (some [0]))
   (.seq
    (.reg false r_ast_stmt_2_1 (some [2]))
    .ret))
def f_ast_stmt_2 : AFun := ⟨1, [.tmp 2], c_ast_stmt_2⟩

def r_strings_Index_0 : List AOper := [
  ⟨some 4, .mv (.k (.int .i64 0)), none, 0, []⟩]
def r_strings_Index_1 : List AOper := [
  ⟨some 5, .mv (.t 0), none, 0, []⟩,
  ⟨some 6, .mv (.t 1), none, 0, []⟩,
  ⟨some 7, .call true (.k (.fn F.internal_stringslite_Index [] [])) [.t 5, .t 6], none, 0, []⟩,
  ⟨some 4, .mv (.t 7), none, 0, []⟩]
def c_strings_Index : AC :=
  (.seq
   (.reg false r_strings_Index_0 (some [0, 1]))
   (.seq
    (.reg false r_strings_Index_1 (some [4]))
    .ret))
def f_strings_Index : AFun := ⟨2, [.tmp 4], c_strings_Index⟩

def r_ast_node_children_1_1_0 : List AOper := [
  ⟨some 3, .mv (.k (.bool false)), none, 0, []⟩]
def r_ast_node_children_1_1_1 : List AOper := [
  ⟨some 4, .ldC (none) (.t 1), none, 0, []⟩,
  ⟨some 5, .mv (.t 0), none, 0, []⟩,
  ⟨some 6, .build [.nptr, .nptr] [(0, 1, .t 5)], none, 0, []⟩,
  ⟨some 7, .call false (.t 4) [.t 6], none, 0, []⟩,
  ⟨some 3, .mv (.t 7), none, 0, []⟩]
def c_ast_node_children_1_1 : AC :=
  (.seq
   (.reg false r_ast_node_children_1_1_0 (some [0, 1]))
   (.seq
    (.reg false r_ast_node_children_1_1_1 (some [3]))
    .ret))
def f_ast_node_children_1_1 : AFun := ⟨2, [.tmp 3], c_ast_node_children_1_1⟩

def r_ast_each_api_Expr_0 : List AOper := [
  ⟨some 4, .mv (.k (.bool false)), none, 0, []⟩]
def r_ast_each_api_Expr_1 : List AOper := [
  ⟨some 6, .mv (.t 0), none, 0, []⟩,
  ⟨some 7, .len 1 (.t 6), none, 0, []⟩,
  ⟨some 8, .mv (.k (.int .i64 0)), none, 0, []⟩]
def r_ast_each_api_Expr_2 : List AOper := [
  ⟨some 9, .bin 0 .lss (.t 8) (.t 7), none, 0, []⟩]
def r_ast_each_api_Expr_3 : List AOper := [
  ⟨some 10, .mv (.t 8), none, 0, []⟩,
  ⟨some 5, .mv (.t 10), none, 0, []⟩]
def r_ast_each_api_Expr_4 : List AOper := [
  ⟨some 11, .mv (.t 1), none, 0, []⟩,
  ⟨some 12, .mv (.t 0), none, 0, []⟩,
  ⟨some 13, .mv (.t 5), none, 0, []⟩,
  ⟨some 14, .iad 6 (.t 12) (.t 13), none, 0, []⟩,
  ⟨some 15, .call false (.t 11) [.t 14], none, 0, []⟩,
  ⟨some 16, .un .not (.t 15), none, 0, []⟩]
def r_ast_each_api_Expr_5 : List AOper := [
  ⟨some 4, .mv (.k (.bool false)), none, 0, []⟩]
def r_ast_each_api_Expr_6 : List AOper := [
  ⟨some 17, .bin 0 .add (.t 8) (.k (.int .i64 1)), none, 0, []⟩,
  ⟨some 8, .mv (.t 17), none, 0, []⟩]
def r_ast_each_api_Expr_7 : List AOper := [
  ⟨some 4, .mv (.k (.bool true)), none, 0, []⟩]
def c_ast_each_api_Expr : AC :=
  (.seq
   (.reg false r_ast_each_api_Expr_0 (some [0, 1]))
   (.seq
    (.seq
     (.reg false r_ast_each_api_Expr_1 (some [0, 1, 7, 8]))
     (.block 0
      (.loop
       (.seq
        (.reg false r_ast_each_api_Expr_2 (some [0, 1, 7, 8, 9]))
        (.seq
         (.cond (.t 9)
          .skip
          (.exit 0))
         (.seq
          (.block 1
           (.seq
            (.reg false r_ast_each_api_Expr_3 (some [0, 1, 5, 7, 8]))
            (.seq
             (.reg false r_ast_each_api_Expr_4 (some [0, 1, 7, 8, 16]))
             (.cond (.t 16)
              (.seq
               (.reg false r_ast_each_api_Expr_5 (some [4]))
               .ret)
              .skip))))
          (.reg false r_ast_each_api_Expr_6 (some [0, 1, 7, 8]))))))))
    (.seq
     (.reg false r_ast_each_api_Expr_7 (some [4]))
     .ret)))
def f_ast_each_api_Expr : AFun := ⟨2, [.tmp 4], c_ast_each_api_Expr⟩

def r_ast_node_children_1_2_0 : List AOper := [
  ⟨some 3, .mv (.k (.bool false)), none, 0, []⟩]
def r_ast_node_children_1_2_1 : List AOper := [
  ⟨some 4, .ldC (none) (.t 1), none, 0, []⟩,
  ⟨some 5, .mv (.t 0), none, 0, []⟩,
  ⟨some 6, .build [.nptr, .nptr] [(0, 1, .t 5)], none, 0, []⟩,
  ⟨some 7, .call false (.t 4) [.t 6], none, 0, []⟩,
  ⟨some 3, .mv (.t 7), none, 0, []⟩]
def c_ast_node_children_1_2 : AC :=
  (.seq
   (.reg false r_ast_node_children_1_2_0 (some [0, 1]))
   (.seq
    (.reg false r_ast_node_children_1_2_1 (some [3]))
    .ret))
def f_ast_node_children_1_2 : AFun := ⟨2, [.tmp 3], c_ast_node_children_1_2⟩

def r_ast_node_children_1_3_0 : List AOper := [
  ⟨some 3, .mv (.k (.bool false)), none, 0, []⟩]
def r_ast_node_children_1_3_1 : List AOper := [
  ⟨some 4, .ldC (none) (.t 1), none, 0, []⟩,
  ⟨some 5, .mv (.t 0), none, 0, []⟩,
  ⟨some 6, .build [.nptr, .nptr] [(0, 1, .t 5)], none, 0, []⟩,
  ⟨some 7, .call false (.t 4) [.t 6], none, 0, []⟩,
  ⟨some 3, .mv (.t 7), none, 0, []⟩]
def c_ast_node_children_1_3 : AC :=
  (.seq
   (.reg false r_ast_node_children_1_3_0 (some [0, 1]))
   (.seq
    (.reg false r_ast_node_children_1_3_1 (some [3]))
    .ret))
def f_ast_node_children_1_3 : AFun := ⟨2, [.tmp 3], c_ast_node_children_1_3⟩

def r_ast_node_children_1_4_0 : List AOper := [
  ⟨some 3, .mv (.k (.bool false)), none, 0, []⟩]
def r_ast_node_children_1_4_1 : List AOper := [
  ⟨some 4, .ldC (none) (.t 1), none, 0, []⟩,
  ⟨some 5, .mv (.t 0), none, 0, []⟩,
  ⟨some 6, .build [.nptr, .nptr] [(1, 1, .t 5)], none, 0, []⟩,
  ⟨some 7, .call false (.t 4) [.t 6], none, 0, []⟩,
  ⟨some 3, .mv (.t 7), none, 0, []⟩]
def c_ast_node_children_1_4 : AC :=
  (.seq
   (.reg false r_ast_node_children_1_4_0 (some [0, 1]))
   (.seq
    (.reg false r_ast_node_children_1_4_1 (some [3]))
    .ret))
def f_ast_node_children_1_4 : AFun := ⟨2, [.tmp 3], c_ast_node_children_1_4⟩

def r_ast_node_children_1_5_0 : List AOper := [
  ⟨some 3, .mv (.k (.bool false)), none, 0, []⟩]
def r_ast_node_children_1_5_1 : List AOper := [
  ⟨some 4, .ldC (none) (.t 1), none, 0, []⟩,
  ⟨some 5, .mv (.t 0), none, 0, []⟩,
  ⟨some 6, .build [.nptr, .nptr] [(1, 1, .t 5)], none, 0, []⟩,
  ⟨some 7, .call false (.t 4) [.t 6], none, 0, []⟩,
  ⟨some 3, .mv (.t 7), none, 0, []⟩]
def c_ast_node_children_1_5 : AC :=
  (.seq
   (.reg false r_ast_node_children_1_5_0 (some [0, 1]))
   (.seq
    (.reg false r_ast_node_children_1_5_1 (some [3]))
    .ret))
def f_ast_node_children_1_5 : AFun := ⟨2, [.tmp 3], c_ast_node_children_1_5⟩

def r_slices_IndexFunc_string_string_0 : List AOper := [
  ⟨some 4, .mv (.k (.int .i64 0)), none, 0, []⟩]
def r_slices_IndexFunc_string_string_1 : List AOper := [
  ⟨some 6, .mv (.t 0), none, 0, []⟩,
  ⟨some 7, .len 1 (.t 6), none, 0, []⟩,
  ⟨some 8, .mv (.k (.int .i64 0)), none, 0, []⟩]
def r_slices_IndexFunc_string_string_2 : List AOper := [
  ⟨some 9, .bin 0 .lss (.t 8) (.t 7), none, 0, []⟩]
def r_slices_IndexFunc_string_string_3 : List AOper := [
  ⟨some 10, .mv (.t 8), none, 0, []⟩,
  ⟨some 5, .mv (.t 10), none, 0, []⟩]
def r_slices_IndexFunc_string_string_4 : List AOper := [
  ⟨some 11, .mv (.t 1), none, 0, []⟩,
  ⟨some 12, .mv (.t 0), none, 0, []⟩,
  ⟨some 13, .mv (.t 5), none, 0, []⟩,
  ⟨some 14, .iad 1 (.t 12) (.t 13), none, 0, []⟩,
  ⟨some 15, .ldC (none) (.t 14), none, 0, []⟩,
  ⟨some 16, .call false (.t 11) [.t 15], none, 0, []⟩]
def r_slices_IndexFunc_string_string_5 : List AOper := [
  ⟨some 17, .mv (.t 5), none, 0, []⟩,
  ⟨some 4, .mv (.t 17), none, 0, []⟩]
def r_slices_IndexFunc_string_string_6 : List AOper := [
  ⟨some 18, .bin 0 .add (.t 8) (.k (.int .i64 1)), none, 0, []⟩,
  ⟨some 8, .mv (.t 18), none, 0, []⟩]
def r_slices_IndexFunc_string_string_7 : List AOper := [
  ⟨some 4, .mv (.k (.int .i64 (-1))), none, 0, []⟩]
def c_slices_IndexFunc_string_string : AC :=
  (.seq
   (.reg false r_slices_IndexFunc_string_string_0 (some [0, 1]))
   (.seq
    (.seq
     (.reg false r_slices_IndexFunc_string_string_1 (some [0, 1, 7, 8]))
     (.block 0
      (.loop
       (.seq
        (.reg false r_slices_IndexFunc_string_string_2 (some [0, 1, 7, 8, 9]))
        (.seq
         (.cond (.t 9)
          .skip
          (.exit 0))
         (.seq
          (.block 1
           (.seq
            (.reg false r_slices_IndexFunc_string_string_3 (some [0, 1, 5, 7, 8]))
            (.seq
             (.reg false r_slices_IndexFunc_string_string_4 (some [0, 1, 5, 7, 8, 16]))
             (.cond (.t 16)
              (.seq
               (.reg false r_slices_IndexFunc_string_string_5 (some [4]))
               .ret)
              .skip))))
          (.reg false r_slices_IndexFunc_string_string_6 (some [0, 1, 7, 8]))))))))
    (.seq
     (.reg false r_slices_IndexFunc_string_string_7 (some [4]))
     .ret)))
def f_slices_IndexFunc_string_string : AFun := ⟨2, [.tmp 4], c_slices_IndexFunc_string_string⟩

def r_internal_stringslite_Index_0 : List AOper := [
  ⟨some 4, .mv (.k (.int .i64 0)), none, 0, []⟩]
def r_internal_stringslite_Index_1 : List AOper := [
  ⟨some 14, .mv (.t 1), none, 0, []⟩,
  ⟨some 15, .len 0 (.t 14), none, 0, []⟩,
  ⟨some 5, .mv (.t 15), none, 0, []⟩]
def r_internal_stringslite_Index_2 : List AOper := [
  ⟨some 17, .mv (.t 5), none, 0, []⟩,
  ⟨some 18, .bin 0 .eql (.t 17) (.k (.int .i64 0)), none, 0, []⟩,
  ⟨some 19, .mv (.t 18), none, 0, []⟩,
  ⟨some 20, .mv (.t 1), some (19, false), 0, []⟩,
  ⟨some 21, .mv (.t 0), some (19, false), 0, []⟩,
  ⟨some 22, .bin 0 .eql (.t 20) (.t 21), some (19, false), 0, []⟩,
  ⟨some 23, .pick (.t 19) (.k (.bool true)) (.t 22), none, 0, []⟩,
  ⟨some 16, .mv (.t 23), none, 0, []⟩]
def r_internal_stringslite_Index_3 : List AOper := [
  ⟨some 4, .mv (.k (.int .i64 0)), none, 0, []⟩]
def r_internal_stringslite_Index_4 : List AOper := [
  ⟨some 25, .mv (.t 5), none, 0, []⟩,
  ⟨some 26, .bin 0 .eql (.t 25) (.k (.int .i64 1)), none, 0, []⟩,
  ⟨some 24, .mv (.t 26), none, 0, []⟩]
def r_internal_stringslite_Index_5 : List AOper := [
  ⟨some 27, .mv (.t 0), none, 0, []⟩,
  ⟨some 28, .mv (.t 1), none, 0, []⟩,
  ⟨some 29, .ixs (.t 28) (.k (.int .i64 0)), none, 0, []⟩,
  ⟨some 30, .call true (.k (.fn F.internal_stringslite_IndexByte [] [])) [.t 27, .t 29], none, 0, []⟩,
  ⟨some 4, .mv (.t 30), none, 0, []⟩]
def r_internal_stringslite_Index_6 : List AOper := [
  ⟨some 32, .mv (.t 5), none, 0, []⟩,
  ⟨some 33, .mv (.t 0), none, 0, []⟩,
  ⟨some 34, .len 0 (.t 33), none, 0, []⟩,
  ⟨some 35, .bin 0 .geq (.t 32) (.t 34), none, 0, []⟩,
  ⟨some 31, .mv (.t 35), none, 0, []⟩]
def r_internal_stringslite_Index_7 : List AOper := [
  ⟨some 4, .mv (.k (.int .i64 (-1))), none, 0, []⟩]
def r_internal_stringslite_Index_8 : List AOper := [
  ⟨some 37, .mv (.t 5), none, 0, []⟩,
  ⟨some 38, .ldC (none) (.g Gl.internal_bytealg_MaxLen), none, 0, []⟩,
  ⟨some 39, .bin 0 .leq (.t 37) (.t 38), none, 0, []⟩,
  ⟨some 40, .mv (.t 39), none, 0, []⟩,
  ⟨some 41, .mv (.t 0), some (40, true), 0, []⟩,
  ⟨some 42, .len 0 (.t 41), some (40, true), 0, []⟩,
  ⟨some 43, .bin 0 .leq (.t 42) (.k (.int .i64 64)), some (40, true), 0, []⟩,
  ⟨some 44, .pick (.t 40) (.t 43) (.k (.bool false)), none, 0, []⟩,
  ⟨some 36, .mv (.t 44), none, 0, []⟩]
def r_internal_stringslite_Index_9 : List AOper := [
  ⟨some 45, .mv (.t 0), none, 0, []⟩,
  ⟨some 46, .mv (.t 1), none, 0, []⟩,
  ⟨some 47, .ixS 155 4 (.t 45) (.t 46), none, 0, []⟩,
  ⟨some 4, .mv (.t 47), none, 0, []⟩]
def r_internal_stringslite_Index_10 : List AOper := [
  ⟨some 48, .mv (.t 1), none, 0, []⟩,
  ⟨some 49, .ixs (.t 48) (.k (.int .i64 0)), none, 0, []⟩,
  ⟨some 6, .mv (.t 49), none, 0, []⟩]
def r_internal_stringslite_Index_11 : List AOper := [
  ⟨some 50, .mv (.t 1), none, 0, []⟩,
  ⟨some 51, .ixs (.t 50) (.k (.int .i64 1)), none, 0, []⟩,
  ⟨some 7, .mv (.t 51), none, 0, []⟩]
def r_internal_stringslite_Index_12 : List AOper := [
  ⟨some 8, .mv (.k (.int .i64 0)), none, 0, []⟩]
def r_internal_stringslite_Index_13 : List AOper := [
  ⟨some 52, .mv (.t 0), none, 0, []⟩,
  ⟨some 53, .len 0 (.t 52), none, 0, []⟩,
  ⟨some 54, .mv (.t 5), none, 0, []⟩,
  ⟨some 55, .bin 0 .sub (.t 53) (.t 54), none, 0, []⟩,
  ⟨some 56, .bin 0 .add (.t 55) (.k (.int .i64 1)), none, 0, []⟩,
  ⟨some 9, .mv (.t 56), none, 0, []⟩]
def r_internal_stringslite_Index_14 : List AOper := [
  ⟨some 10, .mv (.k (.int .i64 0)), none, 0, []⟩]
def r_internal_stringslite_Index_15 : List AOper := [
  ⟨some 57, .mv (.t 8), none, 0, []⟩,
  ⟨some 58, .mv (.t 9), none, 0, []⟩,
  ⟨some 59, .bin 0 .lss (.t 57) (.t 58), none, 0, []⟩]
def r_internal_stringslite_Index_16 : List AOper := [
  ⟨some 60, .mv (.t 0), none, 0, []⟩,
  ⟨some 61, .mv (.t 8), none, 0, []⟩,
  ⟨some 62, .ixs (.t 60) (.t 61), none, 0, []⟩,
  ⟨some 63, .mv (.t 6), none, 0, []⟩,
  ⟨some 64, .bin 0 .neq (.t 62) (.t 63), none, 0, []⟩]
def r_internal_stringslite_Index_17 : List AOper := [
  ⟨some 65, .mv (.t 0), none, 0, []⟩,
  ⟨some 66, .mv (.t 8), none, 0, []⟩,
  ⟨some 67, .bin 0 .add (.t 66) (.k (.int .i64 1)), none, 0, []⟩,
  ⟨some 68, .mv (.t 9), none, 0, []⟩,
  ⟨some 69, .sls (.t 65) (some (.t 67)) (some (.t 68)), none, 0, []⟩,
  ⟨some 70, .mv (.t 6), none, 0, []⟩,
  ⟨some 71, .call true (.k (.fn F.internal_stringslite_IndexByte [] [])) [.t 69, .t 70], none, 0, []⟩,
  ⟨some 11, .mv (.t 71), none, 0, []⟩]
def r_internal_stringslite_Index_18 : List AOper := [
  ⟨some 72, .mv (.t 11), none, 0, []⟩,
  ⟨some 73, .bin 0 .lss (.t 72) (.k (.int .i64 0)), none, 0, []⟩]
def r_internal_stringslite_Index_19 : List AOper := [
  ⟨some 4, .mv (.k (.int .i64 (-1))), none, 0, []⟩]
def r_internal_stringslite_Index_20 : List AOper := [
  ⟨some 74, .mv (.t 8), none, 0, []⟩,
  ⟨some 75, .mv (.t 11), none, 0, []⟩,
  ⟨some 76, .bin 0 .add (.t 75) (.k (.int .i64 1)), none, 0, []⟩,
  ⟨some 77, .bin 0 .add (.t 74) (.t 76), none, 0, []⟩,
  ⟨some 8, .mv (.t 77), none, 0, []⟩]
def r_internal_stringslite_Index_21 : List AOper := [
  ⟨some 78, .mv (.t 0), none, 0, []⟩,
  ⟨some 79, .mv (.t 8), none, 0, []⟩,
  ⟨some 80, .bin 0 .add (.t 79) (.k (.int .i64 1)), none, 0, []⟩,
  ⟨some 81, .ixs (.t 78) (.t 80), none, 0, []⟩,
  ⟨some 82, .mv (.t 7), none, 0, []⟩,
  ⟨some 83, .bin 0 .eql (.t 81) (.t 82), none, 0, []⟩,
  ⟨some 84, .mv (.t 83), none, 0, []⟩,
  ⟨some 85, .mv (.t 0), some (84, true), 0, []⟩,
  ⟨some 86, .mv (.t 8), some (84, true), 0, []⟩,
  ⟨some 87, .mv (.t 8), some (84, true), 0, []⟩,
  ⟨some 88, .mv (.t 5), some (84, true), 0, []⟩,
  ⟨some 89, .bin 0 .add (.t 87) (.t 88), some (84, true), 0, []⟩,
  ⟨some 90, .sls (.t 85) (some (.t 86)) (some (.t 89)), some (84, true), 0, []⟩,
  ⟨some 91, .mv (.t 1), some (84, true), 0, []⟩,
  ⟨some 92, .bin 0 .eql (.t 90) (.t 91), some (84, true), 0, []⟩,
  ⟨some 93, .pick (.t 84) (.t 92) (.k (.bool false)), none, 0, []⟩]
def r_internal_stringslite_Index_22 : List AOper := [
  ⟨some 94, .mv (.t 8), none, 0, []⟩,
  ⟨some 4, .mv (.t 94), none, 0, []⟩]
def r_internal_stringslite_Index_23 : List AOper := [
  ⟨some 95, .mv (.t 8), none, 0, []⟩,
  ⟨some 96, .bin 0 .add (.t 95) (.k (.int .i64 1)), none, 0, []⟩,
  ⟨some 8, .mv (.t 96), none, 0, []⟩]
def r_internal_stringslite_Index_24 : List AOper := [
  ⟨some 97, .mv (.t 10), none, 0, []⟩,
  ⟨some 98, .bin 0 .add (.t 97) (.k (.int .i64 1)), none, 0, []⟩,
  ⟨some 10, .mv (.t 98), none, 0, []⟩]
def r_internal_stringslite_Index_25 : List AOper := [
  ⟨some 99, .mv (.t 5), none, 0, []⟩,
  ⟨some 100, .ldC (none) (.g Gl.internal_bytealg_MaxLen), none, 0, []⟩,
  ⟨some 101, .bin 0 .leq (.t 99) (.t 100), none, 0, []⟩,
  ⟨some 102, .mv (.t 101), none, 0, []⟩,
  ⟨some 103, .mv (.t 10), some (102, true), 0, []⟩,
  ⟨some 104, .mv (.t 8), some (102, true), 0, []⟩,
  ⟨some 105, .call true (.k (.fn F.internal_bytealg_Cutover [] [])) [.t 104], some (102, true), 0, []⟩,
  ⟨some 106, .bin 0 .gtr (.t 103) (.t 105), some (102, true), 0, []⟩,
  ⟨some 107, .pick (.t 102) (.t 106) (.k (.bool false)), none, 0, []⟩]
def r_internal_stringslite_Index_26 : List AOper := [
  ⟨some 108, .mv (.t 0), none, 0, []⟩,
  ⟨some 109, .mv (.t 8), none, 0, []⟩,
  ⟨some 110, .sls (.t 108) (some (.t 109)) none, none, 0, []⟩,
  ⟨some 111, .mv (.t 1), none, 0, []⟩,
  ⟨some 112, .ixS 155 4 (.t 110) (.t 111), none, 0, []⟩,
  ⟨some 12, .mv (.t 112), none, 0, []⟩]
def r_internal_stringslite_Index_27 : List AOper := [
  ⟨some 113, .mv (.t 12), none, 0, []⟩,
  ⟨some 114, .bin 0 .geq (.t 113) (.k (.int .i64 0)), none, 0, []⟩]
def r_internal_stringslite_Index_28 : List AOper := [
  ⟨some 115, .mv (.t 12), none, 0, []⟩,
  ⟨some 116, .mv (.t 8), none, 0, []⟩,
  ⟨some 117, .bin 0 .add (.t 115) (.t 116), none, 0, []⟩,
  ⟨some 4, .mv (.t 117), none, 0, []⟩]
def r_internal_stringslite_Index_29 : List AOper := [
  ⟨some 4, .mv (.k (.int .i64 (-1))), none, 0, []⟩]
def r_internal_stringslite_Index_30 : List AOper := [
  ⟨some 118, .mv (.t 5), none, 0, []⟩,
  ⟨some 119, .ldC (none) (.g Gl.internal_bytealg_MaxLen), none, 0, []⟩,
  ⟨some 120, .bin 0 .gtr (.t 118) (.t 119), none, 0, []⟩,
  ⟨some 121, .mv (.t 120), none, 0, []⟩,
  ⟨some 122, .mv (.t 10), some (121, true), 0, []⟩,
  ⟨some 123, .mv (.t 8), some (121, true), 0, []⟩,
  ⟨some 124, .bin 0 .shr (.t 123) (.k (.int .u64 4)), some (121, true), 0, []⟩,
  ⟨some 125, .bin 0 .add (.k (.int .i64 4)) (.t 124), some (121, true), 0, []⟩,
  ⟨some 126, .bin 0 .geq (.t 122) (.t 125), some (121, true), 0, []⟩,
  ⟨some 127, .pick (.t 121) (.t 126) (.k (.bool false)), none, 0, []⟩,
  ⟨some 128, .mv (.t 127), none, 0, []⟩,
  ⟨some 129, .mv (.t 8), some (128, true), 0, []⟩,
  ⟨some 130, .mv (.t 9), some (128, true), 0, []⟩,
  ⟨some 131, .bin 0 .lss (.t 129) (.t 130), some (128, true), 0, []⟩,
  ⟨some 132, .pick (.t 128) (.t 131) (.k (.bool false)), none, 0, []⟩]
def r_internal_stringslite_Index_31 : List AOper := [
  ⟨some 133, .mv (.t 0), none, 0, []⟩,
  ⟨some 134, .mv (.t 8), none, 0, []⟩,
  ⟨some 135, .sls (.t 133) (some (.t 134)) none, none, 0, []⟩,
  ⟨some 136, .mv (.t 1), none, 0, []⟩,
  ⟨some 137, .call true (.k (.fn F.internal_bytealg_IndexRabinKarp_string [] [])) [.t 135, .t 136], none, 0, []⟩,
  ⟨some 13, .mv (.t 137), none, 0, []⟩]
def r_internal_stringslite_Index_32 : List AOper := [
  ⟨some 138, .mv (.t 13), none, 0, []⟩,
  ⟨some 139, .bin 0 .lss (.t 138) (.k (.int .i64 0)), none, 0, []⟩]
def r_internal_stringslite_Index_33 : List AOper := [
  ⟨some 4, .mv (.k (.int .i64 (-1))), none, 0, []⟩]
def r_internal_stringslite_Index_34 : List AOper := [
  ⟨some 140, .mv (.t 8), none, 0, []⟩,
  ⟨some 141, .mv (.t 13), none, 0, []⟩,
  ⟨some 142, .bin 0 .add (.t 140) (.t 141), none, 0, []⟩,
  ⟨some 4, .mv (.t 142), none, 0, []⟩]
def r_internal_stringslite_Index_35 : List AOper := [
  ⟨some 4, .mv (.k (.int .i64 (-1))), none, 0, []⟩]
def c_internal_stringslite_Index : AC :=
  (.seq
   (.reg false r_internal_stringslite_Index_0 (some [0, 1]))
   (.seq
    (.reg false r_internal_stringslite_Index_1 (some [0, 1, 5]))
    (.seq
     (.block 0
      (.seq
       (.reg false r_internal_stringslite_Index_2 (some [0, 1, 5, 16]))
       (.cond (.t 16)
        (.seq
         (.reg false r_internal_stringslite_Index_3 (some [4]))
         .ret)
        (.seq
         (.reg false r_internal_stringslite_Index_4 (some [0, 1, 5, 24]))
         (.cond (.t 24)
          (.seq
           (.reg false r_internal_stringslite_Index_5 (some [4]))
           .ret)
          (.seq
           (.reg false r_internal_stringslite_Index_6 (some [0, 1, 5, 31]))
           (.cond (.t 31)
            (.seq
             (.reg false r_internal_stringslite_Index_7 (some [4]))
             .ret)
            (.seq
             (.reg false r_internal_stringslite_Index_8 (some [0, 1, 5, 36]))
             (.cond (.t 36)
              (.seq
               (.reg false r_internal_stringslite_Index_9 (some [4]))
               .ret)
              .skip)))))))))
     (.seq
      (.reg false r_internal_stringslite_Index_10 (some [0, 1, 5, 6]))
      (.seq
       (.reg false r_internal_stringslite_Index_11 (some [0, 1, 5, 6, 7]))
       (.seq
        (.reg false r_internal_stringslite_Index_12 (some [0, 1, 5, 6, 7, 8]))
        (.seq
         (.reg false r_internal_stringslite_Index_13 (some [0, 1, 5, 6, 7, 8, 9]))
         (.seq
          (.reg false r_internal_stringslite_Index_14 (some [0, 1, 5, 6, 7, 8, 9, 10]))
          (.seq
           (.block 1
            (.loop
             (.seq
              (.seq
               (.reg false r_internal_stringslite_Index_15 (some [0, 1, 5, 6, 7, 8, 9, 10, 59]))
               (.cond (.t 59)
                .skip
                (.exit 1)))
              (.block 2
               (.seq
                (.seq
                 (.reg false r_internal_stringslite_Index_16 (some [0, 1, 5, 6, 7, 8, 9, 10, 64]))
                 (.cond (.t 64)
                  (.seq
                   (.reg false r_internal_stringslite_Index_17 (some [0, 1, 5, 6, 7, 8, 9, 10, 11]))
                   (.seq
                    (.seq
                     (.reg false r_internal_stringslite_Index_18 (some [0, 1, 5, 6, 7, 8, 9, 10, 11, 73]))
                     (.cond (.t 73)
                      (.seq
                       (.reg false r_internal_stringslite_Index_19 (some [4]))
                       .ret)
                      .skip))
                    (.reg false r_internal_stringslite_Index_20 (some [0, 1, 5, 6, 7, 8, 9, 10]))))
                  .skip))
                (.seq
                 (.seq
                  (.reg false r_internal_stringslite_Index_21 (some [0, 1, 5, 6, 7, 8, 9, 10, 93]))
                  (.cond (.t 93)
                   (.seq
                    (.reg false r_internal_stringslite_Index_22 (some [4]))
                    .ret)
                   .skip))
                 (.seq
                  (.reg false r_internal_stringslite_Index_23 (some [0, 1, 5, 6, 7, 8, 9, 10]))
                  (.seq
                   (.reg false r_internal_stringslite_Index_24 (some [0, 1, 5, 6, 7, 8, 9, 10]))
                   (.seq
                    (.reg false r_internal_stringslite_Index_25 (some [0, 1, 5, 6, 7, 8, 9, 10, 107]))
                    (.cond (.t 107)
                     (.seq
                      (.reg false r_internal_stringslite_Index_26 (some [8, 12]))
                      (.seq
                       (.seq
                        (.reg false r_internal_stringslite_Index_27 (some [8, 12, 114]))
                        (.cond (.t 114)
                         (.seq
                          (.reg false r_internal_stringslite_Index_28 (some [4]))
                          .ret)
                         .skip))
                       (.seq
                        (.reg false r_internal_stringslite_Index_29 (some [4]))
                        .ret)))
                     (.seq
                      (.reg false r_internal_stringslite_Index_30 (some [0, 1, 5, 6, 7, 8, 9, 10, 132]))
                      (.cond (.t 132)
                       (.seq
                        (.reg false r_internal_stringslite_Index_31 (some [8, 13]))
                        (.seq
                         (.seq
                          (.reg false r_internal_stringslite_Index_32 (some [8, 13, 139]))
                          (.cond (.t 139)
                           (.seq
                            (.reg false r_internal_stringslite_Index_33 (some [4]))
                            .ret)
                           .skip))
                         (.seq
                          (.reg false r_internal_stringslite_Index_34 (some [4]))
                          .ret)))
                       .skip))))))))))))
           (.seq
            (.reg false r_internal_stringslite_Index_35 (some [4]))
            .ret))))))))))
def f_internal_stringslite_Index : AFun := ⟨2, [.tmp 4], c_internal_stringslite_Index⟩

def r_internal_bytealg_Cutover_0 : List AOper := [
  ⟨some 2, .mv (.k (.int .i64 0)), none, 0, []⟩]
def r_internal_bytealg_Cutover_1 : List AOper := [
  ⟨some 3, .mv (.t 0), none, 0, []⟩,
  ⟨some 4, .bin 0 .add (.t 3) (.k (.int .i64 16)), none, 0, []⟩,
  ⟨some 5, .bin 0 .quo (.t 4) (.k (.int .i64 8)), none, 0, []⟩,
  ⟨some 2, .mv (.t 5), none, 0, []⟩]
def c_internal_bytealg_Cutover : AC :=
  (.seq
   (.reg false r_internal_bytealg_Cutover_0 (some [0]))
   (.seq
    (.reg false r_internal_bytealg_Cutover_1 (some [2]))
    .ret))
def f_internal_bytealg_Cutover : AFun := ⟨1, [.tmp 2], c_internal_bytealg_Cutover⟩

def r_internal_bytealg_IndexRabinKarp_string_0 : List AOper := [
  ⟨some 4, .mv (.k (.int .i64 0)), none, 0, []⟩]
def r_internal_bytealg_IndexRabinKarp_string_1 : List AOper := [
  ⟨some 12, .mv (.t 1), none, 0, []⟩,
  ⟨some 13, .call true (.k (.fn F.internal_bytealg_hashStr_string [] [])) [.t 12], none, 0, []⟩,
  ⟨some 11, .mv (.t 13), none, 0, []⟩,
  ⟨some 14, .ext (.t 11) 0, none, 0, []⟩,
  ⟨some 15, .ext (.t 11) 1, none, 0, []⟩,
  ⟨some 5, .mv (.t 14), none, 0, []⟩,
  ⟨some 6, .mv (.t 15), none, 0, []⟩]
def r_internal_bytealg_IndexRabinKarp_string_2 : List AOper := [
  ⟨some 16, .mv (.t 1), none, 0, []⟩,
  ⟨some 17, .len 0 (.t 16), none, 0, []⟩,
  ⟨some 7, .mv (.t 17), none, 0, []⟩]
def r_internal_bytealg_IndexRabinKarp_string_3 : List AOper := [
  ⟨some 8, .mv (.k (.int .u32 0)), none, 0, []⟩]
def r_internal_bytealg_IndexRabinKarp_string_4 : List AOper := [
  ⟨some 9, .mv (.k (.int .i64 0)), none, 0, []⟩]
def r_internal_bytealg_IndexRabinKarp_string_5 : List AOper := [
  ⟨some 18, .mv (.t 9), none, 0, []⟩,
  ⟨some 19, .mv (.t 7), none, 0, []⟩,
  ⟨some 20, .bin 0 .lss (.t 18) (.t 19), none, 0, []⟩]
def r_internal_bytealg_IndexRabinKarp_string_7 : List AOper := [
  ⟨some 23, .mv (.t 8), none, 0, []⟩,
  ⟨some 24, .bin 0 .mul (.t 23) (.k (.int .u32 16777619)), none, 0, []⟩,
  ⟨some 25, .mv (.t 0), none, 0, []⟩,
  ⟨some 26, .mv (.t 9), none, 0, []⟩,
  ⟨some 27, .ixs (.t 25) (.t 26), none, 0, []⟩,
  ⟨some 28, .cvI .u32 (.t 27), none, 0, []⟩,
  ⟨some 29, .bin 0 .add (.t 24) (.t 28), none, 0, []⟩,
  ⟨some 8, .mv (.t 29), none, 0, []⟩]
def r_internal_bytealg_IndexRabinKarp_string_6 : List AOper := [
  ⟨some 21, .mv (.t 9), none, 0, []⟩,
  ⟨some 22, .bin 0 .add (.t 21) (.k (.int .i64 1)), none, 0, []⟩,
  ⟨some 9, .mv (.t 22), none, 0, []⟩]
def r_internal_bytealg_IndexRabinKarp_string_8 : List AOper := [
  ⟨some 30, .mv (.t 8), none, 0, []⟩,
  ⟨some 31, .mv (.t 5), none, 0, []⟩,
  ⟨some 32, .bin 0 .eql (.t 30) (.t 31), none, 0, []⟩,
  ⟨some 33, .mv (.t 32), none, 0, []⟩,
  ⟨some 34, .mv (.t 0), some (33, true), 0, []⟩,
  ⟨some 35, .mv (.t 7), some (33, true), 0, []⟩,
  ⟨some 36, .sls (.t 34) none (some (.t 35)), some (33, true), 0, []⟩,
  ⟨some 37, .mv (.t 1), some (33, true), 0, []⟩,
  ⟨some 38, .bin 0 .eql (.t 36) (.t 37), some (33, true), 0, []⟩,
  ⟨some 39, .pick (.t 33) (.t 38) (.k (.bool false)), none, 0, []⟩]
def r_internal_bytealg_IndexRabinKarp_string_9 : List AOper := [
  ⟨some 4, .mv (.k (.int .i64 0)), none, 0, []⟩]
def r_internal_bytealg_IndexRabinKarp_string_10 : List AOper := [
  ⟨some 40, .mv (.t 7), none, 0, []⟩,
  ⟨some 10, .mv (.t 40), none, 0, []⟩]
def r_internal_bytealg_IndexRabinKarp_string_11 : List AOper := [
  ⟨some 41, .mv (.t 10), none, 0, []⟩,
  ⟨some 42, .mv (.t 0), none, 0, []⟩,
  ⟨some 43, .len 0 (.t 42), none, 0, []⟩,
  ⟨some 44, .bin 0 .lss (.t 41) (.t 43), none, 0, []⟩]
def r_internal_bytealg_IndexRabinKarp_string_12 : List AOper := [
  ⟨some 45, .mv (.t 8), none, 0, []⟩,
  ⟨some 46, .bin 0 .mul (.t 45) (.k (.int .u32 16777619)), none, 0, []⟩,
  ⟨some 8, .mv (.t 46), none, 0, []⟩]
def r_internal_bytealg_IndexRabinKarp_string_13 : List AOper := [
  ⟨some 47, .mv (.t 8), none, 0, []⟩,
  ⟨some 48, .mv (.t 0), none, 0, []⟩,
  ⟨some 49, .mv (.t 10), none, 0, []⟩,
  ⟨some 50, .ixs (.t 48) (.t 49), none, 0, []⟩,
  ⟨some 51, .cvI .u32 (.t 50), none, 0, []⟩,
  ⟨some 52, .bin 0 .add (.t 47) (.t 51), none, 0, []⟩,
  ⟨some 8, .mv (.t 52), none, 0, []⟩]
def r_internal_bytealg_IndexRabinKarp_string_14 : List AOper := [
  ⟨some 53, .mv (.t 8), none, 0, []⟩,
  ⟨some 54, .mv (.t 6), none, 0, []⟩,
  ⟨some 55, .mv (.t 0), none, 0, []⟩,
  ⟨some 56, .mv (.t 10), none, 0, []⟩,
  ⟨some 57, .mv (.t 7), none, 0, []⟩,
  ⟨some 58, .bin 0 .sub (.t 56) (.t 57), none, 0, []⟩,
  ⟨some 59, .ixs (.t 55) (.t 58), none, 0, []⟩,
  ⟨some 60, .cvI .u32 (.t 59), none, 0, []⟩,
  ⟨some 61, .bin 0 .mul (.t 54) (.t 60), none, 0, []⟩,
  ⟨some 62, .bin 0 .sub (.t 53) (.t 61), none, 0, []⟩,
  ⟨some 8, .mv (.t 62), none, 0, []⟩]
def r_internal_bytealg_IndexRabinKarp_string_15 : List AOper := [
  ⟨some 63, .mv (.t 10), none, 0, []⟩,
  ⟨some 64, .bin 0 .add (.t 63) (.k (.int .i64 1)), none, 0, []⟩,
  ⟨some 10, .mv (.t 64), none, 0, []⟩]
def r_internal_bytealg_IndexRabinKarp_string_16 : List AOper := [
  ⟨some 65, .mv (.t 8), none, 0, []⟩,
  ⟨some 66, .mv (.t 5), none, 0, []⟩,
  ⟨some 67, .bin 0 .eql (.t 65) (.t 66), none, 0, []⟩,
  ⟨some 68, .mv (.t 67), none, 0, []⟩,
  ⟨some 69, .mv (.t 0), some (68, true), 0, []⟩,
  ⟨some 70, .mv (.t 10), some (68, true), 0, []⟩,
  ⟨some 71, .mv (.t 7), some (68, true), 0, []⟩,
  ⟨some 72, .bin 0 .sub (.t 70) (.t 71), some (68, true), 0, []⟩,
  ⟨some 73, .mv (.t 10), some (68, true), 0, []⟩,
  ⟨some 74, .sls (.t 69) (some (.t 72)) (some (.t 73)), some (68, true), 0, []⟩,
  ⟨some 75, .mv (.t 1), some (68, true), 0, []⟩,
  ⟨some 76, .bin 0 .eql (.t 74) (.t 75), some (68, true), 0, []⟩,
  ⟨some 77, .pick (.t 68) (.t 76) (.k (.bool false)), none, 0, []⟩]
def r_internal_bytealg_IndexRabinKarp_string_17 : List AOper := [
  ⟨some 78, .mv (.t 10), none, 0, []⟩,
  ⟨some 79, .mv (.t 7), none, 0, []⟩,
  ⟨some 80, .bin 0 .sub (.t 78) (.t 79), none, 0, []⟩,
  ⟨some 4, .mv (.t 80), none, 0, []⟩]
def r_internal_bytealg_IndexRabinKarp_string_18 : List AOper := [
  ⟨some 4, .mv (.k (.int .i64 (-1))), none, 0, []⟩]
def c_internal_bytealg_IndexRabinKarp_string : AC :=
  (.seq
   (.reg false r_internal_bytealg_IndexRabinKarp_string_0 (some [0, 1]))
   (.seq
    (.reg false r_internal_bytealg_IndexRabinKarp_string_1 (some [0, 1, 5, 6]))
    (.seq
     (.reg false r_internal_bytealg_IndexRabinKarp_string_2 (some [0, 1, 5, 6, 7]))
     (.seq
      (.reg false r_internal_bytealg_IndexRabinKarp_string_3 (some [0, 1, 5, 6, 7, 8]))
      (.seq
       (.seq
        (.reg false r_internal_bytealg_IndexRabinKarp_string_4 (some [0, 1, 5, 6, 7, 8, 9]))
        (.block 0
         (.loop
          (.seq
           (.seq
            (.reg false r_internal_bytealg_IndexRabinKarp_string_5 (some [0, 1, 5, 6, 7, 8, 9, 20]))
            (.cond (.t 20)
             .skip
             (.exit 0)))
           (.seq
            (.block 1
             (.reg false r_internal_bytealg_IndexRabinKarp_string_7 (some [0, 1, 5, 6, 7, 8, 9])))
            (.reg false r_internal_bytealg_IndexRabinKarp_string_6 (some [0, 1, 5, 6, 7, 8, 9])))))))
       (.seq
        (.seq
         (.reg false r_internal_bytealg_IndexRabinKarp_string_8 (some [0, 1, 5, 6, 7, 8, 39]))
         (.cond (.t 39)
          (.seq
           (.reg false r_internal_bytealg_IndexRabinKarp_string_9 (some [4]))
           .ret)
          .skip))
        (.seq
         (.seq
          (.reg false r_internal_bytealg_IndexRabinKarp_string_10 (some [0, 1, 5, 6, 7, 8, 10]))
          (.block 2
           (.loop
            (.seq
             (.seq
              (.reg false r_internal_bytealg_IndexRabinKarp_string_11 (some [0, 1, 5, 6, 7, 8, 10, 44]))
              (.cond (.t 44)
               .skip
               (.exit 2)))
             (.block 3
              (.seq
               (.reg false r_internal_bytealg_IndexRabinKarp_string_12 (some [0, 1, 5, 6, 7, 8, 10]))
               (.seq
                (.reg false r_internal_bytealg_IndexRabinKarp_string_13 (some [0, 1, 5, 6, 7, 8, 10]))
                (.seq
                 (.reg false r_internal_bytealg_IndexRabinKarp_string_14 (some [0, 1, 5, 6, 7, 8, 10]))
                 (.seq
                  (.reg false r_internal_bytealg_IndexRabinKarp_string_15 (some [0, 1, 5, 6, 7, 8, 10]))
                  (.seq
                   (.reg false r_internal_bytealg_IndexRabinKarp_string_16 (some [0, 1, 5, 6, 7, 8, 10, 77]))
                   (.cond (.t 77)
                    (.seq
                     (.reg false r_internal_bytealg_IndexRabinKarp_string_17 (some [4]))
                     .ret)
                    .skip)))))))))))
         (.seq
          (.reg false r_internal_bytealg_IndexRabinKarp_string_18 (some [4]))
          .ret))))))))
def f_internal_bytealg_IndexRabinKarp_string : AFun := ⟨2, [.tmp 4], c_internal_bytealg_IndexRabinKarp_string⟩

def r_internal_bytealg_hashStr_string_0 : List AOper := [
  ⟨some 2, .mv (.k (.int .u32 0)), none, 0, []⟩,
  ⟨some 3, .mv (.k (.int .u32 0)), none, 0, []⟩]
def r_internal_bytealg_hashStr_string_1 : List AOper := [
  ⟨some 4, .mv (.k (.int .u32 0)), none, 0, []⟩]
def r_internal_bytealg_hashStr_string_2 : List AOper := [
  ⟨some 5, .mv (.k (.int .i64 0)), none, 0, []⟩]
def r_internal_bytealg_hashStr_string_3 : List AOper := [
  ⟨some 9, .mv (.t 5), none, 0, []⟩,
  ⟨some 10, .mv (.t 0), none, 0, []⟩,
  ⟨some 11, .len 0 (.t 10), none, 0, []⟩,
  ⟨some 12, .bin 0 .lss (.t 9) (.t 11), none, 0, []⟩]
def r_internal_bytealg_hashStr_string_5 : List AOper := [
  ⟨some 15, .mv (.t 4), none, 0, []⟩,
  ⟨some 16, .bin 0 .mul (.t 15) (.k (.int .u32 16777619)), none, 0, []⟩,
  ⟨some 17, .mv (.t 0), none, 0, []⟩,
  ⟨some 18, .mv (.t 5), none, 0, []⟩,
  ⟨some 19, .ixs (.t 17) (.t 18), none, 0, []⟩,
  ⟨some 20, .cvI .u32 (.t 19), none, 0, []⟩,
  ⟨some 21, .bin 0 .add (.t 16) (.t 20), none, 0, []⟩,
  ⟨some 4, .mv (.t 21), none, 0, []⟩]
def r_internal_bytealg_hashStr_string_4 : List AOper := [
  ⟨some 13, .mv (.t 5), none, 0, []⟩,
  ⟨some 14, .bin 0 .add (.t 13) (.k (.int .i64 1)), none, 0, []⟩,
  ⟨some 5, .mv (.t 14), none, 0, []⟩]
def r_internal_bytealg_hashStr_string_6 : List AOper := [
  ⟨some 6, .mv (.k (.int .u32 1)), none, 0, []⟩,
  ⟨some 7, .mv (.k (.int .u32 16777619)), none, 0, []⟩]
def r_internal_bytealg_hashStr_string_7 : List AOper := [
  ⟨some 22, .mv (.t 0), none, 0, []⟩,
  ⟨some 23, .len 0 (.t 22), none, 0, []⟩,
  ⟨some 8, .mv (.t 23), none, 0, []⟩]
def r_internal_bytealg_hashStr_string_8 : List AOper := [
  ⟨some 24, .mv (.t 8), none, 0, []⟩,
  ⟨some 25, .bin 0 .gtr (.t 24) (.k (.int .i64 0)), none, 0, []⟩]
def r_internal_bytealg_hashStr_string_10 : List AOper := [
  ⟨some 28, .mv (.t 8), none, 0, []⟩,
  ⟨some 29, .bin 0 .and (.t 28) (.k (.int .i64 1)), none, 0, []⟩,
  ⟨some 30, .bin 0 .neq (.t 29) (.k (.int .i64 0)), none, 0, []⟩]
def r_internal_bytealg_hashStr_string_11 : List AOper := [
  ⟨some 31, .mv (.t 6), none, 0, []⟩,
  ⟨some 32, .mv (.t 7), none, 0, []⟩,
  ⟨some 33, .bin 0 .mul (.t 31) (.t 32), none, 0, []⟩,
  ⟨some 6, .mv (.t 33), none, 0, []⟩]
def r_internal_bytealg_hashStr_string_12 : List AOper := [
  ⟨some 34, .mv (.t 7), none, 0, []⟩,
  ⟨some 35, .mv (.t 7), none, 0, []⟩,
  ⟨some 36, .bin 0 .mul (.t 34) (.t 35), none, 0, []⟩,
  ⟨some 7, .mv (.t 36), none, 0, []⟩]
def r_internal_bytealg_hashStr_string_9 : List AOper := [
  ⟨some 26, .mv (.t 8), none, 0, []⟩,
  ⟨some 27, .bin 0 .shr (.t 26) (.k (.int .u64 1)), none, 0, []⟩,
  ⟨some 8, .mv (.t 27), none, 0, []⟩]
def r_internal_bytealg_hashStr_string_13 : List AOper := [
  ⟨some 37, .mv (.t 4), none, 0, []⟩,
  ⟨some 38, .mv (.t 6), none, 0, []⟩,
  ⟨some 2, .mv (.t 37), none, 0, []⟩,
  ⟨some 3, .mv (.t 38), none, 0, []⟩]
def c_internal_bytealg_hashStr_string : AC :=
  (.seq
   (.reg false r_internal_bytealg_hashStr_string_0 (some [0]))
   (.seq
    (.reg false r_internal_bytealg_hashStr_string_1 (some [0, 4]))
    (.seq
     (.seq
      (.reg false r_internal_bytealg_hashStr_string_2 (some [0, 4, 5]))
      (.block 0
       (.loop
        (.seq
         (.seq
          (.reg false r_internal_bytealg_hashStr_string_3 (some [0, 4, 5, 12]))
          (.cond (.t 12)
           .skip
           (.exit 0)))
         (.seq
          (.block 1
           (.reg false r_internal_bytealg_hashStr_string_5 (some [0, 4, 5])))
          (.reg false r_internal_bytealg_hashStr_string_4 (some [0, 4, 5])))))))
     (.seq
      (.reg false r_internal_bytealg_hashStr_string_6 (some [0, 4, 6, 7]))
      (.seq
       (.seq
        (.reg false r_internal_bytealg_hashStr_string_7 (some [4, 6, 7, 8]))
        (.block 2
         (.loop
          (.seq
           (.seq
            (.reg false r_internal_bytealg_hashStr_string_8 (some [4, 6, 7, 8, 25]))
            (.cond (.t 25)
             .skip
             (.exit 2)))
           (.seq
            (.block 3
             (.seq
              (.seq
               (.reg false r_internal_bytealg_hashStr_string_10 (some [4, 6, 7, 8, 30]))
               (.cond (.t 30)
                (.reg false r_internal_bytealg_hashStr_string_11 (some [4, 6, 7, 8]))
                .skip))
              (.reg false r_internal_bytealg_hashStr_string_12 (some [4, 6, 7, 8]))))
            (.reg false r_internal_bytealg_hashStr_string_9 (some [4, 6, 7, 8])))))))
       (.seq
        (.reg false r_internal_bytealg_hashStr_string_13 (some [2, 3]))
        .ret))))))
def f_internal_bytealg_hashStr_string : AFun := ⟨1, [.tmp 2, .tmp 3], c_internal_bytealg_hashStr_string⟩
def fnTree : FT :=
  (.node (.node (.node (.node (.node (.node (.node .leaf
         7 f_law07_ParseNames
         .leaf)
        12 f_ast_Check
        .leaf)
       14 f_ast_CheckExpr
       (.node (.node .leaf
         16 f_ast_CheckStmt
         .leaf)
        28 f_ast_Width
        .leaf))
      36 f_law07_lives
      (.node (.node (.node .leaf
         37 f_parse_Expr
         .leaf)
        38 f_kit_Expr
        .leaf)
       39 f_parse_Level
       (.node (.node .leaf
         40 f_parse_Parse
         .leaf)
        44 f_ast_all
        .leaf)))
     45 f_ast_check
     (.node (.node (.node (.node .leaf
         46 f_ast_global
         .leaf)
        47 f_ast_name
        .leaf)
       48 f_ast_decl
       (.node (.node .leaf
         56 f_ast_node_size
         .leaf)
        57 f_ast_node_deep
        .leaf))
      68 f_ast_same
      (.node (.node (.node .leaf
         74 f_parse_Stmts
         .leaf)
        75 f_law07_bin
        .leaf)
       76 f_law07_num
       (.node (.node .leaf
         77 f_parse_Expr_1
         .leaf)
        79 f_parse_begin
        .leaf))))
    80 f_parse_parser_expr
    (.node (.node (.node (.node (.node .leaf
         81 f_parse_parser_end
         .leaf)
        82 f_parse_judge
        .leaf)
       83 f_kit_Exprs
       (.node (.node .leaf
         84 f_parse_Parse_1
         .leaf)
        85 f_parse_parser_must
        .leaf))
      86 f_parse_parser_number
      (.node (.node (.node .leaf
         87 f_parse_parser_isType
         .leaf)
        88 f_parse_parser_declared
        .leaf)
       89 f_parse_parser_is
       (.node (.node .leaf
         90 f_parse_parser_gate
         .leaf)
        91 f_parse_parser_decl
        .leaf)))
     92 f_ast_each_api_Stmt
     (.node (.node (.node (.node .leaf
         93 f_ast_all_1
         .leaf)
        94 f_ast_node_right
        .leaf)
       95 f_lex_Kind
       (.node (.node .leaf
         96 f_slices_ContainsFunc_api_Param_api_Param
         .leaf)
        97 f_ast_decl_1
        .leaf))
      103 f_ast_node_children
      (.node (.node (.node .leaf
         104 f_parse_Stmts_1
         .leaf)
        105 f_parse_parser_stmt
        .leaf)
       106 f_lex_All
       (.node .leaf
        107 f_lex_Line
        .leaf)))))
   108 f_parse_parser_unary
   (.node (.node (.node (.node (.node (.node .leaf
         109 f_parse_parser_may
         .leaf)
        110 f_parse_parser_wrong
        .leaf)
       111 f_parse_long
       (.node (.node .leaf
         112 f_parse_parser_now
         .leaf)
        113 f_parse_parser_typ
        .leaf))
      114 f_parse_parser_name
      (.node (.node (.node .leaf
         115 f_parse_parser_block
         .leaf)
        116 f_ast_expr
        .leaf)
       117 f_ast_stmt
       (.node (.node .leaf
         118 f_lex_letter
         .leaf)
        119 f_lex_digit
        .leaf)))
     120 f_slices_IndexFunc_api_Param_api_Param
     (.node (.node (.node (.node .leaf
         124 f_ast_node_children_1
         .leaf)
        125 f_ast_each_api_Expr
        .leaf)
       126 f_ast_node_children_1_1
       (.node (.node .leaf
         127 f_ast_node_children_1_2
         .leaf)
        128 f_ast_node_children_1_3
        .leaf))
      129 f_ast_node_children_1_4
      (.node (.node (.node .leaf
         130 f_ast_node_children_1_5
         .leaf)
        131 f_parse_parser_one
        .leaf)
       132 f_parse_parser_test
       (.node .leaf
        133 f_parse_parser_args
        .leaf))))
    134 f_lex_between
    (.node (.node (.node (.node (.node .leaf
         135 f_lex_lexer_skip
         .leaf)
        136 f_parse_parser_primary
        .leaf)
       137 f_word_Name
       (.node (.node .leaf
         138 f_ast_operator
         .leaf)
        139 f_ast_stmt_1
        .leaf))
      140 f_slices_ContainsFunc_string_string
      (.node (.node (.node .leaf
         141 f_ast_stmt_2
         .leaf)
        142 f_lex_lexer_now
        .leaf)
       143 f_strings_IndexByte
       (.node (.node .leaf
         144 f_lex_word
         .leaf)
        145 f_lex_number
        .leaf)))
     146 f_lex_sign
     (.node (.node (.node (.node .leaf
         147 f_slices_IndexFunc_string_string
         .leaf)
        148 f_internal_stringslite_IndexByte
        .leaf)
       149 f_lex_lexer_token
       (.node (.node .leaf
         150 f_lex_hex
         .leaf)
        151 f_strings_Contains
        .leaf))
      153 f_strings_Index
      (.node (.node (.node .leaf
         154 f_internal_stringslite_Index
         .leaf)
        156 f_internal_bytealg_Cutover
        .leaf)
       157 f_internal_bytealg_IndexRabinKarp_string
       (.node .leaf
        158 f_internal_bytealg_hashStr_string
        .leaf))))))
end Go.Lt
