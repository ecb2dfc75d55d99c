/- The numbers of the functions, by name. Written by program off the translation. No condition. -/
import Derived.Test.YtjngjdgimlnnjaaBi
import Derived.Test.YtjngjdgimlnnjaaProg
namespace Go.Proofs
open Go.Bi
abbrev N.bt_law14_EvolveComposes : FuncId := 6
abbrev N.evolve_Check : FuncId := 7
abbrev N.bt_law14_awake : FuncId := 9
abbrev N.evolve_Apply : FuncId := 10
abbrev N.bt_ref13_Same : FuncId := 11
abbrev N.evolve_Run : FuncId := 14
abbrev N.schema_Check : FuncId := 15
abbrev N.evolve_spare : FuncId := 16
abbrev N.evolve_checkAdd : FuncId := 17
abbrev N.schema_Find : FuncId := 18
abbrev N.evolve_used : FuncId := 19
abbrev N.schema_Name : FuncId := 20
abbrev N.bt_ref13_Find : FuncId := 23
abbrev N.bt_law14_sample : FuncId := 26
abbrev N.bt_ref07_Int : FuncId := 27
abbrev N.schema_Clone : FuncId := 28
abbrev N.evolve_drop : FuncId := 29
abbrev N.bt_ref13_Ints : FuncId := 30
abbrev N.bt_ref11_List : FuncId := 31
abbrev N.evolve_below : FuncId := 35
abbrev N.schema_checkColumns : FuncId := 36
abbrev N.schema_checkKey : FuncId := 37
abbrev N.schema_checkForeigns : FuncId := 38
abbrev N.schema_checkChecks : FuncId := 39
abbrev N.value_Valid : FuncId := 40
abbrev N.slices_IndexFunc__api_Column_api_Column : FuncId := 41
abbrev N.schema_Find_c1 : FuncId := 42
abbrev N.evolve_used_c1 : FuncId := 43
abbrev N.expr_Columns : FuncId := 44
abbrev N.schema_reserved : FuncId := 45
abbrev N.bt_ref07_Valid : FuncId := 46
abbrev N.bt_ref07_valid : FuncId := 51
abbrev N.slices_Clone__api_Column_api_Column : FuncId := 52
abbrev N.slices_Clone__int_int : FuncId := 53
abbrev N.expr_Shift : FuncId := 54
abbrev N.slices_Delete__api_Column_api_Column : FuncId := 55
abbrev N.expr_Substitute : FuncId := 56
abbrev N.bt_ref11_Same : FuncId := 57
abbrev N.schema_kindOK : FuncId := 62
abbrev N.schema_has : FuncId := 63
abbrev N.expr_Check : FuncId := 64
abbrev N.schema_Kinds : FuncId := 65
abbrev N.value_printable : FuncId := 66
abbrev N.expr_visit : FuncId := 67
abbrev N.expr_Columns_c1 : FuncId := 68
abbrev N.slices_Sort__int_int : FuncId := 69
abbrev N.slices_Compact__int_int : FuncId := 70
abbrev N.bt_ref07_Printable : FuncId := 71
abbrev N.bt_ref07_Null : FuncId := 73
abbrev N.expr_mapped : FuncId := 74
abbrev N.expr_Shift_c1 : FuncId := 75
abbrev N.expr_Substitute_c1 : FuncId := 76
abbrev N.expr_Substitute_c1_c1 : FuncId := 77
abbrev N.expr_Depth : FuncId := 80
abbrev N.expr_check : FuncId := 81
abbrev N.expr_depth : FuncId := 87
abbrev N.expr_counts : FuncId := 88
abbrev N.expr_formed : FuncId := 89
abbrev N.expr_result : FuncId := 90
abbrev N.expr_all : FuncId := 104
abbrev N.expr_unite : FuncId := 105
theorem mixed : Try.prog.follows .mixedOrders = true := by kernel_rfl
end Go.Proofs
