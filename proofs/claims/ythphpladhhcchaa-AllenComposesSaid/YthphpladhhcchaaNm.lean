/- The numbers of the functions, by name. Written by program off the translation. No condition. -/
import Derived.Test.YthphpladhhcchaaBi
import Derived.Test.YthphpladhhcchaaProg
namespace Go.Proofs
open Go.Bi
abbrev N.main_main : FuncId := 0
abbrev N.gosem_cut : FuncId := 1
abbrev N.gosem_cut_init : FuncId := 2
abbrev N.bt_law02_AllenInverse : FuncId := 3
abbrev N.bt_law02_AllenComposes : FuncId := 4
abbrev N.bt_law02_AllenCompose : FuncId := 5
abbrev N.bt_law02_AllenTighten : FuncId := 6
abbrev N.bt_law02_AllenSound : FuncId := 7
abbrev N.bt_law02_AllenOne : FuncId := 8
abbrev N.bt_law02_AllenNames : FuncId := 9
abbrev N.allen_Inverse : FuncId := 10
abbrev N.bt_ref02_Inverse : FuncId := 11
abbrev N.bt_law02_awake : FuncId := 12
abbrev N.allen_Relation : FuncId := 13
abbrev N.bt_ref01_Valid : FuncId := 14
abbrev N.allen_Compose : FuncId := 15
abbrev N.bt_ref02_Ints : FuncId := 16
abbrev N.bt_ref02_Compose : FuncId := 17
abbrev N.bt_ref02_Large : FuncId := 18
abbrev N.allen_Tighten : FuncId := 19
abbrev N.bt_ref02_Tighten : FuncId := 20
abbrev N.bt_ref02_Same : FuncId := 21
abbrev N.allen_Satisfied : FuncId := 22
abbrev N.bt_ref02_Satisfied : FuncId := 23
abbrev N.allen_Holds : FuncId := 24
abbrev N.bt_ref02_Holds : FuncId := 25
abbrev N.allen_Name : FuncId := 26
abbrev N.bt_ref02_Name : FuncId := 27
abbrev N.allen_Find : FuncId := 28
abbrev N.bt_ref02_Find : FuncId := 29
abbrev N.allen_exists : FuncId := 30
abbrev N.period_Valid : FuncId := 31
abbrev N.allen_compositions : FuncId := 32
abbrev N.allen_set_list : FuncId := 33
abbrev N.bt_ref02_Table : FuncId := 34
abbrev N.allen_build : FuncId := 35
abbrev N.allen_narrowed : FuncId := 36
abbrev N.bt_ref02_Valid : FuncId := 37
abbrev N.bt_ref02_start : FuncId := 38
abbrev N.bt_ref02_once : FuncId := 39
abbrev N.allen_of : FuncId := 40
abbrev N.allen_set_has : FuncId := 41
abbrev N.bt_ref02_Relation : FuncId := 42
abbrev N.bt_ref02_in : FuncId := 43
abbrev N.bt_ref02_Is : FuncId := 44
abbrev N.allen_names : FuncId := 45
abbrev N.allen_set_or : FuncId := 46
abbrev N.allen_one : FuncId := 47
abbrev N.bt_ref02_small : FuncId := 48
abbrev N.allen_full : FuncId := 49
abbrev N.allen_set_and : FuncId := 50
abbrev N.allen_set_inverse : FuncId := 51
abbrev N.pallen_table_compose : FuncId := 52
abbrev N.bt_ref02_possible : FuncId := 53
abbrev N.runtime_boundsError_Error : FuncId := 54
abbrev N.runtime_boundsError_RuntimeError : FuncId := 55
abbrev N.runtime_errorString_Error : FuncId := 56
abbrev N.runtime_errorString_RuntimeError : FuncId := 57
abbrev N.runtime_plainError_Error : FuncId := 58
abbrev N.runtime_plainError_RuntimeError : FuncId := 59
abbrev N.runtime_errorAddressString_Error : FuncId := 60
abbrev N.runtime_errorAddressString_RuntimeError : FuncId := 61
abbrev N.pruntime_TypeAssertionError_Error : FuncId := 62
abbrev N.pruntime_TypeAssertionError_RuntimeError : FuncId := 63
abbrev N.pruntime_PanicNilError_Error : FuncId := 64
abbrev N.pruntime_PanicNilError_RuntimeError : FuncId := 65
abbrev N.pinternal_abi_Type_Align : FuncId := 66
abbrev N.internal_runtime_maps_unhashableTypeError_Error : FuncId := 67
abbrev N.internal_runtime_maps_unhashableTypeError_RuntimeError : FuncId := 68
abbrev N.internal_abi_Kind_String : FuncId := 69
theorem mixed : Try.prog.follows .mixedOrders = true := by kernel_rfl
end Go.Proofs
