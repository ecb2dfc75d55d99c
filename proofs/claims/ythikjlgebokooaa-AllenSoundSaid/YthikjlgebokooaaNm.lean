/- The numbers of the functions, by name. Written by program off the translation. No condition. -/
import Derived.Test.YthikjlgebokooaaBi
import Derived.Test.YthikjlgebokooaaProg
namespace Go.Proofs
open Go.Bi
abbrev N.main_main : FuncId := 0
abbrev N.gosem_cut : FuncId := 1
abbrev N.gosem_cut_init : FuncId := 2
abbrev N.bt_law02_AllenTighten : FuncId := 3
abbrev N.bt_law02_AllenSound : FuncId := 4
abbrev N.bt_ref02_Large : FuncId := 5
abbrev N.bt_law02_awake : FuncId := 6
abbrev N.allen_Tighten : FuncId := 7
abbrev N.bt_ref02_Tighten : FuncId := 8
abbrev N.bt_ref02_Same : FuncId := 9
abbrev N.allen_Satisfied : FuncId := 10
abbrev N.bt_ref02_Satisfied : FuncId := 11
abbrev N.allen_Relation : FuncId := 12
abbrev N.bt_ref02_Ints : FuncId := 13
abbrev N.allen_Compose : FuncId := 14
abbrev N.allen_Name : FuncId := 15
abbrev N.allen_build : FuncId := 16
abbrev N.allen_compositions : FuncId := 17
abbrev N.allen_narrowed : FuncId := 18
abbrev N.allen_set_list : FuncId := 19
abbrev N.bt_ref02_Valid : FuncId := 20
abbrev N.bt_ref02_Table : FuncId := 21
abbrev N.bt_ref02_start : FuncId := 22
abbrev N.bt_ref02_once : FuncId := 23
abbrev N.period_Valid : FuncId := 24
abbrev N.allen_of : FuncId := 25
abbrev N.allen_set_has : FuncId := 26
abbrev N.bt_ref01_Valid : FuncId := 27
abbrev N.bt_ref02_Relation : FuncId := 28
abbrev N.bt_ref02_in : FuncId := 29
abbrev N.allen_exists : FuncId := 30
abbrev N.allen_names : FuncId := 31
abbrev N.allen_full : FuncId := 32
abbrev N.allen_one : FuncId := 33
abbrev N.allen_set_and : FuncId := 34
abbrev N.allen_set_inverse : FuncId := 35
abbrev N.allen_set_or : FuncId := 36
abbrev N.pallen_table_compose : FuncId := 37
abbrev N.bt_ref02_small : FuncId := 38
abbrev N.bt_ref02_Inverse : FuncId := 39
abbrev N.bt_ref02_possible : FuncId := 40
abbrev N.bt_ref02_Holds : FuncId := 41
abbrev N.allen_Inverse : FuncId := 42
abbrev N.bt_ref02_Is : FuncId := 43
abbrev N.runtime_boundsError_Error : FuncId := 44
abbrev N.runtime_boundsError_RuntimeError : FuncId := 45
abbrev N.runtime_errorString_Error : FuncId := 46
abbrev N.runtime_errorString_RuntimeError : FuncId := 47
abbrev N.runtime_plainError_Error : FuncId := 48
abbrev N.runtime_plainError_RuntimeError : FuncId := 49
abbrev N.runtime_errorAddressString_Error : FuncId := 50
abbrev N.runtime_errorAddressString_RuntimeError : FuncId := 51
abbrev N.pruntime_TypeAssertionError_Error : FuncId := 52
abbrev N.pruntime_TypeAssertionError_RuntimeError : FuncId := 53
abbrev N.pruntime_PanicNilError_Error : FuncId := 54
abbrev N.pruntime_PanicNilError_RuntimeError : FuncId := 55
abbrev N.pinternal_abi_Type_Align : FuncId := 56
abbrev N.internal_runtime_maps_unhashableTypeError_Error : FuncId := 57
abbrev N.internal_runtime_maps_unhashableTypeError_RuntimeError : FuncId := 58
abbrev N.internal_abi_Kind_String : FuncId := 59
theorem mixed : Try.prog.follows .mixedOrders = true := by kernel_rfl
end Go.Proofs
