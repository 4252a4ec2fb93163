/- Texts of the claim WalPlays, joined: Typ, ShPack, Sl2, Sl3, Mp, Mp2, CBytes, PNum, Bit, PDisk, PWal, PWal2, PWal3, PWal4. -/
import Derived.Test.YthladblmjoaeoaaBWalPlays1
import Derived.Test.YthladblmjoaeoaaBWalPlays2
import Derived.Laws.MakeOwn
import Derived.Maps.Keyed
import Derived.Maps.RangeRun
import Derived.Carry
/- Printed by an own tool (wip/tools/typ.py). -/
namespace Go.Proofs.Ythladblmjoaeoaa
set_option linter.unusedVariables false
set_option linter.unusedSimpArgs false
open Go.Eng
instance : TyI PR T_t1 false 1 := TyI.mk' (by kernel_rfl) (by kernel_rfl)
instance : TyZ PR T_t1 (.nilFunc) := TyZ.mk' (by kernel_rfl)
instance : TyI PR T_int64 false 1 := TyI.mk' (by kernel_rfl) (by kernel_rfl)
instance : TyZ PR T_int64 (.int .i64 0) := TyZ.mk' (by kernel_rfl)
instance : TyI PR T_int false 1 := TyI.mk' (by kernel_rfl) (by kernel_rfl)
instance : TyZ PR T_int (.int .i64 0) := TyZ.mk' (by kernel_rfl)
instance : TyI PR T_bool false 1 := TyI.mk' (by kernel_rfl) (by kernel_rfl)
instance : TyZ PR T_bool (.bool false) := TyZ.mk' (by kernel_rfl)
instance : TyI PR T_uint8 false 1 := TyI.mk' (by kernel_rfl) (by kernel_rfl)
instance : TyZ PR T_uint8 (.int .u8 0) := TyZ.mk' (by kernel_rfl)
instance : TyI PR T_abi_BoundsErrorCode false 1 := TyI.mk' (by kernel_rfl) (by kernel_rfl)
instance : TyZ PR T_abi_BoundsErrorCode (.int .u8 0) := TyZ.mk' (by kernel_rfl)
instance : TyI PR T_t7 true 4 := TyI.mk' (by kernel_rfl) (by kernel_rfl)
instance : TyZ PR T_t7 (.agg #[.int .i64 0, .int .i64 0, .bool false, .int .u8 0]) := TyZ.mk' (by kernel_rfl)
instance : EqS PR T_t7 [.i, .i, .b, .i] := EqS.mk' (by kernel_rfl) (by kernel_rfl) (by kernel_rfl)
instance : TyI PR T_runtime_boundsError true 4 := TyI.mk' (by kernel_rfl) (by kernel_rfl)
instance : TyZ PR T_runtime_boundsError (.agg #[.int .i64 0, .int .i64 0, .bool false, .int .u8 0]) := TyZ.mk' (by kernel_rfl)
instance : TyI PR T_string false 1 := TyI.mk' (by kernel_rfl) (by kernel_rfl)
instance : TyZ PR T_string (.string ⟨#[]⟩) := TyZ.mk' (by kernel_rfl)
instance : StrT PR T_string := ⟨by kernel_rfl⟩
instance : TyI PR T_runtime_errorString false 1 := TyI.mk' (by kernel_rfl) (by kernel_rfl)
instance : TyZ PR T_runtime_errorString (.string ⟨#[]⟩) := TyZ.mk' (by kernel_rfl)
instance : StrT PR T_runtime_errorString := ⟨by kernel_rfl⟩
instance : TyI PR T_runtime_plainError false 1 := TyI.mk' (by kernel_rfl) (by kernel_rfl)
instance : TyZ PR T_runtime_plainError (.string ⟨#[]⟩) := TyZ.mk' (by kernel_rfl)
instance : StrT PR T_runtime_plainError := ⟨by kernel_rfl⟩
instance : TyI PR T_uintptr false 1 := TyI.mk' (by kernel_rfl) (by kernel_rfl)
instance : TyZ PR T_uintptr (.int .u64 0) := TyZ.mk' (by kernel_rfl)
instance : TyI PR T_t13 true 2 := TyI.mk' (by kernel_rfl) (by kernel_rfl)
instance : TyZ PR T_t13 (.agg #[.string ⟨#[]⟩, .int .u64 0]) := TyZ.mk' (by kernel_rfl)
instance : TyI PR T_runtime_errorAddressString true 2 := TyI.mk' (by kernel_rfl) (by kernel_rfl)
instance : TyZ PR T_runtime_errorAddressString (.agg #[.string ⟨#[]⟩, .int .u64 0]) := TyZ.mk' (by kernel_rfl)
instance : TyI PR T_p_runtime_TypeAssertionError false 1 := TyI.mk' (by kernel_rfl) (by kernel_rfl)
instance : TyZ PR T_p_runtime_TypeAssertionError (.pointer none) := TyZ.mk' (by kernel_rfl)
instance : TyI PR T_p_runtime_PanicNilError false 1 := TyI.mk' (by kernel_rfl) (by kernel_rfl)
instance : TyZ PR T_p_runtime_PanicNilError (.pointer none) := TyZ.mk' (by kernel_rfl)
instance : TyI PR T_p_abi_Type false 1 := TyI.mk' (by kernel_rfl) (by kernel_rfl)
instance : TyZ PR T_p_abi_Type (.pointer none) := TyZ.mk' (by kernel_rfl)
instance : TyI PR T_t18 true 1 := TyI.mk' (by kernel_rfl) (by kernel_rfl)
instance : TyZ PR T_t18 (.agg #[.pointer none]) := TyZ.mk' (by kernel_rfl)
instance : TyI PR T_maps_unhashableTypeError true 1 := TyI.mk' (by kernel_rfl) (by kernel_rfl)
instance : TyZ PR T_maps_unhashableTypeError (.agg #[.pointer none]) := TyZ.mk' (by kernel_rfl)
instance : TyI PR T_t20 false 1 := TyI.mk' (by kernel_rfl) (by kernel_rfl)
instance : TyZ PR T_t20 (.nilIface) := TyZ.mk' (by kernel_rfl)
instance : TyI PR T_int32 false 1 := TyI.mk' (by kernel_rfl) (by kernel_rfl)
instance : TyZ PR T_int32 (.int .i32 0) := TyZ.mk' (by kernel_rfl)
instance : TyI PR T_s_rostrumlaw5_Act false 1 := TyI.mk' (by kernel_rfl) (by kernel_rfl)
instance : TyZ PR T_s_rostrumlaw5_Act (.slice none 0 0) := TyZ.mk' (by kernel_rfl)
instance : TyS PR T_s_rostrumlaw5_Act T_rostrumlaw5_Act 6 64 (.agg #[.int .i64 0, .int .i64 0, .int .i64 0, .int .i64 0, .int .u8 0, .slice none 0 0]) := TyS.mk' (by kernel_rfl) (by kernel_rfl) (by kernel_rfl)
instance : TyI PR T_t23 false 1 := TyI.mk' (by kernel_rfl) (by kernel_rfl)
instance : TyZ PR T_t23 (.nilFunc) := TyZ.mk' (by kernel_rfl)
instance : TyI PR T_p_disk_Disk false 1 := TyI.mk' (by kernel_rfl) (by kernel_rfl)
instance : TyZ PR T_p_disk_Disk (.pointer none) := TyZ.mk' (by kernel_rfl)
instance : TyI PR T_api_Errno false 1 := TyI.mk' (by kernel_rfl) (by kernel_rfl)
instance : TyZ PR T_api_Errno (.int .i64 0) := TyZ.mk' (by kernel_rfl)
instance : TyI PR T_t27 false 1 := TyI.mk' (by kernel_rfl) (by kernel_rfl)
instance : TyZ PR T_t27 (.nilFunc) := TyZ.mk' (by kernel_rfl)
instance : TyI PR T_s_uint8 false 1 := TyI.mk' (by kernel_rfl) (by kernel_rfl)
instance : TyZ PR T_s_uint8 (.slice none 0 0) := TyZ.mk' (by kernel_rfl)
instance : BytesT PR T_s_uint8 T_uint8 := ⟨by kernel_rfl, by kernel_rfl⟩
instance : TyS PR T_s_uint8 T_uint8 1 1 (.int .u8 0) := TyS.mk' (by kernel_rfl) (by kernel_rfl) (by kernel_rfl)
instance : TyI PR T_t29 true 6 := TyI.mk' (by kernel_rfl) (by kernel_rfl)
instance : TyZ PR T_t29 (.agg #[.int .i64 0, .int .i64 0, .int .i64 0, .int .i64 0, .int .u8 0, .slice none 0 0]) := TyZ.mk' (by kernel_rfl)
instance : TyI PR T_rostrumlaw5_Act true 6 := TyI.mk' (by kernel_rfl) (by kernel_rfl)
instance : TyZ PR T_rostrumlaw5_Act (.agg #[.int .i64 0, .int .i64 0, .int .i64 0, .int .i64 0, .int .u8 0, .slice none 0 0]) := TyZ.mk' (by kernel_rfl)
instance : TyI PR T_t31 false 1 := TyI.mk' (by kernel_rfl) (by kernel_rfl)
instance : TyZ PR T_t31 (.nilFunc) := TyZ.mk' (by kernel_rfl)
instance : TyI PR T_t32 false 1 := TyI.mk' (by kernel_rfl) (by kernel_rfl)
instance : TyZ PR T_t32 (.nilFunc) := TyZ.mk' (by kernel_rfl)
instance : TyI PR T_a4_string true 4 := TyI.mk' (by kernel_rfl) (by kernel_rfl)
instance : TyZ PR T_a4_string (.agg #[.string ⟨#[]⟩, .string ⟨#[]⟩, .string ⟨#[]⟩, .string ⟨#[]⟩]) := TyZ.mk' (by kernel_rfl)
instance : EqS PR T_a4_string [.s, .s, .s, .s] := EqS.mk' (by kernel_rfl) (by kernel_rfl) (by kernel_rfl)
instance : TyI PR T_t35 false 1 := TyI.mk' (by kernel_rfl) (by kernel_rfl)
instance : TyZ PR T_t35 (.nilFunc) := TyZ.mk' (by kernel_rfl)
instance : TyI PR T_t36 false 1 := TyI.mk' (by kernel_rfl) (by kernel_rfl)
instance : TyZ PR T_t36 (.nilFunc) := TyZ.mk' (by kernel_rfl)
instance : TyI PR T_t37 false 1 := TyI.mk' (by kernel_rfl) (by kernel_rfl)
instance : TyZ PR T_t37 (.nilFunc) := TyZ.mk' (by kernel_rfl)
instance : TyI PR T_s_s_uint8 false 1 := TyI.mk' (by kernel_rfl) (by kernel_rfl)
instance : TyZ PR T_s_s_uint8 (.slice none 0 0) := TyZ.mk' (by kernel_rfl)
instance : TyS PR T_s_s_uint8 T_s_uint8 1 24 (.slice none 0 0) := TyS.mk' (by kernel_rfl) (by kernel_rfl) (by kernel_rfl)
instance : TyI PR T_t39 false 1 := TyI.mk' (by kernel_rfl) (by kernel_rfl)
instance : TyZ PR T_t39 (.nilFunc) := TyZ.mk' (by kernel_rfl)
instance : TyI PR T_t40 false 1 := TyI.mk' (by kernel_rfl) (by kernel_rfl)
instance : TyZ PR T_t40 (.nilFunc) := TyZ.mk' (by kernel_rfl)
instance : TyI PR T_t41 false 1 := TyI.mk' (by kernel_rfl) (by kernel_rfl)
instance : TyZ PR T_t41 (.nilFunc) := TyZ.mk' (by kernel_rfl)
instance : TyI PR T_s_int false 1 := TyI.mk' (by kernel_rfl) (by kernel_rfl)
instance : TyZ PR T_s_int (.slice none 0 0) := TyZ.mk' (by kernel_rfl)
instance : TyS PR T_s_int T_int 1 8 (.int .i64 0) := TyS.mk' (by kernel_rfl) (by kernel_rfl) (by kernel_rfl)
instance : TyI PR T_t43 false 1 := TyI.mk' (by kernel_rfl) (by kernel_rfl)
instance : TyZ PR T_t43 (.nilFunc) := TyZ.mk' (by kernel_rfl)
instance : TyI PR T_t44 false 1 := TyI.mk' (by kernel_rfl) (by kernel_rfl)
instance : TyZ PR T_t44 (.nilFunc) := TyZ.mk' (by kernel_rfl)
instance : TyI PR T_p_rostrumref5_Disk false 1 := TyI.mk' (by kernel_rfl) (by kernel_rfl)
instance : TyZ PR T_p_rostrumref5_Disk (.pointer none) := TyZ.mk' (by kernel_rfl)
instance : TyI PR T_a1000_bool true 1000 := TyI.mk' (by kernel_rfl) (by kernel_rfl)
instance : TyZ PR T_a1000_bool (.agg #[.bool false, .bool false, .bool false, .bool false, .bool false, .bool false, .bool false, .bool false, .bool false, .bool false, .bool false, .bool false, .bool false, .bool false, .bool false, .bool false, .bool false, .bool false, .bool false, .bool false, .bool false, .bool false, .bool false, .bool false, .bool false, .bool false, .bool false, .bool false, .bool false, .bool false, .bool false, .bool false, .bool false, .bool false, .bool false, .bool false, .bool false, .bool false, .bool false, .bool false, .bool false, .bool false, .bool false, .bool false, .bool false, .bool false, .bool false, .bool false, .bool false, .bool false, .bool false, .bool false, .bool false, .bool false, .bool false, .bool false, .bool false, .bool false, .bool false, .bool false, .bool false, .bool false, .bool false, .bool false, .bool false, .bool false, .bool false, .bool false, .bool false, .bool false, .bool false, .bool false, .bool false, .bool false, .bool false, .bool false, .bool false, .bool false, .bool false, .bool false, .bool false, .bool false, .bool false, .bool false, .bool false, .bool false, .bool false, .bool false, .bool false, .bool false, .bool false, .bool false, .bool false, .bool false, .bool false, .bool false, .bool false, .bool false, .bool false, .bool false, .bool false, .bool false, .bool false, .bool false, .bool false, .bool false, .bool false, .bool false, .bool false, .bool false, .bool false, .bool false, .bool false, .bool false, .bool false, .bool false, .bool false, .bool false, .bool false, .bool false, .bool false, .bool false, .bool false, .bool false, .bool false, .bool false, .bool false, .bool false, .bool false, .bool false, .bool false, .bool false, .bool false, .bool false, .bool false, .bool false, .bool false, .bool false, .bool false, .bool false, .bool false, .bool false, .bool false, .bool false, .bool false, .bool false, .bool false, .bool false, .bool false, .bool false, .bool false, .bool false, .bool false, .bool false, .bool false, .bool false, .bool false, .bool false, .bool false, .bool false, .bool false, .bool false, .bool false, .bool false, .bool false, .bool false, .bool false, .bool false, .bool false, .bool false, .bool false, .bool false, .bool false, .bool false, .bool false, .bool false, .bool false, .bool false, .bool false, .bool false, .bool false, .bool false, .bool false, .bool false, .bool false, .bool false, .bool false, .bool false, .bool false, .bool false, .bool false, .bool false, .bool false, .bool false, .bool false, .bool false, .bool false, .bool false, .bool false, .bool false, .bool false, .bool false, .bool false, .bool false, .bool false, .bool false, .bool false, .bool false, .bool false, .bool false, .bool false, .bool false, .bool false, .bool false, .bool false, .bool false, .bool false, .bool false, .bool false, .bool false, .bool false, .bool false, .bool false, .bool false, .bool false, .bool false, .bool false, .bool false, .bool false, .bool false, .bool false, .bool false, .bool false, .bool false, .bool false, .bool false, .bool false, .bool false, .bool false, .bool false, .bool false, .bool false, .bool false, .bool false, .bool false, .bool false, .bool false, .bool false, .bool false, .bool false, .bool false, .bool false, .bool false, .bool false, .bool false, .bool false, .bool false, .bool false, .bool false, .bool false, .bool false, .bool false, .bool false, .bool false, .bool false, .bool false, .bool false, .bool false, .bool false, .bool false, .bool false, .bool false, .bool false, .bool false, .bool false, .bool false, .bool false, .bool false, .bool false, .bool false, .bool false, .bool false, .bool false, .bool false, .bool false, .bool false, .bool false, .bool false, .bool false, .bool false, .bool false, .bool false, .bool false, .bool false, .bool false, .bool false, .bool false, .bool false, .bool false, .bool false, .bool false, .bool false, .bool false, .bool false, .bool false, .bool false, .bool false, .bool false, .bool false, .bool false, .bool false, .bool false, .bool false, .bool false, .bool false, .bool false, .bool false, .bool false, .bool false, .bool false, .bool false, .bool false, .bool false, .bool false, .bool false, .bool false, .bool false, .bool false, .bool false, .bool false, .bool false, .bool false, .bool false, .bool false, .bool false, .bool false, .bool false, .bool false, .bool false, .bool false, .bool false, .bool false, .bool false, .bool false, .bool false, .bool false, .bool false, .bool false, .bool false, .bool false, .bool false, .bool false, .bool false, .bool false, .bool false, .bool false, .bool false, .bool false, .bool false, .bool false, .bool false, .bool false, .bool false, .bool false, .bool false, .bool false, .bool false, .bool false, .bool false, .bool false, .bool false, .bool false, .bool false, .bool false, .bool false, .bool false, .bool false, .bool false, .bool false, .bool false, .bool false, .bool false, .bool false, .bool false, .bool false, .bool false, .bool false, .bool false, .bool false, .bool false, .bool false, .bool false, .bool false, .bool false, .bool false, .bool false, .bool false, .bool false, .bool false, .bool false, .bool false, .bool false, .bool false, .bool false, .bool false, .bool false, .bool false, .bool false, .bool false, .bool false, .bool false, .bool false, .bool false, .bool false, .bool false, .bool false, .bool false, .bool false, .bool false, .bool false, .bool false, .bool false, .bool false, .bool false, .bool false, .bool false, .bool false, .bool false, .bool false, .bool false, .bool false, .bool false, .bool false, .bool false, .bool false, .bool false, .bool false, .bool false, .bool false, .bool false, .bool false, .bool false, .bool false, .bool false, .bool false, .bool false, .bool false, .bool false, .bool false, .bool false, .bool false, .bool false, .bool false, .bool false, .bool false, .bool false, .bool false, .bool false, .bool false, .bool false, .bool false, .bool false, .bool false, .bool false, .bool false, .bool false, .bool false, .bool false, .bool false, .bool false, .bool false, .bool false, .bool false, .bool false, .bool false, .bool false, .bool false, .bool false, .bool false, .bool false, .bool false, .bool false, .bool false, .bool false, .bool false, .bool false, .bool false, .bool false, .bool false, .bool false, .bool false, .bool false, .bool false, .bool false, .bool false, .bool false, .bool false, .bool false, .bool false, .bool false, .bool false, .bool false, .bool false, .bool false, .bool false, .bool false, .bool false, .bool false, .bool false, .bool false, .bool false, .bool false, .bool false, .bool false, .bool false, .bool false, .bool false, .bool false, .bool false, .bool false, .bool false, .bool false, .bool false, .bool false, .bool false, .bool false, .bool false, .bool false, .bool false, .bool false, .bool false, .bool false, .bool false, .bool false, .bool false, .bool false, .bool false, .bool false, .bool false, .bool false, .bool false, .bool false, .bool false, .bool false, .bool false, .bool false, .bool false, .bool false, .bool false, .bool false, .bool false, .bool false, .bool false, .bool false, .bool false, .bool false, .bool false, .bool false, .bool false, .bool false, .bool false, .bool false, .bool false, .bool false, .bool false, .bool false, .bool false, .bool false, .bool false, .bool false, .bool false, .bool false, .bool false, .bool false, .bool false, .bool false, .bool false, .bool false, .bool false, .bool false, .bool false, .bool false, .bool false, .bool false, .bool false, .bool false, .bool false, .bool false, .bool false, .bool false, .bool false, .bool false, .bool false, .bool false, .bool false, .bool false, .bool false, .bool false, .bool false, .bool false, .bool false, .bool false, .bool false, .bool false, .bool false, .bool false, .bool false, .bool false, .bool false, .bool false, .bool false, .bool false, .bool false, .bool false, .bool false, .bool false, .bool false, .bool false, .bool false, .bool false, .bool false, .bool false, .bool false, .bool false, .bool false, .bool false, .bool false, .bool false, .bool false, .bool false, .bool false, .bool false, .bool false, .bool false, .bool false, .bool false, .bool false, .bool false, .bool false, .bool false, .bool false, .bool false, .bool false, .bool false, .bool false, .bool false, .bool false, .bool false, .bool false, .bool false, .bool false, .bool false, .bool false, .bool false, .bool false, .bool false, .bool false, .bool false, .bool false, .bool false, .bool false, .bool false, .bool false, .bool false, .bool false, .bool false, .bool false, .bool false, .bool false, .bool false, .bool false, .bool false, .bool false, .bool false, .bool false, .bool false, .bool false, .bool false, .bool false, .bool false, .bool false, .bool false, .bool false, .bool false, .bool false, .bool false, .bool false, .bool false, .bool false, .bool false, .bool false, .bool false, .bool false, .bool false, .bool false, .bool false, .bool false, .bool false, .bool false, .bool false, .bool false, .bool false, .bool false, .bool false, .bool false, .bool false, .bool false, .bool false, .bool false, .bool false, .bool false, .bool false, .bool false, .bool false, .bool false, .bool false, .bool false, .bool false, .bool false, .bool false, .bool false, .bool false, .bool false, .bool false, .bool false, .bool false, .bool false, .bool false, .bool false, .bool false, .bool false, .bool false, .bool false, .bool false, .bool false, .bool false, .bool false, .bool false, .bool false, .bool false, .bool false, .bool false, .bool false, .bool false, .bool false, .bool false, .bool false, .bool false, .bool false, .bool false, .bool false, .bool false, .bool false, .bool false, .bool false, .bool false, .bool false, .bool false, .bool false, .bool false, .bool false, .bool false, .bool false, .bool false, .bool false, .bool false, .bool false, .bool false, .bool false, .bool false, .bool false, .bool false, .bool false, .bool false, .bool false, .bool false, .bool false, .bool false, .bool false, .bool false, .bool false, .bool false, .bool false, .bool false, .bool false, .bool false, .bool false, .bool false, .bool false, .bool false, .bool false, .bool false, .bool false, .bool false, .bool false, .bool false, .bool false, .bool false, .bool false, .bool false, .bool false, .bool false, .bool false, .bool false, .bool false, .bool false, .bool false, .bool false, .bool false, .bool false, .bool false, .bool false, .bool false, .bool false, .bool false, .bool false, .bool false, .bool false, .bool false, .bool false, .bool false, .bool false, .bool false, .bool false, .bool false, .bool false, .bool false, .bool false, .bool false, .bool false, .bool false, .bool false, .bool false, .bool false, .bool false, .bool false, .bool false, .bool false, .bool false, .bool false, .bool false, .bool false, .bool false, .bool false, .bool false, .bool false, .bool false, .bool false, .bool false, .bool false, .bool false, .bool false, .bool false, .bool false, .bool false, .bool false, .bool false, .bool false, .bool false, .bool false, .bool false, .bool false, .bool false, .bool false, .bool false, .bool false, .bool false, .bool false, .bool false, .bool false, .bool false, .bool false, .bool false, .bool false, .bool false, .bool false, .bool false, .bool false, .bool false, .bool false, .bool false, .bool false, .bool false, .bool false, .bool false, .bool false, .bool false, .bool false, .bool false, .bool false, .bool false, .bool false, .bool false, .bool false, .bool false, .bool false, .bool false, .bool false, .bool false, .bool false, .bool false, .bool false, .bool false, .bool false, .bool false, .bool false, .bool false, .bool false, .bool false, .bool false, .bool false, .bool false, .bool false, .bool false, .bool false, .bool false, .bool false, .bool false, .bool false, .bool false, .bool false, .bool false, .bool false, .bool false, .bool false, .bool false, .bool false, .bool false, .bool false, .bool false, .bool false, .bool false, .bool false, .bool false, .bool false, .bool false, .bool false, .bool false, .bool false, .bool false, .bool false, .bool false, .bool false, .bool false, .bool false, .bool false, .bool false, .bool false, .bool false, .bool false, .bool false, .bool false, .bool false, .bool false, .bool false, .bool false, .bool false, .bool false, .bool false, .bool false, .bool false, .bool false, .bool false, .bool false, .bool false, .bool false, .bool false, .bool false, .bool false, .bool false, .bool false, .bool false, .bool false, .bool false, .bool false, .bool false, .bool false, .bool false, .bool false, .bool false, .bool false, .bool false, .bool false, .bool false, .bool false, .bool false, .bool false, .bool false, .bool false, .bool false, .bool false, .bool false, .bool false, .bool false, .bool false, .bool false, .bool false, .bool false, .bool false, .bool false]) := TyZ.mk' (by kernel_rfl)
instance : TyI PR T_s_rostrumref5_write false 1 := TyI.mk' (by kernel_rfl) (by kernel_rfl)
instance : TyZ PR T_s_rostrumref5_write (.slice none 0 0) := TyZ.mk' (by kernel_rfl)
instance : TyS PR T_s_rostrumref5_write T_rostrumref5_write 3 40 (.agg #[.int .i64 0, .slice none 0 0, .bool false]) := TyS.mk' (by kernel_rfl) (by kernel_rfl) (by kernel_rfl)
instance : TyI PR T_t48 true 1004 := TyI.mk' (by kernel_rfl) (by kernel_rfl)
instance : TyZ PR T_t48 (.agg #[.int .i64 0, .bool false, .bool false, .bool false, .bool false, .bool false, .bool false, .bool false, .bool false, .bool false, .bool false, .bool false, .bool false, .bool false, .bool false, .bool false, .bool false, .bool false, .bool false, .bool false, .bool false, .bool false, .bool false, .bool false, .bool false, .bool false, .bool false, .bool false, .bool false, .bool false, .bool false, .bool false, .bool false, .bool false, .bool false, .bool false, .bool false, .bool false, .bool false, .bool false, .bool false, .bool false, .bool false, .bool false, .bool false, .bool false, .bool false, .bool false, .bool false, .bool false, .bool false, .bool false, .bool false, .bool false, .bool false, .bool false, .bool false, .bool false, .bool false, .bool false, .bool false, .bool false, .bool false, .bool false, .bool false, .bool false, .bool false, .bool false, .bool false, .bool false, .bool false, .bool false, .bool false, .bool false, .bool false, .bool false, .bool false, .bool false, .bool false, .bool false, .bool false, .bool false, .bool false, .bool false, .bool false, .bool false, .bool false, .bool false, .bool false, .bool false, .bool false, .bool false, .bool false, .bool false, .bool false, .bool false, .bool false, .bool false, .bool false, .bool false, .bool false, .bool false, .bool false, .bool false, .bool false, .bool false, .bool false, .bool false, .bool false, .bool false, .bool false, .bool false, .bool false, .bool false, .bool false, .bool false, .bool false, .bool false, .bool false, .bool false, .bool false, .bool false, .bool false, .bool false, .bool false, .bool false, .bool false, .bool false, .bool false, .bool false, .bool false, .bool false, .bool false, .bool false, .bool false, .bool false, .bool false, .bool false, .bool false, .bool false, .bool false, .bool false, .bool false, .bool false, .bool false, .bool false, .bool false, .bool false, .bool false, .bool false, .bool false, .bool false, .bool false, .bool false, .bool false, .bool false, .bool false, .bool false, .bool false, .bool false, .bool false, .bool false, .bool false, .bool false, .bool false, .bool false, .bool false, .bool false, .bool false, .bool false, .bool false, .bool false, .bool false, .bool false, .bool false, .bool false, .bool false, .bool false, .bool false, .bool false, .bool false, .bool false, .bool false, .bool false, .bool false, .bool false, .bool false, .bool false, .bool false, .bool false, .bool false, .bool false, .bool false, .bool false, .bool false, .bool false, .bool false, .bool false, .bool false, .bool false, .bool false, .bool false, .bool false, .bool false, .bool false, .bool false, .bool false, .bool false, .bool false, .bool false, .bool false, .bool false, .bool false, .bool false, .bool false, .bool false, .bool false, .bool false, .bool false, .bool false, .bool false, .bool false, .bool false, .bool false, .bool false, .bool false, .bool false, .bool false, .bool false, .bool false, .bool false, .bool false, .bool false, .bool false, .bool false, .bool false, .bool false, .bool false, .bool false, .bool false, .bool false, .bool false, .bool false, .bool false, .bool false, .bool false, .bool false, .bool false, .bool false, .bool false, .bool false, .bool false, .bool false, .bool false, .bool false, .bool false, .bool false, .bool false, .bool false, .bool false, .bool false, .bool false, .bool false, .bool false, .bool false, .bool false, .bool false, .bool false, .bool false, .bool false, .bool false, .bool false, .bool false, .bool false, .bool false, .bool false, .bool false, .bool false, .bool false, .bool false, .bool false, .bool false, .bool false, .bool false, .bool false, .bool false, .bool false, .bool false, .bool false, .bool false, .bool false, .bool false, .bool false, .bool false, .bool false, .bool false, .bool false, .bool false, .bool false, .bool false, .bool false, .bool false, .bool false, .bool false, .bool false, .bool false, .bool false, .bool false, .bool false, .bool false, .bool false, .bool false, .bool false, .bool false, .bool false, .bool false, .bool false, .bool false, .bool false, .bool false, .bool false, .bool false, .bool false, .bool false, .bool false, .bool false, .bool false, .bool false, .bool false, .bool false, .bool false, .bool false, .bool false, .bool false, .bool false, .bool false, .bool false, .bool false, .bool false, .bool false, .bool false, .bool false, .bool false, .bool false, .bool false, .bool false, .bool false, .bool false, .bool false, .bool false, .bool false, .bool false, .bool false, .bool false, .bool false, .bool false, .bool false, .bool false, .bool false, .bool false, .bool false, .bool false, .bool false, .bool false, .bool false, .bool false, .bool false, .bool false, .bool false, .bool false, .bool false, .bool false, .bool false, .bool false, .bool false, .bool false, .bool false, .bool false, .bool false, .bool false, .bool false, .bool false, .bool false, .bool false, .bool false, .bool false, .bool false, .bool false, .bool false, .bool false, .bool false, .bool false, .bool false, .bool false, .bool false, .bool false, .bool false, .bool false, .bool false, .bool false, .bool false, .bool false, .bool false, .bool false, .bool false, .bool false, .bool false, .bool false, .bool false, .bool false, .bool false, .bool false, .bool false, .bool false, .bool false, .bool false, .bool false, .bool false, .bool false, .bool false, .bool false, .bool false, .bool false, .bool false, .bool false, .bool false, .bool false, .bool false, .bool false, .bool false, .bool false, .bool false, .bool false, .bool false, .bool false, .bool false, .bool false, .bool false, .bool false, .bool false, .bool false, .bool false, .bool false, .bool false, .bool false, .bool false, .bool false, .bool false, .bool false, .bool false, .bool false, .bool false, .bool false, .bool false, .bool false, .bool false, .bool false, .bool false, .bool false, .bool false, .bool false, .bool false, .bool false, .bool false, .bool false, .bool false, .bool false, .bool false, .bool false, .bool false, .bool false, .bool false, .bool false, .bool false, .bool false, .bool false, .bool false, .bool false, .bool false, .bool false, .bool false, .bool false, .bool false, .bool false, .bool false, .bool false, .bool false, .bool false, .bool false, .bool false, .bool false, .bool false, .bool false, .bool false, .bool false, .bool false, .bool false, .bool false, .bool false, .bool false, .bool false, .bool false, .bool false, .bool false, .bool false, .bool false, .bool false, .bool false, .bool false, .bool false, .bool false, .bool false, .bool false, .bool false, .bool false, .bool false, .bool false, .bool false, .bool false, .bool false, .bool false, .bool false, .bool false, .bool false, .bool false, .bool false, .bool false, .bool false, .bool false, .bool false, .bool false, .bool false, .bool false, .bool false, .bool false, .bool false, .bool false, .bool false, .bool false, .bool false, .bool false, .bool false, .bool false, .bool false, .bool false, .bool false, .bool false, .bool false, .bool false, .bool false, .bool false, .bool false, .bool false, .bool false, .bool false, .bool false, .bool false, .bool false, .bool false, .bool false, .bool false, .bool false, .bool false, .bool false, .bool false, .bool false, .bool false, .bool false, .bool false, .bool false, .bool false, .bool false, .bool false, .bool false, .bool false, .bool false, .bool false, .bool false, .bool false, .bool false, .bool false, .bool false, .bool false, .bool false, .bool false, .bool false, .bool false, .bool false, .bool false, .bool false, .bool false, .bool false, .bool false, .bool false, .bool false, .bool false, .bool false, .bool false, .bool false, .bool false, .bool false, .bool false, .bool false, .bool false, .bool false, .bool false, .bool false, .bool false, .bool false, .bool false, .bool false, .bool false, .bool false, .bool false, .bool false, .bool false, .bool false, .bool false, .bool false, .bool false, .bool false, .bool false, .bool false, .bool false, .bool false, .bool false, .bool false, .bool false, .bool false, .bool false, .bool false, .bool false, .bool false, .bool false, .bool false, .bool false, .bool false, .bool false, .bool false, .bool false, .bool false, .bool false, .bool false, .bool false, .bool false, .bool false, .bool false, .bool false, .bool false, .bool false, .bool false, .bool false, .bool false, .bool false, .bool false, .bool false, .bool false, .bool false, .bool false, .bool false, .bool false, .bool false, .bool false, .bool false, .bool false, .bool false, .bool false, .bool false, .bool false, .bool false, .bool false, .bool false, .bool false, .bool false, .bool false, .bool false, .bool false, .bool false, .bool false, .bool false, .bool false, .bool false, .bool false, .bool false, .bool false, .bool false, .bool false, .bool false, .bool false, .bool false, .bool false, .bool false, .bool false, .bool false, .bool false, .bool false, .bool false, .bool false, .bool false, .bool false, .bool false, .bool false, .bool false, .bool false, .bool false, .bool false, .bool false, .bool false, .bool false, .bool false, .bool false, .bool false, .bool false, .bool false, .bool false, .bool false, .bool false, .bool false, .bool false, .bool false, .bool false, .bool false, .bool false, .bool false, .bool false, .bool false, .bool false, .bool false, .bool false, .bool false, .bool false, .bool false, .bool false, .bool false, .bool false, .bool false, .bool false, .bool false, .bool false, .bool false, .bool false, .bool false, .bool false, .bool false, .bool false, .bool false, .bool false, .bool false, .bool false, .bool false, .bool false, .bool false, .bool false, .bool false, .bool false, .bool false, .bool false, .bool false, .bool false, .bool false, .bool false, .bool false, .bool false, .bool false, .bool false, .bool false, .bool false, .bool false, .bool false, .bool false, .bool false, .bool false, .bool false, .bool false, .bool false, .bool false, .bool false, .bool false, .bool false, .bool false, .bool false, .bool false, .bool false, .bool false, .bool false, .bool false, .bool false, .bool false, .bool false, .bool false, .bool false, .bool false, .bool false, .bool false, .bool false, .bool false, .bool false, .bool false, .bool false, .bool false, .bool false, .bool false, .bool false, .bool false, .bool false, .bool false, .bool false, .bool false, .bool false, .bool false, .bool false, .bool false, .bool false, .bool false, .bool false, .bool false, .bool false, .bool false, .bool false, .bool false, .bool false, .bool false, .bool false, .bool false, .bool false, .bool false, .bool false, .bool false, .bool false, .bool false, .bool false, .bool false, .bool false, .bool false, .bool false, .bool false, .bool false, .bool false, .bool false, .bool false, .bool false, .bool false, .bool false, .bool false, .bool false, .bool false, .bool false, .bool false, .bool false, .bool false, .bool false, .bool false, .bool false, .bool false, .bool false, .bool false, .bool false, .bool false, .bool false, .bool false, .bool false, .bool false, .bool false, .bool false, .bool false, .bool false, .bool false, .bool false, .bool false, .bool false, .bool false, .bool false, .bool false, .bool false, .bool false, .bool false, .bool false, .bool false, .bool false, .bool false, .bool false, .bool false, .bool false, .bool false, .bool false, .bool false, .bool false, .bool false, .bool false, .bool false, .bool false, .bool false, .bool false, .bool false, .bool false, .bool false, .bool false, .bool false, .bool false, .bool false, .bool false, .bool false, .bool false, .bool false, .bool false, .bool false, .bool false, .bool false, .bool false, .bool false, .bool false, .bool false, .bool false, .bool false, .bool false, .bool false, .bool false, .bool false, .bool false, .bool false, .bool false, .bool false, .bool false, .bool false, .bool false, .bool false, .bool false, .bool false, .bool false, .bool false, .bool false, .bool false, .bool false, .bool false, .bool false, .bool false, .bool false, .bool false, .bool false, .bool false, .bool false, .bool false, .bool false, .bool false, .bool false, .bool false, .bool false, .bool false, .bool false, .bool false, .bool false, .bool false, .bool false, .bool false, .bool false, .bool false, .bool false, .bool false, .bool false, .bool false, .bool false, .bool false, .bool false, .bool false, .bool false, .bool false, .bool false, .bool false, .bool false, .bool false, .bool false, .bool false, .bool false, .bool false, .bool false, .bool false, .bool false, .bool false, .bool false, .bool false, .bool false, .bool false, .bool false, .bool false, .bool false, .bool false, .bool false, .bool false, .bool false, .bool false, .bool false, .bool false, .bool false, .bool false, .bool false, .bool false, .bool false, .bool false, .bool false, .bool false, .bool false, .slice none 0 0, .bool false, .int .i64 0]) := TyZ.mk' (by kernel_rfl)
instance : TyI PR T_rostrumref5_Disk true 1004 := TyI.mk' (by kernel_rfl) (by kernel_rfl)
instance : TyZ PR T_rostrumref5_Disk (.agg #[.int .i64 0, .bool false, .bool false, .bool false, .bool false, .bool false, .bool false, .bool false, .bool false, .bool false, .bool false, .bool false, .bool false, .bool false, .bool false, .bool false, .bool false, .bool false, .bool false, .bool false, .bool false, .bool false, .bool false, .bool false, .bool false, .bool false, .bool false, .bool false, .bool false, .bool false, .bool false, .bool false, .bool false, .bool false, .bool false, .bool false, .bool false, .bool false, .bool false, .bool false, .bool false, .bool false, .bool false, .bool false, .bool false, .bool false, .bool false, .bool false, .bool false, .bool false, .bool false, .bool false, .bool false, .bool false, .bool false, .bool false, .bool false, .bool false, .bool false, .bool false, .bool false, .bool false, .bool false, .bool false, .bool false, .bool false, .bool false, .bool false, .bool false, .bool false, .bool false, .bool false, .bool false, .bool false, .bool false, .bool false, .bool false, .bool false, .bool false, .bool false, .bool false, .bool false, .bool false, .bool false, .bool false, .bool false, .bool false, .bool false, .bool false, .bool false, .bool false, .bool false, .bool false, .bool false, .bool false, .bool false, .bool false, .bool false, .bool false, .bool false, .bool false, .bool false, .bool false, .bool false, .bool false, .bool false, .bool false, .bool false, .bool false, .bool false, .bool false, .bool false, .bool false, .bool false, .bool false, .bool false, .bool false, .bool false, .bool false, .bool false, .bool false, .bool false, .bool false, .bool false, .bool false, .bool false, .bool false, .bool false, .bool false, .bool false, .bool false, .bool false, .bool false, .bool false, .bool false, .bool false, .bool false, .bool false, .bool false, .bool false, .bool false, .bool false, .bool false, .bool false, .bool false, .bool false, .bool false, .bool false, .bool false, .bool false, .bool false, .bool false, .bool false, .bool false, .bool false, .bool false, .bool false, .bool false, .bool false, .bool false, .bool false, .bool false, .bool false, .bool false, .bool false, .bool false, .bool false, .bool false, .bool false, .bool false, .bool false, .bool false, .bool false, .bool false, .bool false, .bool false, .bool false, .bool false, .bool false, .bool false, .bool false, .bool false, .bool false, .bool false, .bool false, .bool false, .bool false, .bool false, .bool false, .bool false, .bool false, .bool false, .bool false, .bool false, .bool false, .bool false, .bool false, .bool false, .bool false, .bool false, .bool false, .bool false, .bool false, .bool false, .bool false, .bool false, .bool false, .bool false, .bool false, .bool false, .bool false, .bool false, .bool false, .bool false, .bool false, .bool false, .bool false, .bool false, .bool false, .bool false, .bool false, .bool false, .bool false, .bool false, .bool false, .bool false, .bool false, .bool false, .bool false, .bool false, .bool false, .bool false, .bool false, .bool false, .bool false, .bool false, .bool false, .bool false, .bool false, .bool false, .bool false, .bool false, .bool false, .bool false, .bool false, .bool false, .bool false, .bool false, .bool false, .bool false, .bool false, .bool false, .bool false, .bool false, .bool false, .bool false, .bool false, .bool false, .bool false, .bool false, .bool false, .bool false, .bool false, .bool false, .bool false, .bool false, .bool false, .bool false, .bool false, .bool false, .bool false, .bool false, .bool false, .bool false, .bool false, .bool false, .bool false, .bool false, .bool false, .bool false, .bool false, .bool false, .bool false, .bool false, .bool false, .bool false, .bool false, .bool false, .bool false, .bool false, .bool false, .bool false, .bool false, .bool false, .bool false, .bool false, .bool false, .bool false, .bool false, .bool false, .bool false, .bool false, .bool false, .bool false, .bool false, .bool false, .bool false, .bool false, .bool false, .bool false, .bool false, .bool false, .bool false, .bool false, .bool false, .bool false, .bool false, .bool false, .bool false, .bool false, .bool false, .bool false, .bool false, .bool false, .bool false, .bool false, .bool false, .bool false, .bool false, .bool false, .bool false, .bool false, .bool false, .bool false, .bool false, .bool false, .bool false, .bool false, .bool false, .bool false, .bool false, .bool false, .bool false, .bool false, .bool false, .bool false, .bool false, .bool false, .bool false, .bool false, .bool false, .bool false, .bool false, .bool false, .bool false, .bool false, .bool false, .bool false, .bool false, .bool false, .bool false, .bool false, .bool false, .bool false, .bool false, .bool false, .bool false, .bool false, .bool false, .bool false, .bool false, .bool false, .bool false, .bool false, .bool false, .bool false, .bool false, .bool false, .bool false, .bool false, .bool false, .bool false, .bool false, .bool false, .bool false, .bool false, .bool false, .bool false, .bool false, .bool false, .bool false, .bool false, .bool false, .bool false, .bool false, .bool false, .bool false, .bool false, .bool false, .bool false, .bool false, .bool false, .bool false, .bool false, .bool false, .bool false, .bool false, .bool false, .bool false, .bool false, .bool false, .bool false, .bool false, .bool false, .bool false, .bool false, .bool false, .bool false, .bool false, .bool false, .bool false, .bool false, .bool false, .bool false, .bool false, .bool false, .bool false, .bool false, .bool false, .bool false, .bool false, .bool false, .bool false, .bool false, .bool false, .bool false, .bool false, .bool false, .bool false, .bool false, .bool false, .bool false, .bool false, .bool false, .bool false, .bool false, .bool false, .bool false, .bool false, .bool false, .bool false, .bool false, .bool false, .bool false, .bool false, .bool false, .bool false, .bool false, .bool false, .bool false, .bool false, .bool false, .bool false, .bool false, .bool false, .bool false, .bool false, .bool false, .bool false, .bool false, .bool false, .bool false, .bool false, .bool false, .bool false, .bool false, .bool false, .bool false, .bool false, .bool false, .bool false, .bool false, .bool false, .bool false, .bool false, .bool false, .bool false, .bool false, .bool false, .bool false, .bool false, .bool false, .bool false, .bool false, .bool false, .bool false, .bool false, .bool false, .bool false, .bool false, .bool false, .bool false, .bool false, .bool false, .bool false, .bool false, .bool false, .bool false, .bool false, .bool false, .bool false, .bool false, .bool false, .bool false, .bool false, .bool false, .bool false, .bool false, .bool false, .bool false, .bool false, .bool false, .bool false, .bool false, .bool false, .bool false, .bool false, .bool false, .bool false, .bool false, .bool false, .bool false, .bool false, .bool false, .bool false, .bool false, .bool false, .bool false, .bool false, .bool false, .bool false, .bool false, .bool false, .bool false, .bool false, .bool false, .bool false, .bool false, .bool false, .bool false, .bool false, .bool false, .bool false, .bool false, .bool false, .bool false, .bool false, .bool false, .bool false, .bool false, .bool false, .bool false, .bool false, .bool false, .bool false, .bool false, .bool false, .bool false, .bool false, .bool false, .bool false, .bool false, .bool false, .bool false, .bool false, .bool false, .bool false, .bool false, .bool false, .bool false, .bool false, .bool false, .bool false, .bool false, .bool false, .bool false, .bool false, .bool false, .bool false, .bool false, .bool false, .bool false, .bool false, .bool false, .bool false, .bool false, .bool false, .bool false, .bool false, .bool false, .bool false, .bool false, .bool false, .bool false, .bool false, .bool false, .bool false, .bool false, .bool false, .bool false, .bool false, .bool false, .bool false, .bool false, .bool false, .bool false, .bool false, .bool false, .bool false, .bool false, .bool false, .bool false, .bool false, .bool false, .bool false, .bool false, .bool false, .bool false, .bool false, .bool false, .bool false, .bool false, .bool false, .bool false, .bool false, .bool false, .bool false, .bool false, .bool false, .bool false, .bool false, .bool false, .bool false, .bool false, .bool false, .bool false, .bool false, .bool false, .bool false, .bool false, .bool false, .bool false, .bool false, .bool false, .bool false, .bool false, .bool false, .bool false, .bool false, .bool false, .bool false, .bool false, .bool false, .bool false, .bool false, .bool false, .bool false, .bool false, .bool false, .bool false, .bool false, .bool false, .bool false, .bool false, .bool false, .bool false, .bool false, .bool false, .bool false, .bool false, .bool false, .bool false, .bool false, .bool false, .bool false, .bool false, .bool false, .bool false, .bool false, .bool false, .bool false, .bool false, .bool false, .bool false, .bool false, .bool false, .bool false, .bool false, .bool false, .bool false, .bool false, .bool false, .bool false, .bool false, .bool false, .bool false, .bool false, .bool false, .bool false, .bool false, .bool false, .bool false, .bool false, .bool false, .bool false, .bool false, .bool false, .bool false, .bool false, .bool false, .bool false, .bool false, .bool false, .bool false, .bool false, .bool false, .bool false, .bool false, .bool false, .bool false, .bool false, .bool false, .bool false, .bool false, .bool false, .bool false, .bool false, .bool false, .bool false, .bool false, .bool false, .bool false, .bool false, .bool false, .bool false, .bool false, .bool false, .bool false, .bool false, .bool false, .bool false, .bool false, .bool false, .bool false, .bool false, .bool false, .bool false, .bool false, .bool false, .bool false, .bool false, .bool false, .bool false, .bool false, .bool false, .bool false, .bool false, .bool false, .bool false, .bool false, .bool false, .bool false, .bool false, .bool false, .bool false, .bool false, .bool false, .bool false, .bool false, .bool false, .bool false, .bool false, .bool false, .bool false, .bool false, .bool false, .bool false, .bool false, .bool false, .bool false, .bool false, .bool false, .bool false, .bool false, .bool false, .bool false, .bool false, .bool false, .bool false, .bool false, .bool false, .bool false, .bool false, .bool false, .bool false, .bool false, .bool false, .bool false, .bool false, .bool false, .bool false, .bool false, .bool false, .bool false, .bool false, .bool false, .bool false, .bool false, .bool false, .bool false, .bool false, .bool false, .bool false, .bool false, .bool false, .bool false, .bool false, .bool false, .bool false, .bool false, .bool false, .bool false, .bool false, .bool false, .bool false, .bool false, .bool false, .bool false, .bool false, .bool false, .bool false, .bool false, .bool false, .bool false, .bool false, .bool false, .bool false, .bool false, .bool false, .bool false, .bool false, .bool false, .bool false, .bool false, .bool false, .bool false, .bool false, .bool false, .bool false, .bool false, .bool false, .bool false, .bool false, .bool false, .bool false, .bool false, .bool false, .bool false, .bool false, .bool false, .bool false, .bool false, .bool false, .bool false, .bool false, .bool false, .bool false, .bool false, .bool false, .bool false, .bool false, .bool false, .bool false, .bool false, .bool false, .bool false, .bool false, .bool false, .bool false, .bool false, .bool false, .bool false, .bool false, .bool false, .bool false, .bool false, .bool false, .bool false, .bool false, .bool false, .bool false, .bool false, .bool false, .bool false, .bool false, .bool false, .bool false, .bool false, .bool false, .bool false, .bool false, .bool false, .bool false, .bool false, .bool false, .bool false, .bool false, .bool false, .bool false, .bool false, .bool false, .bool false, .bool false, .bool false, .bool false, .bool false, .bool false, .bool false, .bool false, .bool false, .bool false, .bool false, .bool false, .bool false, .bool false, .bool false, .bool false, .bool false, .bool false, .bool false, .bool false, .bool false, .bool false, .bool false, .bool false, .bool false, .bool false, .bool false, .bool false, .bool false, .bool false, .bool false, .bool false, .bool false, .bool false, .bool false, .bool false, .bool false, .bool false, .bool false, .bool false, .bool false, .bool false, .bool false, .bool false, .bool false, .bool false, .bool false, .bool false, .bool false, .bool false, .bool false, .bool false, .bool false, .bool false, .bool false, .bool false, .bool false, .bool false, .bool false, .bool false, .bool false, .bool false, .bool false, .bool false, .bool false, .bool false, .bool false, .bool false, .bool false, .bool false, .bool false, .bool false, .bool false, .bool false, .bool false, .bool false, .bool false, .bool false, .bool false, .bool false, .slice none 0 0, .bool false, .int .i64 0]) := TyZ.mk' (by kernel_rfl)
instance : TyI PR T_t50 false 1 := TyI.mk' (by kernel_rfl) (by kernel_rfl)
instance : TyZ PR T_t50 (.nilFunc) := TyZ.mk' (by kernel_rfl)
instance : TyI PR T_t51 false 1 := TyI.mk' (by kernel_rfl) (by kernel_rfl)
instance : TyZ PR T_t51 (.nilFunc) := TyZ.mk' (by kernel_rfl)
instance : TyI PR T_p_wal_Log false 1 := TyI.mk' (by kernel_rfl) (by kernel_rfl)
instance : TyZ PR T_p_wal_Log (.pointer none) := TyZ.mk' (by kernel_rfl)
instance : TyI PR T_t54 false 1 := TyI.mk' (by kernel_rfl) (by kernel_rfl)
instance : TyZ PR T_t54 (.nilFunc) := TyZ.mk' (by kernel_rfl)
instance : TyI PR T_t55 false 1 := TyI.mk' (by kernel_rfl) (by kernel_rfl)
instance : TyZ PR T_t55 (.nilFunc) := TyZ.mk' (by kernel_rfl)
instance : TyI PR T_t56 false 1 := TyI.mk' (by kernel_rfl) (by kernel_rfl)
instance : TyZ PR T_t56 (.nilFunc) := TyZ.mk' (by kernel_rfl)
instance : TyI PR T_t57 false 1 := TyI.mk' (by kernel_rfl) (by kernel_rfl)
instance : TyZ PR T_t57 (.nilFunc) := TyZ.mk' (by kernel_rfl)
instance : TyI PR T_t58 false 1 := TyI.mk' (by kernel_rfl) (by kernel_rfl)
instance : TyZ PR T_t58 (.nilFunc) := TyZ.mk' (by kernel_rfl)
instance : TyI PR T_t59 false 1 := TyI.mk' (by kernel_rfl) (by kernel_rfl)
instance : TyZ PR T_t59 (.nilFunc) := TyZ.mk' (by kernel_rfl)
instance : TyI PR T_t60 false 1 := TyI.mk' (by kernel_rfl) (by kernel_rfl)
instance : TyZ PR T_t60 (.nilFunc) := TyZ.mk' (by kernel_rfl)
instance : TyI PR T_t61 false 1 := TyI.mk' (by kernel_rfl) (by kernel_rfl)
instance : TyZ PR T_t61 (.nilFunc) := TyZ.mk' (by kernel_rfl)
instance : TyI PR T_s_rostrumlaw6_Act false 1 := TyI.mk' (by kernel_rfl) (by kernel_rfl)
instance : TyZ PR T_s_rostrumlaw6_Act (.slice none 0 0) := TyZ.mk' (by kernel_rfl)
instance : TyS PR T_s_rostrumlaw6_Act T_rostrumlaw6_Act 5 72 (.agg #[.int .i64 0, .int .i64 0, .int .i64 0, .slice none 0 0, .slice none 0 0]) := TyS.mk' (by kernel_rfl) (by kernel_rfl) (by kernel_rfl)
instance : TyI PR T_t63 false 1 := TyI.mk' (by kernel_rfl) (by kernel_rfl)
instance : TyZ PR T_t63 (.nilFunc) := TyZ.mk' (by kernel_rfl)
instance : TyI PR T_t64 true 5 := TyI.mk' (by kernel_rfl) (by kernel_rfl)
instance : TyZ PR T_t64 (.agg #[.int .i64 0, .int .i64 0, .int .i64 0, .slice none 0 0, .slice none 0 0]) := TyZ.mk' (by kernel_rfl)
instance : TyI PR T_rostrumlaw6_Act true 5 := TyI.mk' (by kernel_rfl) (by kernel_rfl)
instance : TyZ PR T_rostrumlaw6_Act (.agg #[.int .i64 0, .int .i64 0, .int .i64 0, .slice none 0 0, .slice none 0 0]) := TyZ.mk' (by kernel_rfl)
instance : TyI PR T_t66 false 1 := TyI.mk' (by kernel_rfl) (by kernel_rfl)
instance : TyZ PR T_t66 (.nilFunc) := TyZ.mk' (by kernel_rfl)
instance : TyI PR T_t67 false 1 := TyI.mk' (by kernel_rfl) (by kernel_rfl)
instance : TyZ PR T_t67 (.nilFunc) := TyZ.mk' (by kernel_rfl)
instance : TyI PR T_t68 false 1 := TyI.mk' (by kernel_rfl) (by kernel_rfl)
instance : TyZ PR T_t68 (.nilFunc) := TyZ.mk' (by kernel_rfl)
instance : TyI PR T_t69 false 1 := TyI.mk' (by kernel_rfl) (by kernel_rfl)
instance : TyZ PR T_t69 (.nilFunc) := TyZ.mk' (by kernel_rfl)
instance : TyI PR T_m_int_s_uint8 false 1 := TyI.mk' (by kernel_rfl) (by kernel_rfl)
instance : TyZ PR T_m_int_s_uint8 (.map none) := TyZ.mk' (by kernel_rfl)
instance : TyI PR T_s_disk_write false 1 := TyI.mk' (by kernel_rfl) (by kernel_rfl)
instance : TyZ PR T_s_disk_write (.slice none 0 0) := TyZ.mk' (by kernel_rfl)
instance : TyS PR T_s_disk_write T_disk_write 3 24 (.agg #[.int .i64 0, .int .i64 0, .int .i64 0]) := TyS.mk' (by kernel_rfl) (by kernel_rfl) (by kernel_rfl)
instance : TyI PR T_t72 true 5 := TyI.mk' (by kernel_rfl) (by kernel_rfl)
instance : TyZ PR T_t72 (.agg #[.int .i64 0, .map none, .slice none 0 0, .bool false, .int .i64 0]) := TyZ.mk' (by kernel_rfl)
instance : TyI PR T_disk_Disk true 5 := TyI.mk' (by kernel_rfl) (by kernel_rfl)
instance : TyZ PR T_disk_Disk (.agg #[.int .i64 0, .map none, .slice none 0 0, .bool false, .int .i64 0]) := TyZ.mk' (by kernel_rfl)
instance : TyI PR T_t74 true 3 := TyI.mk' (by kernel_rfl) (by kernel_rfl)
instance : TyZ PR T_t74 (.agg #[.int .i64 0, .int .i64 0, .int .i64 0]) := TyZ.mk' (by kernel_rfl)
instance : EqS PR T_t74 [.i, .i, .i] := EqS.mk' (by kernel_rfl) (by kernel_rfl) (by kernel_rfl)
instance : TyI PR T_disk_write true 3 := TyI.mk' (by kernel_rfl) (by kernel_rfl)
instance : TyZ PR T_disk_write (.agg #[.int .i64 0, .int .i64 0, .int .i64 0]) := TyZ.mk' (by kernel_rfl)
instance : EqS PR T_disk_write [.i, .i, .i] := EqS.mk' (by kernel_rfl) (by kernel_rfl) (by kernel_rfl)
instance : TyI PR T_t76 false 1 := TyI.mk' (by kernel_rfl) (by kernel_rfl)
instance : TyZ PR T_t76 (.nilFunc) := TyZ.mk' (by kernel_rfl)
instance : TyI PR T_t77 false 1 := TyI.mk' (by kernel_rfl) (by kernel_rfl)
instance : TyZ PR T_t77 (.nilFunc) := TyZ.mk' (by kernel_rfl)
instance : TyI PR T_t78 false 1 := TyI.mk' (by kernel_rfl) (by kernel_rfl)
instance : TyZ PR T_t78 (.nilFunc) := TyZ.mk' (by kernel_rfl)
instance : TyI PR T_t79 false 1 := TyI.mk' (by kernel_rfl) (by kernel_rfl)
instance : TyZ PR T_t79 (.nilFunc) := TyZ.mk' (by kernel_rfl)
instance : TyI PR T_iter_Seq_int false 1 := TyI.mk' (by kernel_rfl) (by kernel_rfl)
instance : TyZ PR T_iter_Seq_int (.nilFunc) := TyZ.mk' (by kernel_rfl)
instance : TyI PR T_t81 false 1 := TyI.mk' (by kernel_rfl) (by kernel_rfl)
instance : TyZ PR T_t81 (.nilFunc) := TyZ.mk' (by kernel_rfl)
instance : TyI PR T_t82 true 3 := TyI.mk' (by kernel_rfl) (by kernel_rfl)
instance : TyZ PR T_t82 (.agg #[.int .i64 0, .slice none 0 0, .bool false]) := TyZ.mk' (by kernel_rfl)
instance : TyI PR T_rostrumref5_write true 3 := TyI.mk' (by kernel_rfl) (by kernel_rfl)
instance : TyZ PR T_rostrumref5_write (.agg #[.int .i64 0, .slice none 0 0, .bool false]) := TyZ.mk' (by kernel_rfl)
instance : TyI PR T_s_wal_file false 1 := TyI.mk' (by kernel_rfl) (by kernel_rfl)
instance : TyZ PR T_s_wal_file (.slice none 0 0) := TyZ.mk' (by kernel_rfl)
instance : TyS PR T_s_wal_file T_wal_file 6 64 (.agg #[.int .i64 0, .int .i64 0, .int .i64 0, .int .u64 0, .slice none 0 0, .bool false]) := TyS.mk' (by kernel_rfl) (by kernel_rfl) (by kernel_rfl)
instance : TyI PR T_t86 false 1 := TyI.mk' (by kernel_rfl) (by kernel_rfl)
instance : TyZ PR T_t86 (.nilFunc) := TyZ.mk' (by kernel_rfl)
instance : TyI PR T_uint64 false 1 := TyI.mk' (by kernel_rfl) (by kernel_rfl)
instance : TyZ PR T_uint64 (.int .u64 0) := TyZ.mk' (by kernel_rfl)
instance : TyI PR T_t88 true 12 := TyI.mk' (by kernel_rfl) (by kernel_rfl)
instance : TyZ PR T_t88 (.agg #[.pointer none, .int .i64 0, .int .i64 0, .int .u64 0, .slice none 0 0, .int .i64 0, .int .i64 0, .int .i64 0, .slice none 0 0, .slice none 0 0, .slice none 0 0, .bool false]) := TyZ.mk' (by kernel_rfl)
instance : TyI PR T_wal_Log true 12 := TyI.mk' (by kernel_rfl) (by kernel_rfl)
instance : TyZ PR T_wal_Log (.agg #[.pointer none, .int .i64 0, .int .i64 0, .int .u64 0, .slice none 0 0, .int .i64 0, .int .i64 0, .int .i64 0, .slice none 0 0, .slice none 0 0, .slice none 0 0, .bool false]) := TyZ.mk' (by kernel_rfl)
instance : TyI PR T_t90 false 1 := TyI.mk' (by kernel_rfl) (by kernel_rfl)
instance : TyZ PR T_t90 (.nilFunc) := TyZ.mk' (by kernel_rfl)
instance : TyI PR T_t91 false 1 := TyI.mk' (by kernel_rfl) (by kernel_rfl)
instance : TyZ PR T_t91 (.nilFunc) := TyZ.mk' (by kernel_rfl)
instance : TyI PR T_t93 false 1 := TyI.mk' (by kernel_rfl) (by kernel_rfl)
instance : TyZ PR T_t93 (.nilFunc) := TyZ.mk' (by kernel_rfl)
instance : TyI PR T_t94 false 1 := TyI.mk' (by kernel_rfl) (by kernel_rfl)
instance : TyZ PR T_t94 (.nilFunc) := TyZ.mk' (by kernel_rfl)
instance : TyI PR T_t95 false 1 := TyI.mk' (by kernel_rfl) (by kernel_rfl)
instance : TyZ PR T_t95 (.nilFunc) := TyZ.mk' (by kernel_rfl)
instance : TyI PR T_t96 false 1 := TyI.mk' (by kernel_rfl) (by kernel_rfl)
instance : TyZ PR T_t96 (.nilFunc) := TyZ.mk' (by kernel_rfl)
instance : TyI PR T_t97 true 6 := TyI.mk' (by kernel_rfl) (by kernel_rfl)
instance : TyZ PR T_t97 (.agg #[.int .i64 0, .int .i64 0, .int .i64 0, .int .u64 0, .slice none 0 0, .bool false]) := TyZ.mk' (by kernel_rfl)
instance : TyI PR T_wal_file true 6 := TyI.mk' (by kernel_rfl) (by kernel_rfl)
instance : TyZ PR T_wal_file (.agg #[.int .i64 0, .int .i64 0, .int .i64 0, .int .u64 0, .slice none 0 0, .bool false]) := TyZ.mk' (by kernel_rfl)
instance : TyI PR T_t100 false 1 := TyI.mk' (by kernel_rfl) (by kernel_rfl)
instance : TyZ PR T_t100 (.nilFunc) := TyZ.mk' (by kernel_rfl)
instance : TyI PR T_t101 false 1 := TyI.mk' (by kernel_rfl) (by kernel_rfl)
instance : TyZ PR T_t101 (.nilFunc) := TyZ.mk' (by kernel_rfl)
instance : TyI PR T_t102 false 1 := TyI.mk' (by kernel_rfl) (by kernel_rfl)
instance : TyZ PR T_t102 (.nilFunc) := TyZ.mk' (by kernel_rfl)
instance : TyI PR T_t103 false 1 := TyI.mk' (by kernel_rfl) (by kernel_rfl)
instance : TyZ PR T_t103 (.nilFunc) := TyZ.mk' (by kernel_rfl)
instance : TyI PR T_t104 false 1 := TyI.mk' (by kernel_rfl) (by kernel_rfl)
instance : TyZ PR T_t104 (.nilFunc) := TyZ.mk' (by kernel_rfl)
instance : TyI PR T_t105 false 1 := TyI.mk' (by kernel_rfl) (by kernel_rfl)
instance : TyZ PR T_t105 (.nilFunc) := TyZ.mk' (by kernel_rfl)
instance : TyI PR T_t106 false 1 := TyI.mk' (by kernel_rfl) (by kernel_rfl)
instance : TyZ PR T_t106 (.nilFunc) := TyZ.mk' (by kernel_rfl)
instance : TyI PR T_t107 false 1 := TyI.mk' (by kernel_rfl) (by kernel_rfl)
instance : TyZ PR T_t107 (.nilFunc) := TyZ.mk' (by kernel_rfl)
instance : TyI PR T_t108 false 1 := TyI.mk' (by kernel_rfl) (by kernel_rfl)
instance : TyZ PR T_t108 (.nilFunc) := TyZ.mk' (by kernel_rfl)
instance : TyI PR T_t109 false 1 := TyI.mk' (by kernel_rfl) (by kernel_rfl)
instance : TyZ PR T_t109 (.nilFunc) := TyZ.mk' (by kernel_rfl)
instance : TyI PR T_t110 false 1 := TyI.mk' (by kernel_rfl) (by kernel_rfl)
instance : TyZ PR T_t110 (.nilFunc) := TyZ.mk' (by kernel_rfl)
instance : TyI PR T_t111 false 1 := TyI.mk' (by kernel_rfl) (by kernel_rfl)
instance : TyZ PR T_t111 (.nilFunc) := TyZ.mk' (by kernel_rfl)
instance : TyI PR T_uint false 1 := TyI.mk' (by kernel_rfl) (by kernel_rfl)
instance : TyZ PR T_uint (.int .u64 0) := TyZ.mk' (by kernel_rfl)
instance : TyI PR T_t113 false 1 := TyI.mk' (by kernel_rfl) (by kernel_rfl)
instance : TyZ PR T_t113 (.nilFunc) := TyZ.mk' (by kernel_rfl)
instance : TyI PR T_t114 false 1 := TyI.mk' (by kernel_rfl) (by kernel_rfl)
instance : TyZ PR T_t114 (.nilFunc) := TyZ.mk' (by kernel_rfl)
instance : TyI PR T_t115 false 1 := TyI.mk' (by kernel_rfl) (by kernel_rfl)
instance : TyZ PR T_t115 (.nilFunc) := TyZ.mk' (by kernel_rfl)
instance : TyI PR T_t116 false 1 := TyI.mk' (by kernel_rfl) (by kernel_rfl)
instance : TyZ PR T_t116 (.nilFunc) := TyZ.mk' (by kernel_rfl)
instance : TyI PR T_t117 false 1 := TyI.mk' (by kernel_rfl) (by kernel_rfl)
instance : TyZ PR T_t117 (.nilFunc) := TyZ.mk' (by kernel_rfl)
instance : TyI PR T_t118 false 1 := TyI.mk' (by kernel_rfl) (by kernel_rfl)
instance : TyZ PR T_t118 (.nilFunc) := TyZ.mk' (by kernel_rfl)
instance : TyI PR T_slices_sortedHint false 1 := TyI.mk' (by kernel_rfl) (by kernel_rfl)
instance : TyZ PR T_slices_sortedHint (.int .i64 0) := TyZ.mk' (by kernel_rfl)
instance : TyI PR T_t121 false 1 := TyI.mk' (by kernel_rfl) (by kernel_rfl)
instance : TyZ PR T_t121 (.nilFunc) := TyZ.mk' (by kernel_rfl)
instance : TyI PR T_t122 false 1 := TyI.mk' (by kernel_rfl) (by kernel_rfl)
instance : TyZ PR T_t122 (.nilFunc) := TyZ.mk' (by kernel_rfl)
instance : TyI PR T_t123 false 1 := TyI.mk' (by kernel_rfl) (by kernel_rfl)
instance : TyZ PR T_t123 (.nilFunc) := TyZ.mk' (by kernel_rfl)
instance : TyI PR T_t124 false 1 := TyI.mk' (by kernel_rfl) (by kernel_rfl)
instance : TyZ PR T_t124 (.nilFunc) := TyZ.mk' (by kernel_rfl)
instance : TyI PR T_t126 false 1 := TyI.mk' (by kernel_rfl) (by kernel_rfl)
instance : TyZ PR T_t126 (.nilFunc) := TyZ.mk' (by kernel_rfl)
instance : TyI PR T_t127 false 1 := TyI.mk' (by kernel_rfl) (by kernel_rfl)
instance : TyZ PR T_t127 (.nilFunc) := TyZ.mk' (by kernel_rfl)
instance : TyI PR T_uint32 false 1 := TyI.mk' (by kernel_rfl) (by kernel_rfl)
instance : TyZ PR T_uint32 (.int .u32 0) := TyZ.mk' (by kernel_rfl)
instance : TyI PR T_t129 false 1 := TyI.mk' (by kernel_rfl) (by kernel_rfl)
instance : TyZ PR T_t129 (.nilFunc) := TyZ.mk' (by kernel_rfl)
instance : TyI PR T_t131 false 1 := TyI.mk' (by kernel_rfl) (by kernel_rfl)
instance : TyZ PR T_t131 (.nilFunc) := TyZ.mk' (by kernel_rfl)
instance : TyI PR T_t132 false 1 := TyI.mk' (by kernel_rfl) (by kernel_rfl)
instance : TyZ PR T_t132 (.nilFunc) := TyZ.mk' (by kernel_rfl)
instance : TyI PR T_t133 false 1 := TyI.mk' (by kernel_rfl) (by kernel_rfl)
instance : TyZ PR T_t133 (.nilFunc) := TyZ.mk' (by kernel_rfl)
instance : TyI PR T_t134 false 1 := TyI.mk' (by kernel_rfl) (by kernel_rfl)
instance : TyZ PR T_t134 (.nilFunc) := TyZ.mk' (by kernel_rfl)
instance : TyI PR T_t135 false 1 := TyI.mk' (by kernel_rfl) (by kernel_rfl)
instance : TyZ PR T_t135 (.nilFunc) := TyZ.mk' (by kernel_rfl)
instance : TyI PR T_t136 false 1 := TyI.mk' (by kernel_rfl) (by kernel_rfl)
instance : TyZ PR T_t136 (.nilFunc) := TyZ.mk' (by kernel_rfl)
instance : TyI PR T_t137 false 1 := TyI.mk' (by kernel_rfl) (by kernel_rfl)
instance : TyZ PR T_t137 (.nilFunc) := TyZ.mk' (by kernel_rfl)
instance : TyI PR T_t138 false 1 := TyI.mk' (by kernel_rfl) (by kernel_rfl)
instance : TyZ PR T_t138 (.nilFunc) := TyZ.mk' (by kernel_rfl)
instance : TyI PR T_slices_xorshift false 1 := TyI.mk' (by kernel_rfl) (by kernel_rfl)
instance : TyZ PR T_slices_xorshift (.int .u64 0) := TyZ.mk' (by kernel_rfl)
instance : TyI PR T_t140 false 1 := TyI.mk' (by kernel_rfl) (by kernel_rfl)
instance : TyZ PR T_t140 (.nilFunc) := TyZ.mk' (by kernel_rfl)
instance : TyI PR T_t141 false 1 := TyI.mk' (by kernel_rfl) (by kernel_rfl)
instance : TyZ PR T_t141 (.nilFunc) := TyZ.mk' (by kernel_rfl)
instance : TyI PR T_t142 false 1 := TyI.mk' (by kernel_rfl) (by kernel_rfl)
instance : TyZ PR T_t142 (.nilFunc) := TyZ.mk' (by kernel_rfl)
instance : TyI PR T_p_int false 1 := TyI.mk' (by kernel_rfl) (by kernel_rfl)
instance : TyZ PR T_p_int (.pointer none) := TyZ.mk' (by kernel_rfl)
instance : TyI PR T_t144 false 1 := TyI.mk' (by kernel_rfl) (by kernel_rfl)
instance : TyZ PR T_t144 (.nilFunc) := TyZ.mk' (by kernel_rfl)
instance : TyI PR T_t145 false 1 := TyI.mk' (by kernel_rfl) (by kernel_rfl)
instance : TyZ PR T_t145 (.nilFunc) := TyZ.mk' (by kernel_rfl)
instance : TyI PR T_t146 false 1 := TyI.mk' (by kernel_rfl) (by kernel_rfl)
instance : TyZ PR T_t146 (.nilFunc) := TyZ.mk' (by kernel_rfl)
instance : TyI PR T_t147 false 1 := TyI.mk' (by kernel_rfl) (by kernel_rfl)
instance : TyZ PR T_t147 (.nilFunc) := TyZ.mk' (by kernel_rfl)
instance : TyI PR T_p_slices_xorshift false 1 := TyI.mk' (by kernel_rfl) (by kernel_rfl)
instance : TyZ PR T_p_slices_xorshift (.pointer none) := TyZ.mk' (by kernel_rfl)
instance : TyI PR T_t150 false 1 := TyI.mk' (by kernel_rfl) (by kernel_rfl)
instance : TyZ PR T_t150 (.nilFunc) := TyZ.mk' (by kernel_rfl)
instance : TyI PR T_t151 false 1 := TyI.mk' (by kernel_rfl) (by kernel_rfl)
instance : TyZ PR T_t151 (.nilFunc) := TyZ.mk' (by kernel_rfl)
instance : TyI PR T_t152 false 1 := TyI.mk' (by kernel_rfl) (by kernel_rfl)
instance : TyZ PR T_t152 (.nilFunc) := TyZ.mk' (by kernel_rfl)
instance : TyI PR T_t153 true 4 := TyI.mk' (by kernel_rfl) (by kernel_rfl)
instance : TyZ PR T_t153 (.agg #[.pointer none, .pointer none, .pointer none, .string ⟨#[]⟩]) := TyZ.mk' (by kernel_rfl)
instance : TyI PR T_runtime_TypeAssertionError true 4 := TyI.mk' (by kernel_rfl) (by kernel_rfl)
instance : TyZ PR T_runtime_TypeAssertionError (.agg #[.pointer none, .pointer none, .pointer none, .string ⟨#[]⟩]) := TyZ.mk' (by kernel_rfl)
instance : TyI PR T_a0_p_runtime_PanicNilError true 0 := TyI.mk' (by kernel_rfl) (by kernel_rfl)
instance : TyZ PR T_a0_p_runtime_PanicNilError (.agg #[]) := TyZ.mk' (by kernel_rfl)
instance : TyI PR T_t156 true 0 := TyI.mk' (by kernel_rfl) (by kernel_rfl)
instance : TyZ PR T_t156 (.agg #[]) := TyZ.mk' (by kernel_rfl)
instance : TyI PR T_runtime_PanicNilError true 0 := TyI.mk' (by kernel_rfl) (by kernel_rfl)
instance : TyZ PR T_runtime_PanicNilError (.agg #[]) := TyZ.mk' (by kernel_rfl)
instance : TyI PR T_abi_TFlag false 1 := TyI.mk' (by kernel_rfl) (by kernel_rfl)
instance : TyZ PR T_abi_TFlag (.int .u8 0) := TyZ.mk' (by kernel_rfl)
instance : TyI PR T_abi_Kind false 1 := TyI.mk' (by kernel_rfl) (by kernel_rfl)
instance : TyZ PR T_abi_Kind (.int .u8 0) := TyZ.mk' (by kernel_rfl)
instance : TyI PR T_t160 false 1 := TyI.mk' (by kernel_rfl) (by kernel_rfl)
instance : TyZ PR T_t160 (.nilFunc) := TyZ.mk' (by kernel_rfl)
instance : TyI PR T_p_uint8 false 1 := TyI.mk' (by kernel_rfl) (by kernel_rfl)
instance : TyZ PR T_p_uint8 (.pointer none) := TyZ.mk' (by kernel_rfl)
instance : TyI PR T_abi_NameOff false 1 := TyI.mk' (by kernel_rfl) (by kernel_rfl)
instance : TyZ PR T_abi_NameOff (.int .i32 0) := TyZ.mk' (by kernel_rfl)
instance : TyI PR T_abi_TypeOff false 1 := TyI.mk' (by kernel_rfl) (by kernel_rfl)
instance : TyZ PR T_abi_TypeOff (.int .i32 0) := TyZ.mk' (by kernel_rfl)
instance : TyI PR T_t164 true 11 := TyI.mk' (by kernel_rfl) (by kernel_rfl)
instance : TyZ PR T_t164 (.agg #[.int .u64 0, .int .u64 0, .int .u32 0, .int .u8 0, .int .u8 0, .int .u8 0, .int .u8 0, .nilFunc, .pointer none, .int .i32 0, .int .i32 0]) := TyZ.mk' (by kernel_rfl)
instance : TyI PR T_abi_Type true 11 := TyI.mk' (by kernel_rfl) (by kernel_rfl)
instance : TyZ PR T_abi_Type (.agg #[.int .u64 0, .int .u64 0, .int .u32 0, .int .u8 0, .int .u8 0, .int .u8 0, .int .u8 0, .nilFunc, .pointer none, .int .i32 0, .int .i32 0]) := TyZ.mk' (by kernel_rfl)
instance : TyI PR T_unsafe_Pointer false 1 := TyI.mk' (by kernel_rfl) (by kernel_rfl)
instance : TyZ PR T_unsafe_Pointer (.pointer none) := TyZ.mk' (by kernel_rfl)
end Go.Proofs.Ythladblmjoaeoaa
namespace Go.Proofs.Ythladblmjoaeoaa
set_option linter.unusedVariables false
set_option linter.unusedSimpArgs false
open Go.Eng
/-! ### bytes.Clone (48) -/
def S.bytes_Clone.body (R : Value → World → Prop) (v0 : Value) (W : World) : Prop :=
  okF (eqP (.slice T_uint8) .eql v0 (.slice none 0 0)) fun v4 =>
  ifK v4 (
  R (.slice none 0 0) W) (
  efK PR (Instr.buildSlice T_s_uint8 0 #[]) (fun v5 W =>
  efK PR (Builtin.append_ #[T_s_uint8, T_s_uint8] T_s_uint8 #[v5, v0]) (fun v7 W =>
  R v7 W) W) W)
def S.bytes_Clone.hint : Hint := (.two .nil (.two (.two .nil (.two (.two .nil .nil) .nil)) (.two .nil .nil)))
theorem S.bytes_Clone.ok (R : Value → World → Prop) (v0 : Value) (W : World) : bodyK PR CB Try.f48 S.bytes_Clone.hint [v0] R W = S.bytes_Clone.body R v0 W := by kernel_rfl
theorem S.bytes_Clone.fn : PR.funcs[F_bytes_Clone]? = some Try.f48 := by kernel_rfl
theorem S.bytes_Clone.call {R : Value → World → Prop} {v0 : Value} {W : World} (h : S.bytes_Clone.body R v0 W) : callK PR F_bytes_Clone [v0] R W :=
  callK_of_body (g := F_bytes_Clone) (fn := Try.f48) (args := [v0]) (R := R) (w := W) mixed CBok S.bytes_Clone.fn S.bytes_Clone.hint (by rw [S.bytes_Clone.ok]; exact h)
end Go.Proofs.Ythladblmjoaeoaa
namespace Go.Eng
set_option linter.unusedVariables false
set_option linter.unusedSimpArgs false
open Go Go.RowKit
section
variable {P : Program} {W0 W W' : World} {L L' : List Asn}
theorem St.left {l rest : List Asn} (h : St W0 (l ++ rest) W) : St W0 l W := by
  obtain ⟨hb, p, hs, ho⟩ := h
  obtain ⟨h1, h2, hd, rfl, hl, hl'⟩ := sep_append.1 hs
  exact ⟨hb, h1, hl, fun b o hbo => ho b o (by simp [PH.join, hbo])⟩
theorem St.one {q : Nat} {cs : List Value} {T : TypeId} {L1 : List Asn} (h : St W0 L W) [h1 : Ck q L cs T L1] : St W0 [Eng.cells q cs T] W := St.left (l := [_]) (rest := L1) (h.perm h1.perm)
theorem St.two {q p : Nat} {cs ds : List Value} {T U : TypeId} {L1 L2 : List Asn} (h : St W0 L W) [h1 : Ck q L cs T L1] [h2 : Ck p L1 ds U L2] : St W0 [Eng.cells q cs T, Eng.cells p ds U] W :=
  St.left (l := [_, _]) (rest := L2) ((h.perm h1.perm).ent (ent.cons _ (ent.perm h2.perm)))
end
end Go.Eng
namespace Go.Eng
set_option linter.unusedVariables false
set_option linter.unusedSimpArgs false
open Go Go.RowKit
section
variable {P : Program} {W0 W W' : World} {L L' : List Asn} {e : TypeId} {α : Type} {A : Ly α}
end
end Go.Eng
namespace Go.Eng
set_option linter.unusedVariables false
set_option linter.unusedSimpArgs false
open Go Go.RowKit Go.MapKept Go.ChangeMaps

/-! ### rows of keys and what stands at them -/
section
variable {κ β : Type} [DecidableEq κ]
def mget : List (κ × β) → κ → Option β
  | [], _ => none
  | (a, b) :: l, k => if a = k then some b else mget l k
def mput : List (κ × β) → κ → β → List (κ × β)
  | [], k, v => [(k, v)]
  | (a, b) :: l, k, v => if a = k then (k, v) :: l else (a, b) :: mput l k v
def mdel : List (κ × β) → κ → List (κ × β)
  | [], _ => []
  | (a, b) :: l, k => if a = k then l else (a, b) :: mdel l k
theorem mget_none {l : List (κ × β)} {k : κ} : mget l k = none ↔ ∀ p ∈ l, p.1 ≠ k := by
  induction l with
  | nil => simp [mget]
  | cons p l ih =>
    obtain ⟨a, b⟩ := p
    by_cases h : a = k
    · simp [mget, h]
    · simp [mget, h, ih]
theorem mput_new {l : List (κ × β)} {k : κ} {v : β} (h : ∀ p ∈ l, p.1 ≠ k) : mput l k v = l ++ [(k, v)] := by
  induction l with
  | nil => rfl
  | cons p l ih =>
    obtain ⟨a, b⟩ := p
    have h1 : a ≠ k := h (a, b) (by simp)
    simp only [mput, if_neg h1, List.cons_append, ih fun p hp => h p (by simp [hp])]
theorem mdel_none {l : List (κ × β)} {k : κ} (h : ∀ p ∈ l, p.1 ≠ k) : mdel l k = l := by
  induction l with
  | nil => rfl
  | cons p l ih =>
    obtain ⟨a, b⟩ := p
    have h1 : a ≠ k := h (a, b) (by simp)
    simp only [mdel, if_neg h1, ih fun p hp => h p (by simp [hp])]
theorem mget_at {l : List (κ × β)} (hn : (l.map (·.1)).Nodup) {j : Nat} {k : κ} {v : β} (h : l[j]? = some (k, v)) : mget l k = some v := by
  induction l generalizing j with
  | nil => simp at h
  | cons p l ih =>
    obtain ⟨a, b⟩ := p
    cases j with
    | zero => simp at h; obtain ⟨rfl, rfl⟩ := h; simp [mget]
    | succ j =>
      simp only [List.getElem?_cons_succ] at h
      simp only [List.map_cons, List.nodup_cons] at hn
      have : a ≠ k := fun e => hn.1 (List.mem_map.2 ⟨(k, v), List.mem_of_getElem? h, e.symm⟩)
      simp only [mget, if_neg this]
      exact ih hn.2 h
theorem mput_at {l : List (κ × β)} (hn : (l.map (·.1)).Nodup) {j : Nat} {k : κ} {v w : β} (h : l[j]? = some (k, v)) : mput l k w = l.set j (k, w) := by
  induction l generalizing j with
  | nil => simp at h
  | cons p l ih =>
    obtain ⟨a, b⟩ := p
    cases j with
    | zero => simp at h; obtain ⟨rfl, rfl⟩ := h; simp [mput]
    | succ j =>
      simp only [List.getElem?_cons_succ] at h
      simp only [List.map_cons, List.nodup_cons] at hn
      have : a ≠ k := fun e => hn.1 (List.mem_map.2 ⟨(k, v), List.mem_of_getElem? h, e.symm⟩)
      simp only [mput, if_neg this, List.set_cons_succ, ih hn.2 h]
theorem mdel_at {l : List (κ × β)} (hn : (l.map (·.1)).Nodup) {j : Nat} {k : κ} {v : β} (h : l[j]? = some (k, v)) : mdel l k = l.eraseIdx j := by
  induction l generalizing j with
  | nil => simp at h
  | cons p l ih =>
    obtain ⟨a, b⟩ := p
    cases j with
    | zero => simp at h; obtain ⟨rfl, rfl⟩ := h; simp [mdel]
    | succ j =>
      simp only [List.getElem?_cons_succ] at h
      simp only [List.map_cons, List.nodup_cons] at hn
      have : a ≠ k := fun e => hn.1 (List.mem_map.2 ⟨(k, v), List.mem_of_getElem? h, e.symm⟩)
      simp only [mdel, if_neg this, List.eraseIdx_cons_succ, ih hn.2 h]
end

/-! ### types of keys, types of maps -/
class KeyT (P : Program) (t : TypeId) {κ : Type} (K : κ → Value) : Prop where
  inj : ∀ {a b : κ}, K a = K b → a = b
  check : ∀ (w : World) (em : Bool) (k : κ), (Instr.checkKey em 10000 t (K k)).run P w = .ok () w
  find : ∀ (w : World) (k : κ) (es : List MapEntry), (∀ e ∈ es, ∃ k', e.key = K k') →
    ((Instr.findKey t (K k) es).run P w = .ok none w ∧ ∀ e ∈ es, e.key ≠ K k) ∨ ∃ j e, (Instr.findKey t (K k) es).run P w = .ok (some (j, e.val)) w ∧ es[j]? = some e ∧ e.key = K k
  stays : ∀ (w : World) (k : κ), (Instr.keyThatStays (K k) (K k)).run P w = .ok (K k) w
class MapT (P : Program) (t : TypeId) (kt : outParam TypeId) (et : outParam TypeId) : Prop where
  ok : P.underlying t = some (.map kt et)
theorem KeyT.plain {P : Program} {t : TypeId} {d : TypeDesc} {κ : Type} {K : κ → Value} (hd : P.underlying t = some d) (hk : ∀ k, IsKey d (K k)) (hi : ∀ {a b : κ}, K a = K b → a = b) : KeyT P t K where
  inj := hi
  check w em k := run_checkKey hd (hk k) em 9999
  find w k es hes := by
    have hks : ∀ y ∈ es, IsKey d y.key := fun y hy => by
      obtain ⟨l, hl⟩ := hes y hy
      rw [hl]; exact hk l
    rcases findNow_spec (hk k) es 0 hks with ⟨h1, h2⟩ | ⟨j, e0, h1, h2, h3⟩
    · exact Or.inl ⟨run_findKey hd h1, h2⟩
    · exact Or.inr ⟨j, e0, by simpa using run_findKey hd h1, h2, h3⟩
  stays w k := run_keyThatStays (hk k)
abbrev KI : Int → Value := fun i => .int .i64 i
abbrev KS : ByteArray → Value := .string
theorem KeyT.int {P : Program} {t : TypeId} (hd : P.underlying t = some (.int .i64)) : KeyT P t KI := .plain hd (fun _ => rfl) (fun h => by cases h; rfl)
theorem KeyT.str {P : Program} {t : TypeId} (hd : P.underlying t = some .string) : KeyT P t KS := .plain hd (fun _ => trivial) (fun h => by cases h; rfl)

/-! ### a map as a chunk -/
def mpL {κ : Type} (K : κ → Value) (l : List (κ × Value)) (es : Array MapEntry) : Prop := es.toList.map (fun e => (e.key, e.val)) = l.map (fun p => (K p.1, p.2))
def mp {κ : Type} (K : κ → Value) (r : Nat) (l : List (κ × Value)) : Asn := fun h => ∃ x : Array MapEntry × Nat, (mpL K l x.1 ∧ Stamped x.1 x.2) ∧ blk r (.map x.1 x.2) h
section
variable {κ : Type} {K : κ → Value} {P : Program} {W0 W W' : World} {L L' : List Asn} {t kt et : TypeId} {r : Nat} {l : List (κ × Value)}
theorem St.mp (h : St W0 (mp K r l :: L) W) : ∃ es clock, mpL K l es ∧ Stamped es clock ∧ St W0 (Eng.blk r (.map es clock) :: L) W := by
  obtain ⟨⟨es, clock⟩, h⟩ := h.ex
  obtain ⟨⟨h1, h2⟩, h⟩ := h.fact
  exact ⟨es, clock, h1, h2, h⟩
theorem mp_ent {es : Array MapEntry} {clock : Nat} (h1 : mpL K l es) (h2 : Stamped es clock) : ent (blk r (.map es clock) :: L) (mp K r l :: L) := ent.weak fun _ hp => ⟨(es, clock), ⟨h1, h2⟩, hp⟩
theorem mpL_keys {es : Array MapEntry} (h : mpL K l es) : ∀ e ∈ es.toList, ∃ k', e.key = K k' := by
  intro e he
  have : (e.key, e.val) ∈ l.map (fun p => (K p.1, p.2)) := by rw [← h]; exact List.mem_map.2 ⟨e, he, rfl⟩
  obtain ⟨p, _, hp⟩ := List.mem_map.1 this
  exact ⟨p.1, (congrArg Prod.fst hp).symm⟩
theorem mpL_at {es : Array MapEntry} (h : mpL K l es) {j : Nat} {e : MapEntry} (he : es.toList[j]? = some e) : ∃ p, l[j]? = some p ∧ e.key = K p.1 ∧ e.val = p.2 := by
  have h1 := congrArg (fun x => x[j]?) h
  simp only [List.getElem?_map, he, Option.map_some] at h1
  cases hl : l[j]? with
  | none => rw [hl] at h1; cases h1
  | some p =>
    rw [hl] at h1
    simp only [Option.map_some, Option.some.injEq, Prod.mk.injEq] at h1
    exact ⟨p, rfl, h1.1, h1.2⟩
theorem mpL_nodup {es : Array MapEntry} {clock : Nat} (h : mpL K l es) (hs : Stamped es clock) : (l.map (·.1)).Nodup := by
  have h1 : es.toList.map (·.key) = l.map (fun p => K p.1) := by
    have := congrArg (List.map Prod.fst) h
    simpa [List.map_map, Function.comp_def] using this
  have h2 := hs.2.2
  rw [h1] at h2
  have h3 : ((l.map (·.1)).map K).Nodup := by simpa [List.map_map, Function.comp_def] using h2
  simp only [List.Nodup, List.pairwise_map] at h3 ⊢
  exact h3.imp fun h e => h (by rw [e])
theorem mkMap {k : Value → World → Prop} (h : St W0 L W) (hk : ∀ r W', St W0 (Eng.mp K r [] :: L) W' → k (.map (some r)) W') : efK P (Instr.makeMap t none) k W := by
  refine ⟨.map (some W.heap.size), W.alloc (.map #[] 0), run_makeMap t W, hk _ _ ?_⟩
  exact (h.alloc (.map #[] 0)).ent (mp_ent (by simp [mpL]) (stamped_empty 0))
variable [DecidableEq κ]
theorem lookup_run [hT : MapT P t kt et] [hK : KeyT P kt K] {z : Value} [hz : TyZ P et z] {a : κ} (c : Bool) (h : St W0 (Eng.mp K r l :: L) W) :
    (Instr.lookup t (.map (some r)) (K a) c).run P W = .ok (if c then .tuple #[(mget l a).getD z, .bool (mget l a).isSome] else (mget l a).getD z) W := by
  obtain ⟨es, clock, h1, h2, h3⟩ := h.mp
  have hb := h3.blk.2
  have hn := mpL_nodup h1 h2
  obtain ⟨i, hi, hz⟩ := hz.ok
  have hzr : (zeroValue et).run P W = .ok z W := by simp [zeroValue, typeInfo, hi, hz]
  rcases hK.find W a es.toList (mpL_keys h1) with ⟨h4, h5⟩ | ⟨j, e0, h4, h5, h6⟩
  · have e1 : mget l a = none := mget_none.2 fun p hp e => by
      have : (K p.1, p.2) ∈ es.toList.map (fun e => (e.key, e.val)) := by rw [h1]; exact List.mem_map.2 ⟨p, hp, rfl⟩
      obtain ⟨x, hx, he⟩ := List.mem_map.1 this
      exact h5 x hx (by rw [← e]; exact congrArg Prod.fst he)
    rw [e1]
    simp [Instr.lookup, run_underlying hT.ok, MapKept.run_getObj_map hb, hK.check W _ a, h4, hzr, Result.andThen]
  · obtain ⟨p, hp, hp1, hp2⟩ := mpL_at h1 h5
    have : p.1 = a := hK.inj (by rw [← hp1, h6])
    have e1 : mget l a = some e0.val := by rw [hp2]; subst this; exact mget_at hn hp
    rw [e1]
    simp [Instr.lookup, run_underlying hT.ok, MapKept.run_getObj_map hb, hK.check W _ a, h4, Result.andThen]
theorem lkp [hT : MapT P t kt et] [hK : KeyT P kt K] {z : Value} [hz : TyZ P et z] (a : κ) {k : Value → World → Prop} (h : St W0 L W) [hm : Tk (Eng.mp K r) L l L'] (hk : k ((mget l a).getD z) W) : rdK P (Instr.lookup t (.map (some r)) (K a) false) k W :=
  ⟨_, by rw [lookup_run (a := a) false (h.perm hm.perm)]; rfl, hk⟩
theorem lkpOk [hT : MapT P t kt et] [hK : KeyT P kt K] {z : Value} [hz : TyZ P et z] (a : κ) {k : Value → World → Prop} (h : St W0 L W) [hm : Tk (Eng.mp K r) L l L'] (hk : k (.tuple #[(mget l a).getD z, .bool (mget l a).isSome]) W) : rdK P (Instr.lookup t (.map (some r)) (K a) true) k W :=
  ⟨_, by rw [lookup_run (a := a) true (h.perm hm.perm)]; rfl, hk⟩
theorem mset [hT : MapT P t kt et] [hK : KeyT P kt K] (a : κ) {v : Value} {k : Unit → World → Prop} (h : St W0 L W) [hm : Tk (Eng.mp K r) L l L'] (hk : ∀ W', St W0 (Eng.mp K r (mput l a v) :: L') W' → k () W') : efK P (Instr.mapUpdate t (.map (some r)) (K a) v) k W := by
  obtain ⟨es, clock, h1, h2, h3⟩ := (h.perm hm.perm).mp
  have hb := h3.blk.2
  have hn := mpL_nodup h1 h2
  rcases hK.find W a es.toList (mpL_keys h1) with ⟨h4, h5⟩ | ⟨j, e0, h4, h5, h6⟩
  · have hne : ∀ p ∈ l, p.1 ≠ a := fun p hp e => by
      have : (K p.1, p.2) ∈ es.toList.map (fun e => (e.key, e.val)) := by rw [h1]; exact List.mem_map.2 ⟨p, hp, rfl⟩
      obtain ⟨x, hx, he⟩ := List.mem_map.1 this
      exact h5 x hx (by rw [← e]; exact congrArg Prod.fst he)
    refine ⟨(), { W with heap := W.heap.setIfInBounds r (.map (es.push ⟨K a, v, clock⟩) (clock + 1)) }, by simp [Instr.mapUpdate, run_underlying hT.ok, MapKept.run_getObj_map hb, hK.check W false a, h4, MapKept.run_setObj_map _ hb, Result.andThen], hk _ ?_⟩
    refine (h3.setBlk (.map (es.push ⟨K a, v, clock⟩) (clock + 1))).ent (mp_ent ?_ (stamped_push h2 h5))
    rw [mput_new hne]
    have h1' : _ = _ := h1
    simp only [mpL, Array.toList_push, List.map_append, h1']
    rfl
  · obtain ⟨p, hp, hp1, hp2⟩ := mpL_at h1 h5
    have hpa : p.1 = a := hK.inj (by rw [← hp1, h6])
    have hj : es[j]? = some e0 := by simpa using h5
    refine ⟨(), { W with heap := W.heap.setIfInBounds r (.map (es.modify j fun e => { e with key := K a, val := v }) clock) }, by simp [Instr.mapUpdate, run_underlying hT.ok, MapKept.run_getObj_map hb, hK.check W false a, h4, hj, h6, hK.stays W a, MapKept.run_setObj_map _ hb, Result.andThen], hk _ ?_⟩
    refine (h3.setBlk (.map (es.modify j fun e => { e with key := K a, val := v }) clock)).ent (mp_ent ?_ (stamped_modify h2 _ _ (fun _ _ => rfl) (fun e' _ he' => by rw [hj] at he'; cases he'; exact h6.symm)))
    subst hpa
    rw [mput_at hn hp]
    have h1' : _ = _ := h1
    simp only [mpL, Array.toList_modify, modify_eq_set _ _ _ _ h5, List.map_set, h1']
theorem mdelete [hT : MapT P t kt et] [hK : KeyT P kt K] (a : κ) {ty : TypeId} {k : Value → World → Prop} (h : St W0 L W) [hm : Tk (Eng.mp K r) L l L'] (hk : ∀ W', St W0 (Eng.mp K r (mdel l a) :: L') W' → k (.tuple #[]) W') : efK P (Builtin.delete_ #[t, kt] ty #[.map (some r), K a]) k W := by
  obtain ⟨es, clock, h1, h2, h3⟩ := (h.perm hm.perm).mp
  have hb := h3.blk.2
  have hn := mpL_nodup h1 h2
  rcases hK.find W a es.toList (mpL_keys h1) with ⟨h4, h5⟩ | ⟨j, e0, h4, h5, h6⟩
  · have hne : ∀ p ∈ l, p.1 ≠ a := fun p hp e => by
      have : (K p.1, p.2) ∈ es.toList.map (fun e => (e.key, e.val)) := by rw [h1]; exact List.mem_map.2 ⟨p, hp, rfl⟩
      obtain ⟨x, hx, he⟩ := List.mem_map.1 this
      exact h5 x hx (by rw [← e]; exact congrArg Prod.fst he)
    refine ⟨.tuple #[], { W with heap := W.heap.setIfInBounds r (.map es clock) }, by simp [Builtin.delete_, run_underlying hT.ok, MapKept.run_getObj_map hb, hK.check W _ a, h4, MapKept.run_setObj_map _ hb, Result.andThen], hk _ ?_⟩
    refine (h3.setBlk (.map es clock)).ent (mp_ent ?_ h2)
    rw [mdel_none hne]; exact h1
  · obtain ⟨p, hp, hp1, hp2⟩ := mpL_at h1 h5
    have hpa : p.1 = a := hK.inj (by rw [← hp1, h6])
    have hjs : j < es.size := by have := (List.getElem?_eq_some_iff.1 h5).1; simpa using this
    refine ⟨.tuple #[], { W with heap := W.heap.setIfInBounds r (.map (es.eraseIdxIfInBounds j) clock) }, by simp [Builtin.delete_, run_underlying hT.ok, MapKept.run_getObj_map hb, hK.check W _ a, h4, MapKept.run_setObj_map _ hb, Result.andThen], hk _ ?_⟩
    refine (h3.setBlk (.map (es.eraseIdxIfInBounds j) clock)).ent (mp_ent ?_ (stamped_erase h2 j))
    subst hpa
    rw [mdel_at hn hp]
    have hsub : (es.eraseIdxIfInBounds j).toList = es.toList.eraseIdx j := by
      unfold Array.eraseIdxIfInBounds
      rw [dif_pos hjs]
      simp
    have h1' : _ = _ := h1
    simp only [mpL, hsub, map_eraseIdx, h1']
end

/-! ### a walk over a map: the map and its iterator together; 'rem' is what is still to come, 'cur' what came last -/
def mpiF {κ : Type} (K : κ → Value) (l rem : List (κ × Value)) (cur : Option (κ × Value)) (es : Array MapEntry) (clock : Nat) (seen : Array Nat) : Prop :=
  mpL K l es ∧ Stamped es clock ∧ (leftOf es seen).toList.map (fun e => (e.key, e.val)) = rem.map (fun p => (K p.1, p.2)) ∧ ∀ p, cur = some p → ∃ e ∈ es.toList, ∃ seen' : Array Nat, seen = seen'.push e.born ∧ e.key = K p.1 ∧ e.val = p.2
def mpi {κ : Type} (K : κ → Value) (r b : Nat) (l rem : List (κ × Value)) (cur : Option (κ × Value)) : Asn := fun h => ∃ x : Array MapEntry × Nat × Array Nat,
  mpiF K l rem cur x.1 x.2.1 x.2.2 ∧ sep [blk r (.map x.1 x.2.1), blk b (.mapIter (some r) x.2.1 x.2.2 x.2.1)] h
/-- where the walk stands -/
class Mi (b : Nat) (L : List Asn) {κ : outParam Type} (K : outParam (κ → Value)) (r : outParam Nat) (l rem : outParam (List (κ × Value))) (cur : outParam (Option (κ × Value))) (L' : outParam (List Asn)) : Prop where
  perm : L.Perm (mpi K r b l rem cur :: L')
instance (priority := high) Mi.here (b : Nat) {κ : Type} (K : κ → Value) (r : Nat) (l rem : List (κ × Value)) (cur : Option (κ × Value)) (L : List Asn) : Mi b (mpi K r b l rem cur :: L) K r l rem cur L := ⟨.refl _⟩
instance Mi.there (b : Nat) (x : Asn) {κ : Type} (K : κ → Value) (r : Nat) (l rem : List (κ × Value)) (cur : Option (κ × Value)) (L L' : List Asn) [h : Mi b L K r l rem cur L'] : Mi b (x :: L) K r l rem cur (x :: L') := ⟨(h.perm.cons x).trans (List.Perm.swap _ _ _)⟩
section
variable {κ : Type} {K : κ → Value} {P : Program} {W0 W W' : World} {L L' : List Asn} {t kt et : TypeId} {r b : Nat} {l rem : List (κ × Value)} {cur : Option (κ × Value)}
theorem St.mpi (h : St W0 (Eng.mpi K r b l rem cur :: L) W) : ∃ es clock seen, mpiF K l rem cur es clock seen ∧ St W0 (Eng.blk r (.map es clock) :: Eng.blk b (.mapIter (some r) clock seen clock) :: L) W := by
  obtain ⟨⟨es, clock, seen⟩, h⟩ := h.ex
  obtain ⟨h1, h⟩ := h.fact
  exact ⟨es, clock, seen, h1, h.flat⟩
theorem mpi_ent {es : Array MapEntry} {clock : Nat} {seen : Array Nat} (h : mpiF K l rem cur es clock seen) : ent (Eng.blk r (.map es clock) :: Eng.blk b (.mapIter (some r) clock seen clock) :: L) (Eng.mpi K r b l rem cur :: L) :=
  (ent.pack [_, _] L).trans (ent.weak fun _ hp => ⟨(es, clock, seen), h, hp⟩)
theorem St.mpiEnd (h : St W0 (Eng.mpi K r b l rem cur :: L) W) : St W0 (Eng.mp K r l :: L) W := by
  obtain ⟨es, clock, seen, ⟨h1, h2, _⟩, h⟩ := h.mpi
  exact h.drop2.ent (mp_ent h1 h2)
theorem rangeM [hT : MapT P t kt et] {k : Value → World → Prop} (h : St W0 L W) [hm : Tk (Eng.mp K r) L l L'] (hk : ∀ b W', St W0 (Eng.mpi K r b l l none :: L') W' → k (.pointer (some ⟨b, 0, none⟩)) W') : efK P (Instr.range t (.map (some r))) k W := by
  obtain ⟨es, clock, h1, h2, h3⟩ := (h.perm hm.perm).mp
  have hb := h3.blk.2
  refine ⟨.pointer (some ⟨W.heap.size, 0, none⟩), W.alloc (.mapIter (some r) clock #[] clock), ?_, hk _ _ ?_⟩
  · simp [Instr.range, run_underlying hT.ok, MapKept.run_getObj_map hb, Result.andThen]
  · refine ((h3.alloc (.mapIter (some r) clock #[] clock)).ent (ent.swap _ _ _)).ent (mpi_ent ⟨h1, h2, ?_, fun p hp => by cases hp⟩)
    rw [← h1]
    simp only [leftOf, Array.toList_filter]
    rw [List.filter_eq_self.2 (by simp)]
theorem nextM {ty : TypeId} {k : Value → World → Prop} (h : St W0 L W) [hm : Mi b L K r l rem cur L'] (h0 : rem = [] → k (.tuple #[.bool false]) W)
    (h1 : ∀ pre a v post W', rem = pre ++ (a, v) :: post → St W0 (Eng.mpi K r b l (pre ++ post) (some (a, v)) :: L') W' → k (.tuple #[.bool true, K a, v]) W') : efK P (Instr.next (.pointer (some ⟨b, 0, none⟩)) false ty) k W := by
  obtain ⟨es, clock, seen, ⟨e1, e2, e3, e4⟩, h3⟩ := (h.perm hm.perm).mpi
  have hb := h3.blk.2
  have hr := (h3.ent (ent.swap _ _ _)).blk.2
  rcases run_next_at (P := P) W ty b r clock clock seen es clock hr hb e2.1 (Nat.le_refl _) with ⟨h4, h5⟩ | ⟨e, he, w1, hw1, h5⟩
  · refine ⟨_, _, h5, h0 ?_⟩
    have : (leftOf es seen).toList = [] := by rw [Array.eq_empty_of_size_eq_zero h4]
    rw [this] at e3
    simpa using e3.symm
  · obtain ⟨A, B, hAB⟩ := List.append_of_mem he
    rw [hAB, List.map_append, List.map_cons] at e3
    obtain ⟨pre, tl, e5, e6, e7⟩ := List.append_eq_map_iff.1 e3
    obtain ⟨p, post, e8, e9, e10⟩ := List.map_eq_cons_iff.1 e7
    subst e8
    obtain ⟨a, v⟩ := p
    simp only [Prod.mk.injEq] at e9
    refine ⟨_, _, h5, ?_⟩
    rw [← e9.1, ← e9.2]
    refine h1 pre a v post _ e5 ?_
    have h3' : St W0 (Eng.blk r (.map es clock) :: Eng.blk b (.mapIter (some r) clock seen clock) :: L') w1 := by
      rcases hw1 with rfl | rfl
      · exact h3
      · exact tape_drew h3
    have h6 := ((h3'.ent (ent.swap _ _ _)).setBlk (.mapIter (some r) clock (seen.push e.born) clock)).ent (ent.swap _ _ _)
    refine h6.ent (mpi_ent ⟨e1, e2, ?_, ?_⟩)
    · rw [List.map_append, e6, e10, ← List.map_append]
      congr 1
      have hn : ((leftOf es seen).toList.map (·.born)).Nodup := by
        simp only [leftOf, Array.toList_filter]
        exact (List.Sublist.map _ (List.filter_sublist)).nodup e2.2.1
      rw [hAB] at hn
      have hl : (leftOf es (seen.push e.born)).toList = (leftOf es seen).toList.filter fun x => x.born != e.born := by
        simp only [leftOf, Array.toList_filter, List.filter_filter]
        congr 1
        funext x
        by_cases hx : x.born = e.born
        · simp [hx]
        · simp [hx, Ne.symm hx]
      rw [hl, hAB, List.filter_append, List.filter_cons]
      simp only [bne_self_eq_false, Bool.false_eq_true, if_false]
      simp only [List.map_append, List.map_cons, List.nodup_append, List.nodup_cons] at hn
      rw [List.filter_eq_self.2, List.filter_eq_self.2]
      · intro x hx
        have : x.born ≠ e.born := fun h => hn.2.1.1 (List.mem_map.2 ⟨x, hx, h⟩)
        simp [this]
      · intro x hx
        have : x.born ≠ e.born := hn.2.2 x.born (List.mem_map.2 ⟨x, hx, rfl⟩) e.born (by simp)
        simp [this]
    · rintro p hp
      cases hp
      refine ⟨e, ?_, seen, rfl, e9.1.symm, e9.2.symm⟩
      have : e ∈ (leftOf es seen).toList := he
      simp only [leftOf, Array.toList_filter, List.mem_filter] at this
      exact this.1
theorem entryM {a : κ} {v : Value} {k : Value → World → Prop} (h : St W0 L W) [hm : Mi b L K r l rem (some (a, v)) L'] (hk : k (.tuple #[K a, v]) W) : efK P (Instr.entry (.pointer (some ⟨b, 0, none⟩))) k W := by
  obtain ⟨es, clock, seen, ⟨e1, e2, e3, e4⟩, h3⟩ := (h.perm hm.perm).mpi
  obtain ⟨e, he, seen', rfl, e5, e6⟩ := e4 _ rfl
  have hb := h3.blk.2
  have hr := (h3.ent (ent.swap _ _ _)).blk.2
  refine ⟨_, _, run_entry_at W b r clock seen' es clock e hr hb he e2.2.1, ?_⟩
  rw [e5, e6]; exact hk
end
end Go.Eng
namespace Go.Eng
set_option linter.unusedVariables false
set_option linter.unusedSimpArgs false
open Go Go.RowKit

def many {β : Type} (F : β → Asn) (l : List β) : Asn := sep (l.map F)
section
variable {κ β γ : Type} [DecidableEq κ] {F : β → Asn} {L : List Asn}
theorem mget_map (g : β → γ) (l : List (κ × β)) (a : κ) : mget (l.map fun p => (p.1, g p.2)) a = (mget l a).map g := by
  induction l with
  | nil => rfl
  | cons p l ih =>
    by_cases h : p.1 = a
    · simp [mget, h]
    · simp [mget, h, ih]
theorem mput_map (g : β → γ) (l : List (κ × β)) (a : κ) (b : β) : mput (l.map fun p => (p.1, g p.2)) a (g b) = (mput l a b).map fun p => (p.1, g p.2) := by
  induction l with
  | nil => rfl
  | cons p l ih =>
    by_cases h : p.1 = a
    · simp [mput, h]
    · simp [mput, h, ih]
theorem mdel_map (g : β → γ) (l : List (κ × β)) (a : κ) : mdel (l.map fun p => (p.1, g p.2)) a = (mdel l a).map fun p => (p.1, g p.2) := by
  induction l with
  | nil => rfl
  | cons p l ih =>
    by_cases h : p.1 = a
    · simp [mdel, h]
    · simp [mdel, h, ih]
theorem mget_mput (l : List (κ × β)) (a b : κ) (v : β) : mget (mput l a v) b = if a = b then some v else mget l b := by
  induction l with
  | nil => simp [mput, mget]
  | cons p l ih =>
    by_cases h : p.1 = a
    · subst h
      by_cases hb : p.1 = b
      · simp [mput, mget, hb]
      · simp [mput, mget, hb]
    · by_cases hb : p.1 = b
      · subst hb
        simp [mput, mget, h, Ne.symm h]
      · simp [mput, mget, h, hb, ih]
theorem mdel_perm {l : List (κ × β)} {a : κ} {b : β} (h : mget l a = some b) : l.Perm ((a, b) :: mdel l a) := by
  induction l with
  | nil => cases h
  | cons p l ih =>
    obtain ⟨x, y⟩ := p
    by_cases hx : x = a
    · subst hx
      simp only [mget, if_true, Option.some.injEq] at h
      subst h
      simp [mdel]
    · simp only [mget, if_neg hx] at h
      simp only [mdel, if_neg hx]
      exact ((ih h).cons _).trans (List.Perm.swap _ _ _)
theorem mdel_put_perm (l : List (κ × β)) (a : κ) (b : β) : ((a, b) :: mdel l a).Perm (mput l a b) := by
  induction l with
  | nil => exact .refl _
  | cons p l ih =>
    by_cases h : p.1 = a
    · simp [mdel, mput, h]
    · simp only [mdel, mput, if_neg h]
      exact (List.Perm.swap _ _ _).trans (ih.cons _)
theorem many_cons (b : β) (l : List β) : ent (many F (b :: l) :: L) (F b :: many F l :: L) := (ent.flat (F b :: l.map F) L).trans (ent.cons _ (ent.pack _ _))
theorem many_uncons (b : β) (l : List β) : ent (F b :: many F l :: L) (many F (b :: l) :: L) := (ent.cons _ (ent.flat (l.map F) L)).trans (ent.pack (F b :: l.map F) L)
theorem many_nil : ent L (many F ([] : List β) :: L) := ent.emp fun _ => rfl
theorem many_perm {l l' : List β} (h : l.Perm l') : ent (many F l :: L) (many F l' :: L) := ent.weak fun _ hp => sep_perm (h.map F) hp
/-- what stands at a key is taken out (nothing, if nothing stands there) -/
theorem many_take {l : List (κ × β)} (a : κ) (b0 : β) (h0 : ∀ L, ent L (F b0 :: L)) : ent (many F (l.map (·.2)) :: L) (F ((mget l a).getD b0) :: many F ((mdel l a).map (·.2)) :: L) := by
  cases h : mget l a with
  | none =>
    rw [mdel_none (mget_none.1 h)]
    exact h0 _
  | some b => exact (many_perm ((mdel_perm h).map (·.2))).trans (many_cons _ _)
theorem many_put {l : List (κ × β)} (a : κ) (b : β) : ent (F b :: many F ((mdel l a).map (·.2)) :: L) (many F ((mput l a b).map (·.2)) :: L) :=
  (many_uncons b _).trans (many_perm (List.Perm.map (fun x : κ × β => x.2) (mdel_put_perm l a b)))
end

/-- a slice of bytes, as it lies -/
structure BSl where
  a : Option Addr
  c : Nat
  bs : List UInt8
abbrev BSl.v (x : BSl) : Value := .slice x.a x.bs.length x.c
end Go.Eng
namespace Go.Proofs.Ythladblmjoaeoaa
set_option linter.unusedVariables false
set_option linter.unusedSimpArgs false
open Go Go.Eng

section
variable {W0 W : World} {L L' : List Asn}
theorem bytesClone {a : Option Addr} {l : List UInt8} {c : Nat} {k : Value → World → Prop} (h : St W0 L W) [hr : Rd W0 L a B8 l] (hl : l.length < 70368744177664)
    (hk : ∀ a' c' W', St W0 (arr B8 T_uint8 a' c' l :: L) W' → k (.slice a' l.length c') W') : callK PR F_bytes_Clone [.slice a l.length c] k W := by
  apply S.bytes_Clone.call
  unfold S.bytes_Clone.body
  cases a with
  | none =>
    have hl0 : l = [] := by
      rcases Classical.em (l = []) with h0 | h0
      · exact h0
      · obtain ⟨g, o, h1, _⟩ := Rd.at (A := B8) (l := l) (a := none) h h0
        cases h1
    subst hl0
    simp -implicitDefEqProofs only [SE, SU, SV]
    exact hk none 0 W (h.ent (arr_nil _ _))
  | some ad =>
    simp -implicitDefEqProofs only [SE, SU, SV]
    refine bs0 B8 h fun a1 c1 W1 h1 => ?_
    refine appA (a := a1) (l := []) (m := l) h1 rfl (by simp; omega) (by simp [maxLen]; omega) fun a2 c2 W2 h2 => ?_
    exact hk a2 c2 W2 h2

@[reducible] def fch (x : BSl) : Asn := arr B8 T_uint8 x.a x.c x.bs
theorem fch0 (L : List Asn) : ent L (fch ⟨none, 0, []⟩ :: L) := arr_nil _ _
def InB (x : BSl) (B : List BSl) : Prop := x.bs = [] ∨ x ∈ B
theorem InB.cons {x y : BSl} {B : List BSl} (h : InB x B) : InB x (y :: B) := h.imp id fun h => List.mem_cons_of_mem _ h
theorem InB.nil (x : BSl) (B : List BSl) (h : x.bs = []) : InB x B := .inl h
theorem rdMany {x : BSl} {B : List BSl} (hx : InB x B) : Rd W0 (many fch B :: L) x.a B8 x.bs := ⟨fun W h => by
  rcases hx with hx | hx
  · rw [hx]; exact .inl rfl
  · obtain ⟨A, C, rfl⟩ := List.append_of_mem hx
    have h1 := h.ent ((many_perm (F := fch) (List.perm_middle (a := x) (l₁ := A) (l₂ := C))).trans (many_cons _ _))
    have hr : Rd W0 (arr B8 T_uint8 x.a x.c x.bs :: many fch (A ++ C) :: L) x.a B8 x.bs := inferInstance
    exact hr.ok W h1⟩
end
end Go.Proofs.Ythladblmjoaeoaa
namespace Go.Eng
set_option linter.unusedVariables false
set_option linter.unusedSimpArgs false

theorem ofNat_toNat {n : Nat} (h : n < 256) : (UInt8.ofNat n).toNat = n := by simp [UInt8.toNat_ofNat', Nat.mod_eq_of_lt h]
end Go.Eng
namespace Go.Eng
set_option linter.unusedVariables false
set_option linter.unusedSimpArgs false
open Go

theorem u64w (n : Int) : IntKind.u64.wrap n = n % 18446744073709551616 := by
  unfold IntKind.wrap
  have : IntKind.u64.signed = false := rfl
  simp only [this, Bool.false_and, Bool.false_eq_true, if_false]
  rfl
theorem i64w (n : Int) : IntKind.i64.wrap n = (n + 9223372036854775808) % 18446744073709551616 - 9223372036854775808 := by rw [IntKind.wrap_i64]
theorem u8w (n : Int) : IntKind.u8.wrap n = n % 256 := by rw [IntKind.wrap_u8]
theorem shr_u (u k : Nat) (hk : k ≤ 64) : ((u : Int).fdiv (2 ^ (min ((k : Nat) : Int).toNat IntKind.u64.bits))) = ((u / 2 ^ k : Nat) : Int) := by
  have h64 : IntKind.u64.bits = 64 := rfl
  rw [h64, Int.toNat_natCast, Nat.min_eq_left hk, Int.fdiv_eq_ediv_of_nonneg _ (by exact Int.pow_nonneg (by decide))]
  rw [Int.natCast_ediv, Int.natCast_pow]; rfl
theorem cvt8 (u : Nat) : IntKind.u8.wrap (u : Int) = ((u % 256 : Nat) : Int) := by rw [u8w]; rfl
theorem b8_ofNat {n : Nat} (h : n < 256) : Value.int .u8 (n : Int) = b8 (UInt8.ofNat n) := by unfold b8; rw [ofNat_toNat h]
end Go.Eng
namespace Go.Proofs.Ythladblmjoaeoaa
set_option linter.unusedVariables false
set_option linter.unusedSimpArgs false
open Go Go.Eng

abbrev Wr := Int × Int × Int
structure DS where
  room : Int
  fs : List (Int × List UInt8)
  ws : List Wr
  on : Bool
  lives : Int
def lens (l : List (Int × List UInt8)) : Int := (l.map fun p => (p.2.length : Int)).sum
def cont (fs : List (Int × List UInt8)) (f : Int) : List UInt8 := (mget fs f).getD []
def DS.ask (d : DS) (f : Int) : Int := if !d.on then 7 else if f < 0 ∨ 1000 ≤ f then 1 else 0
def DS.find (d : DS) (f : Int) : Int := if d.ask f ≠ 0 then d.ask f else if (mget d.fs f).isSome then 0 else 4
def DS.append (d : DS) (f : Int) (b : List UInt8) : DS × Int :=
  if d.ask f ≠ 0 then (d, d.ask f)
  else if (b.length : Int) > d.room - lens d.fs then (d, 6)
  else ({ d with fs := mput d.fs f (cont d.fs f ++ b), ws := d.ws ++ [((f, ((cont d.fs f).length : Int), ((cont d.fs f).length : Int) + (b.length : Int)) : Wr)] }, 0)
def DS.read (d : DS) (f : Int) : List UInt8 × Int := if d.find f ≠ 0 then ([], d.find f) else (cont d.fs f, 0)
/-- how many bytes of a write stay -/
def tornN (torn x : Int) : Int := if (if x < torn then x else torn) < 0 then 0 else (if x < torn then x else torn)
def stayN (keep torn i : Int) (w : Wr) : Int := if i = keep then w.2.1 + tornN torn (w.2.2 - w.2.1) else w.2.1
def crashGo (keep torn : Int) : List Wr → Nat → List (Int × List UInt8) → List (Int × List UInt8)
  | _, 0, fs => fs
  | ws, i + 1, fs => if (i : Int) < keep then fs else
      match ws[i]? with
      | some w => crashGo keep torn ws i (mput fs w.1 ((cont fs w.1).take (stayN keep torn i w).toNat))
      | none => fs
def DS.crash (d : DS) (keep torn : Int) : DS := { d with fs := crashGo keep torn d.ws d.ws.length d.fs, ws := [], on := false }
def DS.power (d : DS) : DS := { d with on := true, lives := IntKind.i64.wrap (d.lives + 1) }
def DS.safe (d : DS) (f : Int) : DS := { d with ws := d.ws.filter fun w => !decide (w.1 = f) }
def DS.sync (d : DS) (f : Int) : DS × Int := if d.find f = 0 then (d.safe f, 0) else (d, d.find f)
def DS.drop (d : DS) (f : Int) : DS × Int := if d.find f = 0 then ({ d.safe f with fs := mdel d.fs f }, 0) else (d, d.find f)
def DS.ok (d : DS) : Prop := 64 ≤ d.room ∧ d.room ≤ 1048576 ∧ lens d.fs ≤ d.room
theorem lens_nonneg (l : List (Int × List UInt8)) : 0 ≤ lens l := by
  induction l with
  | nil => simp [lens]
  | cons p l ih => simp only [lens, List.map_cons, List.sum_cons] at *; omega
theorem lens_put (l : List (Int × List UInt8)) (f : Int) (b : List UInt8) : lens (mput l f b) = lens l - (cont l f).length + b.length := by
  induction l with
  | nil => simp [lens, mput, cont, mget]
  | cons p l ih =>
    obtain ⟨x, y⟩ := p
    by_cases h : x = f
    · subst h
      simp only [mput, if_true, lens, cont, mget, List.map_cons, List.sum_cons, Option.getD_some]
      omega
    · simp only [mput, if_neg h, lens, cont, mget, List.map_cons, List.sum_cons] at *
      omega
theorem lens_cont (l : List (Int × List UInt8)) (f : Int) : ((cont l f).length : Int) ≤ lens l := by
  induction l with
  | nil => simp [lens, cont, mget]
  | cons p l ih =>
    obtain ⟨x, y⟩ := p
    have := lens_nonneg l
    by_cases h : x = f
    · subst h
      simp only [lens, cont, mget, if_true, List.map_cons, List.sum_cons, Option.getD_some] at *
      omega
    · simp only [lens, cont, mget, if_neg h, List.map_cons, List.sum_cons] at *
      omega
theorem DS.ok.append {d : DS} (h : d.ok) (f : Int) (b : List UInt8) : (d.append f b).1.ok := by
  unfold DS.append
  split
  · exact h
  · split
    · exact h
    · obtain ⟨h1, h2, h3⟩ := h
      refine ⟨h1, h2, ?_⟩
      simp only [lens_put, List.length_append]
      omega
theorem lens_cut (l : List (Int × List UInt8)) (f : Int) (n : Nat) : lens (mput l f ((cont l f).take n)) ≤ lens l := by
  rw [lens_put, List.length_take]; omega
theorem lens_crash (keep torn : Int) (ws : List Wr) : ∀ (n : Nat) (fs : List (Int × List UInt8)), lens (crashGo keep torn ws n fs) ≤ lens fs
  | 0, fs => by simp [crashGo]
  | n + 1, fs => by
    unfold crashGo
    split
    · omega
    · split
      · exact Int.le_trans (lens_crash keep torn ws n _) (lens_cut _ _ _)
      · omega
theorem DS.ok.crash {d : DS} (h : d.ok) (keep torn : Int) : (d.crash keep torn).ok := ⟨h.1, h.2.1, Int.le_trans (lens_crash _ _ _ _ _) h.2.2⟩
theorem DS.ok.power {d : DS} (h : d.ok) : d.power.ok := h
/-- every write that is not safe is the end of its file, when those behind it are taken away -/
def fitGo (ws : List Wr) : Nat → List (Int × List UInt8) → Prop
  | 0, _ => True
  | i + 1, fs => ∀ w, ws[i]? = some w → 0 ≤ w.2.1 ∧ w.2.1 ≤ w.2.2 ∧ w.2.2 = (cont fs w.1).length ∧ fitGo ws i (mput fs w.1 ((cont fs w.1).take w.2.1.toNat))
def DS.fit (d : DS) : Prop := fitGo d.ws d.ws.length d.fs
theorem cont_put (fs : List (Int × List UInt8)) (f g : Int) (b : List UInt8) : cont (mput fs f b) g = if f = g then b else cont fs g := by
  simp only [cont, mget_mput]
  split <;> rfl
theorem fitGo_congr {ws ws' : List Wr} : ∀ (n : Nat) {fs fs' : List (Int × List UInt8)}, (∀ i, i < n → ws'[i]? = ws[i]?) → (∀ f, cont fs' f = cont fs f) → fitGo ws n fs → fitGo ws' n fs'
  | 0, _, _, _, _, _ => trivial
  | n + 1, fs, fs', hw, hc, h => by
    intro w hw'
    rw [hw n (by omega)] at hw'
    obtain ⟨h1, h2, h3, h4⟩ := h w hw'
    refine ⟨h1, h2, by rw [hc]; exact h3, fitGo_congr n (fun i hi => hw i (by omega)) (fun f => ?_) h4⟩
    rw [cont_put, cont_put, hc, hc]
theorem DS.fit.append {d : DS} (h : d.fit) (f : Int) (b : List UInt8) : (d.append f b).1.fit := by
  unfold DS.append
  split
  · exact h
  · split
    · exact h
    · unfold DS.fit
      simp only [List.length_append, List.length_singleton]
      intro w hw
      rw [List.getElem?_append_right (Nat.le_refl _), Nat.sub_self] at hw
      cases hw
      refine ⟨by simp only; omega, by simp only; omega, by simp only [cont_put, if_true, List.length_append]; omega, ?_⟩
      refine fitGo_congr _ (fun i hi => ?_) (fun g => ?_) h
      · rw [List.getElem?_append_left hi]
      · simp only [cont_put, if_true, Int.toNat_natCast, List.take_left']
        split
        · rename_i e; rw [e]; try simp
        · try rfl
theorem DS.fit.crash {d : DS} (keep torn : Int) : (d.crash keep torn).fit := trivial
theorem tornN_range (torn : Int) {x : Int} (h : 0 ≤ x) : 0 ≤ tornN torn x ∧ tornN torn x ≤ x := by
  unfold tornN
  split <;> split <;> omega
end Go.Proofs.Ythladblmjoaeoaa
namespace Go.Proofs.Ythladblmjoaeoaa
set_option linter.unusedVariables false
set_option linter.unusedSimpArgs false
open Go Go.Eng

abbrev Bs := List UInt8
/-- a number's bytes, the least first -/
def leB : Nat → Nat → Bs
  | 0, _ => []
  | n + 1, v => UInt8.ofNat (v % 256) :: leB n (v / 256)
def unle : Bs → Nat
  | [] => 0
  | b :: l => b.toNat + 256 * unle l
@[simp] theorem leB_len : ∀ n v, (leB n v).length = n
  | 0, _ => rfl
  | n + 1, v => by simp [leB, leB_len n]
theorem unle_leB : ∀ n v, v < 256 ^ n → unle (leB n v) = v
  | 0, v, h => by simp at h; subst h; rfl
  | n + 1, v, h => by
    rw [Nat.pow_succ] at h
    rw [leB, unle, unle_leB n _ (by omega), UInt8.toNat_ofNat']
    omega
theorem leB_unle : ∀ l : Bs, leB l.length (unle l) = l
  | [] => rfl
  | b :: l => by
    have hb := b.toNat_lt
    have e1 : (b.toNat + 256 * unle l) % 256 = b.toNat := by omega
    have e2 : (b.toNat + 256 * unle l) / 256 = unle l := by omega
    simp only [List.length_cons, leB, unle, e1, e2, leB_unle l, UInt8.ofNat_toNat]
theorem unle_lt : ∀ l : Bs, unle l < 256 ^ l.length
  | [] => by simp [unle]
  | b :: l => by
    have hb := b.toNat_lt
    have := unle_lt l
    simp only [unle, List.length_cons, Nat.pow_succ]; omega
/-! ### sums -/
def crcBit (s : Nat) : Nat := if s % 2 = 1 then (s / 2) ^^^ 3988292384 else s / 2
def crcBits : Nat → Nat → Nat
  | 0, s => s
  | n + 1, s => crcBits n (crcBit s)
def crcGo : Bs → Nat → Nat
  | [], s => s
  | b :: l, s => crcGo l (crcBits 8 (s ^^^ b.toNat))
def crc (l : Bs) : Nat := 4294967295 - crcGo l 4294967295
theorem crcBit_lt {s : Nat} (h : s < 2 ^ 32) : crcBit s < 2 ^ 32 := by
  unfold crcBit
  split
  · exact Nat.xor_lt_two_pow (by omega) (by decide)
  · omega
theorem crcBits_lt : ∀ (n : Nat) {s : Nat}, s < 2 ^ 32 → crcBits n s < 2 ^ 32
  | 0, _, h => h
  | n + 1, _, h => crcBits_lt n (crcBit_lt h)
theorem byte_lt {s : Nat} (h : s < 2 ^ 32) (b : UInt8) : s ^^^ b.toNat < 2 ^ 32 := Nat.xor_lt_two_pow h (by have := b.toNat_lt; omega)
theorem crcGo_lt : ∀ (l : Bs) {s : Nat}, s < 2 ^ 32 → crcGo l s < 2 ^ 32
  | [], _, h => h
  | b :: l, _, h => crcGo_lt l (crcBits_lt 8 (byte_lt h b))
theorem crcGo_app (l m : Bs) (s : Nat) : crcGo (l ++ m) s = crcGo m (crcGo l s) := by
  induction l generalizing s with
  | nil => rfl
  | cons b l ih => exact ih _
theorem crc_lt (l : Bs) : crc l < 2 ^ 32 := by unfold crc; omega
/-! ### frames -/
def frm (r : Bs) : Bs := 1 :: (leB 4 r.length ++ (leB 4 (crc (leB 4 r.length ++ r)) ++ r))
@[simp] theorem frm_len (r : Bs) : (frm r).length = 9 + r.length := by simp [frm]; omega
/-- frame.Get: the record, the rest, and the error -/
def fget (b : Bs) : Bs × Bs × Int :=
  if b = [] then ([], [], 8)
  else if b.headD 0 ≠ 1 ∨ 65536 < unle ((b.take 5).drop 1) then ([], [], 3)
  else if b.length < 9 + unle ((b.take 5).drop 1) then ([], [], 8)
  else if crc ((b.take 5).drop 1 ++ (b.take (9 + unle ((b.take 5).drop 1))).drop 9) ≠ unle ((b.take 9).drop 5) then ([], [], 3)
  else ((b.take (9 + unle ((b.take 5).drop 1))).drop 9, b.drop (9 + unle ((b.take 5).drop 1)), 0)
/-- a frame that fills some bytes, of a record of so many -/
def just (b : Bs) (n : Nat) : Option Bs := if (fget b).2.2 = 0 ∧ (fget b).1.length = n ∧ (fget b).2.1 = [] then some (fget b).1 else none
theorem frm_parts (r : Bs) (h : r.length ≤ 65536) : ((frm r).take 5).drop 1 = leB 4 r.length ∧ unle (((frm r).take 5).drop 1) = r.length ∧ ((frm r).take 9).drop 5 = leB 4 (crc (leB 4 r.length ++ r)) ∧ (frm r).drop 9 = r := by
  have e1 : ((frm r).take 5).drop 1 = leB 4 r.length := by
    rw [frm, List.take_succ_cons, List.drop_succ_cons, List.drop_zero, List.take_left' (leB_len _ _)]
  refine ⟨e1, by rw [e1, unle_leB _ _ (by omega)], ?_, ?_⟩
  · rw [frm, List.take_succ_cons, List.drop_succ_cons, ← List.append_assoc, List.take_left' (by simp), List.drop_left' (leB_len _ _)]
  · rw [frm, List.drop_succ_cons, ← List.append_assoc, List.drop_left' (by simp)]
theorem just_frm {r : Bs} (h : r.length ≤ 65536) : just (frm r) r.length = some r := by
  obtain ⟨e1, e2, e3, e4⟩ := frm_parts r h
  have e5 : fget (frm r) = (r, [], 0) := by
    unfold fget
    rw [if_neg (by simp [frm]), e2, if_neg (by rintro (h1 | h1); exact h1 rfl; omega), if_neg (by simp), e1, e3, List.take_of_length_le (by simp), e4, if_neg (by rw [unle_leB _ _ (crc_lt _)]; simp),
      List.drop_eq_nil_of_le (by simp)]
  unfold just
  rw [e5]
  simp
theorem just_some {b : Bs} {n : Nat} {q : Bs} (h : just b n = some q) : b = frm q ∧ q.length = n ∧ n ≤ 65536 := by
  unfold just at h
  split at h
  · rename_i h0
    obtain ⟨h1, h2, h3⟩ := h0
    rw [Option.some.injEq] at h
    subst h
    refine ⟨?_, h2, ?_⟩
    · unfold fget at h1 h3 ⊢
      split at h1
      · cases h1
      rename_i c0
      rw [if_neg c0] at h3 ⊢
      split at h1
      · cases h1
      rename_i c1
      rw [if_neg c1] at h3 ⊢
      split at h1
      · cases h1
      rename_i c2
      rw [if_neg c2] at h3 ⊢
      split at h1
      · cases h1
      rename_i c3
      rw [if_neg c3] at h3 ⊢
      simp only at h3 ⊢
      have hl : b.length = 9 + unle ((b.take 5).drop 1) := by
        have := congrArg List.length h3
        rw [List.length_drop, List.length_nil] at this
        omega
      have hc3 : crc ((b.take 5).drop 1 ++ (b.take (9 + unle ((b.take 5).drop 1))).drop 9) = unle ((b.take 9).drop 5) := Classical.not_not.1 c3
      have ht : b.take (9 + unle ((b.take 5).drop 1)) = b := List.take_of_length_le (by omega)
      rw [ht] at hc3 ⊢
      have l1 : ((b.take 5).drop 1).length = 4 := by simp; omega
      have l2 : ((b.take 9).drop 5).length = 4 := by simp; omega
      have l3 : (b.drop 9).length = unle ((b.take 5).drop 1) := by rw [List.length_drop]; omega
      have a1 : leB 4 (b.drop 9).length = (b.take 5).drop 1 := by
        rw [l3]; have := leB_unle ((b.take 5).drop 1); rw [l1] at this; exact this
      have a2 : leB 4 (crc ((b.take 5).drop 1 ++ b.drop 9)) = (b.take 9).drop 5 := by
        rw [hc3]; have := leB_unle ((b.take 9).drop 5); rw [l2] at this; exact this
      have hh : b.headD 0 = 1 := by
        apply Classical.byContradiction
        intro h; exact c1 (.inl h)
      rw [frm, a1, a2]
      have hb : b = b.headD 0 :: b.drop 1 := by
        cases b with
        | nil => exact absurd rfl c0
        | cons x l => rfl
      have e : b.drop 1 = (b.take 5).drop 1 ++ ((b.take 9).drop 5 ++ b.drop 9) := by
        have e9 : b.drop 5 = (b.take 9).drop 5 ++ b.drop 9 := by
          conv => lhs; rw [← List.take_append_drop 9 b]
          rw [List.drop_append_of_le_length (by simp; omega)]
        conv => lhs; rw [← List.take_append_drop 5 b]
        rw [List.drop_append_of_le_length (by simp; omega), e9]
      rw [← e, ← hh]
      exact hb
    · unfold fget at h1 h2
      split at h1
      · cases h1
      rename_i c0
      rw [if_neg c0] at h2
      split at h1
      · cases h1
      rename_i c1
      rw [if_neg c1] at h2
      split at h1
      · cases h1
      rename_i c2
      rw [if_neg c2] at h2
      split at h1
      · cases h1
      rename_i c3
      rw [if_neg c3] at h2
      simp only [List.length_drop, List.length_take] at h2
      omega
  · cases h
end Go.Proofs.Ythladblmjoaeoaa
namespace Go.Proofs.Ythladblmjoaeoaa
set_option linter.unusedVariables false
set_option linter.unusedSimpArgs false
open Go Go.Eng

def unitB (r : Bs) : Bs := frm (leB 4 r.length) ++ frm r
def topB (kind turn index : Nat) : Bs := frm (UInt8.ofNat kind :: (leB 8 turn ++ leB 4 index))
def units (rs : List Bs) : Bs := rs.flatMap unitB
@[simp] theorem unitB_len (r : Bs) : (unitB r).length = 22 + r.length := by simp [unitB]; omega
@[simp] theorem topB_len (k t i : Nat) : (topB k t i).length = 22 := by simp [topB]
/-- a file that was read -/
structure FX where
  num : Int
  kind : Nat
  turn : Nat
  index : Nat
  recs : List Bs
  torn : Bool
/-- the records behind a file's beginning; is the last one torn? -/
def pgo : Nat → Bs → List Bs → Option (List Bs × Bool)
  | 0, _, acc => some (acc, false)
  | n + 1, b, acc => if b = [] then some (acc, false) else if b.length < 13 then some (acc, true) else
    match just (b.take 13) 4 with
    | none => none
    | some m => if b.length < 22 + unle m then some (acc, true) else
      match just ((b.take (22 + unle m)).drop 13) (unle m) with
      | none => none
      | some r => pgo n (b.drop (22 + unle m)) (acc ++ [r])
/-- none: spoilt; some none: its beginning is not whole -/
def parse (num : Int) (b : Bs) : Option (Option FX) :=
  if b.length < 22 then some none else
  match just (b.take 22) 13 with
  | none => none
  | some t => match pgo b.length (b.drop 22) [] with
    | none => none
    | some (rs, torn) => some (some ⟨num, (t.headD 0).toNat, unle ((t.take 9).drop 1), unle (t.drop 9), rs, torn⟩)
/-- a record that is not whole, or nothing -/
def Tail (t : Bs) : Prop := ∃ r : Bs, r.length ≤ 65536 ∧ t <+: unitB r ∧ t ≠ unitB r
theorem Tail.nil : Tail [] := ⟨[], by simp, List.nil_prefix, fun h => by have := congrArg List.length h; simp at this⟩
theorem unit_mark {r : Bs} (h : r.length ≤ 65536) : just (frm (leB 4 r.length)) 4 = some (leB 4 r.length) ∧ unle (leB 4 r.length) = r.length := by
  refine ⟨?_, unle_leB _ _ (by omega)⟩
  have := just_frm (r := leB 4 r.length) (by simp)
  rwa [leB_len] at this
theorem pgo_unit {n : Nat} {r rest : Bs} {acc : List Bs} (h : r.length ≤ 65536) : pgo (n + 1) (unitB r ++ rest) acc = pgo n rest (acc ++ [r]) := by
  obtain ⟨m1, m2⟩ := unit_mark h
  have e1 : (unitB r ++ rest).take 13 = frm (leB 4 r.length) := by rw [unitB, List.append_assoc, List.take_left' (by simp)]
  have e2 : (unitB r ++ rest).take (22 + r.length) = unitB r := List.take_left' (by simp)
  have e3 : (unitB r).drop 13 = frm r := by rw [unitB, List.drop_left' (by simp)]
  rw [pgo, if_neg (by intro h; have := congrArg List.length h; simp at this), if_neg (by simp; omega), e1, m1]
  simp only [m2]
  rw [if_neg (by simp), e2, e3, just_frm h]
  simp only
  rw [List.drop_left' (by simp)]
theorem pgo_tail {n : Nat} {t : Bs} {acc : List Bs} (h : Tail t) (hn : t.length ≤ n) : pgo n t acc = some (acc, !t.isEmpty) := by
  obtain ⟨r, hr, hp, hne⟩ := h
  obtain ⟨u, hu⟩ := hp
  cases n with
  | zero =>
    have h0 : t = [] := List.eq_nil_of_length_eq_zero (by omega)
    subst h0; rfl
  | succ n =>
    rw [pgo]
    by_cases h0 : t = []
    · rw [if_pos h0, h0]; rfl
    · have h0' : (!t.isEmpty) = true := by cases t with | nil => exact absurd rfl h0 | cons a l => rfl
      rw [if_neg h0, h0']
      by_cases h1 : t.length < 13
      · rw [if_pos h1]
      · obtain ⟨m1, m2⟩ := unit_mark hr
        have hl : t.length + u.length = 22 + r.length := by
          have := congrArg List.length hu
          simpa using this
        have hu0 : u ≠ [] := fun h => hne (by rw [h, List.append_nil] at hu; exact hu)
        have hul : 0 < u.length := List.length_pos_iff.2 hu0
        have e1 : t.take 13 = frm (leB 4 r.length) := by
          have : (t ++ u).take 13 = frm (leB 4 r.length) := by rw [hu, unitB, List.take_left' (by simp)]
          rwa [List.take_append_of_le_length (by omega)] at this
        rw [if_neg h1, e1, m1]
        simp only [m2]
        rw [if_pos (by omega)]
theorem units_cons (r : Bs) (rs : List Bs) : units (r :: rs) = unitB r ++ units rs := by simp [units]
theorem units_app (a b : List Bs) : units (a ++ b) = units a ++ units b := by simp [units]
theorem pgo_units : ∀ (rs : List Bs) {n : Nat} {t : Bs} {acc : List Bs}, (∀ r ∈ rs, r.length ≤ 65536) → Tail t → (units rs ++ t).length ≤ n → pgo n (units rs ++ t) acc = some (acc ++ rs, !t.isEmpty)
  | [], n, t, acc, _, ht, hn => by rw [show units [] = [] from rfl, List.nil_append] at *; rw [pgo_tail ht hn, List.append_nil]
  | r :: rs, n, t, acc, hr, ht, hn => by
    rw [units_cons, List.append_assoc] at *
    rw [List.length_append, unitB_len] at hn
    cases n with
    | zero => omega
    | succ n =>
      rw [pgo_unit (hr r (by simp)), pgo_units rs (fun x hx => hr x (by simp [hx])) ht (by omega), List.append_assoc, List.singleton_append]
theorem top_just (k t i : Nat) : just (topB k t i) 13 = some (UInt8.ofNat k :: (leB 8 t ++ leB 4 i)) := by
  have := just_frm (r := UInt8.ofNat k :: (leB 8 t ++ leB 4 i)) (by simp)
  simpa [topB] using this
theorem parse_file {num : Int} {k t i : Nat} {rs : List Bs} {tl : Bs} (hk : k < 256) (ht : t < 2 ^ 64) (hi : i < 2 ^ 32) (hr : ∀ r ∈ rs, r.length ≤ 65536) (htl : Tail tl) :
    parse num (topB k t i ++ (units rs ++ tl)) = some (some ⟨num, k, t, i, rs, !tl.isEmpty⟩) := by
  unfold parse
  rw [if_neg (by simp), List.take_left' (by simp), top_just]
  simp only
  rw [List.drop_left' (by simp), pgo_units rs hr htl (by simp)]
  simp only [List.headD_cons, List.nil_append]
  have e1 : (UInt8.ofNat k).toNat = k := by rw [UInt8.toNat_ofNat']; omega
  have e2 : unle (((UInt8.ofNat k :: (leB 8 t ++ leB 4 i)).take 9).drop 1) = t := by
    rw [List.take_succ_cons, List.drop_succ_cons, List.drop_zero, List.take_left' (by simp), unle_leB _ _ ht]
  have e3 : unle ((UInt8.ofNat k :: (leB 8 t ++ leB 4 i)).drop 9) = i := by
    rw [List.drop_succ_cons, List.drop_left' (by simp), unle_leB _ _ hi]
  rw [e1, e2, e3]
theorem parse_short {num : Int} {b : Bs} (h : b.length < 22) : parse num b = some none := by unfold parse; rw [if_pos h]
end Go.Proofs.Ythladblmjoaeoaa
namespace Go.Proofs.Ythladblmjoaeoaa
set_option linter.unusedVariables false
set_option linter.unusedSimpArgs false
open Go Go.Eng

abbrev Fs := List (Int × Bs)
theorem fmap_congr {α β : Type} {f g : α → Option β} : ∀ {l : List α}, (∀ x ∈ l, f x = g x) → l.filterMap f = l.filterMap g
  | [], _ => rfl
  | a :: l, h => by rw [List.filterMap_cons, List.filterMap_cons, h a (by simp), fmap_congr fun x hx => h x (by simp [hx])]
theorem lens_perm {a b : Fs} (h : a.Perm b) : lens a = lens b := by
  induction h with
  | nil => rfl
  | cons x _ ih => simp only [lens, List.map_cons, List.sum_cons] at *; omega
  | swap x y l => simp only [lens, List.map_cons, List.sum_cons]; omega
  | trans _ _ i1 i2 => rw [i1, i2]
theorem mget_mem {l : Fs} (hn : (l.map (·.1)).Nodup) {f : Int} {c : Bs} (h : (f, c) ∈ l) : mget l f = some c := by
  obtain ⟨j, hj⟩ := List.getElem?_of_mem h
  exact mget_at hn hj
theorem cont_mem {l : Fs} (hn : (l.map (·.1)).Nodup) {f : Int} {c : Bs} (h : (f, c) ∈ l) : cont l f = c := by rw [cont, mget_mem hn h]; rfl
theorem nd_perm {l m : Fs} (h : l.Perm m) (hn : (l.map (·.1)).Nodup) : (m.map (·.1)).Nodup := (h.map (·.1)).nodup_iff.1 hn
theorem put_perm {fs R : Fs} {f : Int} {c v : Bs} (hn : (fs.map (·.1)).Nodup) (h : fs.Perm ((f, c) :: R)) : (mput fs f v).Perm ((f, v) :: R) := by
  have h1 := mdel_perm (mget_mem (f := f) (c := c) hn (h.symm.subset (by simp)))
  exact (mdel_put_perm fs f v).symm.trans ((h1.symm.trans h).cons_inv.cons _)
theorem del_perm {fs R : Fs} {f : Int} {c : Bs} (hn : (fs.map (·.1)).Nodup) (h : fs.Perm ((f, c) :: R)) : (mdel fs f).Perm R := by
  have h1 := mdel_perm (mget_mem (f := f) (c := c) hn (h.symm.subset (by simp)))
  exact (h1.symm.trans h).cons_inv
theorem mget_no {fs : Fs} {f : Int} (h : f ∉ fs.map (·.1)) : ∀ p ∈ fs, p.1 ≠ f := fun p hp e => h (e ▸ List.mem_map_of_mem hp)
theorem new_perm {fs R : Fs} {f : Int} {v : Bs} (hf : f ∉ fs.map (·.1)) (h : fs.Perm R) : (mput fs f v).Perm (R ++ [(f, v)]) := by
  rw [mput_new (mget_no hf)]; exact h.append_right _
theorem cont_no {fs : Fs} {f : Int} (h : f ∉ fs.map (·.1)) : cont fs f = [] := by rw [cont, mget_none.2 (mget_no h)]; rfl

/-! ### a log's files -/
structure PT where
  num : Int
  recs : List Bs
  tail : Bs
def cP (t i : Nat) (p : PT) : Bs := topB 1 t i ++ (units p.recs ++ p.tail)
def cB (t : Nat) (base : Bs) : Bs := topB 0 t 0 ++ unitB base
def pfs (t : Nat) : Nat → List PT → Fs
  | _, [] => []
  | i, p :: l => (p.num, cP t i p) :: pfs t (i + 1) l
def bfs (t : Nat) (bn : Int) (base : Bs) : Fs := if t = 0 then [] else [(bn, cB t base)]
theorem pfs_app (t : Nat) (l m : List PT) (i : Nat) : pfs t i (l ++ m) = pfs t i l ++ pfs t (i + l.length) m := by
  induction l generalizing i with
  | nil => rfl
  | cons p l ih => simp only [List.cons_append, pfs, ih, List.length_cons]; rw [show i + 1 + l.length = i + (l.length + 1) by omega]
theorem pfs_len (t : Nat) (l : List PT) (i : Nat) : (pfs t i l).length = l.length := by
  induction l generalizing i with
  | nil => rfl
  | cons p l ih => simp [pfs, ih]
structure GD (t : Nat) (bn : Int) (base : Bs) (P : List PT) (J : Fs) (fs : Fs) : Prop where
  pm : fs.Perm (bfs t bn base ++ (pfs t 0 P ++ J))
  nd : (fs.map (·.1)).Nodup
  ks : ∀ x ∈ fs, 0 ≤ x.1 ∧ x.1 < 1000
  tl : ∀ p ∈ P, Tail p.tail
  rl : ∀ p ∈ P, ∀ r ∈ p.recs, r.length ≤ 65536
  b0 : t = 0 → base = []
  bl : base.length ≤ 65536
  jk : ∀ x ∈ J, x.2.length < 22
  tb : t < 2 ^ 62
theorem nodup_range {l : List Int} {n : Nat} (hn : l.Nodup) (h : ∀ x ∈ l, 0 ≤ x ∧ x < (n : Int)) : l.length ≤ n := by
  have h1 : (l.map Int.toNat).Nodup := by
    refine List.Pairwise.map _ ?_ (List.Pairwise.and_mem.1 hn)
    rintro a b ⟨ha, hb, hab⟩ e
    have := h a ha
    have := h b hb
    exact hab (by omega)
  have h2 : l.map Int.toNat ⊆ List.range n := by
    intro x hx
    obtain ⟨y, hy, rfl⟩ := List.mem_map.1 hx
    have := h y hy
    exact List.mem_range.2 (by omega)
  have := h1.length_le_of_subset h2
  simpa using this
theorem GD.files {t : Nat} {bn : Int} {base : Bs} {P : List PT} {J fs : Fs} (h : GD t bn base P J fs) : fs.length ≤ 1000 := by
  have := nodup_range (n := 1000) h.nd fun x hx => by
    obtain ⟨y, hy, rfl⟩ := List.mem_map.1 hx
    exact h.ks y hy
  simpa using this
theorem GD.parts {t : Nat} {bn : Int} {base : Bs} {P : List PT} {J fs : Fs} (h : GD t bn base P J fs) : P.length ≤ 1000 := by
  have h1 := h.files
  have h2 := h.pm.length_eq
  simp only [List.length_append, pfs_len] at h2
  omega
/-- what is read of a log's files -/
def bfx (t : Nat) (bn : Int) (base : Bs) : List FX := if t = 0 then [] else [⟨bn, 0, t, 0, [base], false⟩]
def pfx (t : Nat) : Nat → List PT → List FX
  | _, [] => []
  | i, p :: l => ⟨p.num, 1, t, i, p.recs, !p.tail.isEmpty⟩ :: pfx t (i + 1) l
def rdF (x : Int × Bs) : Option FX := (parse x.1 x.2).join
theorem rd_bfs {t : Nat} {bn : Int} {base : Bs} (ht : t < 2 ^ 62) (hb : base.length ≤ 65536) : (bfs t bn base).filterMap rdF = bfx t bn base ∧ ∀ x ∈ bfs t bn base, ∃ y, parse x.1 x.2 = some (some y) := by
  unfold bfs bfx
  split
  · exact ⟨rfl, fun x hx => (by cases hx)⟩
  · have e : parse bn (cB t base) = some (some ⟨bn, 0, t, 0, [base], false⟩) := by
      have := parse_file (num := bn) (k := 0) (t := t) (i := 0) (rs := [base]) (tl := []) (by decide) (by omega) (by decide) (by simpa using hb) Tail.nil
      simpa [cB, units] using this
    refine ⟨?_, fun x hx => ?_⟩
    · simp [rdF, e]
    · simp only [List.mem_singleton] at hx; subst hx; exact ⟨_, e⟩
theorem rd_pfs {t : Nat} (ht : t < 2 ^ 62) : ∀ (P : List PT) (i : Nat), i + P.length < 2 ^ 32 → (∀ p ∈ P, Tail p.tail) → (∀ p ∈ P, ∀ r ∈ p.recs, r.length ≤ 65536) →
    (pfs t i P).filterMap rdF = pfx t i P ∧ ∀ x ∈ pfs t i P, ∃ y, parse x.1 x.2 = some (some y)
  | [], i, _, _, _ => ⟨rfl, fun x hx => (by cases hx)⟩
  | p :: P, i, hi, h1, h2 => by
    simp only [List.length_cons] at hi
    obtain ⟨a1, a2⟩ := rd_pfs ht P (i + 1) (by omega) (fun q hq => h1 q (by simp [hq])) (fun q hq => h2 q (by simp [hq]))
    have e : parse p.num (cP t i p) = some (some ⟨p.num, 1, t, i, p.recs, !p.tail.isEmpty⟩) :=
      parse_file (by decide) (by omega) (by omega) (h2 p (by simp)) (h1 p (by simp))
    refine ⟨?_, fun x hx => ?_⟩
    · simp only [pfs, pfx, List.filterMap_cons, rdF, e, Option.join_some]
      exact congrArg _ a1
    · rcases List.mem_cons.1 hx with rfl | hx
      · exact ⟨_, e⟩
      · exact a2 x hx
/-- read all: those whose beginning is not whole go -/
def readGo (d : DS) : List Int → List FX → DS × Option (List FX)
  | [], acc => (d, some acc)
  | f :: l, acc => match parse f (cont d.fs f) with
    | none => (d, none)
    | some (some x) => readGo d l (acc ++ [x])
    | some none => readGo (d.drop f).1 l acc
def delAll : Fs → List Int → Fs
  | fs, [] => fs
  | fs, f :: l => delAll (mdel fs f) l
theorem mem_keys {fs : Fs} {f : Int} (h : f ∈ fs.map (·.1)) : ∃ c, (f, c) ∈ fs := by
  obtain ⟨y, hy, rfl⟩ := List.mem_map.1 h; exact ⟨_, hy⟩
theorem cont_del {fs : Fs} {f g : Int} (hn : (fs.map (·.1)).Nodup) (hf : f ∈ fs.map (·.1)) (hg : g ∈ fs.map (·.1)) (hne : g ≠ f) : g ∈ (mdel fs f).map (·.1) ∧ cont (mdel fs f) g = cont fs g := by
  obtain ⟨c, hc⟩ := mem_keys hf
  obtain ⟨c2, hc2⟩ := mem_keys hg
  have h1 := mdel_perm (mget_mem hn hc)
  have h2 : (g, c2) ∈ mdel fs f := by
    rcases List.mem_cons.1 (h1.subset hc2) with h | h
    · cases h; exact absurd rfl hne
    · exact h
  have hn2 : ((mdel fs f).map (·.1)).Nodup := by
    have := nd_perm h1 hn
    simp only [List.map_cons, List.nodup_cons] at this
    exact this.2
  exact ⟨List.mem_map_of_mem (f := (·.1)) h2, by rw [cont_mem hn2 h2, cont_mem hn hc2]⟩
theorem nd_del {fs : Fs} {f : Int} (hn : (fs.map (·.1)).Nodup) (hf : f ∈ fs.map (·.1)) : ((mdel fs f).map (·.1)).Nodup := by
  obtain ⟨c, hc⟩ := mem_keys hf
  have := nd_perm (mdel_perm (mget_mem hn hc)) hn
  simp only [List.map_cons, List.nodup_cons] at this
  exact this.2
theorem drop_eq {d : DS} {f : Int} (ho : d.on = true) (hw : d.ws = []) (hn : (d.fs.map (·.1)).Nodup) (hf : f ∈ d.fs.map (·.1)) (hr : 0 ≤ f ∧ f < 1000) : d.drop f = ({ d with fs := mdel d.fs f }, 0) := by
  obtain ⟨c, hc⟩ := mem_keys hf
  have e : d.find f = 0 := by
    unfold DS.find DS.ask
    rw [ho, mget_mem hn hc]
    simp only [Bool.not_true, Bool.false_eq_true, if_false]
    rw [if_neg (by omega)]
    simp
  unfold DS.drop DS.safe
  rw [if_pos e, hw]
  rfl
theorem readGo_ok : ∀ (ns : List Int) {d : DS} {acc : List FX}, ns.Nodup → d.on = true → d.ws = [] → (d.fs.map (·.1)).Nodup → (∀ f ∈ ns, 0 ≤ f ∧ f < 1000 ∧ f ∈ d.fs.map (·.1) ∧ parse f (cont d.fs f) ≠ none) →
    readGo d ns acc = ({ d with fs := delAll d.fs (ns.filter fun f => (rdF (f, cont d.fs f)).isNone) }, some (acc ++ ns.filterMap fun f => rdF (f, cont d.fs f)))
  | [], d, acc, _, _, _, _, _ => by simp [readGo, delAll]
  | f :: l, d, acc, hd, ho, hw, hn, h => by
    obtain ⟨f0, f1, f2, f3⟩ := h f (by simp)
    have hd2 := List.nodup_cons.1 hd
    unfold readGo
    cases hp : parse f (cont d.fs f) with
    | none => exact absurd hp f3
    | some o =>
      cases o with
      | some x =>
        have e : rdF (f, cont d.fs f) = some x := by simp [rdF, hp]
        simp only
        rw [readGo_ok l hd2.2 ho hw hn fun g hg => h g (by simp [hg])]
        simp [e]
      | none =>
        have e : rdF (f, cont d.fs f) = none := by simp [rdF, hp]
        simp only
        rw [drop_eq ho hw hn f2 ⟨f0, f1⟩]
        have hc : ∀ g ∈ l, g ∈ (mdel d.fs f).map (·.1) ∧ cont (mdel d.fs f) g = cont d.fs g := fun g hg =>
          cont_del hn f2 (h g (by simp [hg])).2.2.1 (fun e => hd2.1 (e ▸ hg))
        rw [readGo_ok l (d := { d with fs := mdel d.fs f }) hd2.2 ho hw (nd_del hn f2) fun g hg => ?_]
        · have e1 : (l.filter fun g => (rdF (g, cont (mdel d.fs f) g)).isNone) = l.filter fun g => (rdF (g, cont d.fs g)).isNone :=
            List.filter_congr fun g hg => by rw [(hc g hg).2]
          have e2 : (l.filterMap fun g => rdF (g, cont (mdel d.fs f) g)) = l.filterMap fun g => rdF (g, cont d.fs g) :=
            fmap_congr fun g hg => by rw [(hc g hg).2]
          simp only [e1, e2, List.filter_cons, e, Option.isNone_none, if_true, delAll, List.filterMap_cons]
        · obtain ⟨g0, g1, g2, g3⟩ := h g (by simp [hg])
          exact ⟨g0, g1, (hc g hg).1, by simp only; rw [(hc g hg).2]; exact g3⟩
theorem delAll_perm : ∀ (js : List Int) {fs A J : Fs}, (fs.map (·.1)).Nodup → fs.Perm (A ++ J) → js.Perm (J.map (·.1)) → (delAll fs js).Perm A ∧ ((delAll fs js).map (·.1)).Nodup
  | [], fs, A, J, hn, h, hj => by
    have : J = [] := by
      have := hj.length_eq
      cases J with
      | nil => rfl
      | cons x l => simp at this
    subst this
    exact ⟨by simpa [delAll] using h, hn⟩
  | f :: js, fs, A, J, hn, h, hj => by
    obtain ⟨c, hc⟩ := mem_keys (hj.subset (List.mem_cons_self))
    obtain ⟨J1, J2, rfl⟩ := List.append_of_mem hc
    have hp : (J1 ++ (f, c) :: J2).Perm ((f, c) :: (J1 ++ J2)) := List.perm_middle
    have h2 : fs.Perm ((f, c) :: (A ++ (J1 ++ J2))) := h.trans ((List.Perm.append_left A hp).trans List.perm_middle)
    have hj2 : js.Perm ((J1 ++ J2).map (·.1)) := by
      have := hj.trans (hp.map (·.1))
      exact this.cons_inv
    exact delAll_perm js (nd_del hn (List.mem_map_of_mem (f := (·.1)) (h2.symm.subset (List.mem_cons_self)))) (del_perm hn h2) hj2
theorem filterMap_perm_keys {ns : List Int} {fs R : Fs} {β : Type} (g : Int × Bs → Option β) (hn : (fs.map (·.1)).Nodup) (h : ns.Perm (fs.map (·.1))) (hR : fs.Perm R) : (ns.filterMap fun f => g (f, cont fs f)).Perm (R.filterMap g) := by
  refine (h.filterMap _).trans ?_
  rw [List.filterMap_map]
  refine (hR.filterMap _).trans ?_
  rw [fmap_congr]
  intro x hx
  have : (x.1, x.2) ∈ fs := hR.symm.subset hx
  show g (x.1, cont fs x.1) = g x
  rw [cont_mem hn this]
theorem filter_perm_keys {ns : List Int} {fs R : Fs} (g : Int × Bs → Bool) (hn : (fs.map (·.1)).Nodup) (h : ns.Perm (fs.map (·.1))) (hR : fs.Perm R) : (ns.filter fun f => g (f, cont fs f)).Perm ((R.filter g).map (·.1)) := by
  have h1 := filterMap_perm_keys (fun x => if g x then some x.1 else none) hn h hR
  have e1 : (ns.filterMap fun f => if g (f, cont fs f) then some f else none) = ns.filter fun f => g (f, cont fs f) := by
    clear h1 h
    induction ns with
    | nil => rfl
    | cons a l ih => by_cases c : g (a, cont fs a) <;> simp [List.filterMap_cons, List.filter_cons, c, ih]
  have e2 : (R.filterMap fun x => if g x then some x.1 else none) = (R.filter g).map (·.1) := by
    clear h1 hR
    induction R with
    | nil => rfl
    | cons a l ih => by_cases c : g a <;> simp [List.filterMap_cons, List.filter_cons, c, ih]
  rw [← e1, ← e2]; exact h1
/-- all files are read -/
theorem read_ok {t : Nat} {bn : Int} {base : Bs} {P : List PT} {J : Fs} {d : DS} {ns : List Int} (h : GD t bn base P J d.fs) (ho : d.on = true) (hw : d.ws = []) (hns : ns.Perm (d.fs.map (·.1))) :
    ∃ fs' all, readGo d ns [] = ({ d with fs := fs' }, some all) ∧ all.Perm (bfx t bn base ++ pfx t 0 P) ∧ GD t bn base P [] fs' := by
  have hnn : ns.Nodup := hns.nodup_iff.2 h.nd
  obtain ⟨b1, b2⟩ := rd_bfs (bn := bn) h.tb h.bl
  obtain ⟨p1, p2⟩ := rd_pfs h.tb P 0 (by have := h.parts; omega) h.tl h.rl
  have hj : ∀ x ∈ J, parse x.1 x.2 = some none := fun x hx => parse_short (h.jk x hx)
  have hall : ∀ x ∈ d.fs, parse x.1 x.2 ≠ none := fun x hx => by
    rcases List.mem_append.1 (h.pm.subset hx) with hx | hx
    · obtain ⟨y, hy⟩ := b2 x hx; rw [hy]; simp
    · rcases List.mem_append.1 hx with hx | hx
      · obtain ⟨y, hy⟩ := p2 x hx; rw [hy]; simp
      · rw [hj x hx]; simp
  have h1 := readGo_ok ns (d := d) (acc := []) hnn ho hw h.nd fun f hf => by
    have hf := hns.subset hf
    obtain ⟨c, hc⟩ := mem_keys hf
    have hk := h.ks _ hc
    exact ⟨hk.1, hk.2, hf, by rw [cont_mem h.nd hc]; exact hall _ hc⟩
  have h2 := filterMap_perm_keys rdF h.nd hns h.pm
  have h3 := filter_perm_keys (fun x => (rdF x).isNone) h.nd hns h.pm
  have e1 : J.filterMap rdF = [] := List.filterMap_eq_nil_iff.2 fun x hx => by rw [rdF, hj x hx]; rfl
  rw [List.filterMap_append, List.filterMap_append, b1, p1, e1, List.append_nil] at h2
  have f1 : (bfs t bn base).filter (fun x => (rdF x).isNone) = [] := List.filter_eq_nil_iff.2 fun x hx => by obtain ⟨y, hy⟩ := b2 x hx; simp [rdF, hy]
  have f2 : (pfs t 0 P).filter (fun x => (rdF x).isNone) = [] := List.filter_eq_nil_iff.2 fun x hx => by obtain ⟨y, hy⟩ := p2 x hx; simp [rdF, hy]
  have f3 : J.filter (fun x => (rdF x).isNone) = J := List.filter_eq_self.2 fun x hx => by simp [rdF, hj x hx]
  rw [List.filter_append, List.filter_append, f1, f2, f3, List.nil_append, List.nil_append] at h3
  have hA : d.fs.Perm ((bfs t bn base ++ pfs t 0 P) ++ J) := by rw [List.append_assoc]; exact h.pm
  obtain ⟨g1, g2⟩ := delAll_perm _ h.nd hA h3
  refine ⟨_, _, h1, by simpa using h2, ⟨by rw [List.append_nil]; exact g1, g2, fun x hx => ?_, h.tl, h.rl, h.b0, h.bl, fun x hx => (by cases hx), h.tb⟩⟩
  exact h.ks x (hA.symm.subset (List.mem_append_left _ (g1.subset hx)))
end Go.Proofs.Ythladblmjoaeoaa
namespace Go.Proofs.Ythladblmjoaeoaa
set_option linter.unusedVariables false
set_option linter.unusedSimpArgs false
open Go Go.Eng

abbrev recsOf (P : List PT) : List Bs := P.flatMap (·.recs)
theorem recsOf_app (P Q : List PT) : recsOf (P ++ Q) = recsOf P ++ recsOf Q := List.flatMap_append
/-- how the last writes, none of them safe, came to be -/
inductive Crs (t : Nat) : List PT → List Wr → List PT → Prop
  | nil (P : List PT) : Crs t P [] P
  | old {P : List PT} {p : PT} {ws : List Wr} {P0 : List PT} {r : Bs} (h : Crs t (P ++ [p]) ws P0) (ht : p.tail = []) (hr : r.length ≤ 65536) :
      Crs t (P ++ [{ p with recs := p.recs ++ [r] }]) (ws ++ [(p.num, ((cP t P.length p).length : Int), ((cP t P.length { p with recs := p.recs ++ [r] }).length : Int))]) P0
  | new {P : List PT} {ws : List Wr} {P0 : List PT} {f : Int} {r : Bs} (h : Crs t P ws P0) (hr : r.length ≤ 65536) :
      Crs t (P ++ [⟨f, [r], []⟩]) (ws ++ [(f, 0, ((cP t P.length ⟨f, [r], []⟩).length : Int))]) P0
theorem Crs.none {t : Nat} {P : List PT} {ws : List Wr} {P0 : List PT} (h : Crs t P ws P0) (hw : ws = []) : P0 = P := by
  cases h with
  | nil => rfl
  | old => simp at hw
  | new => simp at hw
theorem crashGo_pre (keep torn : Int) : ∀ (n : Nat) {ws ws' : List Wr} (fs : Fs), n ≤ ws.length → crashGo keep torn (ws ++ ws') n fs = crashGo keep torn ws n fs
  | 0, _, _, _, _ => rfl
  | n + 1, ws, ws', fs, h => by
    unfold crashGo
    rw [List.getElem?_append_left (by omega)]
    split
    · rfl
    · split
      · exact crashGo_pre keep torn n _ (by omega)
      · rfl
theorem crashGo_snoc (keep torn : Int) (ws : List Wr) (w : Wr) (fs : Fs) : crashGo keep torn (ws ++ [w]) (ws ++ [w]).length fs =
    if (ws.length : Int) < keep then fs else crashGo keep torn ws ws.length (mput fs w.1 ((cont fs w.1).take (stayN keep torn ws.length w).toNat)) := by
  rw [List.length_append, List.length_singleton, crashGo, List.getElem?_append_right (Nat.le_refl _), Nat.sub_self]
  split
  · rfl
  · simp only [List.getElem?_cons_zero]
    exact crashGo_pre keep torn _ _ (Nat.le_refl _)
theorem crashGo_stop (keep torn : Int) (ws : List Wr) (fs : Fs) (h : (ws.length : Int) ≤ keep) : crashGo keep torn ws ws.length fs = fs := by
  cases hn : ws.length with
  | zero => rfl
  | succ n => rw [crashGo, if_pos (by omega)]
section
variable {t : Nat} {bn : Int} {base : Bs} {P : List PT} {J fs : Fs}
theorem Tail.pre {r u : Bs} (hr : r.length ≤ 65536) (n : Nat) (hn : n < 22 + r.length) : Tail ((unitB r).take n) :=
  ⟨r, hr, List.take_prefix _ _, fun h => by have := congrArg List.length h; simp only [List.length_take, unitB_len] at this; omega⟩
theorem cP_add {p : PT} (i : Nat) (r : Bs) (hp : p.tail = []) : cP t i { p with recs := p.recs ++ [r] } = cP t i p ++ unitB r := by
  simp [cP, hp, units_app, units]
theorem GD.last {p : PT} (h : GD t bn base (P ++ [p]) J fs) : fs.Perm ((p.num, cP t P.length p) :: (bfs t bn base ++ (pfs t 0 P ++ J))) := by
  refine h.pm.trans ?_
  rw [pfs_app, List.append_assoc, Nat.zero_add]
  show (bfs t bn base ++ (pfs t 0 P ++ (p.num, cP t P.length p) :: J)).Perm _
  refine (List.Perm.append_left _ List.perm_middle).trans List.perm_middle
/-- the last file, of another content -/
theorem GD.setLast {p q : PT} (h : GD t bn base (P ++ [p]) J fs) (hq : q.num = p.num) (h1 : Tail q.tail) (h2 : ∀ r ∈ q.recs, r.length ≤ 65536) {c : Bs} (hc : c = cP t P.length q) : GD t bn base (P ++ [q]) J (mput fs p.num c) := by
  subst hc
  have hp := put_perm (v := cP t P.length q) h.nd h.last
  have hkeys : ((mput fs p.num (cP t P.length q)).map (·.1)).Perm (fs.map (·.1)) := (hp.map (·.1)).trans (h.last.map (·.1)).symm
  refine ⟨?_, hkeys.symm.nodup_iff.1 h.nd, fun x hx => ?_, fun y hy => ?_, fun y hy => ?_, h.b0, h.bl, h.jk, h.tb⟩
  · refine hp.trans ?_
    rw [pfs_app, List.append_assoc, Nat.zero_add]
    show List.Perm _ (bfs t bn base ++ (pfs t 0 P ++ (q.num, cP t P.length q) :: J))
    rw [hq]
    exact ((List.Perm.append_left _ List.perm_middle).trans List.perm_middle).symm
  · obtain ⟨z, hz, e⟩ := List.mem_map.1 (hkeys.subset (List.mem_map_of_mem (f := (·.1)) hx))
    have := h.ks z hz
    rw [← show z.1 = x.1 from e]; exact this
  · rcases List.mem_append.1 hy with hy | hy
    · exact h.tl y (by simp [hy])
    · rw [List.mem_singleton.1 hy]; exact h1
  · rcases List.mem_append.1 hy with hy | hy
    · exact h.rl y (by simp [hy])
    · rw [List.mem_singleton.1 hy]; exact h2
/-- the last file, not whole any more -/
theorem GD.cutLast {p : PT} (h : GD t bn base (P ++ [p]) J fs) {c : Bs} (hc : c.length < 22) : GD t bn base P ((p.num, c) :: J) (mput fs p.num c) := by
  have hp := put_perm (v := c) h.nd h.last
  have hkeys : ((mput fs p.num c).map (·.1)).Perm (fs.map (·.1)) := (hp.map (·.1)).trans (h.last.map (·.1)).symm
  refine ⟨?_, hkeys.symm.nodup_iff.1 h.nd, fun x hx => ?_, fun y hy => h.tl y (by simp [hy]), fun y hy => h.rl y (by simp [hy]), h.b0, h.bl, fun x hx => ?_, h.tb⟩
  · refine hp.trans ?_
    exact ((List.Perm.append_left _ List.perm_middle).trans List.perm_middle).symm
  · obtain ⟨z, hz, e⟩ := List.mem_map.1 (hkeys.subset (List.mem_map_of_mem (f := (·.1)) hx))
    have := h.ks z hz
    rw [← show z.1 = x.1 from e]; exact this
  · rcases List.mem_cons.1 hx with rfl | hx
    · exact hc
    · exact h.jk x hx
theorem GD.contLast {p : PT} (h : GD t bn base (P ++ [p]) J fs) : cont fs p.num = cP t P.length p := cont_mem h.nd (h.last.symm.subset (by simp))
/-- behind a fall: of what was not safe a beginning is there -/
theorem crash_gd {ws : List Wr} {P0 : List PT} (hc : Crs t P ws P0) : ∀ {J fs : Fs} (keep torn : Int), GD t bn base P J fs →
    ∃ P' J' m, GD t bn base P' J' (crashGo keep torn ws ws.length fs) ∧ recsOf P' = (recsOf P).take m ∧ (recsOf P0).length ≤ m ∧ m ≤ (recsOf P).length ∧ (keep ≤ 0 → torn ≤ 0 → m = (recsOf P0).length) := by
  induction hc with
  | nil P => exact fun {J fs} keep torn h => ⟨P, J, _, h, (List.take_length).symm, Nat.le_refl _, Nat.le_refl _, fun _ _ => rfl⟩
  | @old P p ws P0 r hcr ht hr ih =>
    intro J fs keep torn h
    rw [crashGo_snoc]
    have hrl := h.rl { p with recs := p.recs ++ [r] } (by simp)
    have hrec : recsOf (P ++ [{ p with recs := p.recs ++ [r] }]) = recsOf (P ++ [p]) ++ [r] := by simp [recsOf_app, recsOf]
    have hcont := h.contLast
    simp only at hcont
    have hP0 : (recsOf P0).length ≤ (recsOf (P ++ [p])).length := by
      clear ih h hrec hcont hrl
      generalize P ++ [p] = Q at hcr
      induction hcr with
      | nil => exact Nat.le_refl _
      | old _ _ _ ih => simp [recsOf_app, recsOf] at ih ⊢; omega
      | new _ _ ih => simp [recsOf_app, recsOf] at ih ⊢; omega
    split
    · rename_i hk
      exact ⟨_, J, _, h, (List.take_length).symm, by rw [hrec, List.length_append]; omega, Nat.le_refl _, fun h0 _ => by omega⟩
    · rename_i hk
      simp only [hcont]
      rw [cP_add _ _ ht]
      by_cases hz : (ws.length : Int) = keep
      · -- the one that is torn
        rw [crashGo_stop _ _ _ _ (by omega)]
        have hx : 0 ≤ ((cP t P.length p ++ unitB r).length : Int) - ((cP t P.length p).length : Int) := by rw [List.length_append]; omega
        obtain ⟨t0, t1⟩ := tornN_range torn hx
        have es : stayN keep torn (ws.length : Int) (p.num, ((cP t P.length p).length : Int), ((cP t P.length p ++ unitB r).length : Int)) = ((cP t P.length p).length : Int) + tornN torn (((cP t P.length p ++ unitB r).length : Int) - ((cP t P.length p).length : Int)) := by
          unfold stayN; rw [if_pos hz]
        have e0 : torn ≤ 0 → tornN torn (((cP t P.length p ++ unitB r).length : Int) - ((cP t P.length p).length : Int)) = 0 := fun h => by
          unfold tornN at t0 t1 ⊢
          split <;> rename_i c <;> (try split at c) <;> omega
        rw [es]
        generalize tornN torn _ = n at t0 t1 e0
        obtain ⟨n, rfl⟩ : ∃ k : Nat, n = (k : Int) := ⟨n.toNat, by omega⟩
        rw [List.length_append, unitB_len] at t1
        have en : (((cP t P.length p).length : Int) + (n : Int)).toNat = (cP t P.length p).length + n := by omega
        rw [en, List.take_length_add_append]
        by_cases hn : n = 22 + r.length
        · rw [List.take_of_length_le (by simp; omega)]
          refine ⟨P ++ [{ p with recs := p.recs ++ [r] }], J, _, h.setLast (q := { p with recs := p.recs ++ [r] }) rfl (by simp only [ht]; exact Tail.nil) hrl (cP_add _ _ ht).symm, (List.take_length).symm, by rw [hrec, List.length_append]; omega, Nat.le_refl _, fun _ h1 => ?_⟩
          have := e0 h1; omega
        · refine ⟨P ++ [{ p with tail := (unitB r).take n }], J, (recsOf (P ++ [p])).length, h.setLast (q := { p with tail := (unitB r).take n }) rfl (Tail.pre (u := []) hr n (by omega)) (fun x hx => hrl x (by simp [hx])) (by simp [cP, ht]), ?_, hP0, by rw [hrec, List.length_append]; omega, fun h0 _ => ?_⟩
          · rw [hrec, List.take_left]; simp [recsOf_app, recsOf]
          · have hws : ws = [] := List.eq_nil_of_length_eq_zero (by omega)
            rw [hcr.none hws]
      · have es : stayN keep torn (ws.length : Int) (p.num, ((cP t P.length p).length : Int), ((cP t P.length p ++ unitB r).length : Int)) = ((cP t P.length p).length : Int) := by
          unfold stayN; rw [if_neg hz]
        rw [es, Int.toNat_natCast, List.take_left]
        obtain ⟨P', J', m, a1, a2, a3, a4, a5⟩ := ih keep torn (h.setLast (q := p) rfl (by rw [ht]; exact Tail.nil) (fun x hx => hrl x (by simp [hx])) rfl)
        exact ⟨P', J', m, a1, by rw [a2, hrec, List.take_append_of_le_length a4], a3, by rw [hrec, List.length_append]; omega, a5⟩
  | @new P ws P0 f r hcr hr ih =>
    intro J fs keep torn h
    rw [crashGo_snoc]
    have hrec : recsOf (P ++ [(⟨f, [r], []⟩ : PT)]) = recsOf P ++ [r] := by simp [recsOf_app, recsOf]
    have hcont := h.contLast
    simp only at hcont
    have hP0 : (recsOf P0).length ≤ (recsOf P).length := by
      clear ih h hrec hcont
      induction hcr with
      | nil => exact Nat.le_refl _
      | old _ _ _ ih => simp [recsOf_app, recsOf] at ih ⊢; omega
      | new _ _ ih => simp [recsOf_app, recsOf] at ih ⊢; omega
    have hcl : (cP t P.length ⟨f, [r], []⟩) = topB 1 t P.length ++ unitB r := by simp [cP, units]
    split
    · rename_i hk
      exact ⟨_, J, _, h, (List.take_length).symm, by rw [hrec, List.length_append]; omega, Nat.le_refl _, fun h0 _ => by omega⟩
    · rename_i hk
      simp only [hcont]
      by_cases hz : (ws.length : Int) = keep
      · rw [crashGo_stop _ _ _ _ (by omega)]
        have hx : 0 ≤ ((cP t P.length (⟨f, [r], []⟩ : PT)).length : Int) - 0 := by omega
        obtain ⟨t0, t1⟩ := tornN_range torn hx
        have es : stayN keep torn (ws.length : Int) (f, 0, ((cP t P.length (⟨f, [r], []⟩ : PT)).length : Int)) = 0 + tornN torn (((cP t P.length (⟨f, [r], []⟩ : PT)).length : Int) - 0) := by
          unfold stayN; rw [if_pos hz]
        have e0 : torn ≤ 0 → tornN torn (((cP t P.length (⟨f, [r], []⟩ : PT)).length : Int) - 0) = 0 := fun h => by
          unfold tornN at t0 t1 ⊢
          split <;> rename_i c <;> (try split at c) <;> omega
        rw [es]
        generalize tornN torn _ = n at t0 t1 e0
        obtain ⟨n, rfl⟩ : ∃ k : Nat, n = (k : Int) := ⟨n.toNat, by omega⟩
        rw [hcl, List.length_append, unitB_len, topB_len] at t1
        rw [hcl, show ((0 : Int) + (n : Int)).toNat = n by omega]
        have hws0 : keep ≤ 0 → P0 = P := fun h0 => by
          have hws : ws = [] := List.eq_nil_of_length_eq_zero (by omega)
          exact hcr.none hws
        by_cases hn : n < 22
        · refine ⟨P, _, (recsOf P).length, h.cutLast (p := ⟨f, [r], []⟩) (c := (topB 1 t P.length ++ unitB r).take n) (by simp; omega), by rw [hrec, List.take_left], hP0, by rw [hrec, List.length_append]; omega, fun h0 _ => by rw [hws0 h0]⟩
        · obtain ⟨n, rfl⟩ : ∃ k, n = 22 + k := ⟨n - 22, by omega⟩
          rw [show (22 : Nat) = (topB 1 t P.length).length by simp, List.take_length_add_append]
          by_cases hn2 : n = 22 + r.length
          · rw [List.take_of_length_le (by simp; omega)]
            refine ⟨P ++ [⟨f, [r], []⟩], J, _, h.setLast (q := ⟨f, [r], []⟩) rfl Tail.nil (h.rl ⟨f, [r], []⟩ (by simp)) hcl.symm, (List.take_length).symm, by rw [hrec, List.length_append]; omega, Nat.le_refl _, fun _ h1 => ?_⟩
            have := e0 h1; omega
          · refine ⟨P ++ [⟨f, [], (unitB r).take n⟩], J, (recsOf P).length, h.setLast (q := ⟨f, [], (unitB r).take n⟩) rfl (Tail.pre (u := []) hr n (by omega)) (fun x hx => (by cases hx)) (by simp [cP, units]), ?_, hP0, by rw [hrec, List.length_append]; omega, fun h0 _ => by rw [hws0 h0]⟩
            rw [hrec, List.take_left]; simp [recsOf_app, recsOf]
      · have es : stayN keep torn (ws.length : Int) (f, 0, ((cP t P.length (⟨f, [r], []⟩ : PT)).length : Int)) = 0 := by
          unfold stayN; rw [if_neg hz]
        rw [es]
        obtain ⟨P', J', m, a1, a2, a3, a4, a5⟩ := ih keep torn (h.cutLast (p := ⟨f, [r], []⟩) (c := []) (by simp))
        exact ⟨P', J', m, a1, by rw [a2, hrec, List.take_append_of_le_length a4], a3, by rw [hrec, List.length_append]; omega, a5⟩
end
end Go.Proofs.Ythladblmjoaeoaa
