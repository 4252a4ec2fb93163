import Derived.Test.YtpihhlaiofkmdaaProg
import Derived.Test.YtpihhlaiofkmdaaEng5
/- Printed by an own tool (wip/tools/base.py): the numbers of functions and types under names. -/
namespace Go.Proofs.Ytpihhlaiofkmdaa
set_option linter.unusedVariables false
set_option linter.unusedSimpArgs false
open Go.Eng
noncomputable abbrev PR : Program := Try.prog
def CB (g : Nat) : Bool := Nat.blt g 70 && !(([0, 1, 52, 53, 54, 55, 56, 57, 58, 59, 60, 61, 62, 63, 64, 65, 66, 67, 68, 69] : List Nat).any fun k => Nat.beq g k)
theorem mixed : PR.follows .mixedOrders = true := by kernel_rfl
noncomputable def fnOkB (g : Nat) : Bool := match PR.funcs[g]? with | some fn => !fn.body.isNone && !(fn.name == "runtime.NumGoroutine") | none => false
theorem CBall : (List.range 70).all (fun g => !CB g || fnOkB g) = true := by kernel_rfl
theorem CBok (g : Nat) (h : CB g = true) : fnOk PR g := by
  have hlt : g < 70 := by
    have h1 : Nat.blt g 70 = true := by unfold CB at h; simp only [Bool.and_eq_true] at h; exact h.1
    exact Nat.le_of_ble_eq_true h1
  have := List.all_eq_true.1 CBall g (List.mem_range.2 hlt)
  simp only [h, Bool.not_true, Bool.false_or] at this
  unfold fnOkB at this
  split at this
  · rename_i fn hf
    simp only [Bool.and_eq_true, Bool.not_eq_true'] at this
    exact ⟨fn, hf, this.1, this.2⟩
  · cases this
def T_t0 : Nat := 0
def T_t1 : Nat := 1
def T_int64 : Nat := 2
def T_int : Nat := 3
def T_bool : Nat := 4
def T_uint8 : Nat := 5
def T_abi_BoundsErrorCode : Nat := 6
def T_t7 : Nat := 7
def T_runtime_boundsError : Nat := 8
def T_string : Nat := 9
def T_runtime_errorString : Nat := 10
def T_runtime_plainError : Nat := 11
def T_uintptr : Nat := 12
def T_t13 : Nat := 13
def T_runtime_errorAddressString : Nat := 14
def T_p_runtime_TypeAssertionError : Nat := 15
def T_p_runtime_PanicNilError : Nat := 16
def T_p_abi_Type : Nat := 17
def T_t18 : Nat := 18
def T_maps_unhashableTypeError : Nat := 19
def T_t20 : Nat := 20
def T_int32 : Nat := 21
def T_s_api_Dot : Nat := 22
def T_t23 : Nat := 23
def T_p_inst_Table : Nat := 24
def T_t25 : Nat := 25
def T_a7_p_inst_Table : Nat := 26
def T_t27 : Nat := 27
def T_api_Dot : Nat := 28
def T_t29 : Nat := 29
def T_ballot_Ballot : Nat := 30
def T_s_uint8 : Nat := 31
def T_a7_int64 : Nat := 32
def T_vec_Vec : Nat := 33
def T_t34 : Nat := 34
def T_inst_Rec : Nat := 35
def T_t36 : Nat := 36
def T_inst_Answer : Nat := 37
def T_api_Errno : Nat := 38
def T_t39 : Nat := 39
def T_t40 : Nat := 40
def T_t41 : Nat := 41
def T_t42 : Nat := 42
def T_inst_Msg : Nat := 43
def T_p_lead_Lead : Nat := 44
def T_t45 : Nat := 45
def T_t46 : Nat := 46
def T_t47 : Nat := 47
def T_t48 : Nat := 48
def T_t49 : Nat := 49
def T_t50 : Nat := 50
def T_t51 : Nat := 51
def T_t52 : Nat := 52
def T_t53 : Nat := 53
def T_t54 : Nat := 54
def T_s_int : Nat := 55
def T_a5_p_inst_Table : Nat := 56
def T_t57 : Nat := 57
def T_m_api_Dot_inst_Rec : Nat := 58
def T_t59 : Nat := 59
def T_inst_Table : Nat := 60
def T_t61 : Nat := 61
def T_t62 : Nat := 62
def T_t63 : Nat := 63
def T_t64 : Nat := 64
def T_t65 : Nat := 65
def T_t66 : Nat := 66
def T_t67 : Nat := 67
def T_t68 : Nat := 68
def T_t69 : Nat := 69
def T_t70 : Nat := 70
def T_p_inst_Rec : Nat := 71
def T_a7_p_inst_Rec : Nat := 72
def T_t73 : Nat := 73
def T_lead_Lead : Nat := 74
def T_t75 : Nat := 75
def T_t76 : Nat := 76
def T_t77 : Nat := 77
def T_t78 : Nat := 78
def T_t79 : Nat := 79
def T_t80 : Nat := 80
def T_t81 : Nat := 81
def T_t82 : Nat := 82
def T_t83 : Nat := 83
def T_s_ballot_Ballot : Nat := 84
def T_t85 : Nat := 85
def T_t86 : Nat := 86
def T_t87 : Nat := 87
def T_t88 : Nat := 88
def T_t89 : Nat := 89
def T_t90 : Nat := 90
def T_t91 : Nat := 91
def T_t92 : Nat := 92
def T_t93 : Nat := 93
def T_t94 : Nat := 94
def T_runtime_TypeAssertionError : Nat := 95
def T_a0_p_runtime_PanicNilError : Nat := 96
def T_t97 : Nat := 97
def T_runtime_PanicNilError : Nat := 98
def T_uint32 : Nat := 99
def T_abi_TFlag : Nat := 100
def T_abi_Kind : Nat := 101
def T_t102 : Nat := 102
def T_p_uint8 : Nat := 103
def T_abi_NameOff : Nat := 104
def T_abi_TypeOff : Nat := 105
def T_t106 : Nat := 106
def T_abi_Type : Nat := 107
def T_t108 : Nat := 108
def T_unsafe_Pointer : Nat := 109
def F_main_main : Nat := 0
def F_gosem_cut : Nat := 1
def F_gosem_cut_init : Nat := 2
def F_rostrumlaw21_LeadSlow : Nat := 3
def F_rostrumlaw21_LeadFast : Nat := 4
def F_rostrumlaw21_LeadNoop : Nat := 5
def F_rostrumlaw21_LeadKnown : Nat := 6
def F_rostrumlaw21_LeadTwo : Nat := 7
def F_rostrumlaw21_awake : Nat := 8
def F_inst_New : Nat := 9
def F_inst_Table_Do : Nat := 10
def F_ballot_First : Nat := 11
def F_lead_Propose : Nat := 12
def F_lead_Lead_Msg : Nat := 13
def F_lead_Lead_Got : Nat := 14
def F_inst_Table_Rec : Nat := 15
def F_lead_Lead_Phase : Nat := 16
def F_lead_Lead_Fast : Nat := 17
def F_lead_Lead_Slow : Nat := 18
def F_lead_Recover : Nat := 19
def F_inst_May : Nat := 20
def F_inst_Table_old : Nat := 21
def F_bytes_Clone : Nat := 22
def F_inst_Table_Would : Nat := 23
def F_vec_Merge : Nat := 24
def F_ballot_Most : Nat := 25
def F_inst_copied : Nat := 26
def F_lead_good : Nat := 27
def F_lead_Lead_begin : Nat := 28
def F_lead_Lead_fits : Nat := 29
def F_lead_Lead_decide : Nat := 30
def F_ballot_Cmp : Nat := 31
def F_lead_Lead_heard : Nat := 32
def F_lead_Lead_majority : Nat := 33
def F_lead_Lead_prepared : Nat := 34
def F_lead_Lead_accept : Nat := 35
def F_ballot_Next : Nat := 36
def F_inst_Dot : Nat := 37
def F_ballot_Good : Nat := 38
def F_inst_content : Nat := 39
def F_cmp_Or_int : Nat := 40
def F_cmp_Compare_int64 : Nat := 41
def F_cmp_Compare_int : Nat := 42
def F_lead_Lead_count : Nat := 43
def F_lead_Lead_prepared_1 : Nat := 44
def F_lead_Lead_greatest : Nat := 45
def F_lead_Lead_alike : Nat := 46
def F_lead_Lead_first : Nat := 47
def F_ballot_rep : Nat := 48
def F_vec_Rep : Nat := 49
def F_cmp_isNaN_int64 : Nat := 50
def F_cmp_isNaN_int : Nat := 51
def F_runtime_boundsError_Error : Nat := 52
def F_runtime_boundsError_RuntimeError : Nat := 53
def F_runtime_errorString_Error : Nat := 54
def F_runtime_errorString_RuntimeError : Nat := 55
def F_runtime_plainError_Error : Nat := 56
def F_runtime_plainError_RuntimeError : Nat := 57
def F_runtime_errorAddressString_Error : Nat := 58
def F_runtime_errorAddressString_RuntimeError : Nat := 59
def F_runtime_TypeAssertionError_Error : Nat := 60
def F_runtime_TypeAssertionError_RuntimeError : Nat := 61
def F_runtime_PanicNilError_Error : Nat := 62
def F_runtime_PanicNilError_RuntimeError : Nat := 63
def F_internal_abi_Type_Align : Nat := 64
def F_internal_runtime_maps_unhashableTypeError_Error : Nat := 65
def F_internal_runtime_maps_unhashableTypeError_RuntimeError : Nat := 66
def F_inst_Table_Top : Nat := 67
def F_api_Errno_Error : Nat := 68
def F_internal_abi_Kind_String : Nat := 69
end Go.Proofs.Ytpihhlaiofkmdaa
