import Derived.Test.YtfmidjlgpakilaaProg
import Derived.Test.YtfmidjlgpakilaaEng5
/- Printed by an own tool (wip/tools/base.py): the numbers of functions and types under names. -/
namespace Go.Proofs.Ytfmidjlgpakilaa
set_option linter.unusedVariables false
set_option linter.unusedSimpArgs false
open Go.Eng
noncomputable abbrev PR : Program := Try.prog
def CB (g : Nat) : Bool := Nat.blt g 82 && !(([0, 1, 65, 66, 67, 68, 69, 70, 71, 72, 73, 74, 75, 76, 77, 78, 79, 80, 81] : List Nat).any fun k => Nat.beq g k)
theorem mixed : PR.follows .mixedOrders = true := by kernel_rfl
noncomputable def fnOkB (g : Nat) : Bool := match PR.funcs[g]? with | some fn => !fn.body.isNone && !(fn.name == "runtime.NumGoroutine") | none => false
theorem CBall : (List.range 82).all (fun g => !CB g || fnOkB g) = true := by kernel_rfl
theorem CBok (g : Nat) (h : CB g = true) : fnOk PR g := by
  have hlt : g < 82 := by
    have h1 : Nat.blt g 82 = true := by unfold CB at h; simp only [Bool.and_eq_true] at h; exact h.1
    exact Nat.le_of_ble_eq_true h1
  have := List.all_eq_true.1 CBall g (List.mem_range.2 hlt)
  simp only [h, Bool.not_true, Bool.false_or] at this
  unfold fnOkB at this
  split at this
  · rename_i fn hf
    simp only [Bool.and_eq_true, Bool.not_eq_true'] at this
    exact ⟨fn, hf, this.1, this.2⟩
  · cases this
def T_t0 : Nat := 0
def T_t1 : Nat := 1
def T_int64 : Nat := 2
def T_int : Nat := 3
def T_bool : Nat := 4
def T_uint8 : Nat := 5
def T_abi_BoundsErrorCode : Nat := 6
def T_t7 : Nat := 7
def T_runtime_boundsError : Nat := 8
def T_string : Nat := 9
def T_runtime_errorString : Nat := 10
def T_runtime_plainError : Nat := 11
def T_uintptr : Nat := 12
def T_t13 : Nat := 13
def T_runtime_errorAddressString : Nat := 14
def T_p_runtime_TypeAssertionError : Nat := 15
def T_p_runtime_PanicNilError : Nat := 16
def T_p_abi_Type : Nat := 17
def T_t18 : Nat := 18
def T_maps_unhashableTypeError : Nat := 19
def T_t20 : Nat := 20
def T_int32 : Nat := 21
def T_s_rostrumlaw11_Act : Nat := 22
def T_t23 : Nat := 23
def T_t24 : Nat := 24
def T_api_Dot : Nat := 25
def T_t26 : Nat := 26
def T_rostrumlaw11_Act : Nat := 27
def T_p_last_Last : Nat := 28
def T_t29 : Nat := 29
def T_api_Errno : Nat := 30
def T_t31 : Nat := 31
def T_t32 : Nat := 32
def T_t33 : Nat := 33
def T_t34 : Nat := 34
def T_t35 : Nat := 35
def T_t36 : Nat := 36
def T_t37 : Nat := 37
def T_t38 : Nat := 38
def T_t39 : Nat := 39
def T_t40 : Nat := 40
def T_ballot_Ballot : Nat := 41
def T_t42 : Nat := 42
def T_t43 : Nat := 43
def T_t44 : Nat := 44
def T_s_ballot_Ballot : Nat := 45
def T_s_uint8 : Nat := 46
def T_t47 : Nat := 47
def T_t48 : Nat := 48
def T_p_pack_Reader : Nat := 49
def T_t50 : Nat := 50
def T_t51 : Nat := 51
def T_t52 : Nat := 52
def T_t53 : Nat := 53
def T_t54 : Nat := 54
def T_rostrumref18_Ballot : Nat := 55
def T_t56 : Nat := 56
def T_t57 : Nat := 57
def T_t58 : Nat := 58
def T_p_rostrumref1_Reader : Nat := 59
def T_t60 : Nat := 60
def T_rostrumref1_Reader : Nat := 61
def T_t62 : Nat := 62
def T_t63 : Nat := 63
def T_t64 : Nat := 64
def T_t65 : Nat := 65
def T_t66 : Nat := 66
def T_t67 : Nat := 67
def T_t68 : Nat := 68
def T_t69 : Nat := 69
def T_p_rostrumref7_Last : Nat := 70
def T_t71 : Nat := 71
def T_rostrumref7_Last : Nat := 72
def T_t73 : Nat := 73
def T_t74 : Nat := 74
def T_t75 : Nat := 75
def T_t76 : Nat := 76
def T_last_Last : Nat := 77
def T_t78 : Nat := 78
def T_t79 : Nat := 79
def T_t80 : Nat := 80
def T_t81 : Nat := 81
def T_t82 : Nat := 82
def T_t83 : Nat := 83
def T_t84 : Nat := 84
def T_t85 : Nat := 85
def T_t86 : Nat := 86
def T_pack_Reader : Nat := 87
def T_t88 : Nat := 88
def T_t89 : Nat := 89
def T_t90 : Nat := 90
def T_t91 : Nat := 91
def T_t92 : Nat := 92
def T_t93 : Nat := 93
def T_s_int : Nat := 94
def T_t95 : Nat := 95
def T_uint64 : Nat := 96
def T_uint : Nat := 97
def T_t98 : Nat := 98
def T_t99 : Nat := 99
def T_t100 : Nat := 100
def T_t101 : Nat := 101
def T_t102 : Nat := 102
def T_runtime_TypeAssertionError : Nat := 103
def T_a0_p_runtime_PanicNilError : Nat := 104
def T_t105 : Nat := 105
def T_runtime_PanicNilError : Nat := 106
def T_t107 : Nat := 107
def T_uint32 : Nat := 108
def T_abi_TFlag : Nat := 109
def T_abi_Kind : Nat := 110
def T_t111 : Nat := 111
def T_p_uint8 : Nat := 112
def T_abi_NameOff : Nat := 113
def T_abi_TypeOff : Nat := 114
def T_t115 : Nat := 115
def T_abi_Type : Nat := 116
def T_unsafe_Pointer : Nat := 117
def F_main_main : Nat := 0
def F_gosem_cut : Nat := 1
def F_gosem_cut_init : Nat := 2
def F_rostrumlaw11_LastOrder : Nat := 3
def F_rostrumlaw11_LastGrows : Nat := 4
def F_rostrumlaw19_BallotOrder : Nat := 5
def F_rostrumlaw19_BallotBack : Nat := 6
def F_rostrumlaw19_BallotSays : Nat := 7
def F_rostrumlaw19_BallotNext : Nat := 8
def F_rostrumlaw11_LastKnown : Nat := 9
def F_rostrumlaw11_LastPlays : Nat := 10
def F_rostrumlaw11_LastBack : Nat := 11
def F_rostrumlaw11_awake : Nat := 12
def F_last_New : Nat := 13
def F_last_Last_Write : Nat := 14
def F_last_Same : Nat := 15
def F_last_Last_Value : Nat := 16
def F_last_Last_When : Nat := 17
def F_rostrumlaw19_awake : Nat := 18
def F_ballot_Cmp : Nat := 19
def F_ballot_Most : Nat := 20
def F_ballot_Good : Nat := 21
def F_ballot_Put : Nat := 22
def F_pack_Read : Nat := 23
def F_ballot_Get : Nat := 24
def F_pack_Reader_End : Nat := 25
def F_ballot_Next : Nat := 26
def F_rostrumref18_Next : Nat := 27
def F_rostrumlaw19_own : Nat := 28
def F_rostrumref18_GoodBallot : Nat := 29
def F_rostrumref18_GetBallot : Nat := 30
def F_pack_Reader_Bad : Nat := 31
def F_rostrumref18_PutBallot : Nat := 32
def F_rostrumref18_Cmp : Nat := 33
def F_last_Get : Nat := 34
def F_last_Last_Put : Nat := 35
def F_rostrumref7_Last_Write : Nat := 36
def F_rostrumref7_Last_Put : Nat := 37
def F_rostrumref7_GetLast : Nat := 38
def F_rostrumref1_Reader_End : Nat := 39
def F_vec_Dot : Nat := 40
def F_cmp_Or_int : Nat := 41
def F_cmp_Compare_int64 : Nat := 42
def F_dots_Order : Nat := 43
def F_ballot_First : Nat := 44
def F_cmp_Compare_int : Nat := 45
def F_ballot_rep : Nat := 46
def F_pack_Num : Nat := 47
def F_bytes_Clone : Nat := 48
def F_pack_Reader_Num : Nat := 49
def F_rostrumref1_Reader_Num : Nat := 50
def F_rostrumref1_Num : Nat := 51
def F_pack_Reader_Text : Nat := 52
def F_pack_Text : Nat := 53
def F_rostrumref7_May : Nat := 54
def F_rostrumref7_Less : Nat := 55
def F_rostrumref1_Bytes : Nat := 56
def F_rostrumref1_Reader_Bytes : Nat := 57
def F_vec_Rep : Nat := 58
def F_cmp_isNaN_int64 : Nat := 59
def F_cmp_isNaN_int : Nat := 60
def F_pack_Reader_fail : Nat := 61
def F_rostrumref1_Reader_raw : Nat := 62
def F_pack_Reader_Bytes : Nat := 63
def F_pack_Bytes : Nat := 64
def F_runtime_boundsError_Error : Nat := 65
def F_runtime_boundsError_RuntimeError : Nat := 66
def F_runtime_errorString_Error : Nat := 67
def F_runtime_errorString_RuntimeError : Nat := 68
def F_runtime_plainError_Error : Nat := 69
def F_runtime_plainError_RuntimeError : Nat := 70
def F_runtime_errorAddressString_Error : Nat := 71
def F_runtime_errorAddressString_RuntimeError : Nat := 72
def F_runtime_TypeAssertionError_Error : Nat := 73
def F_runtime_TypeAssertionError_RuntimeError : Nat := 74
def F_runtime_PanicNilError_Error : Nat := 75
def F_runtime_PanicNilError_RuntimeError : Nat := 76
def F_internal_abi_Type_Align : Nat := 77
def F_internal_runtime_maps_unhashableTypeError_Error : Nat := 78
def F_internal_runtime_maps_unhashableTypeError_RuntimeError : Nat := 79
def F_api_Errno_Error : Nat := 80
def F_internal_abi_Kind_String : Nat := 81
end Go.Proofs.Ytfmidjlgpakilaa
