/- Texts of the claim DiskPlays, joined: PDisk, Base, Equ, Wr, Typ, TypM. -/
import Derived.Test.YthladblmjoaeoaaBDiskPlays2
import Derived.Test.YthladblmjoaeoaaProg
import Derived.Test.YthladblmjoaeoaaBDiskPlays1
namespace Go.Proofs.Ythladblmjoaeoaa
set_option linter.unusedVariables false
set_option linter.unusedSimpArgs false
open Go Go.Eng

abbrev Wr := Int × Int × Int
structure DS where
  room : Int
  fs : List (Int × List UInt8)
  ws : List Wr
  on : Bool
  lives : Int
def lens (l : List (Int × List UInt8)) : Int := (l.map fun p => (p.2.length : Int)).sum
def cont (fs : List (Int × List UInt8)) (f : Int) : List UInt8 := (mget fs f).getD []
def DS.ask (d : DS) (f : Int) : Int := if !d.on then 7 else if f < 0 ∨ 1000 ≤ f then 1 else 0
def DS.find (d : DS) (f : Int) : Int := if d.ask f ≠ 0 then d.ask f else if (mget d.fs f).isSome then 0 else 4
def DS.append (d : DS) (f : Int) (b : List UInt8) : DS × Int :=
  if d.ask f ≠ 0 then (d, d.ask f)
  else if (b.length : Int) > d.room - lens d.fs then (d, 6)
  else ({ d with fs := mput d.fs f (cont d.fs f ++ b), ws := d.ws ++ [((f, ((cont d.fs f).length : Int), ((cont d.fs f).length : Int) + (b.length : Int)) : Wr)] }, 0)
def DS.read (d : DS) (f : Int) : List UInt8 × Int := if d.find f ≠ 0 then ([], d.find f) else (cont d.fs f, 0)
/-- how many bytes of a write stay -/
def tornN (torn x : Int) : Int := if (if x < torn then x else torn) < 0 then 0 else (if x < torn then x else torn)
def stayN (keep torn i : Int) (w : Wr) : Int := if i = keep then w.2.1 + tornN torn (w.2.2 - w.2.1) else w.2.1
def crashGo (keep torn : Int) : List Wr → Nat → List (Int × List UInt8) → List (Int × List UInt8)
  | _, 0, fs => fs
  | ws, i + 1, fs => if (i : Int) < keep then fs else
      match ws[i]? with
      | some w => crashGo keep torn ws i (mput fs w.1 ((cont fs w.1).take (stayN keep torn i w).toNat))
      | none => fs
def DS.crash (d : DS) (keep torn : Int) : DS := { d with fs := crashGo keep torn d.ws d.ws.length d.fs, ws := [], on := false }
def DS.power (d : DS) : DS := { d with on := true, lives := IntKind.i64.wrap (d.lives + 1) }
def DS.safe (d : DS) (f : Int) : DS := { d with ws := d.ws.filter fun w => !decide (w.1 = f) }
def DS.sync (d : DS) (f : Int) : DS × Int := if d.find f = 0 then (d.safe f, 0) else (d, d.find f)
def DS.drop (d : DS) (f : Int) : DS × Int := if d.find f = 0 then ({ d.safe f with fs := mdel d.fs f }, 0) else (d, d.find f)
def DS.ok (d : DS) : Prop := 64 ≤ d.room ∧ d.room ≤ 1048576 ∧ lens d.fs ≤ d.room
theorem lens_nonneg (l : List (Int × List UInt8)) : 0 ≤ lens l := by
  induction l with
  | nil => simp [lens]
  | cons p l ih => simp only [lens, List.map_cons, List.sum_cons] at *; omega
theorem lens_put (l : List (Int × List UInt8)) (f : Int) (b : List UInt8) : lens (mput l f b) = lens l - (cont l f).length + b.length := by
  induction l with
  | nil => simp [lens, mput, cont, mget]
  | cons p l ih =>
    obtain ⟨x, y⟩ := p
    by_cases h : x = f
    · subst h
      simp only [mput, if_true, lens, cont, mget, List.map_cons, List.sum_cons, Option.getD_some]
      omega
    · simp only [mput, if_neg h, lens, cont, mget, List.map_cons, List.sum_cons] at *
      omega
theorem lens_cont (l : List (Int × List UInt8)) (f : Int) : ((cont l f).length : Int) ≤ lens l := by
  induction l with
  | nil => simp [lens, cont, mget]
  | cons p l ih =>
    obtain ⟨x, y⟩ := p
    have := lens_nonneg l
    by_cases h : x = f
    · subst h
      simp only [lens, cont, mget, if_true, List.map_cons, List.sum_cons, Option.getD_some] at *
      omega
    · simp only [lens, cont, mget, if_neg h, List.map_cons, List.sum_cons] at *
      omega
theorem DS.ok.append {d : DS} (h : d.ok) (f : Int) (b : List UInt8) : (d.append f b).1.ok := by
  unfold DS.append
  split
  · exact h
  · split
    · exact h
    · obtain ⟨h1, h2, h3⟩ := h
      refine ⟨h1, h2, ?_⟩
      simp only [lens_put, List.length_append]
      omega
theorem lens_cut (l : List (Int × List UInt8)) (f : Int) (n : Nat) : lens (mput l f ((cont l f).take n)) ≤ lens l := by
  rw [lens_put, List.length_take]; omega
theorem lens_crash (keep torn : Int) (ws : List Wr) : ∀ (n : Nat) (fs : List (Int × List UInt8)), lens (crashGo keep torn ws n fs) ≤ lens fs
  | 0, fs => by simp [crashGo]
  | n + 1, fs => by
    unfold crashGo
    split
    · omega
    · split
      · exact Int.le_trans (lens_crash keep torn ws n _) (lens_cut _ _ _)
      · omega
theorem DS.ok.crash {d : DS} (h : d.ok) (keep torn : Int) : (d.crash keep torn).ok := ⟨h.1, h.2.1, Int.le_trans (lens_crash _ _ _ _ _) h.2.2⟩
theorem DS.ok.power {d : DS} (h : d.ok) : d.power.ok := h
/-- every write that is not safe is the end of its file, when those behind it are taken away -/
def fitGo (ws : List Wr) : Nat → List (Int × List UInt8) → Prop
  | 0, _ => True
  | i + 1, fs => ∀ w, ws[i]? = some w → 0 ≤ w.2.1 ∧ w.2.1 ≤ w.2.2 ∧ w.2.2 = (cont fs w.1).length ∧ fitGo ws i (mput fs w.1 ((cont fs w.1).take w.2.1.toNat))
def DS.fit (d : DS) : Prop := fitGo d.ws d.ws.length d.fs
theorem cont_put (fs : List (Int × List UInt8)) (f g : Int) (b : List UInt8) : cont (mput fs f b) g = if f = g then b else cont fs g := by
  simp only [cont, mget_mput]
  split <;> rfl
theorem fitGo_congr {ws ws' : List Wr} : ∀ (n : Nat) {fs fs' : List (Int × List UInt8)}, (∀ i, i < n → ws'[i]? = ws[i]?) → (∀ f, cont fs' f = cont fs f) → fitGo ws n fs → fitGo ws' n fs'
  | 0, _, _, _, _, _ => trivial
  | n + 1, fs, fs', hw, hc, h => by
    intro w hw'
    rw [hw n (by omega)] at hw'
    obtain ⟨h1, h2, h3, h4⟩ := h w hw'
    refine ⟨h1, h2, by rw [hc]; exact h3, fitGo_congr n (fun i hi => hw i (by omega)) (fun f => ?_) h4⟩
    rw [cont_put, cont_put, hc, hc]
theorem DS.fit.append {d : DS} (h : d.fit) (f : Int) (b : List UInt8) : (d.append f b).1.fit := by
  unfold DS.append
  split
  · exact h
  · split
    · exact h
    · unfold DS.fit
      simp only [List.length_append, List.length_singleton]
      intro w hw
      rw [List.getElem?_append_right (Nat.le_refl _), Nat.sub_self] at hw
      cases hw
      refine ⟨by simp only; omega, by simp only; omega, by simp only [cont_put, if_true, List.length_append]; omega, ?_⟩
      refine fitGo_congr _ (fun i hi => ?_) (fun g => ?_) h
      · rw [List.getElem?_append_left hi]
      · simp only [cont_put, if_true, Int.toNat_natCast, List.take_left']
        split
        · rename_i e; rw [e]; try simp
        · try rfl
theorem DS.fit.crash {d : DS} (keep torn : Int) : (d.crash keep torn).fit := trivial
theorem tornN_range (torn : Int) {x : Int} (h : 0 ≤ x) : 0 ≤ tornN torn x ∧ tornN torn x ≤ x := by
  unfold tornN
  split <;> split <;> omega
end Go.Proofs.Ythladblmjoaeoaa
/- Printed by an own tool (wip/tools/base.py): the numbers of functions and types under names. -/
namespace Go.Proofs.Ythladblmjoaeoaa
set_option linter.unusedVariables false
set_option linter.unusedSimpArgs false
open Go.Eng
noncomputable abbrev PR : Program := Try.prog
def CB (g : Nat) : Bool := Nat.blt g 133 && !(([0, 1, 116, 117, 118, 119, 120, 121, 122, 123, 124, 125, 126, 127, 128, 129, 130, 131, 132] : List Nat).any fun k => Nat.beq g k)
theorem mixed : PR.follows .mixedOrders = true := by kernel_rfl
noncomputable def fnOkB (g : Nat) : Bool := match PR.funcs[g]? with | some fn => !fn.body.isNone && !(fn.name == "runtime.NumGoroutine") | none => false
theorem CBall : (List.range 133).all (fun g => !CB g || fnOkB g) = true := by kernel_rfl
theorem CBok (g : Nat) (h : CB g = true) : fnOk PR g := by
  have hlt : g < 133 := by
    have h1 : Nat.blt g 133 = true := by unfold CB at h; simp only [Bool.and_eq_true] at h; exact h.1
    exact Nat.le_of_ble_eq_true h1
  have := List.all_eq_true.1 CBall g (List.mem_range.2 hlt)
  simp only [h, Bool.not_true, Bool.false_or] at this
  unfold fnOkB at this
  split at this
  · rename_i fn hf
    simp only [Bool.and_eq_true, Bool.not_eq_true'] at this
    exact ⟨fn, hf, this.1, this.2⟩
  · cases this
def T_t0 : Nat := 0
def T_t1 : Nat := 1
def T_int64 : Nat := 2
def T_int : Nat := 3
def T_bool : Nat := 4
def T_uint8 : Nat := 5
def T_abi_BoundsErrorCode : Nat := 6
def T_t7 : Nat := 7
def T_runtime_boundsError : Nat := 8
def T_string : Nat := 9
def T_runtime_errorString : Nat := 10
def T_runtime_plainError : Nat := 11
def T_uintptr : Nat := 12
def T_t13 : Nat := 13
def T_runtime_errorAddressString : Nat := 14
def T_p_runtime_TypeAssertionError : Nat := 15
def T_p_runtime_PanicNilError : Nat := 16
def T_p_abi_Type : Nat := 17
def T_t18 : Nat := 18
def T_maps_unhashableTypeError : Nat := 19
def T_t20 : Nat := 20
def T_int32 : Nat := 21
def T_s_rostrumlaw5_Act : Nat := 22
def T_t23 : Nat := 23
def T_p_disk_Disk : Nat := 24
def T_api_Errno : Nat := 25
def T_t26 : Nat := 26
def T_t27 : Nat := 27
def T_s_uint8 : Nat := 28
def T_t29 : Nat := 29
def T_rostrumlaw5_Act : Nat := 30
def T_t31 : Nat := 31
def T_t32 : Nat := 32
def T_a4_string : Nat := 33
def T_t34 : Nat := 34
def T_t35 : Nat := 35
def T_t36 : Nat := 36
def T_t37 : Nat := 37
def T_s_s_uint8 : Nat := 38
def T_t39 : Nat := 39
def T_t40 : Nat := 40
def T_t41 : Nat := 41
def T_s_int : Nat := 42
def T_t43 : Nat := 43
def T_t44 : Nat := 44
def T_p_rostrumref5_Disk : Nat := 45
def T_a1000_bool : Nat := 46
def T_s_rostrumref5_write : Nat := 47
def T_t48 : Nat := 48
def T_rostrumref5_Disk : Nat := 49
def T_t50 : Nat := 50
def T_t51 : Nat := 51
def T_p_wal_Log : Nat := 52
def T_t53 : Nat := 53
def T_t54 : Nat := 54
def T_t55 : Nat := 55
def T_t56 : Nat := 56
def T_t57 : Nat := 57
def T_t58 : Nat := 58
def T_t59 : Nat := 59
def T_t60 : Nat := 60
def T_t61 : Nat := 61
def T_s_rostrumlaw6_Act : Nat := 62
def T_t63 : Nat := 63
def T_t64 : Nat := 64
def T_rostrumlaw6_Act : Nat := 65
def T_t66 : Nat := 66
def T_t67 : Nat := 67
def T_t68 : Nat := 68
def T_t69 : Nat := 69
def T_m_int_s_uint8 : Nat := 70
def T_s_disk_write : Nat := 71
def T_t72 : Nat := 72
def T_disk_Disk : Nat := 73
def T_t74 : Nat := 74
def T_disk_write : Nat := 75
def T_t76 : Nat := 76
def T_t77 : Nat := 77
def T_t78 : Nat := 78
def T_t79 : Nat := 79
def T_iter_Seq_int : Nat := 80
def T_t81 : Nat := 81
def T_t82 : Nat := 82
def T_rostrumref5_write : Nat := 83
def T_s_wal_file : Nat := 84
def T_t85 : Nat := 85
def T_t86 : Nat := 86
def T_uint64 : Nat := 87
def T_t88 : Nat := 88
def T_wal_Log : Nat := 89
def T_t90 : Nat := 90
def T_t91 : Nat := 91
def T_t92 : Nat := 92
def T_t93 : Nat := 93
def T_t94 : Nat := 94
def T_t95 : Nat := 95
def T_t96 : Nat := 96
def T_t97 : Nat := 97
def T_wal_file : Nat := 98
def T_t99 : Nat := 99
def T_t100 : Nat := 100
def T_t101 : Nat := 101
def T_t102 : Nat := 102
def T_t103 : Nat := 103
def T_t104 : Nat := 104
def T_t105 : Nat := 105
def T_t106 : Nat := 106
def T_t107 : Nat := 107
def T_t108 : Nat := 108
def T_t109 : Nat := 109
def T_t110 : Nat := 110
def T_t111 : Nat := 111
def T_uint : Nat := 112
def T_t113 : Nat := 113
def T_t114 : Nat := 114
def T_t115 : Nat := 115
def T_t116 : Nat := 116
def T_t117 : Nat := 117
def T_t118 : Nat := 118
def T_slices_sortedHint : Nat := 119
def T_t120 : Nat := 120
def T_t121 : Nat := 121
def T_t122 : Nat := 122
def T_t123 : Nat := 123
def T_t124 : Nat := 124
def T_t125 : Nat := 125
def T_t126 : Nat := 126
def T_t127 : Nat := 127
def T_uint32 : Nat := 128
def T_t129 : Nat := 129
def T_t130 : Nat := 130
def T_t131 : Nat := 131
def T_t132 : Nat := 132
def T_t133 : Nat := 133
def T_t134 : Nat := 134
def T_t135 : Nat := 135
def T_t136 : Nat := 136
def T_t137 : Nat := 137
def T_t138 : Nat := 138
def T_slices_xorshift : Nat := 139
def T_t140 : Nat := 140
def T_t141 : Nat := 141
def T_t142 : Nat := 142
def T_p_int : Nat := 143
def T_t144 : Nat := 144
def T_t145 : Nat := 145
def T_t146 : Nat := 146
def T_t147 : Nat := 147
def T_p_slices_xorshift : Nat := 148
def T_t149 : Nat := 149
def T_t150 : Nat := 150
def T_t151 : Nat := 151
def T_t152 : Nat := 152
def T_t153 : Nat := 153
def T_runtime_TypeAssertionError : Nat := 154
def T_a0_p_runtime_PanicNilError : Nat := 155
def T_t156 : Nat := 156
def T_runtime_PanicNilError : Nat := 157
def T_abi_TFlag : Nat := 158
def T_abi_Kind : Nat := 159
def T_t160 : Nat := 160
def T_p_uint8 : Nat := 161
def T_abi_NameOff : Nat := 162
def T_abi_TypeOff : Nat := 163
def T_t164 : Nat := 164
def T_abi_Type : Nat := 165
def T_unsafe_Pointer : Nat := 166
def F_main_main : Nat := 0
def F_gosem_cut : Nat := 1
def F_gosem_cut_init : Nat := 2
def F_rostrumlaw5_DiskOrder : Nat := 3
def F_rostrumlaw5_DiskApart : Nat := 4
def F_rostrumlaw5_DiskSafe : Nat := 5
def F_rostrumlaw5_DiskKnown : Nat := 6
def F_rostrumlaw5_DiskPlays : Nat := 7
def F_rostrumlaw6_WalFull : Nat := 8
def F_rostrumlaw6_WalKnown : Nat := 9
def F_rostrumlaw6_WalPlays : Nat := 10
def F_rostrumlaw6_WalKeeps : Nat := 11
def F_rostrumlaw6_WalParts : Nat := 12
def F_rostrumlaw6_WalSpoilt : Nat := 13
def F_rostrumlaw5_awake : Nat := 14
def F_disk_New : Nat := 15
def F_disk_Disk_Append : Nat := 16
def F_disk_Disk_Crash : Nat := 17
def F_disk_Disk_On : Nat := 18
def F_disk_Disk_Read : Nat := 19
def F_disk_Disk_Sync : Nat := 20
def F_disk_Disk_Spoil : Nat := 21
def F_disk_Disk_Files : Nat := 22
def F_disk_Disk_Drop : Nat := 23
def F_rostrumlaw5_ints : Nat := 24
def F_rostrumref5_Disk_Append : Nat := 25
def F_rostrumref5_Disk_Sync : Nat := 26
def F_rostrumref5_Disk_Drop : Nat := 27
def F_rostrumref5_Disk_Crash : Nat := 28
def F_rostrumref5_Disk_On : Nat := 29
def F_rostrumref5_Disk_Spoil : Nat := 30
def F_rostrumref5_Disk_Read : Nat := 31
def F_rostrumref5_Disk_Files : Nat := 32
def F_disk_Disk_Power : Nat := 33
def F_disk_Disk_Lives : Nat := 34
def F_rostrumlaw6_awake : Nat := 35
def F_wal_Open : Nat := 36
def F_wal_Log_Add : Nat := 37
def F_wal_Log_Sync : Nat := 38
def F_wal_Log_Done : Nat := 39
def F_wal_Log_All : Nat := 40
def F_rostrumref1_Same : Nat := 41
def F_wal_Log_Keep : Nat := 42
def F_wal_Log_Base : Nat := 43
def F_rostrumlaw6_light : Nat := 44
def F_disk_Disk_ask : Nat := 45
def F_disk_Disk_size : Nat := 46
def F_disk_Disk_find : Nat := 47
def F_bytes_Clone : Nat := 48
def F_disk_Disk_safe : Nat := 49
def F_slices_Sorted_int : Nat := 50
def F_maps_Keys_map_int_byte_int_byte : Nat := 51
def F_rostrumref5_Disk_ask : Nat := 52
def F_wal_readAll : Nat := 53
def F_wal_Log_take : Nat := 54
def F_wal_Log_add : Nat := 55
def F_wal_Log_free : Nat := 56
def F_wal_Log_write : Nat := 57
def F_wal_top : Nat := 58
def F_wal_unit : Nat := 59
def F_slices_DeleteFunc_disk_write_disk_write : Nat := 60
def F_disk_Disk_safe_1 : Nat := 61
def F_slices_Collect_int : Nat := 62
def F_slices_Sort_int_int : Nat := 63
def F_maps_Keys_map_int_byte_int_byte_1 : Nat := 64
def F_wal_parse : Nat := 65
def F_wal_Log_take_1 : Nat := 66
def F_slices_SortFunc_wal_file_wal_file : Nat := 67
def F_wal_Log_take_2 : Nat := 68
def F_cmp_Compare_int : Nat := 69
def F_slices_Contains_int_int : Nat := 70
def F_wal_little : Nat := 71
def F_wal_framed : Nat := 72
def F_slices_IndexFunc_disk_write_disk_write : Nat := 73
def F_slices_AppendSeq_int_int : Nat := 74
def F_slices_pdqsortOrdered_int : Nat := 75
def F_math_bits_Len : Nat := 76
def F_wal_just : Nat := 77
def F_wal_read : Nat := 78
def F_slices_pdqsortCmpFunc_wal_file : Nat := 79
def F_cmp_isNaN_int : Nat := 80
def F_slices_Index_int_int : Nat := 81
def F_frame_Put : Nat := 82
def F_slices_insertionSortOrdered_int : Nat := 83
def F_slices_heapSortOrdered_int : Nat := 84
def F_slices_breakPatternsOrdered_int : Nat := 85
def F_slices_choosePivotOrdered_int : Nat := 86
def F_slices_reverseRangeOrdered_int : Nat := 87
def F_slices_partialInsertionSortOrdered_int : Nat := 88
def F_cmp_Less_int : Nat := 89
def F_slices_partitionEqualOrdered_int : Nat := 90
def F_slices_partitionOrdered_int : Nat := 91
def F_math_bits_Len32 : Nat := 92
def F_math_bits_Len64 : Nat := 93
def F_frame_Get : Nat := 94
def F_slices_insertionSortCmpFunc_wal_file : Nat := 95
def F_slices_heapSortCmpFunc_wal_file : Nat := 96
def F_slices_breakPatternsCmpFunc_wal_file : Nat := 97
def F_slices_choosePivotCmpFunc_wal_file : Nat := 98
def F_slices_reverseRangeCmpFunc_wal_file : Nat := 99
def F_slices_partialInsertionSortCmpFunc_wal_file : Nat := 100
def F_slices_partitionEqualCmpFunc_wal_file : Nat := 101
def F_slices_partitionCmpFunc_wal_file : Nat := 102
def F_frame_number : Nat := 103
def F_crc_Of : Nat := 104
def F_slices_siftDownOrdered_int : Nat := 105
def F_slices_nextPowerOfTwo : Nat := 106
def F_slices_xorshift_Next : Nat := 107
def F_slices_medianAdjacentOrdered_int : Nat := 108
def F_slices_medianOrdered_int : Nat := 109
def F_frame_read : Nat := 110
def F_slices_siftDownCmpFunc_wal_file : Nat := 111
def F_slices_medianAdjacentCmpFunc_wal_file : Nat := 112
def F_slices_medianCmpFunc_wal_file : Nat := 113
def F_slices_order2Ordered_int : Nat := 114
def F_slices_order2CmpFunc_wal_file : Nat := 115
def F_runtime_boundsError_Error : Nat := 116
def F_runtime_boundsError_RuntimeError : Nat := 117
def F_runtime_errorString_Error : Nat := 118
def F_runtime_errorString_RuntimeError : Nat := 119
def F_runtime_plainError_Error : Nat := 120
def F_runtime_plainError_RuntimeError : Nat := 121
def F_runtime_errorAddressString_Error : Nat := 122
def F_runtime_errorAddressString_RuntimeError : Nat := 123
def F_runtime_TypeAssertionError_Error : Nat := 124
def F_runtime_TypeAssertionError_RuntimeError : Nat := 125
def F_runtime_PanicNilError_Error : Nat := 126
def F_runtime_PanicNilError_RuntimeError : Nat := 127
def F_internal_abi_Type_Align : Nat := 128
def F_internal_runtime_maps_unhashableTypeError_Error : Nat := 129
def F_internal_runtime_maps_unhashableTypeError_RuntimeError : Nat := 130
def F_api_Errno_Error : Nat := 131
def F_internal_abi_Kind_String : Nat := 132
end Go.Proofs.Ythladblmjoaeoaa
namespace Go.Eng
set_option linter.unusedVariables false
set_option linter.unusedSimpArgs false
open Go Go.RowKit

inductive Leaf where
  | b
  | i
  | s
def leafOf : TypeDesc → Option Leaf
  | .bool => some .b
  | .int _ => some .i
  | .string => some .s
  | _ => none
def flatF (P : Program) (g : TypeId → Option (List Leaf)) : List Field → Nat → Option (List Leaf)
  | [], _ => some []
  | f :: r, off => match f.name != "_" && Nat.beq f.offset off with
    | false => none
    | true => match g f.type, P.info? f.type with
      | some ks, some i => match Nat.beq i.size ks.length with
        | true => (match flatF P g r (off + ks.length) with | some l => some (ks ++ l) | none => none)
        | false => none
      | _, _ => none
def flat (P : Program) : Nat → TypeId → Option (List Leaf)
  | 0, _ => none
  | d + 1, t => match P.underlying t with
    | some (.struct fs) => match P.stoodInHeld t with
      | true => none
      | false => flatF P (flat P d) fs.toList 0
    | some (.array n e) => match flat P d e, P.info? e with
      | some ks, some i => (match Nat.beq i.size ks.length with | true => some (List.replicate n ks).flatten | false => none)
      | _, _ => none
    | some u => (match leafOf u with | some k => some [k] | none => none)
    | none => none
def eq1 : Leaf → Value → Value → Option Bool
  | .b, .bool a, .bool b => some (a == b)
  | .i, .int k a, .int k' b => if k = k' then some (a == b) else none
  | .s, .string a, .string b => some (a == b)
  | _, _, _ => none
def eqC : List Leaf → List Value → List Value → Option Bool
  | [], [], [] => some true
  | k :: ks, x :: xs, y :: ys => match eq1 k x y, eqC ks xs ys with
    | some a, some b => some (a && b)
    | _, _ => none
  | _, _, _ => none

theorem eqC_len : ∀ (ks : List Leaf) (xs ys : List Value) (b : Bool), eqC ks xs ys = some b → xs.length = ks.length ∧ ys.length = ks.length
  | [], [], [], _, _ => ⟨rfl, rfl⟩
  | k :: ks, x :: xs, y :: ys, b, h => by
    simp only [eqC] at h
    split at h
    · rename_i h2
      have := eqC_len ks xs ys _ h2
      simp [this]
    · cases h
  | [], _ :: _, _, _, h => by simp [eqC] at h
  | [], [], _ :: _, _, h => by simp [eqC] at h
  | _ :: _, [], _, _, h => by simp [eqC] at h
  | _ :: _, _ :: _, [], _, h => by simp [eqC] at h
theorem eqC_split : ∀ (ks l : List Leaf) (xs ys : List Value) (b : Bool), eqC (ks ++ l) xs ys = some b →
    ∃ b1 b2, eqC ks (xs.take ks.length) (ys.take ks.length) = some b1 ∧ eqC l (xs.drop ks.length) (ys.drop ks.length) = some b2 ∧ b = (b1 && b2)
  | [], l, xs, ys, b, h => ⟨true, b, by simp [eqC], by simpa using h, by simp⟩
  | k :: ks, l, x :: xs, y :: ys, b, h => by
    simp only [List.cons_append, eqC] at h
    split at h
    · rename_i c d h1 h2
      obtain ⟨b1, b2, h3, h4, h5⟩ := eqC_split ks l xs ys _ h2
      simp only [Option.some.injEq] at h
      refine ⟨c && b1, b2, by simp [eqC, h1, h3], by simpa using h4, ?_⟩
      rw [← h, h5, Bool.and_assoc]
    · cases h
  | _ :: _, _, [], _, _, h => by simp [eqC] at h
  | _ :: _, _, _ :: _, [], _, h => by simp [eqC] at h

section
variable {P : Program} {w : World}
theorem eqF_run (g : TypeId → Option (List Leaf)) (e : TypeId → Value → Value → Sem Bool) (xs ys : List Value)
    (he : ∀ t ks d i off b, g t = some ks → P.underlying t = some d → P.info? t = some i → i.size = ks.length → eqC ks ((xs.drop off).take ks.length) ((ys.drop off).take ks.length) = some b →
      ∃ x y, (part t xs.toArray off).run P w = .ok x w ∧ (part t ys.toArray off).run P w = .ok y w ∧ (e t x y).run P w = .ok b w)
    (hu : ∀ t ks, g t = some ks → ∃ d, P.underlying t = some d) :
    ∀ (fs : List Field) (off : Nat) (ks : List Leaf) (b : Bool), flatF P g fs off = some ks → eqC ks (xs.drop off) (ys.drop off) = some b → ∀ r : Option Bool × Unit → Sem Bool, (∀ s, s.1 = none → (r s).run P w = .ok true w) → (∀ s c, s.1 = some c → (r s).run P w = .ok c w) →
      (do
        let s ← forIn fs ((none, ()) : Option Bool × Unit) fun f _ =>
          if f.name ≠ "_" then do
            let a ← part f.type xs.toArray f.offset
            let b ← part f.type ys.toArray f.offset
            let c ← e f.type a b
            if (!c) = true then pure (ForInStep.done (some false, ())) else pure (ForInStep.yield (none, ()))
          else pure (ForInStep.yield (none, ()))
        r s : Sem Bool).run P w = .ok b w := by
  intro fs
  induction fs with
  | nil =>
    intro off ks b hf hc r hr1 hr2
    simp only [flatF, Option.some.injEq] at hf
    subst hf
    have : b = true := by
      cases hx : xs.drop off <;> cases hy : ys.drop off <;> simp_all [eqC]
    subst this
    simp [hr1]
  | cons f fs ih =>
    intro off ks b hf hc r hr1 hr2
    simp only [flatF] at hf
    split at hf
    · cases hf
    · rename_i hn
      simp only [Bool.and_eq_true, bne_iff_ne, ne_eq] at hn
      have ho := Nat.eq_of_beq_eq_true hn.2
      split at hf
      · rename_i k1 i hg hi
        split at hf
        · rename_i hsz
          have hsz := Nat.eq_of_beq_eq_true hsz
          split at hf
          · rename_i l hl
            simp only [Option.some.injEq] at hf
            subst hf
            obtain ⟨b1, b2, h1, h2, h3⟩ := eqC_split _ _ _ _ _ hc
            simp only [List.drop_drop] at h2
            obtain ⟨d, hd⟩ := hu _ _ hg
            obtain ⟨x, y, hx, hy, hxy⟩ := he f.type k1 d i off b1 hg hd hi hsz h1
            subst ho
            simp only [List.forIn_cons, Sem.run_bind, hn.1, ne_eq, not_false_eq_true, if_true, hx, hy, hxy, Result.andThen_ok]
            cases b1 with
            | false =>
              simp only [Bool.not_false, if_true, Sem.run_pure, Result.andThen_ok]
              subst h3
              exact hr2 _ _ rfl
            | true =>
              simp only [Bool.not_true, Bool.false_eq_true, if_false, Sem.run_bind, Sem.run_pure, Result.andThen_ok]
              subst h3
              have := ih _ l _ hl h2 r hr1 hr2
              simpa only [Sem.run_bind, Bool.true_and] using this
          · cases hf
        · cases hf
      · cases hf

theorem eqA_run (g : TypeId → Option (List Leaf)) (e : TypeId → Value → Value → Sem Bool) (xs ys : List Value) (t : TypeId) (ks : List Leaf) (n : Nat) (hn : n = ks.length)
    (he : ∀ off b, eqC ks ((xs.drop off).take ks.length) ((ys.drop off).take ks.length) = some b → ∃ x y, (part t xs.toArray off).run P w = .ok x w ∧ (part t ys.toArray off).run P w = .ok y w ∧ (e t x y).run P w = .ok b w) :
    ∀ (m i : Nat) (b : Bool), eqC (List.replicate m ks).flatten (xs.drop (i * n)) (ys.drop (i * n)) = some b → ∀ r : Option Bool × Unit → Sem Bool, (∀ s, s.1 = none → (r s).run P w = .ok true w) → (∀ s c, s.1 = some c → (r s).run P w = .ok c w) →
      (do
        let s ← forIn (List.range' i m) ((none, ()) : Option Bool × Unit) fun i _ => do
            let a ← part t xs.toArray (i * n)
            let b ← part t ys.toArray (i * n)
            let c ← e t a b
            if (!c) = true then pure (ForInStep.done (some false, ())) else pure (ForInStep.yield (none, ()))
        r s : Sem Bool).run P w = .ok b w := by
  intro m
  induction m with
  | zero =>
    intro i b hc r hr1 hr2
    rw [List.replicate_zero, List.flatten_nil] at hc
    have : b = true := by
      generalize xs.drop (i * n) = u at hc
      generalize ys.drop (i * n) = v at hc
      cases u <;> cases v <;> simp [eqC] at hc
      exact hc
    subst this
    simp [hr1]
  | succ m ih =>
    intro i b hc r hr1 hr2
    rw [List.replicate_succ, List.flatten_cons] at hc
    obtain ⟨b1, b2, h1, h2, h3⟩ := eqC_split _ _ _ _ _ hc
    simp only [List.drop_drop] at h2
    obtain ⟨x, y, hx, hy, hxy⟩ := he (i * n) b1 h1
    simp only [List.range'_succ, List.forIn_cons, Sem.run_bind, hx, hy, hxy, Result.andThen_ok]
    cases b1 with
    | false =>
      simp only [Bool.not_false, if_true, Sem.run_pure, Result.andThen_ok]
      subst h3
      exact hr2 _ _ rfl
    | true =>
      simp only [Bool.not_true, Bool.false_eq_true, if_false, Sem.run_bind, Sem.run_pure, Result.andThen_ok]
      subst h3
      have e1 : i * n + ks.length = (i + 1) * n := by rw [Nat.succ_mul, hn]
      rw [e1] at h2
      have := ih (i + 1) _ h2 r hr1 hr2
      simpa only [Sem.run_bind, Bool.true_and] using this
theorem equal_run : ∀ (m : Nat) (d : Nat) (t : TypeId) (ks : List Leaf) (xs ys : List Value) (b : Bool) (u : TypeDesc), flat P m t = some ks → P.underlying t = some u → eqC ks xs ys = some b →
    ∀ x y, (aggB u = true → x = .agg xs.toArray ∧ y = .agg ys.toArray) → (aggB u = false → xs = [x] ∧ ys = [y]) → (Op.equalIn (m + d) t x y).run P w = .ok b w := by
  intro m
  induction m with
  | zero => intro d t ks xs ys b u h; simp [flat] at h
  | succ m ih =>
    intro d t ks xs ys b u hf hu hc x y hag hna
    have he : ∀ (xs ys : List Value) t' k1 d' i off b1, flat P m t' = some k1 → P.underlying t' = some d' → P.info? t' = some i → i.size = k1.length → eqC k1 ((xs.drop off).take k1.length) ((ys.drop off).take k1.length) = some b1 →
        ∃ x y, (part t' xs.toArray off).run P w = .ok x w ∧ (part t' ys.toArray off).run P w = .ok y w ∧ (Op.equalIn (m + d) t' x y).run P w = .ok b1 w := by
      intro xs ys t' k1 d' i off b1 hg hd hi hsz h1
      obtain ⟨l1, l2⟩ := eqC_len _ _ _ _ h1
      simp only [List.length_take, List.length_drop] at l1 l2
      have hpx : ∀ zs : List Value, k1.length ≤ zs.length - off → aggB d' = true → partV (aggB d') zs.toArray off i.size = some (.agg ((zs.drop off).take k1.length).toArray) := by
        intro zs _ ha
        simp [partV, ha, hsz, List.extract_toArray, List.extract_eq_take_drop]
      cases ha : aggB d' with
      | true =>
        exact ⟨_, _, partV_run hd hi (hpx xs (by omega) ha), partV_run hd hi (hpx ys (by omega) ha), ih d t' k1 _ _ b1 d' hg hd h1 _ _ (fun _ => ⟨rfl, rfl⟩) (fun h => by rw [ha] at h; cases h)⟩
      | false =>
        have hk1 : k1.length = 1 := by
          cases m with
          | zero => simp [flat] at hg
          | succ m =>
            simp only [flat, hd] at hg
            split at hg
            · rename_i he; simp only [Option.some.injEq] at he; subst he; simp [aggB] at ha
            · rename_i he; simp only [Option.some.injEq] at he; subst he; simp [aggB] at ha
            · split at hg
              · simp only [Option.some.injEq] at hg; rw [← hg]; rfl
              · cases hg
            · cases hg
        have hx : off < xs.length := by omega
        have hy : off < ys.length := by omega
        refine ⟨xs[off], ys[off], partV_run hd hi (by rw [ha]; simp [partV, hx]), partV_run hd hi (by rw [ha]; simp [partV, hy]), ih d t' k1 _ _ b1 d' hg hd h1 _ _ (fun h => by rw [ha] at h; cases h) (fun _ => ⟨?_, ?_⟩)⟩
        · rw [hk1, List.drop_eq_getElem_cons hx]; rfl
        · rw [hk1, List.drop_eq_getElem_cons hy]; rfl

    simp only [flat, hu] at hf
    split at hf
    · rename_i fs heq
      simp only [Option.some.injEq] at heq
      subst heq
      obtain ⟨rfl, rfl⟩ := hag rfl
      split at hf
      · cases hf
      · rename_i hst
        rw [show m + 1 + d = (m + d) + 1 by omega, Op.equalIn]
        simp only [Sem.run_bind, run_underlying hu, Result.andThen_ok]
        rw [← Array.forIn_toList]
        have key := eqF_run (P := P) (w := w) (flat P m) (Op.equalIn (m + d)) xs ys
        have hpr : (program : Sem Program).run P w = .ok P w := rfl
        simp only [hpr, Result.andThen_ok, hst, Bool.false_eq_true, if_false]
        refine key ?_ ?_ fs.toList 0 ks b hf (by simpa using hc) _ ?_ ?_
        · exact fun t' k1 d' i off b1 hg hd hi hsz h1 => he xs ys t' k1 d' i off b1 hg hd hi hsz h1
        · intro t' k1 hg
          cases m with
          | zero => simp [flat] at hg
          | succ m =>
            simp only [flat] at hg
            cases hq : P.underlying t' with
            | none => rw [hq] at hg; simp at hg
            | some d => exact ⟨d, rfl⟩
        · rintro ⟨s, _⟩ rfl; rfl
        · rintro ⟨s, _⟩ c rfl; rfl
    · rename_i n e heq
      simp only [Option.some.injEq] at heq
      subst heq
      obtain ⟨rfl, rfl⟩ := hag rfl
      split at hf
      · rename_i k1 i hg hi
        split at hf
        · rename_i hsz
          have hsz := Nat.eq_of_beq_eq_true hsz
          simp only [Option.some.injEq] at hf
          subst hf
          have hd : ∃ d', P.underlying e = some d' := by
            cases m with
            | zero => simp [flat] at hg
            | succ m =>
              simp only [flat] at hg
              cases hq : P.underlying e with
              | none => rw [hq] at hg; simp at hg
              | some d => exact ⟨d, rfl⟩
          obtain ⟨d', hd⟩ := hd
          rw [show m + 1 + d = (m + d) + 1 by omega, Op.equalIn]
          simp only [Sem.run_bind, run_underlying hu, Result.andThen_ok, run_sizeOf' hi]
          simp only [Std.Legacy.Range.forIn_eq_forIn_range', Std.Legacy.Range.size, Nat.sub_zero, Nat.add_one_sub_one, Nat.div_one]
          have key := eqA_run (P := P) (w := w) (flat P m) (Op.equalIn (m + d)) xs ys e k1 i.size hsz (fun off b1 h1 => he xs ys e k1 d' i off b1 hg hd hi hsz h1)
          have k2 := fun r h1 h2 => key n 0 b (by simpa using hc) r h1 h2
          simp only [Sem.run_bind] at k2
          refine k2 _ ?_ ?_
          · rintro ⟨s, _⟩ rfl; rfl
          · rintro ⟨s, _⟩ c rfl; rfl
        · cases hf
      · cases hf
    · rename_i u' heq hne
      simp only [Option.some.injEq] at hne
      subst hne
      rw [show m + 1 + d = (m + d) + 1 by omega, Op.equalIn]
      simp only [Sem.run_bind, run_underlying hu, Result.andThen_ok]
      cases u <;> simp only [leafOf] at hf <;> try (cases hf; done)
      all_goals
        simp only [Option.some.injEq] at hf
        subst hf
        obtain ⟨rfl, rfl⟩ := hna rfl
        simp only [eqC] at hc
        split at hc
        · rename_i b1 b2 h1 h2
          simp only [Option.some.injEq] at h2 hc
          subst h2
          rw [Bool.and_true] at hc
          subst hc
          cases x <;> simp only [eq1] at h1 <;> try (cases h1; done)
          all_goals
            cases y <;> simp only [eq1] at h1 <;> try (cases h1; done)
          all_goals
            first
              | (simp only [Option.some.injEq] at h1; subst h1; rfl)
              | (split at h1
                 · rename_i hk
                   simp only [Option.some.injEq] at h1
                   subst h1
                   simp [hk]
                 · cases h1)
        · cases hc
    · cases hf

/-- a struct's '==' -/
class EqS (P : Program) (t : TypeId) (ks : outParam (List Leaf)) : Prop where
  ok : ∃ u, P.underlying t = some u ∧ aggB u = true ∧ flat P 8 t = some ks ∧ P.eqGuardType P.depth t = false
theorem EqS.mk' {t : TypeId} {ks : List Leaf} (h1 : (P.underlying t).map aggB = some true) (h2 : flat P 8 t = some ks) (h3 : P.eqGuardType P.depth t = false) : EqS P t ks := by
  obtain ⟨u, hu, ha⟩ := Option.map_eq_some_iff.1 h1
  exact ⟨u, hu, ha, h2, h3⟩
theorem aggEq_run {t : TypeId} {ks : List Leaf} [he : EqS P t ks] {xs ys : List Value} {b : Bool} (hb : eqC ks xs ys = some b) : (aggEq .eql t (.agg xs.toArray) (.agg ys.toArray)).run P w = .ok (.bool b) w ∧ (aggEq .neq t (.agg xs.toArray) (.agg ys.toArray)).run P w = .ok (.bool !b) w := by
  obtain ⟨u, h1, h0, h2, h3⟩ := he.ok
  have := equal_run (P := P) (w := w) 8 9992 t ks xs ys b _ h2 h1 hb (.agg xs.toArray) (.agg ys.toArray) (fun _ => ⟨rfl, rfl⟩) (fun h => by rw [h0] at h; cases h)
  have hm : Op.equal t (.agg xs.toArray) (.agg ys.toArray) = Op.equalIn (8 + 9992) t (.agg xs.toArray) (.agg ys.toArray) := rfl
  have hpr : (program : Sem Program).run P w = .ok P w := rfl
  have hg : ∀ op, op = .eql ∨ op = .neq → (eqGuard op t (.tmp 0) (.tmp 0) (.agg xs.toArray) (.agg ys.toArray)).run P w = .ok () w := by
    rintro op (rfl | rfl) <;> simp [eqGuard, hpr, h3]
  constructor
  · simp only [aggEq, Sem.run_bind, hg _ (.inl rfl), Result.andThen_ok, binOp, hm, this, Sem.run_pure]
  · simp only [aggEq, Sem.run_bind, hg _ (.inr rfl), Result.andThen_ok, binOp, hm, this, Sem.run_pure]
theorem eqs {t : TypeId} {ks : List Leaf} [EqS P t ks] {xs ys : List Value} {k : Value → World → Prop} (hk : ∃ b, eqC ks xs ys = some b ∧ k (.bool b) w) : rdK P (aggEq .eql t (.agg xs.toArray) (.agg ys.toArray)) k w := by
  obtain ⟨b, hb, hk⟩ := hk
  exact ⟨.bool b, (aggEq_run hb).1, hk⟩
theorem nes {t : TypeId} {ks : List Leaf} [EqS P t ks] {xs ys : List Value} {k : Value → World → Prop} (hk : ∃ b, eqC ks xs ys = some b ∧ k (.bool !b) w) : rdK P (aggEq .neq t (.agg xs.toArray) (.agg ys.toArray)) k w := by
  obtain ⟨b, hb, hk⟩ := hk
  exact ⟨.bool !b, (aggEq_run hb).2, hk⟩
end
end Go.Eng
namespace Go.Eng
set_option linter.unusedVariables false
set_option linter.unusedSimpArgs false
open Go Go.RowKit
/-- what a walk's simp knows -/
theorem EN : (type_of% @fldV_f) ∧ (type_of% @fldV_t) ∧ (type_of% @okF_some) ∧ (type_of% @gdK_true) ∧ (type_of% @gdK_false) ∧ (type_of% @wantd_t) ∧ (type_of% @wantd_f) ∧ (type_of% @wantd_undef) ∧ (type_of% @ifK_true) ∧ (type_of% @ifK_false) ∧ (type_of% @pickP_true) ∧ (type_of% @pickP_false) ∧ (type_of% @Bool.not_true) ∧ (type_of% @Bool.not_false) ∧ (type_of% @decide_true) ∧ (type_of% @decide_false) ∧ (type_of% @binP_add) ∧ (type_of% @binP_sub) ∧ (type_of% @binP_mul) ∧ (type_of% @binP_eql) ∧ (type_of% @binP_neq) ∧ (type_of% @binP_lss) ∧ (type_of% @binP_leq) ∧ (type_of% @binP_gtr) ∧ (type_of% @binP_geq) ∧ (type_of% @binP_and) ∧ (type_of% @binP_or) ∧ (type_of% @binP_xor) ∧ (type_of% @binP_andNot) ∧ (type_of% @binPs_eql) ∧ (type_of% @binPs_neq) ∧ (type_of% @baB) ∧ (type_of% @intB) ∧ (type_of% @unP_neg) ∧ (type_of% @unP_not) ∧ (type_of% @cvtP_int) ∧ (type_of% @cvtP_string) ∧ (type_of% @lenP_string) ∧ (type_of% @lenP_slice) ∧ (type_of% @lenP_array) ∧ (type_of% @capP_slice) ∧ (type_of% @addrF_blk) ∧ (type_of% @nilP_ptr) ∧ (type_of% @extP_0) ∧ (type_of% @extP_1) ∧ (type_of% @extP_2) ∧ (type_of% @extP_3) ∧ (type_of% @eqP_nilptr) ∧ (type_of% @neP_nilptr) ∧ (type_of% @eqP_nilsl) ∧ (type_of% @neP_nilsl) ∧ (type_of% @eqP_bool) ∧ (type_of% @neP_bool) ∧ (type_of% @Nat.zero_add) ∧ (type_of% @Nat.add_zero) ∧ (type_of% @vcells_agg) ∧ (type_of% @vcells_int) ∧ (type_of% @vcells_bool) ∧ (type_of% @vcells_string) ∧ (type_of% @vcells_slice) ∧ (type_of% @vcells_pointer) ∧ (type_of% @vcells_map) ∧ (type_of% @nthv_zero) ∧ (type_of% @nthv_succ) ∧ (type_of% @Bool.true_and) ∧ (type_of% @Bool.false_and) ∧ (type_of% @Bool.and_true) ∧ (type_of% @Bool.and_false) ∧ (type_of% @Bool.true_or) ∧ (type_of% @Bool.false_or) ∧ (type_of% @Bool.or_true) ∧ (type_of% @Bool.or_false) ∧ (type_of% @Bool.false_eq_true) ∧ (type_of% @Int.lt_irrefl) ∧ (type_of% @and_self) ∧ (type_of% @true_and) ∧ (type_of% @not_true_eq_false) ∧ (type_of% @not_false_eq_true) := ⟨@fldV_f, @fldV_t, @okF_some, @gdK_true, @gdK_false, @wantd_t, @wantd_f, @wantd_undef, @ifK_true, @ifK_false, @pickP_true, @pickP_false, @Bool.not_true, @Bool.not_false, @decide_true, @decide_false, @binP_add, @binP_sub, @binP_mul, @binP_eql, @binP_neq, @binP_lss, @binP_leq, @binP_gtr, @binP_geq, @binP_and, @binP_or, @binP_xor, @binP_andNot, @binPs_eql, @binPs_neq, @baB, @intB, @unP_neg, @unP_not, @cvtP_int, @cvtP_string, @lenP_string, @lenP_slice, @lenP_array, @capP_slice, @addrF_blk, @nilP_ptr, @extP_0, @extP_1, @extP_2, @extP_3, @eqP_nilptr, @neP_nilptr, @eqP_nilsl, @neP_nilsl, @eqP_bool, @neP_bool, @Nat.zero_add, @Nat.add_zero, @vcells_agg, @vcells_int, @vcells_bool, @vcells_string, @vcells_slice, @vcells_pointer, @vcells_map, @nthv_zero, @nthv_succ, @Bool.true_and, @Bool.false_and, @Bool.and_true, @Bool.and_false, @Bool.true_or, @Bool.false_or, @Bool.or_true, @Bool.or_false, @Bool.false_eq_true, @Int.lt_irrefl, @and_self, @true_and, @not_true_eq_false, @not_false_eq_true⟩
theorem BLS : (type_of% @vcells_eq) ∧ (type_of% @vcells_agg) ∧ (type_of% @vcells_int) ∧ (type_of% @vcells_bool) ∧ (type_of% @vcells_string) ∧ (type_of% @vcells_slice) ∧ (type_of% @vcells_pointer) ∧ (type_of% @vcells_map) ∧ (type_of% @Nat.zero_add) := ⟨@vcells_eq, @vcells_agg, @vcells_int, @vcells_bool, @vcells_string, @vcells_slice, @vcells_pointer, @vcells_map, @Nat.zero_add⟩
section
variable {P : Program} {W0 W : World} {L L' : List Asn}
theorem w1 {g : Nat} {args : List Value} {v : Value} [hp : Pure0 P g args v] {k : Value → World → Prop} (hk : ∀ W', St W0 L W' → k v W') (h : St W0 L W := by first | assumption | exact St.tick (by assumption) | exact St.tick (St.tick (by assumption))) : callK P g args k W := cp h hk
theorem w2 {g b : Nat} {T : TypeId} {cs cs' : List Value} {args : List Value} {v : Value} {Lf : List Value → List Asn} {k : Value → World → Prop} [hu : Cu b L cs T Lf] [hm : Meth P g b T cs args v cs']
    (hk : ∀ W', St W0 (Lf cs') W' → k v W') (h : St W0 L W := by first | assumption | exact St.tick (by assumption) | exact St.tick (St.tick (by assumption))) : callK P g (.pointer (some ⟨b, 0, none⟩) :: args) k W := cm h hk
theorem w3 {t : TypeId} {cs : List Value} {k : Value → World → Prop} (hk : ∀ b W', St W0 (cells b cs t :: L) W' → k (.pointer (some ⟨b, 0, none⟩)) W') (h : St W0 L W := by first | assumption | exact St.tick (by assumption) | exact St.tick (St.tick (by assumption))) : efK P (Instr.box t (.agg cs.toArray)) k W := bxa h hk
theorem w4 {t : TypeId} {ik : IntKind} {n : Int} {k : Value → World → Prop} (hk : ∀ b W', St W0 (cells b [.int ik n] t :: L) W' → k (.pointer (some ⟨b, 0, none⟩)) W') (h : St W0 L W := by first | assumption | exact St.tick (by assumption) | exact St.tick (St.tick (by assumption))) : efK P (Instr.box t (.int ik n)) k W := bxi h hk
theorem w5 {t : TypeId} {agg : Bool} {sz : Nat} [TyI P t agg sz] {b off : Nat} {cs : List Value} {T : TypeId} {L' : List Asn} [Ck b L cs T L'] {k : Value → World → Prop}
    (hsz : agg = true → off + sz ≤ cs.length) (hk : ∃ v, getL agg cs off sz = some v ∧ k v W) (h : St W0 L W := by first | assumption | exact St.tick (by assumption) | exact St.tick (St.tick (by assumption))) : rdK P (Instr.loadAt t (.pointer (some ⟨b, off, none⟩))) k W := ldx h hsz hk
theorem w6 {t : TypeId} {agg : Bool} {sz : Nat} [ht : TyI P t agg sz] {b o : Nat} {cs : List Value} {k : Value → World → Prop} (hsz : agg = true → 0 + sz ≤ cs.length) (hk : ∃ v, getL agg cs 0 sz = some v ∧ k v W)
    (h : St W0 L W := by first | assumption | exact St.tick (by assumption) | exact St.tick (St.tick (by assumption))) (hr : ro W0 b o cs := by assumption) : rdK P (Instr.loadAt t (.pointer (some ⟨b, o, none⟩))) k W := ldr0 h hr hsz hk
theorem w7 {t : TypeId} {agg : Bool} {sz : Nat} [ht : TyI P t agg sz] {b o j : Nat} {cs : List Value} {k : Value → World → Prop} (hsz : agg = true → j + sz ≤ cs.length) (hk : ∃ v, getL agg cs j sz = some v ∧ k v W)
    (h : St W0 L W := by first | assumption | exact St.tick (by assumption) | exact St.tick (St.tick (by assumption))) (hr : ro W0 b o cs := by assumption) : rdK P (Instr.loadAt t (.pointer (some ⟨b, o + j, none⟩))) k W := ldr h hr hsz hk
theorem w8 {t : TypeId} {agg : Bool} {sz : Nat} [TyI P t agg sz] {b off : Nat} {cs : List Value} {T : TypeId} {L' : List Asn} [Ck b L cs T L'] {i : Nat} {bb : Bool} {v : Value} {l : List HoldV} {R : World → Prop}
    (hv : getL agg cs off sz = some v) (hsz : agg = true → off + sz ≤ cs.length) (hk : stb P l R W) (h : St W0 L W := by first | assumption | exact St.tick (by assumption) | exact St.tick (St.tick (by assumption))) : stb P ((i, bb, Instr.loadAt t (.pointer (some ⟨b, off, none⟩)), v) :: l) R W := stb_ld h hv hsz hk
theorem w9 {t : TypeId} {agg : Bool} {sz : Nat} [TyI P t agg sz] {b o : Nat} {cs : List Value} {i : Nat} {bb : Bool} {v : Value} {l : List HoldV} {R : World → Prop}
    (hv : getL agg cs 0 sz = some v) (hsz : agg = true → 0 + sz ≤ cs.length) (hk : stb P l R W) (h : St W0 L W := by first | assumption | exact St.tick (by assumption) | exact St.tick (St.tick (by assumption))) (hr : ro W0 b o cs := by assumption) : stb P ((i, bb, Instr.loadAt t (.pointer (some ⟨b, o, none⟩)), v) :: l) R W := stb_ldr0 h hr hv hsz hk
theorem w10 {t : TypeId} {agg : Bool} {sz : Nat} [TyI P t agg sz] {b o j : Nat} {cs : List Value} {i : Nat} {bb : Bool} {v : Value} {l : List HoldV} {R : World → Prop}
    (hv : getL agg cs j sz = some v) (hsz : agg = true → j + sz ≤ cs.length) (hk : stb P l R W) (h : St W0 L W := by first | assumption | exact St.tick (by assumption) | exact St.tick (St.tick (by assumption))) (hr : ro W0 b o cs := by assumption) : stb P ((i, bb, Instr.loadAt t (.pointer (some ⟨b, o + j, none⟩)), v) :: l) R W := stb_ldr h hr hv hsz hk
theorem w11 {t : TypeId} {z : Value} [ht : TyZ P t z] {k : Value → World → Prop} (hk : ∀ b W', St W0 (cells b (vcells z) t :: L) W' → k (.pointer (some ⟨b, 0, none⟩)) W') (h : St W0 L W := by first | assumption | exact St.tick (by assumption) | exact St.tick (St.tick (by assumption))) : efK P (Instr.alloc t true (.tuple #[])) k W := al h hk
theorem w12 {t : TypeId} {agg : Bool} {sz : Nat} [ht : TyI P t agg sz] {b off : Nat} {cs : List Value} {T : TypeId} {Lf : List Value → List Asn} [hu : Cu b L cs T Lf] {v : Value} {k : Unit → World → Prop}
    (hsz : (vcells v).length = sz) (ho : off + sz ≤ cs.length) (h1 : (vcells v).all oneC = true) (hk : ∀ W', St W0 (Lf (stL cs off (vcells v))) W' → k () W') (h : St W0 L W := by first | assumption | exact St.tick (by assumption) | exact St.tick (St.tick (by assumption))) : efK P (Instr.storeAt t (.pointer (some ⟨b, off, none⟩)) v) k W := sto h hsz ho h1 hk
end
end Go.Eng
/- Printed by an own tool (wip/tools/typ.py). -/
namespace Go.Proofs.Ythladblmjoaeoaa
set_option linter.unusedVariables false
set_option linter.unusedSimpArgs false
open Go.Eng
instance : TyI PR T_t1 false 1 := TyI.mk' (by kernel_rfl) (by kernel_rfl)
instance : TyZ PR T_t1 (.nilFunc) := TyZ.mk' (by kernel_rfl)
instance : TyI PR T_int64 false 1 := TyI.mk' (by kernel_rfl) (by kernel_rfl)
instance : TyZ PR T_int64 (.int .i64 0) := TyZ.mk' (by kernel_rfl)
instance : TyI PR T_int false 1 := TyI.mk' (by kernel_rfl) (by kernel_rfl)
instance : TyZ PR T_int (.int .i64 0) := TyZ.mk' (by kernel_rfl)
instance : TyI PR T_bool false 1 := TyI.mk' (by kernel_rfl) (by kernel_rfl)
instance : TyZ PR T_bool (.bool false) := TyZ.mk' (by kernel_rfl)
instance : TyI PR T_uint8 false 1 := TyI.mk' (by kernel_rfl) (by kernel_rfl)
instance : TyZ PR T_uint8 (.int .u8 0) := TyZ.mk' (by kernel_rfl)
instance : TyI PR T_abi_BoundsErrorCode false 1 := TyI.mk' (by kernel_rfl) (by kernel_rfl)
instance : TyZ PR T_abi_BoundsErrorCode (.int .u8 0) := TyZ.mk' (by kernel_rfl)
instance : TyI PR T_t7 true 4 := TyI.mk' (by kernel_rfl) (by kernel_rfl)
instance : TyZ PR T_t7 (.agg #[.int .i64 0, .int .i64 0, .bool false, .int .u8 0]) := TyZ.mk' (by kernel_rfl)
instance : EqS PR T_t7 [.i, .i, .b, .i] := EqS.mk' (by kernel_rfl) (by kernel_rfl) (by kernel_rfl)
instance : TyI PR T_runtime_boundsError true 4 := TyI.mk' (by kernel_rfl) (by kernel_rfl)
instance : TyZ PR T_runtime_boundsError (.agg #[.int .i64 0, .int .i64 0, .bool false, .int .u8 0]) := TyZ.mk' (by kernel_rfl)
instance : TyI PR T_string false 1 := TyI.mk' (by kernel_rfl) (by kernel_rfl)
instance : TyZ PR T_string (.string ⟨#[]⟩) := TyZ.mk' (by kernel_rfl)
instance : StrT PR T_string := ⟨by kernel_rfl⟩
instance : TyI PR T_runtime_errorString false 1 := TyI.mk' (by kernel_rfl) (by kernel_rfl)
instance : TyZ PR T_runtime_errorString (.string ⟨#[]⟩) := TyZ.mk' (by kernel_rfl)
instance : StrT PR T_runtime_errorString := ⟨by kernel_rfl⟩
instance : TyI PR T_runtime_plainError false 1 := TyI.mk' (by kernel_rfl) (by kernel_rfl)
instance : TyZ PR T_runtime_plainError (.string ⟨#[]⟩) := TyZ.mk' (by kernel_rfl)
instance : StrT PR T_runtime_plainError := ⟨by kernel_rfl⟩
instance : TyI PR T_uintptr false 1 := TyI.mk' (by kernel_rfl) (by kernel_rfl)
instance : TyZ PR T_uintptr (.int .u64 0) := TyZ.mk' (by kernel_rfl)
instance : TyI PR T_t13 true 2 := TyI.mk' (by kernel_rfl) (by kernel_rfl)
instance : TyZ PR T_t13 (.agg #[.string ⟨#[]⟩, .int .u64 0]) := TyZ.mk' (by kernel_rfl)
instance : TyI PR T_runtime_errorAddressString true 2 := TyI.mk' (by kernel_rfl) (by kernel_rfl)
instance : TyZ PR T_runtime_errorAddressString (.agg #[.string ⟨#[]⟩, .int .u64 0]) := TyZ.mk' (by kernel_rfl)
instance : TyI PR T_p_runtime_TypeAssertionError false 1 := TyI.mk' (by kernel_rfl) (by kernel_rfl)
instance : TyZ PR T_p_runtime_TypeAssertionError (.pointer none) := TyZ.mk' (by kernel_rfl)
instance : TyI PR T_p_runtime_PanicNilError false 1 := TyI.mk' (by kernel_rfl) (by kernel_rfl)
instance : TyZ PR T_p_runtime_PanicNilError (.pointer none) := TyZ.mk' (by kernel_rfl)
instance : TyI PR T_p_abi_Type false 1 := TyI.mk' (by kernel_rfl) (by kernel_rfl)
instance : TyZ PR T_p_abi_Type (.pointer none) := TyZ.mk' (by kernel_rfl)
instance : TyI PR T_t18 true 1 := TyI.mk' (by kernel_rfl) (by kernel_rfl)
instance : TyZ PR T_t18 (.agg #[.pointer none]) := TyZ.mk' (by kernel_rfl)
instance : TyI PR T_maps_unhashableTypeError true 1 := TyI.mk' (by kernel_rfl) (by kernel_rfl)
instance : TyZ PR T_maps_unhashableTypeError (.agg #[.pointer none]) := TyZ.mk' (by kernel_rfl)
instance : TyI PR T_t20 false 1 := TyI.mk' (by kernel_rfl) (by kernel_rfl)
instance : TyZ PR T_t20 (.nilIface) := TyZ.mk' (by kernel_rfl)
instance : TyI PR T_int32 false 1 := TyI.mk' (by kernel_rfl) (by kernel_rfl)
instance : TyZ PR T_int32 (.int .i32 0) := TyZ.mk' (by kernel_rfl)
instance : TyI PR T_s_rostrumlaw5_Act false 1 := TyI.mk' (by kernel_rfl) (by kernel_rfl)
instance : TyZ PR T_s_rostrumlaw5_Act (.slice none 0 0) := TyZ.mk' (by kernel_rfl)
instance : TyS PR T_s_rostrumlaw5_Act T_rostrumlaw5_Act 6 64 (.agg #[.int .i64 0, .int .i64 0, .int .i64 0, .int .i64 0, .int .u8 0, .slice none 0 0]) := TyS.mk' (by kernel_rfl) (by kernel_rfl) (by kernel_rfl)
instance : TyI PR T_t23 false 1 := TyI.mk' (by kernel_rfl) (by kernel_rfl)
instance : TyZ PR T_t23 (.nilFunc) := TyZ.mk' (by kernel_rfl)
instance : TyI PR T_p_disk_Disk false 1 := TyI.mk' (by kernel_rfl) (by kernel_rfl)
instance : TyZ PR T_p_disk_Disk (.pointer none) := TyZ.mk' (by kernel_rfl)
instance : TyI PR T_api_Errno false 1 := TyI.mk' (by kernel_rfl) (by kernel_rfl)
instance : TyZ PR T_api_Errno (.int .i64 0) := TyZ.mk' (by kernel_rfl)
instance : TyI PR T_t27 false 1 := TyI.mk' (by kernel_rfl) (by kernel_rfl)
instance : TyZ PR T_t27 (.nilFunc) := TyZ.mk' (by kernel_rfl)
instance : TyI PR T_s_uint8 false 1 := TyI.mk' (by kernel_rfl) (by kernel_rfl)
instance : TyZ PR T_s_uint8 (.slice none 0 0) := TyZ.mk' (by kernel_rfl)
instance : BytesT PR T_s_uint8 T_uint8 := ⟨by kernel_rfl, by kernel_rfl⟩
instance : TyS PR T_s_uint8 T_uint8 1 1 (.int .u8 0) := TyS.mk' (by kernel_rfl) (by kernel_rfl) (by kernel_rfl)
instance : TyI PR T_t29 true 6 := TyI.mk' (by kernel_rfl) (by kernel_rfl)
instance : TyZ PR T_t29 (.agg #[.int .i64 0, .int .i64 0, .int .i64 0, .int .i64 0, .int .u8 0, .slice none 0 0]) := TyZ.mk' (by kernel_rfl)
instance : TyI PR T_rostrumlaw5_Act true 6 := TyI.mk' (by kernel_rfl) (by kernel_rfl)
instance : TyZ PR T_rostrumlaw5_Act (.agg #[.int .i64 0, .int .i64 0, .int .i64 0, .int .i64 0, .int .u8 0, .slice none 0 0]) := TyZ.mk' (by kernel_rfl)
instance : TyI PR T_t31 false 1 := TyI.mk' (by kernel_rfl) (by kernel_rfl)
instance : TyZ PR T_t31 (.nilFunc) := TyZ.mk' (by kernel_rfl)
instance : TyI PR T_t32 false 1 := TyI.mk' (by kernel_rfl) (by kernel_rfl)
instance : TyZ PR T_t32 (.nilFunc) := TyZ.mk' (by kernel_rfl)
instance : TyI PR T_a4_string true 4 := TyI.mk' (by kernel_rfl) (by kernel_rfl)
instance : TyZ PR T_a4_string (.agg #[.string ⟨#[]⟩, .string ⟨#[]⟩, .string ⟨#[]⟩, .string ⟨#[]⟩]) := TyZ.mk' (by kernel_rfl)
instance : EqS PR T_a4_string [.s, .s, .s, .s] := EqS.mk' (by kernel_rfl) (by kernel_rfl) (by kernel_rfl)
instance : TyI PR T_t35 false 1 := TyI.mk' (by kernel_rfl) (by kernel_rfl)
instance : TyZ PR T_t35 (.nilFunc) := TyZ.mk' (by kernel_rfl)
instance : TyI PR T_t36 false 1 := TyI.mk' (by kernel_rfl) (by kernel_rfl)
instance : TyZ PR T_t36 (.nilFunc) := TyZ.mk' (by kernel_rfl)
instance : TyI PR T_t37 false 1 := TyI.mk' (by kernel_rfl) (by kernel_rfl)
instance : TyZ PR T_t37 (.nilFunc) := TyZ.mk' (by kernel_rfl)
instance : TyI PR T_s_s_uint8 false 1 := TyI.mk' (by kernel_rfl) (by kernel_rfl)
instance : TyZ PR T_s_s_uint8 (.slice none 0 0) := TyZ.mk' (by kernel_rfl)
instance : TyS PR T_s_s_uint8 T_s_uint8 1 24 (.slice none 0 0) := TyS.mk' (by kernel_rfl) (by kernel_rfl) (by kernel_rfl)
instance : TyI PR T_t39 false 1 := TyI.mk' (by kernel_rfl) (by kernel_rfl)
instance : TyZ PR T_t39 (.nilFunc) := TyZ.mk' (by kernel_rfl)
instance : TyI PR T_t40 false 1 := TyI.mk' (by kernel_rfl) (by kernel_rfl)
instance : TyZ PR T_t40 (.nilFunc) := TyZ.mk' (by kernel_rfl)
instance : TyI PR T_t41 false 1 := TyI.mk' (by kernel_rfl) (by kernel_rfl)
instance : TyZ PR T_t41 (.nilFunc) := TyZ.mk' (by kernel_rfl)
instance : TyI PR T_s_int false 1 := TyI.mk' (by kernel_rfl) (by kernel_rfl)
instance : TyZ PR T_s_int (.slice none 0 0) := TyZ.mk' (by kernel_rfl)
instance : TyS PR T_s_int T_int 1 8 (.int .i64 0) := TyS.mk' (by kernel_rfl) (by kernel_rfl) (by kernel_rfl)
instance : TyI PR T_t43 false 1 := TyI.mk' (by kernel_rfl) (by kernel_rfl)
instance : TyZ PR T_t43 (.nilFunc) := TyZ.mk' (by kernel_rfl)
instance : TyI PR T_t44 false 1 := TyI.mk' (by kernel_rfl) (by kernel_rfl)
instance : TyZ PR T_t44 (.nilFunc) := TyZ.mk' (by kernel_rfl)
instance : TyI PR T_p_rostrumref5_Disk false 1 := TyI.mk' (by kernel_rfl) (by kernel_rfl)
instance : TyZ PR T_p_rostrumref5_Disk (.pointer none) := TyZ.mk' (by kernel_rfl)
instance : TyI PR T_a1000_bool true 1000 := TyI.mk' (by kernel_rfl) (by kernel_rfl)
instance : TyZ PR T_a1000_bool (.agg #[.bool false, .bool false, .bool false, .bool false, .bool false, .bool false, .bool false, .bool false, .bool false, .bool false, .bool false, .bool false, .bool false, .bool false, .bool false, .bool false, .bool false, .bool false, .bool false, .bool false, .bool false, .bool false, .bool false, .bool false, .bool false, .bool false, .bool false, .bool false, .bool false, .bool false, .bool false, .bool false, .bool false, .bool false, .bool false, .bool false, .bool false, .bool false, .bool false, .bool false, .bool false, .bool false, .bool false, .bool false, .bool false, .bool false, .bool false, .bool false, .bool false, .bool false, .bool false, .bool false, .bool false, .bool false, .bool false, .bool false, .bool false, .bool false, .bool false, .bool false, .bool false, .bool false, .bool false, .bool false, .bool false, .bool false, .bool false, .bool false, .bool false, .bool false, .bool false, .bool false, .bool false, .bool false, .bool false, .bool false, .bool false, .bool false, .bool false, .bool false, .bool false, .bool false, .bool false, .bool false, .bool false, .bool false, .bool false, .bool false, .bool false, .bool false, .bool false, .bool false, .bool false, .bool false, .bool false, .bool false, .bool false, .bool false, .bool false, .bool false, .bool false, .bool false, .bool false, .bool false, .bool false, .bool false, .bool false, .bool false, .bool false, .bool false, .bool false, .bool false, .bool false, .bool false, .bool false, .bool false, .bool false, .bool false, .bool false, .bool false, .bool false, .bool false, .bool false, .bool false, .bool false, .bool false, .bool false, .bool false, .bool false, .bool false, .bool false, .bool false, .bool false, .bool false, .bool false, .bool false, .bool false, .bool false, .bool false, .bool false, .bool false, .bool false, .bool false, .bool false, .bool false, .bool false, .bool false, .bool false, .bool false, .bool false, .bool false, .bool false, .bool false, .bool false, .bool false, .bool false, .bool false, .bool false, .bool false, .bool false, .bool false, .bool false, .bool false, .bool false, .bool false, .bool false, .bool false, .bool false, .bool false, .bool false, .bool false, .bool false, .bool false, .bool false, .bool false, .bool false, .bool false, .bool false, .bool false, .bool false, .bool false, .bool false, .bool false, .bool false, .bool false, .bool false, .bool false, .bool false, .bool false, .bool false, .bool false, .bool false, .bool false, .bool false, .bool false, .bool false, .bool false, .bool false, .bool false, .bool false, .bool false, .bool false, .bool false, .bool false, .bool false, .bool false, .bool false, .bool false, .bool false, .bool false, .bool false, .bool false, .bool false, .bool false, .bool false, .bool false, .bool false, .bool false, .bool false, .bool false, .bool false, .bool false, .bool false, .bool false, .bool false, .bool false, .bool false, .bool false, .bool false, .bool false, .bool false, .bool false, .bool false, .bool false, .bool false, .bool false, .bool false, .bool false, .bool false, .bool false, .bool false, .bool false, .bool false, .bool false, .bool false, .bool false, .bool false, .bool false, .bool false, .bool false, .bool false, .bool false, .bool false, .bool false, .bool false, .bool false, .bool false, .bool false, .bool false, .bool false, .bool false, .bool false, .bool false, .bool false, .bool false, .bool false, .bool false, .bool false, .bool false, .bool false, .bool false, .bool false, .bool false, .bool false, .bool false, .bool false, .bool false, .bool false, .bool false, .bool false, .bool false, .bool false, .bool false, .bool false, .bool false, .bool false, .bool false, .bool false, .bool false, .bool false, .bool false, .bool false, .bool false, .bool false, .bool false, .bool false, .bool false, .bool false, .bool false, .bool false, .bool false, .bool false, .bool false, .bool false, .bool false, .bool false, .bool false, .bool false, .bool false, .bool false, .bool false, .bool false, .bool false, .bool false, .bool false, .bool false, .bool false, .bool false, .bool false, .bool false, .bool false, .bool false, .bool false, .bool false, .bool false, .bool false, .bool false, .bool false, .bool false, .bool false, .bool false, .bool false, .bool false, .bool false, .bool false, .bool false, .bool false, .bool false, .bool false, .bool false, .bool false, .bool false, .bool false, .bool false, .bool false, .bool false, .bool false, .bool false, .bool false, .bool false, .bool false, .bool false, .bool false, .bool false, .bool false, .bool false, .bool false, .bool false, .bool false, .bool false, .bool false, .bool false, .bool false, .bool false, .bool false, .bool false, .bool false, .bool false, .bool false, .bool false, .bool false, .bool false, .bool false, .bool false, .bool false, .bool false, .bool false, .bool false, .bool false, .bool false, .bool false, .bool false, .bool false, .bool false, .bool false, .bool false, .bool false, .bool false, .bool false, .bool false, .bool false, .bool false, .bool false, .bool false, .bool false, .bool false, .bool false, .bool false, .bool false, .bool false, .bool false, .bool false, .bool false, .bool false, .bool false, .bool false, .bool false, .bool false, .bool false, .bool false, .bool false, .bool false, .bool false, .bool false, .bool false, .bool false, .bool false, .bool false, .bool false, .bool false, .bool false, .bool false, .bool false, .bool false, .bool false, .bool false, .bool false, .bool false, .bool false, .bool false, .bool false, .bool false, .bool false, .bool false, .bool false, .bool false, .bool false, .bool false, .bool false, .bool false, .bool false, .bool false, .bool false, .bool false, .bool false, .bool false, .bool false, .bool false, .bool false, .bool false, .bool false, .bool false, .bool false, .bool false, .bool false, .bool false, .bool false, .bool false, .bool false, .bool false, .bool false, .bool false, .bool false, .bool false, .bool false, .bool false, .bool false, .bool false, .bool false, .bool false, .bool false, .bool false, .bool false, .bool false, .bool false, .bool false, .bool false, .bool false, .bool false, .bool false, .bool false, .bool false, .bool false, .bool false, .bool false, .bool false, .bool false, .bool false, .bool false, .bool false, .bool false, .bool false, .bool false, .bool false, .bool false, .bool false, .bool false, .bool false, .bool false, .bool false, .bool false, .bool false, .bool false, .bool false, .bool false, .bool false, .bool false, .bool false, .bool false, .bool false, .bool false, .bool false, .bool false, .bool false, .bool false, .bool false, .bool false, .bool false, .bool false, .bool false, .bool false, .bool false, .bool false, .bool false, .bool false, .bool false, .bool false, .bool false, .bool false, .bool false, .bool false, .bool false, .bool false, .bool false, .bool false, .bool false, .bool false, .bool false, .bool false, .bool false, .bool false, .bool false, .bool false, .bool false, .bool false, .bool false, .bool false, .bool false, .bool false, .bool false, .bool false, .bool false, .bool false, .bool false, .bool false, .bool false, .bool false, .bool false, .bool false, .bool false, .bool false, .bool false, .bool false, .bool false, .bool false, .bool false, .bool false, .bool false, .bool false, .bool false, .bool false, .bool false, .bool false, .bool false, .bool false, .bool false, .bool false, .bool false, .bool false, .bool false, .bool false, .bool false, .bool false, .bool false, .bool false, .bool false, .bool false, .bool false, .bool false, .bool false, .bool false, .bool false, .bool false, .bool false, .bool false, .bool false, .bool false, .bool false, .bool false, .bool false, .bool false, .bool false, .bool false, .bool false, .bool false, .bool false, .bool false, .bool false, .bool false, .bool false, .bool false, .bool false, .bool false, .bool false, .bool false, .bool false, .bool false, .bool false, .bool false, .bool false, .bool false, .bool false, .bool false, .bool false, .bool false, .bool false, .bool false, .bool false, .bool false, .bool false, .bool false, .bool false, .bool false, .bool false, .bool false, .bool false, .bool false, .bool false, .bool false, .bool false, .bool false, .bool false, .bool false, .bool false, .bool false, .bool false, .bool false, .bool false, .bool false, .bool false, .bool false, .bool false, .bool false, .bool false, .bool false, .bool false, .bool false, .bool false, .bool false, .bool false, .bool false, .bool false, .bool false, .bool false, .bool false, .bool false, .bool false, .bool false, .bool false, .bool false, .bool false, .bool false, .bool false, .bool false, .bool false, .bool false, .bool false, .bool false, .bool false, .bool false, .bool false, .bool false, .bool false, .bool false, .bool false, .bool false, .bool false, .bool false, .bool false, .bool false, .bool false, .bool false, .bool false, .bool false, .bool false, .bool false, .bool false, .bool false, .bool false, .bool false, .bool false, .bool false, .bool false, .bool false, .bool false, .bool false, .bool false, .bool false, .bool false, .bool false, .bool false, .bool false, .bool false, .bool false, .bool false, .bool false, .bool false, .bool false, .bool false, .bool false, .bool false, .bool false, .bool false, .bool false, .bool false, .bool false, .bool false, .bool false, .bool false, .bool false, .bool false, .bool false, .bool false, .bool false, .bool false, .bool false, .bool false, .bool false, .bool false, .bool false, .bool false, .bool false, .bool false, .bool false, .bool false, .bool false, .bool false, .bool false, .bool false, .bool false, .bool false, .bool false, .bool false, .bool false, .bool false, .bool false, .bool false, .bool false, .bool false, .bool false, .bool false, .bool false, .bool false, .bool false, .bool false, .bool false, .bool false, .bool false, .bool false, .bool false, .bool false, .bool false, .bool false, .bool false, .bool false, .bool false, .bool false, .bool false, .bool false, .bool false, .bool false, .bool false, .bool false, .bool false, .bool false, .bool false, .bool false, .bool false, .bool false, .bool false, .bool false, .bool false, .bool false, .bool false, .bool false, .bool false, .bool false, .bool false, .bool false, .bool false, .bool false, .bool false, .bool false, .bool false, .bool false, .bool false, .bool false, .bool false, .bool false, .bool false, .bool false, .bool false, .bool false, .bool false, .bool false, .bool false, .bool false, .bool false, .bool false, .bool false, .bool false, .bool false, .bool false, .bool false, .bool false, .bool false, .bool false, .bool false, .bool false, .bool false, .bool false, .bool false, .bool false, .bool false, .bool false, .bool false, .bool false, .bool false, .bool false, .bool false, .bool false, .bool false, .bool false, .bool false, .bool false, .bool false, .bool false, .bool false, .bool false, .bool false, .bool false, .bool false, .bool false, .bool false, .bool false, .bool false, .bool false, .bool false, .bool false, .bool false, .bool false, .bool false, .bool false, .bool false, .bool false, .bool false, .bool false, .bool false, .bool false, .bool false, .bool false, .bool false, .bool false, .bool false, .bool false, .bool false, .bool false, .bool false, .bool false, .bool false, .bool false, .bool false, .bool false, .bool false, .bool false, .bool false, .bool false, .bool false, .bool false, .bool false, .bool false, .bool false, .bool false, .bool false, .bool false, .bool false, .bool false, .bool false, .bool false, .bool false, .bool false, .bool false, .bool false, .bool false, .bool false, .bool false, .bool false, .bool false, .bool false, .bool false, .bool false, .bool false, .bool false, .bool false, .bool false, .bool false, .bool false, .bool false, .bool false, .bool false, .bool false, .bool false, .bool false, .bool false, .bool false, .bool false, .bool false, .bool false, .bool false, .bool false, .bool false, .bool false, .bool false, .bool false, .bool false, .bool false, .bool false, .bool false, .bool false, .bool false, .bool false, .bool false, .bool false, .bool false, .bool false, .bool false, .bool false, .bool false, .bool false, .bool false, .bool false, .bool false, .bool false, .bool false, .bool false, .bool false, .bool false, .bool false, .bool false, .bool false, .bool false, .bool false, .bool false, .bool false, .bool false, .bool false, .bool false, .bool false, .bool false, .bool false, .bool false, .bool false, .bool false, .bool false, .bool false, .bool false, .bool false, .bool false, .bool false, .bool false, .bool false, .bool false, .bool false, .bool false, .bool false, .bool false, .bool false, .bool false, .bool false, .bool false, .bool false, .bool false, .bool false, .bool false, .bool false, .bool false, .bool false, .bool false, .bool false, .bool false]) := TyZ.mk' (by kernel_rfl)
instance : TyI PR T_s_rostrumref5_write false 1 := TyI.mk' (by kernel_rfl) (by kernel_rfl)
instance : TyZ PR T_s_rostrumref5_write (.slice none 0 0) := TyZ.mk' (by kernel_rfl)
instance : TyS PR T_s_rostrumref5_write T_rostrumref5_write 3 40 (.agg #[.int .i64 0, .slice none 0 0, .bool false]) := TyS.mk' (by kernel_rfl) (by kernel_rfl) (by kernel_rfl)
instance : TyI PR T_t48 true 1004 := TyI.mk' (by kernel_rfl) (by kernel_rfl)
instance : TyZ PR T_t48 (.agg #[.int .i64 0, .bool false, .bool false, .bool false, .bool false, .bool false, .bool false, .bool false, .bool false, .bool false, .bool false, .bool false, .bool false, .bool false, .bool false, .bool false, .bool false, .bool false, .bool false, .bool false, .bool false, .bool false, .bool false, .bool false, .bool false, .bool false, .bool false, .bool false, .bool false, .bool false, .bool false, .bool false, .bool false, .bool false, .bool false, .bool false, .bool false, .bool false, .bool false, .bool false, .bool false, .bool false, .bool false, .bool false, .bool false, .bool false, .bool false, .bool false, .bool false, .bool false, .bool false, .bool false, .bool false, .bool false, .bool false, .bool false, .bool false, .bool false, .bool false, .bool false, .bool false, .bool false, .bool false, .bool false, .bool false, .bool false, .bool false, .bool false, .bool false, .bool false, .bool false, .bool false, .bool false, .bool false, .bool false, .bool false, .bool false, .bool false, .bool false, .bool false, .bool false, .bool false, .bool false, .bool false, .bool false, .bool false, .bool false, .bool false, .bool false, .bool false, .bool false, .bool false, .bool false, .bool false, .bool false, .bool false, .bool false, .bool false, .bool false, .bool false, .bool false, .bool false, .bool false, .bool false, .bool false, .bool false, .bool false, .bool false, .bool false, .bool false, .bool false, .bool false, .bool false, .bool false, .bool false, .bool false, .bool false, .bool false, .bool false, .bool false, .bool false, .bool false, .bool false, .bool false, .bool false, .bool false, .bool false, .bool false, .bool false, .bool false, .bool false, .bool false, .bool false, .bool false, .bool false, .bool false, .bool false, .bool false, .bool false, .bool false, .bool false, .bool false, .bool false, .bool false, .bool false, .bool false, .bool false, .bool false, .bool false, .bool false, .bool false, .bool false, .bool false, .bool false, .bool false, .bool false, .bool false, .bool false, .bool false, .bool false, .bool false, .bool false, .bool false, .bool false, .bool false, .bool false, .bool false, .bool false, .bool false, .bool false, .bool false, .bool false, .bool false, .bool false, .bool false, .bool false, .bool false, .bool false, .bool false, .bool false, .bool false, .bool false, .bool false, .bool false, .bool false, .bool false, .bool false, .bool false, .bool false, .bool false, .bool false, .bool false, .bool false, .bool false, .bool false, .bool false, .bool false, .bool false, .bool false, .bool false, .bool false, .bool false, .bool false, .bool false, .bool false, .bool false, .bool false, .bool false, .bool false, .bool false, .bool false, .bool false, .bool false, .bool false, .bool false, .bool false, .bool false, .bool false, .bool false, .bool false, .bool false, .bool false, .bool false, .bool false, .bool false, .bool false, .bool false, .bool false, .bool false, .bool false, .bool false, .bool false, .bool false, .bool false, .bool false, .bool false, .bool false, .bool false, .bool false, .bool false, .bool false, .bool false, .bool false, .bool false, .bool false, .bool false, .bool false, .bool false, .bool false, .bool false, .bool false, .bool false, .bool false, .bool false, .bool false, .bool false, .bool false, .bool false, .bool false, .bool false, .bool false, .bool false, .bool false, .bool false, .bool false, .bool false, .bool false, .bool false, .bool false, .bool false, .bool false, .bool false, .bool false, .bool false, .bool false, .bool false, .bool false, .bool false, .bool false, .bool false, .bool false, .bool false, .bool false, .bool false, .bool false, .bool false, .bool false, .bool false, .bool false, .bool false, .bool false, .bool false, .bool false, .bool false, .bool false, .bool false, .bool false, .bool false, .bool false, .bool false, .bool false, .bool false, .bool false, .bool false, .bool false, .bool false, .bool false, .bool false, .bool false, .bool false, .bool false, .bool false, .bool false, .bool false, .bool false, .bool false, .bool false, .bool false, .bool false, .bool false, .bool false, .bool false, .bool false, .bool false, .bool false, .bool false, .bool false, .bool false, .bool false, .bool false, .bool false, .bool false, .bool false, .bool false, .bool false, .bool false, .bool false, .bool false, .bool false, .bool false, .bool false, .bool false, .bool false, .bool false, .bool false, .bool false, .bool false, .bool false, .bool false, .bool false, .bool false, .bool false, .bool false, .bool false, .bool false, .bool false, .bool false, .bool false, .bool false, .bool false, .bool false, .bool false, .bool false, .bool false, .bool false, .bool false, .bool false, .bool false, .bool false, .bool false, .bool false, .bool false, .bool false, .bool false, .bool false, .bool false, .bool false, .bool false, .bool false, .bool false, .bool false, .bool false, .bool false, .bool false, .bool false, .bool false, .bool false, .bool false, .bool false, .bool false, .bool false, .bool false, .bool false, .bool false, .bool false, .bool false, .bool false, .bool false, .bool false, .bool false, .bool false, .bool false, .bool false, .bool false, .bool false, .bool false, .bool false, .bool false, .bool false, .bool false, .bool false, .bool false, .bool false, .bool false, .bool false, .bool false, .bool false, .bool false, .bool false, .bool false, .bool false, .bool false, .bool false, .bool false, .bool false, .bool false, .bool false, .bool false, .bool false, .bool false, .bool false, .bool false, .bool false, .bool false, .bool false, .bool false, .bool false, .bool false, .bool false, .bool false, .bool false, .bool false, .bool false, .bool false, .bool false, .bool false, .bool false, .bool false, .bool false, .bool false, .bool false, .bool false, .bool false, .bool false, .bool false, .bool false, .bool false, .bool false, .bool false, .bool false, .bool false, .bool false, .bool false, .bool false, .bool false, .bool false, .bool false, .bool false, .bool false, .bool false, .bool false, .bool false, .bool false, .bool false, .bool false, .bool false, .bool false, .bool false, .bool false, .bool false, .bool false, .bool false, .bool false, .bool false, .bool false, .bool false, .bool false, .bool false, .bool false, .bool false, .bool false, .bool false, .bool false, .bool false, .bool false, .bool false, .bool false, .bool false, .bool false, .bool false, .bool false, .bool false, .bool false, .bool false, .bool false, .bool false, .bool false, .bool false, .bool false, .bool false, .bool false, .bool false, .bool false, .bool false, .bool false, .bool false, .bool false, .bool false, .bool false, .bool false, .bool false, .bool false, .bool false, .bool false, .bool false, .bool false, .bool false, .bool false, .bool false, .bool false, .bool false, .bool false, .bool false, .bool false, .bool false, .bool false, .bool false, .bool false, .bool false, .bool false, .bool false, .bool false, .bool false, .bool false, .bool false, .bool false, .bool false, .bool false, .bool false, .bool false, .bool false, .bool false, .bool false, .bool false, .bool false, .bool false, .bool false, .bool false, .bool false, .bool false, .bool false, .bool false, .bool false, .bool false, .bool false, .bool false, .bool false, .bool false, .bool false, .bool false, .bool false, .bool false, .bool false, .bool false, .bool false, .bool false, .bool false, .bool false, .bool false, .bool false, .bool false, .bool false, .bool false, .bool false, .bool false, .bool false, .bool false, .bool false, .bool false, .bool false, .bool false, .bool false, .bool false, .bool false, .bool false, .bool false, .bool false, .bool false, .bool false, .bool false, .bool false, .bool false, .bool false, .bool false, .bool false, .bool false, .bool false, .bool false, .bool false, .bool false, .bool false, .bool false, .bool false, .bool false, .bool false, .bool false, .bool false, .bool false, .bool false, .bool false, .bool false, .bool false, .bool false, .bool false, .bool false, .bool false, .bool false, .bool false, .bool false, .bool false, .bool false, .bool false, .bool false, .bool false, .bool false, .bool false, .bool false, .bool false, .bool false, .bool false, .bool false, .bool false, .bool false, .bool false, .bool false, .bool false, .bool false, .bool false, .bool false, .bool false, .bool false, .bool false, .bool false, .bool false, .bool false, .bool false, .bool false, .bool false, .bool false, .bool false, .bool false, .bool false, .bool false, .bool false, .bool false, .bool false, .bool false, .bool false, .bool false, .bool false, .bool false, .bool false, .bool false, .bool false, .bool false, .bool false, .bool false, .bool false, .bool false, .bool false, .bool false, .bool false, .bool false, .bool false, .bool false, .bool false, .bool false, .bool false, .bool false, .bool false, .bool false, .bool false, .bool false, .bool false, .bool false, .bool false, .bool false, .bool false, .bool false, .bool false, .bool false, .bool false, .bool false, .bool false, .bool false, .bool false, .bool false, .bool false, .bool false, .bool false, .bool false, .bool false, .bool false, .bool false, .bool false, .bool false, .bool false, .bool false, .bool false, .bool false, .bool false, .bool false, .bool false, .bool false, .bool false, .bool false, .bool false, .bool false, .bool false, .bool false, .bool false, .bool false, .bool false, .bool false, .bool false, .bool false, .bool false, .bool false, .bool false, .bool false, .bool false, .bool false, .bool false, .bool false, .bool false, .bool false, .bool false, .bool false, .bool false, .bool false, .bool false, .bool false, .bool false, .bool false, .bool false, .bool false, .bool false, .bool false, .bool false, .bool false, .bool false, .bool false, .bool false, .bool false, .bool false, .bool false, .bool false, .bool false, .bool false, .bool false, .bool false, .bool false, .bool false, .bool false, .bool false, .bool false, .bool false, .bool false, .bool false, .bool false, .bool false, .bool false, .bool false, .bool false, .bool false, .bool false, .bool false, .bool false, .bool false, .bool false, .bool false, .bool false, .bool false, .bool false, .bool false, .bool false, .bool false, .bool false, .bool false, .bool false, .bool false, .bool false, .bool false, .bool false, .bool false, .bool false, .bool false, .bool false, .bool false, .bool false, .bool false, .bool false, .bool false, .bool false, .bool false, .bool false, .bool false, .bool false, .bool false, .bool false, .bool false, .bool false, .bool false, .bool false, .bool false, .bool false, .bool false, .bool false, .bool false, .bool false, .bool false, .bool false, .bool false, .bool false, .bool false, .bool false, .bool false, .bool false, .bool false, .bool false, .bool false, .bool false, .bool false, .bool false, .bool false, .bool false, .bool false, .bool false, .bool false, .bool false, .bool false, .bool false, .bool false, .bool false, .bool false, .bool false, .bool false, .bool false, .bool false, .bool false, .bool false, .bool false, .bool false, .bool false, .bool false, .bool false, .bool false, .bool false, .bool false, .bool false, .bool false, .bool false, .bool false, .bool false, .bool false, .bool false, .bool false, .bool false, .bool false, .bool false, .bool false, .bool false, .bool false, .bool false, .bool false, .bool false, .bool false, .bool false, .bool false, .bool false, .bool false, .bool false, .bool false, .bool false, .bool false, .bool false, .bool false, .bool false, .bool false, .bool false, .bool false, .bool false, .bool false, .bool false, .bool false, .bool false, .bool false, .bool false, .bool false, .bool false, .bool false, .bool false, .bool false, .bool false, .bool false, .bool false, .bool false, .bool false, .bool false, .bool false, .bool false, .bool false, .bool false, .bool false, .bool false, .bool false, .bool false, .bool false, .bool false, .bool false, .bool false, .bool false, .bool false, .bool false, .bool false, .bool false, .bool false, .bool false, .bool false, .bool false, .bool false, .bool false, .bool false, .bool false, .bool false, .bool false, .bool false, .bool false, .bool false, .bool false, .bool false, .bool false, .bool false, .bool false, .bool false, .bool false, .bool false, .bool false, .bool false, .bool false, .bool false, .bool false, .bool false, .bool false, .bool false, .bool false, .bool false, .bool false, .bool false, .bool false, .bool false, .bool false, .bool false, .bool false, .bool false, .bool false, .bool false, .bool false, .bool false, .bool false, .bool false, .bool false, .bool false, .bool false, .bool false, .bool false, .bool false, .bool false, .bool false, .bool false, .bool false, .bool false, .bool false, .bool false, .bool false, .bool false, .bool false, .bool false, .bool false, .bool false, .bool false, .slice none 0 0, .bool false, .int .i64 0]) := TyZ.mk' (by kernel_rfl)
instance : TyI PR T_rostrumref5_Disk true 1004 := TyI.mk' (by kernel_rfl) (by kernel_rfl)
instance : TyZ PR T_rostrumref5_Disk (.agg #[.int .i64 0, .bool false, .bool false, .bool false, .bool false, .bool false, .bool false, .bool false, .bool false, .bool false, .bool false, .bool false, .bool false, .bool false, .bool false, .bool false, .bool false, .bool false, .bool false, .bool false, .bool false, .bool false, .bool false, .bool false, .bool false, .bool false, .bool false, .bool false, .bool false, .bool false, .bool false, .bool false, .bool false, .bool false, .bool false, .bool false, .bool false, .bool false, .bool false, .bool false, .bool false, .bool false, .bool false, .bool false, .bool false, .bool false, .bool false, .bool false, .bool false, .bool false, .bool false, .bool false, .bool false, .bool false, .bool false, .bool false, .bool false, .bool false, .bool false, .bool false, .bool false, .bool false, .bool false, .bool false, .bool false, .bool false, .bool false, .bool false, .bool false, .bool false, .bool false, .bool false, .bool false, .bool false, .bool false, .bool false, .bool false, .bool false, .bool false, .bool false, .bool false, .bool false, .bool false, .bool false, .bool false, .bool false, .bool false, .bool false, .bool false, .bool false, .bool false, .bool false, .bool false, .bool false, .bool false, .bool false, .bool false, .bool false, .bool false, .bool false, .bool false, .bool false, .bool false, .bool false, .bool false, .bool false, .bool false, .bool false, .bool false, .bool false, .bool false, .bool false, .bool false, .bool false, .bool false, .bool false, .bool false, .bool false, .bool false, .bool false, .bool false, .bool false, .bool false, .bool false, .bool false, .bool false, .bool false, .bool false, .bool false, .bool false, .bool false, .bool false, .bool false, .bool false, .bool false, .bool false, .bool false, .bool false, .bool false, .bool false, .bool false, .bool false, .bool false, .bool false, .bool false, .bool false, .bool false, .bool false, .bool false, .bool false, .bool false, .bool false, .bool false, .bool false, .bool false, .bool false, .bool false, .bool false, .bool false, .bool false, .bool false, .bool false, .bool false, .bool false, .bool false, .bool false, .bool false, .bool false, .bool false, .bool false, .bool false, .bool false, .bool false, .bool false, .bool false, .bool false, .bool false, .bool false, .bool false, .bool false, .bool false, .bool false, .bool false, .bool false, .bool false, .bool false, .bool false, .bool false, .bool false, .bool false, .bool false, .bool false, .bool false, .bool false, .bool false, .bool false, .bool false, .bool false, .bool false, .bool false, .bool false, .bool false, .bool false, .bool false, .bool false, .bool false, .bool false, .bool false, .bool false, .bool false, .bool false, .bool false, .bool false, .bool false, .bool false, .bool false, .bool false, .bool false, .bool false, .bool false, .bool false, .bool false, .bool false, .bool false, .bool false, .bool false, .bool false, .bool false, .bool false, .bool false, .bool false, .bool false, .bool false, .bool false, .bool false, .bool false, .bool false, .bool false, .bool false, .bool false, .bool false, .bool false, .bool false, .bool false, .bool false, .bool false, .bool false, .bool false, .bool false, .bool false, .bool false, .bool false, .bool false, .bool false, .bool false, .bool false, .bool false, .bool false, .bool false, .bool false, .bool false, .bool false, .bool false, .bool false, .bool false, .bool false, .bool false, .bool false, .bool false, .bool false, .bool false, .bool false, .bool false, .bool false, .bool false, .bool false, .bool false, .bool false, .bool false, .bool false, .bool false, .bool false, .bool false, .bool false, .bool false, .bool false, .bool false, .bool false, .bool false, .bool false, .bool false, .bool false, .bool false, .bool false, .bool false, .bool false, .bool false, .bool false, .bool false, .bool false, .bool false, .bool false, .bool false, .bool false, .bool false, .bool false, .bool false, .bool false, .bool false, .bool false, .bool false, .bool false, .bool false, .bool false, .bool false, .bool false, .bool false, .bool false, .bool false, .bool false, .bool false, .bool false, .bool false, .bool false, .bool false, .bool false, .bool false, .bool false, .bool false, .bool false, .bool false, .bool false, .bool false, .bool false, .bool false, .bool false, .bool false, .bool false, .bool false, .bool false, .bool false, .bool false, .bool false, .bool false, .bool false, .bool false, .bool false, .bool false, .bool false, .bool false, .bool false, .bool false, .bool false, .bool false, .bool false, .bool false, .bool false, .bool false, .bool false, .bool false, .bool false, .bool false, .bool false, .bool false, .bool false, .bool false, .bool false, .bool false, .bool false, .bool false, .bool false, .bool false, .bool false, .bool false, .bool false, .bool false, .bool false, .bool false, .bool false, .bool false, .bool false, .bool false, .bool false, .bool false, .bool false, .bool false, .bool false, .bool false, .bool false, .bool false, .bool false, .bool false, .bool false, .bool false, .bool false, .bool false, .bool false, .bool false, .bool false, .bool false, .bool false, .bool false, .bool false, .bool false, .bool false, .bool false, .bool false, .bool false, .bool false, .bool false, .bool false, .bool false, .bool false, .bool false, .bool false, .bool false, .bool false, .bool false, .bool false, .bool false, .bool false, .bool false, .bool false, .bool false, .bool false, .bool false, .bool false, .bool false, .bool false, .bool false, .bool false, .bool false, .bool false, .bool false, .bool false, .bool false, .bool false, .bool false, .bool false, .bool false, .bool false, .bool false, .bool false, .bool false, .bool false, .bool false, .bool false, .bool false, .bool false, .bool false, .bool false, .bool false, .bool false, .bool false, .bool false, .bool false, .bool false, .bool false, .bool false, .bool false, .bool false, .bool false, .bool false, .bool false, .bool false, .bool false, .bool false, .bool false, .bool false, .bool false, .bool false, .bool false, .bool false, .bool false, .bool false, .bool false, .bool false, .bool false, .bool false, .bool false, .bool false, .bool false, .bool false, .bool false, .bool false, .bool false, .bool false, .bool false, .bool false, .bool false, .bool false, .bool false, .bool false, .bool false, .bool false, .bool false, .bool false, .bool false, .bool false, .bool false, .bool false, .bool false, .bool false, .bool false, .bool false, .bool false, .bool false, .bool false, .bool false, .bool false, .bool false, .bool false, .bool false, .bool false, .bool false, .bool false, .bool false, .bool false, .bool false, .bool false, .bool false, .bool false, .bool false, .bool false, .bool false, .bool false, .bool false, .bool false, .bool false, .bool false, .bool false, .bool false, .bool false, .bool false, .bool false, .bool false, .bool false, .bool false, .bool false, .bool false, .bool false, .bool false, .bool false, .bool false, .bool false, .bool false, .bool false, .bool false, .bool false, .bool false, .bool false, .bool false, .bool false, .bool false, .bool false, .bool false, .bool false, .bool false, .bool false, .bool false, .bool false, .bool false, .bool false, .bool false, .bool false, .bool false, .bool false, .bool false, .bool false, .bool false, .bool false, .bool false, .bool false, .bool false, .bool false, .bool false, .bool false, .bool false, .bool false, .bool false, .bool false, .bool false, .bool false, .bool false, .bool false, .bool false, .bool false, .bool false, .bool false, .bool false, .bool false, .bool false, .bool false, .bool false, .bool false, .bool false, .bool false, .bool false, .bool false, .bool false, .bool false, .bool false, .bool false, .bool false, .bool false, .bool false, .bool false, .bool false, .bool false, .bool false, .bool false, .bool false, .bool false, .bool false, .bool false, .bool false, .bool false, .bool false, .bool false, .bool false, .bool false, .bool false, .bool false, .bool false, .bool false, .bool false, .bool false, .bool false, .bool false, .bool false, .bool false, .bool false, .bool false, .bool false, .bool false, .bool false, .bool false, .bool false, .bool false, .bool false, .bool false, .bool false, .bool false, .bool false, .bool false, .bool false, .bool false, .bool false, .bool false, .bool false, .bool false, .bool false, .bool false, .bool false, .bool false, .bool false, .bool false, .bool false, .bool false, .bool false, .bool false, .bool false, .bool false, .bool false, .bool false, .bool false, .bool false, .bool false, .bool false, .bool false, .bool false, .bool false, .bool false, .bool false, .bool false, .bool false, .bool false, .bool false, .bool false, .bool false, .bool false, .bool false, .bool false, .bool false, .bool false, .bool false, .bool false, .bool false, .bool false, .bool false, .bool false, .bool false, .bool false, .bool false, .bool false, .bool false, .bool false, .bool false, .bool false, .bool false, .bool false, .bool false, .bool false, .bool false, .bool false, .bool false, .bool false, .bool false, .bool false, .bool false, .bool false, .bool false, .bool false, .bool false, .bool false, .bool false, .bool false, .bool false, .bool false, .bool false, .bool false, .bool false, .bool false, .bool false, .bool false, .bool false, .bool false, .bool false, .bool false, .bool false, .bool false, .bool false, .bool false, .bool false, .bool false, .bool false, .bool false, .bool false, .bool false, .bool false, .bool false, .bool false, .bool false, .bool false, .bool false, .bool false, .bool false, .bool false, .bool false, .bool false, .bool false, .bool false, .bool false, .bool false, .bool false, .bool false, .bool false, .bool false, .bool false, .bool false, .bool false, .bool false, .bool false, .bool false, .bool false, .bool false, .bool false, .bool false, .bool false, .bool false, .bool false, .bool false, .bool false, .bool false, .bool false, .bool false, .bool false, .bool false, .bool false, .bool false, .bool false, .bool false, .bool false, .bool false, .bool false, .bool false, .bool false, .bool false, .bool false, .bool false, .bool false, .bool false, .bool false, .bool false, .bool false, .bool false, .bool false, .bool false, .bool false, .bool false, .bool false, .bool false, .bool false, .bool false, .bool false, .bool false, .bool false, .bool false, .bool false, .bool false, .bool false, .bool false, .bool false, .bool false, .bool false, .bool false, .bool false, .bool false, .bool false, .bool false, .bool false, .bool false, .bool false, .bool false, .bool false, .bool false, .bool false, .bool false, .bool false, .bool false, .bool false, .bool false, .bool false, .bool false, .bool false, .bool false, .bool false, .bool false, .bool false, .bool false, .bool false, .bool false, .bool false, .bool false, .bool false, .bool false, .bool false, .bool false, .bool false, .bool false, .bool false, .bool false, .bool false, .bool false, .bool false, .bool false, .bool false, .bool false, .bool false, .bool false, .bool false, .bool false, .bool false, .bool false, .bool false, .bool false, .bool false, .bool false, .bool false, .bool false, .bool false, .bool false, .bool false, .bool false, .bool false, .bool false, .bool false, .bool false, .bool false, .bool false, .bool false, .bool false, .bool false, .bool false, .bool false, .bool false, .bool false, .bool false, .bool false, .bool false, .bool false, .bool false, .bool false, .bool false, .bool false, .bool false, .bool false, .bool false, .bool false, .bool false, .bool false, .bool false, .bool false, .bool false, .bool false, .bool false, .bool false, .bool false, .bool false, .bool false, .bool false, .bool false, .bool false, .bool false, .bool false, .bool false, .bool false, .bool false, .bool false, .bool false, .bool false, .bool false, .bool false, .bool false, .bool false, .bool false, .bool false, .bool false, .bool false, .bool false, .bool false, .bool false, .bool false, .bool false, .bool false, .bool false, .bool false, .bool false, .bool false, .bool false, .bool false, .bool false, .bool false, .bool false, .bool false, .bool false, .bool false, .bool false, .bool false, .bool false, .bool false, .bool false, .bool false, .bool false, .bool false, .bool false, .bool false, .bool false, .bool false, .bool false, .bool false, .bool false, .bool false, .bool false, .bool false, .bool false, .bool false, .bool false, .bool false, .bool false, .bool false, .bool false, .bool false, .bool false, .bool false, .bool false, .bool false, .bool false, .bool false, .bool false, .bool false, .bool false, .bool false, .bool false, .bool false, .bool false, .bool false, .bool false, .bool false, .bool false, .bool false, .bool false, .bool false, .bool false, .bool false, .bool false, .bool false, .bool false, .bool false, .bool false, .bool false, .slice none 0 0, .bool false, .int .i64 0]) := TyZ.mk' (by kernel_rfl)
instance : TyI PR T_t50 false 1 := TyI.mk' (by kernel_rfl) (by kernel_rfl)
instance : TyZ PR T_t50 (.nilFunc) := TyZ.mk' (by kernel_rfl)
instance : TyI PR T_t51 false 1 := TyI.mk' (by kernel_rfl) (by kernel_rfl)
instance : TyZ PR T_t51 (.nilFunc) := TyZ.mk' (by kernel_rfl)
instance : TyI PR T_p_wal_Log false 1 := TyI.mk' (by kernel_rfl) (by kernel_rfl)
instance : TyZ PR T_p_wal_Log (.pointer none) := TyZ.mk' (by kernel_rfl)
instance : TyI PR T_t54 false 1 := TyI.mk' (by kernel_rfl) (by kernel_rfl)
instance : TyZ PR T_t54 (.nilFunc) := TyZ.mk' (by kernel_rfl)
instance : TyI PR T_t55 false 1 := TyI.mk' (by kernel_rfl) (by kernel_rfl)
instance : TyZ PR T_t55 (.nilFunc) := TyZ.mk' (by kernel_rfl)
instance : TyI PR T_t56 false 1 := TyI.mk' (by kernel_rfl) (by kernel_rfl)
instance : TyZ PR T_t56 (.nilFunc) := TyZ.mk' (by kernel_rfl)
instance : TyI PR T_t57 false 1 := TyI.mk' (by kernel_rfl) (by kernel_rfl)
instance : TyZ PR T_t57 (.nilFunc) := TyZ.mk' (by kernel_rfl)
instance : TyI PR T_t58 false 1 := TyI.mk' (by kernel_rfl) (by kernel_rfl)
instance : TyZ PR T_t58 (.nilFunc) := TyZ.mk' (by kernel_rfl)
instance : TyI PR T_t59 false 1 := TyI.mk' (by kernel_rfl) (by kernel_rfl)
instance : TyZ PR T_t59 (.nilFunc) := TyZ.mk' (by kernel_rfl)
instance : TyI PR T_t60 false 1 := TyI.mk' (by kernel_rfl) (by kernel_rfl)
instance : TyZ PR T_t60 (.nilFunc) := TyZ.mk' (by kernel_rfl)
instance : TyI PR T_t61 false 1 := TyI.mk' (by kernel_rfl) (by kernel_rfl)
instance : TyZ PR T_t61 (.nilFunc) := TyZ.mk' (by kernel_rfl)
instance : TyI PR T_s_rostrumlaw6_Act false 1 := TyI.mk' (by kernel_rfl) (by kernel_rfl)
instance : TyZ PR T_s_rostrumlaw6_Act (.slice none 0 0) := TyZ.mk' (by kernel_rfl)
instance : TyS PR T_s_rostrumlaw6_Act T_rostrumlaw6_Act 5 72 (.agg #[.int .i64 0, .int .i64 0, .int .i64 0, .slice none 0 0, .slice none 0 0]) := TyS.mk' (by kernel_rfl) (by kernel_rfl) (by kernel_rfl)
instance : TyI PR T_t63 false 1 := TyI.mk' (by kernel_rfl) (by kernel_rfl)
instance : TyZ PR T_t63 (.nilFunc) := TyZ.mk' (by kernel_rfl)
instance : TyI PR T_t64 true 5 := TyI.mk' (by kernel_rfl) (by kernel_rfl)
instance : TyZ PR T_t64 (.agg #[.int .i64 0, .int .i64 0, .int .i64 0, .slice none 0 0, .slice none 0 0]) := TyZ.mk' (by kernel_rfl)
instance : TyI PR T_rostrumlaw6_Act true 5 := TyI.mk' (by kernel_rfl) (by kernel_rfl)
instance : TyZ PR T_rostrumlaw6_Act (.agg #[.int .i64 0, .int .i64 0, .int .i64 0, .slice none 0 0, .slice none 0 0]) := TyZ.mk' (by kernel_rfl)
instance : TyI PR T_t66 false 1 := TyI.mk' (by kernel_rfl) (by kernel_rfl)
instance : TyZ PR T_t66 (.nilFunc) := TyZ.mk' (by kernel_rfl)
instance : TyI PR T_t67 false 1 := TyI.mk' (by kernel_rfl) (by kernel_rfl)
instance : TyZ PR T_t67 (.nilFunc) := TyZ.mk' (by kernel_rfl)
instance : TyI PR T_t68 false 1 := TyI.mk' (by kernel_rfl) (by kernel_rfl)
instance : TyZ PR T_t68 (.nilFunc) := TyZ.mk' (by kernel_rfl)
instance : TyI PR T_t69 false 1 := TyI.mk' (by kernel_rfl) (by kernel_rfl)
instance : TyZ PR T_t69 (.nilFunc) := TyZ.mk' (by kernel_rfl)
instance : TyI PR T_m_int_s_uint8 false 1 := TyI.mk' (by kernel_rfl) (by kernel_rfl)
instance : TyZ PR T_m_int_s_uint8 (.map none) := TyZ.mk' (by kernel_rfl)
instance : TyI PR T_s_disk_write false 1 := TyI.mk' (by kernel_rfl) (by kernel_rfl)
instance : TyZ PR T_s_disk_write (.slice none 0 0) := TyZ.mk' (by kernel_rfl)
instance : TyS PR T_s_disk_write T_disk_write 3 24 (.agg #[.int .i64 0, .int .i64 0, .int .i64 0]) := TyS.mk' (by kernel_rfl) (by kernel_rfl) (by kernel_rfl)
instance : TyI PR T_t72 true 5 := TyI.mk' (by kernel_rfl) (by kernel_rfl)
instance : TyZ PR T_t72 (.agg #[.int .i64 0, .map none, .slice none 0 0, .bool false, .int .i64 0]) := TyZ.mk' (by kernel_rfl)
instance : TyI PR T_disk_Disk true 5 := TyI.mk' (by kernel_rfl) (by kernel_rfl)
instance : TyZ PR T_disk_Disk (.agg #[.int .i64 0, .map none, .slice none 0 0, .bool false, .int .i64 0]) := TyZ.mk' (by kernel_rfl)
instance : TyI PR T_t74 true 3 := TyI.mk' (by kernel_rfl) (by kernel_rfl)
instance : TyZ PR T_t74 (.agg #[.int .i64 0, .int .i64 0, .int .i64 0]) := TyZ.mk' (by kernel_rfl)
instance : EqS PR T_t74 [.i, .i, .i] := EqS.mk' (by kernel_rfl) (by kernel_rfl) (by kernel_rfl)
instance : TyI PR T_disk_write true 3 := TyI.mk' (by kernel_rfl) (by kernel_rfl)
instance : TyZ PR T_disk_write (.agg #[.int .i64 0, .int .i64 0, .int .i64 0]) := TyZ.mk' (by kernel_rfl)
instance : EqS PR T_disk_write [.i, .i, .i] := EqS.mk' (by kernel_rfl) (by kernel_rfl) (by kernel_rfl)
instance : TyI PR T_t76 false 1 := TyI.mk' (by kernel_rfl) (by kernel_rfl)
instance : TyZ PR T_t76 (.nilFunc) := TyZ.mk' (by kernel_rfl)
instance : TyI PR T_t77 false 1 := TyI.mk' (by kernel_rfl) (by kernel_rfl)
instance : TyZ PR T_t77 (.nilFunc) := TyZ.mk' (by kernel_rfl)
instance : TyI PR T_t78 false 1 := TyI.mk' (by kernel_rfl) (by kernel_rfl)
instance : TyZ PR T_t78 (.nilFunc) := TyZ.mk' (by kernel_rfl)
instance : TyI PR T_t79 false 1 := TyI.mk' (by kernel_rfl) (by kernel_rfl)
instance : TyZ PR T_t79 (.nilFunc) := TyZ.mk' (by kernel_rfl)
instance : TyI PR T_iter_Seq_int false 1 := TyI.mk' (by kernel_rfl) (by kernel_rfl)
instance : TyZ PR T_iter_Seq_int (.nilFunc) := TyZ.mk' (by kernel_rfl)
instance : TyI PR T_t81 false 1 := TyI.mk' (by kernel_rfl) (by kernel_rfl)
instance : TyZ PR T_t81 (.nilFunc) := TyZ.mk' (by kernel_rfl)
instance : TyI PR T_t82 true 3 := TyI.mk' (by kernel_rfl) (by kernel_rfl)
instance : TyZ PR T_t82 (.agg #[.int .i64 0, .slice none 0 0, .bool false]) := TyZ.mk' (by kernel_rfl)
instance : TyI PR T_rostrumref5_write true 3 := TyI.mk' (by kernel_rfl) (by kernel_rfl)
instance : TyZ PR T_rostrumref5_write (.agg #[.int .i64 0, .slice none 0 0, .bool false]) := TyZ.mk' (by kernel_rfl)
instance : TyI PR T_s_wal_file false 1 := TyI.mk' (by kernel_rfl) (by kernel_rfl)
instance : TyZ PR T_s_wal_file (.slice none 0 0) := TyZ.mk' (by kernel_rfl)
instance : TyS PR T_s_wal_file T_wal_file 6 64 (.agg #[.int .i64 0, .int .i64 0, .int .i64 0, .int .u64 0, .slice none 0 0, .bool false]) := TyS.mk' (by kernel_rfl) (by kernel_rfl) (by kernel_rfl)
instance : TyI PR T_t86 false 1 := TyI.mk' (by kernel_rfl) (by kernel_rfl)
instance : TyZ PR T_t86 (.nilFunc) := TyZ.mk' (by kernel_rfl)
instance : TyI PR T_uint64 false 1 := TyI.mk' (by kernel_rfl) (by kernel_rfl)
instance : TyZ PR T_uint64 (.int .u64 0) := TyZ.mk' (by kernel_rfl)
instance : TyI PR T_t88 true 12 := TyI.mk' (by kernel_rfl) (by kernel_rfl)
instance : TyZ PR T_t88 (.agg #[.pointer none, .int .i64 0, .int .i64 0, .int .u64 0, .slice none 0 0, .int .i64 0, .int .i64 0, .int .i64 0, .slice none 0 0, .slice none 0 0, .slice none 0 0, .bool false]) := TyZ.mk' (by kernel_rfl)
instance : TyI PR T_wal_Log true 12 := TyI.mk' (by kernel_rfl) (by kernel_rfl)
instance : TyZ PR T_wal_Log (.agg #[.pointer none, .int .i64 0, .int .i64 0, .int .u64 0, .slice none 0 0, .int .i64 0, .int .i64 0, .int .i64 0, .slice none 0 0, .slice none 0 0, .slice none 0 0, .bool false]) := TyZ.mk' (by kernel_rfl)
instance : TyI PR T_t90 false 1 := TyI.mk' (by kernel_rfl) (by kernel_rfl)
instance : TyZ PR T_t90 (.nilFunc) := TyZ.mk' (by kernel_rfl)
instance : TyI PR T_t91 false 1 := TyI.mk' (by kernel_rfl) (by kernel_rfl)
instance : TyZ PR T_t91 (.nilFunc) := TyZ.mk' (by kernel_rfl)
instance : TyI PR T_t93 false 1 := TyI.mk' (by kernel_rfl) (by kernel_rfl)
instance : TyZ PR T_t93 (.nilFunc) := TyZ.mk' (by kernel_rfl)
instance : TyI PR T_t94 false 1 := TyI.mk' (by kernel_rfl) (by kernel_rfl)
instance : TyZ PR T_t94 (.nilFunc) := TyZ.mk' (by kernel_rfl)
instance : TyI PR T_t95 false 1 := TyI.mk' (by kernel_rfl) (by kernel_rfl)
instance : TyZ PR T_t95 (.nilFunc) := TyZ.mk' (by kernel_rfl)
instance : TyI PR T_t96 false 1 := TyI.mk' (by kernel_rfl) (by kernel_rfl)
instance : TyZ PR T_t96 (.nilFunc) := TyZ.mk' (by kernel_rfl)
instance : TyI PR T_t97 true 6 := TyI.mk' (by kernel_rfl) (by kernel_rfl)
instance : TyZ PR T_t97 (.agg #[.int .i64 0, .int .i64 0, .int .i64 0, .int .u64 0, .slice none 0 0, .bool false]) := TyZ.mk' (by kernel_rfl)
instance : TyI PR T_wal_file true 6 := TyI.mk' (by kernel_rfl) (by kernel_rfl)
instance : TyZ PR T_wal_file (.agg #[.int .i64 0, .int .i64 0, .int .i64 0, .int .u64 0, .slice none 0 0, .bool false]) := TyZ.mk' (by kernel_rfl)
instance : TyI PR T_t100 false 1 := TyI.mk' (by kernel_rfl) (by kernel_rfl)
instance : TyZ PR T_t100 (.nilFunc) := TyZ.mk' (by kernel_rfl)
instance : TyI PR T_t101 false 1 := TyI.mk' (by kernel_rfl) (by kernel_rfl)
instance : TyZ PR T_t101 (.nilFunc) := TyZ.mk' (by kernel_rfl)
instance : TyI PR T_t102 false 1 := TyI.mk' (by kernel_rfl) (by kernel_rfl)
instance : TyZ PR T_t102 (.nilFunc) := TyZ.mk' (by kernel_rfl)
instance : TyI PR T_t103 false 1 := TyI.mk' (by kernel_rfl) (by kernel_rfl)
instance : TyZ PR T_t103 (.nilFunc) := TyZ.mk' (by kernel_rfl)
instance : TyI PR T_t104 false 1 := TyI.mk' (by kernel_rfl) (by kernel_rfl)
instance : TyZ PR T_t104 (.nilFunc) := TyZ.mk' (by kernel_rfl)
instance : TyI PR T_t105 false 1 := TyI.mk' (by kernel_rfl) (by kernel_rfl)
instance : TyZ PR T_t105 (.nilFunc) := TyZ.mk' (by kernel_rfl)
instance : TyI PR T_t106 false 1 := TyI.mk' (by kernel_rfl) (by kernel_rfl)
instance : TyZ PR T_t106 (.nilFunc) := TyZ.mk' (by kernel_rfl)
instance : TyI PR T_t107 false 1 := TyI.mk' (by kernel_rfl) (by kernel_rfl)
instance : TyZ PR T_t107 (.nilFunc) := TyZ.mk' (by kernel_rfl)
instance : TyI PR T_t108 false 1 := TyI.mk' (by kernel_rfl) (by kernel_rfl)
instance : TyZ PR T_t108 (.nilFunc) := TyZ.mk' (by kernel_rfl)
instance : TyI PR T_t109 false 1 := TyI.mk' (by kernel_rfl) (by kernel_rfl)
instance : TyZ PR T_t109 (.nilFunc) := TyZ.mk' (by kernel_rfl)
instance : TyI PR T_t110 false 1 := TyI.mk' (by kernel_rfl) (by kernel_rfl)
instance : TyZ PR T_t110 (.nilFunc) := TyZ.mk' (by kernel_rfl)
instance : TyI PR T_t111 false 1 := TyI.mk' (by kernel_rfl) (by kernel_rfl)
instance : TyZ PR T_t111 (.nilFunc) := TyZ.mk' (by kernel_rfl)
instance : TyI PR T_uint false 1 := TyI.mk' (by kernel_rfl) (by kernel_rfl)
instance : TyZ PR T_uint (.int .u64 0) := TyZ.mk' (by kernel_rfl)
instance : TyI PR T_t113 false 1 := TyI.mk' (by kernel_rfl) (by kernel_rfl)
instance : TyZ PR T_t113 (.nilFunc) := TyZ.mk' (by kernel_rfl)
instance : TyI PR T_t114 false 1 := TyI.mk' (by kernel_rfl) (by kernel_rfl)
instance : TyZ PR T_t114 (.nilFunc) := TyZ.mk' (by kernel_rfl)
instance : TyI PR T_t115 false 1 := TyI.mk' (by kernel_rfl) (by kernel_rfl)
instance : TyZ PR T_t115 (.nilFunc) := TyZ.mk' (by kernel_rfl)
instance : TyI PR T_t116 false 1 := TyI.mk' (by kernel_rfl) (by kernel_rfl)
instance : TyZ PR T_t116 (.nilFunc) := TyZ.mk' (by kernel_rfl)
instance : TyI PR T_t117 false 1 := TyI.mk' (by kernel_rfl) (by kernel_rfl)
instance : TyZ PR T_t117 (.nilFunc) := TyZ.mk' (by kernel_rfl)
instance : TyI PR T_t118 false 1 := TyI.mk' (by kernel_rfl) (by kernel_rfl)
instance : TyZ PR T_t118 (.nilFunc) := TyZ.mk' (by kernel_rfl)
instance : TyI PR T_slices_sortedHint false 1 := TyI.mk' (by kernel_rfl) (by kernel_rfl)
instance : TyZ PR T_slices_sortedHint (.int .i64 0) := TyZ.mk' (by kernel_rfl)
instance : TyI PR T_t121 false 1 := TyI.mk' (by kernel_rfl) (by kernel_rfl)
instance : TyZ PR T_t121 (.nilFunc) := TyZ.mk' (by kernel_rfl)
instance : TyI PR T_t122 false 1 := TyI.mk' (by kernel_rfl) (by kernel_rfl)
instance : TyZ PR T_t122 (.nilFunc) := TyZ.mk' (by kernel_rfl)
instance : TyI PR T_t123 false 1 := TyI.mk' (by kernel_rfl) (by kernel_rfl)
instance : TyZ PR T_t123 (.nilFunc) := TyZ.mk' (by kernel_rfl)
instance : TyI PR T_t124 false 1 := TyI.mk' (by kernel_rfl) (by kernel_rfl)
instance : TyZ PR T_t124 (.nilFunc) := TyZ.mk' (by kernel_rfl)
instance : TyI PR T_t126 false 1 := TyI.mk' (by kernel_rfl) (by kernel_rfl)
instance : TyZ PR T_t126 (.nilFunc) := TyZ.mk' (by kernel_rfl)
instance : TyI PR T_t127 false 1 := TyI.mk' (by kernel_rfl) (by kernel_rfl)
instance : TyZ PR T_t127 (.nilFunc) := TyZ.mk' (by kernel_rfl)
instance : TyI PR T_uint32 false 1 := TyI.mk' (by kernel_rfl) (by kernel_rfl)
instance : TyZ PR T_uint32 (.int .u32 0) := TyZ.mk' (by kernel_rfl)
instance : TyI PR T_t129 false 1 := TyI.mk' (by kernel_rfl) (by kernel_rfl)
instance : TyZ PR T_t129 (.nilFunc) := TyZ.mk' (by kernel_rfl)
instance : TyI PR T_t131 false 1 := TyI.mk' (by kernel_rfl) (by kernel_rfl)
instance : TyZ PR T_t131 (.nilFunc) := TyZ.mk' (by kernel_rfl)
instance : TyI PR T_t132 false 1 := TyI.mk' (by kernel_rfl) (by kernel_rfl)
instance : TyZ PR T_t132 (.nilFunc) := TyZ.mk' (by kernel_rfl)
instance : TyI PR T_t133 false 1 := TyI.mk' (by kernel_rfl) (by kernel_rfl)
instance : TyZ PR T_t133 (.nilFunc) := TyZ.mk' (by kernel_rfl)
instance : TyI PR T_t134 false 1 := TyI.mk' (by kernel_rfl) (by kernel_rfl)
instance : TyZ PR T_t134 (.nilFunc) := TyZ.mk' (by kernel_rfl)
instance : TyI PR T_t135 false 1 := TyI.mk' (by kernel_rfl) (by kernel_rfl)
instance : TyZ PR T_t135 (.nilFunc) := TyZ.mk' (by kernel_rfl)
instance : TyI PR T_t136 false 1 := TyI.mk' (by kernel_rfl) (by kernel_rfl)
instance : TyZ PR T_t136 (.nilFunc) := TyZ.mk' (by kernel_rfl)
instance : TyI PR T_t137 false 1 := TyI.mk' (by kernel_rfl) (by kernel_rfl)
instance : TyZ PR T_t137 (.nilFunc) := TyZ.mk' (by kernel_rfl)
instance : TyI PR T_t138 false 1 := TyI.mk' (by kernel_rfl) (by kernel_rfl)
instance : TyZ PR T_t138 (.nilFunc) := TyZ.mk' (by kernel_rfl)
instance : TyI PR T_slices_xorshift false 1 := TyI.mk' (by kernel_rfl) (by kernel_rfl)
instance : TyZ PR T_slices_xorshift (.int .u64 0) := TyZ.mk' (by kernel_rfl)
instance : TyI PR T_t140 false 1 := TyI.mk' (by kernel_rfl) (by kernel_rfl)
instance : TyZ PR T_t140 (.nilFunc) := TyZ.mk' (by kernel_rfl)
instance : TyI PR T_t141 false 1 := TyI.mk' (by kernel_rfl) (by kernel_rfl)
instance : TyZ PR T_t141 (.nilFunc) := TyZ.mk' (by kernel_rfl)
instance : TyI PR T_t142 false 1 := TyI.mk' (by kernel_rfl) (by kernel_rfl)
instance : TyZ PR T_t142 (.nilFunc) := TyZ.mk' (by kernel_rfl)
instance : TyI PR T_p_int false 1 := TyI.mk' (by kernel_rfl) (by kernel_rfl)
instance : TyZ PR T_p_int (.pointer none) := TyZ.mk' (by kernel_rfl)
instance : TyI PR T_t144 false 1 := TyI.mk' (by kernel_rfl) (by kernel_rfl)
instance : TyZ PR T_t144 (.nilFunc) := TyZ.mk' (by kernel_rfl)
instance : TyI PR T_t145 false 1 := TyI.mk' (by kernel_rfl) (by kernel_rfl)
instance : TyZ PR T_t145 (.nilFunc) := TyZ.mk' (by kernel_rfl)
instance : TyI PR T_t146 false 1 := TyI.mk' (by kernel_rfl) (by kernel_rfl)
instance : TyZ PR T_t146 (.nilFunc) := TyZ.mk' (by kernel_rfl)
instance : TyI PR T_t147 false 1 := TyI.mk' (by kernel_rfl) (by kernel_rfl)
instance : TyZ PR T_t147 (.nilFunc) := TyZ.mk' (by kernel_rfl)
instance : TyI PR T_p_slices_xorshift false 1 := TyI.mk' (by kernel_rfl) (by kernel_rfl)
instance : TyZ PR T_p_slices_xorshift (.pointer none) := TyZ.mk' (by kernel_rfl)
instance : TyI PR T_t150 false 1 := TyI.mk' (by kernel_rfl) (by kernel_rfl)
instance : TyZ PR T_t150 (.nilFunc) := TyZ.mk' (by kernel_rfl)
instance : TyI PR T_t151 false 1 := TyI.mk' (by kernel_rfl) (by kernel_rfl)
instance : TyZ PR T_t151 (.nilFunc) := TyZ.mk' (by kernel_rfl)
instance : TyI PR T_t152 false 1 := TyI.mk' (by kernel_rfl) (by kernel_rfl)
instance : TyZ PR T_t152 (.nilFunc) := TyZ.mk' (by kernel_rfl)
instance : TyI PR T_t153 true 4 := TyI.mk' (by kernel_rfl) (by kernel_rfl)
instance : TyZ PR T_t153 (.agg #[.pointer none, .pointer none, .pointer none, .string ⟨#[]⟩]) := TyZ.mk' (by kernel_rfl)
instance : TyI PR T_runtime_TypeAssertionError true 4 := TyI.mk' (by kernel_rfl) (by kernel_rfl)
instance : TyZ PR T_runtime_TypeAssertionError (.agg #[.pointer none, .pointer none, .pointer none, .string ⟨#[]⟩]) := TyZ.mk' (by kernel_rfl)
instance : TyI PR T_a0_p_runtime_PanicNilError true 0 := TyI.mk' (by kernel_rfl) (by kernel_rfl)
instance : TyZ PR T_a0_p_runtime_PanicNilError (.agg #[]) := TyZ.mk' (by kernel_rfl)
instance : TyI PR T_t156 true 0 := TyI.mk' (by kernel_rfl) (by kernel_rfl)
instance : TyZ PR T_t156 (.agg #[]) := TyZ.mk' (by kernel_rfl)
instance : TyI PR T_runtime_PanicNilError true 0 := TyI.mk' (by kernel_rfl) (by kernel_rfl)
instance : TyZ PR T_runtime_PanicNilError (.agg #[]) := TyZ.mk' (by kernel_rfl)
instance : TyI PR T_abi_TFlag false 1 := TyI.mk' (by kernel_rfl) (by kernel_rfl)
instance : TyZ PR T_abi_TFlag (.int .u8 0) := TyZ.mk' (by kernel_rfl)
instance : TyI PR T_abi_Kind false 1 := TyI.mk' (by kernel_rfl) (by kernel_rfl)
instance : TyZ PR T_abi_Kind (.int .u8 0) := TyZ.mk' (by kernel_rfl)
instance : TyI PR T_t160 false 1 := TyI.mk' (by kernel_rfl) (by kernel_rfl)
instance : TyZ PR T_t160 (.nilFunc) := TyZ.mk' (by kernel_rfl)
instance : TyI PR T_p_uint8 false 1 := TyI.mk' (by kernel_rfl) (by kernel_rfl)
instance : TyZ PR T_p_uint8 (.pointer none) := TyZ.mk' (by kernel_rfl)
instance : TyI PR T_abi_NameOff false 1 := TyI.mk' (by kernel_rfl) (by kernel_rfl)
instance : TyZ PR T_abi_NameOff (.int .i32 0) := TyZ.mk' (by kernel_rfl)
instance : TyI PR T_abi_TypeOff false 1 := TyI.mk' (by kernel_rfl) (by kernel_rfl)
instance : TyZ PR T_abi_TypeOff (.int .i32 0) := TyZ.mk' (by kernel_rfl)
instance : TyI PR T_t164 true 11 := TyI.mk' (by kernel_rfl) (by kernel_rfl)
instance : TyZ PR T_t164 (.agg #[.int .u64 0, .int .u64 0, .int .u32 0, .int .u8 0, .int .u8 0, .int .u8 0, .int .u8 0, .nilFunc, .pointer none, .int .i32 0, .int .i32 0]) := TyZ.mk' (by kernel_rfl)
instance : TyI PR T_abi_Type true 11 := TyI.mk' (by kernel_rfl) (by kernel_rfl)
instance : TyZ PR T_abi_Type (.agg #[.int .u64 0, .int .u64 0, .int .u32 0, .int .u8 0, .int .u8 0, .int .u8 0, .int .u8 0, .nilFunc, .pointer none, .int .i32 0, .int .i32 0]) := TyZ.mk' (by kernel_rfl)
instance : TyI PR T_unsafe_Pointer false 1 := TyI.mk' (by kernel_rfl) (by kernel_rfl)
instance : TyZ PR T_unsafe_Pointer (.pointer none) := TyZ.mk' (by kernel_rfl)
end Go.Proofs.Ythladblmjoaeoaa
/- Printed by an own tool (wip/tools/typm.py). -/
namespace Go.Proofs.Ythladblmjoaeoaa
set_option linter.unusedVariables false
set_option linter.unusedSimpArgs false
open Go.Eng
instance : MapT PR T_m_int_s_uint8 T_int T_s_uint8 := ⟨by kernel_rfl⟩
instance : KeyT PR T_int KI := KeyT.int (by kernel_rfl)
end Go.Proofs.Ythladblmjoaeoaa
