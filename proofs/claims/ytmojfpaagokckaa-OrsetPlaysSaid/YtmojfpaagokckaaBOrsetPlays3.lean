/- Texts of the claim OrsetPlays, joined: Wr, Typ, ShCmp, CCmp, CVec, Sl2, Sl3, Mp, TypM, Mp2, Sl4, Sl5, Mp3, PNum. -/
import Derived.Test.YtmojfpaagokckaaBOrsetPlays2
import Derived.Laws.MakeOwn
import Derived.Maps.Keyed
import Derived.Maps.RangeRun
import Derived.Carry
import Derived.Lib.SlBytesConst
namespace Go.Eng
set_option linter.unusedVariables false
set_option linter.unusedSimpArgs false
open Go Go.RowKit
/-- what a walk's simp knows -/
theorem EN : (type_of% @fldV_f) ∧ (type_of% @fldV_t) ∧ (type_of% @okF_some) ∧ (type_of% @gdK_true) ∧ (type_of% @gdK_false) ∧ (type_of% @wantd_t) ∧ (type_of% @wantd_f) ∧ (type_of% @wantd_undef) ∧ (type_of% @ifK_true) ∧ (type_of% @ifK_false) ∧ (type_of% @pickP_true) ∧ (type_of% @pickP_false) ∧ (type_of% @Bool.not_true) ∧ (type_of% @Bool.not_false) ∧ (type_of% @decide_true) ∧ (type_of% @decide_false) ∧ (type_of% @binP_add) ∧ (type_of% @binP_sub) ∧ (type_of% @binP_mul) ∧ (type_of% @binP_eql) ∧ (type_of% @binP_neq) ∧ (type_of% @binP_lss) ∧ (type_of% @binP_leq) ∧ (type_of% @binP_gtr) ∧ (type_of% @binP_geq) ∧ (type_of% @binP_and) ∧ (type_of% @binP_or) ∧ (type_of% @binP_xor) ∧ (type_of% @binP_andNot) ∧ (type_of% @binPs_eql) ∧ (type_of% @binPs_neq) ∧ (type_of% @baB) ∧ (type_of% @intB) ∧ (type_of% @unP_neg) ∧ (type_of% @unP_not) ∧ (type_of% @cvtP_int) ∧ (type_of% @cvtP_string) ∧ (type_of% @lenP_string) ∧ (type_of% @lenP_slice) ∧ (type_of% @lenP_array) ∧ (type_of% @capP_slice) ∧ (type_of% @addrF_blk) ∧ (type_of% @nilP_ptr) ∧ (type_of% @extP_0) ∧ (type_of% @extP_1) ∧ (type_of% @extP_2) ∧ (type_of% @extP_3) ∧ (type_of% @eqP_nilptr) ∧ (type_of% @neP_nilptr) ∧ (type_of% @eqP_nilsl) ∧ (type_of% @neP_nilsl) ∧ (type_of% @eqP_bool) ∧ (type_of% @neP_bool) ∧ (type_of% @Nat.zero_add) ∧ (type_of% @Nat.add_zero) ∧ (type_of% @vcells_agg) ∧ (type_of% @vcells_int) ∧ (type_of% @vcells_bool) ∧ (type_of% @vcells_string) ∧ (type_of% @vcells_slice) ∧ (type_of% @vcells_pointer) ∧ (type_of% @vcells_map) ∧ (type_of% @nthv_zero) ∧ (type_of% @nthv_succ) ∧ (type_of% @Bool.true_and) ∧ (type_of% @Bool.false_and) ∧ (type_of% @Bool.and_true) ∧ (type_of% @Bool.and_false) ∧ (type_of% @Bool.true_or) ∧ (type_of% @Bool.false_or) ∧ (type_of% @Bool.or_true) ∧ (type_of% @Bool.or_false) ∧ (type_of% @Bool.false_eq_true) ∧ (type_of% @Int.lt_irrefl) ∧ (type_of% @and_self) ∧ (type_of% @true_and) ∧ (type_of% @not_true_eq_false) ∧ (type_of% @not_false_eq_true) := ⟨@fldV_f, @fldV_t, @okF_some, @gdK_true, @gdK_false, @wantd_t, @wantd_f, @wantd_undef, @ifK_true, @ifK_false, @pickP_true, @pickP_false, @Bool.not_true, @Bool.not_false, @decide_true, @decide_false, @binP_add, @binP_sub, @binP_mul, @binP_eql, @binP_neq, @binP_lss, @binP_leq, @binP_gtr, @binP_geq, @binP_and, @binP_or, @binP_xor, @binP_andNot, @binPs_eql, @binPs_neq, @baB, @intB, @unP_neg, @unP_not, @cvtP_int, @cvtP_string, @lenP_string, @lenP_slice, @lenP_array, @capP_slice, @addrF_blk, @nilP_ptr, @extP_0, @extP_1, @extP_2, @extP_3, @eqP_nilptr, @neP_nilptr, @eqP_nilsl, @neP_nilsl, @eqP_bool, @neP_bool, @Nat.zero_add, @Nat.add_zero, @vcells_agg, @vcells_int, @vcells_bool, @vcells_string, @vcells_slice, @vcells_pointer, @vcells_map, @nthv_zero, @nthv_succ, @Bool.true_and, @Bool.false_and, @Bool.and_true, @Bool.and_false, @Bool.true_or, @Bool.false_or, @Bool.or_true, @Bool.or_false, @Bool.false_eq_true, @Int.lt_irrefl, @and_self, @true_and, @not_true_eq_false, @not_false_eq_true⟩
theorem BLS : (type_of% @vcells_eq) ∧ (type_of% @vcells_agg) ∧ (type_of% @vcells_int) ∧ (type_of% @vcells_bool) ∧ (type_of% @vcells_string) ∧ (type_of% @vcells_slice) ∧ (type_of% @vcells_pointer) ∧ (type_of% @vcells_map) ∧ (type_of% @Nat.zero_add) := ⟨@vcells_eq, @vcells_agg, @vcells_int, @vcells_bool, @vcells_string, @vcells_slice, @vcells_pointer, @vcells_map, @Nat.zero_add⟩
section
variable {P : Program} {W0 W : World} {L L' : List Asn}
theorem w1 {g : Nat} {args : List Value} {v : Value} [hp : Pure0 P g args v] {k : Value → World → Prop} (hk : ∀ W', St W0 L W' → k v W') (h : St W0 L W := by first | assumption | exact St.tick (by assumption) | exact St.tick (St.tick (by assumption))) : callK P g args k W := cp h hk
theorem w2 {g b : Nat} {T : TypeId} {cs cs' : List Value} {args : List Value} {v : Value} {Lf : List Value → List Asn} {k : Value → World → Prop} [hu : Cu b L cs T Lf] [hm : Meth P g b T cs args v cs']
    (hk : ∀ W', St W0 (Lf cs') W' → k v W') (h : St W0 L W := by first | assumption | exact St.tick (by assumption) | exact St.tick (St.tick (by assumption))) : callK P g (.pointer (some ⟨b, 0, none⟩) :: args) k W := cm h hk
theorem w3 {t : TypeId} {cs : List Value} {k : Value → World → Prop} (hk : ∀ b W', St W0 (cells b cs t :: L) W' → k (.pointer (some ⟨b, 0, none⟩)) W') (h : St W0 L W := by first | assumption | exact St.tick (by assumption) | exact St.tick (St.tick (by assumption))) : efK P (Instr.box t (.agg cs.toArray)) k W := bxa h hk
theorem w4 {t : TypeId} {ik : IntKind} {n : Int} {k : Value → World → Prop} (hk : ∀ b W', St W0 (cells b [.int ik n] t :: L) W' → k (.pointer (some ⟨b, 0, none⟩)) W') (h : St W0 L W := by first | assumption | exact St.tick (by assumption) | exact St.tick (St.tick (by assumption))) : efK P (Instr.box t (.int ik n)) k W := bxi h hk
theorem w5 {t : TypeId} {agg : Bool} {sz : Nat} [TyI P t agg sz] {b off : Nat} {cs : List Value} {T : TypeId} {L' : List Asn} [Ck b L cs T L'] {k : Value → World → Prop}
    (hsz : agg = true → off + sz ≤ cs.length) (hk : ∃ v, getL agg cs off sz = some v ∧ k v W) (h : St W0 L W := by first | assumption | exact St.tick (by assumption) | exact St.tick (St.tick (by assumption))) : rdK P (Instr.loadAt t (.pointer (some ⟨b, off, none⟩))) k W := ldx h hsz hk
theorem w6 {t : TypeId} {agg : Bool} {sz : Nat} [ht : TyI P t agg sz] {b o : Nat} {cs : List Value} {k : Value → World → Prop} (hsz : agg = true → 0 + sz ≤ cs.length) (hk : ∃ v, getL agg cs 0 sz = some v ∧ k v W)
    (h : St W0 L W := by first | assumption | exact St.tick (by assumption) | exact St.tick (St.tick (by assumption))) (hr : ro W0 b o cs := by assumption) : rdK P (Instr.loadAt t (.pointer (some ⟨b, o, none⟩))) k W := ldr0 h hr hsz hk
theorem w7 {t : TypeId} {agg : Bool} {sz : Nat} [ht : TyI P t agg sz] {b o j : Nat} {cs : List Value} {k : Value → World → Prop} (hsz : agg = true → j + sz ≤ cs.length) (hk : ∃ v, getL agg cs j sz = some v ∧ k v W)
    (h : St W0 L W := by first | assumption | exact St.tick (by assumption) | exact St.tick (St.tick (by assumption))) (hr : ro W0 b o cs := by assumption) : rdK P (Instr.loadAt t (.pointer (some ⟨b, o + j, none⟩))) k W := ldr h hr hsz hk
theorem w8 {t : TypeId} {agg : Bool} {sz : Nat} [TyI P t agg sz] {b off : Nat} {cs : List Value} {T : TypeId} {L' : List Asn} [Ck b L cs T L'] {i : Nat} {bb : Bool} {v : Value} {l : List HoldV} {R : World → Prop}
    (hv : getL agg cs off sz = some v) (hsz : agg = true → off + sz ≤ cs.length) (hk : stb P l R W) (h : St W0 L W := by first | assumption | exact St.tick (by assumption) | exact St.tick (St.tick (by assumption))) : stb P ((i, bb, Instr.loadAt t (.pointer (some ⟨b, off, none⟩)), v) :: l) R W := stb_ld h hv hsz hk
theorem w9 {t : TypeId} {agg : Bool} {sz : Nat} [TyI P t agg sz] {b o : Nat} {cs : List Value} {i : Nat} {bb : Bool} {v : Value} {l : List HoldV} {R : World → Prop}
    (hv : getL agg cs 0 sz = some v) (hsz : agg = true → 0 + sz ≤ cs.length) (hk : stb P l R W) (h : St W0 L W := by first | assumption | exact St.tick (by assumption) | exact St.tick (St.tick (by assumption))) (hr : ro W0 b o cs := by assumption) : stb P ((i, bb, Instr.loadAt t (.pointer (some ⟨b, o, none⟩)), v) :: l) R W := stb_ldr0 h hr hv hsz hk
theorem w10 {t : TypeId} {agg : Bool} {sz : Nat} [TyI P t agg sz] {b o j : Nat} {cs : List Value} {i : Nat} {bb : Bool} {v : Value} {l : List HoldV} {R : World → Prop}
    (hv : getL agg cs j sz = some v) (hsz : agg = true → j + sz ≤ cs.length) (hk : stb P l R W) (h : St W0 L W := by first | assumption | exact St.tick (by assumption) | exact St.tick (St.tick (by assumption))) (hr : ro W0 b o cs := by assumption) : stb P ((i, bb, Instr.loadAt t (.pointer (some ⟨b, o + j, none⟩)), v) :: l) R W := stb_ldr h hr hv hsz hk
theorem w11 {t : TypeId} {z : Value} [ht : TyZ P t z] {k : Value → World → Prop} (hk : ∀ b W', St W0 (cells b (vcells z) t :: L) W' → k (.pointer (some ⟨b, 0, none⟩)) W') (h : St W0 L W := by first | assumption | exact St.tick (by assumption) | exact St.tick (St.tick (by assumption))) : efK P (Instr.alloc t true (.tuple #[])) k W := al h hk
theorem w12 {t : TypeId} {agg : Bool} {sz : Nat} [ht : TyI P t agg sz] {b off : Nat} {cs : List Value} {T : TypeId} {Lf : List Value → List Asn} [hu : Cu b L cs T Lf] {v : Value} {k : Unit → World → Prop}
    (hsz : (vcells v).length = sz) (ho : off + sz ≤ cs.length) (h1 : (vcells v).all oneC = true) (hk : ∀ W', St W0 (Lf (stL cs off (vcells v))) W' → k () W') (h : St W0 L W := by first | assumption | exact St.tick (by assumption) | exact St.tick (St.tick (by assumption))) : efK P (Instr.storeAt t (.pointer (some ⟨b, off, none⟩)) v) k W := sto h hsz ho h1 hk
end
end Go.Eng
/- Printed by an own tool (wip/tools/typ.py). -/
namespace Go.Proofs.Ytmojfpaagokckaa
set_option linter.unusedVariables false
set_option linter.unusedSimpArgs false
open Go.Eng
instance : TyI PR T_t1 false 1 := TyI.mk' (by kernel_rfl) (by kernel_rfl)
instance : TyZ PR T_t1 (.nilFunc) := TyZ.mk' (by kernel_rfl)
instance : TyI PR T_int64 false 1 := TyI.mk' (by kernel_rfl) (by kernel_rfl)
instance : TyZ PR T_int64 (.int .i64 0) := TyZ.mk' (by kernel_rfl)
instance : TyI PR T_int false 1 := TyI.mk' (by kernel_rfl) (by kernel_rfl)
instance : TyZ PR T_int (.int .i64 0) := TyZ.mk' (by kernel_rfl)
instance : TyI PR T_bool false 1 := TyI.mk' (by kernel_rfl) (by kernel_rfl)
instance : TyZ PR T_bool (.bool false) := TyZ.mk' (by kernel_rfl)
instance : TyI PR T_uint8 false 1 := TyI.mk' (by kernel_rfl) (by kernel_rfl)
instance : TyZ PR T_uint8 (.int .u8 0) := TyZ.mk' (by kernel_rfl)
instance : TyI PR T_abi_BoundsErrorCode false 1 := TyI.mk' (by kernel_rfl) (by kernel_rfl)
instance : TyZ PR T_abi_BoundsErrorCode (.int .u8 0) := TyZ.mk' (by kernel_rfl)
instance : TyI PR T_t7 true 4 := TyI.mk' (by kernel_rfl) (by kernel_rfl)
instance : TyZ PR T_t7 (.agg #[.int .i64 0, .int .i64 0, .bool false, .int .u8 0]) := TyZ.mk' (by kernel_rfl)
instance : EqS PR T_t7 [.i, .i, .b, .i] := EqS.mk' (by kernel_rfl) (by kernel_rfl) (by kernel_rfl)
instance : TyI PR T_runtime_boundsError true 4 := TyI.mk' (by kernel_rfl) (by kernel_rfl)
instance : TyZ PR T_runtime_boundsError (.agg #[.int .i64 0, .int .i64 0, .bool false, .int .u8 0]) := TyZ.mk' (by kernel_rfl)
instance : TyI PR T_string false 1 := TyI.mk' (by kernel_rfl) (by kernel_rfl)
instance : TyZ PR T_string (.string ⟨#[]⟩) := TyZ.mk' (by kernel_rfl)
instance : StrT PR T_string := ⟨by kernel_rfl⟩
instance : TyI PR T_runtime_errorString false 1 := TyI.mk' (by kernel_rfl) (by kernel_rfl)
instance : TyZ PR T_runtime_errorString (.string ⟨#[]⟩) := TyZ.mk' (by kernel_rfl)
instance : StrT PR T_runtime_errorString := ⟨by kernel_rfl⟩
instance : TyI PR T_runtime_plainError false 1 := TyI.mk' (by kernel_rfl) (by kernel_rfl)
instance : TyZ PR T_runtime_plainError (.string ⟨#[]⟩) := TyZ.mk' (by kernel_rfl)
instance : StrT PR T_runtime_plainError := ⟨by kernel_rfl⟩
instance : TyI PR T_uintptr false 1 := TyI.mk' (by kernel_rfl) (by kernel_rfl)
instance : TyZ PR T_uintptr (.int .u64 0) := TyZ.mk' (by kernel_rfl)
instance : TyI PR T_t13 true 2 := TyI.mk' (by kernel_rfl) (by kernel_rfl)
instance : TyZ PR T_t13 (.agg #[.string ⟨#[]⟩, .int .u64 0]) := TyZ.mk' (by kernel_rfl)
instance : TyI PR T_runtime_errorAddressString true 2 := TyI.mk' (by kernel_rfl) (by kernel_rfl)
instance : TyZ PR T_runtime_errorAddressString (.agg #[.string ⟨#[]⟩, .int .u64 0]) := TyZ.mk' (by kernel_rfl)
instance : TyI PR T_p_runtime_TypeAssertionError false 1 := TyI.mk' (by kernel_rfl) (by kernel_rfl)
instance : TyZ PR T_p_runtime_TypeAssertionError (.pointer none) := TyZ.mk' (by kernel_rfl)
instance : TyI PR T_p_runtime_PanicNilError false 1 := TyI.mk' (by kernel_rfl) (by kernel_rfl)
instance : TyZ PR T_p_runtime_PanicNilError (.pointer none) := TyZ.mk' (by kernel_rfl)
instance : TyI PR T_p_abi_Type false 1 := TyI.mk' (by kernel_rfl) (by kernel_rfl)
instance : TyZ PR T_p_abi_Type (.pointer none) := TyZ.mk' (by kernel_rfl)
instance : TyI PR T_t18 true 1 := TyI.mk' (by kernel_rfl) (by kernel_rfl)
instance : TyZ PR T_t18 (.agg #[.pointer none]) := TyZ.mk' (by kernel_rfl)
instance : TyI PR T_maps_unhashableTypeError true 1 := TyI.mk' (by kernel_rfl) (by kernel_rfl)
instance : TyZ PR T_maps_unhashableTypeError (.agg #[.pointer none]) := TyZ.mk' (by kernel_rfl)
instance : TyI PR T_t20 false 1 := TyI.mk' (by kernel_rfl) (by kernel_rfl)
instance : TyZ PR T_t20 (.nilIface) := TyZ.mk' (by kernel_rfl)
instance : TyI PR T_int32 false 1 := TyI.mk' (by kernel_rfl) (by kernel_rfl)
instance : TyZ PR T_int32 (.int .i32 0) := TyZ.mk' (by kernel_rfl)
instance : TyI PR T_s_api_Dot false 1 := TyI.mk' (by kernel_rfl) (by kernel_rfl)
instance : TyZ PR T_s_api_Dot (.slice none 0 0) := TyZ.mk' (by kernel_rfl)
instance : TyS PR T_s_api_Dot T_api_Dot 2 16 (.agg #[.int .i64 0, .int .i64 0]) := TyS.mk' (by kernel_rfl) (by kernel_rfl) (by kernel_rfl)
instance : TyI PR T_a7_int64 true 7 := TyI.mk' (by kernel_rfl) (by kernel_rfl)
instance : TyZ PR T_a7_int64 (.agg #[.int .i64 0, .int .i64 0, .int .i64 0, .int .i64 0, .int .i64 0, .int .i64 0, .int .i64 0]) := TyZ.mk' (by kernel_rfl)
instance : EqS PR T_a7_int64 [.i, .i, .i, .i, .i, .i, .i] := EqS.mk' (by kernel_rfl) (by kernel_rfl) (by kernel_rfl)
instance : TyI PR T_vec_Vec true 7 := TyI.mk' (by kernel_rfl) (by kernel_rfl)
instance : TyZ PR T_vec_Vec (.agg #[.int .i64 0, .int .i64 0, .int .i64 0, .int .i64 0, .int .i64 0, .int .i64 0, .int .i64 0]) := TyZ.mk' (by kernel_rfl)
instance : EqS PR T_vec_Vec [.i, .i, .i, .i, .i, .i, .i] := EqS.mk' (by kernel_rfl) (by kernel_rfl) (by kernel_rfl)
instance : TyI PR T_t25 false 1 := TyI.mk' (by kernel_rfl) (by kernel_rfl)
instance : TyZ PR T_t25 (.nilFunc) := TyZ.mk' (by kernel_rfl)
instance : TyI PR T_t26 false 1 := TyI.mk' (by kernel_rfl) (by kernel_rfl)
instance : TyZ PR T_t26 (.nilFunc) := TyZ.mk' (by kernel_rfl)
instance : TyI PR T_p_orset_Set false 1 := TyI.mk' (by kernel_rfl) (by kernel_rfl)
instance : TyZ PR T_p_orset_Set (.pointer none) := TyZ.mk' (by kernel_rfl)
instance : TyI PR T_t28 false 1 := TyI.mk' (by kernel_rfl) (by kernel_rfl)
instance : TyZ PR T_t28 (.nilFunc) := TyZ.mk' (by kernel_rfl)
instance : TyI PR T_api_Errno false 1 := TyI.mk' (by kernel_rfl) (by kernel_rfl)
instance : TyZ PR T_api_Errno (.int .i64 0) := TyZ.mk' (by kernel_rfl)
instance : TyI PR T_t30 false 1 := TyI.mk' (by kernel_rfl) (by kernel_rfl)
instance : TyZ PR T_t30 (.nilFunc) := TyZ.mk' (by kernel_rfl)
instance : TyI PR T_t31 false 1 := TyI.mk' (by kernel_rfl) (by kernel_rfl)
instance : TyZ PR T_t31 (.nilFunc) := TyZ.mk' (by kernel_rfl)
instance : TyI PR T_t32 true 2 := TyI.mk' (by kernel_rfl) (by kernel_rfl)
instance : TyZ PR T_t32 (.agg #[.int .i64 0, .int .i64 0]) := TyZ.mk' (by kernel_rfl)
instance : EqS PR T_t32 [.i, .i] := EqS.mk' (by kernel_rfl) (by kernel_rfl) (by kernel_rfl)
instance : TyI PR T_api_Dot true 2 := TyI.mk' (by kernel_rfl) (by kernel_rfl)
instance : TyZ PR T_api_Dot (.agg #[.int .i64 0, .int .i64 0]) := TyZ.mk' (by kernel_rfl)
instance : EqS PR T_api_Dot [.i, .i] := EqS.mk' (by kernel_rfl) (by kernel_rfl) (by kernel_rfl)
instance : TyI PR T_t34 false 1 := TyI.mk' (by kernel_rfl) (by kernel_rfl)
instance : TyZ PR T_t34 (.nilFunc) := TyZ.mk' (by kernel_rfl)
instance : TyI PR T_t35 false 1 := TyI.mk' (by kernel_rfl) (by kernel_rfl)
instance : TyZ PR T_t35 (.nilFunc) := TyZ.mk' (by kernel_rfl)
instance : TyI PR T_t36 false 1 := TyI.mk' (by kernel_rfl) (by kernel_rfl)
instance : TyZ PR T_t36 (.nilFunc) := TyZ.mk' (by kernel_rfl)
instance : TyI PR T_s_rostrumlaw9_Act false 1 := TyI.mk' (by kernel_rfl) (by kernel_rfl)
instance : TyZ PR T_s_rostrumlaw9_Act (.slice none 0 0) := TyZ.mk' (by kernel_rfl)
instance : TyS PR T_s_rostrumlaw9_Act T_rostrumlaw9_Act 11 96 (.agg #[.int .i64 0, .int .i64 0, .int .i64 0, .string ⟨#[]⟩, .int .i64 0, .int .i64 0, .int .i64 0, .int .i64 0, .int .i64 0, .int .i64 0, .int .i64 0]) := TyS.mk' (by kernel_rfl) (by kernel_rfl) (by kernel_rfl)
instance : TyI PR T_p_rostrumref7_Set false 1 := TyI.mk' (by kernel_rfl) (by kernel_rfl)
instance : TyZ PR T_p_rostrumref7_Set (.pointer none) := TyZ.mk' (by kernel_rfl)
instance : TyI PR T_s_rostrumref7_add false 1 := TyI.mk' (by kernel_rfl) (by kernel_rfl)
instance : TyZ PR T_s_rostrumref7_add (.slice none 0 0) := TyZ.mk' (by kernel_rfl)
instance : TyS PR T_s_rostrumref7_add T_rostrumref7_add 4 40 (.agg #[.int .i64 0, .int .i64 0, .string ⟨#[]⟩, .bool false]) := TyS.mk' (by kernel_rfl) (by kernel_rfl) (by kernel_rfl)
instance : TyI PR T_s_rostrumref7_remove false 1 := TyI.mk' (by kernel_rfl) (by kernel_rfl)
instance : TyZ PR T_s_rostrumref7_remove (.slice none 0 0) := TyZ.mk' (by kernel_rfl)
instance : TyS PR T_s_rostrumref7_remove T_rostrumref7_remove 8 72 (.agg #[.string ⟨#[]⟩, .int .i64 0, .int .i64 0, .int .i64 0, .int .i64 0, .int .i64 0, .int .i64 0, .int .i64 0]) := TyS.mk' (by kernel_rfl) (by kernel_rfl) (by kernel_rfl)
instance : TyI PR T_t41 true 2 := TyI.mk' (by kernel_rfl) (by kernel_rfl)
instance : TyZ PR T_t41 (.agg #[.slice none 0 0, .slice none 0 0]) := TyZ.mk' (by kernel_rfl)
instance : TyI PR T_rostrumref7_Set true 2 := TyI.mk' (by kernel_rfl) (by kernel_rfl)
instance : TyZ PR T_rostrumref7_Set (.agg #[.slice none 0 0, .slice none 0 0]) := TyZ.mk' (by kernel_rfl)
instance : TyI PR T_t43 true 11 := TyI.mk' (by kernel_rfl) (by kernel_rfl)
instance : TyZ PR T_t43 (.agg #[.int .i64 0, .int .i64 0, .int .i64 0, .string ⟨#[]⟩, .int .i64 0, .int .i64 0, .int .i64 0, .int .i64 0, .int .i64 0, .int .i64 0, .int .i64 0]) := TyZ.mk' (by kernel_rfl)
instance : EqS PR T_t43 [.i, .i, .i, .s, .i, .i, .i, .i, .i, .i, .i] := EqS.mk' (by kernel_rfl) (by kernel_rfl) (by kernel_rfl)
instance : TyI PR T_rostrumlaw9_Act true 11 := TyI.mk' (by kernel_rfl) (by kernel_rfl)
instance : TyZ PR T_rostrumlaw9_Act (.agg #[.int .i64 0, .int .i64 0, .int .i64 0, .string ⟨#[]⟩, .int .i64 0, .int .i64 0, .int .i64 0, .int .i64 0, .int .i64 0, .int .i64 0, .int .i64 0]) := TyZ.mk' (by kernel_rfl)
instance : EqS PR T_rostrumlaw9_Act [.i, .i, .i, .s, .i, .i, .i, .i, .i, .i, .i] := EqS.mk' (by kernel_rfl) (by kernel_rfl) (by kernel_rfl)
instance : TyI PR T_t45 false 1 := TyI.mk' (by kernel_rfl) (by kernel_rfl)
instance : TyZ PR T_t45 (.nilFunc) := TyZ.mk' (by kernel_rfl)
instance : TyI PR T_rostrumref7_Vec true 7 := TyI.mk' (by kernel_rfl) (by kernel_rfl)
instance : TyZ PR T_rostrumref7_Vec (.agg #[.int .i64 0, .int .i64 0, .int .i64 0, .int .i64 0, .int .i64 0, .int .i64 0, .int .i64 0]) := TyZ.mk' (by kernel_rfl)
instance : EqS PR T_rostrumref7_Vec [.i, .i, .i, .i, .i, .i, .i] := EqS.mk' (by kernel_rfl) (by kernel_rfl) (by kernel_rfl)
instance : TyI PR T_t47 false 1 := TyI.mk' (by kernel_rfl) (by kernel_rfl)
instance : TyZ PR T_t47 (.nilFunc) := TyZ.mk' (by kernel_rfl)
instance : TyI PR T_s_string false 1 := TyI.mk' (by kernel_rfl) (by kernel_rfl)
instance : TyZ PR T_s_string (.slice none 0 0) := TyZ.mk' (by kernel_rfl)
instance : TyS PR T_s_string T_string 1 16 (.string ⟨#[]⟩) := TyS.mk' (by kernel_rfl) (by kernel_rfl) (by kernel_rfl)
instance : TyI PR T_t49 false 1 := TyI.mk' (by kernel_rfl) (by kernel_rfl)
instance : TyZ PR T_t49 (.nilFunc) := TyZ.mk' (by kernel_rfl)
instance : TyI PR T_t50 false 1 := TyI.mk' (by kernel_rfl) (by kernel_rfl)
instance : TyZ PR T_t50 (.nilFunc) := TyZ.mk' (by kernel_rfl)
instance : TyI PR T_t51 false 1 := TyI.mk' (by kernel_rfl) (by kernel_rfl)
instance : TyZ PR T_t51 (.nilFunc) := TyZ.mk' (by kernel_rfl)
instance : TyI PR T_s_uint8 false 1 := TyI.mk' (by kernel_rfl) (by kernel_rfl)
instance : TyZ PR T_s_uint8 (.slice none 0 0) := TyZ.mk' (by kernel_rfl)
instance : BytesT PR T_s_uint8 T_uint8 := ⟨by kernel_rfl, by kernel_rfl⟩
instance : TyS PR T_s_uint8 T_uint8 1 1 (.int .u8 0) := TyS.mk' (by kernel_rfl) (by kernel_rfl) (by kernel_rfl)
instance : TyI PR T_t53 false 1 := TyI.mk' (by kernel_rfl) (by kernel_rfl)
instance : TyZ PR T_t53 (.nilFunc) := TyZ.mk' (by kernel_rfl)
instance : TyI PR T_t54 false 1 := TyI.mk' (by kernel_rfl) (by kernel_rfl)
instance : TyZ PR T_t54 (.nilFunc) := TyZ.mk' (by kernel_rfl)
instance : TyI PR T_t55 false 1 := TyI.mk' (by kernel_rfl) (by kernel_rfl)
instance : TyZ PR T_t55 (.nilFunc) := TyZ.mk' (by kernel_rfl)
instance : TyI PR T_t56 false 1 := TyI.mk' (by kernel_rfl) (by kernel_rfl)
instance : TyZ PR T_t56 (.nilFunc) := TyZ.mk' (by kernel_rfl)
instance : TyI PR T_t57 false 1 := TyI.mk' (by kernel_rfl) (by kernel_rfl)
instance : TyZ PR T_t57 (.nilFunc) := TyZ.mk' (by kernel_rfl)
instance : TyI PR T_t58 false 1 := TyI.mk' (by kernel_rfl) (by kernel_rfl)
instance : TyZ PR T_t58 (.nilFunc) := TyZ.mk' (by kernel_rfl)
instance : TyI PR T_t59 false 1 := TyI.mk' (by kernel_rfl) (by kernel_rfl)
instance : TyZ PR T_t59 (.nilFunc) := TyZ.mk' (by kernel_rfl)
instance : TyI PR T_t60 false 1 := TyI.mk' (by kernel_rfl) (by kernel_rfl)
instance : TyZ PR T_t60 (.nilFunc) := TyZ.mk' (by kernel_rfl)
instance : TyI PR T_m_api_Dot_string false 1 := TyI.mk' (by kernel_rfl) (by kernel_rfl)
instance : TyZ PR T_m_api_Dot_string (.map none) := TyZ.mk' (by kernel_rfl)
instance : TyI PR T_m_string_vec_Vec false 1 := TyI.mk' (by kernel_rfl) (by kernel_rfl)
instance : TyZ PR T_m_string_vec_Vec (.map none) := TyZ.mk' (by kernel_rfl)
instance : TyI PR T_t63 true 2 := TyI.mk' (by kernel_rfl) (by kernel_rfl)
instance : TyZ PR T_t63 (.agg #[.map none, .map none]) := TyZ.mk' (by kernel_rfl)
instance : TyI PR T_orset_Set true 2 := TyI.mk' (by kernel_rfl) (by kernel_rfl)
instance : TyZ PR T_orset_Set (.agg #[.map none, .map none]) := TyZ.mk' (by kernel_rfl)
instance : TyI PR T_t65 false 1 := TyI.mk' (by kernel_rfl) (by kernel_rfl)
instance : TyZ PR T_t65 (.nilFunc) := TyZ.mk' (by kernel_rfl)
instance : TyI PR T_t66 false 1 := TyI.mk' (by kernel_rfl) (by kernel_rfl)
instance : TyZ PR T_t66 (.nilFunc) := TyZ.mk' (by kernel_rfl)
instance : TyI PR T_t68 false 1 := TyI.mk' (by kernel_rfl) (by kernel_rfl)
instance : TyZ PR T_t68 (.nilFunc) := TyZ.mk' (by kernel_rfl)
instance : TyI PR T_t69 true 4 := TyI.mk' (by kernel_rfl) (by kernel_rfl)
instance : TyZ PR T_t69 (.agg #[.int .i64 0, .int .i64 0, .string ⟨#[]⟩, .bool false]) := TyZ.mk' (by kernel_rfl)
instance : EqS PR T_t69 [.i, .i, .s, .b] := EqS.mk' (by kernel_rfl) (by kernel_rfl) (by kernel_rfl)
instance : TyI PR T_rostrumref7_add true 4 := TyI.mk' (by kernel_rfl) (by kernel_rfl)
instance : TyZ PR T_rostrumref7_add (.agg #[.int .i64 0, .int .i64 0, .string ⟨#[]⟩, .bool false]) := TyZ.mk' (by kernel_rfl)
instance : EqS PR T_rostrumref7_add [.i, .i, .s, .b] := EqS.mk' (by kernel_rfl) (by kernel_rfl) (by kernel_rfl)
instance : TyI PR T_t71 true 8 := TyI.mk' (by kernel_rfl) (by kernel_rfl)
instance : TyZ PR T_t71 (.agg #[.string ⟨#[]⟩, .int .i64 0, .int .i64 0, .int .i64 0, .int .i64 0, .int .i64 0, .int .i64 0, .int .i64 0]) := TyZ.mk' (by kernel_rfl)
instance : EqS PR T_t71 [.s, .i, .i, .i, .i, .i, .i, .i] := EqS.mk' (by kernel_rfl) (by kernel_rfl) (by kernel_rfl)
instance : TyI PR T_rostrumref7_remove true 8 := TyI.mk' (by kernel_rfl) (by kernel_rfl)
instance : TyZ PR T_rostrumref7_remove (.agg #[.string ⟨#[]⟩, .int .i64 0, .int .i64 0, .int .i64 0, .int .i64 0, .int .i64 0, .int .i64 0, .int .i64 0]) := TyZ.mk' (by kernel_rfl)
instance : EqS PR T_rostrumref7_remove [.s, .i, .i, .i, .i, .i, .i, .i] := EqS.mk' (by kernel_rfl) (by kernel_rfl) (by kernel_rfl)
instance : TyI PR T_t73 false 1 := TyI.mk' (by kernel_rfl) (by kernel_rfl)
instance : TyZ PR T_t73 (.nilFunc) := TyZ.mk' (by kernel_rfl)
instance : TyI PR T_t74 false 1 := TyI.mk' (by kernel_rfl) (by kernel_rfl)
instance : TyZ PR T_t74 (.nilFunc) := TyZ.mk' (by kernel_rfl)
instance : TyI PR T_t75 false 1 := TyI.mk' (by kernel_rfl) (by kernel_rfl)
instance : TyZ PR T_t75 (.nilFunc) := TyZ.mk' (by kernel_rfl)
instance : TyI PR T_t76 false 1 := TyI.mk' (by kernel_rfl) (by kernel_rfl)
instance : TyZ PR T_t76 (.nilFunc) := TyZ.mk' (by kernel_rfl)
instance : TyI PR T_t77 false 1 := TyI.mk' (by kernel_rfl) (by kernel_rfl)
instance : TyZ PR T_t77 (.nilFunc) := TyZ.mk' (by kernel_rfl)
instance : TyI PR T_t78 false 1 := TyI.mk' (by kernel_rfl) (by kernel_rfl)
instance : TyZ PR T_t78 (.nilFunc) := TyZ.mk' (by kernel_rfl)
instance : TyI PR T_t79 false 1 := TyI.mk' (by kernel_rfl) (by kernel_rfl)
instance : TyZ PR T_t79 (.nilFunc) := TyZ.mk' (by kernel_rfl)
instance : TyI PR T_t80 false 1 := TyI.mk' (by kernel_rfl) (by kernel_rfl)
instance : TyZ PR T_t80 (.nilFunc) := TyZ.mk' (by kernel_rfl)
instance : TyI PR T_t81 false 1 := TyI.mk' (by kernel_rfl) (by kernel_rfl)
instance : TyZ PR T_t81 (.nilFunc) := TyZ.mk' (by kernel_rfl)
instance : TyI PR T_t82 false 1 := TyI.mk' (by kernel_rfl) (by kernel_rfl)
instance : TyZ PR T_t82 (.nilFunc) := TyZ.mk' (by kernel_rfl)
instance : TyI PR T_t83 false 1 := TyI.mk' (by kernel_rfl) (by kernel_rfl)
instance : TyZ PR T_t83 (.nilFunc) := TyZ.mk' (by kernel_rfl)
instance : TyI PR T_t84 false 1 := TyI.mk' (by kernel_rfl) (by kernel_rfl)
instance : TyZ PR T_t84 (.nilFunc) := TyZ.mk' (by kernel_rfl)
instance : TyI PR T_t85 false 1 := TyI.mk' (by kernel_rfl) (by kernel_rfl)
instance : TyZ PR T_t85 (.nilFunc) := TyZ.mk' (by kernel_rfl)
instance : TyI PR T_t86 false 1 := TyI.mk' (by kernel_rfl) (by kernel_rfl)
instance : TyZ PR T_t86 (.nilFunc) := TyZ.mk' (by kernel_rfl)
instance : TyI PR T_t87 false 1 := TyI.mk' (by kernel_rfl) (by kernel_rfl)
instance : TyZ PR T_t87 (.nilFunc) := TyZ.mk' (by kernel_rfl)
instance : TyI PR T_t88 false 1 := TyI.mk' (by kernel_rfl) (by kernel_rfl)
instance : TyZ PR T_t88 (.nilFunc) := TyZ.mk' (by kernel_rfl)
instance : TyI PR T_t89 false 1 := TyI.mk' (by kernel_rfl) (by kernel_rfl)
instance : TyZ PR T_t89 (.nilFunc) := TyZ.mk' (by kernel_rfl)
instance : TyI PR T_t90 false 1 := TyI.mk' (by kernel_rfl) (by kernel_rfl)
instance : TyZ PR T_t90 (.nilFunc) := TyZ.mk' (by kernel_rfl)
instance : TyI PR T_uint false 1 := TyI.mk' (by kernel_rfl) (by kernel_rfl)
instance : TyZ PR T_uint (.int .u64 0) := TyZ.mk' (by kernel_rfl)
instance : TyI PR T_t92 false 1 := TyI.mk' (by kernel_rfl) (by kernel_rfl)
instance : TyZ PR T_t92 (.nilFunc) := TyZ.mk' (by kernel_rfl)
instance : TyI PR T_t93 false 1 := TyI.mk' (by kernel_rfl) (by kernel_rfl)
instance : TyZ PR T_t93 (.nilFunc) := TyZ.mk' (by kernel_rfl)
instance : TyI PR T_t94 false 1 := TyI.mk' (by kernel_rfl) (by kernel_rfl)
instance : TyZ PR T_t94 (.nilFunc) := TyZ.mk' (by kernel_rfl)
instance : TyI PR T_t95 false 1 := TyI.mk' (by kernel_rfl) (by kernel_rfl)
instance : TyZ PR T_t95 (.nilFunc) := TyZ.mk' (by kernel_rfl)
instance : TyI PR T_t96 false 1 := TyI.mk' (by kernel_rfl) (by kernel_rfl)
instance : TyZ PR T_t96 (.nilFunc) := TyZ.mk' (by kernel_rfl)
instance : TyI PR T_uint64 false 1 := TyI.mk' (by kernel_rfl) (by kernel_rfl)
instance : TyZ PR T_uint64 (.int .u64 0) := TyZ.mk' (by kernel_rfl)
instance : TyI PR T_t98 false 1 := TyI.mk' (by kernel_rfl) (by kernel_rfl)
instance : TyZ PR T_t98 (.nilFunc) := TyZ.mk' (by kernel_rfl)
instance : TyI PR T_t99 false 1 := TyI.mk' (by kernel_rfl) (by kernel_rfl)
instance : TyZ PR T_t99 (.nilFunc) := TyZ.mk' (by kernel_rfl)
instance : TyI PR T_slices_sortedHint false 1 := TyI.mk' (by kernel_rfl) (by kernel_rfl)
instance : TyZ PR T_slices_sortedHint (.int .i64 0) := TyZ.mk' (by kernel_rfl)
instance : TyI PR T_t102 false 1 := TyI.mk' (by kernel_rfl) (by kernel_rfl)
instance : TyZ PR T_t102 (.nilFunc) := TyZ.mk' (by kernel_rfl)
instance : TyI PR T_t103 false 1 := TyI.mk' (by kernel_rfl) (by kernel_rfl)
instance : TyZ PR T_t103 (.nilFunc) := TyZ.mk' (by kernel_rfl)
instance : TyI PR T_t104 false 1 := TyI.mk' (by kernel_rfl) (by kernel_rfl)
instance : TyZ PR T_t104 (.nilFunc) := TyZ.mk' (by kernel_rfl)
instance : TyI PR T_t105 false 1 := TyI.mk' (by kernel_rfl) (by kernel_rfl)
instance : TyZ PR T_t105 (.nilFunc) := TyZ.mk' (by kernel_rfl)
instance : TyI PR T_t107 false 1 := TyI.mk' (by kernel_rfl) (by kernel_rfl)
instance : TyZ PR T_t107 (.nilFunc) := TyZ.mk' (by kernel_rfl)
instance : TyI PR T_t108 false 1 := TyI.mk' (by kernel_rfl) (by kernel_rfl)
instance : TyZ PR T_t108 (.nilFunc) := TyZ.mk' (by kernel_rfl)
instance : TyI PR T_uint32 false 1 := TyI.mk' (by kernel_rfl) (by kernel_rfl)
instance : TyZ PR T_uint32 (.int .u32 0) := TyZ.mk' (by kernel_rfl)
instance : TyI PR T_t110 false 1 := TyI.mk' (by kernel_rfl) (by kernel_rfl)
instance : TyZ PR T_t110 (.nilFunc) := TyZ.mk' (by kernel_rfl)
instance : TyI PR T_t111 false 1 := TyI.mk' (by kernel_rfl) (by kernel_rfl)
instance : TyZ PR T_t111 (.nilFunc) := TyZ.mk' (by kernel_rfl)
instance : TyI PR T_t112 false 1 := TyI.mk' (by kernel_rfl) (by kernel_rfl)
instance : TyZ PR T_t112 (.nilFunc) := TyZ.mk' (by kernel_rfl)
instance : TyI PR T_t113 false 1 := TyI.mk' (by kernel_rfl) (by kernel_rfl)
instance : TyZ PR T_t113 (.nilFunc) := TyZ.mk' (by kernel_rfl)
instance : TyI PR T_t114 false 1 := TyI.mk' (by kernel_rfl) (by kernel_rfl)
instance : TyZ PR T_t114 (.nilFunc) := TyZ.mk' (by kernel_rfl)
instance : TyI PR T_t115 false 1 := TyI.mk' (by kernel_rfl) (by kernel_rfl)
instance : TyZ PR T_t115 (.nilFunc) := TyZ.mk' (by kernel_rfl)
instance : TyI PR T_s_int false 1 := TyI.mk' (by kernel_rfl) (by kernel_rfl)
instance : TyZ PR T_s_int (.slice none 0 0) := TyZ.mk' (by kernel_rfl)
instance : TyS PR T_s_int T_int 1 8 (.int .i64 0) := TyS.mk' (by kernel_rfl) (by kernel_rfl) (by kernel_rfl)
instance : TyI PR T_t117 false 1 := TyI.mk' (by kernel_rfl) (by kernel_rfl)
instance : TyZ PR T_t117 (.nilFunc) := TyZ.mk' (by kernel_rfl)
instance : TyI PR T_slices_xorshift false 1 := TyI.mk' (by kernel_rfl) (by kernel_rfl)
instance : TyZ PR T_slices_xorshift (.int .u64 0) := TyZ.mk' (by kernel_rfl)
instance : TyI PR T_t119 false 1 := TyI.mk' (by kernel_rfl) (by kernel_rfl)
instance : TyZ PR T_t119 (.nilFunc) := TyZ.mk' (by kernel_rfl)
instance : TyI PR T_t120 false 1 := TyI.mk' (by kernel_rfl) (by kernel_rfl)
instance : TyZ PR T_t120 (.nilFunc) := TyZ.mk' (by kernel_rfl)
instance : TyI PR T_t121 false 1 := TyI.mk' (by kernel_rfl) (by kernel_rfl)
instance : TyZ PR T_t121 (.nilFunc) := TyZ.mk' (by kernel_rfl)
instance : TyI PR T_p_int false 1 := TyI.mk' (by kernel_rfl) (by kernel_rfl)
instance : TyZ PR T_p_int (.pointer none) := TyZ.mk' (by kernel_rfl)
instance : TyI PR T_t123 false 1 := TyI.mk' (by kernel_rfl) (by kernel_rfl)
instance : TyZ PR T_t123 (.nilFunc) := TyZ.mk' (by kernel_rfl)
instance : TyI PR T_t124 false 1 := TyI.mk' (by kernel_rfl) (by kernel_rfl)
instance : TyZ PR T_t124 (.nilFunc) := TyZ.mk' (by kernel_rfl)
instance : TyI PR T_t125 false 1 := TyI.mk' (by kernel_rfl) (by kernel_rfl)
instance : TyZ PR T_t125 (.nilFunc) := TyZ.mk' (by kernel_rfl)
instance : TyI PR T_p_slices_xorshift false 1 := TyI.mk' (by kernel_rfl) (by kernel_rfl)
instance : TyZ PR T_p_slices_xorshift (.pointer none) := TyZ.mk' (by kernel_rfl)
instance : TyI PR T_t128 false 1 := TyI.mk' (by kernel_rfl) (by kernel_rfl)
instance : TyZ PR T_t128 (.nilFunc) := TyZ.mk' (by kernel_rfl)
instance : TyI PR T_t129 false 1 := TyI.mk' (by kernel_rfl) (by kernel_rfl)
instance : TyZ PR T_t129 (.nilFunc) := TyZ.mk' (by kernel_rfl)
instance : TyI PR T_t130 false 1 := TyI.mk' (by kernel_rfl) (by kernel_rfl)
instance : TyZ PR T_t130 (.nilFunc) := TyZ.mk' (by kernel_rfl)
instance : TyI PR T_t131 true 4 := TyI.mk' (by kernel_rfl) (by kernel_rfl)
instance : TyZ PR T_t131 (.agg #[.pointer none, .pointer none, .pointer none, .string ⟨#[]⟩]) := TyZ.mk' (by kernel_rfl)
instance : TyI PR T_runtime_TypeAssertionError true 4 := TyI.mk' (by kernel_rfl) (by kernel_rfl)
instance : TyZ PR T_runtime_TypeAssertionError (.agg #[.pointer none, .pointer none, .pointer none, .string ⟨#[]⟩]) := TyZ.mk' (by kernel_rfl)
instance : TyI PR T_a0_p_runtime_PanicNilError true 0 := TyI.mk' (by kernel_rfl) (by kernel_rfl)
instance : TyZ PR T_a0_p_runtime_PanicNilError (.agg #[]) := TyZ.mk' (by kernel_rfl)
instance : TyI PR T_t134 true 0 := TyI.mk' (by kernel_rfl) (by kernel_rfl)
instance : TyZ PR T_t134 (.agg #[]) := TyZ.mk' (by kernel_rfl)
instance : TyI PR T_runtime_PanicNilError true 0 := TyI.mk' (by kernel_rfl) (by kernel_rfl)
instance : TyZ PR T_runtime_PanicNilError (.agg #[]) := TyZ.mk' (by kernel_rfl)
instance : TyI PR T_t136 false 1 := TyI.mk' (by kernel_rfl) (by kernel_rfl)
instance : TyZ PR T_t136 (.nilFunc) := TyZ.mk' (by kernel_rfl)
instance : TyI PR T_abi_TFlag false 1 := TyI.mk' (by kernel_rfl) (by kernel_rfl)
instance : TyZ PR T_abi_TFlag (.int .u8 0) := TyZ.mk' (by kernel_rfl)
instance : TyI PR T_abi_Kind false 1 := TyI.mk' (by kernel_rfl) (by kernel_rfl)
instance : TyZ PR T_abi_Kind (.int .u8 0) := TyZ.mk' (by kernel_rfl)
instance : TyI PR T_t139 false 1 := TyI.mk' (by kernel_rfl) (by kernel_rfl)
instance : TyZ PR T_t139 (.nilFunc) := TyZ.mk' (by kernel_rfl)
instance : TyI PR T_p_uint8 false 1 := TyI.mk' (by kernel_rfl) (by kernel_rfl)
instance : TyZ PR T_p_uint8 (.pointer none) := TyZ.mk' (by kernel_rfl)
instance : TyI PR T_abi_NameOff false 1 := TyI.mk' (by kernel_rfl) (by kernel_rfl)
instance : TyZ PR T_abi_NameOff (.int .i32 0) := TyZ.mk' (by kernel_rfl)
instance : TyI PR T_abi_TypeOff false 1 := TyI.mk' (by kernel_rfl) (by kernel_rfl)
instance : TyZ PR T_abi_TypeOff (.int .i32 0) := TyZ.mk' (by kernel_rfl)
instance : TyI PR T_t143 true 11 := TyI.mk' (by kernel_rfl) (by kernel_rfl)
instance : TyZ PR T_t143 (.agg #[.int .u64 0, .int .u64 0, .int .u32 0, .int .u8 0, .int .u8 0, .int .u8 0, .int .u8 0, .nilFunc, .pointer none, .int .i32 0, .int .i32 0]) := TyZ.mk' (by kernel_rfl)
instance : TyI PR T_abi_Type true 11 := TyI.mk' (by kernel_rfl) (by kernel_rfl)
instance : TyZ PR T_abi_Type (.agg #[.int .u64 0, .int .u64 0, .int .u32 0, .int .u8 0, .int .u8 0, .int .u8 0, .int .u8 0, .nilFunc, .pointer none, .int .i32 0, .int .i32 0]) := TyZ.mk' (by kernel_rfl)
instance : TyI PR T_unsafe_Pointer false 1 := TyI.mk' (by kernel_rfl) (by kernel_rfl)
instance : TyZ PR T_unsafe_Pointer (.pointer none) := TyZ.mk' (by kernel_rfl)
end Go.Proofs.Ytmojfpaagokckaa
namespace Go.Proofs.Ytmojfpaagokckaa
set_option linter.unusedVariables false
set_option linter.unusedSimpArgs false
open Go.Eng
/-! ### cmp.isNaN[int] (84) -/
def S.cmp_isNaN_int.body (R : Value → World → Prop) (v0 : Value) (W : World) : Prop :=
  okF (binP .neq v0 v0) fun v5 =>
  R v5 W
def S.cmp_isNaN_int.hint : Hint := (.two .nil (.two .nil .nil))
theorem S.cmp_isNaN_int.ok (R : Value → World → Prop) (v0 : Value) (W : World) : bodyK PR CB Try.f84 S.cmp_isNaN_int.hint [v0] R W = S.cmp_isNaN_int.body R v0 W := by kernel_rfl
theorem S.cmp_isNaN_int.fn : PR.funcs[F_cmp_isNaN_int]? = some Try.f84 := by kernel_rfl
theorem S.cmp_isNaN_int.call {R : Value → World → Prop} {v0 : Value} {W : World} (h : S.cmp_isNaN_int.body R v0 W) : callK PR F_cmp_isNaN_int [v0] R W :=
  callK_of_body (g := F_cmp_isNaN_int) (fn := Try.f84) (args := [v0]) (R := R) (w := W) mixed CBok S.cmp_isNaN_int.fn S.cmp_isNaN_int.hint (by rw [S.cmp_isNaN_int.ok]; exact h)
/-! ### cmp.isNaN[int64] (85) -/
def S.cmp_isNaN_int64.body (R : Value → World → Prop) (v0 : Value) (W : World) : Prop :=
  okF (binP .neq v0 v0) fun v5 =>
  R v5 W
def S.cmp_isNaN_int64.hint : Hint := (.two .nil (.two .nil .nil))
theorem S.cmp_isNaN_int64.ok (R : Value → World → Prop) (v0 : Value) (W : World) : bodyK PR CB Try.f85 S.cmp_isNaN_int64.hint [v0] R W = S.cmp_isNaN_int64.body R v0 W := by kernel_rfl
theorem S.cmp_isNaN_int64.fn : PR.funcs[F_cmp_isNaN_int64]? = some Try.f85 := by kernel_rfl
theorem S.cmp_isNaN_int64.call {R : Value → World → Prop} {v0 : Value} {W : World} (h : S.cmp_isNaN_int64.body R v0 W) : callK PR F_cmp_isNaN_int64 [v0] R W :=
  callK_of_body (g := F_cmp_isNaN_int64) (fn := Try.f85) (args := [v0]) (R := R) (w := W) mixed CBok S.cmp_isNaN_int64.fn S.cmp_isNaN_int64.hint (by rw [S.cmp_isNaN_int64.ok]; exact h)
/-! ### cmp.Compare[int] (59) -/
def S.cmp_Compare_int.body (R : Value → World → Prop) (v0 v1 : Value) (W : World) : Prop :=
  callK PR F_cmp_isNaN_int [v0] (fun v8 W =>
  callK PR F_cmp_isNaN_int [v1] (fun v10 W =>
  ifK v8 (
  ifK v10 (
  R (.int .i64 0) W) (
  R (.int .i64 (-1)) W)) (
  ifK v10 (
  R (.int .i64 1) W) (
  okF (binP .lss v0 v1) fun v16 =>
  ifK v16 (
  R (.int .i64 (-1)) W) (
  okF (binP .gtr v0 v1) fun v19 =>
  ifK v19 (
  R (.int .i64 1) W) (
  R (.int .i64 0) W))))) W) W
def S.cmp_Compare_int.hint : Hint := (.two .nil (.two .nil (.two .nil (.two (.two .nil (.two (.two (.two .nil (.two (.two .nil .nil) .nil)) (.two .nil .nil)) .nil)) (.two (.two .nil (.two (.two .nil .nil) .nil)) (.two (.two .nil (.two (.two .nil .nil) .nil)) (.two (.two .nil (.two (.two .nil .nil) .nil)) (.two .nil .nil))))))))
theorem S.cmp_Compare_int.ok (R : Value → World → Prop) (v0 v1 : Value) (W : World) : bodyK PR CB Try.f59 S.cmp_Compare_int.hint [v0, v1] R W = S.cmp_Compare_int.body R v0 v1 W := by kernel_rfl
theorem S.cmp_Compare_int.fn : PR.funcs[F_cmp_Compare_int]? = some Try.f59 := by kernel_rfl
theorem S.cmp_Compare_int.call {R : Value → World → Prop} {v0 v1 : Value} {W : World} (h : S.cmp_Compare_int.body R v0 v1 W) : callK PR F_cmp_Compare_int [v0, v1] R W :=
  callK_of_body (g := F_cmp_Compare_int) (fn := Try.f59) (args := [v0, v1]) (R := R) (w := W) mixed CBok S.cmp_Compare_int.fn S.cmp_Compare_int.hint (by rw [S.cmp_Compare_int.ok]; exact h)
/-! ### cmp.Compare[int64] (60) -/
def S.cmp_Compare_int64.body (R : Value → World → Prop) (v0 v1 : Value) (W : World) : Prop :=
  callK PR F_cmp_isNaN_int64 [v0] (fun v8 W =>
  callK PR F_cmp_isNaN_int64 [v1] (fun v10 W =>
  ifK v8 (
  ifK v10 (
  R (.int .i64 0) W) (
  R (.int .i64 (-1)) W)) (
  ifK v10 (
  R (.int .i64 1) W) (
  okF (binP .lss v0 v1) fun v16 =>
  ifK v16 (
  R (.int .i64 (-1)) W) (
  okF (binP .gtr v0 v1) fun v19 =>
  ifK v19 (
  R (.int .i64 1) W) (
  R (.int .i64 0) W))))) W) W
def S.cmp_Compare_int64.hint : Hint := (.two .nil (.two .nil (.two .nil (.two (.two .nil (.two (.two (.two .nil (.two (.two .nil .nil) .nil)) (.two .nil .nil)) .nil)) (.two (.two .nil (.two (.two .nil .nil) .nil)) (.two (.two .nil (.two (.two .nil .nil) .nil)) (.two (.two .nil (.two (.two .nil .nil) .nil)) (.two .nil .nil))))))))
theorem S.cmp_Compare_int64.ok (R : Value → World → Prop) (v0 v1 : Value) (W : World) : bodyK PR CB Try.f60 S.cmp_Compare_int64.hint [v0, v1] R W = S.cmp_Compare_int64.body R v0 v1 W := by kernel_rfl
theorem S.cmp_Compare_int64.fn : PR.funcs[F_cmp_Compare_int64]? = some Try.f60 := by kernel_rfl
theorem S.cmp_Compare_int64.call {R : Value → World → Prop} {v0 v1 : Value} {W : World} (h : S.cmp_Compare_int64.body R v0 v1 W) : callK PR F_cmp_Compare_int64 [v0, v1] R W :=
  callK_of_body (g := F_cmp_Compare_int64) (fn := Try.f60) (args := [v0, v1]) (R := R) (w := W) mixed CBok S.cmp_Compare_int64.fn S.cmp_Compare_int64.hint (by rw [S.cmp_Compare_int64.ok]; exact h)
/-! ### cmp.Or[int] (58) -/
def S.cmp_Or_int.j1 (R : Value → World → Prop) (x3 : Value) (W : World) : Prop :=
  R x3 W
def S.cmp_Or_int.l1 (R : Value → World → Prop) (J1 : List Value → World → Prop) (K1 : List Value → World → Prop) (x3 x6 x7 x8 : Value) (W : World) : Prop :=
  okF (binP .lss x8 x7) fun v9 =>
  ifK v9 (
  okF (idxS 1 x6 x8) fun v10 =>
  rdK PR (Instr.loadAt T_int v10) (fun v11 W =>
  okF (binP .neq v11 x3) fun v14 =>
  ifK v14 (
  R v11 W) (
  okF (binP .add x8 (.int .i64 1)) fun v16 =>
  K1 [x3, x6, x7, v16] W)) W) (
  J1 [x3] W)
def S.cmp_Or_int.body (R : Value → World → Prop) (v0 : Value) (W : World) : Prop :=
  joinK (fun s W => S.cmp_Or_int.j1 R (nthv s 0) W) (fun J1 =>
  okF (lenP (.slice T_int) v0) fun v7 =>
  loopK (fun K1 s W => S.cmp_Or_int.l1 R J1 K1 (nthv s 0) (nthv s 1) (nthv s 2) (nthv s 3) W) [(.int .i64 0), v0, v7, (.int .i64 0)] W)
def S.cmp_Or_int.hint : Hint := (.two .nil (.two .nil (.at [3] (.two .nil (.at [3, 6, 7, 8] (.two .nil (.two (.two .nil .nil) (.two (.two .nil (.two .nil (.two (.two .nil .nil) .nil))) .nil))) .nil)) (.two .nil .nil))))
theorem S.cmp_Or_int.ok (R : Value → World → Prop) (v0 : Value) (W : World) : bodyK PR CB Try.f58 S.cmp_Or_int.hint [v0] R W = S.cmp_Or_int.body R v0 W := by kernel_rfl
theorem S.cmp_Or_int.fn : PR.funcs[F_cmp_Or_int]? = some Try.f58 := by kernel_rfl
theorem S.cmp_Or_int.call {R : Value → World → Prop} {v0 : Value} {W : World} (h : S.cmp_Or_int.body R v0 W) : callK PR F_cmp_Or_int [v0] R W :=
  callK_of_body (g := F_cmp_Or_int) (fn := Try.f58) (args := [v0]) (R := R) (w := W) mixed CBok S.cmp_Or_int.fn S.cmp_Or_int.hint (by rw [S.cmp_Or_int.ok]; exact h)
/-! ### rostrum/vec.Rep (32) -/
def S.vec_Rep.body (R : Value → World → Prop) (v0 : Value) (W : World) : Prop :=
  okF (binP .geq v0 (.int .i64 0)) fun v4 =>
  gdK (wantd v4 true) (fun k W => k v0 W) (fun v6 W =>
  gdK (wantd v4 true) (fun k W => okF (binP .lss v6 (.int .i64 7)) fun v => k v W) (fun v7 W =>
  okF (pickP v4 v7 (.bool false)) fun v8 =>
  R v8 W) W) W
def S.vec_Rep.hint : Hint := (.two .nil (.two .nil .nil))
theorem S.vec_Rep.ok (R : Value → World → Prop) (v0 : Value) (W : World) : bodyK PR CB Try.f32 S.vec_Rep.hint [v0] R W = S.vec_Rep.body R v0 W := by kernel_rfl
theorem S.vec_Rep.fn : PR.funcs[F_vec_Rep]? = some Try.f32 := by kernel_rfl
theorem S.vec_Rep.call {R : Value → World → Prop} {v0 : Value} {W : World} (h : S.vec_Rep.body R v0 W) : callK PR F_vec_Rep [v0] R W :=
  callK_of_body (g := F_vec_Rep) (fn := Try.f32) (args := [v0]) (R := R) (w := W) mixed CBok S.vec_Rep.fn S.vec_Rep.hint (by rw [S.vec_Rep.ok]; exact h)
/-! ### rostrum/vec.Dot (31) -/
def S.vec_Dot.body (R : Value → World → Prop) (v0 : Value) (W : World) : Prop :=
  efK PR (Instr.box T_api_Dot v0) (fun v1 W =>
  okF (addrF 0 v1) fun v3 =>
  rdK PR (Instr.loadAt T_int v3) (fun v4 W =>
  callK PR F_vec_Rep [v4] (fun v5 W =>
  gdK (wantd v5 true) (fun k W => okF (addrF 1 v1) fun v => k v W) (fun v7 W =>
  gdK (wantd v5 true) (fun k W => rdK PR (Instr.loadAt T_int64 v7) k W) (fun v8 W =>
  gdK (wantd v5 true) (fun k W => okF (binP .geq v8 (.int .i64 1)) fun v => k v W) (fun v9 W =>
  okF (pickP v5 v9 (.bool false)) fun v10 =>
  gdK (wantd v10 true) (fun k W => okF (addrF 1 v1) fun v => k v W) (fun v12 W =>
  gdK (wantd v10 true) (fun k W => rdK PR (Instr.loadAt T_int64 v12) k W) (fun v13 W =>
  gdK (wantd v10 true) (fun k W => okF (binP .leq v13 (.int .i64 1099511627776)) fun v => k v W) (fun v14 W =>
  okF (pickP v10 v14 (.bool false)) fun v15 =>
  R v15 W) W) W) W) W) W) W) W) W) W
def S.vec_Dot.hint : Hint := (.two .nil (.two .nil .nil))
theorem S.vec_Dot.ok (R : Value → World → Prop) (v0 : Value) (W : World) : bodyK PR CB Try.f31 S.vec_Dot.hint [v0] R W = S.vec_Dot.body R v0 W := by kernel_rfl
theorem S.vec_Dot.fn : PR.funcs[F_vec_Dot]? = some Try.f31 := by kernel_rfl
theorem S.vec_Dot.call {R : Value → World → Prop} {v0 : Value} {W : World} (h : S.vec_Dot.body R v0 W) : callK PR F_vec_Dot [v0] R W :=
  callK_of_body (g := F_vec_Dot) (fn := Try.f31) (args := [v0]) (R := R) (w := W) mixed CBok S.vec_Dot.fn S.vec_Dot.hint (by rw [S.vec_Dot.ok]; exact h)
/-! ### rostrum/dots.Order (41) -/
def S.dots_Order.body (R : Value → World → Prop) (v0 v1 : Value) (W : World) : Prop :=
  efK PR (Instr.box T_api_Dot v0) (fun v2 W =>
  efK PR (Instr.box T_api_Dot v1) (fun v3 W =>
  okF (addrF 0 v2) fun v5 =>
  rdK PR (Instr.loadAt T_int v5) (fun v6 W =>
  okF (addrF 0 v3) fun v7 =>
  rdK PR (Instr.loadAt T_int v7) (fun v8 W =>
  okF (addrF 1 v2) fun v10 =>
  rdK PR (Instr.loadAt T_int64 v10) (fun v11 W =>
  okF (addrF 1 v3) fun v12 =>
  rdK PR (Instr.loadAt T_int64 v12) (fun v13 W =>
  callK PR F_cmp_Compare_int [v6, v8] (fun v9 W =>
  stb PR [(8, true, (Instr.loadAt T_int64 v12), v13), (6, true, (Instr.loadAt T_int64 v10), v11)] (fun W =>
  callK PR F_cmp_Compare_int64 [v11, v13] (fun v14 W =>
  efK PR (Instr.buildSlice T_s_int 2 #[(0, v9), (1, v14)]) (fun v15 W =>
  callK PR F_cmp_Or_int [v15] (fun v16 W =>
  R v16 W) W) W) W) W) W) W) W) W) (tick W)) W) W
def S.dots_Order.hint : Hint := (.two .nil (.two .nil .nil))
theorem S.dots_Order.ok (R : Value → World → Prop) (v0 v1 : Value) (W : World) : bodyK PR CB Try.f41 S.dots_Order.hint [v0, v1] R W = S.dots_Order.body R v0 v1 W := by kernel_rfl
theorem S.dots_Order.fn : PR.funcs[F_dots_Order]? = some Try.f41 := by kernel_rfl
theorem S.dots_Order.call {R : Value → World → Prop} {v0 v1 : Value} {W : World} (h : S.dots_Order.body R v0 v1 W) : callK PR F_dots_Order [v0, v1] R W :=
  callK_of_body (g := F_dots_Order) (fn := Try.f41) (args := [v0, v1]) (R := R) (w := W) mixed CBok S.dots_Order.fn S.dots_Order.hint (by rw [S.dots_Order.ok]; exact h)
end Go.Proofs.Ytmojfpaagokckaa
namespace Go.Proofs.Ytmojfpaagokckaa
set_option linter.unusedVariables false
set_option linter.unusedSimpArgs false
open Go.Eng

instance isNaN64 (a : Int) : Pure0 PR F_cmp_isNaN_int64 [.int .i64 a] (.bool false) := ⟨fun W => by
  apply S.cmp_isNaN_int64.call
  unfold S.cmp_isNaN_int64.body
  simp -implicitDefEqProofs only [EN, lsub, lget, stL, beq_self_eq_true, ne_eq, if_true, if_false, List.cons_append, List.nil_append, Option.isNone_some, Option.isNone_none]
  exact St.start W⟩
instance isNaNi (a : Int) : Pure0 PR F_cmp_isNaN_int [.int .i64 a] (.bool false) := ⟨fun W => by
  apply S.cmp_isNaN_int.call
  unfold S.cmp_isNaN_int.body
  simp -implicitDefEqProofs only [EN, lsub, lget, stL, beq_self_eq_true, ne_eq, if_true, if_false, List.cons_append, List.nil_append, Option.isNone_some, Option.isNone_none]
  exact St.start W⟩

def cmpI (a b : Int) : Int := if a < b then -1 else if b < a then 1 else 0
instance cmp64 (a b : Int) : Pure0 PR F_cmp_Compare_int64 [.int .i64 a, .int .i64 b] (.int .i64 (cmpI a b)) := ⟨fun W => by
  apply S.cmp_Compare_int64.call
  unfold S.cmp_Compare_int64.body
  have h := St.start W
  (first | (with_reducible (first | refine w1 fun _ _ => ?_ | refine w3 fun _ _ _ => ?_ | refine w4 fun _ _ _ => ?_ | refine w11 fun _ _ _ => ?_ | refine stb_n ?_)) | ((with_reducible refine w2 ?_); try simp -implicitDefEqProofs only [EN, lsub, lget, stL, beq_self_eq_true, ne_eq, if_true, if_false, List.cons_append, List.nil_append, Option.isNone_some, Option.isNone_none]; intro _ _) | ((with_reducible (first | refine w5 ?_ ?_ | refine w6 ?_ ?_ | refine w7 ?_ ?_)); simp; refine ⟨_, rfl, ?_⟩) | ((with_reducible (first | refine w8 ?_ ?_ ?_ | refine w9 ?_ ?_ ?_ | refine w10 ?_ ?_ ?_)); exact rfl; simp) | ((with_reducible refine w12 ?_ ?_ ?_ fun _ _ => ?_); simp; simp; simp [oneC]) | ((with_reducible (first | refine eqs ?_ | refine nes ?_)); refine ⟨_, rfl, ?_⟩) | ((refine okF_i (bldP_eq rfl) ?_); try simp only [BLS, List.take_succ_cons, List.take_zero, List.drop_succ_cons, List.drop_zero, List.cons_append, List.nil_append, Nat.reduceAdd]))
  (first | (with_reducible (first | refine w1 fun _ _ => ?_ | refine w3 fun _ _ _ => ?_ | refine w4 fun _ _ _ => ?_ | refine w11 fun _ _ _ => ?_ | refine stb_n ?_)) | ((with_reducible refine w2 ?_); try simp -implicitDefEqProofs only [EN, lsub, lget, stL, beq_self_eq_true, ne_eq, if_true, if_false, List.cons_append, List.nil_append, Option.isNone_some, Option.isNone_none]; intro _ _) | ((with_reducible (first | refine w5 ?_ ?_ | refine w6 ?_ ?_ | refine w7 ?_ ?_)); simp; refine ⟨_, rfl, ?_⟩) | ((with_reducible (first | refine w8 ?_ ?_ ?_ | refine w9 ?_ ?_ ?_ | refine w10 ?_ ?_ ?_)); exact rfl; simp) | ((with_reducible refine w12 ?_ ?_ ?_ fun _ _ => ?_); simp; simp; simp [oneC]) | ((with_reducible (first | refine eqs ?_ | refine nes ?_)); refine ⟨_, rfl, ?_⟩) | ((refine okF_i (bldP_eq rfl) ?_); try simp only [BLS, List.take_succ_cons, List.take_zero, List.drop_succ_cons, List.drop_zero, List.cons_append, List.nil_append, Nat.reduceAdd]))
  simp -implicitDefEqProofs only [EN, lsub, lget, stL, beq_self_eq_true, ne_eq, if_true, if_false, List.cons_append, List.nil_append, Option.isNone_some, Option.isNone_none]
  refine ifK_d (fun h1 => ?_) (fun h1 => ifK_d (fun h2 => ?_) (fun h2 => ?_))
  · exact ⟨by simp [cmpI, h1], by assumption⟩
  · exact ⟨by rw [cmpI, if_neg h1, if_pos h2], by assumption⟩
  · exact ⟨by rw [cmpI, if_neg h1, if_neg h2], by assumption⟩⟩
instance cmpi (a b : Int) : Pure0 PR F_cmp_Compare_int [.int .i64 a, .int .i64 b] (.int .i64 (cmpI a b)) := ⟨fun W => by
  apply S.cmp_Compare_int.call
  unfold S.cmp_Compare_int.body
  have h := St.start W
  (first | (with_reducible (first | refine w1 fun _ _ => ?_ | refine w3 fun _ _ _ => ?_ | refine w4 fun _ _ _ => ?_ | refine w11 fun _ _ _ => ?_ | refine stb_n ?_)) | ((with_reducible refine w2 ?_); try simp -implicitDefEqProofs only [EN, lsub, lget, stL, beq_self_eq_true, ne_eq, if_true, if_false, List.cons_append, List.nil_append, Option.isNone_some, Option.isNone_none]; intro _ _) | ((with_reducible (first | refine w5 ?_ ?_ | refine w6 ?_ ?_ | refine w7 ?_ ?_)); simp; refine ⟨_, rfl, ?_⟩) | ((with_reducible (first | refine w8 ?_ ?_ ?_ | refine w9 ?_ ?_ ?_ | refine w10 ?_ ?_ ?_)); exact rfl; simp) | ((with_reducible refine w12 ?_ ?_ ?_ fun _ _ => ?_); simp; simp; simp [oneC]) | ((with_reducible (first | refine eqs ?_ | refine nes ?_)); refine ⟨_, rfl, ?_⟩) | ((refine okF_i (bldP_eq rfl) ?_); try simp only [BLS, List.take_succ_cons, List.take_zero, List.drop_succ_cons, List.drop_zero, List.cons_append, List.nil_append, Nat.reduceAdd]))
  (first | (with_reducible (first | refine w1 fun _ _ => ?_ | refine w3 fun _ _ _ => ?_ | refine w4 fun _ _ _ => ?_ | refine w11 fun _ _ _ => ?_ | refine stb_n ?_)) | ((with_reducible refine w2 ?_); try simp -implicitDefEqProofs only [EN, lsub, lget, stL, beq_self_eq_true, ne_eq, if_true, if_false, List.cons_append, List.nil_append, Option.isNone_some, Option.isNone_none]; intro _ _) | ((with_reducible (first | refine w5 ?_ ?_ | refine w6 ?_ ?_ | refine w7 ?_ ?_)); simp; refine ⟨_, rfl, ?_⟩) | ((with_reducible (first | refine w8 ?_ ?_ ?_ | refine w9 ?_ ?_ ?_ | refine w10 ?_ ?_ ?_)); exact rfl; simp) | ((with_reducible refine w12 ?_ ?_ ?_ fun _ _ => ?_); simp; simp; simp [oneC]) | ((with_reducible (first | refine eqs ?_ | refine nes ?_)); refine ⟨_, rfl, ?_⟩) | ((refine okF_i (bldP_eq rfl) ?_); try simp only [BLS, List.take_succ_cons, List.take_zero, List.drop_succ_cons, List.drop_zero, List.cons_append, List.nil_append, Nat.reduceAdd]))
  simp -implicitDefEqProofs only [EN, lsub, lget, stL, beq_self_eq_true, ne_eq, if_true, if_false, List.cons_append, List.nil_append, Option.isNone_some, Option.isNone_none]
  refine ifK_d (fun h1 => ?_) (fun h1 => ifK_d (fun h2 => ?_) (fun h2 => ?_))
  · exact ⟨by simp [cmpI, h1], by assumption⟩
  · exact ⟨by rw [cmpI, if_neg h1, if_pos h2], by assumption⟩
  · exact ⟨by rw [cmpI, if_neg h1, if_neg h2], by assumption⟩⟩

instance vecRep (a : Int) : Pure0 PR F_vec_Rep [.int .i64 a] (.bool (decide (0 ≤ a ∧ a < 7))) := ⟨fun W => by
  apply S.vec_Rep.call
  unfold S.vec_Rep.body
  have h := St.start W
  by_cases h1 : 0 ≤ a
  · simp -implicitDefEqProofs only [EN, lsub, lget, stL, beq_self_eq_true, ne_eq, if_true, if_false, List.cons_append, List.nil_append, Option.isNone_some, Option.isNone_none, h1]
    first | exact h | exact ⟨by simp [h1], h⟩
  · simp -implicitDefEqProofs only [EN, lsub, lget, stL, beq_self_eq_true, ne_eq, if_true, if_false, List.cons_append, List.nil_append, Option.isNone_some, Option.isNone_none, h1, false_and]
    first | exact h | exact ⟨by simp [h1], h⟩⟩

structure Dot where
  rep : Int
  n : Int
  deriving DecidableEq
def Dot.v (d : Dot) : Value := .agg #[.int .i64 d.rep, .int .i64 d.n]
def Dot.ok (d : Dot) : Bool := decide (0 ≤ d.rep ∧ d.rep < 7 ∧ 1 ≤ d.n ∧ d.n ≤ 1099511627776)
def orI : List Int → Int
  | [] => 0
  | a :: r => if a ≠ 0 then a else orI r
theorem orI_drop {l : List Int} {i : Nat} (hi : i < l.length) : orI (l.drop i) = if l[i] ≠ 0 then l[i] else orI (l.drop (i + 1)) := by
  rw [List.drop_eq_getElem_cons hi]; rfl
theorem cmpOr {b : Nat} {l : List Int} {W : World} {L : List Asn} {W0 : World} (hl : l.length < 1000) (h : St W0 (cells b (l.map (Value.int .i64)) T_int :: L) W) :
    callK PR F_cmp_Or_int [.slice (some ⟨b, 0, none⟩) l.length l.length] (fun v W' => v = .int .i64 (orI l) ∧ St W0 L W') W := by
  apply S.cmp_Or_int.call
  unfold S.cmp_Or_int.body
  refine joinK_i ?_
  simp -implicitDefEqProofs only [EN, lsub, lget, stL, beq_self_eq_true, ne_eq, if_true, if_false, List.cons_append, List.nil_append, Option.isNone_some, Option.isNone_none]
  refine loop_i (fun m s W => ∃ i, i ≤ l.length ∧ m = l.length - i ∧ s = [.int .i64 0, .slice (some ⟨b, 0, none⟩) l.length l.length, .int .i64 l.length, .int .i64 i] ∧ orI l = orI (l.drop i) ∧ St W0 (cells b (l.map (Value.int .i64)) T_int :: L) W)
    _ ⟨0, by omega, rfl, rfl, rfl, h⟩ ?_
  rintro m s W ⟨i, hi, rfl, rfl, ho, h⟩
  show S.cmp_Or_int.l1 _ _ _ (.int .i64 0) (.slice (some ⟨b, 0, none⟩) l.length l.length) (.int .i64 l.length) (.int .i64 i) W
  unfold S.cmp_Or_int.l1
  simp -implicitDefEqProofs only [EN, lsub, lget, stL, beq_self_eq_true, ne_eq, if_true, if_false, List.cons_append, List.nil_append, Option.isNone_some, Option.isNone_none]
  refine ifK_d (fun hlt => ?_) (fun hge => ?_)
  · have hlt : i < l.length := by omega
    refine okF_i (idxS_blk (by omega) (by omega)) ?_
    simp only [Int.toNat_natCast, Nat.mul_one, Nat.zero_add]
    refine ld h (v := .int .i64 l[i]) (by simp [getL, lget_eq, hlt]) (by simp) ?_
    simp -implicitDefEqProofs only [EN, lsub, lget, stL, beq_self_eq_true, ne_eq, if_true, if_false, List.cons_append, List.nil_append, Option.isNone_some, Option.isNone_none]
    rw [orI_drop hlt] at ho
    refine ifK_b (fun h1 => ?_) (fun h1 => ?_)
    · have : l[i] ≠ 0 := by simpa using h1
      rw [if_pos this] at ho
      exact ⟨by rw [ho], h.drop⟩
    · have : ¬ (l[i] ≠ 0) := by simpa using h1
      rw [if_neg this] at ho
      exact ⟨_, by omega, i + 1, by omega, rfl, by rw [IntWalk.i64_in _ (by omega)]; simp, ho, h⟩
  · have : i = l.length := by omega
    subst this
    unfold S.cmp_Or_int.j1
    simp -implicitDefEqProofs only [EN, lsub, lget, stL, beq_self_eq_true, ne_eq, if_true, if_false, List.cons_append, List.nil_append, Option.isNone_some, Option.isNone_none]
    refine ⟨?_, h.drop⟩
    rw [ho]; simp [orI]

theorem or2 {a b : Int} {W0 W : World} {L : List Asn} {k : Value → World → Prop} (h : St W0 L W) (hk : ∀ W', St W0 L W' → k (.int .i64 (orI [a, b])) W') :
    efK PR (Instr.buildSlice T_s_int 2 #[(0, .int .i64 a), (1, .int .i64 b)]) (fun v W => callK PR F_cmp_Or_int [v] k W) W := by
  refine bs (cs := [.int .i64 a, .int .i64 b]) h (by simp) (by simp) rfl fun x W4 h => ?_
  exact ca (cmpOr (l := [a, b]) (by simp) h) fun v W' ⟨e, h⟩ => by subst e; exact hk _ h

end Go.Proofs.Ytmojfpaagokckaa
namespace Go.Proofs.Ytmojfpaagokckaa
set_option linter.unusedVariables false
set_option linter.unusedSimpArgs false
open Go.Eng

instance vecDot (d e : Int) : Pure0 PR F_vec_Dot [.agg #[.int .i64 d, .int .i64 e]] (.bool (Dot.ok ⟨d, e⟩)) := ⟨fun W => by
  apply S.vec_Dot.call
  unfold S.vec_Dot.body
  have h := St.start W
  (first | (with_reducible (first | refine w1 fun _ _ => ?_ | refine w3 fun _ _ _ => ?_ | refine w4 fun _ _ _ => ?_ | refine w11 fun _ _ _ => ?_ | refine stb_n ?_)) | ((with_reducible refine w2 ?_); try simp -implicitDefEqProofs only [EN, lsub, lget, stL, beq_self_eq_true, ne_eq, if_true, if_false, List.cons_append, List.nil_append, Option.isNone_some, Option.isNone_none]; intro _ _) | ((with_reducible (first | refine w5 ?_ ?_ | refine w6 ?_ ?_ | refine w7 ?_ ?_)); simp; refine ⟨_, rfl, ?_⟩) | ((with_reducible (first | refine w8 ?_ ?_ ?_ | refine w9 ?_ ?_ ?_ | refine w10 ?_ ?_ ?_)); exact rfl; simp) | ((with_reducible refine w12 ?_ ?_ ?_ fun _ _ => ?_); simp; simp; simp [oneC]) | ((with_reducible (first | refine eqs ?_ | refine nes ?_)); refine ⟨_, rfl, ?_⟩) | ((refine okF_i (bldP_eq rfl) ?_); try simp only [BLS, List.take_succ_cons, List.take_zero, List.drop_succ_cons, List.drop_zero, List.cons_append, List.nil_append, Nat.reduceAdd]))
  simp -implicitDefEqProofs only [EN, lsub, lget, stL, beq_self_eq_true, ne_eq, if_true, if_false, List.cons_append, List.nil_append, Option.isNone_some, Option.isNone_none]
  (first | (with_reducible (first | refine w1 fun _ _ => ?_ | refine w3 fun _ _ _ => ?_ | refine w4 fun _ _ _ => ?_ | refine w11 fun _ _ _ => ?_ | refine stb_n ?_)) | ((with_reducible refine w2 ?_); try simp -implicitDefEqProofs only [EN, lsub, lget, stL, beq_self_eq_true, ne_eq, if_true, if_false, List.cons_append, List.nil_append, Option.isNone_some, Option.isNone_none]; intro _ _) | ((with_reducible (first | refine w5 ?_ ?_ | refine w6 ?_ ?_ | refine w7 ?_ ?_)); simp; refine ⟨_, rfl, ?_⟩) | ((with_reducible (first | refine w8 ?_ ?_ ?_ | refine w9 ?_ ?_ ?_ | refine w10 ?_ ?_ ?_)); exact rfl; simp) | ((with_reducible refine w12 ?_ ?_ ?_ fun _ _ => ?_); simp; simp; simp [oneC]) | ((with_reducible (first | refine eqs ?_ | refine nes ?_)); refine ⟨_, rfl, ?_⟩) | ((refine okF_i (bldP_eq rfl) ?_); try simp only [BLS, List.take_succ_cons, List.take_zero, List.drop_succ_cons, List.drop_zero, List.cons_append, List.nil_append, Nat.reduceAdd]))
  (first | (with_reducible (first | refine w1 fun _ _ => ?_ | refine w3 fun _ _ _ => ?_ | refine w4 fun _ _ _ => ?_ | refine w11 fun _ _ _ => ?_ | refine stb_n ?_)) | ((with_reducible refine w2 ?_); try simp -implicitDefEqProofs only [EN, lsub, lget, stL, beq_self_eq_true, ne_eq, if_true, if_false, List.cons_append, List.nil_append, Option.isNone_some, Option.isNone_none]; intro _ _) | ((with_reducible (first | refine w5 ?_ ?_ | refine w6 ?_ ?_ | refine w7 ?_ ?_)); simp; refine ⟨_, rfl, ?_⟩) | ((with_reducible (first | refine w8 ?_ ?_ ?_ | refine w9 ?_ ?_ ?_ | refine w10 ?_ ?_ ?_)); exact rfl; simp) | ((with_reducible refine w12 ?_ ?_ ?_ fun _ _ => ?_); simp; simp; simp [oneC]) | ((with_reducible (first | refine eqs ?_ | refine nes ?_)); refine ⟨_, rfl, ?_⟩) | ((refine okF_i (bldP_eq rfl) ?_); try simp only [BLS, List.take_succ_cons, List.take_zero, List.drop_succ_cons, List.drop_zero, List.cons_append, List.nil_append, Nat.reduceAdd]))
  by_cases h1 : 0 ≤ d ∧ d < 7
  · simp -implicitDefEqProofs only [EN, lsub, lget, stL, beq_self_eq_true, ne_eq, if_true, if_false, List.cons_append, List.nil_append, Option.isNone_some, Option.isNone_none, h1]
    (first | (with_reducible (first | refine w1 fun _ _ => ?_ | refine w3 fun _ _ _ => ?_ | refine w4 fun _ _ _ => ?_ | refine w11 fun _ _ _ => ?_ | refine stb_n ?_)) | ((with_reducible refine w2 ?_); try simp -implicitDefEqProofs only [EN, lsub, lget, stL, beq_self_eq_true, ne_eq, if_true, if_false, List.cons_append, List.nil_append, Option.isNone_some, Option.isNone_none]; intro _ _) | ((with_reducible (first | refine w5 ?_ ?_ | refine w6 ?_ ?_ | refine w7 ?_ ?_)); simp; refine ⟨_, rfl, ?_⟩) | ((with_reducible (first | refine w8 ?_ ?_ ?_ | refine w9 ?_ ?_ ?_ | refine w10 ?_ ?_ ?_)); exact rfl; simp) | ((with_reducible refine w12 ?_ ?_ ?_ fun _ _ => ?_); simp; simp; simp [oneC]) | ((with_reducible (first | refine eqs ?_ | refine nes ?_)); refine ⟨_, rfl, ?_⟩) | ((refine okF_i (bldP_eq rfl) ?_); try simp only [BLS, List.take_succ_cons, List.take_zero, List.drop_succ_cons, List.drop_zero, List.cons_append, List.nil_append, Nat.reduceAdd]))
    by_cases h2 : 1 ≤ e
    · simp -implicitDefEqProofs only [EN, lsub, lget, stL, beq_self_eq_true, ne_eq, if_true, if_false, List.cons_append, List.nil_append, Option.isNone_some, Option.isNone_none, h2]
      (first | (with_reducible (first | refine w1 fun _ _ => ?_ | refine w3 fun _ _ _ => ?_ | refine w4 fun _ _ _ => ?_ | refine w11 fun _ _ _ => ?_ | refine stb_n ?_)) | ((with_reducible refine w2 ?_); try simp -implicitDefEqProofs only [EN, lsub, lget, stL, beq_self_eq_true, ne_eq, if_true, if_false, List.cons_append, List.nil_append, Option.isNone_some, Option.isNone_none]; intro _ _) | ((with_reducible (first | refine w5 ?_ ?_ | refine w6 ?_ ?_ | refine w7 ?_ ?_)); simp; refine ⟨_, rfl, ?_⟩) | ((with_reducible (first | refine w8 ?_ ?_ ?_ | refine w9 ?_ ?_ ?_ | refine w10 ?_ ?_ ?_)); exact rfl; simp) | ((with_reducible refine w12 ?_ ?_ ?_ fun _ _ => ?_); simp; simp; simp [oneC]) | ((with_reducible (first | refine eqs ?_ | refine nes ?_)); refine ⟨_, rfl, ?_⟩) | ((refine okF_i (bldP_eq rfl) ?_); try simp only [BLS, List.take_succ_cons, List.take_zero, List.drop_succ_cons, List.drop_zero, List.cons_append, List.nil_append, Nat.reduceAdd]))
      simp -implicitDefEqProofs only [EN, lsub, lget, stL, beq_self_eq_true, ne_eq, if_true, if_false, List.cons_append, List.nil_append, Option.isNone_some, Option.isNone_none]
      exact ⟨by simp [Dot.ok, h1, h2], St.nil (by assumption)⟩
    · simp -implicitDefEqProofs only [EN, lsub, lget, stL, beq_self_eq_true, ne_eq, if_true, if_false, List.cons_append, List.nil_append, Option.isNone_some, Option.isNone_none, h2]
      exact ⟨by simp [Dot.ok, h2], St.nil (by assumption)⟩
  · simp -implicitDefEqProofs only [EN, lsub, lget, stL, beq_self_eq_true, ne_eq, if_true, if_false, List.cons_append, List.nil_append, Option.isNone_some, Option.isNone_none, h1]
    refine ⟨?_, St.nil (by assumption)⟩
    have : ¬ (0 ≤ d ∧ d < 7 ∧ 1 ≤ e ∧ e ≤ 1099511627776) := fun h => h1 ⟨h.1, h.2.1⟩
    simp only [Dot.ok, this, decide_false]⟩

def Dot.cmp (d e : Dot) : Int := if cmpI d.rep e.rep ≠ 0 then cmpI d.rep e.rep else cmpI d.n e.n
instance dotsOrder (d d' e e' : Int) : Pure0 PR F_dots_Order [.agg #[.int .i64 d, .int .i64 d'], .agg #[.int .i64 e, .int .i64 e']] (.int .i64 (Dot.cmp ⟨d, d'⟩ ⟨e, e'⟩)) := ⟨fun W => by
  apply S.dots_Order.call
  unfold S.dots_Order.body
  have h := St.start W
  (repeat (first | (first | (with_reducible (first | refine w1 fun _ _ => ?_ | refine w3 fun _ _ _ => ?_ | refine w4 fun _ _ _ => ?_ | refine w11 fun _ _ _ => ?_ | refine stb_n ?_)) | ((with_reducible refine w2 ?_); try simp -implicitDefEqProofs only [EN, lsub, lget, stL, beq_self_eq_true, ne_eq, if_true, if_false, List.cons_append, List.nil_append, Option.isNone_some, Option.isNone_none]; intro _ _) | ((with_reducible (first | refine w5 ?_ ?_ | refine w6 ?_ ?_ | refine w7 ?_ ?_)); simp; refine ⟨_, rfl, ?_⟩) | ((with_reducible (first | refine w8 ?_ ?_ ?_ | refine w9 ?_ ?_ ?_ | refine w10 ?_ ?_ ?_)); exact rfl; simp) | ((with_reducible refine w12 ?_ ?_ ?_ fun _ _ => ?_); simp; simp; simp [oneC]) | ((with_reducible (first | refine eqs ?_ | refine nes ?_)); refine ⟨_, rfl, ?_⟩) | ((refine okF_i (bldP_eq rfl) ?_); try simp only [BLS, List.take_succ_cons, List.take_zero, List.drop_succ_cons, List.drop_zero, List.cons_append, List.nil_append, Nat.reduceAdd])) | simp -implicitDefEqProofs only [EN, lsub, lget, stL, beq_self_eq_true, ne_eq, if_true, if_false, List.cons_append, List.nil_append, Option.isNone_some, Option.isNone_none]))
  refine or2 (by assumption) fun _ _ => ⟨?_, St.nil (by assumption)⟩
  simp only [orI, Dot.cmp]
  by_cases h1 : cmpI d' e' = 0 <;> simp [h1]⟩
end Go.Proofs.Ytmojfpaagokckaa
namespace Go.Eng
set_option linter.unusedVariables false
set_option linter.unusedSimpArgs false
open Go Go.RowKit
section
variable {P : Program} {W0 W W' : World} {L L' : List Asn}
theorem St.left {l rest : List Asn} (h : St W0 (l ++ rest) W) : St W0 l W := by
  obtain ⟨hb, p, hs, ho⟩ := h
  obtain ⟨h1, h2, hd, rfl, hl, hl'⟩ := sep_append.1 hs
  exact ⟨hb, h1, hl, fun b o hbo => ho b o (by simp [PH.join, hbo])⟩
theorem St.one {q : Nat} {cs : List Value} {T : TypeId} {L1 : List Asn} (h : St W0 L W) [h1 : Ck q L cs T L1] : St W0 [Eng.cells q cs T] W := St.left (l := [_]) (rest := L1) (h.perm h1.perm)
theorem St.two {q p : Nat} {cs ds : List Value} {T U : TypeId} {L1 L2 : List Asn} (h : St W0 L W) [h1 : Ck q L cs T L1] [h2 : Ck p L1 ds U L2] : St W0 [Eng.cells q cs T, Eng.cells p ds U] W :=
  St.left (l := [_, _]) (rest := L2) ((h.perm h1.perm).ent (ent.cons _ (ent.perm h2.perm)))
end
end Go.Eng
namespace Go.Eng
set_option linter.unusedVariables false
set_option linter.unusedSimpArgs false
open Go Go.RowKit
section
variable {P : Program} {W0 W W' : World} {L L' : List Asn} {e : TypeId} {α : Type} {A : Ly α}
theorem rows_replicate (x : α) (n : Nat) : A.rows (List.replicate n x) = (List.replicate n (A.row x)).flatten := by
  induction n with
  | zero => rfl
  | succ n ih => rw [List.replicate_succ, Ly.rows_cons, ih, List.replicate_succ, List.flatten_cons]
theorem getElem_flat_rep (r : List Value) : ∀ (n j : Nat), j < n * r.length → (List.replicate n r).flatten[j]? = r[j % r.length]?
  | 0, j, h => by simp at h
  | n + 1, j, h => by
    rw [List.replicate_succ, List.flatten_cons]
    by_cases hj : j < r.length
    · rw [List.getElem?_append_left hj, Nat.mod_eq_of_lt hj]
    · rw [List.getElem?_append_right (by omega), getElem_flat_rep r n _ (by rw [Nat.succ_mul] at h; omega)]
      congr 1
      conv => rhs; rw [Nat.mod_eq_sub_mod (by omega)]
theorem mkS (x0 : α) (n : Nat) {t : TypeId} {sz by' : Nat} {z : Value} [ht : TyS P t e sz by' z] {k : Value → World → Prop} (h : St W0 L W) (hz : vcells z = A.row x0) (hs : A.sz = sz) (hn : n ≤ 1000000) (hb : n * by' ≤ 140737488355328)
    (hk : ∀ a c W', St W0 (arr A e a c (List.replicate n x0) :: L) W' → k (.slice a (List.replicate n x0).length c) W') : efK P (Instr.makeSlice t (.int .i64 (n : Int)) (.int .i64 (n : Int))) k W := by
  subst hs
  obtain ⟨⟨i, h1, h2, h3, h4, h5⟩, hzz⟩ := ht.ok
  have hp := A.pos
  have e1 : IntKind.i64.wrap (n : Int) = n := by rw [IntWalk.i64_in _ (by omega)]
  have hcells : ((Array.range (n * A.sz)).map fun j => z.cells[j % z.cells.size]!) = (A.rows (List.replicate n x0)).toArray := by
    apply Array.ext_getElem?
    intro j
    rw [rows_replicate]
    have hta : ∀ (l : List Value), l.toArray[j]? = l[j]? := fun l => by simp
    rw [hta ((List.replicate n (A.row x0)).flatten)]
    by_cases hj : j < n * A.sz
    · have hm : j % A.sz < A.sz := Nat.mod_lt _ hp
      rw [getElem_flat_rep _ _ _ (by rw [A.len x0]; exact hj), A.len x0, ← hz]
      have hzl : (vcells z).length = A.sz := by rw [hz, A.len]
      simp [hj, vcells_eq', hzl, hm]
    · have : ((List.replicate n (A.row x0)).flatten).length = n * A.sz := by simp [A.len]
      have e1 : ((List.replicate n (A.row x0)).flatten)[j]? = none := List.getElem?_eq_none (by rw [this]; omega)
      have e2 : ((Array.range (n * A.sz)).map fun j => z.cells[j % z.cells.size]!)[j]? = none := Array.getElem?_eq_none (by rw [Array.size_map, Array.size_range]; omega)
      rw [e1, e2]
  have hr := run_make (P := P) W t e i z h1 h2 h5 .i64 .i64 n n (by omega) (by omega) (by
    rw [h4]
    have : (by' : Int) * (n : Int) = ((n * by' : Nat) : Int) := by rw [Nat.mul_comm]; simp
    rw [this]; omega) (by omega)
  rw [h3, Int.toNat_natCast, madeCells, hcells] at hr
  refine ⟨_, _, hr, ?_⟩
  · have := hk (some ⟨W.heap.size, 0, none⟩) n _ ((h.allocCells (A.rows (List.replicate n x0)) e).ent (by
      have := arr_full (A := A) (e := e) (L := L) (g := W.heap.size) (l := List.replicate n x0) (by simp [maxLen]; omega)
      simpa using this))
    simpa using this
end
end Go.Eng
namespace Go.Eng
set_option linter.unusedVariables false
set_option linter.unusedSimpArgs false
open Go Go.RowKit Go.MapKept Go.ChangeMaps

/-! ### rows of keys and what stands at them -/
section
variable {κ β : Type} [DecidableEq κ]
def mget : List (κ × β) → κ → Option β
  | [], _ => none
  | (a, b) :: l, k => if a = k then some b else mget l k
def mput : List (κ × β) → κ → β → List (κ × β)
  | [], k, v => [(k, v)]
  | (a, b) :: l, k, v => if a = k then (k, v) :: l else (a, b) :: mput l k v
def mdel : List (κ × β) → κ → List (κ × β)
  | [], _ => []
  | (a, b) :: l, k => if a = k then l else (a, b) :: mdel l k
theorem mget_none {l : List (κ × β)} {k : κ} : mget l k = none ↔ ∀ p ∈ l, p.1 ≠ k := by
  induction l with
  | nil => simp [mget]
  | cons p l ih =>
    obtain ⟨a, b⟩ := p
    by_cases h : a = k
    · simp [mget, h]
    · simp [mget, h, ih]
theorem mput_new {l : List (κ × β)} {k : κ} {v : β} (h : ∀ p ∈ l, p.1 ≠ k) : mput l k v = l ++ [(k, v)] := by
  induction l with
  | nil => rfl
  | cons p l ih =>
    obtain ⟨a, b⟩ := p
    have h1 : a ≠ k := h (a, b) (by simp)
    simp only [mput, if_neg h1, List.cons_append, ih fun p hp => h p (by simp [hp])]
theorem mdel_none {l : List (κ × β)} {k : κ} (h : ∀ p ∈ l, p.1 ≠ k) : mdel l k = l := by
  induction l with
  | nil => rfl
  | cons p l ih =>
    obtain ⟨a, b⟩ := p
    have h1 : a ≠ k := h (a, b) (by simp)
    simp only [mdel, if_neg h1, ih fun p hp => h p (by simp [hp])]
theorem mget_at {l : List (κ × β)} (hn : (l.map (·.1)).Nodup) {j : Nat} {k : κ} {v : β} (h : l[j]? = some (k, v)) : mget l k = some v := by
  induction l generalizing j with
  | nil => simp at h
  | cons p l ih =>
    obtain ⟨a, b⟩ := p
    cases j with
    | zero => simp at h; obtain ⟨rfl, rfl⟩ := h; simp [mget]
    | succ j =>
      simp only [List.getElem?_cons_succ] at h
      simp only [List.map_cons, List.nodup_cons] at hn
      have : a ≠ k := fun e => hn.1 (List.mem_map.2 ⟨(k, v), List.mem_of_getElem? h, e.symm⟩)
      simp only [mget, if_neg this]
      exact ih hn.2 h
theorem mput_at {l : List (κ × β)} (hn : (l.map (·.1)).Nodup) {j : Nat} {k : κ} {v w : β} (h : l[j]? = some (k, v)) : mput l k w = l.set j (k, w) := by
  induction l generalizing j with
  | nil => simp at h
  | cons p l ih =>
    obtain ⟨a, b⟩ := p
    cases j with
    | zero => simp at h; obtain ⟨rfl, rfl⟩ := h; simp [mput]
    | succ j =>
      simp only [List.getElem?_cons_succ] at h
      simp only [List.map_cons, List.nodup_cons] at hn
      have : a ≠ k := fun e => hn.1 (List.mem_map.2 ⟨(k, v), List.mem_of_getElem? h, e.symm⟩)
      simp only [mput, if_neg this, List.set_cons_succ, ih hn.2 h]
theorem mdel_at {l : List (κ × β)} (hn : (l.map (·.1)).Nodup) {j : Nat} {k : κ} {v : β} (h : l[j]? = some (k, v)) : mdel l k = l.eraseIdx j := by
  induction l generalizing j with
  | nil => simp at h
  | cons p l ih =>
    obtain ⟨a, b⟩ := p
    cases j with
    | zero => simp at h; obtain ⟨rfl, rfl⟩ := h; simp [mdel]
    | succ j =>
      simp only [List.getElem?_cons_succ] at h
      simp only [List.map_cons, List.nodup_cons] at hn
      have : a ≠ k := fun e => hn.1 (List.mem_map.2 ⟨(k, v), List.mem_of_getElem? h, e.symm⟩)
      simp only [mdel, if_neg this, List.eraseIdx_cons_succ, ih hn.2 h]
end

/-! ### types of keys, types of maps -/
class KeyT (P : Program) (t : TypeId) {κ : Type} (K : κ → Value) : Prop where
  inj : ∀ {a b : κ}, K a = K b → a = b
  check : ∀ (w : World) (em : Bool) (k : κ), (Instr.checkKey em 10000 t (K k)).run P w = .ok () w
  find : ∀ (w : World) (k : κ) (es : List MapEntry), (∀ e ∈ es, ∃ k', e.key = K k') →
    ((Instr.findKey t (K k) es).run P w = .ok none w ∧ ∀ e ∈ es, e.key ≠ K k) ∨ ∃ j e, (Instr.findKey t (K k) es).run P w = .ok (some (j, e.val)) w ∧ es[j]? = some e ∧ e.key = K k
  stays : ∀ (w : World) (k : κ), (Instr.keyThatStays (K k) (K k)).run P w = .ok (K k) w
class MapT (P : Program) (t : TypeId) (kt : outParam TypeId) (et : outParam TypeId) : Prop where
  ok : P.underlying t = some (.map kt et)
theorem KeyT.plain {P : Program} {t : TypeId} {d : TypeDesc} {κ : Type} {K : κ → Value} (hd : P.underlying t = some d) (hk : ∀ k, IsKey d (K k)) (hi : ∀ {a b : κ}, K a = K b → a = b) : KeyT P t K where
  inj := hi
  check w em k := run_checkKey hd (hk k) em 9999
  find w k es hes := by
    have hks : ∀ y ∈ es, IsKey d y.key := fun y hy => by
      obtain ⟨l, hl⟩ := hes y hy
      rw [hl]; exact hk l
    rcases findNow_spec (hk k) es 0 hks with ⟨h1, h2⟩ | ⟨j, e0, h1, h2, h3⟩
    · exact Or.inl ⟨run_findKey hd h1, h2⟩
    · exact Or.inr ⟨j, e0, by simpa using run_findKey hd h1, h2, h3⟩
  stays w k := run_keyThatStays (hk k)
abbrev KI : Int → Value := fun i => .int .i64 i
abbrev KS : ByteArray → Value := .string
theorem KeyT.int {P : Program} {t : TypeId} (hd : P.underlying t = some (.int .i64)) : KeyT P t KI := .plain hd (fun _ => rfl) (fun h => by cases h; rfl)
theorem KeyT.str {P : Program} {t : TypeId} (hd : P.underlying t = some .string) : KeyT P t KS := .plain hd (fun _ => trivial) (fun h => by cases h; rfl)

/-! ### a map as a chunk -/
def mpL {κ : Type} (K : κ → Value) (l : List (κ × Value)) (es : Array MapEntry) : Prop := es.toList.map (fun e => (e.key, e.val)) = l.map (fun p => (K p.1, p.2))
def mp {κ : Type} (K : κ → Value) (r : Nat) (l : List (κ × Value)) : Asn := fun h => ∃ x : Array MapEntry × Nat, (mpL K l x.1 ∧ Stamped x.1 x.2) ∧ blk r (.map x.1 x.2) h
section
variable {κ : Type} {K : κ → Value} {P : Program} {W0 W W' : World} {L L' : List Asn} {t kt et : TypeId} {r : Nat} {l : List (κ × Value)}
theorem St.mp (h : St W0 (mp K r l :: L) W) : ∃ es clock, mpL K l es ∧ Stamped es clock ∧ St W0 (Eng.blk r (.map es clock) :: L) W := by
  obtain ⟨⟨es, clock⟩, h⟩ := h.ex
  obtain ⟨⟨h1, h2⟩, h⟩ := h.fact
  exact ⟨es, clock, h1, h2, h⟩
theorem mp_ent {es : Array MapEntry} {clock : Nat} (h1 : mpL K l es) (h2 : Stamped es clock) : ent (blk r (.map es clock) :: L) (mp K r l :: L) := ent.weak fun _ hp => ⟨(es, clock), ⟨h1, h2⟩, hp⟩
theorem mpL_keys {es : Array MapEntry} (h : mpL K l es) : ∀ e ∈ es.toList, ∃ k', e.key = K k' := by
  intro e he
  have : (e.key, e.val) ∈ l.map (fun p => (K p.1, p.2)) := by rw [← h]; exact List.mem_map.2 ⟨e, he, rfl⟩
  obtain ⟨p, _, hp⟩ := List.mem_map.1 this
  exact ⟨p.1, (congrArg Prod.fst hp).symm⟩
theorem mpL_at {es : Array MapEntry} (h : mpL K l es) {j : Nat} {e : MapEntry} (he : es.toList[j]? = some e) : ∃ p, l[j]? = some p ∧ e.key = K p.1 ∧ e.val = p.2 := by
  have h1 := congrArg (fun x => x[j]?) h
  simp only [List.getElem?_map, he, Option.map_some] at h1
  cases hl : l[j]? with
  | none => rw [hl] at h1; cases h1
  | some p =>
    rw [hl] at h1
    simp only [Option.map_some, Option.some.injEq, Prod.mk.injEq] at h1
    exact ⟨p, rfl, h1.1, h1.2⟩
theorem mpL_len {es : Array MapEntry} (h : mpL K l es) : es.size = l.length := by
  have := congrArg List.length h
  simpa using this
theorem mpL_nodup {es : Array MapEntry} {clock : Nat} (h : mpL K l es) (hs : Stamped es clock) : (l.map (·.1)).Nodup := by
  have h1 : es.toList.map (·.key) = l.map (fun p => K p.1) := by
    have := congrArg (List.map Prod.fst) h
    simpa [List.map_map, Function.comp_def] using this
  have h2 := hs.2.2
  rw [h1] at h2
  have h3 : ((l.map (·.1)).map K).Nodup := by simpa [List.map_map, Function.comp_def] using h2
  simp only [List.Nodup, List.pairwise_map] at h3 ⊢
  exact h3.imp fun h e => h (by rw [e])
theorem St.mpNodup (h : St W0 (Eng.mp K r l :: L) W) : (l.map (·.1)).Nodup := by
  obtain ⟨es, clock, h1, h2, _⟩ := h.mp
  exact mpL_nodup h1 h2
theorem mkMap {k : Value → World → Prop} (h : St W0 L W) (hk : ∀ r W', St W0 (Eng.mp K r [] :: L) W' → k (.map (some r)) W') : efK P (Instr.makeMap t none) k W := by
  refine ⟨.map (some W.heap.size), W.alloc (.map #[] 0), run_makeMap t W, hk _ _ ?_⟩
  exact (h.alloc (.map #[] 0)).ent (mp_ent (by simp [mpL]) (stamped_empty 0))
variable [DecidableEq κ]
theorem lookup_run [hT : MapT P t kt et] [hK : KeyT P kt K] {z : Value} [hz : TyZ P et z] {a : κ} (c : Bool) (h : St W0 (Eng.mp K r l :: L) W) :
    (Instr.lookup t (.map (some r)) (K a) c).run P W = .ok (if c then .tuple #[(mget l a).getD z, .bool (mget l a).isSome] else (mget l a).getD z) W := by
  obtain ⟨es, clock, h1, h2, h3⟩ := h.mp
  have hb := h3.blk.2
  have hn := mpL_nodup h1 h2
  obtain ⟨i, hi, hz⟩ := hz.ok
  have hzr : (zeroValue et).run P W = .ok z W := by simp [zeroValue, typeInfo, hi, hz]
  rcases hK.find W a es.toList (mpL_keys h1) with ⟨h4, h5⟩ | ⟨j, e0, h4, h5, h6⟩
  · have e1 : mget l a = none := mget_none.2 fun p hp e => by
      have : (K p.1, p.2) ∈ es.toList.map (fun e => (e.key, e.val)) := by rw [h1]; exact List.mem_map.2 ⟨p, hp, rfl⟩
      obtain ⟨x, hx, he⟩ := List.mem_map.1 this
      exact h5 x hx (by rw [← e]; exact congrArg Prod.fst he)
    rw [e1]
    simp [Instr.lookup, run_underlying hT.ok, MapKept.run_getObj_map hb, hK.check W _ a, h4, hzr, Result.andThen]
  · obtain ⟨p, hp, hp1, hp2⟩ := mpL_at h1 h5
    have : p.1 = a := hK.inj (by rw [← hp1, h6])
    have e1 : mget l a = some e0.val := by rw [hp2]; subst this; exact mget_at hn hp
    rw [e1]
    simp [Instr.lookup, run_underlying hT.ok, MapKept.run_getObj_map hb, hK.check W _ a, h4, Result.andThen]
theorem lkp [hT : MapT P t kt et] [hK : KeyT P kt K] {z : Value} [hz : TyZ P et z] (a : κ) {k : Value → World → Prop} (h : St W0 L W) [hm : Tk (Eng.mp K r) L l L'] (hk : k ((mget l a).getD z) W) : rdK P (Instr.lookup t (.map (some r)) (K a) false) k W :=
  ⟨_, by rw [lookup_run (a := a) false (h.perm hm.perm)]; rfl, hk⟩
theorem lkpOk [hT : MapT P t kt et] [hK : KeyT P kt K] {z : Value} [hz : TyZ P et z] (a : κ) {k : Value → World → Prop} (h : St W0 L W) [hm : Tk (Eng.mp K r) L l L'] (hk : k (.tuple #[(mget l a).getD z, .bool (mget l a).isSome]) W) : rdK P (Instr.lookup t (.map (some r)) (K a) true) k W :=
  ⟨_, by rw [lookup_run (a := a) true (h.perm hm.perm)]; rfl, hk⟩
theorem stb_lkp [hT : MapT P t kt et] [hK : KeyT P kt K] {z : Value} [hz : TyZ P et z] (a : κ) {ii : Nat} {bb : Bool} {hl : List HoldV} {R : World → Prop} (h : St W0 L W) [hm : Tk (Eng.mp K r) L l L'] (hk : stb P hl R W) :
    stb P ((ii, bb, Instr.lookup t (.map (some r)) (K a) false, (mget l a).getD z) :: hl) R W := ⟨fun _ => by rw [lookup_run (a := a) false (h.perm hm.perm)]; rfl, hk⟩
theorem mset [hT : MapT P t kt et] [hK : KeyT P kt K] (a : κ) {v : Value} {k : Unit → World → Prop} (h : St W0 L W) [hm : Tk (Eng.mp K r) L l L'] (hk : ∀ W', St W0 (Eng.mp K r (mput l a v) :: L') W' → k () W') : efK P (Instr.mapUpdate t (.map (some r)) (K a) v) k W := by
  obtain ⟨es, clock, h1, h2, h3⟩ := (h.perm hm.perm).mp
  have hb := h3.blk.2
  have hn := mpL_nodup h1 h2
  rcases hK.find W a es.toList (mpL_keys h1) with ⟨h4, h5⟩ | ⟨j, e0, h4, h5, h6⟩
  · have hne : ∀ p ∈ l, p.1 ≠ a := fun p hp e => by
      have : (K p.1, p.2) ∈ es.toList.map (fun e => (e.key, e.val)) := by rw [h1]; exact List.mem_map.2 ⟨p, hp, rfl⟩
      obtain ⟨x, hx, he⟩ := List.mem_map.1 this
      exact h5 x hx (by rw [← e]; exact congrArg Prod.fst he)
    refine ⟨(), { W with heap := W.heap.setIfInBounds r (.map (es.push ⟨K a, v, clock⟩) (clock + 1)) }, by simp [Instr.mapUpdate, run_underlying hT.ok, MapKept.run_getObj_map hb, hK.check W false a, h4, MapKept.run_setObj_map _ hb, Result.andThen], hk _ ?_⟩
    refine (h3.setBlk (.map (es.push ⟨K a, v, clock⟩) (clock + 1))).ent (mp_ent ?_ (stamped_push h2 h5))
    rw [mput_new hne]
    have h1' : _ = _ := h1
    simp only [mpL, Array.toList_push, List.map_append, h1']
    rfl
  · obtain ⟨p, hp, hp1, hp2⟩ := mpL_at h1 h5
    have hpa : p.1 = a := hK.inj (by rw [← hp1, h6])
    have hj : es[j]? = some e0 := by simpa using h5
    refine ⟨(), { W with heap := W.heap.setIfInBounds r (.map (es.modify j fun e => { e with key := K a, val := v }) clock) }, by simp [Instr.mapUpdate, run_underlying hT.ok, MapKept.run_getObj_map hb, hK.check W false a, h4, hj, h6, hK.stays W a, MapKept.run_setObj_map _ hb, Result.andThen], hk _ ?_⟩
    refine (h3.setBlk (.map (es.modify j fun e => { e with key := K a, val := v }) clock)).ent (mp_ent ?_ (stamped_modify h2 _ _ (fun _ _ => rfl) (fun e' _ he' => by rw [hj] at he'; cases he'; exact h6.symm)))
    subst hpa
    rw [mput_at hn hp]
    have h1' : _ = _ := h1
    simp only [mpL, Array.toList_modify, modify_eq_set _ _ _ _ h5, List.map_set, h1']
theorem mdelete [hT : MapT P t kt et] [hK : KeyT P kt K] (a : κ) {ty : TypeId} {k : Value → World → Prop} (h : St W0 L W) [hm : Tk (Eng.mp K r) L l L'] (hk : ∀ W', St W0 (Eng.mp K r (mdel l a) :: L') W' → k (.tuple #[]) W') : efK P (Builtin.delete_ #[t, kt] ty #[.map (some r), K a]) k W := by
  obtain ⟨es, clock, h1, h2, h3⟩ := (h.perm hm.perm).mp
  have hb := h3.blk.2
  have hn := mpL_nodup h1 h2
  rcases hK.find W a es.toList (mpL_keys h1) with ⟨h4, h5⟩ | ⟨j, e0, h4, h5, h6⟩
  · have hne : ∀ p ∈ l, p.1 ≠ a := fun p hp e => by
      have : (K p.1, p.2) ∈ es.toList.map (fun e => (e.key, e.val)) := by rw [h1]; exact List.mem_map.2 ⟨p, hp, rfl⟩
      obtain ⟨x, hx, he⟩ := List.mem_map.1 this
      exact h5 x hx (by rw [← e]; exact congrArg Prod.fst he)
    refine ⟨.tuple #[], { W with heap := W.heap.setIfInBounds r (.map es clock) }, by simp [Builtin.delete_, run_underlying hT.ok, MapKept.run_getObj_map hb, hK.check W _ a, h4, MapKept.run_setObj_map _ hb, Result.andThen], hk _ ?_⟩
    refine (h3.setBlk (.map es clock)).ent (mp_ent ?_ h2)
    rw [mdel_none hne]; exact h1
  · obtain ⟨p, hp, hp1, hp2⟩ := mpL_at h1 h5
    have hpa : p.1 = a := hK.inj (by rw [← hp1, h6])
    have hjs : j < es.size := by have := (List.getElem?_eq_some_iff.1 h5).1; simpa using this
    refine ⟨.tuple #[], { W with heap := W.heap.setIfInBounds r (.map (es.eraseIdxIfInBounds j) clock) }, by simp [Builtin.delete_, run_underlying hT.ok, MapKept.run_getObj_map hb, hK.check W _ a, h4, MapKept.run_setObj_map _ hb, Result.andThen], hk _ ?_⟩
    refine (h3.setBlk (.map (es.eraseIdxIfInBounds j) clock)).ent (mp_ent ?_ (stamped_erase h2 j))
    subst hpa
    rw [mdel_at hn hp]
    have hsub : (es.eraseIdxIfInBounds j).toList = es.toList.eraseIdx j := by
      unfold Array.eraseIdxIfInBounds
      rw [dif_pos hjs]
      simp
    have h1' : _ = _ := h1
    simp only [mpL, hsub, map_eraseIdx, h1']
end

/-! ### a walk over a map: the map and its iterator together; 'rem' is what is still to come, 'cur' what came last -/
def mpiF {κ : Type} (K : κ → Value) (l rem : List (κ × Value)) (cur : Option (κ × Value)) (es : Array MapEntry) (clock : Nat) (seen : Array Nat) : Prop :=
  mpL K l es ∧ Stamped es clock ∧ (leftOf es seen).toList.map (fun e => (e.key, e.val)) = rem.map (fun p => (K p.1, p.2)) ∧ ∀ p, cur = some p → ∃ e ∈ es.toList, ∃ seen' : Array Nat, seen = seen'.push e.born ∧ e.key = K p.1 ∧ e.val = p.2
def mpi {κ : Type} (K : κ → Value) (r b : Nat) (l rem : List (κ × Value)) (cur : Option (κ × Value)) : Asn := fun h => ∃ x : Array MapEntry × Nat × Array Nat,
  mpiF K l rem cur x.1 x.2.1 x.2.2 ∧ sep [blk r (.map x.1 x.2.1), blk b (.mapIter (some r) x.2.1 x.2.2 x.2.1)] h
/-- where the walk stands -/
class Mi (b : Nat) (L : List Asn) {κ : outParam Type} (K : outParam (κ → Value)) (r : outParam Nat) (l rem : outParam (List (κ × Value))) (cur : outParam (Option (κ × Value))) (L' : outParam (List Asn)) : Prop where
  perm : L.Perm (mpi K r b l rem cur :: L')
instance (priority := high) Mi.here (b : Nat) {κ : Type} (K : κ → Value) (r : Nat) (l rem : List (κ × Value)) (cur : Option (κ × Value)) (L : List Asn) : Mi b (mpi K r b l rem cur :: L) K r l rem cur L := ⟨.refl _⟩
instance Mi.there (b : Nat) (x : Asn) {κ : Type} (K : κ → Value) (r : Nat) (l rem : List (κ × Value)) (cur : Option (κ × Value)) (L L' : List Asn) [h : Mi b L K r l rem cur L'] : Mi b (x :: L) K r l rem cur (x :: L') := ⟨(h.perm.cons x).trans (List.Perm.swap _ _ _)⟩
section
variable {κ : Type} {K : κ → Value} {P : Program} {W0 W W' : World} {L L' : List Asn} {t kt et : TypeId} {r b : Nat} {l rem : List (κ × Value)} {cur : Option (κ × Value)}
theorem St.mpi (h : St W0 (Eng.mpi K r b l rem cur :: L) W) : ∃ es clock seen, mpiF K l rem cur es clock seen ∧ St W0 (Eng.blk r (.map es clock) :: Eng.blk b (.mapIter (some r) clock seen clock) :: L) W := by
  obtain ⟨⟨es, clock, seen⟩, h⟩ := h.ex
  obtain ⟨h1, h⟩ := h.fact
  exact ⟨es, clock, seen, h1, h.flat⟩
theorem mpi_ent {es : Array MapEntry} {clock : Nat} {seen : Array Nat} (h : mpiF K l rem cur es clock seen) : ent (Eng.blk r (.map es clock) :: Eng.blk b (.mapIter (some r) clock seen clock) :: L) (Eng.mpi K r b l rem cur :: L) :=
  (ent.pack [_, _] L).trans (ent.weak fun _ hp => ⟨(es, clock, seen), h, hp⟩)
theorem St.mpiEnd (h : St W0 (Eng.mpi K r b l rem cur :: L) W) : St W0 (Eng.mp K r l :: L) W := by
  obtain ⟨es, clock, seen, ⟨h1, h2, _⟩, h⟩ := h.mpi
  exact h.drop2.ent (mp_ent h1 h2)
theorem rangeM [hT : MapT P t kt et] {k : Value → World → Prop} (h : St W0 L W) [hm : Tk (Eng.mp K r) L l L'] (hk : ∀ b W', St W0 (Eng.mpi K r b l l none :: L') W' → k (.pointer (some ⟨b, 0, none⟩)) W') : efK P (Instr.range t (.map (some r))) k W := by
  obtain ⟨es, clock, h1, h2, h3⟩ := (h.perm hm.perm).mp
  have hb := h3.blk.2
  refine ⟨.pointer (some ⟨W.heap.size, 0, none⟩), W.alloc (.mapIter (some r) clock #[] clock), ?_, hk _ _ ?_⟩
  · simp [Instr.range, run_underlying hT.ok, MapKept.run_getObj_map hb, Result.andThen]
  · refine ((h3.alloc (.mapIter (some r) clock #[] clock)).ent (ent.swap _ _ _)).ent (mpi_ent ⟨h1, h2, ?_, fun p hp => by cases hp⟩)
    rw [← h1]
    simp only [leftOf, Array.toList_filter]
    rw [List.filter_eq_self.2 (by simp)]
theorem nextM {ty : TypeId} {k : Value → World → Prop} (h : St W0 L W) [hm : Mi b L K r l rem cur L'] (h0 : rem = [] → k (.tuple #[.bool false]) W)
    (h1 : ∀ pre a v post W', rem = pre ++ (a, v) :: post → St W0 (Eng.mpi K r b l (pre ++ post) (some (a, v)) :: L') W' → k (.tuple #[.bool true, K a, v]) W') : efK P (Instr.next (.pointer (some ⟨b, 0, none⟩)) false ty) k W := by
  obtain ⟨es, clock, seen, ⟨e1, e2, e3, e4⟩, h3⟩ := (h.perm hm.perm).mpi
  have hb := h3.blk.2
  have hr := (h3.ent (ent.swap _ _ _)).blk.2
  rcases run_next_at (P := P) W ty b r clock clock seen es clock hr hb e2.1 (Nat.le_refl _) with ⟨h4, h5⟩ | ⟨e, he, w1, hw1, h5⟩
  · refine ⟨_, _, h5, h0 ?_⟩
    have : (leftOf es seen).toList = [] := by rw [Array.eq_empty_of_size_eq_zero h4]
    rw [this] at e3
    simpa using e3.symm
  · obtain ⟨A, B, hAB⟩ := List.append_of_mem he
    rw [hAB, List.map_append, List.map_cons] at e3
    obtain ⟨pre, tl, e5, e6, e7⟩ := List.append_eq_map_iff.1 e3
    obtain ⟨p, post, e8, e9, e10⟩ := List.map_eq_cons_iff.1 e7
    subst e8
    obtain ⟨a, v⟩ := p
    simp only [Prod.mk.injEq] at e9
    refine ⟨_, _, h5, ?_⟩
    rw [← e9.1, ← e9.2]
    refine h1 pre a v post _ e5 ?_
    have h3' : St W0 (Eng.blk r (.map es clock) :: Eng.blk b (.mapIter (some r) clock seen clock) :: L') w1 := by
      rcases hw1 with rfl | rfl
      · exact h3
      · exact tape_drew h3
    have h6 := ((h3'.ent (ent.swap _ _ _)).setBlk (.mapIter (some r) clock (seen.push e.born) clock)).ent (ent.swap _ _ _)
    refine h6.ent (mpi_ent ⟨e1, e2, ?_, ?_⟩)
    · rw [List.map_append, e6, e10, ← List.map_append]
      congr 1
      have hn : ((leftOf es seen).toList.map (·.born)).Nodup := by
        simp only [leftOf, Array.toList_filter]
        exact (List.Sublist.map _ (List.filter_sublist)).nodup e2.2.1
      rw [hAB] at hn
      have hl : (leftOf es (seen.push e.born)).toList = (leftOf es seen).toList.filter fun x => x.born != e.born := by
        simp only [leftOf, Array.toList_filter, List.filter_filter]
        congr 1
        funext x
        by_cases hx : x.born = e.born
        · simp [hx]
        · simp [hx, Ne.symm hx]
      rw [hl, hAB, List.filter_append, List.filter_cons]
      simp only [bne_self_eq_false, Bool.false_eq_true, if_false]
      simp only [List.map_append, List.map_cons, List.nodup_append, List.nodup_cons] at hn
      rw [List.filter_eq_self.2, List.filter_eq_self.2]
      · intro x hx
        have : x.born ≠ e.born := fun h => hn.2.1.1 (List.mem_map.2 ⟨x, hx, h⟩)
        simp [this]
      · intro x hx
        have : x.born ≠ e.born := hn.2.2 x.born (List.mem_map.2 ⟨x, hx, rfl⟩) e.born (by simp)
        simp [this]
    · rintro p hp
      cases hp
      refine ⟨e, ?_, seen, rfl, e9.1.symm, e9.2.symm⟩
      have : e ∈ (leftOf es seen).toList := he
      simp only [leftOf, Array.toList_filter, List.mem_filter] at this
      exact this.1
theorem entryM {a : κ} {v : Value} {k : Value → World → Prop} (h : St W0 L W) [hm : Mi b L K r l rem (some (a, v)) L'] (hk : k (.tuple #[K a, v]) W) : efK P (Instr.entry (.pointer (some ⟨b, 0, none⟩))) k W := by
  obtain ⟨es, clock, seen, ⟨e1, e2, e3, e4⟩, h3⟩ := (h.perm hm.perm).mpi
  obtain ⟨e, he, seen', rfl, e5, e6⟩ := e4 _ rfl
  have hb := h3.blk.2
  have hr := (h3.ent (ent.swap _ _ _)).blk.2
  refine ⟨_, _, run_entry_at W b r clock seen' es clock e hr hb he e2.2.1, ?_⟩
  rw [e5, e6]; exact hk
end
end Go.Eng
/- Printed by an own tool (wip/tools/typm.py). -/
namespace Go.Proofs.Ytmojfpaagokckaa
set_option linter.unusedVariables false
set_option linter.unusedSimpArgs false
open Go.Eng
instance : MapT PR T_m_api_Dot_string T_api_Dot T_string := ⟨by kernel_rfl⟩
instance : MapT PR T_m_string_vec_Vec T_string T_vec_Vec := ⟨by kernel_rfl⟩
instance : KeyT PR T_string KS := KeyT.str (by kernel_rfl)
end Go.Proofs.Ytmojfpaagokckaa
namespace Go.Eng
set_option linter.unusedVariables false
set_option linter.unusedSimpArgs false
open Go Go.RowKit

def many {β : Type} (F : β → Asn) (l : List β) : Asn := sep (l.map F)
section
variable {κ β γ : Type} [DecidableEq κ] {F : β → Asn} {L : List Asn}
theorem mget_map (g : β → γ) (l : List (κ × β)) (a : κ) : mget (l.map fun p => (p.1, g p.2)) a = (mget l a).map g := by
  induction l with
  | nil => rfl
  | cons p l ih =>
    by_cases h : p.1 = a
    · simp [mget, h]
    · simp [mget, h, ih]
theorem mput_map (g : β → γ) (l : List (κ × β)) (a : κ) (b : β) : mput (l.map fun p => (p.1, g p.2)) a (g b) = (mput l a b).map fun p => (p.1, g p.2) := by
  induction l with
  | nil => rfl
  | cons p l ih =>
    by_cases h : p.1 = a
    · simp [mput, h]
    · simp [mput, h, ih]
theorem mdel_map (g : β → γ) (l : List (κ × β)) (a : κ) : mdel (l.map fun p => (p.1, g p.2)) a = (mdel l a).map fun p => (p.1, g p.2) := by
  induction l with
  | nil => rfl
  | cons p l ih =>
    by_cases h : p.1 = a
    · simp [mdel, h]
    · simp [mdel, h, ih]
theorem mget_mput (l : List (κ × β)) (a b : κ) (v : β) : mget (mput l a v) b = if a = b then some v else mget l b := by
  induction l with
  | nil => simp [mput, mget]
  | cons p l ih =>
    by_cases h : p.1 = a
    · subst h
      by_cases hb : p.1 = b
      · simp [mput, mget, hb]
      · simp [mput, mget, hb]
    · by_cases hb : p.1 = b
      · subst hb
        simp [mput, mget, h, Ne.symm h]
      · simp [mput, mget, h, hb, ih]
theorem mdel_perm {l : List (κ × β)} {a : κ} {b : β} (h : mget l a = some b) : l.Perm ((a, b) :: mdel l a) := by
  induction l with
  | nil => cases h
  | cons p l ih =>
    obtain ⟨x, y⟩ := p
    by_cases hx : x = a
    · subst hx
      simp only [mget, if_true, Option.some.injEq] at h
      subst h
      simp [mdel]
    · simp only [mget, if_neg hx] at h
      simp only [mdel, if_neg hx]
      exact ((ih h).cons _).trans (List.Perm.swap _ _ _)
theorem mdel_put_perm (l : List (κ × β)) (a : κ) (b : β) : ((a, b) :: mdel l a).Perm (mput l a b) := by
  induction l with
  | nil => exact .refl _
  | cons p l ih =>
    by_cases h : p.1 = a
    · simp [mdel, mput, h]
    · simp only [mdel, mput, if_neg h]
      exact (List.Perm.swap _ _ _).trans (ih.cons _)
theorem many_cons (b : β) (l : List β) : ent (many F (b :: l) :: L) (F b :: many F l :: L) := (ent.flat (F b :: l.map F) L).trans (ent.cons _ (ent.pack _ _))
theorem many_uncons (b : β) (l : List β) : ent (F b :: many F l :: L) (many F (b :: l) :: L) := (ent.cons _ (ent.flat (l.map F) L)).trans (ent.pack (F b :: l.map F) L)
theorem many_nil : ent L (many F ([] : List β) :: L) := ent.emp fun _ => rfl
theorem many_perm {l l' : List β} (h : l.Perm l') : ent (many F l :: L) (many F l' :: L) := ent.weak fun _ hp => sep_perm (h.map F) hp
/-- what stands at a key is taken out (nothing, if nothing stands there) -/
theorem many_take {l : List (κ × β)} (a : κ) (b0 : β) (h0 : ∀ L, ent L (F b0 :: L)) : ent (many F (l.map (·.2)) :: L) (F ((mget l a).getD b0) :: many F ((mdel l a).map (·.2)) :: L) := by
  cases h : mget l a with
  | none =>
    rw [mdel_none (mget_none.1 h)]
    exact h0 _
  | some b => exact (many_perm ((mdel_perm h).map (·.2))).trans (many_cons _ _)
theorem many_put {l : List (κ × β)} (a : κ) (b : β) : ent (F b :: many F ((mdel l a).map (·.2)) :: L) (many F ((mput l a b).map (·.2)) :: L) :=
  (many_uncons b _).trans (many_perm (List.Perm.map (fun x : κ × β => x.2) (mdel_put_perm l a b)))
end

/-- a slice of bytes, as it lies -/
structure BSl where
  a : Option Addr
  c : Nat
  bs : List UInt8
abbrev BSl.v (x : BSl) : Value := .slice x.a x.bs.length x.c
end Go.Eng
namespace Go.Eng
set_option linter.unusedVariables false
set_option linter.unusedSimpArgs false
open Go Go.RowKit
section
variable {P : Program} {W0 W : World} {L : List Asn} {e : TypeId}
theorem bs_run {t : TypeId} {sz by' : Nat} {z : Value} [ht : TyS P t e sz by' z] {n : Nat} {ps : List (Nat × Value)} {cs : List Value} (hn : n * sz ≤ 16777216) (hn0 : n * sz ≠ 0)
    (hc : fillL (fun i => some (i * sz, sz)) ((List.range (n * sz)).map fun i => ((vcells z)[i % (vcells z).length]?).getD undef) ps = some cs) :
    (Instr.buildSlice t n ps.toArray).run P W = .ok (.slice (some ⟨W.heap.size, 0, none⟩) n n) (W.alloc (.cells cs.toArray e)) := by
  obtain ⟨⟨i, h1, h2, h3, h4, h5⟩, hzz⟩ := ht.ok
  subst h3
  rw [← vcells_eq] at hc
  have hz : z.cells.size = i.size → ((List.range (n * i.size)).map fun j => (z.cells.toList[j % z.cells.toList.length]?).getD undef).toArray = (Array.range (n * i.size)).map (z.cells[· % z.cells.size]!) := by
    intro hzs
    apply Array.ext_getElem?
    intro j
    simp only [List.getElem?_toArray, List.getElem?_map, Array.getElem?_map, Array.length_toList]
    by_cases hj : j < n * i.size
    · have hpos : 0 < z.cells.size := by rw [hzs]; exact Nat.pos_of_ne_zero fun h => by rw [h] at hj; simp at hj
      have hm : j % z.cells.size < z.cells.size := Nat.mod_lt _ hpos
      simp [hj, hm]
    · simp [hj]
  have hf := fillL_run _ _ _ _ hc
  rw [hz hzz] at hf
  simp only [Instr.buildSlice, Sem.run_bind, run_underlying h1, Result.andThen_ok, run_sizeOf' h2]
  rw [if_neg (by omega), if_neg hn0]
  simp only [pure_bind, Sem.run_bind, run_zeroValue' h2 h5, Result.andThen_ok, Sem.run_pure, hf]
  rfl
/-- the bytes of a literal -/
theorem bytesLit (l : List UInt8) {t : TypeId} {by' n : Nat} {z : Value} [ht : TyS P t e 1 by' z] [hb : BytesT P t e] {ps : List (Nat × Value)} {k : Value → World → Prop} (h : St W0 L W) (hln : l.length = n) (hn : n ≤ 16777216) (hn0 : n ≠ 0)
    (hc : fillL (fun i => some (i * 1, 1)) ((List.range (n * 1)).map fun i => ((vcells z)[i % (vcells z).length]?).getD undef) ps = some (B8.rows l))
    (hk : ∀ a c W', St W0 (arr B8 e a c l :: L) W' → k (.slice a l.length c) W') : efK P (Instr.buildSlice t n ps.toArray) (fun u W => efK P (convert t t u) k W) W := by
  subst hln
  refine ⟨_, _, bs_run (P := P) (t := t) (e := e) (by omega) (by omega) hc, _, _, Go.Lib.run_convert_bytes_const W t e _ _ _ hb.ok.1 hb.ok.2, ?_⟩
  refine hk _ _ _ (((h.alloc _).weak (a' := cells W.heap.size (B8.rows l) e) fun p hp => ⟨((B8.rows l).toArray.size, (B8.rows l).toArray.size + 1), ?_, by simpa using hp⟩).ent (arr_full (A := B8) (by unfold maxLen; omega)))
  intro i hi
  simp; omega
end
end Go.Eng
namespace Go.Eng
set_option linter.unusedVariables false
set_option linter.unusedSimpArgs false
open Go Go.RowKit
section
variable {α : Type} {A : Ly α} {P : Program} {W0 W W' : World} {L L' : List Asn} {e : TypeId} {a : Option Addr} {c : Nat} {l : List α}
theorem arr_pre (i : Nat) : ∀ p, arr A e a c l p → arr A e a c (l.take i) p := by
  rintro p ⟨h5, h6, h7⟩
  refine ⟨by simp; omega, h6, ?_⟩
  rcases h7 with ⟨rfl, rfl, h7⟩ | ⟨g, o, cur, rfl, h8, h9, h10⟩
  · exact .inl ⟨rfl, rfl, h7⟩
  · refine .inr ⟨g, o, cur, rfl, h8, ?_, h10⟩
    rw [← Ly.rows_take, ← h9, List.take_take, List.length_take, Nat.min_def, Nat.min_def]
    by_cases h : i ≤ l.length
    · rw [if_pos h, if_pos (Nat.mul_le_mul_right _ h)]
    · rw [if_neg h]
      by_cases h' : i * A.sz ≤ l.length * A.sz
      · rw [if_pos h', Nat.le_antisymm h' (Nat.mul_le_mul_right _ (by omega))]
      · rw [if_neg h']
theorem clrA {t ty : TypeId} {sz by' i n : Nat} {z : Value} [ht : TyS P t e sz by' z] {a' : Option Addr} {c' : Nat} {k : Value → World → Prop} (h : St W0 L W) [ho : Own a L A e c l L'] (hs : A.sz = sz) (hz1 : (vcells z).all oneC = true) (hi : i ≤ l.length)
    (ha : a' = if c = i then a else a.map (·.add (i * sz))) (hn : n = l.length - i) (hk : ∀ W', St W0 (arr A e a c (l.take i) :: L') W' → k (.tuple #[]) W') : efK P (Builtin.clear_ #[t] ty #[.slice a' n c']) k W := by
  subst hs
  obtain ⟨⟨x, h1, h2, h3, h4, h5⟩, hzz⟩ := ht.ok
  have h := h.took (a := a)
  have hf := h.arrFacts
  by_cases hn0 : n = 0
  · subst hn0
    refine ⟨_, W, ?_, hk W (h.weak (arr_pre i))⟩
    simp only [Builtin.clear_, List.getElem?_toArray, List.getElem?_cons_zero, Sem.run_bind, run_underlying h1, Result.andThen_ok]
    cases a' <;> rfl
  · have ha0 : a ≠ none := fun e => by have := hf.2.2.1 e; omega
    obtain ⟨g, o, cur, rfl, h6, h7, h8⟩ := h.arrCells ha0
    rw [if_neg (by omega)] at ha
    simp only [Option.map_some, add_none] at ha
    subst ha
    have hle : l.length * A.sz ≤ c * A.sz := Nat.mul_le_mul_right _ hf.1
    have hil : i * A.sz + (l.length - i) * A.sz = l.length * A.sz := by rw [← Nat.add_mul]; congr 1; omega
    have hzl : (Builtin.zeroCells z.cells n).toList.length = n * A.sz := by rw [zeroCells_len, hzz]
    have hone : (Builtin.zeroCells z.cells n).toList.all oneC = true := by
      rw [List.all_eq_true]
      intro u hu
      simp only [Builtin.zeroCells, Array.toList_map, List.mem_map, Array.toList_range, List.mem_range] at hu
      obtain ⟨j, hj, rfl⟩ := hu
      have hpos := A.pos
      have hm : j % z.cells.size < z.cells.size := Nat.mod_lt _ (by rw [hzz]; exact hpos)
      rw [← vcells_eq] at hz1
      have := List.all_eq_true.1 hz1 z.cells[j % z.cells.size]! (by simp [hm])
      exact this
    obtain ⟨W1, hr, hs'⟩ := storeCells_over (P := P) (off := o + i * A.sz) h8 hone (by rw [hzl, hn]; omega)
    refine ⟨_, W1, ?_, hk W1 (hs'.ent (arr_of_cells (by simp; omega) hf.2.1 (by rw [List.length_append, List.length_append, hzl]; simp; rw [hn]; omega) ?_))⟩
    · simp only [Builtin.clear_, List.getElem?_toArray, List.getElem?_cons_zero, Sem.run_bind, run_underlying h1, Result.andThen_ok]
      have hz' := run_zeroValue' (P := P) (w := W) h2 h5
      obtain ⟨m, rfl⟩ : ∃ m, n = m + 1 := ⟨n - 1, by omega⟩
      simp only [hz', Result.andThen_ok, hr, Sem.run_bind]
      rfl
    · rw [List.append_assoc, List.drop_append_of_le_length (by simp; omega), List.drop_take, Nat.add_sub_cancel_left, List.length_take, Nat.min_eq_left hi,
        List.take_append_of_le_length (by simp; omega), List.take_take, Nat.min_self, ← Ly.rows_take, ← h7, List.take_take, Nat.min_eq_left (by omega)]
theorem slcStr_eq {s : ByteArray} {lo hi : Option Value} {l h : Nat} (h1 : bnd hi s.size s.size = some h) (h2 : bnd lo 0 h = some l) : slcStr (.string s) lo hi = some (.string (s.extract l h)) := by
  have e1 : slcB s.size s.size lo hi none = some (l, h, s.size) := by
    cases hi with
    | none => rw [bnd_none] at h1; cases h1; simp only [slcB, bnd_none, h2]
    | some v => simp only [slcB, bnd_none, h1, h2]
  simp only [slcStr, e1]
theorem ba_ext (l : List UInt8) (i j : Nat) : (⟨l.toArray⟩ : ByteArray).extract i j = ⟨((l.take j).drop i).toArray⟩ := by
  apply ByteArray.ext
  simp [ByteArray.data_extract, List.extract_toArray, List.extract_eq_take_drop, List.drop_take]
theorem min2i {k : IntKind} {a b : Int} : foldP min2P [.int k a, .int k b] = some (.int k (if b < a then b else a)) := rfl
theorem max2i {k : IntKind} {a b : Int} : foldP max2P [.int k a, .int k b] = some (.int k (if a < b then b else a)) := rfl
/-- an element, as a value -/
def Ly.val (A : Ly α) (agg : Bool) (x : α) : Value := if agg then .agg (A.row x).toArray else (A.row x).headD undef
theorem Ly.val_agg (x : α) : A.val true x = .agg (A.row x).toArray := rfl
/-- a function value that tests an element; what it needs is C -/
def PredF (P : Program) (A : Ly α) (agg : Bool) (C : Asn) (fv : Value) (p : α → Bool) : Prop :=
  ∀ (W0 : World) (L : List Asn) (x : α) (W : World) (k : Value → World → Prop), St W0 (C :: L) W → (∀ W', St W0 (C :: L) W' → k (.bool (p x)) W') → vcK P fv [A.val agg x] k W
theorem lsub_self : ∀ (l : List Value), lsub l 0 l.length = l
  | [] => rfl
  | v :: l => by simp [lsub, lsub_self l]
theorem getL_val {agg : Bool} {sz : Nat} (hs : A.sz = sz) (h1 : agg = false → sz = 1) (x : α) : getL agg (A.row x) 0 sz = some (A.val agg x) := by
  subst hs
  cases agg with
  | true => rw [Ly.val_agg, getL, ← A.len x, lsub_self]
  | false =>
    have hl := A.len x
    rw [h1 rfl] at hl
    match h : A.row x, hl with
    | [v], _ => simp [getL, lget, Ly.val, h]
theorem val_cells {agg : Bool} {sz : Nat} (hs : A.sz = sz) (h1 : agg = false → sz = 1) (x : α) : vcells (A.val agg x) = A.row x := by
  subst hs
  cases agg with
  | true => rw [Ly.val_agg, vcells_agg]
  | false =>
    have hl := A.len x
    have ho := A.one x
    rw [h1 rfl] at hl
    match h : A.row x, hl, ho with
    | [v], _, ho =>
      have h2 : A.val false x = v := by simp [Ly.val, h]
      rw [h2]
      cases v <;> first | rfl | (simp [oneC] at ho)
/-- a new variable that is laid at once -/
theorem newV (x : α) {t : TypeId} {agg : Bool} {sz : Nat} {z : Value} [ht : TyI P t agg sz] [hz : TyZ P t z] {k : Value → World → Prop} (h : St W0 L W) (hs : A.sz = sz) (h1 : agg = false → sz = 1) (hzl : (vcells z).length = sz)
    (hk : ∀ b W', St W0 (cells b (A.row x) t :: L) W' → k (.pointer (some ⟨b, 0, none⟩)) W') :
    efK P (Instr.alloc t true (.tuple #[])) (fun v W => efK P (Instr.storeAt t v (A.val agg x)) (fun _ W => k v W) W) W := by
  refine al h fun b W1 h => ?_
  have e : stL (vcells z) 0 (vcells (A.val agg x)) = A.row x := by
    rw [val_cells hs h1, stL_eq _ _ _ (by rw [A.len]; omega), A.len, Nat.zero_add, List.drop_eq_nil_of_le (by omega)]
    simp
  refine sto (off := 0) h (by rw [val_cells hs h1, A.len, hs]) (by omega) (by rw [val_cells hs h1]; exact A.one _) fun W2 h => ?_
  rw [e] at h
  exact hk b W2 h
theorem ldV (x : α) {t : TypeId} {agg : Bool} {sz b : Nat} {T : TypeId} [ht : TyI P t agg sz] {k : Value → World → Prop} (h : St W0 L W) [hc : Ck b L (A.row x) T L'] (hs : A.sz = sz) (h1 : agg = false → sz = 1) (hk : k (A.val agg x) W) :
    rdK P (Instr.loadAt t (.pointer (some ⟨b, 0, none⟩))) k W := ld h (getL_val hs h1 x) (fun _ => by rw [A.len]; omega) hk
theorem slc_pre {sz n i : Nat} {k : IntKind} {K : Value → Prop} (h : St W0 (arr A e a c l :: L) W) (hi : i ≤ c) (hk : K (.slice a i c)) : okF (slcS sz (.slice a n c) none (some (.int k (i : Int))) none) K := by
  refine okF_i (slcS_eq (bnd_nat hi) bnd_none) ?_
  have hf := h.arrFacts
  by_cases hc : c = 0
  · rw [if_pos hc]; simpa using hk
  · obtain ⟨g, o, rfl⟩ := hf.2.2.2 (by omega)
    rw [if_neg hc]
    simpa [add_none] using hk
end
end Go.Eng
namespace Go.Eng
set_option linter.unusedVariables false
set_option linter.unusedSimpArgs false
open Go Go.RowKit
section
variable {P : Program} {W0 W : World} {L L' : List Asn}
theorem KeyT.agg {t : TypeId} {d : TypeDesc} {κ : Type} {K : κ → Value} [DecidableEq κ] (cs : κ → List Value) {ks : List Leaf} [EqS P t ks] (hK : ∀ k, K k = .agg (cs k).toArray) (hd : P.underlying t = some d)
    (hs : ∀ a b, Instr.sameNow d a b = none) (heq : ∀ a b, eqC ks (cs a) (cs b) = some (decide (a = b))) (hst : ∀ k, Instr.sameBits 10000 (K k) (K k) = true)
    (hchk : ∀ (w : World) (em : Bool) (k : κ), (Instr.checkKey em 10000 t (K k)).run P w = .ok () w) : KeyT P t K where
  inj {a b} h := by
    rw [hK, hK] at h
    have h1 : cs a = cs b := by simpa using h
    have h2 := heq a b
    rw [h1, heq b b] at h2
    simpa using h2
  check := hchk
  find w k es hes := by
    have hasking : ∀ (es : List MapEntry) (i : Nat), (∀ e ∈ es, ∃ k', e.key = K k') →
        ((Instr.findAsking t (K k) es i).run P w = .ok none w ∧ ∀ e ∈ es, e.key ≠ K k) ∨ ∃ j e, (Instr.findAsking t (K k) es i).run P w = .ok (some (i + j, e.val)) w ∧ es[j]? = some e ∧ e.key = K k := by
      intro es
      induction es with
      | nil => intro i _; exact .inl ⟨rfl, by simp⟩
      | cons e es ih =>
        intro i hes
        obtain ⟨k', hk'⟩ := hes e (by simp)
        have he := (equal_run (P := P) (w := w))
        have hq : (Op.equal t (K k) e.key).run P w = .ok (decide (k = k')) w := by
          have h1 := (aggEq_run (P := P) (w := w) (t := t) (heq k k')).1
          rw [hk', hK k, hK k']
          obtain ⟨u, g1, g0, g2, g3⟩ := (inferInstance : EqS P t ks).ok
          exact equal_run (P := P) (w := w) 8 9992 t ks _ _ _ _ g2 g1 (heq k k') (.agg (cs k).toArray) (.agg (cs k').toArray) (fun _ => ⟨rfl, rfl⟩) (fun h => by rw [g0] at h; cases h)
        simp only [Instr.findAsking, Sem.run_bind, hq, Result.andThen_ok]
        by_cases hkk : k = k'
        · subst hkk
          rw [decide_eq_true rfl]
          exact .inr ⟨0, e, rfl, rfl, hk'⟩
        · rw [decide_eq_false hkk]
          rcases ih (i + 1) (fun x hx => hes x (by simp [hx])) with ⟨h1, h2⟩ | ⟨j, e', h1, h2, h3⟩
          · refine .inl ⟨h1, fun x hx => ?_⟩
            rcases List.mem_cons.1 hx with rfl | hx
            · rw [hk']
              intro h
              rw [hK, hK] at h
              have h1 : cs k' = cs k := by simpa using h
              have h2 := heq k k'
              rw [h1, heq k k] at h2
              exact hkk (by simpa using h2)
            · exact h2 x hx
          · refine .inr ⟨j + 1, e', ?_, by simpa using h2, h3⟩
            simpa [Nat.add_assoc, Nat.add_comm 1 j] using h1
    have hrun : ∀ es : List MapEntry, (Instr.findKey t (K k) es).run P w = (Instr.findAsking t (K k) es).run P w := by
      intro es
      simp only [Instr.findKey, Sem.run_bind, run_underlying hd, Result.andThen_ok]
      cases es with
      | nil => rfl
      | cons e es => simp only [Instr.findNow, hs]
    rw [hrun]
    rcases hasking es 0 hes with h | ⟨j, e, h1, h2, h3⟩
    · exact .inl h
    · exact .inr ⟨j, e, by simpa using h1, h2, h3⟩
  stays w k := by simp only [Instr.keyThatStays, hst, if_true, Sem.run_pure]

/-! ### what is not wanted is let go -/
def PH.le (a b : PH) : Prop := ∀ x o, a x = some o → b x = some o
def entd (L L' : List Asn) : Prop := ∀ p, sep L p → ∃ p', PH.le p' p ∧ sep L' p'
theorem entd.refl (L : List Asn) : entd L L := fun p h => ⟨p, fun _ _ h => h, h⟩
theorem entd.trans {L L' L'' : List Asn} (h : entd L L') (h' : entd L' L'') : entd L L'' := fun p hp => by
  obtain ⟨q, h1, h2⟩ := h p hp
  obtain ⟨r, h3, h4⟩ := h' q h2
  exact ⟨r, fun x o hx => h1 x o (h3 x o hx), h4⟩
theorem ent.d {L L' : List Asn} (h : ent L L') : entd L L' := fun p hp => ⟨p, fun _ _ h => h, h p hp⟩
theorem entd.drop (x : Asn) (L : List Asn) : entd (x :: L) L := by
  rintro p ⟨h1, h2, hd, rfl, ha, hl⟩
  refine ⟨h2, fun y o hy => ?_, hl⟩
  rcases hd y with h | h
  · simp [PH.join, h, hy]
  · rw [h] at hy; cases hy
theorem entd.cons (x : Asn) {L L' : List Asn} (h : entd L L') : entd (x :: L) (x :: L') := by
  rintro p ⟨h1, h2, hd, rfl, ha, hl⟩
  obtain ⟨q, hq, hs⟩ := h h2 hl
  refine ⟨PH.join h1 q, fun y o hy => ?_, h1, q, fun y => ?_, rfl, ha, hs⟩
  · simp only [PH.join] at hy ⊢
    cases h1y : h1 y with
    | some u => rw [h1y] at hy; simpa using hy
    | none => rw [h1y] at hy; simp only [Option.none_or] at hy ⊢; exact hq y o hy
  · rcases hd y with h | h
    · exact .inl h
    · cases hqy : q y with
      | none => exact .inr rfl
      | some u => rw [hq y u hqy] at h; cases h
theorem St.entd {L L' : List Asn} (h : St W0 L W) (he : Eng.entd L L') : St W0 L' W := by
  obtain ⟨hb, p, hs, ho⟩ := h
  obtain ⟨q, hq, hs'⟩ := he p hs
  exact ⟨hb, q, hs', fun b o hbo => ho b o (hq b o hbo)⟩
class Pk (x : Asn) (L : List Asn) (L' : outParam (List Asn)) : Prop where
  perm : L.Perm (x :: L')
instance (priority := high) Pk.here (x : Asn) (L : List Asn) : Pk x (x :: L) L := ⟨.refl _⟩
instance Pk.there (x y : Asn) (L L' : List Asn) [h : Pk x L L'] : Pk x (y :: L) (y :: L') := ⟨(h.perm.cons y).trans (List.Perm.swap _ _ _)⟩
class Wk (L L' : List Asn) : Prop where
  ok : Eng.entd L L'
instance (priority := high) Wk.refl (L : List Asn) : Wk L L := ⟨entd.refl L⟩
instance (priority := 900) Wk.pick (x : Asn) (L L1 L' : List Asn) [h : Pk x L L1] [h' : Wk L1 L'] : Wk L (x :: L') := ⟨(ent.perm h.perm).d.trans (h'.ok.cons x)⟩
instance (priority := low) Wk.drop (x : Asn) (L L' : List Asn) [h : Wk L L'] : Wk (x :: L) L' := ⟨(entd.drop x L).trans h.ok⟩
instance (priority := 950) Wk.nil (L : List Asn) : Wk L [] := ⟨fun p _ => ⟨fun _ => none, ⟨fun _ _ h => (nomatch h), fun _ => rfl⟩⟩⟩
/-- the chunks that are wanted, in the order that is wanted -/
theorem St.wk {L L' : List Asn} (h : St W0 L W) [hw : Wk L L'] : St W0 L' W := h.entd hw.ok
end

/-! ### seven of a kind -/
structure P7 (α : Type) where
  x0 : α
  x1 : α
  x2 : α
  x3 : α
  x4 : α
  x5 : α
  x6 : α
  deriving DecidableEq
namespace P7
variable {α β γ : Type}
abbrev of (f : Nat → α) : P7 α := ⟨f 0, f 1, f 2, f 3, f 4, f 5, f 6⟩
@[reducible] def get (p : P7 α) : Nat → α
  | 0 => p.x0
  | 1 => p.x1
  | 2 => p.x2
  | 3 => p.x3
  | 4 => p.x4
  | 5 => p.x5
  | _ => p.x6
def map (f : α → β) (p : P7 α) : P7 β := ⟨f p.x0, f p.x1, f p.x2, f p.x3, f p.x4, f p.x5, f p.x6⟩
def zip (f : α → β → γ) (p : P7 α) (q : P7 β) : P7 γ := ⟨f p.x0 q.x0, f p.x1 q.x1, f p.x2 q.x2, f p.x3 q.x3, f p.x4 q.x4, f p.x5 q.x5, f p.x6 q.x6⟩
def list (p : P7 α) : List α := [p.x0, p.x1, p.x2, p.x3, p.x4, p.x5, p.x6]
abbrev set (p : P7 α) (i : Nat) (x : α) : P7 α := of fun j => if j = i then x else p.get j
abbrev all (a : α) : P7 α := ⟨a, a, a, a, a, a, a⟩
theorem cases7 {i : Nat} (h : i < 7) : i = 0 ∨ i = 1 ∨ i = 2 ∨ i = 3 ∨ i = 4 ∨ i = 5 ∨ i = 6 := by omega
theorem get_of (f : Nat → α) {i : Nat} (h : i < 7) : (of f).get i = f i := by rcases cases7 h with rfl | rfl | rfl | rfl | rfl | rfl | rfl <;> rfl
theorem of_get (p : P7 α) : of p.get = p := rfl
theorem ext7 {p q : P7 α} (h : ∀ i, i < 7 → p.get i = q.get i) : p = q := by
  rw [← of_get p, ← of_get q]
  simp only [of, h 0 (by omega), h 1 (by omega), h 2 (by omega), h 3 (by omega), h 4 (by omega), h 5 (by omega), h 6 (by omega)]
theorem get_map (f : α → β) (p : P7 α) (i : Nat) : (p.map f).get i = f (p.get i) := by
  unfold get; split <;> rfl
theorem get_zip (f : α → β → γ) (p : P7 α) (q : P7 β) (i : Nat) : (p.zip f q).get i = f (p.get i) (q.get i) := by
  unfold get; split <;> rfl
theorem get_set (p : P7 α) (i j : Nat) (x : α) (hj : j < 7) : (p.set i x).get j = if j = i then x else p.get j := by rw [set, get_of _ hj]
theorem get_all (a : α) (i : Nat) : (all a).get i = a := by unfold get; split <;> rfl
theorem map_set (f : α → β) (p : P7 α) (i : Nat) (x : α) : (p.set i x).map f = (p.map f).set i (f x) := by
  refine ext7 fun j hj => ?_
  rw [get_map, get_set _ _ _ _ hj, get_set _ _ _ _ hj, get_map]
  split <;> rfl
theorem list_len (p : P7 α) : p.list.length = 7 := rfl
theorem list_get (p : P7 α) {i : Nat} (h : i < 7) : p.list[i]? = some (p.get i) := by rcases cases7 h with rfl | rfl | rfl | rfl | rfl | rfl | rfl <;> rfl
theorem map_map (f : α → β) (g : β → γ) (p : P7 α) : (p.map f).map g = p.map (fun x => g (f x)) := rfl
end P7
end Go.Eng
namespace Go.Eng
set_option linter.unusedVariables false
set_option linter.unusedSimpArgs false

def zig (v : Int) : Nat := if 0 ≤ v then 2 * v.toNat else 2 * (-v).toNat - 1
def unzig (u : Nat) : Int := if u % 2 = 0 then ((u / 2 : Nat) : Int) else - ((u / 2 : Nat) : Int) - 1
theorem unzig_zig (v : Int) : unzig (zig v) = v := by unfold zig unzig; split <;> split <;> omega
theorem zig_lt {v : Int} (h0 : -9223372036854775808 ≤ v) (h1 : v ≤ 9223372036854775807) : zig v < 18446744073709551616 := by unfold zig; split <;> omega
theorem unzig_ge (u : Nat) (h : u < 18446744073709551616) : -9223372036854775808 ≤ unzig u ∧ unzig u ≤ 9223372036854775807 := by unfold unzig; split <;> omega
def encU (u : Nat) : List UInt8 := if u < 128 then [UInt8.ofNat u] else UInt8.ofNat (u % 128 + 128) :: encU (u / 128)
termination_by u
decreasing_by omega
def encN (v : Int) : List UInt8 := encU (zig v)
theorem encU_small {u : Nat} (h : u < 128) : encU u = [UInt8.ofNat u] := by rw [encU, if_pos h]
theorem encU_big {u : Nat} (h : ¬ u < 128) : encU u = UInt8.ofNat (u % 128 + 128) :: encU (u / 128) := by rw [encU, if_neg h]
/-- how many groups at most -/
theorem encU_len : ∀ (k u : Nat), u < 128 ^ (k + 1) → (encU u).length ≤ k + 1
  | 0, u, h => by rw [encU_small (by simpa using h)]; simp
  | k + 1, u, h => by
    by_cases hu : u < 128
    · rw [encU_small hu]; simp
    · rw [encU_big hu]
      have := encU_len k (u / 128) (Nat.div_lt_of_lt_mul (by rw [Nat.pow_succ] at h; rw [Nat.mul_comm]; exact h))
      simp only [List.length_cons]; omega
theorem encU_le {u : Nat} (h : u < 18446744073709551616) : (encU u).length ≤ 10 := encU_len 9 u (Nat.lt_of_lt_of_le h (by decide))
theorem encN_le {v : Int} (h0 : -9223372036854775808 ≤ v) (h1 : v ≤ 9223372036854775807) : (encN v).length ≤ 10 := encU_le (zig_lt h0 h1)

/-- a number's groups, of which i are read: their sum, what is behind them -/
def dec (i u : Nat) : List UInt8 → Option (Nat × List UInt8)
  | [] => none
  | c :: r => if 10 ≤ i then none else
      if 128 ≤ c.toNat then dec (i + 1) (u + (c.toNat - 128) * 128 ^ i) r
      else if (0 < i ∧ c.toNat = 0) ∨ (i = 9 ∧ 1 < c.toNat) then none
      else some (u + c.toNat * 128 ^ i, r)
theorem ofNat_toNat {n : Nat} (h : n < 256) : (UInt8.ofNat n).toNat = n := by simp [UInt8.toNat_ofNat', Nat.mod_eq_of_lt h]
theorem dec_encU : ∀ (k i u s : Nat) (r : List UInt8), i + k = 9 → u < 128 ^ (k + 1) → (i = 0 ∨ 0 < u) → (u * 128 ^ i < 18446744073709551616) → dec i s (encU u ++ r) = some (s + u * 128 ^ i, r)
  | 0, i, u, s, r, hi, hu, hp, hb => by
    have : i = 9 := by omega
    subst this
    have hu : u < 128 := by simpa using hu
    rw [encU_small hu]
    simp only [List.cons_append, List.nil_append, dec, ofNat_toNat (show u < 256 by omega)]
    rw [if_neg (by omega), if_neg (by omega), if_neg]
    have : (128 : Nat) ^ 9 = 9223372036854775808 := by decide
    omega
  | k + 1, i, u, s, r, hi, hu, hp, hb => by
    by_cases h : u < 128
    · rw [encU_small h]
      simp only [List.cons_append, List.nil_append, dec, ofNat_toNat (show u < 256 by omega)]
      rw [if_neg (by omega), if_neg (by omega), if_neg (by omega)]
    · rw [encU_big h]
      simp only [List.cons_append, dec, ofNat_toNat (show u % 128 + 128 < 256 by omega)]
      have e1 : u / 128 * 128 ^ (i + 1) + u % 128 * 128 ^ i = u * 128 ^ i := by
        rw [Nat.pow_succ, Nat.mul_comm (128 ^ i) 128, ← Nat.mul_assoc, ← Nat.add_mul]
        congr 1; omega
      rw [if_neg (by omega), if_pos (by omega), dec_encU k (i + 1) (u / 128) _ r (by omega)
        (Nat.div_lt_of_lt_mul (by rw [Nat.pow_succ] at hu; rw [Nat.mul_comm]; exact hu)) (by omega) (by omega)]
      rw [Nat.add_sub_cancel, Nat.add_assoc]
      congr 3; omega
theorem dec_enc (u : Nat) (r : List UInt8) (h : u < 18446744073709551616) : dec 0 0 (encU u ++ r) = some (u, r) := by
  rw [dec_encU 9 0 u 0 r rfl (Nat.lt_of_lt_of_le h (by decide)) (.inl rfl) (by omega)]; simp
theorem dec_len : ∀ (bs : List UInt8) (i u v : Nat) (r : List UInt8), dec i u bs = some (v, r) → r.length ≤ bs.length
  | [], i, u, v, r, h => by simp [dec] at h
  | c :: bs, i, u, v, r, h => by
    simp only [dec] at h
    split at h
    · cases h
    · split at h
      · have := dec_len bs _ _ _ _ h
        simp only [List.length_cons]; omega
      · split at h
        · cases h
        · simp only [Option.some.injEq, Prod.mk.injEq] at h
          rw [← h.2]; simp
/-- what a reader reads -/
def rdN (bs : List UInt8) (lo hi : Int) : Option (Int × List UInt8) :=
  match dec 0 0 bs with
  | some (u, r) => if unzig u < lo ∨ hi < unzig u then none else some (unzig u, r)
  | none => none
theorem rdN_enc {v lo hi : Int} {r : List UInt8} (h0 : -9223372036854775808 ≤ lo) (h1 : hi ≤ 9223372036854775807) (h2 : lo ≤ v) (h3 : v ≤ hi) : rdN (encN v ++ r) lo hi = some (v, r) := by
  unfold rdN encN
  rw [dec_enc _ _ (zig_lt (by omega) (by omega))]
  simp only [unzig_zig]
  rw [if_neg (by omega)]
end Go.Eng
