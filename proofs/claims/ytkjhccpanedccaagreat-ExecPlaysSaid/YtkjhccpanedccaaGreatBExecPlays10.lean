/- Texts of the claim ExecPlays, joined: HExecPlays. -/
import Derived.Test.YtkjhccpanedccaaGreatBExecPlays9
import Derived.Test.YtkjhccpanedccaaGreatBExecPlays7
import Derived.Test.YtkjhccpanedccaaGreatRows
import Derived.WalkKit
import Derived.ProofKit
namespace Go.Proofs.YtkjhccpanedccaaGreat.execPlaysDone
set_option linter.unusedVariables false
set_option linter.unusedSimpArgs false
open Go Go.Eng Go.ChangeShapes Go.WideShapes Go.ChangeAt Go.RowKit
theorem own : ownKnob Tryz.prog.godebug = none := by kernel_rfl
theorem laidOut : laidOutB Tryz.prog = true := by kernel_rfl
set_option maxRecDepth 100000 in
theorem lifted (os : Os) (started : os.Started) (H : Type) (enc : TypeId × Value → H) :
  ReturnsInHanded {} Tryz.checked os F_rostrumlaw23_ExecPlays .any (Rows.execPlaysSpec.pre6 enc Tryz.prog Tryz.f5 Rows.execPlaysRow.domain false) (Rows.execPlaysSpec.post enc Tryz.prog Tryz.f5 false true false false) := by
 refine returnsInHanded_of_change (C := Tryz.checked) own started (by kernel_rfl) S.rostrumlaw23_ExecPlays.fn
  (ChangeSpec.witness6 (enc := enc) (C := Tryz.checked) false ⟨#[], #[(.slice none 0 0), (.agg #[.int .i64 0, .int .i64 0])], []⟩ 8 (by kernel_rfl) (by kernel_rfl) (by kernel_rfl) (by kernel_rfl)) ?_
 intro W base args ds gs before hval0 hW hcnd _
 have hval : ∀ (j : Nat) t v, Tryz.f5.params[j]? = some t → args[j]? = some v → Value.okWide Tryz.prog W .any base t v := hval0
 have hW' := hW
 obtain ⟨p, q, hA0, hV, rfl, hfz, hnd⟩ := hW
 have hA : DataW.TrodAll enc Tryz.prog W 0 (fun _ => true) true Tryz.f5.params.toList args.toList ds p := hA0
 have hpar : Tryz.f5.params.toList = [T_s_rostrumlaw23_Act, T_api_Dot] := by kernel_rfl
 rw [hpar] at hA
 have hA1 := hA
 obtain ⟨v0, vs0, d0, ds0, p0, q0, hargs, rfl, rfl, h0, r0⟩ := trodAll_cons hA
 obtain ⟨v1, vs1, d1, ds1, p1, q1, rfl, rfl, rfl, h1, r1⟩ := trodAll_cons r0
 obtain ⟨rfl, rfl, rfl⟩ := trodAll_nil r1
 obtain rfl : args = #[v0, v1] := by cases args; simp_all
 obtain ⟨rfl, rfl⟩ := trodVars_none hV
 have g0 : GoodA W [.sl [.int .i64, .int .i64, .int .i64, .int .i64, .int .i64, .int .i64, .int .i64, .int .i64, .int .i64, .int .i64, .int .i64, .int .i64, .int .i64, .int .i64, .int .i64, .int .i64, .int .i64, .int .i64, .sl [.int .u8]]] false v0 := open_arg (m := 8) (by kernel_rfl) (by kernel_rfl) (hval 0 T_s_rostrumlaw23_Act v0 (by kernel_rfl) rfl) h0
 have g1 : GoodA W [.int .i64, .int .i64] true v1 := open_arg (m := 8) (by kernel_rfl) (by kernel_rfl) (hval 1 T_api_Dot v1 (by kernel_rfl) rfl) h1
 clear hA0 hval0
 have hc : Calls Tryz.prog F_rostrumlaw23_ExecPlays #[v0, v1] W fun e W' => e = .returned (.bool true) ∧ Below W.heap.size W W' :=
  Calls.mono (execPlays_walk g0 g1) fun e W' h => by
   cases e <;> first | exact ⟨by rw [h.1], h.2.below⟩ | exact h.elim
 refine hc.mono fun e W' ⟨he, bel⟩ => ?_
 subst he
 exact ⟨_, rfl, _, _, _, [], _, [], hW', trodAll_mk1 (shut_bool (t := T_bool) (by kernel_rfl) _), keep_all laidOut (by kernel_rfl) hA1 bel, rfl, bel.frame _, fun h => by cases h⟩
theorem proved : Rows.ExecPlaysSaid :=
 OpenClaim.holds_of_wide F_rostrumlaw23_ExecPlays Tryz.f5 rfl rfl rfl rfl rfl rfl rfl ⟨rfl, rfl, rfl, rfl, rfl⟩ rfl rfl rfl rfl rfl (by kernel_rfl) S.rostrumlaw23_ExecPlays.fn (by kernel_rfl)
  (of_decide_eq_true (by kernel_rfl)) (by unfold Func.isWrapper; first | (rw [if_pos (by decide +kernel)]; kernel_rfl) | (rw [if_neg (by decide +kernel)]; exact ⟨rfl, rfl⟩))
  (fun os started H enc _ => lifted os started H enc)
end Go.Proofs.YtkjhccpanedccaaGreat.execPlaysDone
