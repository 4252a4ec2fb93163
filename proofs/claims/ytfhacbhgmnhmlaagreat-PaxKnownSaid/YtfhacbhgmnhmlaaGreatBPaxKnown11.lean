/- Texts of the claim PaxKnown, joined: SDots, ShAw22, LPaxA, ShP22k, LPaxK, HPaxKnown. -/
import Derived.Test.YtfhacbhgmnhmlaaGreatBPaxKnown6
import Derived.Test.YtfhacbhgmnhmlaaGreatBPaxKnown10
import Derived.Test.YtfhacbhgmnhmlaaGreatBPaxKnown1
import Derived.Test.YtfhacbhgmnhmlaaGreatBPaxKnown9
import Derived.Test.YtfhacbhgmnhmlaaGreatRows
import Derived.WalkKit
import Derived.ProofKit
namespace Go.Proofs.YtfhacbhgmnhmlaaGreat
set_option linter.unusedVariables false
set_option linter.unusedSimpArgs false
open Go Go.Eng Go.Tar Go.Sort Go.RowKit
theorem dot_eq (x y : Dot) : (decide (x.rep = y.rep) && decide (x.n = y.n)) = decide (x = y) := by
 cases x; cases y
 rw [Bool.eq_iff_iff]
 simp
theorem take_step {α : Type} {l m : List α} {i : Nat} (h : l.take i = m.take i) (hi : i < l.length) (hj : i < m.length) (he : l[i] = m[i]) : l.take (i + 1) = m.take (i + 1) := by
 rw [List.take_succ_eq_append_getElem hi, List.take_succ_eq_append_getElem hj, h, he]
section
variable {W0 W : World} {L L' : List Asn}
set_option maxRecDepth 100000 in
set_option maxHeartbeats 4000000 in
theorem refSameDots {a b : Option Addr} {c d : Nat} {l m : List Dot} {k : Value → World → Prop} (h : St W0 L W) [hr : Rd W0 L a DOT l] [hr2 : Rd W0 L b DOT m] (hl : l.length < 4611686018427387904)
  (hk : ∀ W', St W0 L W' → k (.bool (decide (l = m))) W') : callK PR F_rostrumref7_SameDots [.slice a l.length c, .slice b m.length d] k W := by
 apply S.rostrumref7_SameDots.call
 delta S.rostrumref7_SameDots.body oK oA rD lD eF eU sT cL vC gD gX gP gA gR gL gE gU gC gV hL sB nI
 by_cases hn : l.length = m.length
 ·have f1 : decide ((l.length : Int) = (m.length : Int)) = true := decide_eq_true (by omega)
  (repeat simp -implicitDefEqProofs only [SE, SU, SV, f1])
  refine loop_c (σ := Unit) l.length (fun i _ => [.slice a l.length c, .slice b m.length d, .int .i64 i]) (fun i _ W1 => l.take i = m.take i ∧ St W0 L W1) () rfl ⟨rfl, h⟩ ?_
  clear h
  rintro K i _ W2 hi ⟨ht, h⟩ hK
  simp -implicitDefEqProofs only [SE, SU, SV]
  delta S.rostrumref7_SameDots.l1 oK oA rD lD eF eU sT cL vC gD gX gP gA gR gL gE gU gC gV hL sB nI
  by_cases hlt : (i : Int) < (l.length : Int)
  ·have hib : i < l.length := by omega
   have hjb : i < m.length := by omega
   have ew : IntKind.i64.wrap ((i : Int) + 1) = ((i + 1 : Nat) : Int) := by rw [i64w]; omega
   (repeat simp -implicitDefEqProofs only [SE, SU, SV, hlt])
   refine ixA (i := i) (a := a) (l := l) (A := DOT) h.tick rfl rfl hib fun g o ha => ?_
   cases ha
   refine ldA0 (i := i) (l := l) (A := DOT) h.tick rfl hib (v := .agg #[.int .i64 (l[i]).rep, .int .i64 (l[i]).n]) rfl (by simp) ?_
   refine ixA (i := i) (a := b) (l := m) (A := DOT) h.tick rfl rfl hjb fun g' o' ha => ?_
   cases ha
   refine ldA0 (i := i) (l := m) (A := DOT) h.tick rfl hjb (v := .agg #[.int .i64 (m[i]).rep, .int .i64 (m[i]).n]) rfl (by simp) ?_
   generalize hx : l[i] = x at *
   generalize hy : m[i] = y at *
   by_cases he : x = y
   ·have f2 : (decide (x.rep = y.rep) && decide (x.n = y.n)) = true := by rw [dot_eq]; exact decide_eq_true he
    (repeat (first | ((with_reducible refine vn ?_); refine ⟨_, rfl, ?_⟩) | simp -implicitDefEqProofs only [SE, SU, SV, f2, ew]))
    refine hK () _ hib ⟨take_step ht hib hjb (by rw [hx, hy, he]), h.tick⟩
   ·have f2 : (decide (x.rep = y.rep) && decide (x.n = y.n)) = false := by rw [dot_eq]; exact decide_eq_false he
    have hne : decide (l = m) = false := decide_eq_false fun e => he (by subst e; rw [← hx, ← hy])
    rw [hne] at hk
    (repeat (first | ((with_reducible refine vn ?_); refine ⟨_, rfl, ?_⟩) | simp -implicitDefEqProofs only [SE, SU, SV, f2]))
    exact hk _ h.tick
  ·(repeat simp -implicitDefEqProofs only [SE, SU, SV, hlt])
   have hall : l = m := by
    have := ht
    rw [List.take_of_length_le (by omega), List.take_of_length_le (by omega)] at this
    exact this
   rw [decide_eq_true hall] at hk
   exact hk _ h
 ·have f1 : decide ((l.length : Int) = (m.length : Int)) = false := decide_eq_false (by omega)
  have hne : decide (l = m) = false := decide_eq_false fun e => hn (by rw [e])
  rw [hne] at hk
  (repeat simp -implicitDefEqProofs only [SE, SU, SV, f1])
  exact hk _ h
end
end Go.Proofs.YtfhacbhgmnhmlaaGreat
namespace Go.Proofs.YtfhacbhgmnhmlaaGreat
set_option linter.unusedVariables false
set_option linter.unusedSimpArgs false
open Go.Eng
def S.rostrumlaw22_awake.j2 (R : VK) (x5 x6 : Value) (W : World) : Prop :=
oA 1 x5 fun v37=>
lD W T_s_uint8 v37 fun v38 W=>
rD W (convert T_s_uint8 T_string v38) fun v39 W=>
oK (binP .eql v39 (.string ⟨#[1]⟩)) fun v40=>
gA W v40 true 1 x6 fun v42 W=>
gL W v40 true T_s_uint8 v42 fun v43 W=>
gR W v40 true (convert T_s_uint8 T_string v43) fun v44 W=>
gP W v40 true (binP .eql v44 (.string ⟨#[2]⟩)) fun v45 W=>
oK (pickP v40 v45 (.bool false)) fun v46=>
gA W v46 true 3 x5 fun v48 W=>
gP W v46 true (idxA 7 1 v48 (nI 1)) fun v49 W=>
gL W v46 true T_int64 v49 fun v50 W=>
gP W v46 true (binP .geq v50 (nI 1)) fun v51 W=>
gX W v46 true v51 fun v52 W=>
gA W v52 false 3 x6 fun v53 W=>
gP W v52 false (idxA 7 1 v53 (nI 0)) fun v54 W=>
gL W v52 false T_int64 v54 fun v55 W=>
gP W v52 false (binP .geq v55 (nI 1)) fun v56 W=>
gP W v46 true (pickP v52 (.bool true) v56) fun v57 W=>
oK (pickP v46 v57 (.bool false)) fun v58=>
R v58 W
def S.rostrumlaw22_awake.j1 (R : VK) (x1 x2 x3 : Value) (W : World) : Prop :=
joinK (fun s W => S.rostrumlaw22_awake.j2 R (nthv s 0) (nthv s 1) W) (fun J2 =>
lD (tick W) T_api_Dot x2 fun v32 W=>
lD W T_api_Dot x3 fun v35 W=>
(cL W F_pax_Group_Rec [x1, (nI 2), v32] fun v33 W=>
sB W [hL 4 T_api_Dot x3 v35] fun W=>
(cL W F_pax_Group_Rec [x1, (nI 2), v35] fun v36 W=>
(eF W (Instr.alloc T_inst_Rec true (.tuple #[])) fun v5 W=>
eF W (Instr.alloc T_inst_Rec true (.tuple #[])) fun v6 W=>
sT W T_inst_Rec v5 v33 fun _ W=>
sT W T_inst_Rec v6 v36 fun _ W=>
J2 [v5, v6] W) ∧ (eF W (Instr.alloc T_inst_Rec true (.tuple #[])) fun v6_1 W=>
eF W (Instr.alloc T_inst_Rec true (.tuple #[])) fun v5_1 W=>
sT W T_inst_Rec v5_1 v33 fun _ W=>
sT W T_inst_Rec v6_1 v36 fun _ W=>
J2 [v5_1, v6_1] W)) ∧ (eF W (Instr.alloc T_inst_Rec true (.tuple #[])) fun v5_2 W=>
sB W [hL 4 T_api_Dot x3 v35] fun W=>
(cL W F_pax_Group_Rec [x1, (nI 2), v35] fun v36_1 W=>
eF W (Instr.alloc T_inst_Rec true (.tuple #[])) fun v6_2 W=>
sT W T_inst_Rec v5_2 v33 fun _ W=>
sT W T_inst_Rec v6_2 v36_1 fun _ W=>
J2 [v5_2, v6_2] W) ∧ (eF W (Instr.alloc T_inst_Rec true (.tuple #[])) fun v6_3 W=>
sB W [hL 4 T_api_Dot x3 v35] fun W=>
cL W F_pax_Group_Rec [x1, (nI 2), v35] fun v36_2 W=>
sT W T_inst_Rec v5_2 v33 fun _ W=>
sT W T_inst_Rec v6_3 v36_2 fun _ W=>
J2 [v5_2, v6_3] W)) ∧ (eF W (Instr.alloc T_inst_Rec true (.tuple #[])) fun v6_4 W=>
sB W [hL 4 T_api_Dot x3 v35] fun W=>
(cL W F_pax_Group_Rec [x1, (nI 2), v35] fun v36_3 W=>
eF W (Instr.alloc T_inst_Rec true (.tuple #[])) fun v5_3 W=>
sT W T_inst_Rec v5_3 v33 fun _ W=>
sT W T_inst_Rec v6_4 v36_3 fun _ W=>
J2 [v5_3, v6_4] W) ∧ (eF W (Instr.alloc T_inst_Rec true (.tuple #[])) fun v5_4 W=>
sB W [hL 4 T_api_Dot x3 v35] fun W=>
cL W F_pax_Group_Rec [x1, (nI 2), v35] fun v36_4 W=>
sT W T_inst_Rec v5_4 v33 fun _ W=>
sT W T_inst_Rec v6_4 v36_4 fun _ W=>
J2 [v5_4, v6_4] W))) ∧ (eF W (Instr.alloc T_inst_Rec true (.tuple #[])) fun v5_5 W=>
sB W [hL 4 T_api_Dot x3 v35, hL 1 T_api_Dot x2 v32] fun W=>
(cL W F_pax_Group_Rec [x1, (nI 2), v32] fun v33_1 W=>
sB W [hL 4 T_api_Dot x3 v35] fun W=>
(cL W F_pax_Group_Rec [x1, (nI 2), v35] fun v36_5 W=>
eF W (Instr.alloc T_inst_Rec true (.tuple #[])) fun v6_5 W=>
sT W T_inst_Rec v5_5 v33_1 fun _ W=>
sT W T_inst_Rec v6_5 v36_5 fun _ W=>
J2 [v5_5, v6_5] W) ∧ (eF W (Instr.alloc T_inst_Rec true (.tuple #[])) fun v6_6 W=>
sB W [hL 4 T_api_Dot x3 v35] fun W=>
cL W F_pax_Group_Rec [x1, (nI 2), v35] fun v36_6 W=>
sT W T_inst_Rec v5_5 v33_1 fun _ W=>
sT W T_inst_Rec v6_6 v36_6 fun _ W=>
J2 [v5_5, v6_6] W)) ∧ (eF W (Instr.alloc T_inst_Rec true (.tuple #[])) fun v6_7 W=>
sB W [hL 4 T_api_Dot x3 v35, hL 1 T_api_Dot x2 v32] fun W=>
cL W F_pax_Group_Rec [x1, (nI 2), v32] fun v33_2 W=>
sB W [hL 4 T_api_Dot x3 v35] fun W=>
cL W F_pax_Group_Rec [x1, (nI 2), v35] fun v36_7 W=>
sT W T_inst_Rec v5_5 v33_2 fun _ W=>
sT W T_inst_Rec v6_7 v36_7 fun _ W=>
J2 [v5_5, v6_7] W)) ∧ (eF W (Instr.alloc T_inst_Rec true (.tuple #[])) fun v6_8 W=>
sB W [hL 4 T_api_Dot x3 v35, hL 1 T_api_Dot x2 v32] fun W=>
(cL W F_pax_Group_Rec [x1, (nI 2), v32] fun v33_3 W=>
sB W [hL 4 T_api_Dot x3 v35] fun W=>
(cL W F_pax_Group_Rec [x1, (nI 2), v35] fun v36_8 W=>
eF W (Instr.alloc T_inst_Rec true (.tuple #[])) fun v5_6 W=>
sT W T_inst_Rec v5_6 v33_3 fun _ W=>
sT W T_inst_Rec v6_8 v36_8 fun _ W=>
J2 [v5_6, v6_8] W) ∧ (eF W (Instr.alloc T_inst_Rec true (.tuple #[])) fun v5_7 W=>
sB W [hL 4 T_api_Dot x3 v35] fun W=>
cL W F_pax_Group_Rec [x1, (nI 2), v35] fun v36_9 W=>
sT W T_inst_Rec v5_7 v33_3 fun _ W=>
sT W T_inst_Rec v6_8 v36_9 fun _ W=>
J2 [v5_7, v6_8] W)) ∧ (eF W (Instr.alloc T_inst_Rec true (.tuple #[])) fun v5_8 W=>
sB W [hL 4 T_api_Dot x3 v35, hL 1 T_api_Dot x2 v32] fun W=>
cL W F_pax_Group_Rec [x1, (nI 2), v32] fun v33_4 W=>
sB W [hL 4 T_api_Dot x3 v35] fun W=>
cL W F_pax_Group_Rec [x1, (nI 2), v35] fun v36_10 W=>
sT W T_inst_Rec v5_8 v33_4 fun _ W=>
sT W T_inst_Rec v6_8 v36_10 fun _ W=>
J2 [v5_8, v6_8] W)))
def S.rostrumlaw22_awake.j3 (R : VK) (K1 : LK) (x1 x2 x3 x4 x30 : Value) (W : World) : Prop :=
ifK x30 (
R (.bool false) W) (
oK (binP .add x4 (nI 1)) fun v15=>
K1 [x1, x2, x3, v15] W)
def S.rostrumlaw22_awake.l1 (R : VK) (J1 : LK) (K1 : LK) (x1 x2 x3 x4 : Value) (W : World) : Prop :=
oK (binP .lss x4 (nI 3)) fun v13=>
ifK v13 (
joinK (fun s W => S.rostrumlaw22_awake.j3 R K1 (nthv s 0) (nthv s 1) (nthv s 2) (nthv s 3) (nthv s 4) W) (fun J3 =>
lD (tick W) T_api_Dot x2 fun v19 W=>
lD W T_api_Dot x3 fun v20 W=>
(cL W F_pax_Group_Committed [x1, x4] fun v18 W=>
sB W [hL 4 T_api_Dot x3 v20, hL 3 T_api_Dot x2 v19] fun W=>
eF W (Instr.buildSlice T_s_api_Dot 2 #[(0, v19), (1, v20)]) fun v21 W=>
cL W F_rostrumref7_SameDots [v18, v21] fun v22 W=>
oK (unP .not v22) fun v23=>
gX W v23 false x1 fun v25 W=>
gX W v23 false x4 fun v26 W=>
gD W v23 false (fun k W => callK PR F_pax_Group_Line [v25, v26] k W) fun v27 W=>
gP W v23 false (lenP (.slice T_api_Dot) v27) fun v28 W=>
gP W v23 false (binP .neq v28 (nI 2)) fun v29 W=>
oK (pickP v23 (.bool true) v29) fun v30=>
J3 [x1, x2, x3, x4, v30] W) ∧ (eF W (Instr.buildSlice T_s_api_Dot 2 #[(0, v19), (1, v20)]) fun v21_1 W=>
cL W F_pax_Group_Committed [x1, x4] fun v18_1 W=>
cL W F_rostrumref7_SameDots [v18_1, v21_1] fun v22_1 W=>
oK (unP .not v22_1) fun v23_1=>
gX W v23_1 false x1 fun v25_1 W=>
gX W v23_1 false x4 fun v26_1 W=>
gD W v23_1 false (fun k W => callK PR F_pax_Group_Line [v25_1, v26_1] k W) fun v27_1 W=>
gP W v23_1 false (lenP (.slice T_api_Dot) v27_1) fun v28_1 W=>
gP W v23_1 false (binP .neq v28_1 (nI 2)) fun v29_1 W=>
oK (pickP v23_1 (.bool true) v29_1) fun v30_1=>
J3 [x1, x2, x3, x4, v30_1] W))) (
J1 [x1, x2, x3] W)
def S.rostrumlaw22_awake.body (R : VK) (W : World) : Prop :=
cL W F_rostrumlaw22_calmed [(nI 3)] fun v7 W=>
oK (eqP (.pointer T_pax_Group) .eql v7 (.pointer none)) fun v9=>
ifK v9 (
R (.bool false) W) (
oK (bldP (fun i => ([(0, 1), (1, 1)] : List (Nat × Nat))[i]?) [.int .i64 0, .int .i64 0] [(1, (nI 1))]) fun v10=>
oK (bldP (fun i => ([(0, 1), (1, 1)] : List (Nat × Nat))[i]?) [.int .i64 0, .int .i64 0] [(0, (nI 1)), (1, (nI 1))]) fun v11=>
eF W (Instr.alloc T_api_Dot true (.tuple #[])) fun v2 W=>
eF W (Instr.alloc T_api_Dot true (.tuple #[])) fun v3 W=>
sT W T_api_Dot v2 v10 fun _ W=>
sT W T_api_Dot v3 v11 fun _ W=>
joinK (fun s W => S.rostrumlaw22_awake.j1 R (nthv s 0) (nthv s 1) (nthv s 2) W) (fun J1 =>
loopK (fun K1 s W => S.rostrumlaw22_awake.l1 R J1 K1 (nthv s 0) (nthv s 1) (nthv s 2) (nthv s 3) W) [v7, v2, v3, (nI 0)] W))
theorem S.rostrumlaw22_awake.call {R : VK} {W : World} (h : S.rostrumlaw22_awake.body R  W) : callK PR F_rostrumlaw22_awake [] R W :=
callS (fn := Tryz.f7) (h := (.t (.t (.two (.t (.two (.t .n) .n)) (.t (.at [1, 2, 3] (.t (.at [1, 2, 3, 4] (.two (.t (.t .n)) (.two (.at [1, 2, 3, 4, 30] .n (.two (.t .n) .n)) .n)) .n)) (.at [5, 6] .n (.t .n)))))))) h
def S.rostrumlaw22_calmed.body (R : VK) (v0 : Value) (W : World) : Prop :=
cL W F_pax_New [v0] fun v7 W=>
oK (extP 0 v7) fun v8=>
oK (extP 1 v7) fun v9=>
oK (binP .neq v9 (nI 0)) fun v11=>
gX W v11 false v8 fun v13 W=>
gP W v11 false (eqP (.pointer T_pax_Group) .eql v13 (.pointer none)) fun v14 W=>
oK (pickP v11 (.bool true) v14) fun v15=>
gX W v15 false v8 fun v17 W=>
gP W v15 false (bldP (fun i => ([(0, 1), (1, 1), (2, 1), (3, 1)] : List (Nat × Nat))[i]?) [.int .i64 0, .int .i64 0, .int .i64 0, .int .i64 0] [(1, (nI 0)), (3, (nI 1))]) fun v18 W=>
gC W v15 false F_pax_Group_Do [v17, v18] fun v19 W=>
gP W v15 false (unP .not v19) fun v20 W=>
oK (pickP v15 (.bool true) v20) fun v21=>
gX W v21 false v8 fun v23 W=>
gP W v21 false (bldP (fun i => ([(0, 1), (1, 1), (2, 1), (3, 1)] : List (Nat × Nat))[i]?) [.int .i64 0, .int .i64 0, .int .i64 0, .int .i64 0] [(1, (nI 1)), (3, (nI 2))]) fun v24 W=>
gC W v21 false F_pax_Group_Do [v23, v24] fun v25 W=>
gP W v21 false (unP .not v25) fun v26 W=>
oK (pickP v21 (.bool true) v26) fun v27=>
ifK v27 (
R (.pointer none) W) (
cL W F_pax_Group_Calm [v8, (nI 3)] fun v29 W=>
R v8 W)
theorem S.rostrumlaw22_calmed.call {R : VK} {v0 : Value} {W : World} (h : S.rostrumlaw22_calmed.body R v0 W) : callK PR F_rostrumlaw22_calmed [v0] R W :=
callS (fn := Tryz.f16) (h := (.t (.t (.two (.t (.two (.t .n) .n)) (.t (.t .n)))))) h
end Go.Proofs.YtfhacbhgmnhmlaaGreat
namespace Go.Proofs.YtfhacbhgmnhmlaaGreat
set_option linter.unusedVariables false
set_option linter.unusedSimpArgs false
open Go Go.Eng
section
variable {W0 W : World} {L : List Asn}
def gA1 : Grp := ((gNew 3).act (pA 0 1)).1
def gA2 : Grp := (gA1.act (pA 1 2)).1
set_option maxRecDepth 100000 in
set_option maxHeartbeats 1000000 in
theorem lawCalmed {k : Value → World → Prop} (h : St W0 L W) (hk : ∀ g sk W', gAw.Ok 200000 → St W0 (grp g sk gAw :: L) W' → k (.pointer (some ⟨g, 0, none⟩)) W') : callK PR F_rostrumlaw22_calmed [.int .i64 3] k W := by
 apply S.rostrumlaw22_calmed.call
 delta S.rostrumlaw22_calmed.body oK oA rD lD eF eU sT cL vC gD gX gP gA gR gL gE gU gC gV hL sB nI
 refine paxNew h (fun e => absurd e (by omega)) fun m hm h3 h7 g sk W1 h => ?_
 obtain rfl : m = 3 := by omega
 have hO := gNew_ok h3 h7
 have e1 : ((gNew 3).act (pA 0 1)).2 = true := by kernel_rfl
 have e2 : (gA1.act (pA 1 2)).2 = true := by kernel_rfl
 (repeat (first | (refine okF_i (bldP_eq rfl) ?_; try simp only [BLS, SB, Nat.reduceAdd]) | simp -implicitDefEqProofs only [SE, SU, SV]))
 refine paxDo (g := g) (a := pA 0 1) hO (by omega) h fun W2 h => ?_
 have hO1 : gA1.Ok 1 := act_ok hO _
 rw [e1]
 (repeat (first | (refine okF_i (bldP_eq rfl) ?_; try simp only [BLS, SB, Nat.reduceAdd]) | simp -implicitDefEqProofs only [SE, SU, SV]))
 refine paxDo (g := g) (G := gA1) (a := pA 1 2) hO1 (by omega) h fun W3 h => ?_
 have hO2 : gA2.Ok 2 := act_ok hO1 _
 rw [e2]
 (repeat simp -implicitDefEqProofs only [SE, SU, SV])
 refine paxCalm (g := g) (G := gA2) (r := 3) (by omega) hO2 (by omega) h fun W4 hO3 h => ?_
 skip
 exact hk g sk _ (hO3.mono (by omega)) h
def awC (G : Grp) (i : Nat) : Prop := G.committed i = [⟨0, 1⟩, ⟨1, 1⟩] ∧ (G.line i).length = 2
theorem aw_coms : ∀ i : Nat, i < 3 → awC gAw i := fun i hi => by
 have h := congrArg (fun l => l[i]?) aw_com
 simp only [List.getElem?_map, List.getElem?_range hi, List.getElem?_replicate, if_pos hi, Option.map_some] at h
 have h := Option.some.inj h
 exact ⟨congrArg Prod.fst h, congrArg Prod.snd h⟩
set_option maxRecDepth 100000 in
set_option maxHeartbeats 2000000 in
theorem lawAwake22 (h00 : W0.drawn = 0) {k : Value → World → Prop} (h : St W0 L W) (hk : ∀ W', St W0 L W' → k (.bool true) W') : callK PR F_rostrumlaw22_awake [] k W := by
 apply S.rostrumlaw22_awake.call
 delta S.rostrumlaw22_awake.body oK oA rD lD eF eU sT cL vC gD gX gP gA gR gL gE gU gC gV hL sB nI
 refine lawCalmed h fun g sk W1 hO h => ?_
 have hC := aw_coms
 have hR := aw_rec
 generalize gAw = G at *
 (repeat (first | ((with_reducible refine w11 ?_); intros) | ((with_reducible refine v12 ?_ ?_); exact rfl; intros) | ((with_reducible refine w12 ?_ ?_ ?_ ?_); simp; simp; simp [oneC]; intros) | (refine okF_i (bldP_eq rfl) ?_; try simp only [BLS, SB, Nat.reduceAdd]) | simp -implicitDefEqProofs only [SE, SU, SV]))
 rename_i p _ _ q _ _ _ _ W3 h
 (try simp only [BLS, SB, stL_a, stL_b, stL_c, lsub_a, lsub_b, lsub_c, List.append_nil, List.take_nil, List.drop_nil, Nat.reduceAdd] at h)
 refine joinK_i ?_
 refine loop_c (σ := Unit) 3 (fun i _ => [.pointer (some ⟨g, 0, none⟩), .pointer (some ⟨p, 0, none⟩), .pointer (some ⟨q, 0, none⟩), .int .i64 i])
  (fun i _ W1 => St W0 (grp g sk G :: cells p [.int .i64 (⟨0, 1⟩ : Dot).rep, .int .i64 (⟨0, 1⟩ : Dot).n] T_api_Dot :: cells q [.int .i64 (⟨1, 1⟩ : Dot).rep, .int .i64 (⟨1, 1⟩ : Dot).n] T_api_Dot :: L) W1) () rfl (St.wk h) ?_
 clear h
 rintro K i _ W4 hi h hK
 simp -implicitDefEqProofs only [SE, SU, SV]
 delta S.rostrumlaw22_awake.l1 oK oA rD lD eF eU sT cL vC gD gX gP gA gR gL gE gU gC gV hL sB nI
 by_cases hlt : i < 3
 ·obtain ⟨hc, hl⟩ := hC i hlt
  have f1 : decide ((i : Int) < 3) = true := decide_eq_true (by omega)
  have ew : IntKind.i64.wrap ((i : Int) + 1) = ((i + 1 : Nat) : Int) := by rw [i64w]; omega
  (repeat simp -implicitDefEqProofs only [SE, SU, SV, f1])
  have d1 : decide ((⟨0, 1⟩ :: [⟨1, 1⟩] : List Dot) = [⟨0, 1⟩, ⟨1, 1⟩]) = true := by decide
  have hfin : ∀ {W' : World}, St W0 (grp g sk G :: cells p [.int .i64 (⟨0, 1⟩ : Dot).rep, .int .i64 (⟨0, 1⟩ : Dot).n] T_api_Dot :: cells q [.int .i64 (⟨1, 1⟩ : Dot).rep, .int .i64 (⟨1, 1⟩ : Dot).n] T_api_Dot :: L) W' → S.rostrumlaw22_awake.j3 k K (.pointer (some ⟨g, 0, none⟩)) (.pointer (some ⟨p, 0, none⟩)) (.pointer (some ⟨q, 0, none⟩)) (.int .i64 i) (.bool false) W' := fun {W'} h => by
   delta S.rostrumlaw22_awake.j3 oK oA rD lD eF eU sT cL vC gD gX gP gA gR gL gE gU gC gV hL sB nI
   (repeat simp -implicitDefEqProofs only [SE, SU, SV, ew])
   exact hK () _ hlt (by assumption)
  refine joinK_i ?_
  (repeat (first | ((with_reducible refine v5 ?_); refine ⟨_, rfl, ?_⟩) | simp -implicitDefEqProofs only [SE, SU, SV]))
  refine ⟨?_, ?_⟩
  ·refine paxCommitted (g := g) (by exact St.tick (by assumption)) hO.nd fun a1 c1 W5 h => ?_
   rw [hc] at h ⊢
   (repeat (first | ((with_reducible refine stb_n ?_); intros) | ((with_reducible refine v8 ?_ ?_); exact rfl; intros)))
   refine bsA DOT [(⟨0, 1⟩ : Dot), ⟨1, 1⟩] (n := 2) (by assumption) rfl rfl (by decide) (by decide) rfl fun a2 c2 W6 h => ?_
   refine refSameDots (a := a1) (b := a2) (l := [(⟨0, 1⟩ : Dot), ⟨1, 1⟩]) (m := [(⟨0, 1⟩ : Dot), ⟨1, 1⟩]) h (by decide) fun W7 h => ?_
   (repeat simp -implicitDefEqProofs only [SE, SU, SV, d1])
   refine paxLine (g := g) h00 (by assumption) hO.nd fun a3 c3 W8 h => ?_
   rw [hl]
   (repeat simp -implicitDefEqProofs only [SE, SU, SV])
   exact hfin (St.wk (by assumption))
  ·refine bsA DOT [(⟨0, 1⟩ : Dot), ⟨1, 1⟩] (n := 2) (by exact St.tick (by assumption)) rfl rfl (by decide) (by decide) rfl fun a2 c2 W6 h => ?_
   refine paxCommitted (g := g) h hO.nd fun a1 c1 W5 h => ?_
   rw [hc] at h ⊢
   refine refSameDots (a := a1) (b := a2) (l := [(⟨0, 1⟩ : Dot), ⟨1, 1⟩]) (m := [(⟨0, 1⟩ : Dot), ⟨1, 1⟩]) h (by decide) fun W7 h => ?_
   (repeat simp -implicitDefEqProofs only [SE, SU, SV, d1])
   refine paxLine (g := g) h00 (by assumption) hO.nd fun a3 c3 W8 h => ?_
   rw [hl]
   (repeat simp -implicitDefEqProofs only [SE, SU, SV])
   exact hfin (St.wk (by assumption))
 ·have f1 : decide ((i : Int) < 3) = false := decide_eq_false (by omega)
  have hfin : ∀ (v5 v6 : Nat) (ya yb : Rec BSl) {W' : World}, ya.map BSl.bs = G.recd 2 ⟨0, 1⟩ → yb.map BSl.bs = G.recd 2 ⟨1, 1⟩ →
    St W0 (cells v5 [.int .i64 ya.st, ya.cmd.v, .int .i64 ya.seq, .int .i64 ya.deps.x0, .int .i64 ya.deps.x1, .int .i64 ya.deps.x2, .int .i64 ya.deps.x3, .int .i64 ya.deps.x4, .int .i64 ya.deps.x5, .int .i64 ya.deps.x6, .int .i64 ya.bal.1, .int .i64 ya.bal.2, .int .i64 ya.ab.1, .int .i64 ya.ab.2] T_inst_Rec :: cells v6 [.int .i64 yb.st, yb.cmd.v, .int .i64 yb.seq, .int .i64 yb.deps.x0, .int .i64 yb.deps.x1, .int .i64 yb.deps.x2, .int .i64 yb.deps.x3, .int .i64 yb.deps.x4, .int .i64 yb.deps.x5, .int .i64 yb.deps.x6, .int .i64 yb.bal.1, .int .i64 yb.bal.2, .int .i64 yb.ab.1, .int .i64 yb.ab.2] T_inst_Rec :: fch ya.cmd :: fch yb.cmd :: L) W' → S.rostrumlaw22_awake.j2 k (.pointer (some ⟨v5, 0, none⟩)) (.pointer (some ⟨v6, 0, none⟩)) W' := fun v5 v6 ya yb {W'} ha hb h => by
   have e1 : ya.cmd.bs = [1] := (congrArg Rec.cmd ha).trans (congrArg Prod.fst hR)
   have e2 : yb.cmd.bs = [2] := (congrArg Rec.cmd hb).trans (congrArg (fun x => x.2.1) hR)
   have e3 : ya.deps.x1 = 1 := (congrArg (fun x : Rec Bs => x.deps.x1) ha).trans (congrArg (fun x => x.2.2.1) hR)
   delta S.rostrumlaw22_awake.j2 oK oA rD lD eF eU sT cL vC gD gX gP gA gR gL gE gU gC gV hL sB nI
   (repeat (first | ((with_reducible refine w5 ?_ ?_); simp; refine ⟨_, rfl, ?_⟩) | simp -implicitDefEqProofs only [SE, SU, SV]))
   refine b2s (a := ya.cmd.a) (l := ya.cmd.bs) (by assumption) ?_
   rw [e1]
   (repeat (first | ((with_reducible refine w5 ?_ ?_); simp; refine ⟨_, rfl, ?_⟩) | simp -implicitDefEqProofs only [SE, SU, SV, eq_self]))
   refine b2s (a := yb.cmd.a) (l := yb.cmd.bs) (by assumption) ?_
   rw [e2]
   have ix : idxA 7 1 (.pointer (some ⟨v5, 3, none⟩)) (.int .i64 1) = some (.pointer (some ⟨v5, 4, none⟩)) := rfl
   (repeat (first | ((with_reducible refine w5 ?_ ?_); simp; refine ⟨_, rfl, ?_⟩) | simp -implicitDefEqProofs only [SE, SU, SV, eq_self, e3, ix]))
   exact hk _ (St.wk (by assumption))
  (repeat simp -implicitDefEqProofs only [SE, SU, SV, f1])
  delta S.rostrumlaw22_awake.j1 oK oA rD lD eF eU sT cL vC gD gX gP gA gR gL gE gU gC gV hL sB nI
  refine joinK_i ?_
  (repeat (first | ((with_reducible refine v5 ?_); refine ⟨_, rfl, ?_⟩) | simp -implicitDefEqProofs only [SE, SU, SV]))
  refine ⟨?_, ?_, ?_⟩
  ·refine paxRec (g := g) (i := 2) (d := ⟨0, 1⟩) (by exact St.tick (by assumption)) fun ya _ hya h => ?_
   (repeat (first | ((with_reducible refine stb_n ?_); intros) | ((with_reducible refine v8 ?_ ?_); exact rfl; intros)))
   refine ⟨?_, ?_, ?_⟩
   ·refine paxRec (g := g) (i := 2) (d := ⟨1, 1⟩) (by assumption) fun yb _ hyb h => ?_
    skip
    refine ⟨?_, ?_⟩
    ·skip
     (repeat (first | ((with_reducible refine w11 ?_); intros) | ((with_reducible refine v12 ?_ ?_); exact rfl; intros) | ((with_reducible refine w12 ?_ ?_ ?_ ?_); simp; simp; simp [oneC]; intros)))
     rename_i h
     (try simp only [BLS, SB, stL_a, stL_b, stL_c, lsub_a, lsub_b, lsub_c, List.append_nil, List.take_nil, List.drop_nil, Nat.reduceAdd] at h)
     exact hfin _ _ ya yb hya hyb (St.wk h)
    ·skip
     (repeat (first | ((with_reducible refine w11 ?_); intros) | ((with_reducible refine v12 ?_ ?_); exact rfl; intros) | ((with_reducible refine w12 ?_ ?_ ?_ ?_); simp; simp; simp [oneC]; intros)))
     rename_i h
     (try simp only [BLS, SB, stL_a, stL_b, stL_c, lsub_a, lsub_b, lsub_c, List.append_nil, List.take_nil, List.drop_nil, Nat.reduceAdd] at h)
     exact hfin _ _ ya yb hya hyb (St.wk h)
   ·skip
    (repeat (first | ((with_reducible first | refine w11 ?_ | refine stb_n ?_); intros) | ((with_reducible refine v8 ?_ ?_); exact rfl; intros)))
    refine ⟨?_, ?_⟩
    ·refine paxRec (g := g) (i := 2) (d := ⟨1, 1⟩) (by assumption) fun yb _ hyb h => ?_
     (repeat (first | ((with_reducible refine w11 ?_); intros) | ((with_reducible refine v12 ?_ ?_); exact rfl; intros) | ((with_reducible refine w12 ?_ ?_ ?_ ?_); simp; simp; simp [oneC]; intros)))
     rename_i h
     (try simp only [BLS, SB, stL_a, stL_b, stL_c, lsub_a, lsub_b, lsub_c, List.append_nil, List.take_nil, List.drop_nil, Nat.reduceAdd] at h)
     exact hfin _ _ ya yb hya hyb (St.wk h)
    ·(repeat (first | ((with_reducible first | refine w11 ?_ | refine stb_n ?_); intros) | ((with_reducible refine v8 ?_ ?_); exact rfl; intros)))
     refine paxRec (g := g) (i := 2) (d := ⟨1, 1⟩) (by assumption) fun yb _ hyb h => ?_
     (repeat (first | ((with_reducible refine v12 ?_ ?_); exact rfl; intros) | ((with_reducible refine w12 ?_ ?_ ?_ ?_); simp; simp; simp [oneC]; intros)))
     rename_i h
     (try simp only [BLS, SB, stL_a, stL_b, stL_c, lsub_a, lsub_b, lsub_c, List.append_nil, List.take_nil, List.drop_nil, Nat.reduceAdd] at h)
     exact hfin _ _ ya yb hya hyb (St.wk h)
   ·skip
    (repeat (first | ((with_reducible first | refine w11 ?_ | refine stb_n ?_); intros) | ((with_reducible refine v8 ?_ ?_); exact rfl; intros)))
    refine ⟨?_, ?_⟩
    ·refine paxRec (g := g) (i := 2) (d := ⟨1, 1⟩) (by assumption) fun yb _ hyb h => ?_
     (repeat (first | ((with_reducible refine w11 ?_); intros) | ((with_reducible refine v12 ?_ ?_); exact rfl; intros) | ((with_reducible refine w12 ?_ ?_ ?_ ?_); simp; simp; simp [oneC]; intros)))
     rename_i h
     (try simp only [BLS, SB, stL_a, stL_b, stL_c, lsub_a, lsub_b, lsub_c, List.append_nil, List.take_nil, List.drop_nil, Nat.reduceAdd] at h)
     exact hfin _ _ ya yb hya hyb (St.wk h)
    ·(repeat (first | ((with_reducible first | refine w11 ?_ | refine stb_n ?_); intros) | ((with_reducible refine v8 ?_ ?_); exact rfl; intros)))
     refine paxRec (g := g) (i := 2) (d := ⟨1, 1⟩) (by assumption) fun yb _ hyb h => ?_
     (repeat (first | ((with_reducible refine v12 ?_ ?_); exact rfl; intros) | ((with_reducible refine w12 ?_ ?_ ?_ ?_); simp; simp; simp [oneC]; intros)))
     rename_i h
     (try simp only [BLS, SB, stL_a, stL_b, stL_c, lsub_a, lsub_b, lsub_c, List.append_nil, List.take_nil, List.drop_nil, Nat.reduceAdd] at h)
     exact hfin _ _ ya yb hya hyb (St.wk h)
  ·(repeat (first | ((with_reducible first | refine w11 ?_ | refine stb_n ?_); intros) | ((with_reducible refine v8 ?_ ?_); exact rfl; intros)))
   refine ⟨?_, ?_⟩
   ·refine paxRec (g := g) (i := 2) (d := ⟨0, 1⟩) (by assumption) fun ya _ hya h => ?_
    (repeat (first | ((with_reducible refine stb_n ?_); intros) | ((with_reducible refine v8 ?_ ?_); exact rfl; intros)))
    refine ⟨?_, ?_⟩
    ·refine paxRec (g := g) (i := 2) (d := ⟨1, 1⟩) (by assumption) fun yb _ hyb h => ?_
     (repeat (first | ((with_reducible refine w11 ?_); intros) | ((with_reducible refine v12 ?_ ?_); exact rfl; intros) | ((with_reducible refine w12 ?_ ?_ ?_ ?_); simp; simp; simp [oneC]; intros)))
     rename_i h
     (try simp only [BLS, SB, stL_a, stL_b, stL_c, lsub_a, lsub_b, lsub_c, List.append_nil, List.take_nil, List.drop_nil, Nat.reduceAdd] at h)
     exact hfin _ _ ya yb hya hyb (St.wk h)
    ·(repeat (first | ((with_reducible first | refine w11 ?_ | refine stb_n ?_); intros) | ((with_reducible refine v8 ?_ ?_); exact rfl; intros)))
     refine paxRec (g := g) (i := 2) (d := ⟨1, 1⟩) (by assumption) fun yb _ hyb h => ?_
     (repeat (first | ((with_reducible refine v12 ?_ ?_); exact rfl; intros) | ((with_reducible refine w12 ?_ ?_ ?_ ?_); simp; simp; simp [oneC]; intros)))
     rename_i h
     (try simp only [BLS, SB, stL_a, stL_b, stL_c, lsub_a, lsub_b, lsub_c, List.append_nil, List.take_nil, List.drop_nil, Nat.reduceAdd] at h)
     exact hfin _ _ ya yb hya hyb (St.wk h)
   ·(repeat (first | ((with_reducible first | refine w11 ?_ | refine stb_n ?_); intros) | ((with_reducible refine v8 ?_ ?_); exact rfl; intros)))
    refine paxRec (g := g) (i := 2) (d := ⟨0, 1⟩) (by assumption) fun ya _ hya h => ?_
    (repeat (first | ((with_reducible refine stb_n ?_); intros) | ((with_reducible refine v8 ?_ ?_); exact rfl; intros)))
    refine paxRec (g := g) (i := 2) (d := ⟨1, 1⟩) (by assumption) fun yb _ hyb h => ?_
    (repeat (first | ((with_reducible refine v12 ?_ ?_); exact rfl; intros) | ((with_reducible refine w12 ?_ ?_ ?_ ?_); simp; simp; simp [oneC]; intros)))
    rename_i h
    (try simp only [BLS, SB, stL_a, stL_b, stL_c, lsub_a, lsub_b, lsub_c, List.append_nil, List.take_nil, List.drop_nil, Nat.reduceAdd] at h)
    exact hfin _ _ ya yb hya hyb (St.wk h)
  ·(repeat (first | ((with_reducible first | refine w11 ?_ | refine stb_n ?_); intros) | ((with_reducible refine v8 ?_ ?_); exact rfl; intros)))
   refine ⟨?_, ?_⟩
   ·refine paxRec (g := g) (i := 2) (d := ⟨0, 1⟩) (by assumption) fun ya _ hya h => ?_
    (repeat (first | ((with_reducible refine stb_n ?_); intros) | ((with_reducible refine v8 ?_ ?_); exact rfl; intros)))
    refine ⟨?_, ?_⟩
    ·refine paxRec (g := g) (i := 2) (d := ⟨1, 1⟩) (by assumption) fun yb _ hyb h => ?_
     (repeat (first | ((with_reducible refine w11 ?_); intros) | ((with_reducible refine v12 ?_ ?_); exact rfl; intros) | ((with_reducible refine w12 ?_ ?_ ?_ ?_); simp; simp; simp [oneC]; intros)))
     rename_i h
     (try simp only [BLS, SB, stL_a, stL_b, stL_c, lsub_a, lsub_b, lsub_c, List.append_nil, List.take_nil, List.drop_nil, Nat.reduceAdd] at h)
     exact hfin _ _ ya yb hya hyb (St.wk h)
    ·(repeat (first | ((with_reducible first | refine w11 ?_ | refine stb_n ?_); intros) | ((with_reducible refine v8 ?_ ?_); exact rfl; intros)))
     refine paxRec (g := g) (i := 2) (d := ⟨1, 1⟩) (by assumption) fun yb _ hyb h => ?_
     (repeat (first | ((with_reducible refine v12 ?_ ?_); exact rfl; intros) | ((with_reducible refine w12 ?_ ?_ ?_ ?_); simp; simp; simp [oneC]; intros)))
     rename_i h
     (try simp only [BLS, SB, stL_a, stL_b, stL_c, lsub_a, lsub_b, lsub_c, List.append_nil, List.take_nil, List.drop_nil, Nat.reduceAdd] at h)
     exact hfin _ _ ya yb hya hyb (St.wk h)
   ·(repeat (first | ((with_reducible first | refine w11 ?_ | refine stb_n ?_); intros) | ((with_reducible refine v8 ?_ ?_); exact rfl; intros)))
    refine paxRec (g := g) (i := 2) (d := ⟨0, 1⟩) (by assumption) fun ya _ hya h => ?_
    (repeat (first | ((with_reducible refine stb_n ?_); intros) | ((with_reducible refine v8 ?_ ?_); exact rfl; intros)))
    refine paxRec (g := g) (i := 2) (d := ⟨1, 1⟩) (by assumption) fun yb _ hyb h => ?_
    (repeat (first | ((with_reducible refine v12 ?_ ?_); exact rfl; intros) | ((with_reducible refine w12 ?_ ?_ ?_ ?_); simp; simp; simp [oneC]; intros)))
    rename_i h
    (try simp only [BLS, SB, stL_a, stL_b, stL_c, lsub_a, lsub_b, lsub_c, List.append_nil, List.take_nil, List.drop_nil, Nat.reduceAdd] at h)
    exact hfin _ _ ya yb hya hyb (St.wk h)
end
end Go.Proofs.YtfhacbhgmnhmlaaGreat
namespace Go.Proofs.YtfhacbhgmnhmlaaGreat
set_option linter.unusedVariables false
set_option linter.unusedSimpArgs false
open Go.Eng
def S.rostrumlaw22_PaxKnown.body (R : VK) (W : World) : Prop :=
cL W F_rostrumlaw22_awake [] fun v15 W=>
oK (unP .not v15) fun v16=>
ifK v16 (
R (.bool false) W) (
cL W F_pax_New [(nI 2)] fun v18 W=>
oK (extP 0 v18) fun v19=>
oK (extP 1 v18) fun v20=>
cL W F_pax_New [(nI 8)] fun v22 W=>
oK (extP 0 v22) fun v23=>
oK (extP 1 v22) fun v24=>
cL W F_pax_New [(nI 3)] fun v26 W=>
oK (extP 0 v26) fun v27=>
oK (extP 1 v26) fun v28=>
oK (bldP (fun i => ([(0, 1), (1, 1), (2, 1), (3, 1)] : List (Nat × Nat))[i]?) [.int .i64 0, .int .i64 0, .int .i64 0, .int .i64 0] [(0, (nI 2)), (1, (nI 0)), (2, (nI 0)), (3, (nI 1))]) fun v30=>
cL W F_pax_Group_Do [v27, v30] fun v31 W=>
oK (bldP (fun i => ([(0, 1), (1, 1), (2, 1), (3, 1)] : List (Nat × Nat))[i]?) [.int .i64 0, .int .i64 0, .int .i64 0, .int .i64 0] [(0, (nI 0)), (1, (nI 3))]) fun v33=>
cL W F_pax_Group_Do [v27, v33] fun v34 W=>
oK (bldP (fun i => ([(0, 1), (1, 1), (2, 1), (3, 1)] : List (Nat × Nat))[i]?) [.int .i64 0, .int .i64 0, .int .i64 0, .int .i64 0] [(0, (nI 0)), (1, (nI 2)), (3, (nI 7))]) fun v36=>
cL W F_pax_Group_Do [v27, v36] fun v37 W=>
oK (bldP (fun i => ([(0, 1), (1, 1), (2, 1), (3, 1)] : List (Nat × Nat))[i]?) [.int .i64 0, .int .i64 0, .int .i64 0, .int .i64 0] [(0, (nI 2)), (1, (nI 2)), (2, (nI 0)), (3, (nI 0))]) fun v39=>
cL W F_pax_Group_Do [v27, v39] fun v40 W=>
oK (bldP (fun i => ([(0, 1), (1, 1), (2, 1), (3, 1)] : List (Nat × Nat))[i]?) [.int .i64 0, .int .i64 0, .int .i64 0, .int .i64 0] [(0, (nI 2)), (1, (nI 2)), (2, (nI 0)), (3, (nI 1))]) fun v42=>
cL W F_pax_Group_Do [v27, v42] fun v43 W=>
cL W F_pax_Group_Committed [v27, (nI 2)] fun v45 W=>
cL W F_pax_Group_Committed [v27, (nI 0)] fun v47 W=>
oK (bldP (fun i => ([(0, 1), (1, 1), (2, 1), (3, 1)] : List (Nat × Nat))[i]?) [.int .i64 0, .int .i64 0, .int .i64 0, .int .i64 0] [(0, (nI 2)), (1, (nI 2)), (2, (nI 0)), (3, (nI 0))]) fun v49=>
cL W F_pax_Group_Do [v27, v49] fun v50 W=>
oK (binP .eql v20 (nI 1)) fun v52=>
gX W v52 true v24 fun v54 W=>
gP W v52 true (binP .eql v54 (nI 1)) fun v55 W=>
oK (pickP v52 v55 (.bool false)) fun v56=>
gX W v56 true v31 fun v58 W=>
gP W v56 true (unP .not v58) fun v59 W=>
oK (pickP v56 v59 (.bool false)) fun v60=>
gX W v60 true v34 fun v62 W=>
gP W v60 true (unP .not v62) fun v63 W=>
oK (pickP v60 v63 (.bool false)) fun v64=>
gX W v64 true v37 fun v66 W=>
oK (pickP v64 v66 (.bool false)) fun v67=>
gX W v67 true v40 fun v69 W=>
oK (pickP v67 v69 (.bool false)) fun v70=>
gX W v70 true v43 fun v72 W=>
oK (pickP v70 v72 (.bool false)) fun v73=>
gX W v73 true v45 fun v75 W=>
gP W v73 true (bldP (fun i => ([(0, 1), (1, 1)] : List (Nat × Nat))[i]?) [.int .i64 0, .int .i64 0] [(0, (nI 2)), (1, (nI 1))]) fun v76 W=>
gE W v73 true (Instr.buildSlice T_s_api_Dot 1 #[(0, v76)]) fun v77 W=>
gC W v73 true F_rostrumref7_SameDots [v75, v77] fun v78 W=>
oK (pickP v73 v78 (.bool false)) fun v79=>
gX W v79 true v47 fun v81 W=>
gP W v79 true (lenP (.slice T_api_Dot) v81) fun v82 W=>
gP W v79 true (binP .eql v82 (nI 0)) fun v83 W=>
oK (pickP v79 v83 (.bool false)) fun v84=>
gX W v84 true v50 fun v86 W=>
oK (pickP v84 v86 (.bool false)) fun v87=>
gX W v87 true v27 fun v89 W=>
gC W v87 true F_pax_Group_Committed [v89, (nI 0)] fun v90 W=>
gX W v87 true v45 fun v91 W=>
gC W v87 true F_rostrumref7_SameDots [v90, v91] fun v92 W=>
oK (pickP v87 v92 (.bool false)) fun v93=>
gX W v93 true v27 fun v95 W=>
gC W v93 true F_pax_Group_Leads [v95, (nI 2)] fun v96 W=>
gP W v93 true (binP .eql v96 (nI 1)) fun v97 W=>
oK (pickP v93 v97 (.bool false)) fun v98=>
gX W v98 true v27 fun v100 W=>
gP W v98 true (bldP (fun i => ([(0, 1), (1, 1)] : List (Nat × Nat))[i]?) [.int .i64 0, .int .i64 0] [(0, (nI 2)), (1, (nI 1))]) fun v101 W=>
gC W v98 true F_pax_Group_Rec [v100, (nI 0), v101] fun v102 W=>
gP W v98 true (fldV false 0 1 v102) fun v103 W=>
gP W v98 true (binP .eql v103 (nI 3)) fun v104 W=>
oK (pickP v98 v104 (.bool false)) fun v105=>
gX W v105 true v27 fun v107 W=>
gP W v105 true (bldP (fun i => ([(0, 1), (1, 1), (2, 1), (3, 1)] : List (Nat × Nat))[i]?) [.int .i64 0, .int .i64 0, .int .i64 0, .int .i64 0] [(0, (nI 99))]) fun v108 W=>
gC W v105 true F_pax_Group_Do [v107, v108] fun v109 W=>
gP W v105 true (unP .not v109) fun v110 W=>
oK (pickP v105 v110 (.bool false)) fun v111=>
R v111 W)
theorem S.rostrumlaw22_PaxKnown.call {R : VK} {W : World} (h : S.rostrumlaw22_PaxKnown.body R  W) : callK PR F_rostrumlaw22_PaxKnown [] R W :=
callS (fn := Tryz.f5) (h := (.t (.two (.t (.two (.t .n) .n)) (.t (.t (.t (.t (.t (.t (.t (.t (.t (.t .n))))))))))))) h
end Go.Proofs.YtfhacbhgmnhmlaaGreat
namespace Go.Proofs.YtfhacbhgmnhmlaaGreat
set_option linter.unusedVariables false
set_option linter.unusedSimpArgs false
open Go Go.Eng Go.RowKit
def gK1 : Grp := ((gNew 3).act ⟨2, 0, 0, 1⟩).1
def gK2 : Grp := (gK1.act ⟨0, 3, 0, 0⟩).1
def gK3 : Grp := (gK2.act ⟨0, 2, 0, 7⟩).1
def gK4 : Grp := (gK3.act ⟨2, 2, 0, 0⟩).1
def gK5 : Grp := (gK4.act ⟨2, 2, 0, 1⟩).1
def gK6 : Grp := (gK5.act ⟨2, 2, 0, 0⟩).1
set_option maxRecDepth 100000 in
theorem gk_a : ((((gNew 3).act ⟨2, 0, 0, 1⟩).2, (gK1.act ⟨0, 3, 0, 0⟩).2, (gK2.act ⟨0, 2, 0, 7⟩).2), (gK3.act ⟨2, 2, 0, 0⟩).2, (gK4.act ⟨2, 2, 0, 1⟩).2, (gK5.act ⟨2, 2, 0, 0⟩).2, (gK6.act ⟨99, 0, 0, 0⟩).2) = ((false, false, true), true, true, true, false) := by kernel_rfl
set_option maxRecDepth 100000 in
theorem gk_b : ((gK5.committed 2, gK5.committed 0, gK6.committed 0), gK6.leads 2, (gK6.recd 0 ⟨2, 1⟩).st) = (([⟨2, 1⟩], [], [⟨2, 1⟩]), 1, 3) := by kernel_rfl
set_option maxRecDepth 100000 in
set_option maxHeartbeats 4000000 in
theorem paxKnown_walk {W : World} : callK PR F_rostrumlaw22_PaxKnown [] (fun v W' => v = .bool true ∧ Lo W W') W := by
 apply S.rostrumlaw22_PaxKnown.call
 delta S.rostrumlaw22_PaxKnown.body oK oA rD lD eF eU sT cL vC gD gX gP gA gR gL gE gU gC gV hL sB nI
 have h00 : ({ W with drawn := 0 } : World).drawn = 0 := rfl
 refine lawAwake22 h00 (St.startz W) fun W1 h => ?_
 have fin : ∀ (W' : World) (L : List Asn), St { W with drawn := 0 } L W' → Lo W W' := fun W' L h => St.lo h
 generalize ({ W with drawn := 0 } : World) = W0 at *
 (repeat simp -implicitDefEqProofs only [SE, SU, SV])
 refine paxNew (by assumption) (fun _ W1 h => ?_) fun m hm h3 h7 => absurd hm (by omega)
 (repeat simp -implicitDefEqProofs only [SE, SU, SV])
 refine paxNew h (fun _ W1 h => ?_) fun m hm h3 h7 => absurd hm (by omega)
 (repeat simp -implicitDefEqProofs only [SE, SU, SV])
 refine paxNew h (fun e => absurd e (by omega)) fun m hm h3 h7 g sk W2 h => ?_
 obtain rfl : m = 3 := by omega
 have hO0 := gNew_ok h3 h7
 have hO1 : gK1.Ok 1 := act_ok hO0 _
 have hO2 : gK2.Ok 2 := act_ok hO1 _
 have hO3 : gK3.Ok 3 := act_ok hO2 _
 have hO4 : gK4.Ok 4 := act_ok hO3 _
 have hO5 : gK5.Ok 5 := act_ok hO4 _
 have hO6 : gK6.Ok 6 := act_ok hO5 _
 have hA := gk_a
 have hB := gk_b
 simp only [Prod.mk.injEq] at hA hB
 obtain ⟨⟨a1, a2, a3⟩, a4, a5, a6, a7⟩ := hA
 obtain ⟨⟨b1, b2, b3⟩, b4, b5⟩ := hB
 (repeat (first | (refine okF_i (bldP_eq rfl) ?_; try simp only [BLS, SB, Nat.reduceAdd]) | simp -implicitDefEqProofs only [SE, SU, SV]))
 refine paxDo (g := g) (G := gNew 3) (a := ⟨2, 0, 0, 1⟩) hO0 (by omega) h fun W3 h => ?_
 rw [a1]
 (repeat (first | (refine okF_i (bldP_eq rfl) ?_; try simp only [BLS, SB, Nat.reduceAdd]) | simp -implicitDefEqProofs only [SE, SU, SV]))
 refine paxDo (g := g) (G := gK1) (a := ⟨0, 3, 0, 0⟩) hO1 (by omega) h fun W4 h => ?_
 rw [a2]
 (repeat (first | (refine okF_i (bldP_eq rfl) ?_; try simp only [BLS, SB, Nat.reduceAdd]) | simp -implicitDefEqProofs only [SE, SU, SV]))
 refine paxDo (g := g) (G := gK2) (a := ⟨0, 2, 0, 7⟩) hO2 (by omega) h fun W5 h => ?_
 rw [a3]
 (repeat (first | (refine okF_i (bldP_eq rfl) ?_; try simp only [BLS, SB, Nat.reduceAdd]) | simp -implicitDefEqProofs only [SE, SU, SV]))
 refine paxDo (g := g) (G := gK3) (a := ⟨2, 2, 0, 0⟩) hO3 (by omega) h fun W6 h => ?_
 rw [a4]
 (repeat (first | (refine okF_i (bldP_eq rfl) ?_; try simp only [BLS, SB, Nat.reduceAdd]) | simp -implicitDefEqProofs only [SE, SU, SV]))
 refine paxDo (g := g) (G := gK4) (a := ⟨2, 2, 0, 1⟩) hO4 (by omega) h fun W7 h => ?_
 rw [a5]
 (repeat simp -implicitDefEqProofs only [SE, SU, SV])
 refine paxCommitted (g := g) (G := gK5) h hO5.nd fun r1 c1 W8 h => ?_
 rw [b1] at h ⊢
 refine paxCommitted (g := g) (G := gK5) h hO5.nd fun r2 c2 W9 h => ?_
 rw [b2] at h ⊢
 (repeat (refine okF_i (bldP_eq rfl) ?_; try simp only [BLS, SB, Nat.reduceAdd]))
 refine paxDo (g := g) (G := gK5) (a := ⟨2, 2, 0, 0⟩) hO5 (by omega) h fun W10 h => ?_
 rw [a6]
 have d1 : decide ((⟨2, 1⟩ :: [] : List Dot) = [⟨2, 1⟩]) = true := by decide
 (repeat (refine okF_i (bldP_eq rfl) ?_; try simp only [BLS, SB, Nat.reduceAdd]))
 refine bsA DOT [(⟨2, 1⟩ : Dot)] (n := 1) (by assumption) rfl rfl (by decide) (by decide) rfl fun r3 c3 W11 h => ?_
 refine refSameDots (a := r1) (b := r3) (l := [(⟨2, 1⟩ : Dot)]) (m := [(⟨2, 1⟩ : Dot)]) h (by decide) fun W12 h => ?_
 (repeat simp -implicitDefEqProofs only [SE, SU, SV, d1])
 refine paxCommitted (g := g) (G := gK6) (by assumption) hO6.nd fun r4 c4 W13 h => ?_
 rw [b3] at h ⊢
 refine refSameDots (a := r4) (b := r1) (l := [(⟨2, 1⟩ : Dot)]) (m := [(⟨2, 1⟩ : Dot)]) h (by decide) fun W14 h => ?_
 (repeat simp -implicitDefEqProofs only [SE, SU, SV, d1])
 refine paxLeads (g := g) (G := gK6) (by assumption) fun W15 h => ?_
 rw [b4]
 (repeat (first | (refine okF_i (bldP_eq rfl) ?_; try simp only [BLS, SB, Nat.reduceAdd]) | simp -implicitDefEqProofs only [SE, SU, SV]))
 refine paxRec (g := g) (G := gK6) (i := 0) (d := ⟨2, 1⟩) (by assumption) fun y W16 hy h => ?_
 have e3 : y.st = 3 := (congrArg Rec.st hy).trans b5
 (repeat (first | (refine okF_i (bldP_eq rfl) ?_; try simp only [BLS, SB, Nat.reduceAdd]) | simp -implicitDefEqProofs only [SE, SU, SV, e3]))
 refine paxDo (g := g) (G := gK6) (a := ⟨99, 0, 0, 0⟩) hO6 (by omega) (by assumption) fun W17 h => ?_
 rw [a7]
 (repeat simp -implicitDefEqProofs only [SE, SU, SV])
 exact fin _ _ (by assumption)
end Go.Proofs.YtfhacbhgmnhmlaaGreat
namespace Go.Proofs.YtfhacbhgmnhmlaaGreat.paxKnownDone
set_option linter.unusedVariables false
set_option linter.unusedSimpArgs false
open Go Go.Eng Go.ChangeShapes Go.WideShapes Go.ChangeAt Go.RowKit
theorem own : ownKnob Tryz.prog.godebug = none := by kernel_rfl
theorem laidOut : laidOutB Tryz.prog = true := by kernel_rfl
theorem fnIs : PR.funcs[F_rostrumlaw22_PaxKnown]? = some Tryz.f5 := by kernel_rfl
set_option maxRecDepth 100000 in
theorem lifted (os : Os) (started : os.Started) (H : Type) (enc : TypeId × Value → H) :
  ReturnsInHanded {} Tryz.checked os F_rostrumlaw22_PaxKnown .any (Rows.paxKnownSpec.pre6 enc Tryz.prog Tryz.f5 Rows.paxKnownRow.domain false) (Rows.paxKnownSpec.post enc Tryz.prog Tryz.f5 false true false false) := by
 refine returnsInHanded_of_change (C := Tryz.checked) own started (by kernel_rfl) fnIs
  (ChangeSpec.witness6 (enc := enc) (C := Tryz.checked) false ⟨#[], #[], []⟩ 8 (by kernel_rfl) (by kernel_rfl) (by kernel_rfl) (by kernel_rfl)) ?_
 intro W base args ds gs before hval0 hW hcnd _
 have hval : ∀ (j : Nat) t v, Tryz.f5.params[j]? = some t → args[j]? = some v → Value.okWide Tryz.prog W .any base t v := hval0
 have hW' := hW
 obtain ⟨p, q, hA0, hV, rfl, hfz, hnd⟩ := hW
 have hA : DataW.TrodAll enc Tryz.prog W 0 (fun _ => true) true Tryz.f5.params.toList args.toList ds p := hA0
 have hpar : Tryz.f5.params.toList = [] := by kernel_rfl
 rw [hpar] at hA
 have hA1 := hA
 obtain ⟨hargs, rfl, rfl⟩ := trodAll_nil hA
 obtain rfl : args = #[] := by cases args; simp_all
 obtain ⟨rfl, rfl⟩ := trodVars_none hV
 clear hA0 hval0
 have hc : Calls Tryz.prog F_rostrumlaw22_PaxKnown #[] W fun e W' => e = .returned (.bool true) ∧ Below W.heap.size W W' :=
  Calls.mono (paxKnown_walk (W := W)) fun e W' h => by
   cases e <;> first | exact ⟨by rw [h.1], h.2.below⟩ | exact h.elim
 refine hc.mono fun e W' ⟨he, bel⟩ => ?_
 subst he
 exact ⟨_, rfl, _, _, _, [], _, [], hW', trodAll_mk1 (shut_bool (t := T_bool) (by kernel_rfl) _), keep_all laidOut (by kernel_rfl) hA1 bel, rfl, bel.frame _, fun h => by cases h⟩
theorem proved : Rows.PaxKnownSaid :=
 OpenClaim.holds_of_wide F_rostrumlaw22_PaxKnown Tryz.f5 rfl rfl rfl rfl rfl rfl rfl ⟨rfl, rfl, rfl, rfl, rfl⟩ rfl rfl rfl rfl rfl (by kernel_rfl) fnIs (by kernel_rfl)
  (of_decide_eq_true (by kernel_rfl)) (by unfold Func.isWrapper; first | (rw [if_pos (by decide +kernel)]; kernel_rfl) | (rw [if_neg (by decide +kernel)]; exact ⟨rfl, rfl⟩))
  (fun os started H enc _ => lifted os started H enc)
end Go.Proofs.YtfhacbhgmnhmlaaGreat.paxKnownDone
