/- Texts of the claim LeadTwo, joined: ShLead. -/
import Derived.Test.YtpihhlaiofkmdaaBLeadTwo2
namespace Go.Proofs.Ytpihhlaiofkmdaa
set_option linter.unusedVariables false
set_option linter.unusedSimpArgs false
open Go.Eng
/-! ### rostrum/rostrumlaw21.LeadSlow (3) -/
def S.rostrumlaw21_LeadSlow.l1 (R : Value → World → Prop) (K1 : List Value → World → Prop) (x2 x20 x21 : Value) (W : World) : Prop :=
  okF (lenP (.slice T_api_Dot) x2) fun v193 =>
  okF (binP .lss x21 v193) fun v194 =>
  ifK v194 (
  okF (idxS 2 x2 x21) fun v199 =>
  okF (addrF 0 v199) fun v200 =>
  rdK PR (Instr.loadAt T_int v200) (fun v201 W =>
  okF (addrF 3 x20) fun v202 =>
  okF (idxA 7 1 v202 v201) fun v203 =>
  rdK PR (Instr.loadAt T_int64 v203) (fun v204 W =>
  okF (idxS 2 x2 x21) fun v207 =>
  okF (addrF 1 v207) fun v208 =>
  rdK PR (Instr.loadAt T_int64 v208) (fun v209 W =>
  okF (binP .lss v204 v209) fun v210 =>
  ifK v210 (
  R (.bool false) W) (
  okF (binP .add x21 (.int .i64 1)) fun v196 =>
  K1 [x2, x20, v196] W)) W) W) (tick W)) (
  R (.bool true) W)
def S.rostrumlaw21_LeadSlow.j3 (R : Value → World → Prop) (x2 x7 x10 x13 : Value) (W : World) : Prop :=
  rdK PR (Instr.loadAt T_api_Dot x10) (fun v167 W =>
  callK PR F_inst_Table_Rec [x7, v167] (fun v168 W =>
  efK PR (Instr.alloc T_inst_Rec true (.tuple #[])) (fun v20 W =>
  efK PR (Instr.storeAt T_inst_Rec v20 v168) (fun _ W =>
  callK PR F_lead_Lead_Phase [x13] (fun v170 W =>
  okF (binP .neq v170 (.int .i64 3)) fun v171 =>
  gdK (wantd v171 false) (fun k W => okF (addrF 0 v20) fun v => k v W) (fun v173 W =>
  gdK (wantd v171 false) (fun k W => rdK PR (Instr.loadAt T_int v173) k W) (fun v174 W =>
  gdK (wantd v171 false) (fun k W => okF (binP .neq v174 (.int .i64 3)) fun v => k v W) (fun v175 W =>
  okF (pickP v171 (.bool true) v175) fun v176 =>
  gdK (wantd v176 false) (fun k W => okF (addrF 1 v20) fun v => k v W) (fun v178 W =>
  gdK (wantd v176 false) (fun k W => rdK PR (Instr.loadAt T_s_uint8 v178) k W) (fun v179 W =>
  gdK (wantd v176 false) (fun k W => rdK PR (convert T_s_uint8 T_string v179) k W) (fun v180 W =>
  gdK (wantd v176 false) (fun k W => okF (binP .neq v180 (.string ⟨#[120]⟩)) fun v => k v W) (fun v181 W =>
  okF (pickP v176 (.bool true) v181) fun v182 =>
  gdK (wantd v182 false) (fun k W => k x13 W) (fun v184 W =>
  gdK (wantd v182 false) (fun k W => callK PR F_lead_Lead_Fast [v184] k W) (fun v185 W =>
  gdK (wantd v182 false) (fun k W => k x2 W) (fun v186 W =>
  gdK (wantd v182 false) (fun k W => okF (lenP (.slice T_api_Dot) v186) fun v => k v W) (fun v187 W =>
  gdK (wantd v182 false) (fun k W => okF (binP .eql v187 (.int .i64 0)) fun v => k v W) (fun v188 W =>
  gdK (wantd v182 false) (fun k W => okF (eqP .bool .neq v185 v188) fun v => k v W) (fun v189 W =>
  okF (pickP v182 (.bool true) v189) fun v190 =>
  ifK v190 (
  R (.bool false) W) (
  loopK (fun K1 s W => S.rostrumlaw21_LeadSlow.l1 R K1 (nthv s 0) (nthv s 1) (nthv s 2) W) [x2, v20, (.int .i64 0)] W)) W) W) W) W) W) W) W) W) W) W) W) W) W) W) W) W) W) W
def S.rostrumlaw21_LeadSlow.j4 (K2 : List Value → World → Prop) (x0 x1 x2 x7 x8 x10 x13 x15 : Value) (W : World) : Prop :=
  okF (binP .add x15 (.int .i64 1)) fun v138 =>
  K2 [x0, x1, x2, x7, x8, x10, x13, v138] W
def S.rostrumlaw21_LeadSlow.j5 (K3 : List Value → World → Prop) (x0 x1 x2 x7 x8 x10 x13 x15 x16 : Value) (W : World) : Prop :=
  okF (binP .add x16 (.int .i64 1)) fun v143 =>
  K3 [x0, x1, x2, x7, x8, x10, x13, x15, v143] W
def S.rostrumlaw21_LeadSlow.j6 (J5 : List Value → World → Prop) (x0 x1 x2 x7 x8 x10 x13 x15 x16 x17 x18 : Value) (W : World) : Prop :=
  rdK PR (Instr.loadAt T_inst_Answer x18) (fun v164 W =>
  callK PR F_lead_Lead_Got [x13, x17, v164] (fun v165 W =>
  J5 [x0, x1, x2, x7, x8, x10, x13, x15, x16] W) W) W
def S.rostrumlaw21_LeadSlow.l3 (J4 : List Value → World → Prop) (K3 : List Value → World → Prop) (x0 x1 x2 x7 x8 x10 x13 x15 x16 : Value) (W : World) : Prop :=
  okF (binP .lss x16 x0) fun v141 =>
  ifK v141 (
  joinK (fun s W => S.rostrumlaw21_LeadSlow.j5 K3 (nthv s 0) (nthv s 1) (nthv s 2) (nthv s 3) (nthv s 4) (nthv s 5) (nthv s 6) (nthv s 7) (nthv s 8) W) (fun J5 =>
  okF (binP .add x1 (.int .i64 1)) fun v145 =>
  okF (binP .add v145 x16) fun v147 =>
  okF (binP .rem v147 x0) fun v149 =>
  okF (binP .neq v149 x1) fun v152 =>
  ifK v152 (
  joinK (fun s W => S.rostrumlaw21_LeadSlow.j6 J5 (nthv s 0) (nthv s 1) (nthv s 2) (nthv s 3) (nthv s 4) (nthv s 5) (nthv s 6) (nthv s 7) (nthv s 8) (nthv s 9) (nthv s 10) W) (fun J6 =>
  okF (idxA 7 1 x8 v149) fun v155 =>
  rdK PR (Instr.loadAt T_p_inst_Table v155) (fun v156 W =>
  (callK PR F_lead_Lead_Msg [x13] (fun v158 W =>
  stb PR [(2, true, (Instr.loadAt T_p_inst_Table v155), v156)] (fun W =>
  (callK PR F_inst_Table_Do [v156, v158] (fun v159 W =>
  okF (extP 0 v159) fun v160 =>
  okF (extP 1 v159) fun v161 =>
  efK PR (Instr.alloc T_inst_Answer true (.tuple #[])) (fun v18 W =>
  efK PR (Instr.storeAt T_inst_Answer v18 v160) (fun _ W =>
  J6 [x0, x1, x2, x7, x8, x10, x13, x15, x16, v149, v18] W) W) W) W) ∧ (efK PR (Instr.alloc T_inst_Answer true (.tuple #[])) (fun v18_1 W =>
  stb PR [(2, true, (Instr.loadAt T_p_inst_Table v155), v156)] (fun W =>
  callK PR F_inst_Table_Do [v156, v158] (fun v159_1 W =>
  okF (extP 0 v159_1) fun v160_1 =>
  okF (extP 1 v159_1) fun v161_1 =>
  efK PR (Instr.storeAt T_inst_Answer v18_1 v160_1) (fun _ W =>
  J6 [x0, x1, x2, x7, x8, x10, x13, x15, x16, v149, v18_1] W) W) W) W) W)) W) W) ∧ (efK PR (Instr.alloc T_inst_Answer true (.tuple #[])) (fun v18_2 W =>
  stb PR [(2, true, (Instr.loadAt T_p_inst_Table v155), v156)] (fun W =>
  callK PR F_lead_Lead_Msg [x13] (fun v158_1 W =>
  stb PR [(2, true, (Instr.loadAt T_p_inst_Table v155), v156)] (fun W =>
  callK PR F_inst_Table_Do [v156, v158_1] (fun v159_2 W =>
  okF (extP 0 v159_2) fun v160_2 =>
  okF (extP 1 v159_2) fun v161_2 =>
  efK PR (Instr.storeAt T_inst_Answer v18_2 v160_2) (fun _ W =>
  J6 [x0, x1, x2, x7, x8, x10, x13, x15, x16, v149, v18_2] W) W) W) W) W) W) W)) (tick W))) (
  J5 [x0, x1, x2, x7, x8, x10, x13, x15, x16] W))) (
  J4 [x0, x1, x2, x7, x8, x10, x13, x15] W)
def S.rostrumlaw21_LeadSlow.l2 (J3 : List Value → World → Prop) (K2 : List Value → World → Prop) (x0 x1 x2 x7 x8 x10 x13 x15 : Value) (W : World) : Prop :=
  okF (binP .lss x15 (.int .i64 3)) fun v136 =>
  ifK v136 (
  joinK (fun s W => S.rostrumlaw21_LeadSlow.j4 K2 (nthv s 0) (nthv s 1) (nthv s 2) (nthv s 3) (nthv s 4) (nthv s 5) (nthv s 6) (nthv s 7) W) (fun J4 =>
  loopK (fun K3 s W => S.rostrumlaw21_LeadSlow.l3 J4 K3 (nthv s 0) (nthv s 1) (nthv s 2) (nthv s 3) (nthv s 4) (nthv s 5) (nthv s 6) (nthv s 7) (nthv s 8) W) [x0, x1, x2, x7, x8, x10, x13, x15, (.int .i64 0)] W)) (
  J3 [x2, x7, x10, x13] W)
def S.rostrumlaw21_LeadSlow.j2 (R : Value → World → Prop) (x0 x1 x2 x7 x8 x10 : Value) (W : World) : Prop :=
  rdK PR (Instr.loadAt T_api_Dot x10) (fun v122 W =>
  efK PR (Instr.buildSlice T_s_uint8 1 #[(0, (.int .u8 120))]) (fun v123 W =>
  efK PR (convert T_s_uint8 T_s_uint8 v123) (fun v124 W =>
  callK PR F_lead_Propose [x0, x1, v122, v124, x7] (fun v126 W =>
  okF (extP 0 v126) fun v127 =>
  okF (extP 1 v126) fun v128 =>
  okF (binP .neq v128 (.int .i64 0)) fun v130 =>
  gdK (wantd v130 false) (fun k W => k v127 W) (fun v132 W =>
  gdK (wantd v130 false) (fun k W => okF (eqP (.pointer T_lead_Lead) .eql v132 (.pointer none)) fun v => k v W) (fun v133 W =>
  okF (pickP v130 (.bool true) v133) fun v134 =>
  ifK v134 (
  R (.bool false) W) (
  joinK (fun s W => S.rostrumlaw21_LeadSlow.j3 R (nthv s 0) (nthv s 1) (nthv s 2) (nthv s 3) W) (fun J3 =>
  loopK (fun K2 s W => S.rostrumlaw21_LeadSlow.l2 J3 K2 (nthv s 0) (nthv s 1) (nthv s 2) (nthv s 3) (nthv s 4) (nthv s 5) (nthv s 6) (nthv s 7) W) [x0, x1, x2, x7, x8, x10, v127, (.int .i64 0)] W))) W) W) W) W) W) W
def S.rostrumlaw21_LeadSlow.l4 (R : Value → World → Prop) (J2 : List Value → World → Prop) (K4 : List Value → World → Prop) (x0 x1 x2 x7 x8 x10 x11 x12 : Value) (W : World) : Prop :=
  okF (lenP (.slice T_api_Dot) x2) fun v60 =>
  okF (binP .lss x12 v60) fun v61 =>
  ifK v61 (
  okF (idxS 2 x2 x12) fun v66 =>
  rdK PR (Instr.loadAt T_api_Dot v66) (fun v67 W =>
  rdK PR (Instr.loadAt T_api_Dot x10) (fun v68 W =>
  rdK PR (aggEq .eql T_api_Dot v67 v68) (fun v69 W =>
  gdK (wantd v69 false) (fun k W => k x2 W) (fun v71 W =>
  gdK (wantd v69 false) (fun k W => k x12 W) (fun v72 W =>
  gdK (wantd v69 false) (fun k W => okF (idxS 2 v71 v72) fun v => k v W) (fun v73 W =>
  gdK (wantd v69 false) (fun k W => okF (addrF 0 v73) fun v => k v W) (fun v74 W =>
  gdK (wantd v69 false) (fun k W => rdK PR (Instr.loadAt T_int v74) k W) (fun v75 W =>
  gdK (wantd v69 false) (fun k W => okF (binP .lss v75 (.int .i64 0)) fun v => k v W) (fun v76 W =>
  okF (pickP v69 (.bool true) v76) fun v77 =>
  gdK (wantd v77 false) (fun k W => k x2 W) (fun v79 W =>
  gdK (wantd v77 false) (fun k W => k x12 W) (fun v80 W =>
  gdK (wantd v77 false) (fun k W => okF (idxS 2 v79 v80) fun v => k v W) (fun v81 W =>
  gdK (wantd v77 false) (fun k W => okF (addrF 0 v81) fun v => k v W) (fun v82 W =>
  gdK (wantd v77 false) (fun k W => rdK PR (Instr.loadAt T_int v82) k W) (fun v83 W =>
  gdK (wantd v77 false) (fun k W => okF (binP .gtr v83 (.int .i64 6)) fun v => k v W) (fun v84 W =>
  okF (pickP v77 (.bool true) v84) fun v85 =>
  gdK (wantd v85 false) (fun k W => k x2 W) (fun v87 W =>
  gdK (wantd v85 false) (fun k W => k x12 W) (fun v88 W =>
  gdK (wantd v85 false) (fun k W => okF (idxS 2 v87 v88) fun v => k v W) (fun v89 W =>
  gdK (wantd v85 false) (fun k W => okF (addrF 1 v89) fun v => k v W) (fun v90 W =>
  gdK (wantd v85 false) (fun k W => rdK PR (Instr.loadAt T_int64 v90) k W) (fun v91 W =>
  gdK (wantd v85 false) (fun k W => okF (binP .lss v91 (.int .i64 1)) fun v => k v W) (fun v92 W =>
  okF (pickP v85 (.bool true) v92) fun v93 =>
  gdK (wantd v93 false) (fun k W => k x2 W) (fun v95 W =>
  gdK (wantd v93 false) (fun k W => k x12 W) (fun v96 W =>
  gdK (wantd v93 false) (fun k W => okF (idxS 2 v95 v96) fun v => k v W) (fun v97 W =>
  gdK (wantd v93 false) (fun k W => okF (addrF 1 v97) fun v => k v W) (fun v98 W =>
  gdK (wantd v93 false) (fun k W => rdK PR (Instr.loadAt T_int64 v98) k W) (fun v99 W =>
  gdK (wantd v93 false) (fun k W => okF (binP .gtr v99 (.int .i64 1000)) fun v => k v W) (fun v100 W =>
  okF (pickP v93 (.bool true) v100) fun v101 =>
  ifK v101 (
  R (.bool true) W) (
  okF (idxA 7 1 x8 x11) fun v103 =>
  rdK PR (Instr.loadAt T_p_inst_Table v103) (fun v104 W =>
  okF (idxS 2 x2 x12) fun v107 =>
  rdK PR (Instr.loadAt T_api_Dot v107) (fun v108 W =>
  okF (idxS 2 x2 x12) fun v111 =>
  okF (addrF 0 v111) fun v112 =>
  rdK PR (Instr.loadAt T_int v112) (fun v113 W =>
  (callK PR F_ballot_First [v113] (fun v114 W =>
  stb PR [(6, true, (Instr.loadAt T_api_Dot v107), v108), (2, true, (Instr.loadAt T_p_inst_Table v103), v104)] (fun W =>
  efK PR (Instr.buildSlice T_s_uint8 1 #[(0, (.int .u8 111))]) (fun v115 W =>
  stb PR [(6, true, (Instr.loadAt T_api_Dot v107), v108), (2, true, (Instr.loadAt T_p_inst_Table v103), v104)] (fun W =>
  efK PR (convert T_s_uint8 T_s_uint8 v115) (fun v116 W =>
  stb PR [(6, true, (Instr.loadAt T_api_Dot v107), v108), (2, true, (Instr.loadAt T_p_inst_Table v103), v104)] (fun W =>
  okF (bldP (fun i => ([(0, 1), (1, 2), (3, 2), (5, 1), (6, 1), (7, 7)] : List (Nat × Nat))[i]?) [.int .i64 0, .int .i64 0, .int .i64 0, .int .i64 0, .int .i64 0, .slice none 0 0, .int .i64 0, .int .i64 0, .int .i64 0, .int .i64 0, .int .i64 0, .int .i64 0, .int .i64 0, .int .i64 0] [(0, (.int .i64 1)), (1, v108), (2, v114), (3, v116)]) fun v117 =>
  callK PR F_inst_Table_Do [v104, v117] (fun v118 W =>
  okF (binP .add x12 (.int .i64 1)) fun v63 =>
  K4 [x0, x1, x2, x7, x8, x10, x11, v63] W) W) W) W) W) W) W) W) ∧ (efK PR (Instr.buildSlice T_s_uint8 1 #[(0, (.int .u8 111))]) (fun v115_1 W =>
  stb PR [(11, true, (Instr.loadAt T_int v112), v113), (6, true, (Instr.loadAt T_api_Dot v107), v108), (2, true, (Instr.loadAt T_p_inst_Table v103), v104)] (fun W =>
  (callK PR F_ballot_First [v113] (fun v114_1 W =>
  stb PR [(6, true, (Instr.loadAt T_api_Dot v107), v108), (2, true, (Instr.loadAt T_p_inst_Table v103), v104)] (fun W =>
  efK PR (convert T_s_uint8 T_s_uint8 v115_1) (fun v116_1 W =>
  stb PR [(6, true, (Instr.loadAt T_api_Dot v107), v108), (2, true, (Instr.loadAt T_p_inst_Table v103), v104)] (fun W =>
  okF (bldP (fun i => ([(0, 1), (1, 2), (3, 2), (5, 1), (6, 1), (7, 7)] : List (Nat × Nat))[i]?) [.int .i64 0, .int .i64 0, .int .i64 0, .int .i64 0, .int .i64 0, .slice none 0 0, .int .i64 0, .int .i64 0, .int .i64 0, .int .i64 0, .int .i64 0, .int .i64 0, .int .i64 0, .int .i64 0] [(0, (.int .i64 1)), (1, v108), (2, v114_1), (3, v116_1)]) fun v117_1 =>
  callK PR F_inst_Table_Do [v104, v117_1] (fun v118_1 W =>
  okF (binP .add x12 (.int .i64 1)) fun v63_1 =>
  K4 [x0, x1, x2, x7, x8, x10, x11, v63_1] W) W) W) W) W) W) ∧ (efK PR (convert T_s_uint8 T_s_uint8 v115_1) (fun v116_2 W =>
  stb PR [(11, true, (Instr.loadAt T_int v112), v113), (6, true, (Instr.loadAt T_api_Dot v107), v108), (2, true, (Instr.loadAt T_p_inst_Table v103), v104)] (fun W =>
  callK PR F_ballot_First [v113] (fun v114_2 W =>
  stb PR [(6, true, (Instr.loadAt T_api_Dot v107), v108), (2, true, (Instr.loadAt T_p_inst_Table v103), v104)] (fun W =>
  okF (bldP (fun i => ([(0, 1), (1, 2), (3, 2), (5, 1), (6, 1), (7, 7)] : List (Nat × Nat))[i]?) [.int .i64 0, .int .i64 0, .int .i64 0, .int .i64 0, .int .i64 0, .slice none 0 0, .int .i64 0, .int .i64 0, .int .i64 0, .int .i64 0, .int .i64 0, .int .i64 0, .int .i64 0, .int .i64 0] [(0, (.int .i64 1)), (1, v108), (2, v114_2), (3, v116_2)]) fun v117_2 =>
  callK PR F_inst_Table_Do [v104, v117_2] (fun v118_2 W =>
  okF (binP .add x12 (.int .i64 1)) fun v63_2 =>
  K4 [x0, x1, x2, x7, x8, x10, x11, v63_2] W) W) W) W) W) W)) W) W)) W) W) (tick W))) W) W) W) W) W) W) W) W) W) W) W) W) W) W) W) W) W) W) W) W) W) W) W) W) W) W) (tick W)) (
  J2 [x0, x1, x2, x7, x8, x10] W)
def S.rostrumlaw21_LeadSlow.j1 (R : Value → World → Prop) (x0 x1 x2 x7 x8 : Value) (W : World) : Prop :=
  okF (bldP (fun i => ([(0, 1), (1, 1)] : List (Nat × Nat))[i]?) [.int .i64 0, .int .i64 0] [(0, x1), (1, (.int .i64 1))]) fun v53 =>
  efK PR (Instr.alloc T_api_Dot true (.tuple #[])) (fun v10 W =>
  efK PR (Instr.storeAt T_api_Dot v10 v53) (fun _ W =>
  okF (binP .add x1 (.int .i64 1)) fun v55 =>
  okF (binP .rem v55 x0) fun v57 =>
  joinK (fun s W => S.rostrumlaw21_LeadSlow.j2 R (nthv s 0) (nthv s 1) (nthv s 2) (nthv s 3) (nthv s 4) (nthv s 5) W) (fun J2 =>
  loopK (fun K4 s W => S.rostrumlaw21_LeadSlow.l4 R J2 K4 (nthv s 0) (nthv s 1) (nthv s 2) (nthv s 3) (nthv s 4) (nthv s 5) (nthv s 6) (nthv s 7) W) [x0, x1, x2, x7, x8, v10, v57, (.int .i64 0)] W)) W) W
def S.rostrumlaw21_LeadSlow.l5 (J1 : List Value → World → Prop) (K5 : List Value → World → Prop) (x0 x1 x2 x7 x8 x9 : Value) (W : World) : Prop :=
  okF (binP .lss x9 (.int .i64 7)) fun v46 =>
  ifK v46 (
  callK PR F_inst_New [] (fun v50 W =>
  okF (idxA 7 1 x8 x9) fun v51 =>
  efK PR (Instr.storeAt T_p_inst_Table v51 v50) (fun _ W =>
  okF (binP .add x9 (.int .i64 1)) fun v48 =>
  K5 [x0, x1, x2, x7, x8, v48] W) W) W) (
  J1 [x0, x1, x2, x7, x8] W)
def S.rostrumlaw21_LeadSlow.body (R : Value → World → Prop) (v0 v1 v2 : Value) (W : World) : Prop :=
  callK PR F_rostrumlaw21_awake [] (fun v22 W =>
  okF (unP .not v22) fun v23 =>
  ifK v23 (
  R (.bool false) W) (
  okF (binP .lss v0 (.int .i64 3)) fun v25 =>
  gdK (wantd v25 false) (fun k W => k v0 W) (fun v27 W =>
  gdK (wantd v25 false) (fun k W => okF (binP .gtr v27 (.int .i64 7)) fun v => k v W) (fun v28 W =>
  okF (pickP v25 (.bool true) v28) fun v29 =>
  gdK (wantd v29 false) (fun k W => k v1 W) (fun v31 W =>
  gdK (wantd v29 false) (fun k W => okF (binP .lss v31 (.int .i64 0)) fun v => k v W) (fun v32 W =>
  okF (pickP v29 (.bool true) v32) fun v33 =>
  gdK (wantd v33 false) (fun k W => k v1 W) (fun v35 W =>
  gdK (wantd v33 false) (fun k W => k v0 W) (fun v36 W =>
  gdK (wantd v33 false) (fun k W => okF (binP .geq v35 v36) fun v => k v W) (fun v37 W =>
  okF (pickP v33 (.bool true) v37) fun v38 =>
  gdK (wantd v38 false) (fun k W => k v2 W) (fun v40 W =>
  gdK (wantd v38 false) (fun k W => okF (lenP (.slice T_api_Dot) v40) fun v => k v W) (fun v41 W =>
  gdK (wantd v38 false) (fun k W => okF (binP .gtr v41 (.int .i64 10)) fun v => k v W) (fun v42 W =>
  okF (pickP v38 (.bool true) v42) fun v43 =>
  ifK v43 (
  R (.bool true) W) (
  callK PR F_inst_New [] (fun v44 W =>
  efK PR (Instr.alloc T_a7_p_inst_Table true (.tuple #[])) (fun v8 W =>
  joinK (fun s W => S.rostrumlaw21_LeadSlow.j1 R (nthv s 0) (nthv s 1) (nthv s 2) (nthv s 3) (nthv s 4) W) (fun J1 =>
  loopK (fun K5 s W => S.rostrumlaw21_LeadSlow.l5 J1 K5 (nthv s 0) (nthv s 1) (nthv s 2) (nthv s 3) (nthv s 4) (nthv s 5) W) [v0, v1, v2, v44, v8, (.int .i64 0)] W)) W) W)) W) W) W) W) W) W) W) W) W) W)) W
def S.rostrumlaw21_LeadSlow.hint : Hint := (.two .nil (.two (.two .nil (.two (.two .nil .nil) .nil)) (.two (.two .nil (.two (.two .nil .nil) .nil)) (.two .nil (.two .nil (.at [0, 1, 2, 7, 8] (.two .nil (.at [0, 1, 2, 7, 8, 9] (.two (.two .nil (.two .nil .nil)) (.two .nil .nil)) .nil)) (.two .nil (.two .nil (.at [0, 1, 2, 7, 8, 10] (.two .nil (.at [0, 1, 2, 7, 8, 10, 11, 12] (.two (.two .nil (.two .nil .nil)) (.two (.two (.two .nil (.two (.two .nil .nil) .nil)) .nil) .nil)) .nil)) (.two .nil (.two (.two .nil (.two (.two .nil .nil) .nil)) (.at [2, 7, 10, 13] (.two .nil (.at [0, 1, 2, 7, 8, 10, 13, 15] (.two (.two .nil (.two .nil .nil)) (.at [0, 1, 2, 7, 8, 10, 13, 15] (.two .nil (.at [0, 1, 2, 7, 8, 10, 13, 15, 16] (.two (.two .nil (.two .nil .nil)) (.at [0, 1, 2, 7, 8, 10, 13, 15, 16] (.two .nil (.two .nil (.two (.at [0, 1, 2, 7, 8, 10, 13, 15, 16, 17, 18] .nil .nil) .nil))) .nil)) .nil)) .nil)) .nil)) (.two .nil (.two (.two .nil (.two (.two .nil .nil) .nil)) (.two (.two .nil (.at [2, 20, 21] (.two (.two .nil (.two .nil .nil)) (.two (.two .nil (.two (.two .nil .nil) .nil)) .nil)) .nil)) (.two .nil .nil))))))))))))))))
theorem S.rostrumlaw21_LeadSlow.ok (R : Value → World → Prop) (v0 v1 v2 : Value) (W : World) : bodyK PR CB Try.f3 S.rostrumlaw21_LeadSlow.hint [v0, v1, v2] R W = S.rostrumlaw21_LeadSlow.body R v0 v1 v2 W := by kernel_rfl
theorem S.rostrumlaw21_LeadSlow.fn : PR.funcs[F_rostrumlaw21_LeadSlow]? = some Try.f3 := by kernel_rfl
theorem S.rostrumlaw21_LeadSlow.call {R : Value → World → Prop} {v0 v1 v2 : Value} {W : World} (h : S.rostrumlaw21_LeadSlow.body R v0 v1 v2 W) : callK PR F_rostrumlaw21_LeadSlow [v0, v1, v2] R W :=
  callK_of_body (g := F_rostrumlaw21_LeadSlow) (fn := Try.f3) (args := [v0, v1, v2]) (R := R) (w := W) mixed CBok S.rostrumlaw21_LeadSlow.fn S.rostrumlaw21_LeadSlow.hint (by rw [S.rostrumlaw21_LeadSlow.ok]; exact h)
/-! ### rostrum/rostrumlaw21.LeadFast (4) -/
def S.rostrumlaw21_LeadFast.j1 (R : Value → World → Prop) (x3 x9 x10 x11 : Value) (W : World) : Prop :=
  rdK PR (Instr.loadAt T_api_Dot x10) (fun v100 W =>
  callK PR F_inst_Table_Rec [x9, v100] (fun v101 W =>
  efK PR (Instr.alloc T_inst_Rec true (.tuple #[])) (fun v16 W =>
  efK PR (Instr.storeAt T_inst_Rec v16 v101) (fun _ W =>
  callK PR F_lead_Lead_Phase [x11] (fun v103 W =>
  okF (binP .eql v103 (.int .i64 3)) fun v104 =>
  gdK (wantd v104 true) (fun k W => k x11 W) (fun v106 W =>
  gdK (wantd v104 true) (fun k W => callK PR F_lead_Lead_Fast [v106] k W) (fun v107 W =>
  okF (pickP v104 v107 (.bool false)) fun v108 =>
  gdK (wantd v108 true) (fun k W => okF (addrF 0 v16) fun v => k v W) (fun v110 W =>
  gdK (wantd v108 true) (fun k W => rdK PR (Instr.loadAt T_int v110) k W) (fun v111 W =>
  gdK (wantd v108 true) (fun k W => okF (binP .eql v111 (.int .i64 3)) fun v => k v W) (fun v112 W =>
  okF (pickP v108 v112 (.bool false)) fun v113 =>
  gdK (wantd v113 true) (fun k W => okF (addrF 1 v16) fun v => k v W) (fun v115 W =>
  gdK (wantd v113 true) (fun k W => rdK PR (Instr.loadAt T_s_uint8 v115) k W) (fun v116 W =>
  gdK (wantd v113 true) (fun k W => rdK PR (convert T_s_uint8 T_string v116) k W) (fun v117 W =>
  gdK (wantd v113 true) (fun k W => k x3 W) (fun v118 W =>
  gdK (wantd v113 true) (fun k W => rdK PR (convert T_s_uint8 T_string v118) k W) (fun v119 W =>
  gdK (wantd v113 true) (fun k W => okF (binP .eql v117 v119) fun v => k v W) (fun v120 W =>
  okF (pickP v113 v120 (.bool false)) fun v121 =>
  gdK (wantd v121 true) (fun k W => okF (addrF 2 v16) fun v => k v W) (fun v123 W =>
  gdK (wantd v121 true) (fun k W => rdK PR (Instr.loadAt T_int64 v123) k W) (fun v124 W =>
  gdK (wantd v121 true) (fun k W => okF (binP .eql v124 (.int .i64 0)) fun v => k v W) (fun v125 W =>
  okF (pickP v121 v125 (.bool false)) fun v126 =>
  gdK (wantd v126 true) (fun k W => okF (addrF 3 v16) fun v => k v W) (fun v128 W =>
  gdK (wantd v126 true) (fun k W => rdK PR (Instr.loadAt T_vec_Vec v128) k W) (fun v129 W =>
  gdK (wantd v126 true) (fun k W => k x11 W) (fun v130 W =>
  gdK (wantd v126 true) (fun k W => callK PR F_lead_Lead_Msg [v130] (fun v W => stb PR [(27, (wantd v126 true), (Instr.loadAt T_vec_Vec v128), v129)] (fun W => k v W) W) W) (fun v131 W =>
  gdK (wantd v126 true) (fun k W => okF (fldV true 7 7 v131) fun v => k v W) (fun v132 W =>
  gdK (wantd v126 true) (fun k W => rdK PR (aggEq .eql T_vec_Vec v129 v132) k W) (fun v133 W =>
  okF (pickP v126 v133 (.bool false)) fun v134 =>
  gdK (wantd v134 true) (fun k W => k x11 W) (fun v136 W =>
  gdK (wantd v134 true) (fun k W => callK PR F_lead_Lead_Slow [v136] k W) (fun v137 W =>
  gdK (wantd v134 true) (fun k W => okF (unP .not v137) fun v => k v W) (fun v138 W =>
  okF (pickP v134 v138 (.bool false)) fun v139 =>
  R v139 W) W) W) W) W) W) W) W) W) W) W) W) W) W) W) W) W) W) W) W) W) W) W) W) (tick W)) W) W) W) W
def S.rostrumlaw21_LeadFast.j2 (K1 : List Value → World → Prop) (x0 x1 x3 x9 x10 x11 x13 : Value) (W : World) : Prop :=
  okF (binP .add x13 (.int .i64 1)) fun v70 =>
  K1 [x0, x1, x3, x9, x10, x11, v70] W
def S.rostrumlaw21_LeadFast.l1 (R : Value → World → Prop) (J1 : List Value → World → Prop) (K1 : List Value → World → Prop) (x0 x1 x3 x9 x10 x11 x13 : Value) (W : World) : Prop :=
  okF (binP .lss x13 x0) fun v68 =>
  ifK v68 (
  joinK (fun s W => S.rostrumlaw21_LeadFast.j2 K1 (nthv s 0) (nthv s 1) (nthv s 2) (nthv s 3) (nthv s 4) (nthv s 5) (nthv s 6) W) (fun J2 =>
  okF (binP .eql x13 x1) fun v73 =>
  ifK v73 (
  J2 [x0, x1, x3, x9, x10, x11, x13] W) (
  callK PR F_lead_Lead_Phase [x11] (fun v75 W =>
  okF (binP .neq v75 (.int .i64 1)) fun v76 =>
  ifK v76 (
  R (.bool false) W) (
  callK PR F_inst_New [] (fun v78 W =>
  callK PR F_lead_Lead_Msg [x11] (fun v80 W =>
  callK PR F_inst_Table_Do [v78, v80] (fun v81 W =>
  okF (extP 0 v81) fun v82 =>
  okF (extP 1 v81) fun v83 =>
  efK PR (Instr.alloc T_inst_Answer true (.tuple #[])) (fun v14 W =>
  efK PR (Instr.storeAt T_inst_Answer v14 v82) (fun _ W =>
  okF (binP .neq v83 (.int .i64 0)) fun v85 =>
  gdK (wantd v85 false) (fun k W => k x11 W) (fun v87 W =>
  gdK (wantd v85 false) (fun k W => k x13 W) (fun v88 W =>
  gdK (wantd v85 false) (fun k W => rdK PR (Instr.loadAt T_inst_Answer v14) k W) (fun v89 W =>
  gdK (wantd v85 false) (fun k W => callK PR F_lead_Lead_Got [v87, v88, v89] k W) (fun v90 W =>
  gdK (wantd v85 false) (fun k W => okF (unP .not v90) fun v => k v W) (fun v91 W =>
  okF (pickP v85 (.bool true) v91) fun v92 =>
  gdK (wantd v92 false) (fun k W => k x11 W) (fun v94 W =>
  gdK (wantd v92 false) (fun k W => k x13 W) (fun v95 W =>
  gdK (wantd v92 false) (fun k W => rdK PR (Instr.loadAt T_inst_Answer v14) k W) (fun v96 W =>
  gdK (wantd v92 false) (fun k W => callK PR F_lead_Lead_Got [v94, v95, v96] k W) (fun v97 W =>
  okF (pickP v92 (.bool true) v97) fun v98 =>
  ifK v98 (
  R (.bool false) W) (
  J2 [x0, x1, x3, x9, x10, x11, x13] W)) W) W) W) W) W) W) W) W) W) W) W) W) W) W)) W))) (
  J1 [x3, x9, x10, x11] W)
def S.rostrumlaw21_LeadFast.body (R : Value → World → Prop) (v0 v1 v2 v3 : Value) (W : World) : Prop :=
  callK PR F_rostrumlaw21_awake [] (fun v17 W =>
  okF (unP .not v17) fun v18 =>
  ifK v18 (
  R (.bool false) W) (
  okF (binP .lss v0 (.int .i64 3)) fun v20 =>
  gdK (wantd v20 false) (fun k W => k v0 W) (fun v22 W =>
  gdK (wantd v20 false) (fun k W => okF (binP .gtr v22 (.int .i64 7)) fun v => k v W) (fun v23 W =>
  okF (pickP v20 (.bool true) v23) fun v24 =>
  gdK (wantd v24 false) (fun k W => k v1 W) (fun v26 W =>
  gdK (wantd v24 false) (fun k W => okF (binP .lss v26 (.int .i64 0)) fun v => k v W) (fun v27 W =>
  okF (pickP v24 (.bool true) v27) fun v28 =>
  gdK (wantd v28 false) (fun k W => k v1 W) (fun v30 W =>
  gdK (wantd v28 false) (fun k W => k v0 W) (fun v31 W =>
  gdK (wantd v28 false) (fun k W => okF (binP .geq v30 v31) fun v => k v W) (fun v32 W =>
  okF (pickP v28 (.bool true) v32) fun v33 =>
  gdK (wantd v33 false) (fun k W => k v2 W) (fun v35 W =>
  gdK (wantd v33 false) (fun k W => okF (binP .lss v35 (.int .i64 1)) fun v => k v W) (fun v36 W =>
  okF (pickP v33 (.bool true) v36) fun v37 =>
  gdK (wantd v37 false) (fun k W => k v2 W) (fun v39 W =>
  gdK (wantd v37 false) (fun k W => okF (binP .gtr v39 (.int .i64 1000)) fun v => k v W) (fun v40 W =>
  okF (pickP v37 (.bool true) v40) fun v41 =>
  gdK (wantd v41 false) (fun k W => k v3 W) (fun v43 W =>
  gdK (wantd v41 false) (fun k W => okF (lenP (.slice T_uint8) v43) fun v => k v W) (fun v44 W =>
  gdK (wantd v41 false) (fun k W => okF (binP .gtr v44 (.int .i64 300)) fun v => k v W) (fun v45 W =>
  okF (pickP v41 (.bool true) v45) fun v46 =>
  ifK v46 (
  R (.bool true) W) (
  callK PR F_inst_New [] (fun v47 W =>
  okF (bldP (fun i => ([(0, 1), (1, 1)] : List (Nat × Nat))[i]?) [.int .i64 0, .int .i64 0] [(0, v1), (1, v2)]) fun v50 =>
  efK PR (Instr.alloc T_api_Dot true (.tuple #[])) (fun v10 W =>
  efK PR (Instr.storeAt T_api_Dot v10 v50) (fun _ W =>
  rdK PR (Instr.loadAt T_api_Dot v10) (fun v54 W =>
  callK PR F_lead_Propose [v0, v1, v54, v3, v47] (fun v57 W =>
  okF (extP 0 v57) fun v58 =>
  okF (extP 1 v57) fun v59 =>
  okF (binP .neq v59 (.int .i64 0)) fun v61 =>
  gdK (wantd v61 false) (fun k W => k v58 W) (fun v63 W =>
  gdK (wantd v61 false) (fun k W => okF (eqP (.pointer T_lead_Lead) .eql v63 (.pointer none)) fun v => k v W) (fun v64 W =>
  okF (pickP v61 (.bool true) v64) fun v65 =>
  ifK v65 (
  R (.bool false) W) (
  joinK (fun s W => S.rostrumlaw21_LeadFast.j1 R (nthv s 0) (nthv s 1) (nthv s 2) (nthv s 3) W) (fun J1 =>
  loopK (fun K1 s W => S.rostrumlaw21_LeadFast.l1 R J1 K1 (nthv s 0) (nthv s 1) (nthv s 2) (nthv s 3) (nthv s 4) (nthv s 5) (nthv s 6) W) [v0, v1, v3, v47, v10, v58, (.int .i64 0)] W))) W) W) W) W) W) W) W)) W) W) W) W) W) W) W) W) W) W) W) W) W) W)) W
def S.rostrumlaw21_LeadFast.hint : Hint := (.two .nil (.two (.two .nil (.two (.two .nil .nil) .nil)) (.two (.two .nil (.two (.two .nil .nil) .nil)) (.two .nil (.two .nil (.two .nil (.two (.two .nil (.two (.two .nil .nil) .nil)) (.at [3, 9, 10, 11] (.two .nil (.at [0, 1, 3, 9, 10, 11, 13] (.two (.two .nil (.two .nil .nil)) (.at [0, 1, 3, 9, 10, 11, 13] (.two (.two .nil (.two .nil .nil)) (.two (.two .nil (.two (.two .nil .nil) .nil)) (.two .nil (.two .nil (.two (.two .nil .nil) .nil))))) .nil)) .nil)) (.two .nil (.two .nil .nil))))))))))
theorem S.rostrumlaw21_LeadFast.ok (R : Value → World → Prop) (v0 v1 v2 v3 : Value) (W : World) : bodyK PR CB Try.f4 S.rostrumlaw21_LeadFast.hint [v0, v1, v2, v3] R W = S.rostrumlaw21_LeadFast.body R v0 v1 v2 v3 W := by kernel_rfl
theorem S.rostrumlaw21_LeadFast.fn : PR.funcs[F_rostrumlaw21_LeadFast]? = some Try.f4 := by kernel_rfl
theorem S.rostrumlaw21_LeadFast.call {R : Value → World → Prop} {v0 v1 v2 v3 : Value} {W : World} (h : S.rostrumlaw21_LeadFast.body R v0 v1 v2 v3 W) : callK PR F_rostrumlaw21_LeadFast [v0, v1, v2, v3] R W :=
  callK_of_body (g := F_rostrumlaw21_LeadFast) (fn := Try.f4) (args := [v0, v1, v2, v3]) (R := R) (w := W) mixed CBok S.rostrumlaw21_LeadFast.fn S.rostrumlaw21_LeadFast.hint (by rw [S.rostrumlaw21_LeadFast.ok]; exact h)
/-! ### rostrum/rostrumlaw21.LeadNoop (5) -/
def S.rostrumlaw21_LeadNoop.j2 (R : Value → World → Prop) (x5 x7 x8 : Value) (W : World) : Prop :=
  rdK PR (Instr.loadAt T_api_Dot x5) (fun v103 W =>
  callK PR F_inst_Table_Rec [x7, v103] (fun v104 W =>
  efK PR (Instr.alloc T_inst_Rec true (.tuple #[])) (fun v16 W =>
  efK PR (Instr.storeAt T_inst_Rec v16 v104) (fun _ W =>
  callK PR F_lead_Lead_Phase [x8] (fun v106 W =>
  okF (binP .eql v106 (.int .i64 3)) fun v107 =>
  gdK (wantd v107 true) (fun k W => okF (addrF 0 v16) fun v => k v W) (fun v109 W =>
  gdK (wantd v107 true) (fun k W => rdK PR (Instr.loadAt T_int v109) k W) (fun v110 W =>
  gdK (wantd v107 true) (fun k W => okF (binP .eql v110 (.int .i64 3)) fun v => k v W) (fun v111 W =>
  okF (pickP v107 v111 (.bool false)) fun v112 =>
  gdK (wantd v112 true) (fun k W => okF (addrF 1 v16) fun v => k v W) (fun v114 W =>
  gdK (wantd v112 true) (fun k W => rdK PR (Instr.loadAt T_s_uint8 v114) k W) (fun v115 W =>
  gdK (wantd v112 true) (fun k W => okF (lenP (.slice T_uint8) v115) fun v => k v W) (fun v116 W =>
  gdK (wantd v112 true) (fun k W => okF (binP .eql v116 (.int .i64 0)) fun v => k v W) (fun v117 W =>
  okF (pickP v112 v117 (.bool false)) fun v118 =>
  gdK (wantd v118 true) (fun k W => k x8 W) (fun v120 W =>
  gdK (wantd v118 true) (fun k W => callK PR F_lead_Lead_Fast [v120] k W) (fun v121 W =>
  gdK (wantd v118 true) (fun k W => okF (unP .not v121) fun v => k v W) (fun v122 W =>
  okF (pickP v118 v122 (.bool false)) fun v123 =>
  R v123 W) W) W) W) W) W) W) W) W) W) W) W) W) W) W) W
def S.rostrumlaw21_LeadNoop.j3 (K1 : List Value → World → Prop) (x0 x1 x5 x7 x8 x10 x12 : Value) (W : World) : Prop :=
  okF (binP .add x12 (.int .i64 1)) fun v80 =>
  K1 [x0, x1, x5, x7, x8, x10, v80] W
def S.rostrumlaw21_LeadNoop.j4 (K2 : List Value → World → Prop) (x0 x1 x5 x7 x8 x10 x12 x13 : Value) (W : World) : Prop :=
  okF (binP .add x13 (.int .i64 1)) fun v85 =>
  K2 [x0, x1, x5, x7, x8, x10, x12, v85] W
def S.rostrumlaw21_LeadNoop.j5 (J4 : List Value → World → Prop) (x0 x1 x5 x7 x8 x10 x12 x13 x14 : Value) (W : World) : Prop :=
  rdK PR (Instr.loadAt T_inst_Answer x14) (fun v100 W =>
  callK PR F_lead_Lead_Got [x8, x13, v100] (fun v101 W =>
  J4 [x0, x1, x5, x7, x8, x10, x12, x13] W) W) W
def S.rostrumlaw21_LeadNoop.l2 (J3 : List Value → World → Prop) (K2 : List Value → World → Prop) (x0 x1 x5 x7 x8 x10 x12 x13 : Value) (W : World) : Prop :=
  okF (binP .lss x13 x0) fun v83 =>
  ifK v83 (
  joinK (fun s W => S.rostrumlaw21_LeadNoop.j4 K2 (nthv s 0) (nthv s 1) (nthv s 2) (nthv s 3) (nthv s 4) (nthv s 5) (nthv s 6) (nthv s 7) W) (fun J4 =>
  okF (binP .neq x13 x1) fun v88 =>
  ifK v88 (
  joinK (fun s W => S.rostrumlaw21_LeadNoop.j5 J4 (nthv s 0) (nthv s 1) (nthv s 2) (nthv s 3) (nthv s 4) (nthv s 5) (nthv s 6) (nthv s 7) (nthv s 8) W) (fun J5 =>
  okF (idxA 7 1 x10 x13) fun v91 =>
  rdK PR (Instr.loadAt T_p_inst_Table v91) (fun v92 W =>
  (callK PR F_lead_Lead_Msg [x8] (fun v94 W =>
  stb PR [(2, true, (Instr.loadAt T_p_inst_Table v91), v92)] (fun W =>
  (callK PR F_inst_Table_Do [v92, v94] (fun v95 W =>
  okF (extP 0 v95) fun v96 =>
  okF (extP 1 v95) fun v97 =>
  efK PR (Instr.alloc T_inst_Answer true (.tuple #[])) (fun v14 W =>
  efK PR (Instr.storeAt T_inst_Answer v14 v96) (fun _ W =>
  J5 [x0, x1, x5, x7, x8, x10, x12, x13, v14] W) W) W) W) ∧ (efK PR (Instr.alloc T_inst_Answer true (.tuple #[])) (fun v14_1 W =>
  stb PR [(2, true, (Instr.loadAt T_p_inst_Table v91), v92)] (fun W =>
  callK PR F_inst_Table_Do [v92, v94] (fun v95_1 W =>
  okF (extP 0 v95_1) fun v96_1 =>
  okF (extP 1 v95_1) fun v97_1 =>
  efK PR (Instr.storeAt T_inst_Answer v14_1 v96_1) (fun _ W =>
  J5 [x0, x1, x5, x7, x8, x10, x12, x13, v14_1] W) W) W) W) W)) W) W) ∧ (efK PR (Instr.alloc T_inst_Answer true (.tuple #[])) (fun v14_2 W =>
  stb PR [(2, true, (Instr.loadAt T_p_inst_Table v91), v92)] (fun W =>
  callK PR F_lead_Lead_Msg [x8] (fun v94_1 W =>
  stb PR [(2, true, (Instr.loadAt T_p_inst_Table v91), v92)] (fun W =>
  callK PR F_inst_Table_Do [v92, v94_1] (fun v95_2 W =>
  okF (extP 0 v95_2) fun v96_2 =>
  okF (extP 1 v95_2) fun v97_2 =>
  efK PR (Instr.storeAt T_inst_Answer v14_2 v96_2) (fun _ W =>
  J5 [x0, x1, x5, x7, x8, x10, x12, x13, v14_2] W) W) W) W) W) W) W)) (tick W))) (
  J4 [x0, x1, x5, x7, x8, x10, x12, x13] W))) (
  J3 [x0, x1, x5, x7, x8, x10, x12] W)
def S.rostrumlaw21_LeadNoop.l1 (J2 : List Value → World → Prop) (K1 : List Value → World → Prop) (x0 x1 x5 x7 x8 x10 x12 : Value) (W : World) : Prop :=
  okF (binP .lss x12 (.int .i64 3)) fun v78 =>
  ifK v78 (
  joinK (fun s W => S.rostrumlaw21_LeadNoop.j3 K1 (nthv s 0) (nthv s 1) (nthv s 2) (nthv s 3) (nthv s 4) (nthv s 5) (nthv s 6) W) (fun J3 =>
  loopK (fun K2 s W => S.rostrumlaw21_LeadNoop.l2 J3 K2 (nthv s 0) (nthv s 1) (nthv s 2) (nthv s 3) (nthv s 4) (nthv s 5) (nthv s 6) (nthv s 7) W) [x0, x1, x5, x7, x8, x10, x12, (.int .i64 0)] W)) (
  J2 [x5, x7, x8] W)
def S.rostrumlaw21_LeadNoop.j1 (R : Value → World → Prop) (x0 x1 x5 x7 x8 x10 : Value) (W : World) : Prop :=
  joinK (fun s W => S.rostrumlaw21_LeadNoop.j2 R (nthv s 0) (nthv s 1) (nthv s 2) W) (fun J2 =>
  loopK (fun K1 s W => S.rostrumlaw21_LeadNoop.l1 J2 K1 (nthv s 0) (nthv s 1) (nthv s 2) (nthv s 3) (nthv s 4) (nthv s 5) (nthv s 6) W) [x0, x1, x5, x7, x8, x10, (.int .i64 0)] W)
def S.rostrumlaw21_LeadNoop.l3 (J1 : List Value → World → Prop) (K3 : List Value → World → Prop) (x0 x1 x5 x7 x8 x10 x11 : Value) (W : World) : Prop :=
  okF (binP .lss x11 (.int .i64 7)) fun v71 =>
  ifK v71 (
  callK PR F_inst_New [] (fun v75 W =>
  okF (idxA 7 1 x10 x11) fun v76 =>
  efK PR (Instr.storeAt T_p_inst_Table v76 v75) (fun _ W =>
  okF (binP .add x11 (.int .i64 1)) fun v73 =>
  K3 [x0, x1, x5, x7, x8, x10, v73] W) W) W) (
  J1 [x0, x1, x5, x7, x8, x10] W)
def S.rostrumlaw21_LeadNoop.body (R : Value → World → Prop) (v0 v1 v2 : Value) (W : World) : Prop :=
  efK PR (Instr.box T_api_Dot v2) (fun v5 W =>
  callK PR F_rostrumlaw21_awake [] (fun v17 W =>
  okF (unP .not v17) fun v18 =>
  ifK v18 (
  R (.bool false) W) (
  okF (binP .lss v0 (.int .i64 3)) fun v20 =>
  gdK (wantd v20 false) (fun k W => k v0 W) (fun v22 W =>
  gdK (wantd v20 false) (fun k W => okF (binP .gtr v22 (.int .i64 7)) fun v => k v W) (fun v23 W =>
  okF (pickP v20 (.bool true) v23) fun v24 =>
  gdK (wantd v24 false) (fun k W => k v1 W) (fun v26 W =>
  gdK (wantd v24 false) (fun k W => okF (binP .lss v26 (.int .i64 0)) fun v => k v W) (fun v27 W =>
  okF (pickP v24 (.bool true) v27) fun v28 =>
  gdK (wantd v28 false) (fun k W => k v1 W) (fun v30 W =>
  gdK (wantd v28 false) (fun k W => k v0 W) (fun v31 W =>
  gdK (wantd v28 false) (fun k W => okF (binP .geq v30 v31) fun v => k v W) (fun v32 W =>
  okF (pickP v28 (.bool true) v32) fun v33 =>
  gdK (wantd v33 false) (fun k W => okF (addrF 0 v5) fun v => k v W) (fun v35 W =>
  gdK (wantd v33 false) (fun k W => rdK PR (Instr.loadAt T_int v35) k W) (fun v36 W =>
  gdK (wantd v33 false) (fun k W => okF (binP .lss v36 (.int .i64 0)) fun v => k v W) (fun v37 W =>
  okF (pickP v33 (.bool true) v37) fun v38 =>
  gdK (wantd v38 false) (fun k W => okF (addrF 0 v5) fun v => k v W) (fun v40 W =>
  gdK (wantd v38 false) (fun k W => rdK PR (Instr.loadAt T_int v40) k W) (fun v41 W =>
  gdK (wantd v38 false) (fun k W => k v0 W) (fun v42 W =>
  gdK (wantd v38 false) (fun k W => okF (binP .geq v41 v42) fun v => k v W) (fun v43 W =>
  okF (pickP v38 (.bool true) v43) fun v44 =>
  gdK (wantd v44 false) (fun k W => okF (addrF 1 v5) fun v => k v W) (fun v46 W =>
  gdK (wantd v44 false) (fun k W => rdK PR (Instr.loadAt T_int64 v46) k W) (fun v47 W =>
  gdK (wantd v44 false) (fun k W => okF (binP .lss v47 (.int .i64 1)) fun v => k v W) (fun v48 W =>
  okF (pickP v44 (.bool true) v48) fun v49 =>
  gdK (wantd v49 false) (fun k W => okF (addrF 1 v5) fun v => k v W) (fun v51 W =>
  gdK (wantd v49 false) (fun k W => rdK PR (Instr.loadAt T_int64 v51) k W) (fun v52 W =>
  gdK (wantd v49 false) (fun k W => okF (binP .gtr v52 (.int .i64 1000)) fun v => k v W) (fun v53 W =>
  okF (pickP v49 (.bool true) v53) fun v54 =>
  ifK v54 (
  R (.bool true) W) (
  callK PR F_inst_New [] (fun v55 W =>
  rdK PR (Instr.loadAt T_api_Dot v5) (fun v59 W =>
  callK PR F_lead_Recover [v0, v1, v59, v55] (fun v61 W =>
  okF (extP 0 v61) fun v62 =>
  okF (extP 1 v61) fun v63 =>
  okF (binP .neq v63 (.int .i64 0)) fun v65 =>
  gdK (wantd v65 false) (fun k W => k v62 W) (fun v67 W =>
  gdK (wantd v65 false) (fun k W => okF (eqP (.pointer T_lead_Lead) .eql v67 (.pointer none)) fun v => k v W) (fun v68 W =>
  okF (pickP v65 (.bool true) v68) fun v69 =>
  ifK v69 (
  R (.bool false) W) (
  efK PR (Instr.alloc T_a7_p_inst_Table true (.tuple #[])) (fun v10 W =>
  joinK (fun s W => S.rostrumlaw21_LeadNoop.j1 R (nthv s 0) (nthv s 1) (nthv s 2) (nthv s 3) (nthv s 4) (nthv s 5) W) (fun J1 =>
  loopK (fun K3 s W => S.rostrumlaw21_LeadNoop.l3 J1 K3 (nthv s 0) (nthv s 1) (nthv s 2) (nthv s 3) (nthv s 4) (nthv s 5) (nthv s 6) W) [v0, v1, v5, v55, v62, v10, (.int .i64 0)] W)) W)) W) W) W) W) W)) W) W) W) W) W) W) W) W) W) W) W) W) W) W) W) W) W) W) W) W)) W) W
def S.rostrumlaw21_LeadNoop.hint : Hint := (.two .nil (.two (.two .nil (.two (.two .nil .nil) .nil)) (.two (.two .nil (.two (.two .nil .nil) .nil)) (.two .nil (.two .nil (.two (.two .nil (.two (.two .nil .nil) .nil)) (.two .nil (.at [0, 1, 5, 7, 8, 10] (.two .nil (.at [0, 1, 5, 7, 8, 10, 11] (.two (.two .nil (.two .nil .nil)) (.two .nil .nil)) .nil)) (.at [5, 7, 8] (.two .nil (.at [0, 1, 5, 7, 8, 10, 12] (.two (.two .nil (.two .nil .nil)) (.at [0, 1, 5, 7, 8, 10, 12] (.two .nil (.at [0, 1, 5, 7, 8, 10, 12, 13] (.two (.two .nil (.two .nil .nil)) (.at [0, 1, 5, 7, 8, 10, 12, 13] (.two .nil (.two (.at [0, 1, 5, 7, 8, 10, 12, 13, 14] .nil .nil) .nil)) .nil)) .nil)) .nil)) .nil)) (.two .nil (.two .nil .nil)))))))))))
theorem S.rostrumlaw21_LeadNoop.ok (R : Value → World → Prop) (v0 v1 v2 : Value) (W : World) : bodyK PR CB Try.f5 S.rostrumlaw21_LeadNoop.hint [v0, v1, v2] R W = S.rostrumlaw21_LeadNoop.body R v0 v1 v2 W := by kernel_rfl
theorem S.rostrumlaw21_LeadNoop.fn : PR.funcs[F_rostrumlaw21_LeadNoop]? = some Try.f5 := by kernel_rfl
theorem S.rostrumlaw21_LeadNoop.call {R : Value → World → Prop} {v0 v1 v2 : Value} {W : World} (h : S.rostrumlaw21_LeadNoop.body R v0 v1 v2 W) : callK PR F_rostrumlaw21_LeadNoop [v0, v1, v2] R W :=
  callK_of_body (g := F_rostrumlaw21_LeadNoop) (fn := Try.f5) (args := [v0, v1, v2]) (R := R) (w := W) mixed CBok S.rostrumlaw21_LeadNoop.fn S.rostrumlaw21_LeadNoop.hint (by rw [S.rostrumlaw21_LeadNoop.ok]; exact h)
/-! ### rostrum/rostrumlaw21.LeadKnown (6) -/
def S.rostrumlaw21_LeadKnown.body (R : Value → World → Prop) (W : World) : Prop :=
  callK PR F_rostrumlaw21_awake [] (fun v32 W =>
  okF (unP .not v32) fun v33 =>
  ifK v33 (
  R (.bool false) W) (
  callK PR F_inst_New [] (fun v34 W =>
  callK PR F_inst_New [] (fun v35 W =>
  callK PR F_inst_New [] (fun v36 W =>
  okF (bldP (fun i => ([(0, 1), (1, 1)] : List (Nat × Nat))[i]?) [.int .i64 0, .int .i64 0] [(1, (.int .i64 1))]) fun v37 =>
  okF (bldP (fun i => ([(0, 1), (1, 1)] : List (Nat × Nat))[i]?) [.int .i64 0, .int .i64 0] [(0, (.int .i64 1)), (1, (.int .i64 1))]) fun v38 =>
  efK PR (Instr.alloc T_api_Dot true (.tuple #[])) (fun v4 W =>
  efK PR (Instr.alloc T_api_Dot true (.tuple #[])) (fun v5 W =>
  efK PR (Instr.storeAt T_api_Dot v4 v37) (fun _ W =>
  efK PR (Instr.storeAt T_api_Dot v5 v38) (fun _ W =>
  rdK PR (Instr.loadAt T_api_Dot v4) (fun v40 W =>
  callK PR F_lead_Propose [(.int .i64 2), (.int .i64 0), v40, (.slice none 0 0), v34] (fun v42 W =>
  okF (extP 0 v42) fun v43 =>
  okF (extP 1 v42) fun v44 =>
  rdK PR (Instr.loadAt T_api_Dot v5) (fun v46 W =>
  callK PR F_lead_Propose [(.int .i64 3), (.int .i64 0), v46, (.slice none 0 0), v34] (fun v48 W =>
  okF (extP 0 v48) fun v49 =>
  okF (extP 1 v48) fun v50 =>
  rdK PR (Instr.loadAt T_api_Dot v4) (fun v52 W =>
  efK PR (Instr.buildSlice T_s_uint8 1 #[(0, (.int .u8 120))]) (fun v53 W =>
  efK PR (convert T_s_uint8 T_s_uint8 v53) (fun v54 W =>
  callK PR F_lead_Propose [(.int .i64 3), (.int .i64 0), v52, v54, v34] (fun v56 W =>
  okF (extP 0 v56) fun v57 =>
  okF (extP 1 v56) fun v58 =>
  rdK PR (Instr.loadAt T_api_Dot v5) (fun v60 W =>
  efK PR (Instr.buildSlice T_s_uint8 1 #[(0, (.int .u8 121))]) (fun v61 W =>
  efK PR (convert T_s_uint8 T_s_uint8 v61) (fun v62 W =>
  callK PR F_lead_Propose [(.int .i64 3), (.int .i64 1), v60, v62, v35] (fun v64 W =>
  okF (extP 0 v64) fun v65 =>
  okF (extP 1 v64) fun v66 =>
  rdK PR (Instr.loadAt T_api_Dot v4) (fun v68 W =>
  efK PR (Instr.buildSlice T_s_uint8 1 #[(0, (.int .u8 122))]) (fun v69 W =>
  efK PR (convert T_s_uint8 T_s_uint8 v69) (fun v70 W =>
  callK PR F_lead_Propose [(.int .i64 3), (.int .i64 0), v68, v70, v34] (fun v72 W =>
  okF (extP 0 v72) fun v73 =>
  okF (extP 1 v72) fun v74 =>
  okF (eqP (.pointer T_lead_Lead) .eql v57 (.pointer none)) fun v76 =>
  gdK (wantd v76 false) (fun k W => k v65 W) (fun v78 W =>
  gdK (wantd v76 false) (fun k W => okF (eqP (.pointer T_lead_Lead) .eql v78 (.pointer none)) fun v => k v W) (fun v79 W =>
  okF (pickP v76 (.bool true) v79) fun v80 =>
  ifK v80 (
  R (.bool false) W) (
  callK PR F_lead_Lead_Msg [v57] (fun v84 W =>
  callK PR F_inst_Table_Do [v35, v84] (fun v85 W =>
  okF (extP 0 v85) fun v86 =>
  okF (extP 1 v85) fun v87 =>
  efK PR (Instr.alloc T_inst_Answer true (.tuple #[])) (fun v16 W =>
  efK PR (Instr.storeAt T_inst_Answer v16 v86) (fun _ W =>
  rdK PR (Instr.loadAt T_inst_Answer v16) (fun v89 W =>
  callK PR F_lead_Lead_Got [v57, (.int .i64 1), v89] (fun v90 W =>
  callK PR F_lead_Lead_Phase [v57] (fun v92 W =>
  callK PR F_lead_Lead_Msg [v57] (fun v94 W =>
  efK PR (Instr.alloc T_inst_Msg true (.tuple #[])) (fun v20 W =>
  efK PR (Instr.storeAt T_inst_Msg v20 v94) (fun _ W =>
  rdK PR (Instr.loadAt T_inst_Msg v20) (fun v97 W =>
  callK PR F_inst_Table_Do [v35, v97] (fun v98 W =>
  okF (extP 0 v98) fun v99 =>
  okF (extP 1 v98) fun v100 =>
  efK PR (Instr.alloc T_inst_Answer true (.tuple #[])) (fun v21 W =>
  efK PR (Instr.storeAt T_inst_Answer v21 v99) (fun _ W =>
  rdK PR (Instr.loadAt T_inst_Answer v16) (fun v102 W =>
  callK PR F_lead_Lead_Got [v57, (.int .i64 1), v102] (fun v103 W =>
  rdK PR (Instr.loadAt T_inst_Answer v21) (fun v105 W =>
  callK PR F_lead_Lead_Got [v57, (.int .i64 1), v105] (fun v106 W =>
  rdK PR (Instr.loadAt T_api_Dot v4) (fun v108 W =>
  callK PR F_lead_Recover [(.int .i64 3), (.int .i64 2), v108, v36] (fun v110 W =>
  okF (extP 0 v110) fun v111 =>
  okF (extP 1 v110) fun v112 =>
  okF (eqP (.pointer T_lead_Lead) .eql v111 (.pointer none)) fun v114 =>
  ifK v114 (
  R (.bool false) W) (
  callK PR F_lead_Lead_Msg [v111] (fun v118 W =>
  callK PR F_inst_Table_Do [v34, v118] (fun v119 W =>
  okF (extP 0 v119) fun v120 =>
  okF (extP 1 v119) fun v121 =>
  efK PR (Instr.alloc T_inst_Answer true (.tuple #[])) (fun v27 W =>
  efK PR (Instr.storeAt T_inst_Answer v27 v120) (fun _ W =>
  rdK PR (Instr.loadAt T_inst_Answer v27) (fun v123 W =>
  callK PR F_lead_Lead_Got [v111, (.int .i64 0), v123] (fun v124 W =>
  rdK PR (Instr.loadAt T_api_Dot v4) (fun v126 W =>
  callK PR F_lead_Recover [(.int .i64 3), (.int .i64 0), v126, v34] (fun v128 W =>
  okF (extP 0 v128) fun v129 =>
  okF (extP 1 v128) fun v130 =>
  okF (binP .eql v44 (.int .i64 1)) fun v132 =>
  gdK (wantd v132 true) (fun k W => k v50 W) (fun v134 W =>
  gdK (wantd v132 true) (fun k W => okF (binP .eql v134 (.int .i64 1)) fun v => k v W) (fun v135 W =>
  okF (pickP v132 v135 (.bool false)) fun v136 =>
  gdK (wantd v136 true) (fun k W => k v74 W) (fun v138 W =>
  gdK (wantd v136 true) (fun k W => okF (binP .eql v138 (.int .i64 5)) fun v => k v W) (fun v139 W =>
  okF (pickP v136 v139 (.bool false)) fun v140 =>
  gdK (wantd v140 true) (fun k W => k v90 W) (fun v142 W =>
  okF (pickP v140 v142 (.bool false)) fun v143 =>
  gdK (wantd v143 true) (fun k W => k v92 W) (fun v145 W =>
  gdK (wantd v143 true) (fun k W => okF (binP .eql v145 (.int .i64 2)) fun v => k v W) (fun v146 W =>
  okF (pickP v143 v146 (.bool false)) fun v147 =>
  gdK (wantd v147 true) (fun k W => okF (addrF 0 v20) fun v => k v W) (fun v149 W =>
  gdK (wantd v147 true) (fun k W => rdK PR (Instr.loadAt T_int v149) k W) (fun v150 W =>
  gdK (wantd v147 true) (fun k W => okF (binP .eql v150 (.int .i64 2)) fun v => k v W) (fun v151 W =>
  okF (pickP v147 v151 (.bool false)) fun v152 =>
  gdK (wantd v152 true) (fun k W => okF (addrF 7 v20) fun v => k v W) (fun v154 W =>
  gdK (wantd v152 true) (fun k W => okF (idxA 7 1 v154 (.int .i64 1)) fun v => k v W) (fun v155 W =>
  gdK (wantd v152 true) (fun k W => rdK PR (Instr.loadAt T_int64 v155) k W) (fun v156 W =>
  gdK (wantd v152 true) (fun k W => okF (binP .eql v156 (.int .i64 1)) fun v => k v W) (fun v157 W =>
  okF (pickP v152 v157 (.bool false)) fun v158 =>
  gdK (wantd v158 true) (fun k W => k v103 W) (fun v160 W =>
  gdK (wantd v158 true) (fun k W => okF (unP .not v160) fun v => k v W) (fun v161 W =>
  okF (pickP v158 v161 (.bool false)) fun v162 =>
  gdK (wantd v162 true) (fun k W => k v106 W) (fun v164 W =>
  okF (pickP v162 v164 (.bool false)) fun v165 =>
  gdK (wantd v165 true) (fun k W => k v57 W) (fun v167 W =>
  gdK (wantd v165 true) (fun k W => callK PR F_lead_Lead_Phase [v167] k W) (fun v168 W =>
  gdK (wantd v165 true) (fun k W => okF (binP .eql v168 (.int .i64 3)) fun v => k v W) (fun v169 W =>
  okF (pickP v165 v169 (.bool false)) fun v170 =>
  gdK (wantd v170 true) (fun k W => k v57 W) (fun v172 W =>
  gdK (wantd v170 true) (fun k W => callK PR F_lead_Lead_Fast [v172] k W) (fun v173 W =>
  gdK (wantd v170 true) (fun k W => okF (unP .not v173) fun v => k v W) (fun v174 W =>
  okF (pickP v170 v174 (.bool false)) fun v175 =>
  gdK (wantd v175 true) (fun k W => k v112 W) (fun v177 W =>
  gdK (wantd v175 true) (fun k W => okF (binP .eql v177 (.int .i64 0)) fun v => k v W) (fun v178 W =>
  okF (pickP v175 v178 (.bool false)) fun v179 =>
  gdK (wantd v179 true) (fun k W => k v124 W) (fun v181 W =>
  okF (pickP v179 v181 (.bool false)) fun v182 =>
  gdK (wantd v182 true) (fun k W => k v111 W) (fun v184 W =>
  gdK (wantd v182 true) (fun k W => callK PR F_lead_Lead_Phase [v184] k W) (fun v185 W =>
  gdK (wantd v182 true) (fun k W => okF (binP .eql v185 (.int .i64 3)) fun v => k v W) (fun v186 W =>
  okF (pickP v182 v186 (.bool false)) fun v187 =>
  gdK (wantd v187 true) (fun k W => k v36 W) (fun v189 W =>
  gdK (wantd v187 true) (fun k W => rdK PR (Instr.loadAt T_api_Dot v4) k W) (fun v190 W =>
  gdK (wantd v187 true) (fun k W => callK PR F_inst_Table_Rec [v189, v190] k W) (fun v191 W =>
  gdK (wantd v187 true) (fun k W => okF (fldV false 0 1 v191) fun v => k v W) (fun v192 W =>
  gdK (wantd v187 true) (fun k W => okF (binP .eql v192 (.int .i64 3)) fun v => k v W) (fun v193 W =>
  okF (pickP v187 v193 (.bool false)) fun v194 =>
  gdK (wantd v194 true) (fun k W => k v130 W) (fun v196 W =>
  gdK (wantd v194 true) (fun k W => okF (binP .eql v196 (.int .i64 5)) fun v => k v W) (fun v197 W =>
  okF (pickP v194 v197 (.bool false)) fun v198 =>
  gdK (wantd v198 true) (fun k W => k v65 W) (fun v200 W =>
  gdK (wantd v198 true) (fun k W => callK PR F_lead_Lead_Phase [v200] k W) (fun v201 W =>
  gdK (wantd v198 true) (fun k W => okF (binP .eql v201 (.int .i64 1)) fun v => k v W) (fun v202 W =>
  okF (pickP v198 v202 (.bool false)) fun v203 =>
  gdK (wantd v203 true) (fun k W => k v65 W) (fun v205 W =>
  gdK (wantd v203 true) (fun k W => callK PR F_lead_Lead_Slow [v205] k W) (fun v206 W =>
  gdK (wantd v203 true) (fun k W => okF (unP .not v206) fun v => k v W) (fun v207 W =>
  okF (pickP v203 v207 (.bool false)) fun v208 =>
  R v208 W) W) W) W) W) W) W) W) W) W) W) W) W) W) W) W) W) W) W) W) W) W) W) W) W) W) W) W) W) W) W) W) W) W) W) W) W) W) W) W) W) W) W) W) W) W) W) W) W) W) W)) W) W) W) W) W) W) W) W) W) W) W) W) W) W) W) W) W) W) W) W)) W) W) W) W) W) W) W) W) W) W) W) W) W) W) W) W) W) W) W) W) W) W) W) W) W)) W
def S.rostrumlaw21_LeadKnown.hint : Hint := (.two .nil (.two (.two .nil (.two (.two .nil .nil) .nil)) (.two .nil (.two .nil (.two .nil (.two .nil (.two .nil (.two .nil (.two .nil (.two (.two .nil (.two (.two .nil .nil) .nil)) (.two .nil (.two .nil (.two .nil (.two .nil (.two .nil (.two .nil (.two .nil (.two (.two .nil (.two (.two .nil .nil) .nil)) (.two .nil (.two .nil (.two .nil (.two .nil .nil))))))))))))))))))))))
theorem S.rostrumlaw21_LeadKnown.ok (R : Value → World → Prop) (W : World) : bodyK PR CB Try.f6 S.rostrumlaw21_LeadKnown.hint [] R W = S.rostrumlaw21_LeadKnown.body R  W := by kernel_rfl
theorem S.rostrumlaw21_LeadKnown.fn : PR.funcs[F_rostrumlaw21_LeadKnown]? = some Try.f6 := by kernel_rfl
theorem S.rostrumlaw21_LeadKnown.call {R : Value → World → Prop} {W : World} (h : S.rostrumlaw21_LeadKnown.body R  W) : callK PR F_rostrumlaw21_LeadKnown [] R W :=
  callK_of_body (g := F_rostrumlaw21_LeadKnown) (fn := Try.f6) (args := []) (R := R) (w := W) mixed CBok S.rostrumlaw21_LeadKnown.fn S.rostrumlaw21_LeadKnown.hint (by rw [S.rostrumlaw21_LeadKnown.ok]; exact h)
/-! ### rostrum/rostrumlaw21.LeadTwo (7) -/
def S.rostrumlaw21_LeadTwo.j4 (R : Value → World → Prop) (x24 : Value) (W : World) : Prop :=
  okF (addrF 0 x24) fun v247 =>
  rdK PR (Instr.loadAt T_int v247) (fun v248 W =>
  okF (binP .neq v248 (.int .i64 3)) fun v249 =>
  gdK (wantd v249 false) (fun k W => okF (addrF 1 x24) fun v => k v W) (fun v251 W =>
  gdK (wantd v249 false) (fun k W => rdK PR (Instr.loadAt T_s_uint8 v251) k W) (fun v252 W =>
  gdK (wantd v249 false) (fun k W => rdK PR (convert T_s_uint8 T_string v252) k W) (fun v253 W =>
  gdK (wantd v249 false) (fun k W => okF (binP .eql v253 (.string ⟨#[120]⟩)) fun v => k v W) (fun v254 W =>
  okF (pickP v249 (.bool true) v254) fun v255 =>
  gdK (wantd v255 false) (fun k W => okF (addrF 1 x24) fun v => k v W) (fun v257 W =>
  gdK (wantd v255 false) (fun k W => rdK PR (Instr.loadAt T_s_uint8 v257) k W) (fun v258 W =>
  gdK (wantd v255 false) (fun k W => okF (lenP (.slice T_uint8) v258) fun v => k v W) (fun v259 W =>
  gdK (wantd v255 false) (fun k W => okF (binP .eql v259 (.int .i64 0)) fun v => k v W) (fun v260 W =>
  okF (pickP v255 (.bool true) v260) fun v261 =>
  R v261 W) W) W) W) W) W) W) W) W) W
def S.rostrumlaw21_LeadTwo.j5 (K1 : List Value → World → Prop) (x0 x9 x11 x24 x25 : Value) (W : World) : Prop :=
  okF (binP .add x25 (.int .i64 1)) fun v211 =>
  K1 [x0, x9, x11, x24, v211] W
def S.rostrumlaw21_LeadTwo.j6 (R : Value → World → Prop) (J5 : List Value → World → Prop) (x0 x9 x11 x24 x25 x26 : Value) (W : World) : Prop :=
  okF (addrF 0 x26) fun v217 =>
  rdK PR (Instr.loadAt T_int v217) (fun v218 W =>
  okF (binP .neq v218 (.int .i64 3)) fun v219 =>
  ifK v219 (
  J5 [x0, x9, x11, x24, x25] W) (
  okF (addrF 0 x24) fun v220 =>
  rdK PR (Instr.loadAt T_int v220) (fun v221 W =>
  okF (binP .eql v221 (.int .i64 3)) fun v222 =>
  gdK (wantd v222 true) (fun k W => okF (addrF 1 x24) fun v => k v W) (fun v224 W =>
  gdK (wantd v222 true) (fun k W => rdK PR (Instr.loadAt T_s_uint8 v224) k W) (fun v225 W =>
  gdK (wantd v222 true) (fun k W => rdK PR (convert T_s_uint8 T_string v225) k W) (fun v226 W =>
  gdK (wantd v222 true) (fun k W => okF (addrF 1 x26) fun v => k v W) (fun v227 W =>
  gdK (wantd v222 true) (fun k W => rdK PR (Instr.loadAt T_s_uint8 v227) k W) (fun v228 W =>
  gdK (wantd v222 true) (fun k W => rdK PR (convert T_s_uint8 T_string v228) k W) (fun v229 W =>
  gdK (wantd v222 true) (fun k W => okF (binP .neq v226 v229) fun v => k v W) (fun v230 W =>
  gdK (wantd v222 true) (fun k W => k v230 W) (fun v231 W =>
  gdK (wantd v231 false) (fun k W => okF (addrF 2 x24) fun v => k v W) (fun v232 W =>
  gdK (wantd v231 false) (fun k W => rdK PR (Instr.loadAt T_int64 v232) k W) (fun v233 W =>
  gdK (wantd v231 false) (fun k W => okF (addrF 2 x26) fun v => k v W) (fun v234 W =>
  gdK (wantd v231 false) (fun k W => rdK PR (Instr.loadAt T_int64 v234) k W) (fun v235 W =>
  gdK (wantd v231 false) (fun k W => okF (binP .neq v233 v235) fun v => k v W) (fun v236 W =>
  gdK (wantd v222 true) (fun k W => okF (pickP v231 (.bool true) v236) fun v => k v W) (fun v237 W =>
  gdK (wantd v222 true) (fun k W => k v237 W) (fun v238 W =>
  gdK (wantd v238 false) (fun k W => okF (addrF 3 x24) fun v => k v W) (fun v239 W =>
  gdK (wantd v238 false) (fun k W => rdK PR (Instr.loadAt T_vec_Vec v239) k W) (fun v240 W =>
  gdK (wantd v238 false) (fun k W => okF (addrF 3 x26) fun v => k v W) (fun v241 W =>
  gdK (wantd v238 false) (fun k W => rdK PR (Instr.loadAt T_vec_Vec v241) k W) (fun v242 W =>
  gdK (wantd v238 false) (fun k W => rdK PR (aggEq .neq T_vec_Vec v240 v242) k W) (fun v243 W =>
  gdK (wantd v222 true) (fun k W => okF (pickP v238 (.bool true) v243) fun v => k v W) (fun v244 W =>
  okF (pickP v222 v244 (.bool false)) fun v245 =>
  ifK v245 (
  R (.bool false) W) (
  rdK PR (Instr.loadAt T_inst_Rec x26) (fun v246 W =>
  efK PR (Instr.storeAt T_inst_Rec x24 v246) (fun _ W =>
  J5 [x0, x9, x11, x24, x25] W) W) W)) W) W) W) W) W) W) W) W) W) W) W) W) W) W) W) W) W) W) W) W) W) W)) W
def S.rostrumlaw21_LeadTwo.l1 (R : Value → World → Prop) (J4 : List Value → World → Prop) (K1 : List Value → World → Prop) (x0 x9 x11 x24 x25 : Value) (W : World) : Prop :=
  okF (binP .lss x25 x0) fun v209 =>
  ifK v209 (
  joinK (fun s W => S.rostrumlaw21_LeadTwo.j5 K1 (nthv s 0) (nthv s 1) (nthv s 2) (nthv s 3) (nthv s 4) W) (fun J5 =>
  joinK (fun s W => S.rostrumlaw21_LeadTwo.j6 R J5 (nthv s 0) (nthv s 1) (nthv s 2) (nthv s 3) (nthv s 4) (nthv s 5) W) (fun J6 =>
  okF (idxA 5 1 x9 x25) fun v213 =>
  rdK PR (Instr.loadAt T_p_inst_Table v213) (fun v214 W =>
  rdK PR (Instr.loadAt T_api_Dot x11) (fun v215 W =>
  (callK PR F_inst_Table_Rec [v214, v215] (fun v216 W =>
  efK PR (Instr.alloc T_inst_Rec true (.tuple #[])) (fun v26 W =>
  efK PR (Instr.storeAt T_inst_Rec v26 v216) (fun _ W =>
  J6 [x0, x9, x11, x24, x25, v26] W) W) W) W) ∧ (efK PR (Instr.alloc T_inst_Rec true (.tuple #[])) (fun v26_1 W =>
  stb PR [(3, true, (Instr.loadAt T_api_Dot x11), v215), (2, true, (Instr.loadAt T_p_inst_Table v213), v214)] (fun W =>
  callK PR F_inst_Table_Rec [v214, v215] (fun v216_1 W =>
  efK PR (Instr.storeAt T_inst_Rec v26_1 v216_1) (fun _ W =>
  J6 [x0, x9, x11, x24, x25, v26_1] W) W) W) W) W)) W) (tick W)))) (
  J4 [x24] W)
def S.rostrumlaw21_LeadTwo.j3 (R : Value → World → Prop) (x0 x9 x11 : Value) (W : World) : Prop :=
  okF (bldP (fun i => ([(0, 1), (1, 1), (2, 1), (3, 7), (10, 2), (12, 2)] : List (Nat × Nat))[i]?) [.int .i64 0, .slice none 0 0, .int .i64 0, .int .i64 0, .int .i64 0, .int .i64 0, .int .i64 0, .int .i64 0, .int .i64 0, .int .i64 0, .int .i64 0, .int .i64 0, .int .i64 0, .int .i64 0] []) fun v206 =>
  efK PR (Instr.alloc T_inst_Rec true (.tuple #[])) (fun v24 W =>
  efK PR (Instr.storeAt T_inst_Rec v24 v206) (fun _ W =>
  joinK (fun s W => S.rostrumlaw21_LeadTwo.j4 R (nthv s 0) W) (fun J4 =>
  loopK (fun K1 s W => S.rostrumlaw21_LeadTwo.l1 R J4 K1 (nthv s 0) (nthv s 1) (nthv s 2) (nthv s 3) (nthv s 4) W) [x0, x9, x11, v24, (.int .i64 0)] W)) W) W
def S.rostrumlaw21_LeadTwo.j7 (K2 : List Value → World → Prop) (x0 x1 x2 x3 x9 x11 x12 x14 x15 : Value) (W : World) : Prop :=
  okF (binP .add x15 (.int .i64 1)) fun v106 =>
  K2 [x0, x1, x2, x3, x9, x11, x12, x14, v106] W
def S.rostrumlaw21_LeadTwo.j8 (J7 : List Value → World → Prop) (x0 x1 x2 x3 x9 x11 x12 x14 x15 x17 x20 : Value) (W : World) : Prop :=
  rdK PR (Instr.loadAt T_inst_Answer x20) (fun v177 W =>
  callK PR F_lead_Lead_Got [x14, x17, v177] (fun v178 W =>
  J7 [x0, x1, x2, x3, x9, x11, x12, x14, x15] W) W) W
def S.rostrumlaw21_LeadTwo.j9 (J7 : List Value → World → Prop) (x0 x1 x2 x3 x9 x11 x12 x14 x15 x17 x22 : Value) (W : World) : Prop :=
  rdK PR (Instr.loadAt T_inst_Answer x22) (fun v204 W =>
  callK PR F_lead_Lead_Got [x12, x17, v204] (fun v205 W =>
  J7 [x0, x1, x2, x3, x9, x11, x12, x14, x15] W) W) W
def S.rostrumlaw21_LeadTwo.l2 (J3 : List Value → World → Prop) (K2 : List Value → World → Prop) (x0 x1 x2 x3 x9 x11 x12 x14 x15 : Value) (W : World) : Prop :=
  okF (lenP (.slice T_int) x3) fun v103 =>
  okF (binP .lss x15 v103) fun v104 =>
  ifK v104 (
  joinK (fun s W => S.rostrumlaw21_LeadTwo.j7 K2 (nthv s 0) (nthv s 1) (nthv s 2) (nthv s 3) (nthv s 4) (nthv s 5) (nthv s 6) (nthv s 7) (nthv s 8) W) (fun J7 =>
  okF (idxS 1 x3 x15) fun v109 =>
  rdK PR (Instr.loadAt T_int v109) (fun v110 W =>
  okF (binP .lss v110 (.int .i64 0)) fun v112 =>
  ifK v112 (
  J7 [x0, x1, x2, x3, x9, x11, x12, x14, x15] W) (
  okF (binP .quo v110 (.int .i64 4)) fun v114 =>
  okF (binP .rem v114 x0) fun v116 =>
  okF (binP .rem v110 (.int .i64 4)) fun v119 =>
  okF (binP .eql v119 (.int .i64 3)) fun v120 =>
  ifK v120 (
  callK PR F_lead_Lead_Slow [x12] (fun v122 W =>
  J7 [x0, x1, x2, x3, x9, x11, x12, x14, x15] W) W) (
  okF (binP .rem v110 (.int .i64 4)) fun v125 =>
  okF (binP .eql v125 (.int .i64 2)) fun v126 =>
  gdK (wantd v126 true) (fun k W => k x14 W) (fun v128 W =>
  gdK (wantd v126 true) (fun k W => okF (eqP (.pointer T_lead_Lead) .eql v128 (.pointer none)) fun v => k v W) (fun v129 W =>
  okF (pickP v126 v129 (.bool false)) fun v130 =>
  ifK v130 (
  rdK PR (Instr.loadAt T_api_Dot x11) (fun v134 W =>
  okF (idxA 5 1 x9 x2) fun v136 =>
  rdK PR (Instr.loadAt T_p_inst_Table v136) (fun v137 W =>
  callK PR F_lead_Recover [x0, x2, v134, v137] (fun v138 W =>
  okF (extP 0 v138) fun v139 =>
  okF (extP 1 v138) fun v140 =>
  okF (binP .eql v140 (.int .i64 0)) fun v142 =>
  gdK (wantd v142 true) (fun k W => k v139 W) (fun v144 W =>
  gdK (wantd v142 true) (fun k W => okF (eqP (.pointer T_lead_Lead) .neq v144 (.pointer none)) fun v => k v W) (fun v145 W =>
  okF (pickP v142 v145 (.bool false)) fun v146 =>
  ifK v146 (
  J7 [x0, x1, x2, x3, x9, x11, x12, v139, x15] W) (
  J7 [x0, x1, x2, x3, x9, x11, x12, x14, x15] W)) W) W) W) W) (tick W)) (
  okF (binP .rem v110 (.int .i64 4)) fun v150 =>
  okF (binP .eql v150 (.int .i64 1)) fun v151 =>
  gdK (wantd v151 true) (fun k W => k x14 W) (fun v153 W =>
  gdK (wantd v151 true) (fun k W => okF (eqP (.pointer T_lead_Lead) .neq v153 (.pointer none)) fun v => k v W) (fun v154 W =>
  okF (pickP v151 v154 (.bool false)) fun v155 =>
  gdK (wantd v155 true) (fun k W => k v116 W) (fun v157 W =>
  gdK (wantd v155 true) (fun k W => k x2 W) (fun v158 W =>
  gdK (wantd v155 true) (fun k W => okF (binP .neq v157 v158) fun v => k v W) (fun v159 W =>
  okF (pickP v155 v159 (.bool false)) fun v160 =>
  gdK (wantd v160 true) (fun k W => k x14 W) (fun v162 W =>
  gdK (wantd v160 true) (fun k W => callK PR F_lead_Lead_Phase [v162] k W) (fun v163 W =>
  gdK (wantd v160 true) (fun k W => okF (binP .neq v163 (.int .i64 5)) fun v => k v W) (fun v164 W =>
  okF (pickP v160 v164 (.bool false)) fun v165 =>
  ifK v165 (
  joinK (fun s W => S.rostrumlaw21_LeadTwo.j8 J7 (nthv s 0) (nthv s 1) (nthv s 2) (nthv s 3) (nthv s 4) (nthv s 5) (nthv s 6) (nthv s 7) (nthv s 8) (nthv s 9) (nthv s 10) W) (fun J8 =>
  okF (idxA 5 1 x9 v116) fun v168 =>
  rdK PR (Instr.loadAt T_p_inst_Table v168) (fun v169 W =>
  (callK PR F_lead_Lead_Msg [x14] (fun v171 W =>
  stb PR [(2, true, (Instr.loadAt T_p_inst_Table v168), v169)] (fun W =>
  (callK PR F_inst_Table_Do [v169, v171] (fun v172 W =>
  okF (extP 0 v172) fun v173 =>
  okF (extP 1 v172) fun v174 =>
  efK PR (Instr.alloc T_inst_Answer true (.tuple #[])) (fun v20 W =>
  efK PR (Instr.storeAt T_inst_Answer v20 v173) (fun _ W =>
  J8 [x0, x1, x2, x3, x9, x11, x12, x14, x15, v116, v20] W) W) W) W) ∧ (efK PR (Instr.alloc T_inst_Answer true (.tuple #[])) (fun v20_1 W =>
  stb PR [(2, true, (Instr.loadAt T_p_inst_Table v168), v169)] (fun W =>
  callK PR F_inst_Table_Do [v169, v171] (fun v172_1 W =>
  okF (extP 0 v172_1) fun v173_1 =>
  okF (extP 1 v172_1) fun v174_1 =>
  efK PR (Instr.storeAt T_inst_Answer v20_1 v173_1) (fun _ W =>
  J8 [x0, x1, x2, x3, x9, x11, x12, x14, x15, v116, v20_1] W) W) W) W) W)) W) W) ∧ (efK PR (Instr.alloc T_inst_Answer true (.tuple #[])) (fun v20_2 W =>
  stb PR [(2, true, (Instr.loadAt T_p_inst_Table v168), v169)] (fun W =>
  callK PR F_lead_Lead_Msg [x14] (fun v171_1 W =>
  stb PR [(2, true, (Instr.loadAt T_p_inst_Table v168), v169)] (fun W =>
  callK PR F_inst_Table_Do [v169, v171_1] (fun v172_2 W =>
  okF (extP 0 v172_2) fun v173_2 =>
  okF (extP 1 v172_2) fun v174_2 =>
  efK PR (Instr.storeAt T_inst_Answer v20_2 v173_2) (fun _ W =>
  J8 [x0, x1, x2, x3, x9, x11, x12, x14, x15, v116, v20_2] W) W) W) W) W) W) W)) (tick W))) (
  okF (binP .rem v110 (.int .i64 4)) fun v181 =>
  okF (binP .eql v181 (.int .i64 0)) fun v182 =>
  gdK (wantd v182 true) (fun k W => k v116 W) (fun v184 W =>
  gdK (wantd v182 true) (fun k W => k x1 W) (fun v185 W =>
  gdK (wantd v182 true) (fun k W => okF (binP .neq v184 v185) fun v => k v W) (fun v186 W =>
  okF (pickP v182 v186 (.bool false)) fun v187 =>
  gdK (wantd v187 true) (fun k W => k x12 W) (fun v189 W =>
  gdK (wantd v187 true) (fun k W => callK PR F_lead_Lead_Phase [v189] k W) (fun v190 W =>
  gdK (wantd v187 true) (fun k W => okF (binP .neq v190 (.int .i64 5)) fun v => k v W) (fun v191 W =>
  okF (pickP v187 v191 (.bool false)) fun v192 =>
  ifK v192 (
  joinK (fun s W => S.rostrumlaw21_LeadTwo.j9 J7 (nthv s 0) (nthv s 1) (nthv s 2) (nthv s 3) (nthv s 4) (nthv s 5) (nthv s 6) (nthv s 7) (nthv s 8) (nthv s 9) (nthv s 10) W) (fun J9 =>
  okF (idxA 5 1 x9 v116) fun v195 =>
  rdK PR (Instr.loadAt T_p_inst_Table v195) (fun v196 W =>
  (callK PR F_lead_Lead_Msg [x12] (fun v198 W =>
  stb PR [(2, true, (Instr.loadAt T_p_inst_Table v195), v196)] (fun W =>
  (callK PR F_inst_Table_Do [v196, v198] (fun v199 W =>
  okF (extP 0 v199) fun v200 =>
  okF (extP 1 v199) fun v201 =>
  efK PR (Instr.alloc T_inst_Answer true (.tuple #[])) (fun v22 W =>
  efK PR (Instr.storeAt T_inst_Answer v22 v200) (fun _ W =>
  J9 [x0, x1, x2, x3, x9, x11, x12, x14, x15, v116, v22] W) W) W) W) ∧ (efK PR (Instr.alloc T_inst_Answer true (.tuple #[])) (fun v22_1 W =>
  stb PR [(2, true, (Instr.loadAt T_p_inst_Table v195), v196)] (fun W =>
  callK PR F_inst_Table_Do [v196, v198] (fun v199_1 W =>
  okF (extP 0 v199_1) fun v200_1 =>
  okF (extP 1 v199_1) fun v201_1 =>
  efK PR (Instr.storeAt T_inst_Answer v22_1 v200_1) (fun _ W =>
  J9 [x0, x1, x2, x3, x9, x11, x12, x14, x15, v116, v22_1] W) W) W) W) W)) W) W) ∧ (efK PR (Instr.alloc T_inst_Answer true (.tuple #[])) (fun v22_2 W =>
  stb PR [(2, true, (Instr.loadAt T_p_inst_Table v195), v196)] (fun W =>
  callK PR F_lead_Lead_Msg [x12] (fun v198_1 W =>
  stb PR [(2, true, (Instr.loadAt T_p_inst_Table v195), v196)] (fun W =>
  callK PR F_inst_Table_Do [v196, v198_1] (fun v199_2 W =>
  okF (extP 0 v199_2) fun v200_2 =>
  okF (extP 1 v199_2) fun v201_2 =>
  efK PR (Instr.storeAt T_inst_Answer v22_2 v200_2) (fun _ W =>
  J9 [x0, x1, x2, x3, x9, x11, x12, x14, x15, v116, v22_2] W) W) W) W) W) W) W)) (tick W))) (
  J7 [x0, x1, x2, x3, x9, x11, x12, x14, x15] W)) W) W) W) W) W) W)) W) W) W) W) W) W) W) W)) W) W))) W)) (
  J3 [x0, x9, x11] W)
def S.rostrumlaw21_LeadTwo.j2 (R : Value → World → Prop) (x0 x1 x2 x3 x9 x11 : Value) (W : World) : Prop :=
  rdK PR (Instr.loadAt T_api_Dot x11) (fun v86 W =>
  okF (idxA 5 1 x9 x1) fun v90 =>
  rdK PR (Instr.loadAt T_p_inst_Table v90) (fun v91 W =>
  efK PR (Instr.buildSlice T_s_uint8 1 #[(0, (.int .u8 120))]) (fun v87 W =>
  stb PR [(7, true, (Instr.loadAt T_p_inst_Table v90), v91), (2, true, (Instr.loadAt T_api_Dot x11), v86)] (fun W =>
  efK PR (convert T_s_uint8 T_s_uint8 v87) (fun v88 W =>
  stb PR [(7, true, (Instr.loadAt T_p_inst_Table v90), v91), (2, true, (Instr.loadAt T_api_Dot x11), v86)] (fun W =>
  callK PR F_lead_Propose [x0, x1, v86, v88, v91] (fun v92 W =>
  okF (extP 0 v92) fun v93 =>
  okF (extP 1 v92) fun v94 =>
  okF (binP .neq v94 (.int .i64 0)) fun v96 =>
  gdK (wantd v96 false) (fun k W => k v93 W) (fun v98 W =>
  gdK (wantd v96 false) (fun k W => okF (eqP (.pointer T_lead_Lead) .eql v98 (.pointer none)) fun v => k v W) (fun v99 W =>
  okF (pickP v96 (.bool true) v99) fun v100 =>
  ifK v100 (
  R (.bool false) W) (
  joinK (fun s W => S.rostrumlaw21_LeadTwo.j3 R (nthv s 0) (nthv s 1) (nthv s 2) W) (fun J3 =>
  loopK (fun K2 s W => S.rostrumlaw21_LeadTwo.l2 J3 K2 (nthv s 0) (nthv s 1) (nthv s 2) (nthv s 3) (nthv s 4) (nthv s 5) (nthv s 6) (nthv s 7) (nthv s 8) W) [x0, x1, x2, x3, x9, x11, v93, (.pointer none), (.int .i64 0)] W))) W) W) W) W) W) W) W) W) (tick W)
def S.rostrumlaw21_LeadTwo.j1 (R : Value → World → Prop) (x0 x1 x2 x3 x9 : Value) (W : World) : Prop :=
  okF (bldP (fun i => ([(0, 1), (1, 1)] : List (Nat × Nat))[i]?) [.int .i64 0, .int .i64 0] [(0, x1), (1, (.int .i64 1))]) fun v71 =>
  efK PR (Instr.alloc T_api_Dot true (.tuple #[])) (fun v11 W =>
  efK PR (Instr.storeAt T_api_Dot v11 v71) (fun _ W =>
  joinK (fun s W => S.rostrumlaw21_LeadTwo.j2 R (nthv s 0) (nthv s 1) (nthv s 2) (nthv s 3) (nthv s 4) (nthv s 5) W) (fun J2 =>
  okF (idxA 5 1 x9 x2) fun v73 =>
  rdK PR (Instr.loadAt T_p_inst_Table v73) (fun v74 W =>
  okF (bldP (fun i => ([(0, 1), (1, 1)] : List (Nat × Nat))[i]?) [.int .i64 0, .int .i64 0] [(0, x2), (1, (.int .i64 1))]) fun v76 =>
  (callK PR F_ballot_First [x2] (fun v78 W =>
  stb PR [(2, true, (Instr.loadAt T_p_inst_Table v73), v74)] (fun W =>
  efK PR (Instr.buildSlice T_s_uint8 5 #[(0, (.int .u8 111)), (1, (.int .u8 116)), (2, (.int .u8 104)), (3, (.int .u8 101)), (4, (.int .u8 114))]) (fun v79 W =>
  stb PR [(2, true, (Instr.loadAt T_p_inst_Table v73), v74)] (fun W =>
  efK PR (convert T_s_uint8 T_s_uint8 v79) (fun v80 W =>
  stb PR [(2, true, (Instr.loadAt T_p_inst_Table v73), v74)] (fun W =>
  okF (bldP (fun i => ([(0, 1), (1, 2), (3, 2), (5, 1), (6, 1), (7, 7)] : List (Nat × Nat))[i]?) [.int .i64 0, .int .i64 0, .int .i64 0, .int .i64 0, .int .i64 0, .slice none 0 0, .int .i64 0, .int .i64 0, .int .i64 0, .int .i64 0, .int .i64 0, .int .i64 0, .int .i64 0, .int .i64 0] [(0, (.int .i64 1)), (1, v76), (2, v78), (3, v80)]) fun v81 =>
  callK PR F_inst_Table_Do [v74, v81] (fun v82 W =>
  J2 [x0, x1, x2, x3, x9, v11] W) W) W) W) W) W) W) W) ∧ (efK PR (Instr.buildSlice T_s_uint8 5 #[(0, (.int .u8 111)), (1, (.int .u8 116)), (2, (.int .u8 104)), (3, (.int .u8 101)), (4, (.int .u8 114))]) (fun v79_1 W =>
  stb PR [(2, true, (Instr.loadAt T_p_inst_Table v73), v74)] (fun W =>
  (callK PR F_ballot_First [x2] (fun v78_1 W =>
  stb PR [(2, true, (Instr.loadAt T_p_inst_Table v73), v74)] (fun W =>
  efK PR (convert T_s_uint8 T_s_uint8 v79_1) (fun v80_1 W =>
  stb PR [(2, true, (Instr.loadAt T_p_inst_Table v73), v74)] (fun W =>
  okF (bldP (fun i => ([(0, 1), (1, 2), (3, 2), (5, 1), (6, 1), (7, 7)] : List (Nat × Nat))[i]?) [.int .i64 0, .int .i64 0, .int .i64 0, .int .i64 0, .int .i64 0, .slice none 0 0, .int .i64 0, .int .i64 0, .int .i64 0, .int .i64 0, .int .i64 0, .int .i64 0, .int .i64 0, .int .i64 0] [(0, (.int .i64 1)), (1, v76), (2, v78_1), (3, v80_1)]) fun v81_1 =>
  callK PR F_inst_Table_Do [v74, v81_1] (fun v82_1 W =>
  J2 [x0, x1, x2, x3, x9, v11] W) W) W) W) W) W) ∧ (efK PR (convert T_s_uint8 T_s_uint8 v79_1) (fun v80_2 W =>
  stb PR [(2, true, (Instr.loadAt T_p_inst_Table v73), v74)] (fun W =>
  callK PR F_ballot_First [x2] (fun v78_2 W =>
  stb PR [(2, true, (Instr.loadAt T_p_inst_Table v73), v74)] (fun W =>
  okF (bldP (fun i => ([(0, 1), (1, 2), (3, 2), (5, 1), (6, 1), (7, 7)] : List (Nat × Nat))[i]?) [.int .i64 0, .int .i64 0, .int .i64 0, .int .i64 0, .int .i64 0, .slice none 0 0, .int .i64 0, .int .i64 0, .int .i64 0, .int .i64 0, .int .i64 0, .int .i64 0, .int .i64 0, .int .i64 0] [(0, (.int .i64 1)), (1, v76), (2, v78_2), (3, v80_2)]) fun v81_2 =>
  callK PR F_inst_Table_Do [v74, v81_2] (fun v82_2 W =>
  J2 [x0, x1, x2, x3, x9, v11] W) W) W) W) W) W)) W) W)) (tick W))) W) W
def S.rostrumlaw21_LeadTwo.l3 (J1 : List Value → World → Prop) (K3 : List Value → World → Prop) (x0 x1 x2 x3 x9 x10 : Value) (W : World) : Prop :=
  okF (binP .lss x10 (.int .i64 5)) fun v64 =>
  ifK v64 (
  callK PR F_inst_New [] (fun v68 W =>
  okF (idxA 5 1 x9 x10) fun v69 =>
  efK PR (Instr.storeAt T_p_inst_Table v69 v68) (fun _ W =>
  okF (binP .add x10 (.int .i64 1)) fun v66 =>
  K3 [x0, x1, x2, x3, x9, v66] W) W) W) (
  J1 [x0, x1, x2, x3, x9] W)
def S.rostrumlaw21_LeadTwo.body (R : Value → World → Prop) (v0 v1 v2 v3 : Value) (W : World) : Prop :=
  callK PR F_rostrumlaw21_awake [] (fun v27 W =>
  okF (unP .not v27) fun v28 =>
  ifK v28 (
  R (.bool false) W) (
  okF (binP .lss v0 (.int .i64 3)) fun v30 =>
  gdK (wantd v30 false) (fun k W => k v0 W) (fun v32 W =>
  gdK (wantd v30 false) (fun k W => okF (binP .gtr v32 (.int .i64 5)) fun v => k v W) (fun v33 W =>
  okF (pickP v30 (.bool true) v33) fun v34 =>
  gdK (wantd v34 false) (fun k W => k v1 W) (fun v36 W =>
  gdK (wantd v34 false) (fun k W => okF (binP .lss v36 (.int .i64 0)) fun v => k v W) (fun v37 W =>
  okF (pickP v34 (.bool true) v37) fun v38 =>
  gdK (wantd v38 false) (fun k W => k v1 W) (fun v40 W =>
  gdK (wantd v38 false) (fun k W => k v0 W) (fun v41 W =>
  gdK (wantd v38 false) (fun k W => okF (binP .geq v40 v41) fun v => k v W) (fun v42 W =>
  okF (pickP v38 (.bool true) v42) fun v43 =>
  gdK (wantd v43 false) (fun k W => k v2 W) (fun v45 W =>
  gdK (wantd v43 false) (fun k W => okF (binP .lss v45 (.int .i64 0)) fun v => k v W) (fun v46 W =>
  okF (pickP v43 (.bool true) v46) fun v47 =>
  gdK (wantd v47 false) (fun k W => k v2 W) (fun v49 W =>
  gdK (wantd v47 false) (fun k W => k v0 W) (fun v50 W =>
  gdK (wantd v47 false) (fun k W => okF (binP .geq v49 v50) fun v => k v W) (fun v51 W =>
  okF (pickP v47 (.bool true) v51) fun v52 =>
  gdK (wantd v52 false) (fun k W => k v1 W) (fun v54 W =>
  gdK (wantd v52 false) (fun k W => k v2 W) (fun v55 W =>
  gdK (wantd v52 false) (fun k W => okF (binP .eql v54 v55) fun v => k v W) (fun v56 W =>
  okF (pickP v52 (.bool true) v56) fun v57 =>
  gdK (wantd v57 false) (fun k W => k v3 W) (fun v59 W =>
  gdK (wantd v57 false) (fun k W => okF (lenP (.slice T_int) v59) fun v => k v W) (fun v60 W =>
  gdK (wantd v57 false) (fun k W => okF (binP .gtr v60 (.int .i64 40)) fun v => k v W) (fun v61 W =>
  okF (pickP v57 (.bool true) v61) fun v62 =>
  ifK v62 (
  R (.bool true) W) (
  efK PR (Instr.alloc T_a5_p_inst_Table true (.tuple #[])) (fun v9 W =>
  joinK (fun s W => S.rostrumlaw21_LeadTwo.j1 R (nthv s 0) (nthv s 1) (nthv s 2) (nthv s 3) (nthv s 4) W) (fun J1 =>
  loopK (fun K3 s W => S.rostrumlaw21_LeadTwo.l3 J1 K3 (nthv s 0) (nthv s 1) (nthv s 2) (nthv s 3) (nthv s 4) (nthv s 5) W) [v0, v1, v2, v3, v9, (.int .i64 0)] W)) W)) W) W) W) W) W) W) W) W) W) W) W) W) W) W) W) W) W) W)) W
def S.rostrumlaw21_LeadTwo.hint : Hint := (.two .nil (.two (.two .nil (.two (.two .nil .nil) .nil)) (.two (.two .nil (.two (.two .nil .nil) .nil)) (.two .nil (.at [0, 1, 2, 3, 9] (.two .nil (.at [0, 1, 2, 3, 9, 10] (.two (.two .nil (.two .nil .nil)) (.two .nil .nil)) .nil)) (.two .nil (.at [0, 1, 2, 3, 9, 11] .nil (.two .nil (.two (.two .nil (.two (.two .nil .nil) .nil)) (.two .nil (.at [0, 9, 11] (.two .nil (.at [0, 1, 2, 3, 9, 11, 12, 14, 15] (.two (.two .nil (.two .nil .nil)) (.at [0, 1, 2, 3, 9, 11, 12, 14, 15] (.two .nil (.two (.two .nil (.two .nil .nil)) (.two .nil (.two .nil (.two .nil (.two .nil (.two (.two .nil (.two .nil (.two .nil .nil))) (.two .nil (.two (.at [0, 1, 2, 3, 9, 11, 12, 14, 15, 17, 20] .nil .nil) (.two .nil (.two (.at [0, 1, 2, 3, 9, 11, 12, 14, 15, 17, 22] .nil .nil) .nil))))))))))) .nil)) .nil)) (.two .nil (.at [24] (.two .nil (.at [0, 9, 11, 24, 25] (.two (.two .nil (.two .nil .nil)) (.at [0, 9, 11, 24, 25] (.at [0, 9, 11, 24, 25, 26] .nil (.two (.two .nil (.two .nil .nil)) (.two (.two .nil (.two (.two .nil .nil) .nil)) .nil))) .nil)) .nil)) (.two .nil .nil))))))))))))))
theorem S.rostrumlaw21_LeadTwo.ok (R : Value → World → Prop) (v0 v1 v2 v3 : Value) (W : World) : bodyK PR CB Try.f7 S.rostrumlaw21_LeadTwo.hint [v0, v1, v2, v3] R W = S.rostrumlaw21_LeadTwo.body R v0 v1 v2 v3 W := by kernel_rfl
theorem S.rostrumlaw21_LeadTwo.fn : PR.funcs[F_rostrumlaw21_LeadTwo]? = some Try.f7 := by kernel_rfl
theorem S.rostrumlaw21_LeadTwo.call {R : Value → World → Prop} {v0 v1 v2 v3 : Value} {W : World} (h : S.rostrumlaw21_LeadTwo.body R v0 v1 v2 v3 W) : callK PR F_rostrumlaw21_LeadTwo [v0, v1, v2, v3] R W :=
  callK_of_body (g := F_rostrumlaw21_LeadTwo) (fn := Try.f7) (args := [v0, v1, v2, v3]) (R := R) (w := W) mixed CBok S.rostrumlaw21_LeadTwo.fn S.rostrumlaw21_LeadTwo.hint (by rw [S.rostrumlaw21_LeadTwo.ok]; exact h)
/-! ### rostrum/rostrumlaw21.awake (8) -/
def S.rostrumlaw21_awake.body (R : Value → World → Prop) (W : World) : Prop :=
  callK PR F_inst_New [] (fun v13 W =>
  callK PR F_inst_New [] (fun v14 W =>
  callK PR F_inst_New [] (fun v15 W =>
  okF (bldP (fun i => ([(0, 1), (1, 1)] : List (Nat × Nat))[i]?) [.int .i64 0, .int .i64 0] [(1, (.int .i64 1))]) fun v17 =>
  efK PR (Instr.buildSlice T_s_uint8 1 #[(0, (.int .u8 120))]) (fun v18 W =>
  efK PR (convert T_s_uint8 T_s_uint8 v18) (fun v19 W =>
  callK PR F_lead_Propose [(.int .i64 3), (.int .i64 0), v17, v19, v13] (fun v21 W =>
  okF (extP 0 v21) fun v22 =>
  okF (extP 1 v21) fun v23 =>
  okF (binP .neq v23 (.int .i64 0)) fun v25 =>
  gdK (wantd v25 false) (fun k W => k v22 W) (fun v27 W =>
  gdK (wantd v25 false) (fun k W => okF (eqP (.pointer T_lead_Lead) .eql v27 (.pointer none)) fun v => k v W) (fun v28 W =>
  okF (pickP v25 (.bool true) v28) fun v29 =>
  gdK (wantd v29 false) (fun k W => k v14 W) (fun v31 W =>
  gdK (wantd v29 false) (fun k W => okF (eqP (.pointer T_inst_Table) .eql v31 (.pointer none)) fun v => k v W) (fun v32 W =>
  okF (pickP v29 (.bool true) v32) fun v33 =>
  gdK (wantd v33 false) (fun k W => k v15 W) (fun v35 W =>
  gdK (wantd v33 false) (fun k W => okF (eqP (.pointer T_inst_Table) .eql v35 (.pointer none)) fun v => k v W) (fun v36 W =>
  okF (pickP v33 (.bool true) v36) fun v37 =>
  ifK v37 (
  R (.bool false) W) (
  callK PR F_lead_Lead_Msg [v22] (fun v41 W =>
  callK PR F_inst_Table_Do [v14, v41] (fun v42 W =>
  okF (extP 0 v42) fun v43 =>
  okF (extP 1 v42) fun v44 =>
  efK PR (Instr.alloc T_inst_Answer true (.tuple #[])) (fun v6 W =>
  efK PR (Instr.storeAt T_inst_Answer v6 v43) (fun _ W =>
  callK PR F_lead_Lead_Msg [v22] (fun v48 W =>
  callK PR F_inst_Table_Do [v15, v48] (fun v49 W =>
  okF (extP 0 v49) fun v50 =>
  okF (extP 1 v49) fun v51 =>
  efK PR (Instr.alloc T_inst_Answer true (.tuple #[])) (fun v8 W =>
  efK PR (Instr.storeAt T_inst_Answer v8 v50) (fun _ W =>
  rdK PR (Instr.loadAt T_inst_Answer v6) (fun v53 W =>
  callK PR F_lead_Lead_Got [v22, (.int .i64 1), v53] (fun v54 W =>
  callK PR F_lead_Lead_Phase [v22] (fun v56 W =>
  rdK PR (Instr.loadAt T_inst_Answer v8) (fun v58 W =>
  callK PR F_lead_Lead_Got [v22, (.int .i64 2), v58] (fun v59 W =>
  gdK (wantd v54 true) (fun k W => k v56 W) (fun v62 W =>
  gdK (wantd v54 true) (fun k W => okF (binP .eql v62 (.int .i64 1)) fun v => k v W) (fun v63 W =>
  okF (pickP v54 v63 (.bool false)) fun v64 =>
  gdK (wantd v64 true) (fun k W => k v59 W) (fun v66 W =>
  okF (pickP v64 v66 (.bool false)) fun v67 =>
  gdK (wantd v67 true) (fun k W => k v22 W) (fun v69 W =>
  gdK (wantd v67 true) (fun k W => callK PR F_lead_Lead_Phase [v69] k W) (fun v70 W =>
  gdK (wantd v67 true) (fun k W => okF (binP .eql v70 (.int .i64 3)) fun v => k v W) (fun v71 W =>
  okF (pickP v67 v71 (.bool false)) fun v72 =>
  gdK (wantd v72 true) (fun k W => k v22 W) (fun v74 W =>
  gdK (wantd v72 true) (fun k W => callK PR F_lead_Lead_Fast [v74] k W) (fun v75 W =>
  okF (pickP v72 v75 (.bool false)) fun v76 =>
  gdK (wantd v76 true) (fun k W => k v22 W) (fun v78 W =>
  gdK (wantd v76 true) (fun k W => callK PR F_lead_Lead_Msg [v78] k W) (fun v79 W =>
  gdK (wantd v76 true) (fun k W => okF (fldV false 0 1 v79) fun v => k v W) (fun v80 W =>
  gdK (wantd v76 true) (fun k W => okF (binP .eql v80 (.int .i64 3)) fun v => k v W) (fun v81 W =>
  okF (pickP v76 v81 (.bool false)) fun v82 =>
  gdK (wantd v82 true) (fun k W => k v13 W) (fun v84 W =>
  gdK (wantd v82 true) (fun k W => okF (bldP (fun i => ([(0, 1), (1, 1)] : List (Nat × Nat))[i]?) [.int .i64 0, .int .i64 0] [(1, (.int .i64 1))]) fun v => k v W) (fun v85 W =>
  gdK (wantd v82 true) (fun k W => callK PR F_inst_Table_Rec [v84, v85] k W) (fun v86 W =>
  gdK (wantd v82 true) (fun k W => okF (fldV false 0 1 v86) fun v => k v W) (fun v87 W =>
  gdK (wantd v82 true) (fun k W => okF (binP .eql v87 (.int .i64 3)) fun v => k v W) (fun v88 W =>
  okF (pickP v82 v88 (.bool false)) fun v89 =>
  R v89 W) W) W) W) W) W) W) W) W) W) W) W) W) W) W) W) W) W) W) W) W) W) W) W) W) W) W) W) W) W) W)) W) W) W) W) W) W) W) W) W) W) W) W
def S.rostrumlaw21_awake.hint : Hint := (.two .nil (.two .nil (.two .nil (.two (.two .nil (.two (.two .nil .nil) .nil)) (.two .nil (.two .nil (.two .nil (.two .nil (.two .nil .nil)))))))))
theorem S.rostrumlaw21_awake.ok (R : Value → World → Prop) (W : World) : bodyK PR CB Try.f8 S.rostrumlaw21_awake.hint [] R W = S.rostrumlaw21_awake.body R  W := by kernel_rfl
theorem S.rostrumlaw21_awake.fn : PR.funcs[F_rostrumlaw21_awake]? = some Try.f8 := by kernel_rfl
theorem S.rostrumlaw21_awake.call {R : Value → World → Prop} {W : World} (h : S.rostrumlaw21_awake.body R  W) : callK PR F_rostrumlaw21_awake [] R W :=
  callK_of_body (g := F_rostrumlaw21_awake) (fn := Try.f8) (args := []) (R := R) (w := W) mixed CBok S.rostrumlaw21_awake.fn S.rostrumlaw21_awake.hint (by rw [S.rostrumlaw21_awake.ok]; exact h)
/-! ### rostrum/inst.New (9) -/
def S.inst_New.body (R : Value → World → Prop) (W : World) : Prop :=
  efK PR (Instr.makeMap T_m_api_Dot_inst_Rec none) (fun v1 W =>
  okF (bldP (fun i => ([(0, 1)] : List (Nat × Nat))[i]?) [.map none] [(0, v1)]) fun v2 =>
  efK PR (Instr.box T_inst_Table v2) (fun v3 W =>
  R v3 W) W) W
def S.inst_New.hint : Hint := (.two .nil (.two .nil .nil))
theorem S.inst_New.ok (R : Value → World → Prop) (W : World) : bodyK PR CB Try.f9 S.inst_New.hint [] R W = S.inst_New.body R  W := by kernel_rfl
theorem S.inst_New.fn : PR.funcs[F_inst_New]? = some Try.f9 := by kernel_rfl
theorem S.inst_New.call {R : Value → World → Prop} {W : World} (h : S.inst_New.body R  W) : callK PR F_inst_New [] R W :=
  callK_of_body (g := F_inst_New) (fn := Try.f9) (args := []) (R := R) (w := W) mixed CBok S.inst_New.fn S.inst_New.hint (by rw [S.inst_New.ok]; exact h)
/-! ### (*rostrum/inst.Table).Do (10) -/
def S.inst_Table_Do.j1 (R : Value → World → Prop) (x0 x3 x4 x6 : Value) (W : World) : Prop :=
  okF (nilP x0) fun v96 =>
  okF (addrF 0 v96) fun v97 =>
  rdK PR (Instr.loadAt T_m_api_Dot_inst_Rec v97) (fun v98 W =>
  okF (addrF 1 x3) fun v99 =>
  rdK PR (Instr.loadAt T_api_Dot v99) (fun v100 W =>
  rdK PR (Instr.loadAt T_inst_Rec x6) (fun v101 W =>
  efK PR (Instr.mapUpdate T_m_api_Dot_inst_Rec v98 v100 v101) (fun _ W =>
  okF (addrF 10 x6) fun v102 =>
  rdK PR (Instr.loadAt T_ballot_Ballot v102) (fun v103 W =>
  rdK PR (Instr.loadAt T_inst_Rec x6) (fun v104 W =>
  callK PR F_inst_copied [v104] (fun v105 W =>
  stb PR [(1, true, (Instr.loadAt T_ballot_Ballot v102), v103)] (fun W =>
  okF (bldP (fun i => ([(0, 1), (1, 2), (3, 14)] : List (Nat × Nat))[i]?) [.bool false, .int .i64 0, .int .i64 0, .int .i64 0, .slice none 0 0, .int .i64 0, .int .i64 0, .int .i64 0, .int .i64 0, .int .i64 0, .int .i64 0, .int .i64 0, .int .i64 0, .int .i64 0, .int .i64 0, .int .i64 0, .int .i64 0] [(0, (.bool true)), (1, v103), (2, v105)]) fun v106 =>
  efK PR (Instr.storeAt T_inst_Answer x4 v106) (fun _ W =>
  rdK PR (Instr.loadAt T_inst_Answer x4) (fun r0 W =>
  R (.tuple #[r0, (.int .i64 0)]) W) W) W) W) W) W) (tick W)) W) W) W) (tick W)
def S.inst_Table_Do.body (R : Value → World → Prop) (v0 v1 : Value) (W : World) : Prop :=
  efK PR (Instr.box T_inst_Msg v1) (fun v3 W =>
  efK PR (Instr.alloc T_inst_Answer true (.tuple #[])) (fun v4 W =>
  rdK PR (Instr.loadAt T_inst_Msg v3) (fun v12 W =>
  callK PR F_inst_May [v12] (fun v13 W =>
  okF (unP .not v13) fun v14 =>
  ifK v14 (
  okF (bldP (fun i => ([(0, 1), (1, 2), (3, 14)] : List (Nat × Nat))[i]?) [.bool false, .int .i64 0, .int .i64 0, .int .i64 0, .slice none 0 0, .int .i64 0, .int .i64 0, .int .i64 0, .int .i64 0, .int .i64 0, .int .i64 0, .int .i64 0, .int .i64 0, .int .i64 0, .int .i64 0, .int .i64 0, .int .i64 0] []) fun v15 =>
  efK PR (Instr.storeAt T_inst_Answer v4 v15) (fun _ W =>
  rdK PR (Instr.loadAt T_inst_Answer v4) (fun r0 W =>
  R (.tuple #[r0, (.int .i64 1)]) W) W) W) (
  okF (nilP v0) fun v17 =>
  okF (addrF 0 v17) fun v18 =>
  rdK PR (Instr.loadAt T_m_api_Dot_inst_Rec v18) (fun v19 W =>
  okF (addrF 1 v3) fun v20 =>
  rdK PR (Instr.loadAt T_api_Dot v20) (fun v21 W =>
  rdK PR (Instr.lookup T_m_api_Dot_inst_Rec v19 v21 false) (fun v22 W =>
  efK PR (Instr.alloc T_inst_Rec true (.tuple #[])) (fun v6 W =>
  stb PR [(6, true, (Instr.lookup T_m_api_Dot_inst_Rec v19 v21 false), v22), (5, true, (Instr.loadAt T_api_Dot v20), v21), (3, true, (Instr.loadAt T_m_api_Dot_inst_Rec v18), v19)] (fun W =>
  efK PR (Instr.storeAt T_inst_Rec v6 v22) (fun _ W =>
  rdK PR (Instr.loadAt T_inst_Msg v3) (fun v25 W =>
  rdK PR (Instr.loadAt T_inst_Rec v6) (fun v26 W =>
  callK PR F_inst_Table_old [v0, v25, v26] (fun v27 W =>
  okF (extP 0 v27) fun v28 =>
  okF (extP 1 v27) fun v29 =>
  efK PR (Instr.alloc T_inst_Answer true (.tuple #[])) (fun v7 W =>
  efK PR (Instr.storeAt T_inst_Answer v7 v28) (fun _ W =>
  ifK v29 (
  rdK PR (Instr.loadAt T_inst_Answer v7) (fun v31 W =>
  efK PR (Instr.storeAt T_inst_Answer v4 v31) (fun _ W =>
  rdK PR (Instr.loadAt T_inst_Answer v4) (fun r0 W =>
  R (.tuple #[r0, (.int .i64 0)]) W) W) W) W) (
  okF (addrF 5 v3) fun v32 =>
  rdK PR (Instr.loadAt T_s_uint8 v32) (fun v33 W =>
  callK PR F_bytes_Clone [v33] (fun v34 W =>
  joinK (fun s W => S.inst_Table_Do.j1 R (nthv s 0) (nthv s 1) (nthv s 2) (nthv s 3) W) (fun J1 =>
  okF (addrF 0 v3) fun v35 =>
  rdK PR (Instr.loadAt T_int v35) (fun v36 W =>
  okF (binP .eql v36 (.int .i64 1)) fun v41 =>
  ifK v41 (
  okF (addrF 1 v3) fun v44 =>
  rdK PR (Instr.loadAt T_api_Dot v44) (fun v45 W =>
  callK PR F_inst_Table_Would [v0, v45] (fun v46 W =>
  okF (extP 0 v46) fun v47 =>
  okF (extP 1 v46) fun v48 =>
  efK PR (Instr.alloc T_vec_Vec true (.tuple #[])) (fun v11 W =>
  efK PR (Instr.storeAt T_vec_Vec v11 v48) (fun _ W =>
  okF (addrF 6 v3) fun v50 =>
  rdK PR (Instr.loadAt T_int64 v50) (fun v51 W =>
  okF (foldP max2P [v51, v47]) fun v53 =>
  okF (addrF 7 v3) fun v54 =>
  rdK PR (Instr.loadAt T_vec_Vec v54) (fun v55 W =>
  rdK PR (Instr.loadAt T_vec_Vec v11) (fun v56 W =>
  okF (addrF 3 v3) fun v58 =>
  rdK PR (Instr.loadAt T_ballot_Ballot v58) (fun v59 W =>
  okF (addrF 3 v3) fun v60 =>
  rdK PR (Instr.loadAt T_ballot_Ballot v60) (fun v61 W =>
  callK PR F_vec_Merge [v55, v56] (fun v57 W =>
  stb PR [(12, true, (Instr.loadAt T_ballot_Ballot v60), v61), (10, true, (Instr.loadAt T_ballot_Ballot v58), v59), (2, true, (Instr.loadAt T_int64 v50), v51)] (fun W =>
  okF (bldP (fun i => ([(0, 1), (1, 1), (2, 1), (3, 7), (10, 2), (12, 2)] : List (Nat × Nat))[i]?) [.int .i64 0, .slice none 0 0, .int .i64 0, .int .i64 0, .int .i64 0, .int .i64 0, .int .i64 0, .int .i64 0, .int .i64 0, .int .i64 0, .int .i64 0, .int .i64 0, .int .i64 0, .int .i64 0] [(0, (.int .i64 1)), (1, v34), (2, v53), (3, v57), (4, v59), (5, v61)]) fun v62 =>
  efK PR (Instr.storeAt T_inst_Rec v6 v62) (fun _ W =>
  J1 [v0, v3, v4, v6] W) W) W) W) W) W) W) W) (tick W)) W) W) W) W) (
  okF (binP .eql v36 (.int .i64 2)) fun v64 =>
  ifK v64 (
  okF (addrF 6 v3) fun v66 =>
  rdK PR (Instr.loadAt T_int64 v66) (fun v67 W =>
  okF (addrF 7 v3) fun v68 =>
  rdK PR (Instr.loadAt T_vec_Vec v68) (fun v69 W =>
  okF (addrF 3 v3) fun v70 =>
  rdK PR (Instr.loadAt T_ballot_Ballot v70) (fun v71 W =>
  okF (addrF 3 v3) fun v72 =>
  rdK PR (Instr.loadAt T_ballot_Ballot v72) (fun v73 W =>
  okF (bldP (fun i => ([(0, 1), (1, 1), (2, 1), (3, 7), (10, 2), (12, 2)] : List (Nat × Nat))[i]?) [.int .i64 0, .slice none 0 0, .int .i64 0, .int .i64 0, .int .i64 0, .int .i64 0, .int .i64 0, .int .i64 0, .int .i64 0, .int .i64 0, .int .i64 0, .int .i64 0, .int .i64 0, .int .i64 0] [(0, (.int .i64 2)), (1, v34), (2, v67), (3, v69), (4, v71), (5, v73)]) fun v74 =>
  efK PR (Instr.storeAt T_inst_Rec v6 v74) (fun _ W =>
  J1 [v0, v3, v4, v6] W) W) W) W) W) W) (
  okF (binP .eql v36 (.int .i64 3)) fun v76 =>
  ifK v76 (
  okF (addrF 6 v3) fun v78 =>
  rdK PR (Instr.loadAt T_int64 v78) (fun v79 W =>
  okF (addrF 7 v3) fun v80 =>
  rdK PR (Instr.loadAt T_vec_Vec v80) (fun v81 W =>
  okF (addrF 3 v3) fun v82 =>
  rdK PR (Instr.loadAt T_ballot_Ballot v82) (fun v83 W =>
  okF (addrF 10 v6) fun v84 =>
  rdK PR (Instr.loadAt T_ballot_Ballot v84) (fun v85 W =>
  okF (addrF 3 v3) fun v88 =>
  rdK PR (Instr.loadAt T_ballot_Ballot v88) (fun v89 W =>
  okF (addrF 12 v6) fun v90 =>
  rdK PR (Instr.loadAt T_ballot_Ballot v90) (fun v91 W =>
  (efK PR (Instr.buildSlice T_s_ballot_Ballot 2 #[(0, v83), (1, v85)]) (fun v86 W =>
  stb PR [(14, true, (Instr.loadAt T_ballot_Ballot v90), v91), (12, true, (Instr.loadAt T_ballot_Ballot v88), v89), (4, true, (Instr.loadAt T_vec_Vec v80), v81), (2, true, (Instr.loadAt T_int64 v78), v79)] (fun W =>
  (callK PR F_ballot_Most [v86] (fun v87 W =>
  stb PR [(14, true, (Instr.loadAt T_ballot_Ballot v90), v91), (12, true, (Instr.loadAt T_ballot_Ballot v88), v89), (4, true, (Instr.loadAt T_vec_Vec v80), v81), (2, true, (Instr.loadAt T_int64 v78), v79)] (fun W =>
  efK PR (Instr.buildSlice T_s_ballot_Ballot 2 #[(0, v89), (1, v91)]) (fun v92 W =>
  stb PR [(4, true, (Instr.loadAt T_vec_Vec v80), v81), (2, true, (Instr.loadAt T_int64 v78), v79)] (fun W =>
  callK PR F_ballot_Most [v92] (fun v93 W =>
  stb PR [(4, true, (Instr.loadAt T_vec_Vec v80), v81), (2, true, (Instr.loadAt T_int64 v78), v79)] (fun W =>
  okF (bldP (fun i => ([(0, 1), (1, 1), (2, 1), (3, 7), (10, 2), (12, 2)] : List (Nat × Nat))[i]?) [.int .i64 0, .slice none 0 0, .int .i64 0, .int .i64 0, .int .i64 0, .int .i64 0, .int .i64 0, .int .i64 0, .int .i64 0, .int .i64 0, .int .i64 0, .int .i64 0, .int .i64 0, .int .i64 0] [(0, (.int .i64 3)), (1, v34), (2, v79), (3, v81), (4, v87), (5, v93)]) fun v94 =>
  efK PR (Instr.storeAt T_inst_Rec v6 v94) (fun _ W =>
  J1 [v0, v3, v4, v6] W) W) W) W) W) W) W) W) ∧ (efK PR (Instr.buildSlice T_s_ballot_Ballot 2 #[(0, v89), (1, v91)]) (fun v92_1 W =>
  stb PR [(4, true, (Instr.loadAt T_vec_Vec v80), v81), (2, true, (Instr.loadAt T_int64 v78), v79)] (fun W =>
  callK PR F_ballot_Most [v86] (fun v87_1 W =>
  stb PR [(4, true, (Instr.loadAt T_vec_Vec v80), v81), (2, true, (Instr.loadAt T_int64 v78), v79)] (fun W =>
  callK PR F_ballot_Most [v92_1] (fun v93_1 W =>
  stb PR [(4, true, (Instr.loadAt T_vec_Vec v80), v81), (2, true, (Instr.loadAt T_int64 v78), v79)] (fun W =>
  okF (bldP (fun i => ([(0, 1), (1, 1), (2, 1), (3, 7), (10, 2), (12, 2)] : List (Nat × Nat))[i]?) [.int .i64 0, .slice none 0 0, .int .i64 0, .int .i64 0, .int .i64 0, .int .i64 0, .int .i64 0, .int .i64 0, .int .i64 0, .int .i64 0, .int .i64 0, .int .i64 0, .int .i64 0, .int .i64 0] [(0, (.int .i64 3)), (1, v34), (2, v79), (3, v81), (4, v87_1), (5, v93_1)]) fun v94_1 =>
  efK PR (Instr.storeAt T_inst_Rec v6 v94_1) (fun _ W =>
  J1 [v0, v3, v4, v6] W) W) W) W) W) W) W) W)) W) W) ∧ (efK PR (Instr.buildSlice T_s_ballot_Ballot 2 #[(0, v89), (1, v91)]) (fun v92_2 W =>
  stb PR [(8, true, (Instr.loadAt T_ballot_Ballot v84), v85), (6, true, (Instr.loadAt T_ballot_Ballot v82), v83), (4, true, (Instr.loadAt T_vec_Vec v80), v81), (2, true, (Instr.loadAt T_int64 v78), v79)] (fun W =>
  efK PR (Instr.buildSlice T_s_ballot_Ballot 2 #[(0, v83), (1, v85)]) (fun v86_1 W =>
  stb PR [(4, true, (Instr.loadAt T_vec_Vec v80), v81), (2, true, (Instr.loadAt T_int64 v78), v79)] (fun W =>
  callK PR F_ballot_Most [v86_1] (fun v87_2 W =>
  stb PR [(4, true, (Instr.loadAt T_vec_Vec v80), v81), (2, true, (Instr.loadAt T_int64 v78), v79)] (fun W =>
  callK PR F_ballot_Most [v92_2] (fun v93_2 W =>
  stb PR [(4, true, (Instr.loadAt T_vec_Vec v80), v81), (2, true, (Instr.loadAt T_int64 v78), v79)] (fun W =>
  okF (bldP (fun i => ([(0, 1), (1, 1), (2, 1), (3, 7), (10, 2), (12, 2)] : List (Nat × Nat))[i]?) [.int .i64 0, .slice none 0 0, .int .i64 0, .int .i64 0, .int .i64 0, .int .i64 0, .int .i64 0, .int .i64 0, .int .i64 0, .int .i64 0, .int .i64 0, .int .i64 0, .int .i64 0, .int .i64 0] [(0, (.int .i64 3)), (1, v34), (2, v79), (3, v81), (4, v87_2), (5, v93_2)]) fun v94_2 =>
  efK PR (Instr.storeAt T_inst_Rec v6 v94_2) (fun _ W =>
  J1 [v0, v3, v4, v6] W) W) W) W) W) W) W) W) W) W)) W) W) W) W) W) (tick W)) (
  okF (addrF 3 v3) fun v37 =>
  rdK PR (Instr.loadAt T_ballot_Ballot v37) (fun v38 W =>
  okF (addrF 10 v6) fun v39 =>
  efK PR (Instr.storeAt T_ballot_Ballot v39 v38) (fun _ W =>
  J1 [v0, v3, v4, v6] W) W) W)))) W)) W) W)) W) W) W) W) W) W) W) W) W) W) (tick W))) W) W) W) W
def S.inst_Table_Do.hint : Hint := (.two .nil (.two (.two .nil (.two (.two .nil .nil) .nil)) (.two .nil (.two (.two .nil (.two .nil (.two (.two .nil .nil) .nil))) (.two .nil (.at [0, 3, 4, 6] (.two .nil (.two .nil (.two (.two .nil .nil) (.two .nil (.two .nil (.two .nil (.two .nil .nil))))))) (.two .nil (.two .nil .nil))))))))
theorem S.inst_Table_Do.ok (R : Value → World → Prop) (v0 v1 : Value) (W : World) : bodyK PR CB Try.f10 S.inst_Table_Do.hint [v0, v1] R W = S.inst_Table_Do.body R v0 v1 W := by kernel_rfl
theorem S.inst_Table_Do.fn : PR.funcs[F_inst_Table_Do]? = some Try.f10 := by kernel_rfl
theorem S.inst_Table_Do.call {R : Value → World → Prop} {v0 v1 : Value} {W : World} (h : S.inst_Table_Do.body R v0 v1 W) : callK PR F_inst_Table_Do [v0, v1] R W :=
  callK_of_body (g := F_inst_Table_Do) (fn := Try.f10) (args := [v0, v1]) (R := R) (w := W) mixed CBok S.inst_Table_Do.fn S.inst_Table_Do.hint (by rw [S.inst_Table_Do.ok]; exact h)
/-! ### rostrum/ballot.First (11) -/
def S.ballot_First.body (R : Value → World → Prop) (v0 : Value) (W : World) : Prop :=
  efK PR (Instr.alloc T_ballot_Ballot true (.tuple #[])) (fun v2 W =>
  okF (bldP (fun i => ([(0, 1), (1, 1)] : List (Nat × Nat))[i]?) [.int .i64 0, .int .i64 0] [(1, v0)]) fun v4 =>
  efK PR (Instr.storeAt T_ballot_Ballot v2 v4) (fun _ W =>
  rdK PR (Instr.loadAt T_ballot_Ballot v2) (fun r0 W =>
  R r0 W) W) W) W
def S.ballot_First.hint : Hint := (.two .nil (.two .nil .nil))
theorem S.ballot_First.ok (R : Value → World → Prop) (v0 : Value) (W : World) : bodyK PR CB Try.f11 S.ballot_First.hint [v0] R W = S.ballot_First.body R v0 W := by kernel_rfl
theorem S.ballot_First.fn : PR.funcs[F_ballot_First]? = some Try.f11 := by kernel_rfl
theorem S.ballot_First.call {R : Value → World → Prop} {v0 : Value} {W : World} (h : S.ballot_First.body R v0 W) : callK PR F_ballot_First [v0] R W :=
  callK_of_body (g := F_ballot_First) (fn := Try.f11) (args := [v0]) (R := R) (w := W) mixed CBok S.ballot_First.fn S.ballot_First.hint (by rw [S.ballot_First.ok]; exact h)
/-! ### rostrum/lead.Propose (12) -/
def S.lead_Propose.j1 (R : Value → World → Prop) (x0 x1 x4 x7 x12 : Value) (W : World) : Prop :=
  callK PR F_lead_good [x0, x1] (fun v23 W =>
  okF (unP .not v23) fun v24 =>
  gdK (wantd v24 false) (fun k W => okF (addrF 0 x7) fun v => k v W) (fun v26 W =>
  gdK (wantd v24 false) (fun k W => rdK PR (Instr.loadAt T_int v26) k W) (fun v27 W =>
  gdK (wantd v24 false) (fun k W => k x1 W) (fun v28 W =>
  gdK (wantd v24 false) (fun k W => okF (binP .neq v27 v28) fun v => k v W) (fun v29 W =>
  okF (pickP v24 (.bool true) v29) fun v30 =>
  gdK (wantd v30 false) (fun k W => rdK PR (Instr.loadAt T_inst_Msg x12) k W) (fun v32 W =>
  gdK (wantd v30 false) (fun k W => callK PR F_inst_May [v32] k W) (fun v33 W =>
  gdK (wantd v30 false) (fun k W => okF (unP .not v33) fun v => k v W) (fun v34 W =>
  okF (pickP v30 (.bool true) v34) fun v35 =>
  ifK v35 (
  R (.tuple #[(.pointer none), (.int .i64 1)]) W) (
  rdK PR (Instr.loadAt T_api_Dot x7) (fun v37 W =>
  callK PR F_inst_Table_Rec [x4, v37] (fun v38 W =>
  efK PR (Instr.alloc T_inst_Rec true (.tuple #[])) (fun v13 W =>
  efK PR (Instr.storeAt T_inst_Rec v13 v38) (fun _ W =>
  okF (addrF 0 v13) fun v39 =>
  rdK PR (Instr.loadAt T_int v39) (fun v40 W =>
  okF (binP .gtr v40 (.int .i64 0)) fun v41 =>
  gdK (wantd v41 false) (fun k W => okF (addrF 10 v13) fun v => k v W) (fun v43 W =>
  gdK (wantd v41 false) (fun k W => rdK PR (Instr.loadAt T_ballot_Ballot v43) k W) (fun v44 W =>
  gdK (wantd v41 false) (fun k W => okF (bldP (fun i => ([(0, 1), (1, 1)] : List (Nat × Nat))[i]?) [.int .i64 0, .int .i64 0] []) fun v => k v W) (fun v45 W =>
  gdK (wantd v41 false) (fun k W => rdK PR (aggEq .neq T_ballot_Ballot v44 v45) k W) (fun v46 W =>
  okF (pickP v41 (.bool true) v46) fun v47 =>
  ifK v47 (
  R (.tuple #[(.pointer none), (.int .i64 5)]) W) (
  okF (bldP (fun i => ([(0, 1), (1, 1), (2, 1), (3, 14), (17, 1), (18, 1), (19, 1), (20, 7), (27, 14)] : List (Nat × Nat))[i]?) [.int .i64 0, .int .i64 0, .pointer none, .int .i64 0, .int .i64 0, .int .i64 0, .int .i64 0, .int .i64 0, .slice none 0 0, .int .i64 0, .int .i64 0, .int .i64 0, .int .i64 0, .int .i64 0, .int .i64 0, .int .i64 0, .int .i64 0, .int .i64 0, .bool false, .bool false, .pointer none, .pointer none, .pointer none, .pointer none, .pointer none, .pointer none, .pointer none, .int .i64 0, .slice none 0 0, .int .i64 0, .int .i64 0, .int .i64 0, .int .i64 0, .int .i64 0, .int .i64 0, .int .i64 0, .int .i64 0, .int .i64 0, .int .i64 0, .int .i64 0, .int .i64 0] [(0, x0), (1, x1), (2, x4)]) fun v51 =>
  efK PR (Instr.box T_lead_Lead v51) (fun v52 W =>
  rdK PR (Instr.loadAt T_inst_Msg x12) (fun v54 W =>
  callK PR F_lead_Lead_begin [v52, (.int .i64 1), v54] (fun v55 W =>
  R (.tuple #[v52, (.int .i64 0)]) W) W) W) W)) W) W) W) W) W) W) W) W) W)) W) W) W) W) W) W) W) W
def S.lead_Propose.body (R : Value → World → Prop) (v0 v1 v2 v3 v4 : Value) (W : World) : Prop :=
  efK PR (Instr.box T_api_Dot v2) (fun v7 W =>
  joinK (fun s W => S.lead_Propose.j1 R (nthv s 0) (nthv s 1) (nthv s 2) (nthv s 3) (nthv s 4) W) (fun J1 =>
  rdK PR (Instr.loadAt T_api_Dot v7) (fun v15 W =>
  (callK PR F_ballot_First [v1] (fun v17 W =>
  stb PR [(0, true, (Instr.loadAt T_api_Dot v7), v15)] (fun W =>
  (callK PR F_bytes_Clone [v3] (fun v19 W =>
  stb PR [(0, true, (Instr.loadAt T_api_Dot v7), v15)] (fun W =>
  okF (bldP (fun i => ([(0, 1), (1, 2), (3, 2), (5, 1), (6, 1), (7, 7)] : List (Nat × Nat))[i]?) [.int .i64 0, .int .i64 0, .int .i64 0, .int .i64 0, .int .i64 0, .slice none 0 0, .int .i64 0, .int .i64 0, .int .i64 0, .int .i64 0, .int .i64 0, .int .i64 0, .int .i64 0, .int .i64 0] [(0, (.int .i64 1)), (1, v15), (2, v17), (3, v19)]) fun v20 =>
  efK PR (Instr.alloc T_inst_Msg true (.tuple #[])) (fun v12 W =>
  stb PR [(0, true, (Instr.loadAt T_api_Dot v7), v15)] (fun W =>
  efK PR (Instr.storeAt T_inst_Msg v12 v20) (fun _ W =>
  J1 [v0, v1, v4, v7, v12] W) W) W) W) W) W) ∧ (efK PR (Instr.alloc T_inst_Msg true (.tuple #[])) (fun v12_1 W =>
  stb PR [(0, true, (Instr.loadAt T_api_Dot v7), v15)] (fun W =>
  callK PR F_bytes_Clone [v3] (fun v19_1 W =>
  stb PR [(0, true, (Instr.loadAt T_api_Dot v7), v15)] (fun W =>
  okF (bldP (fun i => ([(0, 1), (1, 2), (3, 2), (5, 1), (6, 1), (7, 7)] : List (Nat × Nat))[i]?) [.int .i64 0, .int .i64 0, .int .i64 0, .int .i64 0, .int .i64 0, .slice none 0 0, .int .i64 0, .int .i64 0, .int .i64 0, .int .i64 0, .int .i64 0, .int .i64 0, .int .i64 0, .int .i64 0] [(0, (.int .i64 1)), (1, v15), (2, v17), (3, v19_1)]) fun v20_1 =>
  efK PR (Instr.storeAt T_inst_Msg v12_1 v20_1) (fun _ W =>
  J1 [v0, v1, v4, v7, v12_1] W) W) W) W) W) W)) W) W) ∧ (efK PR (Instr.alloc T_inst_Msg true (.tuple #[])) (fun v12_2 W =>
  stb PR [(0, true, (Instr.loadAt T_api_Dot v7), v15)] (fun W =>
  callK PR F_ballot_First [v1] (fun v17_1 W =>
  stb PR [(0, true, (Instr.loadAt T_api_Dot v7), v15)] (fun W =>
  callK PR F_bytes_Clone [v3] (fun v19_2 W =>
  stb PR [(0, true, (Instr.loadAt T_api_Dot v7), v15)] (fun W =>
  okF (bldP (fun i => ([(0, 1), (1, 2), (3, 2), (5, 1), (6, 1), (7, 7)] : List (Nat × Nat))[i]?) [.int .i64 0, .int .i64 0, .int .i64 0, .int .i64 0, .int .i64 0, .slice none 0 0, .int .i64 0, .int .i64 0, .int .i64 0, .int .i64 0, .int .i64 0, .int .i64 0, .int .i64 0, .int .i64 0] [(0, (.int .i64 1)), (1, v15), (2, v17_1), (3, v19_2)]) fun v20_2 =>
  efK PR (Instr.storeAt T_inst_Msg v12_2 v20_2) (fun _ W =>
  J1 [v0, v1, v4, v7, v12_2] W) W) W) W) W) W) W) W)) (tick W))) W
def S.lead_Propose.hint : Hint := (.two .nil (.at [0, 1, 4, 7, 12] .nil (.two (.two .nil (.two (.two .nil .nil) .nil)) (.two (.two .nil (.two .nil (.two (.two .nil .nil) .nil))) (.two .nil (.two .nil (.two .nil .nil)))))))
theorem S.lead_Propose.ok (R : Value → World → Prop) (v0 v1 v2 v3 v4 : Value) (W : World) : bodyK PR CB Try.f12 S.lead_Propose.hint [v0, v1, v2, v3, v4] R W = S.lead_Propose.body R v0 v1 v2 v3 v4 W := by kernel_rfl
theorem S.lead_Propose.fn : PR.funcs[F_lead_Propose]? = some Try.f12 := by kernel_rfl
theorem S.lead_Propose.call {R : Value → World → Prop} {v0 v1 v2 v3 v4 : Value} {W : World} (h : S.lead_Propose.body R v0 v1 v2 v3 v4 W) : callK PR F_lead_Propose [v0, v1, v2, v3, v4] R W :=
  callK_of_body (g := F_lead_Propose) (fn := Try.f12) (args := [v0, v1, v2, v3, v4]) (R := R) (w := W) mixed CBok S.lead_Propose.fn S.lead_Propose.hint (by rw [S.lead_Propose.ok]; exact h)
/-! ### (*rostrum/lead.Lead).Msg (13) -/
def S.lead_Lead_Msg.body (R : Value → World → Prop) (v0 : Value) (W : World) : Prop :=
  efK PR (Instr.alloc T_inst_Msg true (.tuple #[])) (fun v2 W =>
  okF (nilP v0) fun v5 =>
  okF (addrF 17 v5) fun v6 =>
  rdK PR (Instr.loadAt T_int v6) (fun v7 W =>
  okF (binP .eql v7 (.int .i64 5)) fun v8 =>
  ifK v8 (
  okF (bldP (fun i => ([(0, 1), (1, 2), (3, 2), (5, 1), (6, 1), (7, 7)] : List (Nat × Nat))[i]?) [.int .i64 0, .int .i64 0, .int .i64 0, .int .i64 0, .int .i64 0, .slice none 0 0, .int .i64 0, .int .i64 0, .int .i64 0, .int .i64 0, .int .i64 0, .int .i64 0, .int .i64 0, .int .i64 0] []) fun v9 =>
  efK PR (Instr.storeAt T_inst_Msg v2 v9) (fun _ W =>
  rdK PR (Instr.loadAt T_inst_Msg v2) (fun r0 W =>
  R r0 W) W) W) (
  okF (nilP v0) fun v11 =>
  okF (addrF 3 v11) fun v12 =>
  rdK PR (Instr.loadAt T_inst_Msg v12) (fun v13 W =>
  efK PR (Instr.alloc T_inst_Msg true (.tuple #[])) (fun v3 W =>
  efK PR (Instr.storeAt T_inst_Msg v3 v13) (fun _ W =>
  okF (addrF 5 v3) fun v14 =>
  rdK PR (Instr.loadAt T_s_uint8 v14) (fun v15 W =>
  callK PR F_bytes_Clone [v15] (fun v16 W =>
  okF (addrF 5 v3) fun v17 =>
  efK PR (Instr.storeAt T_s_uint8 v17 v16) (fun _ W =>
  rdK PR (Instr.loadAt T_inst_Msg v3) (fun v18 W =>
  efK PR (Instr.storeAt T_inst_Msg v2 v18) (fun _ W =>
  rdK PR (Instr.loadAt T_inst_Msg v2) (fun r0 W =>
  R r0 W) W) W) W) W) W) W) W) W) W)) W) W
def S.lead_Lead_Msg.hint : Hint := (.two .nil (.two (.two .nil (.two (.two .nil .nil) .nil)) (.two .nil (.two .nil (.two .nil .nil)))))
theorem S.lead_Lead_Msg.ok (R : Value → World → Prop) (v0 : Value) (W : World) : bodyK PR CB Try.f13 S.lead_Lead_Msg.hint [v0] R W = S.lead_Lead_Msg.body R v0 W := by kernel_rfl
theorem S.lead_Lead_Msg.fn : PR.funcs[F_lead_Lead_Msg]? = some Try.f13 := by kernel_rfl
theorem S.lead_Lead_Msg.call {R : Value → World → Prop} {v0 : Value} {W : World} (h : S.lead_Lead_Msg.body R v0 W) : callK PR F_lead_Lead_Msg [v0] R W :=
  callK_of_body (g := F_lead_Lead_Msg) (fn := Try.f13) (args := [v0]) (R := R) (w := W) mixed CBok S.lead_Lead_Msg.fn S.lead_Lead_Msg.hint (by rw [S.lead_Lead_Msg.ok]; exact h)
/-! ### (*rostrum/lead.Lead).Got (14) -/
def S.lead_Lead_Got.body (R : Value → World → Prop) (v0 v1 v2 : Value) (W : World) : Prop :=
  efK PR (Instr.box T_inst_Answer v2) (fun v5 W =>
  okF (nilP v0) fun v9 =>
  okF (addrF 17 v9) fun v10 =>
  rdK PR (Instr.loadAt T_int v10) (fun v11 W =>
  okF (binP .eql v11 (.int .i64 3)) fun v12 =>
  gdK (wantd v12 false) (fun k W => k v0 W) (fun v14 W =>
  gdK (wantd v12 false) (fun k W => okF (nilP v14) fun v => k v W) (fun v15 W =>
  gdK (wantd v12 false) (fun k W => okF (addrF 17 v15) fun v => k v W) (fun v16 W =>
  gdK (wantd v12 false) (fun k W => rdK PR (Instr.loadAt T_int v16) k W) (fun v17 W =>
  gdK (wantd v12 false) (fun k W => okF (binP .eql v17 (.int .i64 5)) fun v => k v W) (fun v18 W =>
  okF (pickP v12 (.bool true) v18) fun v19 =>
  gdK (wantd v19 false) (fun k W => k v1 W) (fun v21 W =>
  gdK (wantd v19 false) (fun k W => okF (binP .lss v21 (.int .i64 0)) fun v => k v W) (fun v22 W =>
  okF (pickP v19 (.bool true) v22) fun v23 =>
  gdK (wantd v23 false) (fun k W => k v1 W) (fun v25 W =>
  gdK (wantd v23 false) (fun k W => k v0 W) (fun v26 W =>
  gdK (wantd v23 false) (fun k W => okF (nilP v26) fun v => k v W) (fun v27 W =>
  gdK (wantd v23 false) (fun k W => okF (addrF 0 v27) fun v => k v W) (fun v28 W =>
  gdK (wantd v23 false) (fun k W => rdK PR (Instr.loadAt T_int v28) k W) (fun v29 W =>
  gdK (wantd v23 false) (fun k W => okF (binP .geq v25 v29) fun v => k v W) (fun v30 W =>
  okF (pickP v23 (.bool true) v30) fun v31 =>
  gdK (wantd v31 false) (fun k W => k v1 W) (fun v33 W =>
  gdK (wantd v31 false) (fun k W => k v0 W) (fun v34 W =>
  gdK (wantd v31 false) (fun k W => okF (nilP v34) fun v => k v W) (fun v35 W =>
  gdK (wantd v31 false) (fun k W => okF (addrF 1 v35) fun v => k v W) (fun v36 W =>
  gdK (wantd v31 false) (fun k W => rdK PR (Instr.loadAt T_int v36) k W) (fun v37 W =>
  gdK (wantd v31 false) (fun k W => okF (binP .eql v33 v37) fun v => k v W) (fun v38 W =>
  okF (pickP v31 (.bool true) v38) fun v39 =>
  gdK (wantd v39 false) (fun k W => k v0 W) (fun v41 W =>
  gdK (wantd v39 false) (fun k W => k v1 W) (fun v42 W =>
  gdK (wantd v39 false) (fun k W => okF (nilP v41) fun v => k v W) (fun v43 W =>
  gdK (wantd v39 false) (fun k W => okF (addrF 20 v43) fun v => k v W) (fun v44 W =>
  gdK (wantd v39 false) (fun k W => okF (idxA 7 1 v44 v42) fun v => k v W) (fun v45 W =>
  gdK (wantd v39 false) (fun k W => rdK PR (Instr.loadAt T_p_inst_Rec v45) k W) (fun v46 W =>
  gdK (wantd v39 false) (fun k W => okF (eqP (.pointer T_inst_Rec) .neq v46 (.pointer none)) fun v => k v W) (fun v47 W =>
  okF (pickP v39 (.bool true) v47) fun v48 =>
  ifK v48 (
  R (.bool false) W) (
  okF (addrF 0 v5) fun v50 =>
  rdK PR (Instr.loadAt T_bool v50) (fun v51 W =>
  gdK (wantd v51 true) (fun k W => okF (addrF 1 v5) fun v => k v W) (fun v53 W =>
  gdK (wantd v51 true) (fun k W => rdK PR (Instr.loadAt T_ballot_Ballot v53) k W) (fun v54 W =>
  gdK (wantd v51 true) (fun k W => k v0 W) (fun v55 W =>
  gdK (wantd v51 true) (fun k W => okF (nilP v55) fun v => k v W) (fun v56 W =>
  gdK (wantd v51 true) (fun k W => okF (addrF 3 v56) fun v => k v W) (fun v57 W =>
  gdK (wantd v51 true) (fun k W => okF (addrF 3 v57) fun v => k v W) (fun v58 W =>
  gdK (wantd v51 true) (fun k W => rdK PR (Instr.loadAt T_ballot_Ballot v58) k W) (fun v59 W =>
  gdK (wantd v51 true) (fun k W => rdK PR (aggEq .neq T_ballot_Ballot v54 v59) k W) (fun v60 W =>
  gdK (wantd v51 true) (fun k W => k v60 W) (fun v61 W =>
  gdK (wantd v61 false) (fun k W => k v0 W) (fun v62 W =>
  gdK (wantd v61 false) (fun k W => okF (addrF 3 v5) fun v => k v W) (fun v63 W =>
  gdK (wantd v61 false) (fun k W => rdK PR (Instr.loadAt T_inst_Rec v63) k W) (fun v64 W =>
  gdK (wantd v61 false) (fun k W => callK PR F_lead_Lead_fits [v62, v64] k W) (fun v65 W =>
  gdK (wantd v61 false) (fun k W => okF (unP .not v65) fun v => k v W) (fun v66 W =>
  gdK (wantd v51 true) (fun k W => okF (pickP v61 (.bool true) v66) fun v => k v W) (fun v67 W =>
  okF (pickP v51 v67 (.bool false)) fun v68 =>
  ifK v68 (
  R (.bool false) W) (
  okF (addrF 3 v5) fun v70 =>
  okF (addrF 0 v70) fun v71 =>
  rdK PR (Instr.loadAt T_int v71) (fun v72 W =>
  okF (binP .eql v72 (.int .i64 3)) fun v73 =>
  ifK v73 (
  okF (addrF 3 v5) fun v75 =>
  rdK PR (Instr.loadAt T_inst_Rec v75) (fun v76 W =>
  callK PR F_lead_Lead_decide [v0, v76, (.bool false)] (fun v77 W =>
  R (.bool true) W) W) W) (
  okF (addrF 0 v5) fun v79 =>
  rdK PR (Instr.loadAt T_bool v79) (fun v80 W =>
  okF (unP .not v80) fun v81 =>
  ifK v81 (
  okF (addrF 1 v5) fun v82 =>
  rdK PR (Instr.loadAt T_ballot_Ballot v82) (fun v83 W =>
  okF (nilP v0) fun v85 =>
  okF (addrF 3 v85) fun v86 =>
  okF (addrF 3 v86) fun v87 =>
  rdK PR (Instr.loadAt T_ballot_Ballot v87) (fun v88 W =>
  callK PR F_ballot_Cmp [v83, v88] (fun v89 W =>
  okF (binP .leq v89 (.int .i64 0)) fun v90 =>
  ifK v90 (
  R (.bool false) W) (
  okF (nilP v0) fun v92 =>
  okF (addrF 17 v92) fun v93 =>
  efK PR (Instr.storeAt T_int v93 (.int .i64 5)) (fun _ W =>
  R (.bool true) W) W)) W) W) (tick W)) (
  okF (addrF 3 v5) fun v94 =>
  rdK PR (Instr.loadAt T_inst_Rec v94) (fun v95 W =>
  efK PR (Instr.alloc T_inst_Rec true (.tuple #[])) (fun v7 W =>
  efK PR (Instr.storeAt T_inst_Rec v7 v95) (fun _ W =>
  okF (addrF 1 v7) fun v96 =>
  rdK PR (Instr.loadAt T_s_uint8 v96) (fun v97 W =>
  callK PR F_bytes_Clone [v97] (fun v98 W =>
  okF (addrF 1 v7) fun v99 =>
  efK PR (Instr.storeAt T_s_uint8 v99 v98) (fun _ W =>
  okF (nilP v0) fun v102 =>
  okF (addrF 20 v102) fun v103 =>
  okF (idxA 7 1 v103 v1) fun v104 =>
  efK PR (Instr.storeAt T_p_inst_Rec v104 v7) (fun _ W =>
  okF (nilP v0) fun v106 =>
  okF (addrF 17 v106) fun v107 =>
  rdK PR (Instr.loadAt T_int v107) (fun v108 W =>
  okF (binP .eql v108 (.int .i64 1)) fun v110 =>
  ifK v110 (
  okF (nilP v0) fun v113 =>
  okF (addrF 19 v113) fun v114 =>
  rdK PR (Instr.loadAt T_bool v114) (fun v115 W =>
  gdK (wantd v115 false) (fun k W => okF (addrF 2 v7) fun v => k v W) (fun v117 W =>
  gdK (wantd v115 false) (fun k W => rdK PR (Instr.loadAt T_int64 v117) k W) (fun v118 W =>
  gdK (wantd v115 false) (fun k W => k v0 W) (fun v119 W =>
  gdK (wantd v115 false) (fun k W => okF (nilP v119) fun v => k v W) (fun v120 W =>
  gdK (wantd v115 false) (fun k W => okF (addrF 27 v120) fun v => k v W) (fun v121 W =>
  gdK (wantd v115 false) (fun k W => okF (addrF 2 v121) fun v => k v W) (fun v122 W =>
  gdK (wantd v115 false) (fun k W => rdK PR (Instr.loadAt T_int64 v122) k W) (fun v123 W =>
  gdK (wantd v115 false) (fun k W => okF (binP .neq v118 v123) fun v => k v W) (fun v124 W =>
  okF (pickP v115 (.bool true) v124) fun v125 =>
  gdK (wantd v125 false) (fun k W => okF (addrF 3 v7) fun v => k v W) (fun v127 W =>
  gdK (wantd v125 false) (fun k W => rdK PR (Instr.loadAt T_vec_Vec v127) k W) (fun v128 W =>
  gdK (wantd v125 false) (fun k W => k v0 W) (fun v129 W =>
  gdK (wantd v125 false) (fun k W => okF (nilP v129) fun v => k v W) (fun v130 W =>
  gdK (wantd v125 false) (fun k W => okF (addrF 27 v130) fun v => k v W) (fun v131 W =>
  gdK (wantd v125 false) (fun k W => okF (addrF 3 v131) fun v => k v W) (fun v132 W =>
  gdK (wantd v125 false) (fun k W => rdK PR (Instr.loadAt T_vec_Vec v132) k W) (fun v133 W =>
  gdK (wantd v125 false) (fun k W => rdK PR (aggEq .neq T_vec_Vec v128 v133) k W) (fun v134 W =>
  okF (pickP v125 (.bool true) v134) fun v135 =>
  okF (nilP v0) fun v136 =>
  okF (addrF 19 v136) fun v137 =>
  efK PR (Instr.storeAt T_bool v137 v135) (fun _ W =>
  callK PR F_lead_Lead_heard [v0] (fun v139 W =>
  R (.bool true) W) W) W) W) W) W) W) W) W) W) W) W) W) W) W) W) W) W) W) (tick W)) (
  okF (binP .eql v108 (.int .i64 2)) fun v141 =>
  ifK v141 (
  callK PR F_lead_Lead_majority [v0] (fun v143 W =>
  ifK v143 (
  okF (nilP v0) fun v146 =>
  okF (addrF 3 v146) fun v147 =>
  okF (addrF 5 v147) fun v148 =>
  rdK PR (Instr.loadAt T_s_uint8 v148) (fun v149 W =>
  okF (nilP v0) fun v151 =>
  okF (addrF 3 v151) fun v152 =>
  okF (addrF 6 v152) fun v153 =>
  rdK PR (Instr.loadAt T_int64 v153) (fun v154 W =>
  okF (nilP v0) fun v156 =>
  okF (addrF 3 v156) fun v157 =>
  okF (addrF 7 v157) fun v158 =>
  rdK PR (Instr.loadAt T_vec_Vec v158) (fun v159 W =>
  okF (bldP (fun i => ([(0, 1), (1, 1), (2, 1), (3, 7), (10, 2), (12, 2)] : List (Nat × Nat))[i]?) [.int .i64 0, .slice none 0 0, .int .i64 0, .int .i64 0, .int .i64 0, .int .i64 0, .int .i64 0, .int .i64 0, .int .i64 0, .int .i64 0, .int .i64 0, .int .i64 0, .int .i64 0, .int .i64 0] [(1, v149), (2, v154), (3, v159)]) fun v160 =>
  callK PR F_lead_Lead_decide [v0, v160, (.bool false)] (fun v161 W =>
  R (.bool true) W) W) W) W) (tick W)) (
  R (.bool true) W)) W) (
  okF (binP .eql v108 (.int .i64 4)) fun v163 =>
  ifK v163 (
  callK PR F_lead_Lead_majority [v0] (fun v165 W =>
  ifK v165 (
  callK PR F_lead_Lead_prepared [v0] (fun v167 W =>
  R (.bool true) W) W) (
  R (.bool true) W)) W) (
  R (.bool true) W)))) W) W) W) W) W) W) W) W)) W)) W)) W) W) W) W) W) W) W) W) W) W) W) W) W) W) W) (tick W))) W) W) W) W) W) W) W) W) W) W) W) W) W) W) W) W) W) W) W) W) W) W) W) W) W) W) W) W
def S.lead_Lead_Got.hint : Hint := (.two .nil (.two (.two .nil (.two (.two .nil .nil) .nil)) (.two (.two .nil (.two (.two .nil .nil) (.two .nil (.two (.two .nil (.two .nil .nil)) (.two .nil (.two (.two (.two .nil (.two (.two .nil .nil) .nil)) (.two .nil (.two .nil .nil))) .nil)))))) (.two .nil (.two .nil (.two .nil (.two (.two .nil (.two .nil (.two (.two .nil .nil) (.two .nil (.two (.two .nil (.two .nil .nil)) (.two .nil (.two (.two .nil (.two .nil .nil)) .nil))))))) (.two .nil .nil))))))))
theorem S.lead_Lead_Got.ok (R : Value → World → Prop) (v0 v1 v2 : Value) (W : World) : bodyK PR CB Try.f14 S.lead_Lead_Got.hint [v0, v1, v2] R W = S.lead_Lead_Got.body R v0 v1 v2 W := by kernel_rfl
theorem S.lead_Lead_Got.fn : PR.funcs[F_lead_Lead_Got]? = some Try.f14 := by kernel_rfl
theorem S.lead_Lead_Got.call {R : Value → World → Prop} {v0 v1 v2 : Value} {W : World} (h : S.lead_Lead_Got.body R v0 v1 v2 W) : callK PR F_lead_Lead_Got [v0, v1, v2] R W :=
  callK_of_body (g := F_lead_Lead_Got) (fn := Try.f14) (args := [v0, v1, v2]) (R := R) (w := W) mixed CBok S.lead_Lead_Got.fn S.lead_Lead_Got.hint (by rw [S.lead_Lead_Got.ok]; exact h)
/-! ### (*rostrum/inst.Table).Rec (15) -/
def S.inst_Table_Rec.body (R : Value → World → Prop) (v0 v1 : Value) (W : World) : Prop :=
  efK PR (Instr.box T_api_Dot v1) (fun v3 W =>
  efK PR (Instr.alloc T_inst_Rec true (.tuple #[])) (fun v4 W =>
  okF (nilP v0) fun v6 =>
  okF (addrF 0 v6) fun v7 =>
  rdK PR (Instr.loadAt T_m_api_Dot_inst_Rec v7) (fun v8 W =>
  rdK PR (Instr.loadAt T_api_Dot v3) (fun v9 W =>
  rdK PR (Instr.lookup T_m_api_Dot_inst_Rec v8 v9 false) (fun v10 W =>
  callK PR F_inst_copied [v10] (fun v11 W =>
  efK PR (Instr.storeAt T_inst_Rec v4 v11) (fun _ W =>
  rdK PR (Instr.loadAt T_inst_Rec v4) (fun r0 W =>
  R r0 W) W) W) W) W) W) (tick W)) W) W
def S.inst_Table_Rec.hint : Hint := (.two .nil (.two .nil .nil))
theorem S.inst_Table_Rec.ok (R : Value → World → Prop) (v0 v1 : Value) (W : World) : bodyK PR CB Try.f15 S.inst_Table_Rec.hint [v0, v1] R W = S.inst_Table_Rec.body R v0 v1 W := by kernel_rfl
theorem S.inst_Table_Rec.fn : PR.funcs[F_inst_Table_Rec]? = some Try.f15 := by kernel_rfl
theorem S.inst_Table_Rec.call {R : Value → World → Prop} {v0 v1 : Value} {W : World} (h : S.inst_Table_Rec.body R v0 v1 W) : callK PR F_inst_Table_Rec [v0, v1] R W :=
  callK_of_body (g := F_inst_Table_Rec) (fn := Try.f15) (args := [v0, v1]) (R := R) (w := W) mixed CBok S.inst_Table_Rec.fn S.inst_Table_Rec.hint (by rw [S.inst_Table_Rec.ok]; exact h)
/-! ### (*rostrum/lead.Lead).Phase (16) -/
def S.lead_Lead_Phase.body (R : Value → World → Prop) (v0 : Value) (W : World) : Prop :=
  okF (nilP v0) fun v4 =>
  okF (addrF 17 v4) fun v5 =>
  rdK PR (Instr.loadAt T_int v5) (fun v6 W =>
  R v6 W) W
def S.lead_Lead_Phase.hint : Hint := (.two .nil (.two .nil .nil))
theorem S.lead_Lead_Phase.ok (R : Value → World → Prop) (v0 : Value) (W : World) : bodyK PR CB Try.f16 S.lead_Lead_Phase.hint [v0] R W = S.lead_Lead_Phase.body R v0 W := by kernel_rfl
theorem S.lead_Lead_Phase.fn : PR.funcs[F_lead_Lead_Phase]? = some Try.f16 := by kernel_rfl
theorem S.lead_Lead_Phase.call {R : Value → World → Prop} {v0 : Value} {W : World} (h : S.lead_Lead_Phase.body R v0 W) : callK PR F_lead_Lead_Phase [v0] R W :=
  callK_of_body (g := F_lead_Lead_Phase) (fn := Try.f16) (args := [v0]) (R := R) (w := W) mixed CBok S.lead_Lead_Phase.fn S.lead_Lead_Phase.hint (by rw [S.lead_Lead_Phase.ok]; exact h)
/-! ### (*rostrum/lead.Lead).Fast (17) -/
def S.lead_Lead_Fast.body (R : Value → World → Prop) (v0 : Value) (W : World) : Prop :=
  okF (nilP v0) fun v4 =>
  okF (addrF 18 v4) fun v5 =>
  rdK PR (Instr.loadAt T_bool v5) (fun v6 W =>
  R v6 W) W
def S.lead_Lead_Fast.hint : Hint := (.two .nil (.two .nil .nil))
theorem S.lead_Lead_Fast.ok (R : Value → World → Prop) (v0 : Value) (W : World) : bodyK PR CB Try.f17 S.lead_Lead_Fast.hint [v0] R W = S.lead_Lead_Fast.body R v0 W := by kernel_rfl
theorem S.lead_Lead_Fast.fn : PR.funcs[F_lead_Lead_Fast]? = some Try.f17 := by kernel_rfl
theorem S.lead_Lead_Fast.call {R : Value → World → Prop} {v0 : Value} {W : World} (h : S.lead_Lead_Fast.body R v0 W) : callK PR F_lead_Lead_Fast [v0] R W :=
  callK_of_body (g := F_lead_Lead_Fast) (fn := Try.f17) (args := [v0]) (R := R) (w := W) mixed CBok S.lead_Lead_Fast.fn S.lead_Lead_Fast.hint (by rw [S.lead_Lead_Fast.ok]; exact h)
/-! ### (*rostrum/lead.Lead).Slow (18) -/
def S.lead_Lead_Slow.body (R : Value → World → Prop) (v0 : Value) (W : World) : Prop :=
  okF (nilP v0) fun v4 =>
  okF (addrF 17 v4) fun v5 =>
  rdK PR (Instr.loadAt T_int v5) (fun v6 W =>
  okF (binP .neq v6 (.int .i64 1)) fun v7 =>
  gdK (wantd v7 false) (fun k W => k v0 W) (fun v9 W =>
  gdK (wantd v7 false) (fun k W => callK PR F_lead_Lead_majority [v9] k W) (fun v10 W =>
  gdK (wantd v7 false) (fun k W => okF (unP .not v10) fun v => k v W) (fun v11 W =>
  okF (pickP v7 (.bool true) v11) fun v12 =>
  ifK v12 (
  R (.bool false) W) (
  callK PR F_lead_Lead_accept [v0] (fun v14 W =>
  R (.bool true) W) W)) W) W) W) W
def S.lead_Lead_Slow.hint : Hint := (.two .nil (.two (.two .nil (.two (.two .nil .nil) .nil)) (.two .nil (.two .nil .nil))))
theorem S.lead_Lead_Slow.ok (R : Value → World → Prop) (v0 : Value) (W : World) : bodyK PR CB Try.f18 S.lead_Lead_Slow.hint [v0] R W = S.lead_Lead_Slow.body R v0 W := by kernel_rfl
theorem S.lead_Lead_Slow.fn : PR.funcs[F_lead_Lead_Slow]? = some Try.f18 := by kernel_rfl
theorem S.lead_Lead_Slow.call {R : Value → World → Prop} {v0 : Value} {W : World} (h : S.lead_Lead_Slow.body R v0 W) : callK PR F_lead_Lead_Slow [v0] R W :=
  callK_of_body (g := F_lead_Lead_Slow) (fn := Try.f18) (args := [v0]) (R := R) (w := W) mixed CBok S.lead_Lead_Slow.fn S.lead_Lead_Slow.hint (by rw [S.lead_Lead_Slow.ok]; exact h)
/-! ### rostrum/lead.Recover (19) -/
def S.lead_Recover.body (R : Value → World → Prop) (v0 v1 v2 v3 : Value) (W : World) : Prop :=
  efK PR (Instr.box T_api_Dot v2) (fun v6 W =>
  rdK PR (Instr.loadAt T_api_Dot v6) (fun v15 W =>
  okF (bldP (fun i => ([(0, 1), (1, 2), (3, 2), (5, 1), (6, 1), (7, 7)] : List (Nat × Nat))[i]?) [.int .i64 0, .int .i64 0, .int .i64 0, .int .i64 0, .int .i64 0, .slice none 0 0, .int .i64 0, .int .i64 0, .int .i64 0, .int .i64 0, .int .i64 0, .int .i64 0, .int .i64 0, .int .i64 0] [(0, (.int .i64 4)), (1, v15)]) fun v16 =>
  efK PR (Instr.alloc T_inst_Msg true (.tuple #[])) (fun v10 W =>
  efK PR (Instr.storeAt T_inst_Msg v10 v16) (fun _ W =>
  callK PR F_lead_good [v0, v1] (fun v19 W =>
  okF (unP .not v19) fun v20 =>
  gdK (wantd v20 false) (fun k W => okF (addrF 0 v6) fun v => k v W) (fun v22 W =>
  gdK (wantd v20 false) (fun k W => rdK PR (Instr.loadAt T_int v22) k W) (fun v23 W =>
  gdK (wantd v20 false) (fun k W => k v0 W) (fun v24 W =>
  gdK (wantd v20 false) (fun k W => okF (binP .geq v23 v24) fun v => k v W) (fun v25 W =>
  okF (pickP v20 (.bool true) v25) fun v26 =>
  gdK (wantd v26 false) (fun k W => rdK PR (Instr.loadAt T_inst_Msg v10) k W) (fun v28 W =>
  gdK (wantd v26 false) (fun k W => callK PR F_inst_May [v28] k W) (fun v29 W =>
  gdK (wantd v26 false) (fun k W => okF (unP .not v29) fun v => k v W) (fun v30 W =>
  okF (pickP v26 (.bool true) v30) fun v31 =>
  ifK v31 (
  R (.tuple #[(.pointer none), (.int .i64 1)]) W) (
  rdK PR (Instr.loadAt T_api_Dot v6) (fun v33 W =>
  callK PR F_inst_Table_Rec [v3, v33] (fun v34 W =>
  efK PR (Instr.alloc T_inst_Rec true (.tuple #[])) (fun v11 W =>
  efK PR (Instr.storeAt T_inst_Rec v11 v34) (fun _ W =>
  okF (addrF 0 v11) fun v35 =>
  rdK PR (Instr.loadAt T_int v35) (fun v36 W =>
  okF (binP .eql v36 (.int .i64 3)) fun v37 =>
  ifK v37 (
  R (.tuple #[(.pointer none), (.int .i64 5)]) W) (
  okF (addrF 10 v11) fun v39 =>
  rdK PR (Instr.loadAt T_ballot_Ballot v39) (fun v40 W =>
  callK PR F_ballot_Next [v40, v1] (fun v42 W =>
  okF (extP 0 v42) fun v43 =>
  okF (extP 1 v42) fun v44 =>
  efK PR (Instr.alloc T_ballot_Ballot true (.tuple #[])) (fun v12 W =>
  efK PR (Instr.storeAt T_ballot_Ballot v12 v43) (fun _ W =>
  okF (binP .neq v44 (.int .i64 0)) fun v46 =>
  ifK v46 (
  R (.tuple #[(.pointer none), v44]) W) (
  rdK PR (Instr.loadAt T_ballot_Ballot v12) (fun v48 W =>
  okF (addrF 3 v10) fun v49 =>
  efK PR (Instr.storeAt T_ballot_Ballot v49 v48) (fun _ W =>
  okF (bldP (fun i => ([(0, 1), (1, 1), (2, 1), (3, 14), (17, 1), (18, 1), (19, 1), (20, 7), (27, 14)] : List (Nat × Nat))[i]?) [.int .i64 0, .int .i64 0, .pointer none, .int .i64 0, .int .i64 0, .int .i64 0, .int .i64 0, .int .i64 0, .slice none 0 0, .int .i64 0, .int .i64 0, .int .i64 0, .int .i64 0, .int .i64 0, .int .i64 0, .int .i64 0, .int .i64 0, .int .i64 0, .bool false, .bool false, .pointer none, .pointer none, .pointer none, .pointer none, .pointer none, .pointer none, .pointer none, .int .i64 0, .slice none 0 0, .int .i64 0, .int .i64 0, .int .i64 0, .int .i64 0, .int .i64 0, .int .i64 0, .int .i64 0, .int .i64 0, .int .i64 0, .int .i64 0, .int .i64 0, .int .i64 0] [(0, v0), (1, v1), (2, v3)]) fun v53 =>
  efK PR (Instr.box T_lead_Lead v53) (fun v54 W =>
  rdK PR (Instr.loadAt T_inst_Msg v10) (fun v56 W =>
  callK PR F_lead_Lead_begin [v54, (.int .i64 4), v56] (fun v57 W =>
  R (.tuple #[v54, (.int .i64 0)]) W) W) W) W) W) W)) W) W) W) W)) W) W) W) W) W)) W) W) W) W) W) W) W) W) W) W) W) W
def S.lead_Recover.hint : Hint := (.two .nil (.two .nil (.two (.two .nil (.two (.two .nil .nil) .nil)) (.two .nil (.two (.two .nil (.two (.two .nil .nil) .nil)) (.two .nil (.two (.two .nil (.two (.two .nil .nil) .nil)) (.two .nil (.two .nil (.two .nil (.two .nil .nil)))))))))))
theorem S.lead_Recover.ok (R : Value → World → Prop) (v0 v1 v2 v3 : Value) (W : World) : bodyK PR CB Try.f19 S.lead_Recover.hint [v0, v1, v2, v3] R W = S.lead_Recover.body R v0 v1 v2 v3 W := by kernel_rfl
theorem S.lead_Recover.fn : PR.funcs[F_lead_Recover]? = some Try.f19 := by kernel_rfl
theorem S.lead_Recover.call {R : Value → World → Prop} {v0 v1 v2 v3 : Value} {W : World} (h : S.lead_Recover.body R v0 v1 v2 v3 W) : callK PR F_lead_Recover [v0, v1, v2, v3] R W :=
  callK_of_body (g := F_lead_Recover) (fn := Try.f19) (args := [v0, v1, v2, v3]) (R := R) (w := W) mixed CBok S.lead_Recover.fn S.lead_Recover.hint (by rw [S.lead_Recover.ok]; exact h)
/-! ### rostrum/inst.May (20) -/
def S.inst_May.body (R : Value → World → Prop) (v0 : Value) (W : World) : Prop :=
  efK PR (Instr.box T_inst_Msg v0) (fun v1 W =>
  okF (addrF 0 v1) fun v3 =>
  rdK PR (Instr.loadAt T_int v3) (fun v4 W =>
  okF (binP .lss v4 (.int .i64 1)) fun v5 =>
  gdK (wantd v5 false) (fun k W => okF (addrF 0 v1) fun v => k v W) (fun v7 W =>
  gdK (wantd v5 false) (fun k W => rdK PR (Instr.loadAt T_int v7) k W) (fun v8 W =>
  gdK (wantd v5 false) (fun k W => okF (binP .gtr v8 (.int .i64 4)) fun v => k v W) (fun v9 W =>
  okF (pickP v5 (.bool true) v9) fun v10 =>
  gdK (wantd v10 false) (fun k W => okF (addrF 1 v1) fun v => k v W) (fun v12 W =>
  gdK (wantd v10 false) (fun k W => rdK PR (Instr.loadAt T_api_Dot v12) k W) (fun v13 W =>
  gdK (wantd v10 false) (fun k W => callK PR F_inst_Dot [v13] k W) (fun v14 W =>
  gdK (wantd v10 false) (fun k W => okF (unP .not v14) fun v => k v W) (fun v15 W =>
  okF (pickP v10 (.bool true) v15) fun v16 =>
  gdK (wantd v16 false) (fun k W => okF (addrF 3 v1) fun v => k v W) (fun v18 W =>
  gdK (wantd v16 false) (fun k W => rdK PR (Instr.loadAt T_ballot_Ballot v18) k W) (fun v19 W =>
  gdK (wantd v16 false) (fun k W => callK PR F_ballot_Good [v19] k W) (fun v20 W =>
  gdK (wantd v16 false) (fun k W => okF (unP .not v20) fun v => k v W) (fun v21 W =>
  okF (pickP v16 (.bool true) v21) fun v22 =>
  gdK (wantd v22 false) (fun k W => okF (addrF 5 v1) fun v => k v W) (fun v24 W =>
  gdK (wantd v22 false) (fun k W => rdK PR (Instr.loadAt T_s_uint8 v24) k W) (fun v25 W =>
  gdK (wantd v22 false) (fun k W => okF (addrF 6 v1) fun v => k v W) (fun v26 W =>
  gdK (wantd v22 false) (fun k W => rdK PR (Instr.loadAt T_int64 v26) k W) (fun v27 W =>
  gdK (wantd v22 false) (fun k W => okF (addrF 7 v1) fun v => k v W) (fun v28 W =>
  gdK (wantd v22 false) (fun k W => rdK PR (Instr.loadAt T_vec_Vec v28) k W) (fun v29 W =>
  gdK (wantd v22 false) (fun k W => callK PR F_inst_content [v25, v27, v29] k W) (fun v30 W =>
  gdK (wantd v22 false) (fun k W => okF (unP .not v30) fun v => k v W) (fun v31 W =>
  okF (pickP v22 (.bool true) v31) fun v32 =>
  ifK v32 (
  R (.bool false) W) (
  okF (addrF 0 v1) fun v33 =>
  rdK PR (Instr.loadAt T_int v33) (fun v34 W =>
  okF (binP .neq v34 (.int .i64 4)) fun v35 =>
  gdK (wantd v35 false) (fun k W => okF (addrF 5 v1) fun v => k v W) (fun v37 W =>
  gdK (wantd v35 false) (fun k W => rdK PR (Instr.loadAt T_s_uint8 v37) k W) (fun v38 W =>
  gdK (wantd v35 false) (fun k W => okF (lenP (.slice T_uint8) v38) fun v => k v W) (fun v39 W =>
  gdK (wantd v35 false) (fun k W => okF (binP .eql v39 (.int .i64 0)) fun v => k v W) (fun v40 W =>
  gdK (wantd v35 false) (fun k W => k v40 W) (fun v41 W =>
  gdK (wantd v41 true) (fun k W => okF (addrF 6 v1) fun v => k v W) (fun v42 W =>
  gdK (wantd v41 true) (fun k W => rdK PR (Instr.loadAt T_int64 v42) k W) (fun v43 W =>
  gdK (wantd v41 true) (fun k W => okF (binP .eql v43 (.int .i64 0)) fun v => k v W) (fun v44 W =>
  gdK (wantd v35 false) (fun k W => okF (pickP v41 v44 (.bool false)) fun v => k v W) (fun v45 W =>
  gdK (wantd v35 false) (fun k W => k v45 W) (fun v46 W =>
  gdK (wantd v46 true) (fun k W => okF (addrF 7 v1) fun v => k v W) (fun v47 W =>
  gdK (wantd v46 true) (fun k W => rdK PR (Instr.loadAt T_vec_Vec v47) k W) (fun v48 W =>
  gdK (wantd v46 true) (fun k W => okF (bldP (fun i => some (i * 1, 1)) [.int .i64 0, .int .i64 0, .int .i64 0, .int .i64 0, .int .i64 0, .int .i64 0, .int .i64 0] []) fun v => k v W) (fun v49 W =>
  gdK (wantd v46 true) (fun k W => rdK PR (aggEq .eql T_vec_Vec v48 v49) k W) (fun v50 W =>
  gdK (wantd v35 false) (fun k W => okF (pickP v46 v50 (.bool false)) fun v => k v W) (fun v51 W =>
  okF (pickP v35 (.bool true) v51) fun v52 =>
  R v52 W) W) W) W) W) W) W) W) W) W) W) W) W) W) W) W) W)) W) W) W) W) W) W) W) W) W) W) W) W) W) W) W) W) W) W) W) W) W
def S.inst_May.hint : Hint := (.two .nil (.two (.two .nil (.two (.two .nil .nil) .nil)) (.two .nil .nil)))
theorem S.inst_May.ok (R : Value → World → Prop) (v0 : Value) (W : World) : bodyK PR CB Try.f20 S.inst_May.hint [v0] R W = S.inst_May.body R v0 W := by kernel_rfl
theorem S.inst_May.fn : PR.funcs[F_inst_May]? = some Try.f20 := by kernel_rfl
theorem S.inst_May.call {R : Value → World → Prop} {v0 : Value} {W : World} (h : S.inst_May.body R v0 W) : callK PR F_inst_May [v0] R W :=
  callK_of_body (g := F_inst_May) (fn := Try.f20) (args := [v0]) (R := R) (w := W) mixed CBok S.inst_May.fn S.inst_May.hint (by rw [S.inst_May.ok]; exact h)
/-! ### (*rostrum/inst.Table).old (21) -/
def S.inst_Table_old.j1 (R : Value → World → Prop) (x4 x5 x6 x25 : Value) (W : World) : Prop :=
  ifK x25 (
  okF (addrF 10 x5) fun v40 =>
  rdK PR (Instr.loadAt T_ballot_Ballot v40) (fun v41 W =>
  rdK PR (Instr.loadAt T_inst_Rec x5) (fun v42 W =>
  callK PR F_inst_copied [v42] (fun v43 W =>
  stb PR [(1, true, (Instr.loadAt T_ballot_Ballot v40), v41)] (fun W =>
  okF (bldP (fun i => ([(0, 1), (1, 2), (3, 14)] : List (Nat × Nat))[i]?) [.bool false, .int .i64 0, .int .i64 0, .int .i64 0, .slice none 0 0, .int .i64 0, .int .i64 0, .int .i64 0, .int .i64 0, .int .i64 0, .int .i64 0, .int .i64 0, .int .i64 0, .int .i64 0, .int .i64 0, .int .i64 0, .int .i64 0] [(0, (.bool false)), (1, v41), (2, v43)]) fun v44 =>
  efK PR (Instr.storeAt T_inst_Answer x6 v44) (fun _ W =>
  rdK PR (Instr.loadAt T_inst_Answer x6) (fun r0 W =>
  R (.tuple #[r0, (.bool true)]) W) W) W) W) W) W) (tick W)) (
  okF (addrF 0 x4) fun v46 =>
  rdK PR (Instr.loadAt T_int v46) (fun v47 W =>
  okF (binP .eql v47 (.int .i64 1)) fun v48 =>
  gdK (wantd v48 true) (fun k W => okF (addrF 0 x5) fun v => k v W) (fun v50 W =>
  gdK (wantd v48 true) (fun k W => rdK PR (Instr.loadAt T_int v50) k W) (fun v51 W =>
  gdK (wantd v48 true) (fun k W => okF (binP .eql v51 (.int .i64 1)) fun v => k v W) (fun v52 W =>
  okF (pickP v48 v52 (.bool false)) fun v53 =>
  gdK (wantd v53 true) (fun k W => okF (addrF 12 x5) fun v => k v W) (fun v55 W =>
  gdK (wantd v53 true) (fun k W => rdK PR (Instr.loadAt T_ballot_Ballot v55) k W) (fun v56 W =>
  gdK (wantd v53 true) (fun k W => okF (addrF 3 x4) fun v => k v W) (fun v57 W =>
  gdK (wantd v53 true) (fun k W => rdK PR (Instr.loadAt T_ballot_Ballot v57) k W) (fun v58 W =>
  gdK (wantd v53 true) (fun k W => rdK PR (aggEq .eql T_ballot_Ballot v56 v58) k W) (fun v59 W =>
  okF (pickP v53 v59 (.bool false)) fun v60 =>
  ifK v60 (
  okF (addrF 10 x5) fun v61 =>
  rdK PR (Instr.loadAt T_ballot_Ballot v61) (fun v62 W =>
  rdK PR (Instr.loadAt T_inst_Rec x5) (fun v63 W =>
  callK PR F_inst_copied [v63] (fun v64 W =>
  stb PR [(1, true, (Instr.loadAt T_ballot_Ballot v61), v62)] (fun W =>
  okF (bldP (fun i => ([(0, 1), (1, 2), (3, 14)] : List (Nat × Nat))[i]?) [.bool false, .int .i64 0, .int .i64 0, .int .i64 0, .slice none 0 0, .int .i64 0, .int .i64 0, .int .i64 0, .int .i64 0, .int .i64 0, .int .i64 0, .int .i64 0, .int .i64 0, .int .i64 0, .int .i64 0, .int .i64 0, .int .i64 0] [(0, (.bool true)), (1, v62), (2, v64)]) fun v65 =>
  efK PR (Instr.storeAt T_inst_Answer x6 v65) (fun _ W =>
  rdK PR (Instr.loadAt T_inst_Answer x6) (fun r0 W =>
  R (.tuple #[r0, (.bool true)]) W) W) W) W) W) W) (tick W)) (
  okF (bldP (fun i => ([(0, 1), (1, 2), (3, 14)] : List (Nat × Nat))[i]?) [.bool false, .int .i64 0, .int .i64 0, .int .i64 0, .slice none 0 0, .int .i64 0, .int .i64 0, .int .i64 0, .int .i64 0, .int .i64 0, .int .i64 0, .int .i64 0, .int .i64 0, .int .i64 0, .int .i64 0, .int .i64 0, .int .i64 0] []) fun v66 =>
  efK PR (Instr.storeAt T_inst_Answer x6 v66) (fun _ W =>
  rdK PR (Instr.loadAt T_inst_Answer x6) (fun r0 W =>
  R (.tuple #[r0, (.bool false)]) W) W) W)) W) W) W) W) W) W) W) W) W)
def S.inst_Table_old.body (R : Value → World → Prop) (v0 v1 v2 : Value) (W : World) : Prop :=
  efK PR (Instr.box T_inst_Msg v1) (fun v4 W =>
  efK PR (Instr.box T_inst_Rec v2) (fun v5 W =>
  efK PR (Instr.alloc T_inst_Answer true (.tuple #[])) (fun v6 W =>
  okF (addrF 0 v5) fun v9 =>
  rdK PR (Instr.loadAt T_int v9) (fun v10 W =>
  okF (binP .eql v10 (.int .i64 3)) fun v11 =>
  ifK v11 (
  okF (addrF 0 v4) fun v12 =>
  rdK PR (Instr.loadAt T_int v12) (fun v13 W =>
  okF (binP .eql v13 (.int .i64 3)) fun v14 =>
  okF (addrF 10 v5) fun v15 =>
  rdK PR (Instr.loadAt T_ballot_Ballot v15) (fun v16 W =>
  rdK PR (Instr.loadAt T_inst_Rec v5) (fun v17 W =>
  callK PR F_inst_copied [v17] (fun v18 W =>
  stb PR [(4, true, (Instr.loadAt T_ballot_Ballot v15), v16), (1, true, (Instr.loadAt T_int v12), v13)] (fun W =>
  okF (bldP (fun i => ([(0, 1), (1, 2), (3, 14)] : List (Nat × Nat))[i]?) [.bool false, .int .i64 0, .int .i64 0, .int .i64 0, .slice none 0 0, .int .i64 0, .int .i64 0, .int .i64 0, .int .i64 0, .int .i64 0, .int .i64 0, .int .i64 0, .int .i64 0, .int .i64 0, .int .i64 0, .int .i64 0, .int .i64 0] [(0, v14), (1, v16), (2, v18)]) fun v19 =>
  efK PR (Instr.storeAt T_inst_Answer v6 v19) (fun _ W =>
  rdK PR (Instr.loadAt T_inst_Answer v6) (fun r0 W =>
  R (.tuple #[r0, (.bool true)]) W) W) W) W) W) W) W) (tick W)) (
  okF (addrF 0 v4) fun v21 =>
  rdK PR (Instr.loadAt T_int v21) (fun v22 W =>
  okF (binP .eql v22 (.int .i64 3)) fun v23 =>
  ifK v23 (
  okF (bldP (fun i => ([(0, 1), (1, 2), (3, 14)] : List (Nat × Nat))[i]?) [.bool false, .int .i64 0, .int .i64 0, .int .i64 0, .slice none 0 0, .int .i64 0, .int .i64 0, .int .i64 0, .int .i64 0, .int .i64 0, .int .i64 0, .int .i64 0, .int .i64 0, .int .i64 0, .int .i64 0, .int .i64 0, .int .i64 0] []) fun v24 =>
  efK PR (Instr.storeAt T_inst_Answer v6 v24) (fun _ W =>
  rdK PR (Instr.loadAt T_inst_Answer v6) (fun r0 W =>
  R (.tuple #[r0, (.bool false)]) W) W) W) (
  joinK (fun s W => S.inst_Table_old.j1 R (nthv s 0) (nthv s 1) (nthv s 2) (nthv s 3) W) (fun J1 =>
  okF (addrF 3 v4) fun v26 =>
  rdK PR (Instr.loadAt T_ballot_Ballot v26) (fun v27 W =>
  okF (addrF 10 v5) fun v28 =>
  rdK PR (Instr.loadAt T_ballot_Ballot v28) (fun v29 W =>
  callK PR F_ballot_Cmp [v27, v29] (fun v30 W =>
  okF (binP .lss v30 (.int .i64 0)) fun v31 =>
  ifK v31 (
  J1 [v4, v5, v6, v31] W) (
  okF (addrF 0 v4) fun v32 =>
  rdK PR (Instr.loadAt T_int v32) (fun v33 W =>
  okF (binP .eql v33 (.int .i64 1)) fun v34 =>
  gdK (wantd v34 true) (fun k W => okF (addrF 0 v5) fun v => k v W) (fun v36 W =>
  gdK (wantd v34 true) (fun k W => rdK PR (Instr.loadAt T_int v36) k W) (fun v37 W =>
  gdK (wantd v34 true) (fun k W => okF (binP .eql v37 (.int .i64 2)) fun v => k v W) (fun v38 W =>
  okF (pickP v34 v38 (.bool false)) fun v39 =>
  J1 [v4, v5, v6, v39] W) W) W) W) W)) W) W) W))) W)) W) W) W) W
def S.inst_Table_old.hint : Hint := (.two .nil (.two (.two .nil (.two (.two .nil .nil) (.two .nil (.two (.two .nil .nil) (.at [4, 5, 6, 25] (.two .nil (.two .nil .nil)) (.two (.two .nil .nil) (.two .nil (.two (.two .nil .nil) .nil)))))))) (.two .nil .nil)))
theorem S.inst_Table_old.ok (R : Value → World → Prop) (v0 v1 v2 : Value) (W : World) : bodyK PR CB Try.f21 S.inst_Table_old.hint [v0, v1, v2] R W = S.inst_Table_old.body R v0 v1 v2 W := by kernel_rfl
theorem S.inst_Table_old.fn : PR.funcs[F_inst_Table_old]? = some Try.f21 := by kernel_rfl
theorem S.inst_Table_old.call {R : Value → World → Prop} {v0 v1 v2 : Value} {W : World} (h : S.inst_Table_old.body R v0 v1 v2 W) : callK PR F_inst_Table_old [v0, v1, v2] R W :=
  callK_of_body (g := F_inst_Table_old) (fn := Try.f21) (args := [v0, v1, v2]) (R := R) (w := W) mixed CBok S.inst_Table_old.fn S.inst_Table_old.hint (by rw [S.inst_Table_old.ok]; exact h)
/-! ### bytes.Clone (22) -/
def S.bytes_Clone.body (R : Value → World → Prop) (v0 : Value) (W : World) : Prop :=
  okF (eqP (.slice T_uint8) .eql v0 (.slice none 0 0)) fun v4 =>
  ifK v4 (
  R (.slice none 0 0) W) (
  efK PR (Instr.buildSlice T_s_uint8 0 #[]) (fun v5 W =>
  efK PR (Builtin.append_ #[T_s_uint8, T_s_uint8] T_s_uint8 #[v5, v0]) (fun v7 W =>
  R v7 W) W) W)
def S.bytes_Clone.hint : Hint := (.two .nil (.two (.two .nil (.two (.two .nil .nil) .nil)) (.two .nil .nil)))
theorem S.bytes_Clone.ok (R : Value → World → Prop) (v0 : Value) (W : World) : bodyK PR CB Try.f22 S.bytes_Clone.hint [v0] R W = S.bytes_Clone.body R v0 W := by kernel_rfl
theorem S.bytes_Clone.fn : PR.funcs[F_bytes_Clone]? = some Try.f22 := by kernel_rfl
theorem S.bytes_Clone.call {R : Value → World → Prop} {v0 : Value} {W : World} (h : S.bytes_Clone.body R v0 W) : callK PR F_bytes_Clone [v0] R W :=
  callK_of_body (g := F_bytes_Clone) (fn := Try.f22) (args := [v0]) (R := R) (w := W) mixed CBok S.bytes_Clone.fn S.bytes_Clone.hint (by rw [S.bytes_Clone.ok]; exact h)
/-! ### (*rostrum/inst.Table).Would (23) -/
def S.inst_Table_Would.j1 (R : Value → World → Prop) (x5 x6 x7 : Value) (W : World) : Prop :=
  rdK PR (Instr.loadAt T_vec_Vec x7) (fun v45 W =>
  efK PR (Instr.storeAt T_vec_Vec x5 v45) (fun _ W =>
  rdK PR (Instr.loadAt T_vec_Vec x5) (fun r1 W =>
  R (.tuple #[x6, r1]) W) W) W) (tick W)
def S.inst_Table_Would.l1 (J1 : List Value → World → Prop) (K1 : List Value → World → Prop) (x3 x5 x6 x7 x15 : Value) (W : World) : Prop :=
  efK PR (Instr.next x15 false T_t0) (fun v16 W =>
  okF (extP 0 v16) fun v17 =>
  ifK v17 (
  efK PR (Instr.entry x15) (fun v18 W =>
  okF (extP 0 v18) fun v19 =>
  okF (extP 1 v18) fun v20 =>
  efK PR (Instr.alloc T_api_Dot true (.tuple #[])) (fun v8 W =>
  efK PR (Instr.alloc T_inst_Rec true (.tuple #[])) (fun v9 W =>
  efK PR (Instr.storeAt T_api_Dot v8 v19) (fun _ W =>
  efK PR (Instr.storeAt T_inst_Rec v9 v20) (fun _ W =>
  rdK PR (Instr.loadAt T_api_Dot v8) (fun v21 W =>
  rdK PR (Instr.loadAt T_api_Dot x3) (fun v22 W =>
  rdK PR (aggEq .eql T_api_Dot v21 v22) (fun v23 W =>
  gdK (wantd v23 false) (fun k W => okF (addrF 0 v9) fun v => k v W) (fun v25 W =>
  gdK (wantd v23 false) (fun k W => rdK PR (Instr.loadAt T_int v25) k W) (fun v26 W =>
  gdK (wantd v23 false) (fun k W => okF (binP .eql v26 (.int .i64 0)) fun v => k v W) (fun v27 W =>
  okF (pickP v23 (.bool true) v27) fun v28 =>
  ifK v28 (
  K1 [x3, x5, x6, x7, x15] W) (
  okF (addrF 2 v9) fun v30 =>
  rdK PR (Instr.loadAt T_int64 v30) (fun v31 W =>
  okF (binP .add v31 (.int .i64 1)) fun v32 =>
  okF (foldP max2P [x6, v32]) fun v33 =>
  okF (addrF 0 v8) fun v34 =>
  rdK PR (Instr.loadAt T_int v34) (fun v35 W =>
  okF (addrF 0 v8) fun v36 =>
  rdK PR (Instr.loadAt T_int v36) (fun v37 W =>
  okF (idxA 7 1 x7 v37) fun v38 =>
  rdK PR (Instr.loadAt T_int64 v38) (fun v39 W =>
  okF (addrF 1 v8) fun v40 =>
  rdK PR (Instr.loadAt T_int64 v40) (fun v41 W =>
  okF (foldP max2P [v39, v41]) fun v42 =>
  okF (idxA 7 1 x7 v35) fun v43 =>
  efK PR (Instr.storeAt T_int64 v43 v42) (fun _ W =>
  K1 [x3, x5, v33, x7, x15] W) W) W) W) W) (tick W)) W)) W) W) W) W) W) W) W) W) W) W) W) (
  J1 [x5, x6, x7] W)) W
def S.inst_Table_Would.body (R : Value → World → Prop) (v0 v1 : Value) (W : World) : Prop :=
  efK PR (Instr.box T_api_Dot v1) (fun v3 W =>
  efK PR (Instr.alloc T_vec_Vec true (.tuple #[])) (fun v5 W =>
  okF (bldP (fun i => some (i * 1, 1)) [.int .i64 0, .int .i64 0, .int .i64 0, .int .i64 0, .int .i64 0, .int .i64 0, .int .i64 0] []) fun v10 =>
  efK PR (Instr.alloc T_vec_Vec true (.tuple #[])) (fun v7 W =>
  efK PR (Instr.storeAt T_vec_Vec v7 v10) (fun _ W =>
  joinK (fun s W => S.inst_Table_Would.j1 R (nthv s 0) (nthv s 1) (nthv s 2) W) (fun J1 =>
  okF (nilP v0) fun v12 =>
  okF (addrF 0 v12) fun v13 =>
  rdK PR (Instr.loadAt T_m_api_Dot_inst_Rec v13) (fun v14 W =>
  efK PR (Instr.range T_m_api_Dot_inst_Rec v14) (fun v15 W =>
  loopK (fun K1 s W => S.inst_Table_Would.l1 J1 K1 (nthv s 0) (nthv s 1) (nthv s 2) (nthv s 3) (nthv s 4) W) [v3, v5, (.int .i64 0), v7, v15] W) W) W)) W) W) W) W
def S.inst_Table_Would.hint : Hint := (.two .nil (.two .nil (.at [5, 6, 7] (.two .nil (.at [3, 5, 6, 7, 15] (.two .nil (.two (.two .nil .nil) (.two .nil (.two (.two .nil (.two .nil .nil)) (.two .nil .nil))))) .nil)) (.two .nil .nil))))
theorem S.inst_Table_Would.ok (R : Value → World → Prop) (v0 v1 : Value) (W : World) : bodyK PR CB Try.f23 S.inst_Table_Would.hint [v0, v1] R W = S.inst_Table_Would.body R v0 v1 W := by kernel_rfl
theorem S.inst_Table_Would.fn : PR.funcs[F_inst_Table_Would]? = some Try.f23 := by kernel_rfl
theorem S.inst_Table_Would.call {R : Value → World → Prop} {v0 v1 : Value} {W : World} (h : S.inst_Table_Would.body R v0 v1 W) : callK PR F_inst_Table_Would [v0, v1] R W :=
  callK_of_body (g := F_inst_Table_Would) (fn := Try.f23) (args := [v0, v1]) (R := R) (w := W) mixed CBok S.inst_Table_Would.fn S.inst_Table_Would.hint (by rw [S.inst_Table_Would.ok]; exact h)
/-! ### rostrum/vec.Merge (24) -/
def S.vec_Merge.j1 (R : Value → World → Prop) (x2 x4 : Value) (W : World) : Prop :=
  rdK PR (Instr.loadAt T_vec_Vec x2) (fun v19 W =>
  efK PR (Instr.storeAt T_vec_Vec x4 v19) (fun _ W =>
  rdK PR (Instr.loadAt T_vec_Vec x4) (fun r0 W =>
  R r0 W) W) W) W
def S.vec_Merge.l1 (J1 : List Value → World → Prop) (K1 : List Value → World → Prop) (x2 x3 x4 x6 : Value) (W : World) : Prop :=
  okF (binP .lss x6 (.int .i64 7)) fun v7 =>
  ifK v7 (
  okF (idxA 7 1 x2 x6) fun v11 =>
  rdK PR (Instr.loadAt T_int64 v11) (fun v12 W =>
  okF (idxA 7 1 x3 x6) fun v14 =>
  rdK PR (Instr.loadAt T_int64 v14) (fun v15 W =>
  okF (foldP max2P [v12, v15]) fun v16 =>
  okF (idxA 7 1 x2 x6) fun v17 =>
  efK PR (Instr.storeAt T_int64 v17 v16) (fun _ W =>
  okF (binP .add x6 (.int .i64 1)) fun v18 =>
  K1 [x2, x3, x4, v18] W) W) W) (tick W)) (
  J1 [x2, x4] W)
def S.vec_Merge.body (R : Value → World → Prop) (v0 v1 : Value) (W : World) : Prop :=
  efK PR (Instr.box T_vec_Vec v0) (fun v2 W =>
  efK PR (Instr.box T_vec_Vec v1) (fun v3 W =>
  efK PR (Instr.alloc T_vec_Vec true (.tuple #[])) (fun v4 W =>
  joinK (fun s W => S.vec_Merge.j1 R (nthv s 0) (nthv s 1) W) (fun J1 =>
  loopK (fun K1 s W => S.vec_Merge.l1 J1 K1 (nthv s 0) (nthv s 1) (nthv s 2) (nthv s 3) W) [v2, v3, v4, (.int .i64 0)] W)) W) W) W
def S.vec_Merge.hint : Hint := (.two .nil (.at [2, 4] (.two .nil (.at [2, 3, 4, 6] (.two .nil (.two (.two .nil .nil) (.two (.two .nil .nil) .nil))) .nil)) (.two .nil .nil)))
theorem S.vec_Merge.ok (R : Value → World → Prop) (v0 v1 : Value) (W : World) : bodyK PR CB Try.f24 S.vec_Merge.hint [v0, v1] R W = S.vec_Merge.body R v0 v1 W := by kernel_rfl
theorem S.vec_Merge.fn : PR.funcs[F_vec_Merge]? = some Try.f24 := by kernel_rfl
theorem S.vec_Merge.call {R : Value → World → Prop} {v0 v1 : Value} {W : World} (h : S.vec_Merge.body R v0 v1 W) : callK PR F_vec_Merge [v0, v1] R W :=
  callK_of_body (g := F_vec_Merge) (fn := Try.f24) (args := [v0, v1]) (R := R) (w := W) mixed CBok S.vec_Merge.fn S.vec_Merge.hint (by rw [S.vec_Merge.ok]; exact h)
/-! ### rostrum/ballot.Most (25) -/
def S.ballot_Most.j1 (R : Value → World → Prop) (x2 x3 : Value) (W : World) : Prop :=
  rdK PR (Instr.loadAt T_ballot_Ballot x3) (fun v25 W =>
  efK PR (Instr.storeAt T_ballot_Ballot x2 v25) (fun _ W =>
  rdK PR (Instr.loadAt T_ballot_Ballot x2) (fun r0 W =>
  R r0 W) W) W) W
def S.ballot_Most.j2 (K1 : List Value → World → Prop) (x2 x3 x13 x14 x15 : Value) (W : World) : Prop :=
  okF (binP .add x15 (.int .i64 1)) fun v24 =>
  K1 [x2, x3, x13, x14, v24] W
def S.ballot_Most.l1 (J1 : List Value → World → Prop) (K1 : List Value → World → Prop) (x2 x3 x13 x14 x15 : Value) (W : World) : Prop :=
  okF (binP .lss x15 x14) fun v16 =>
  ifK v16 (
  joinK (fun s W => S.ballot_Most.j2 K1 (nthv s 0) (nthv s 1) (nthv s 2) (nthv s 3) (nthv s 4) W) (fun J2 =>
  okF (idxS 2 x13 x15) fun v17 =>
  rdK PR (Instr.loadAt T_ballot_Ballot v17) (fun v18 W =>
  efK PR (Instr.alloc T_ballot_Ballot true (.tuple #[])) (fun v5 W =>
  efK PR (Instr.storeAt T_ballot_Ballot v5 v18) (fun _ W =>
  rdK PR (Instr.loadAt T_ballot_Ballot v5) (fun v19 W =>
  rdK PR (Instr.loadAt T_ballot_Ballot x3) (fun v20 W =>
  callK PR F_ballot_Cmp [v19, v20] (fun v21 W =>
  okF (binP .gtr v21 (.int .i64 0)) fun v22 =>
  ifK v22 (
  rdK PR (Instr.loadAt T_ballot_Ballot v5) (fun v23 W =>
  efK PR (Instr.storeAt T_ballot_Ballot x3 v23) (fun _ W =>
  J2 [x2, x3, x13, x14, x15] W) W) W) (
  J2 [x2, x3, x13, x14, x15] W)) W) W) W) W) W) W)) (
  J1 [x2, x3] W)
def S.ballot_Most.body (R : Value → World → Prop) (v0 : Value) (W : World) : Prop :=
  efK PR (Instr.alloc T_ballot_Ballot true (.tuple #[])) (fun v2 W =>
  okF (lenP (.slice T_ballot_Ballot) v0) fun v7 =>
  okF (binP .eql v7 (.int .i64 0)) fun v8 =>
  ifK v8 (
  okF (bldP (fun i => ([(0, 1), (1, 1)] : List (Nat × Nat))[i]?) [.int .i64 0, .int .i64 0] []) fun v9 =>
  efK PR (Instr.storeAt T_ballot_Ballot v2 v9) (fun _ W =>
  rdK PR (Instr.loadAt T_ballot_Ballot v2) (fun r0 W =>
  R r0 W) W) W) (
  okF (idxS 2 v0 (.int .i64 0)) fun v11 =>
  rdK PR (Instr.loadAt T_ballot_Ballot v11) (fun v12 W =>
  efK PR (Instr.alloc T_ballot_Ballot true (.tuple #[])) (fun v3 W =>
  efK PR (Instr.storeAt T_ballot_Ballot v3 v12) (fun _ W =>
  joinK (fun s W => S.ballot_Most.j1 R (nthv s 0) (nthv s 1) W) (fun J1 =>
  okF (lenP (.slice T_ballot_Ballot) v0) fun v14 =>
  loopK (fun K1 s W => S.ballot_Most.l1 J1 K1 (nthv s 0) (nthv s 1) (nthv s 2) (nthv s 3) (nthv s 4) W) [v2, v3, v0, v14, (.int .i64 0)] W)) W) W) W)) W
def S.ballot_Most.hint : Hint := (.two .nil (.two (.two .nil (.two (.two .nil .nil) .nil)) (.two .nil (.at [2, 3] (.two .nil (.at [2, 3, 13, 14, 15] (.two .nil (.two (.two .nil .nil) (.at [2, 3, 13, 14, 15] (.two .nil (.two .nil (.two .nil .nil))) .nil))) .nil)) (.two .nil .nil)))))
theorem S.ballot_Most.ok (R : Value → World → Prop) (v0 : Value) (W : World) : bodyK PR CB Try.f25 S.ballot_Most.hint [v0] R W = S.ballot_Most.body R v0 W := by kernel_rfl
theorem S.ballot_Most.fn : PR.funcs[F_ballot_Most]? = some Try.f25 := by kernel_rfl
theorem S.ballot_Most.call {R : Value → World → Prop} {v0 : Value} {W : World} (h : S.ballot_Most.body R v0 W) : callK PR F_ballot_Most [v0] R W :=
  callK_of_body (g := F_ballot_Most) (fn := Try.f25) (args := [v0]) (R := R) (w := W) mixed CBok S.ballot_Most.fn S.ballot_Most.hint (by rw [S.ballot_Most.ok]; exact h)
/-! ### rostrum/inst.copied (26) -/
def S.inst_copied.body (R : Value → World → Prop) (v0 : Value) (W : World) : Prop :=
  efK PR (Instr.box T_inst_Rec v0) (fun v1 W =>
  efK PR (Instr.alloc T_inst_Rec true (.tuple #[])) (fun v2 W =>
  okF (addrF 1 v1) fun v3 =>
  rdK PR (Instr.loadAt T_s_uint8 v3) (fun v4 W =>
  callK PR F_bytes_Clone [v4] (fun v5 W =>
  okF (addrF 1 v1) fun v6 =>
  efK PR (Instr.storeAt T_s_uint8 v6 v5) (fun _ W =>
  rdK PR (Instr.loadAt T_inst_Rec v1) (fun v7 W =>
  efK PR (Instr.storeAt T_inst_Rec v2 v7) (fun _ W =>
  rdK PR (Instr.loadAt T_inst_Rec v2) (fun r0 W =>
  R r0 W) W) W) W) W) W) W) W) W
def S.inst_copied.hint : Hint := (.two .nil (.two .nil (.two .nil .nil)))
theorem S.inst_copied.ok (R : Value → World → Prop) (v0 : Value) (W : World) : bodyK PR CB Try.f26 S.inst_copied.hint [v0] R W = S.inst_copied.body R v0 W := by kernel_rfl
theorem S.inst_copied.fn : PR.funcs[F_inst_copied]? = some Try.f26 := by kernel_rfl
theorem S.inst_copied.call {R : Value → World → Prop} {v0 : Value} {W : World} (h : S.inst_copied.body R v0 W) : callK PR F_inst_copied [v0] R W :=
  callK_of_body (g := F_inst_copied) (fn := Try.f26) (args := [v0]) (R := R) (w := W) mixed CBok S.inst_copied.fn S.inst_copied.hint (by rw [S.inst_copied.ok]; exact h)
/-! ### rostrum/lead.good (27) -/
def S.lead_good.body (R : Value → World → Prop) (v0 v1 : Value) (W : World) : Prop :=
  okF (binP .geq v0 (.int .i64 3)) fun v6 =>
  gdK (wantd v6 true) (fun k W => k v0 W) (fun v8 W =>
  gdK (wantd v6 true) (fun k W => okF (binP .leq v8 (.int .i64 7)) fun v => k v W) (fun v9 W =>
  okF (pickP v6 v9 (.bool false)) fun v10 =>
  gdK (wantd v10 true) (fun k W => k v1 W) (fun v12 W =>
  gdK (wantd v10 true) (fun k W => okF (binP .geq v12 (.int .i64 0)) fun v => k v W) (fun v13 W =>
  okF (pickP v10 v13 (.bool false)) fun v14 =>
  gdK (wantd v14 true) (fun k W => k v1 W) (fun v16 W =>
  gdK (wantd v14 true) (fun k W => k v0 W) (fun v17 W =>
  gdK (wantd v14 true) (fun k W => okF (binP .lss v16 v17) fun v => k v W) (fun v18 W =>
  okF (pickP v14 v18 (.bool false)) fun v19 =>
  R v19 W) W) W) W) W) W) W) W
def S.lead_good.hint : Hint := (.two .nil (.two .nil .nil))
theorem S.lead_good.ok (R : Value → World → Prop) (v0 v1 : Value) (W : World) : bodyK PR CB Try.f27 S.lead_good.hint [v0, v1] R W = S.lead_good.body R v0 v1 W := by kernel_rfl
theorem S.lead_good.fn : PR.funcs[F_lead_good]? = some Try.f27 := by kernel_rfl
theorem S.lead_good.call {R : Value → World → Prop} {v0 v1 : Value} {W : World} (h : S.lead_good.body R v0 v1 W) : callK PR F_lead_good [v0, v1] R W :=
  callK_of_body (g := F_lead_good) (fn := Try.f27) (args := [v0, v1]) (R := R) (w := W) mixed CBok S.lead_good.fn S.lead_good.hint (by rw [S.lead_good.ok]; exact h)
/-! ### (*rostrum/lead.Lead).begin (28) -/
def S.lead_Lead_begin.j1 (R : Value → World → Prop) (x0 x1 x6 : Value) (W : World) : Prop :=
  okF (addrF 3 x6) fun v62 =>
  okF (addrF 0 v62) fun v63 =>
  rdK PR (Instr.loadAt T_int v63) (fun v64 W =>
  okF (binP .eql v64 (.int .i64 3)) fun v65 =>
  ifK v65 (
  okF (addrF 3 x6) fun v67 =>
  rdK PR (Instr.loadAt T_inst_Rec v67) (fun v68 W =>
  callK PR F_lead_Lead_decide [x0, v68, (.bool false)] (fun v69 W =>
  R (.tuple #[]) W) W) W) (
  okF (addrF 0 x6) fun v71 =>
  rdK PR (Instr.loadAt T_bool v71) (fun v72 W =>
  okF (unP .not v72) fun v73 =>
  ifK v73 (
  okF (nilP x0) fun v75 =>
  okF (addrF 17 v75) fun v76 =>
  efK PR (Instr.storeAt T_int v76 (.int .i64 5)) (fun _ W =>
  R (.tuple #[]) W) W) (
  okF (addrF 3 x6) fun v33 =>
  rdK PR (Instr.loadAt T_inst_Rec v33) (fun v34 W =>
  efK PR (Instr.alloc T_inst_Rec true (.tuple #[])) (fun v8 W =>
  efK PR (Instr.storeAt T_inst_Rec v8 v34) (fun _ W =>
  rdK PR (Instr.loadAt T_inst_Rec v8) (fun v36 W =>
  okF (nilP x0) fun v37 =>
  okF (addrF 27 v37) fun v38 =>
  efK PR (Instr.storeAt T_inst_Rec v38 v36) (fun _ W =>
  okF (nilP x0) fun v41 =>
  okF (addrF 1 v41) fun v42 =>
  rdK PR (Instr.loadAt T_int v42) (fun v43 W =>
  okF (nilP x0) fun v44 =>
  okF (addrF 20 v44) fun v45 =>
  okF (idxA 7 1 v45 v43) fun v46 =>
  efK PR (Instr.storeAt T_p_inst_Rec v46 v8) (fun _ W =>
  okF (binP .eql x1 (.int .i64 1)) fun v48 =>
  ifK v48 (
  okF (addrF 2 v8) fun v51 =>
  rdK PR (Instr.loadAt T_int64 v51) (fun v52 W =>
  okF (addrF 3 v8) fun v53 =>
  rdK PR (Instr.loadAt T_vec_Vec v53) (fun v54 W =>
  okF (nilP x0) fun v55 =>
  okF (addrF 3 v55) fun v56 =>
  okF (addrF 6 v56) fun v57 =>
  efK PR (Instr.storeAt T_int64 v57 v52) (fun _ W =>
  okF (nilP x0) fun v58 =>
  okF (addrF 3 v58) fun v59 =>
  okF (addrF 7 v59) fun v60 =>
  efK PR (Instr.storeAt T_vec_Vec v60 v54) (fun _ W =>
  R (.tuple #[]) W) W) W) W) W) (
  R (.tuple #[]) W)) W) (tick W)) W) W) W) W) W)) W)) W
def S.lead_Lead_begin.body (R : Value → World → Prop) (v0 v1 v2 : Value) (W : World) : Prop :=
  efK PR (Instr.box T_inst_Msg v2) (fun v5 W =>
  rdK PR (Instr.loadAt T_inst_Msg v5) (fun v12 W =>
  okF (nilP v0) fun v13 =>
  okF (addrF 17 v13) fun v14 =>
  efK PR (Instr.storeAt T_int v14 v1) (fun _ W =>
  stb PR [(3, true, (Instr.loadAt T_inst_Msg v5), v12)] (fun W =>
  okF (nilP v0) fun v15 =>
  okF (addrF 3 v15) fun v16 =>
  efK PR (Instr.storeAt T_inst_Msg v16 v12) (fun _ W =>
  okF (nilP v0) fun v18 =>
  okF (addrF 19 v18) fun v19 =>
  efK PR (Instr.storeAt T_bool v19 (.bool false)) (fun _ W =>
  okF (bldP (fun i => some (i * 1, 1)) [.pointer none, .pointer none, .pointer none, .pointer none, .pointer none, .pointer none, .pointer none] []) fun v21 =>
  okF (nilP v0) fun v22 =>
  okF (addrF 20 v22) fun v23 =>
  efK PR (Instr.storeAt T_a7_p_inst_Rec v23 v21) (fun _ W =>
  joinK (fun s W => S.lead_Lead_begin.j1 R (nthv s 0) (nthv s 1) (nthv s 2) W) (fun J1 =>
  okF (nilP v0) fun v26 =>
  okF (addrF 2 v26) fun v27 =>
  rdK PR (Instr.loadAt T_p_inst_Table v27) (fun v28 W =>
  rdK PR (Instr.loadAt T_inst_Msg v5) (fun v29 W =>
  (callK PR F_inst_Table_Do [v28, v29] (fun v30 W =>
  okF (extP 0 v30) fun v31 =>
  okF (extP 1 v30) fun v32 =>
  efK PR (Instr.alloc T_inst_Answer true (.tuple #[])) (fun v6 W =>
  efK PR (Instr.storeAt T_inst_Answer v6 v31) (fun _ W =>
  J1 [v0, v1, v6] W) W) W) W) ∧ (efK PR (Instr.alloc T_inst_Answer true (.tuple #[])) (fun v6_1 W =>
  stb PR [(4, true, (Instr.loadAt T_inst_Msg v5), v29), (3, true, (Instr.loadAt T_p_inst_Table v27), v28)] (fun W =>
  callK PR F_inst_Table_Do [v28, v29] (fun v30_1 W =>
  okF (extP 0 v30_1) fun v31_1 =>
  okF (extP 1 v30_1) fun v32_1 =>
  efK PR (Instr.storeAt T_inst_Answer v6_1 v31_1) (fun _ W =>
  J1 [v0, v1, v6_1] W) W) W) W) W)) W) (tick W))) W) W) W) W) W) (tick W)) W
def S.lead_Lead_begin.hint : Hint := (.two .nil (.two .nil (.two .nil (.two .nil (.at [0, 1, 6] .nil (.two .nil (.two .nil (.two .nil (.two .nil (.two .nil (.two .nil (.two .nil (.two .nil (.two .nil .nil))))))))))))))
theorem S.lead_Lead_begin.ok (R : Value → World → Prop) (v0 v1 v2 : Value) (W : World) : bodyK PR CB Try.f28 S.lead_Lead_begin.hint [v0, v1, v2] R W = S.lead_Lead_begin.body R v0 v1 v2 W := by kernel_rfl
theorem S.lead_Lead_begin.fn : PR.funcs[F_lead_Lead_begin]? = some Try.f28 := by kernel_rfl
theorem S.lead_Lead_begin.call {R : Value → World → Prop} {v0 v1 v2 : Value} {W : World} (h : S.lead_Lead_begin.body R v0 v1 v2 W) : callK PR F_lead_Lead_begin [v0, v1, v2] R W :=
  callK_of_body (g := F_lead_Lead_begin) (fn := Try.f28) (args := [v0, v1, v2]) (R := R) (w := W) mixed CBok S.lead_Lead_begin.fn S.lead_Lead_begin.hint (by rw [S.lead_Lead_begin.ok]; exact h)
/-! ### (*rostrum/lead.Lead).fits (29) -/
def S.lead_Lead_fits.body (R : Value → World → Prop) (v0 v1 : Value) (W : World) : Prop :=
  efK PR (Instr.box T_inst_Rec v1) (fun v3 W =>
  okF (nilP v0) fun v6 =>
  okF (addrF 17 v6) fun v7 =>
  rdK PR (Instr.loadAt T_int v7) (fun v8 W =>
  okF (binP .eql v8 (.int .i64 1)) fun v10 =>
  ifK v10 (
  okF (addrF 0 v3) fun v11 =>
  rdK PR (Instr.loadAt T_int v11) (fun v12 W =>
  okF (binP .eql v12 (.int .i64 1)) fun v13 =>
  gdK (wantd v13 true) (fun k W => okF (addrF 12 v3) fun v => k v W) (fun v15 W =>
  gdK (wantd v13 true) (fun k W => rdK PR (Instr.loadAt T_ballot_Ballot v15) k W) (fun v16 W =>
  gdK (wantd v13 true) (fun k W => k v0 W) (fun v17 W =>
  gdK (wantd v13 true) (fun k W => okF (nilP v17) fun v => k v W) (fun v18 W =>
  gdK (wantd v13 true) (fun k W => okF (addrF 3 v18) fun v => k v W) (fun v19 W =>
  gdK (wantd v13 true) (fun k W => okF (addrF 3 v19) fun v => k v W) (fun v20 W =>
  gdK (wantd v13 true) (fun k W => rdK PR (Instr.loadAt T_ballot_Ballot v20) k W) (fun v21 W =>
  gdK (wantd v13 true) (fun k W => rdK PR (aggEq .eql T_ballot_Ballot v16 v21) k W) (fun v22 W =>
  okF (pickP v13 v22 (.bool false)) fun v23 =>
  R v23 W) W) W) W) W) W) W) W) W) (tick W)) (
  okF (binP .eql v8 (.int .i64 2)) fun v25 =>
  ifK v25 (
  okF (addrF 0 v3) fun v26 =>
  rdK PR (Instr.loadAt T_int v26) (fun v27 W =>
  okF (binP .eql v27 (.int .i64 2)) fun v28 =>
  gdK (wantd v28 true) (fun k W => okF (addrF 12 v3) fun v => k v W) (fun v30 W =>
  gdK (wantd v28 true) (fun k W => rdK PR (Instr.loadAt T_ballot_Ballot v30) k W) (fun v31 W =>
  gdK (wantd v28 true) (fun k W => k v0 W) (fun v32 W =>
  gdK (wantd v28 true) (fun k W => okF (nilP v32) fun v => k v W) (fun v33 W =>
  gdK (wantd v28 true) (fun k W => okF (addrF 3 v33) fun v => k v W) (fun v34 W =>
  gdK (wantd v28 true) (fun k W => okF (addrF 3 v34) fun v => k v W) (fun v35 W =>
  gdK (wantd v28 true) (fun k W => rdK PR (Instr.loadAt T_ballot_Ballot v35) k W) (fun v36 W =>
  gdK (wantd v28 true) (fun k W => rdK PR (aggEq .eql T_ballot_Ballot v31 v36) k W) (fun v37 W =>
  okF (pickP v28 v37 (.bool false)) fun v38 =>
  R v38 W) W) W) W) W) W) W) W) W) (tick W)) (
  R (.bool true) W))) W) W
def S.lead_Lead_fits.hint : Hint := (.two .nil (.two (.two .nil (.two .nil (.two (.two .nil .nil) (.two .nil (.two (.two .nil .nil) .nil))))) (.two .nil .nil)))
theorem S.lead_Lead_fits.ok (R : Value → World → Prop) (v0 v1 : Value) (W : World) : bodyK PR CB Try.f29 S.lead_Lead_fits.hint [v0, v1] R W = S.lead_Lead_fits.body R v0 v1 W := by kernel_rfl
theorem S.lead_Lead_fits.fn : PR.funcs[F_lead_Lead_fits]? = some Try.f29 := by kernel_rfl
theorem S.lead_Lead_fits.call {R : Value → World → Prop} {v0 v1 : Value} {W : World} (h : S.lead_Lead_fits.body R v0 v1 W) : callK PR F_lead_Lead_fits [v0, v1] R W :=
  callK_of_body (g := F_lead_Lead_fits) (fn := Try.f29) (args := [v0, v1]) (R := R) (w := W) mixed CBok S.lead_Lead_fits.fn S.lead_Lead_fits.hint (by rw [S.lead_Lead_fits.ok]; exact h)
/-! ### (*rostrum/lead.Lead).decide (30) -/
def S.lead_Lead_decide.body (R : Value → World → Prop) (v0 v1 v2 : Value) (W : World) : Prop :=
  efK PR (Instr.box T_inst_Rec v1) (fun v4 W =>
  okF (nilP v0) fun v9 =>
  okF (addrF 17 v9) fun v10 =>
  efK PR (Instr.storeAt T_int v10 (.int .i64 3)) (fun _ W =>
  okF (nilP v0) fun v11 =>
  okF (addrF 18 v11) fun v12 =>
  efK PR (Instr.storeAt T_bool v12 v2) (fun _ W =>
  okF (nilP v0) fun v15 =>
  okF (addrF 3 v15) fun v16 =>
  okF (addrF 1 v16) fun v17 =>
  rdK PR (Instr.loadAt T_api_Dot v17) (fun v18 W =>
  okF (nilP v0) fun v20 =>
  okF (addrF 3 v20) fun v21 =>
  okF (addrF 3 v21) fun v22 =>
  rdK PR (Instr.loadAt T_ballot_Ballot v22) (fun v23 W =>
  okF (addrF 1 v4) fun v24 =>
  rdK PR (Instr.loadAt T_s_uint8 v24) (fun v25 W =>
  okF (addrF 2 v4) fun v27 =>
  rdK PR (Instr.loadAt T_int64 v27) (fun v28 W =>
  okF (addrF 3 v4) fun v29 =>
  rdK PR (Instr.loadAt T_vec_Vec v29) (fun v30 W =>
  callK PR F_bytes_Clone [v25] (fun v26 W =>
  stb PR [(17, true, (Instr.loadAt T_vec_Vec v29), v30), (15, true, (Instr.loadAt T_int64 v27), v28), (10, true, (Instr.loadAt T_ballot_Ballot v22), v23), (5, true, (Instr.loadAt T_api_Dot v17), v18)] (fun W =>
  okF (bldP (fun i => ([(0, 1), (1, 2), (3, 2), (5, 1), (6, 1), (7, 7)] : List (Nat × Nat))[i]?) [.int .i64 0, .int .i64 0, .int .i64 0, .int .i64 0, .int .i64 0, .slice none 0 0, .int .i64 0, .int .i64 0, .int .i64 0, .int .i64 0, .int .i64 0, .int .i64 0, .int .i64 0, .int .i64 0] [(0, (.int .i64 3)), (1, v18), (2, v23), (3, v26), (4, v28), (5, v30)]) fun v31 =>
  okF (nilP v0) fun v32 =>
  okF (addrF 3 v32) fun v33 =>
  efK PR (Instr.storeAt T_inst_Msg v33 v31) (fun _ W =>
  okF (nilP v0) fun v35 =>
  okF (addrF 2 v35) fun v36 =>
  rdK PR (Instr.loadAt T_p_inst_Table v36) (fun v37 W =>
  okF (nilP v0) fun v39 =>
  okF (addrF 3 v39) fun v40 =>
  rdK PR (Instr.loadAt T_inst_Msg v40) (fun v41 W =>
  callK PR F_inst_Table_Do [v37, v41] (fun v42 W =>
  R (.tuple #[]) W) W) W) (tick W)) W) W) W) W) W) W) W) (tick W)) W) W) W
def S.lead_Lead_decide.hint : Hint := (.two .nil (.two .nil (.two .nil .nil)))
theorem S.lead_Lead_decide.ok (R : Value → World → Prop) (v0 v1 v2 : Value) (W : World) : bodyK PR CB Try.f30 S.lead_Lead_decide.hint [v0, v1, v2] R W = S.lead_Lead_decide.body R v0 v1 v2 W := by kernel_rfl
theorem S.lead_Lead_decide.fn : PR.funcs[F_lead_Lead_decide]? = some Try.f30 := by kernel_rfl
theorem S.lead_Lead_decide.call {R : Value → World → Prop} {v0 v1 v2 : Value} {W : World} (h : S.lead_Lead_decide.body R v0 v1 v2 W) : callK PR F_lead_Lead_decide [v0, v1, v2] R W :=
  callK_of_body (g := F_lead_Lead_decide) (fn := Try.f30) (args := [v0, v1, v2]) (R := R) (w := W) mixed CBok S.lead_Lead_decide.fn S.lead_Lead_decide.hint (by rw [S.lead_Lead_decide.ok]; exact h)
/-! ### rostrum/ballot.Cmp (31) -/
def S.ballot_Cmp.body (R : Value → World → Prop) (v0 v1 : Value) (W : World) : Prop :=
  efK PR (Instr.box T_ballot_Ballot v0) (fun v2 W =>
  efK PR (Instr.box T_ballot_Ballot v1) (fun v3 W =>
  okF (addrF 0 v2) fun v5 =>
  rdK PR (Instr.loadAt T_int64 v5) (fun v6 W =>
  okF (addrF 0 v3) fun v7 =>
  rdK PR (Instr.loadAt T_int64 v7) (fun v8 W =>
  okF (addrF 1 v2) fun v10 =>
  rdK PR (Instr.loadAt T_int v10) (fun v11 W =>
  okF (addrF 1 v3) fun v12 =>
  rdK PR (Instr.loadAt T_int v12) (fun v13 W =>
  callK PR F_cmp_Compare_int64 [v6, v8] (fun v9 W =>
  stb PR [(8, true, (Instr.loadAt T_int v12), v13), (6, true, (Instr.loadAt T_int v10), v11)] (fun W =>
  callK PR F_cmp_Compare_int [v11, v13] (fun v14 W =>
  efK PR (Instr.buildSlice T_s_int 2 #[(0, v9), (1, v14)]) (fun v15 W =>
  callK PR F_cmp_Or_int [v15] (fun v16 W =>
  R v16 W) W) W) W) W) W) W) W) W) (tick W)) W) W
def S.ballot_Cmp.hint : Hint := (.two .nil (.two .nil .nil))
theorem S.ballot_Cmp.ok (R : Value → World → Prop) (v0 v1 : Value) (W : World) : bodyK PR CB Try.f31 S.ballot_Cmp.hint [v0, v1] R W = S.ballot_Cmp.body R v0 v1 W := by kernel_rfl
theorem S.ballot_Cmp.fn : PR.funcs[F_ballot_Cmp]? = some Try.f31 := by kernel_rfl
theorem S.ballot_Cmp.call {R : Value → World → Prop} {v0 v1 : Value} {W : World} (h : S.ballot_Cmp.body R v0 v1 W) : callK PR F_ballot_Cmp [v0, v1] R W :=
  callK_of_body (g := F_ballot_Cmp) (fn := Try.f31) (args := [v0, v1]) (R := R) (w := W) mixed CBok S.ballot_Cmp.fn S.ballot_Cmp.hint (by rw [S.ballot_Cmp.ok]; exact h)
/-! ### (*rostrum/lead.Lead).heard (32) -/
def S.lead_Lead_heard.body (R : Value → World → Prop) (v0 : Value) (W : World) : Prop :=
  okF (nilP v0) fun v6 =>
  okF (addrF 0 v6) fun v7 =>
  rdK PR (Instr.loadAt T_int v7) (fun v8 W =>
  callK PR F_lead_Lead_count [v0] (fun v4 W =>
  stb PR [(5, true, (Instr.loadAt T_int v7), v8)] (fun W =>
  okF (binP .eql v4 v8) fun v9 =>
  gdK (wantd v9 true) (fun k W => k v0 W) (fun v11 W =>
  gdK (wantd v9 true) (fun k W => okF (nilP v11) fun v => k v W) (fun v12 W =>
  gdK (wantd v9 true) (fun k W => okF (addrF 19 v12) fun v => k v W) (fun v13 W =>
  gdK (wantd v9 true) (fun k W => rdK PR (Instr.loadAt T_bool v13) k W) (fun v14 W =>
  gdK (wantd v9 true) (fun k W => okF (unP .not v14) fun v => k v W) (fun v15 W =>
  okF (pickP v9 v15 (.bool false)) fun v16 =>
  gdK (wantd v16 true) (fun k W => k v0 W) (fun v18 W =>
  gdK (wantd v16 true) (fun k W => okF (nilP v18) fun v => k v W) (fun v19 W =>
  gdK (wantd v16 true) (fun k W => okF (addrF 3 v19) fun v => k v W) (fun v20 W =>
  gdK (wantd v16 true) (fun k W => okF (addrF 3 v20) fun v => k v W) (fun v21 W =>
  gdK (wantd v16 true) (fun k W => okF (addrF 0 v21) fun v => k v W) (fun v22 W =>
  gdK (wantd v16 true) (fun k W => rdK PR (Instr.loadAt T_int64 v22) k W) (fun v23 W =>
  gdK (wantd v16 true) (fun k W => okF (binP .eql v23 (.int .i64 0)) fun v => k v W) (fun v24 W =>
  okF (pickP v16 v24 (.bool false)) fun v25 =>
  ifK v25 (
  okF (nilP v0) fun v28 =>
  okF (addrF 27 v28) fun v29 =>
  rdK PR (Instr.loadAt T_inst_Rec v29) (fun v30 W =>
  callK PR F_lead_Lead_decide [v0, v30, (.bool true)] (fun v31 W =>
  R (.tuple #[]) W) W) W) (
  callK PR F_lead_Lead_majority [v0] (fun v34 W =>
  gdK (wantd v34 true) (fun k W => k v0 W) (fun v36 W =>
  gdK (wantd v34 true) (fun k W => okF (nilP v36) fun v => k v W) (fun v37 W =>
  gdK (wantd v34 true) (fun k W => okF (addrF 19 v37) fun v => k v W) (fun v38 W =>
  gdK (wantd v34 true) (fun k W => rdK PR (Instr.loadAt T_bool v38) k W) (fun v39 W =>
  gdK (wantd v34 true) (fun k W => k v39 W) (fun v40 W =>
  gdK (wantd v40 false) (fun k W => k v0 W) (fun v41 W =>
  gdK (wantd v40 false) (fun k W => okF (nilP v41) fun v => k v W) (fun v42 W =>
  gdK (wantd v40 false) (fun k W => okF (addrF 3 v42) fun v => k v W) (fun v43 W =>
  gdK (wantd v40 false) (fun k W => okF (addrF 3 v43) fun v => k v W) (fun v44 W =>
  gdK (wantd v40 false) (fun k W => okF (addrF 0 v44) fun v => k v W) (fun v45 W =>
  gdK (wantd v40 false) (fun k W => rdK PR (Instr.loadAt T_int64 v45) k W) (fun v46 W =>
  gdK (wantd v40 false) (fun k W => okF (binP .gtr v46 (.int .i64 0)) fun v => k v W) (fun v47 W =>
  gdK (wantd v34 true) (fun k W => okF (pickP v40 (.bool true) v47) fun v => k v W) (fun v48 W =>
  okF (pickP v34 v48 (.bool false)) fun v49 =>
  ifK v49 (
  callK PR F_lead_Lead_accept [v0] (fun v51 W =>
  R (.tuple #[]) W) W) (
  R (.tuple #[]) W)) W) W) W) W) W) W) W) W) W) W) W) W) W) W)) W) W) W) W) W) W) W) W) W) W) W) W) W) W) (tick W)
def S.lead_Lead_heard.hint : Hint := (.two .nil (.two .nil (.two .nil (.two .nil .nil))))
theorem S.lead_Lead_heard.ok (R : Value → World → Prop) (v0 : Value) (W : World) : bodyK PR CB Try.f32 S.lead_Lead_heard.hint [v0] R W = S.lead_Lead_heard.body R v0 W := by kernel_rfl
theorem S.lead_Lead_heard.fn : PR.funcs[F_lead_Lead_heard]? = some Try.f32 := by kernel_rfl
theorem S.lead_Lead_heard.call {R : Value → World → Prop} {v0 : Value} {W : World} (h : S.lead_Lead_heard.body R v0 W) : callK PR F_lead_Lead_heard [v0] R W :=
  callK_of_body (g := F_lead_Lead_heard) (fn := Try.f32) (args := [v0]) (R := R) (w := W) mixed CBok S.lead_Lead_heard.fn S.lead_Lead_heard.hint (by rw [S.lead_Lead_heard.ok]; exact h)
/-! ### (*rostrum/lead.Lead).majority (33) -/
def S.lead_Lead_majority.body (R : Value → World → Prop) (v0 : Value) (W : World) : Prop :=
  okF (nilP v0) fun v6 =>
  okF (addrF 0 v6) fun v7 =>
  rdK PR (Instr.loadAt T_int v7) (fun v8 W =>
  okF (binP .quo v8 (.int .i64 2)) fun v9 =>
  okF (binP .add v9 (.int .i64 1)) fun v10 =>
  callK PR F_lead_Lead_count [v0] (fun v4 W =>
  stb PR [(5, true, (Instr.loadAt T_int v7), v8)] (fun W =>
  okF (binP .geq v4 v10) fun v11 =>
  R v11 W) W) W) (tick W)
def S.lead_Lead_majority.hint : Hint := (.two .nil (.two .nil .nil))
theorem S.lead_Lead_majority.ok (R : Value → World → Prop) (v0 : Value) (W : World) : bodyK PR CB Try.f33 S.lead_Lead_majority.hint [v0] R W = S.lead_Lead_majority.body R v0 W := by kernel_rfl
theorem S.lead_Lead_majority.fn : PR.funcs[F_lead_Lead_majority]? = some Try.f33 := by kernel_rfl
theorem S.lead_Lead_majority.call {R : Value → World → Prop} {v0 : Value} {W : World} (h : S.lead_Lead_majority.body R v0 W) : callK PR F_lead_Lead_majority [v0] R W :=
  callK_of_body (g := F_lead_Lead_majority) (fn := Try.f33) (args := [v0]) (R := R) (w := W) mixed CBok S.lead_Lead_majority.fn S.lead_Lead_majority.hint (by rw [S.lead_Lead_majority.ok]; exact h)
/-! ### (*rostrum/lead.Lead).prepared (34) -/
def S.lead_Lead_prepared.body (R : Value → World → Prop) (v0 : Value) (W : World) : Prop :=
  efK PR (Instr.box T_p_lead_Lead v0) (fun v1 W =>
  rdK PR (Instr.loadAt T_p_lead_Lead v1) (fun v6 W =>
  okF (nilP v6) fun v7 =>
  okF (addrF 3 v7) fun v8 =>
  rdK PR (Instr.loadAt T_inst_Msg v8) (fun v9 W =>
  efK PR (Instr.alloc T_inst_Msg true (.tuple #[])) (fun v2 W =>
  efK PR (Instr.storeAt T_inst_Msg v2 v9) (fun _ W =>
  okF (addrF 0 v2) fun v10 =>
  efK PR (Instr.storeAt T_int v10 (.int .i64 2)) (fun _ W =>
  rdK PR (Instr.loadAt T_p_lead_Lead v1) (fun v12 W =>
  callK PR F_lead_Lead_greatest [v12, (.int .i64 2)] (fun v13 W =>
  rdK PR (Instr.loadAt T_p_lead_Lead v1) (fun v14 W =>
  callK PR F_lead_Lead_greatest [v14, (.int .i64 1)] (fun v15 W =>
  okF (eqP (.pointer T_inst_Rec) .neq v13 (.pointer none)) fun v33 =>
  ifK v33 (
  vcK PR (.func (.func F_lead_Lead_prepared_1) #[] #[v2, v1]) [v13] (fun v36 W =>
  R (.tuple #[]) W) W) (
  rdK PR (Instr.loadAt T_p_lead_Lead v1) (fun v38 W =>
  callK PR F_lead_Lead_alike [v38] (fun v39 W =>
  ifK v39 (
  rdK PR (Instr.loadAt T_p_lead_Lead v1) (fun v41 W =>
  callK PR F_lead_Lead_first [v41] (fun v42 W =>
  vcK PR (.func (.func F_lead_Lead_prepared_1) #[] #[v2, v1]) [v42] (fun v43 W =>
  R (.tuple #[]) W) W) W) W) (
  okF (eqP (.pointer T_inst_Rec) .neq v15 (.pointer none)) fun v46 =>
  ifK v46 (
  okF (nilP v15) fun v48 =>
  okF (addrF 1 v48) fun v49 =>
  rdK PR (Instr.loadAt T_s_uint8 v49) (fun v50 W =>
  okF (addrF 0 v2) fun v51 =>
  efK PR (Instr.storeAt T_int v51 (.int .i64 1)) (fun _ W =>
  stb PR [(3, true, (Instr.loadAt T_s_uint8 v49), v50)] (fun W =>
  okF (addrF 5 v2) fun v52 =>
  efK PR (Instr.storeAt T_s_uint8 v52 v50) (fun _ W =>
  rdK PR (Instr.loadAt T_p_lead_Lead v1) (fun v53 W =>
  rdK PR (Instr.loadAt T_inst_Msg v2) (fun v54 W =>
  callK PR F_lead_Lead_begin [v53, (.int .i64 1), v54] (fun v55 W =>
  R (.tuple #[]) W) W) W) W) W) W) W) (tick W)) (
  rdK PR (Instr.loadAt T_p_lead_Lead v1) (fun v17 W =>
  okF (nilP v17) fun v18 =>
  okF (addrF 2 v18) fun v19 =>
  rdK PR (Instr.loadAt T_p_inst_Table v19) (fun v20 W =>
  okF (addrF 1 v2) fun v21 =>
  rdK PR (Instr.loadAt T_api_Dot v21) (fun v22 W =>
  callK PR F_inst_Table_Would [v20, v22] (fun v23 W =>
  okF (extP 0 v23) fun v24 =>
  okF (extP 1 v23) fun v25 =>
  okF (addrF 6 v2) fun v26 =>
  efK PR (Instr.storeAt T_int64 v26 v24) (fun _ W =>
  okF (addrF 7 v2) fun v27 =>
  efK PR (Instr.storeAt T_vec_Vec v27 v25) (fun _ W =>
  rdK PR (Instr.loadAt T_p_lead_Lead v1) (fun v28 W =>
  rdK PR (Instr.loadAt T_inst_Msg v2) (fun v29 W =>
  callK PR F_lead_Lead_begin [v28, (.int .i64 2), v29] (fun v30 W =>
  R (.tuple #[]) W) W) W) W) W) W) W) W) W) (tick W)))) W) W)) W) W) W) W) W) W) W) W) W) W
def S.lead_Lead_prepared.hint : Hint := (.two .nil (.two .nil (.two .nil (.two .nil (.two .nil (.two .nil (.two .nil (.two .nil (.two .nil (.two .nil (.two .nil (.two (.two .nil .nil) (.two .nil .nil)))))))))))))
theorem S.lead_Lead_prepared.ok (R : Value → World → Prop) (v0 : Value) (W : World) : bodyK PR CB Try.f34 S.lead_Lead_prepared.hint [v0] R W = S.lead_Lead_prepared.body R v0 W := by kernel_rfl
theorem S.lead_Lead_prepared.fn : PR.funcs[F_lead_Lead_prepared]? = some Try.f34 := by kernel_rfl
theorem S.lead_Lead_prepared.call {R : Value → World → Prop} {v0 : Value} {W : World} (h : S.lead_Lead_prepared.body R v0 W) : callK PR F_lead_Lead_prepared [v0] R W :=
  callK_of_body (g := F_lead_Lead_prepared) (fn := Try.f34) (args := [v0]) (R := R) (w := W) mixed CBok S.lead_Lead_prepared.fn S.lead_Lead_prepared.hint (by rw [S.lead_Lead_prepared.ok]; exact h)
/-! ### (*rostrum/lead.Lead).accept (35) -/
def S.lead_Lead_accept.j1 (R : Value → World → Prop) (x0 x2 : Value) (W : World) : Prop :=
  rdK PR (Instr.loadAt T_inst_Msg x2) (fun v37 W =>
  callK PR F_lead_Lead_begin [x0, (.int .i64 2), v37] (fun v38 W =>
  R (.tuple #[]) W) W) W
def S.lead_Lead_accept.j2 (K1 : List Value → World → Prop) (x0 x2 x13 x14 : Value) (W : World) : Prop :=
  okF (binP .add x14 (.int .i64 1)) fun v35 =>
  K1 [x0, x2, x13, v35] W
def S.lead_Lead_accept.l1 (J1 : List Value → World → Prop) (K1 : List Value → World → Prop) (x0 x2 x13 x14 : Value) (W : World) : Prop :=
  okF (binP .lss x14 (.int .i64 7)) fun v15 =>
  ifK v15 (
  joinK (fun s W => S.lead_Lead_accept.j2 K1 (nthv s 0) (nthv s 1) (nthv s 2) (nthv s 3) W) (fun J2 =>
  okF (idxV 7 false 1 x13 x14) fun v16 =>
  okF (eqP (.pointer T_inst_Rec) .neq v16 (.pointer none)) fun v18 =>
  ifK v18 (
  okF (addrF 6 x2) fun v19 =>
  rdK PR (Instr.loadAt T_int64 v19) (fun v20 W =>
  okF (nilP v16) fun v22 =>
  okF (addrF 2 v22) fun v23 =>
  rdK PR (Instr.loadAt T_int64 v23) (fun v24 W =>
  okF (foldP max2P [v20, v24]) fun v25 =>
  okF (addrF 6 x2) fun v26 =>
  efK PR (Instr.storeAt T_int64 v26 v25) (fun _ W =>
  okF (addrF 7 x2) fun v27 =>
  rdK PR (Instr.loadAt T_vec_Vec v27) (fun v28 W =>
  okF (nilP v16) fun v30 =>
  okF (addrF 3 v30) fun v31 =>
  rdK PR (Instr.loadAt T_vec_Vec v31) (fun v32 W =>
  callK PR F_vec_Merge [v28, v32] (fun v33 W =>
  okF (addrF 7 x2) fun v34 =>
  efK PR (Instr.storeAt T_vec_Vec v34 v33) (fun _ W =>
  J2 [x0, x2, x13, x14] W) W) W) W) (tick W)) W) W) (tick W)) (
  J2 [x0, x2, x13, x14] W))) (
  J1 [x0, x2] W)
def S.lead_Lead_accept.body (R : Value → World → Prop) (v0 : Value) (W : World) : Prop :=
  okF (nilP v0) fun v6 =>
  okF (addrF 3 v6) fun v7 =>
  rdK PR (Instr.loadAt T_inst_Msg v7) (fun v8 W =>
  efK PR (Instr.alloc T_inst_Msg true (.tuple #[])) (fun v2 W =>
  efK PR (Instr.storeAt T_inst_Msg v2 v8) (fun _ W =>
  okF (addrF 0 v2) fun v9 =>
  efK PR (Instr.storeAt T_int v9 (.int .i64 2)) (fun _ W =>
  joinK (fun s W => S.lead_Lead_accept.j1 R (nthv s 0) (nthv s 1) W) (fun J1 =>
  okF (nilP v0) fun v11 =>
  okF (addrF 20 v11) fun v12 =>
  rdK PR (Instr.loadAt T_a7_p_inst_Rec v12) (fun v13 W =>
  loopK (fun K1 s W => S.lead_Lead_accept.l1 J1 K1 (nthv s 0) (nthv s 1) (nthv s 2) (nthv s 3) W) [v0, v2, v13, (.int .i64 0)] W) W)) W) W) W) W
def S.lead_Lead_accept.hint : Hint := (.two .nil (.two .nil (.at [0, 2] (.two .nil (.at [0, 2, 13, 14] (.two .nil (.two (.two .nil .nil) (.at [0, 2, 13, 14] (.two .nil (.two .nil (.two (.two .nil .nil) .nil))) .nil))) .nil)) .nil)))
theorem S.lead_Lead_accept.ok (R : Value → World → Prop) (v0 : Value) (W : World) : bodyK PR CB Try.f35 S.lead_Lead_accept.hint [v0] R W = S.lead_Lead_accept.body R v0 W := by kernel_rfl
theorem S.lead_Lead_accept.fn : PR.funcs[F_lead_Lead_accept]? = some Try.f35 := by kernel_rfl
theorem S.lead_Lead_accept.call {R : Value → World → Prop} {v0 : Value} {W : World} (h : S.lead_Lead_accept.body R v0 W) : callK PR F_lead_Lead_accept [v0] R W :=
  callK_of_body (g := F_lead_Lead_accept) (fn := Try.f35) (args := [v0]) (R := R) (w := W) mixed CBok S.lead_Lead_accept.fn S.lead_Lead_accept.hint (by rw [S.lead_Lead_accept.ok]; exact h)
/-! ### rostrum/ballot.Next (36) -/
def S.ballot_Next.body (R : Value → World → Prop) (v0 v1 : Value) (W : World) : Prop :=
  efK PR (Instr.box T_ballot_Ballot v0) (fun v2 W =>
  efK PR (Instr.alloc T_ballot_Ballot true (.tuple #[])) (fun v4 W =>
  rdK PR (Instr.loadAt T_ballot_Ballot v2) (fun v7 W =>
  callK PR F_ballot_Good [v7] (fun v8 W =>
  okF (unP .not v8) fun v9 =>
  gdK (wantd v9 false) (fun k W => k v1 W) (fun v11 W =>
  gdK (wantd v9 false) (fun k W => callK PR F_ballot_rep [v11] k W) (fun v12 W =>
  gdK (wantd v9 false) (fun k W => okF (unP .not v12) fun v => k v W) (fun v13 W =>
  okF (pickP v9 (.bool true) v13) fun v14 =>
  ifK v14 (
  okF (bldP (fun i => ([(0, 1), (1, 1)] : List (Nat × Nat))[i]?) [.int .i64 0, .int .i64 0] []) fun v15 =>
  efK PR (Instr.storeAt T_ballot_Ballot v4 v15) (fun _ W =>
  rdK PR (Instr.loadAt T_ballot_Ballot v4) (fun r0 W =>
  R (.tuple #[r0, (.int .i64 1)]) W) W) W) (
  okF (addrF 0 v2) fun v17 =>
  rdK PR (Instr.loadAt T_int64 v17) (fun v18 W =>
  okF (binP .eql v18 (.int .i64 1099511627776)) fun v19 =>
  ifK v19 (
  okF (bldP (fun i => ([(0, 1), (1, 1)] : List (Nat × Nat))[i]?) [.int .i64 0, .int .i64 0] []) fun v20 =>
  efK PR (Instr.storeAt T_ballot_Ballot v4 v20) (fun _ W =>
  rdK PR (Instr.loadAt T_ballot_Ballot v4) (fun r0 W =>
  R (.tuple #[r0, (.int .i64 2)]) W) W) W) (
  okF (addrF 0 v2) fun v21 =>
  rdK PR (Instr.loadAt T_int64 v21) (fun v22 W =>
  okF (binP .add v22 (.int .i64 1)) fun v23 =>
  okF (bldP (fun i => ([(0, 1), (1, 1)] : List (Nat × Nat))[i]?) [.int .i64 0, .int .i64 0] [(0, v23), (1, v1)]) fun v25 =>
  efK PR (Instr.storeAt T_ballot_Ballot v4 v25) (fun _ W =>
  rdK PR (Instr.loadAt T_ballot_Ballot v4) (fun r0 W =>
  R (.tuple #[r0, (.int .i64 0)]) W) W) W) W)) W)) W) W) W) W) W) W) W
def S.ballot_Next.hint : Hint := (.two .nil (.two (.two .nil (.two (.two .nil .nil) (.two .nil (.two (.two .nil .nil) .nil)))) (.two .nil .nil)))
theorem S.ballot_Next.ok (R : Value → World → Prop) (v0 v1 : Value) (W : World) : bodyK PR CB Try.f36 S.ballot_Next.hint [v0, v1] R W = S.ballot_Next.body R v0 v1 W := by kernel_rfl
theorem S.ballot_Next.fn : PR.funcs[F_ballot_Next]? = some Try.f36 := by kernel_rfl
theorem S.ballot_Next.call {R : Value → World → Prop} {v0 v1 : Value} {W : World} (h : S.ballot_Next.body R v0 v1 W) : callK PR F_ballot_Next [v0, v1] R W :=
  callK_of_body (g := F_ballot_Next) (fn := Try.f36) (args := [v0, v1]) (R := R) (w := W) mixed CBok S.ballot_Next.fn S.ballot_Next.hint (by rw [S.ballot_Next.ok]; exact h)
/-! ### rostrum/inst.Dot (37) -/
def S.inst_Dot.body (R : Value → World → Prop) (v0 : Value) (W : World) : Prop :=
  efK PR (Instr.box T_api_Dot v0) (fun v1 W =>
  okF (addrF 0 v1) fun v3 =>
  rdK PR (Instr.loadAt T_int v3) (fun v4 W =>
  callK PR F_vec_Rep [v4] (fun v5 W =>
  gdK (wantd v5 true) (fun k W => okF (addrF 1 v1) fun v => k v W) (fun v7 W =>
  gdK (wantd v5 true) (fun k W => rdK PR (Instr.loadAt T_int64 v7) k W) (fun v8 W =>
  gdK (wantd v5 true) (fun k W => okF (binP .geq v8 (.int .i64 1)) fun v => k v W) (fun v9 W =>
  okF (pickP v5 v9 (.bool false)) fun v10 =>
  gdK (wantd v10 true) (fun k W => okF (addrF 1 v1) fun v => k v W) (fun v12 W =>
  gdK (wantd v10 true) (fun k W => rdK PR (Instr.loadAt T_int64 v12) k W) (fun v13 W =>
  gdK (wantd v10 true) (fun k W => okF (binP .leq v13 (.int .i64 1000)) fun v => k v W) (fun v14 W =>
  okF (pickP v10 v14 (.bool false)) fun v15 =>
  R v15 W) W) W) W) W) W) W) W) W) W
def S.inst_Dot.hint : Hint := (.two .nil (.two .nil .nil))
theorem S.inst_Dot.ok (R : Value → World → Prop) (v0 : Value) (W : World) : bodyK PR CB Try.f37 S.inst_Dot.hint [v0] R W = S.inst_Dot.body R v0 W := by kernel_rfl
theorem S.inst_Dot.fn : PR.funcs[F_inst_Dot]? = some Try.f37 := by kernel_rfl
theorem S.inst_Dot.call {R : Value → World → Prop} {v0 : Value} {W : World} (h : S.inst_Dot.body R v0 W) : callK PR F_inst_Dot [v0] R W :=
  callK_of_body (g := F_inst_Dot) (fn := Try.f37) (args := [v0]) (R := R) (w := W) mixed CBok S.inst_Dot.fn S.inst_Dot.hint (by rw [S.inst_Dot.ok]; exact h)
/-! ### rostrum/ballot.Good (38) -/
def S.ballot_Good.body (R : Value → World → Prop) (v0 : Value) (W : World) : Prop :=
  efK PR (Instr.box T_ballot_Ballot v0) (fun v1 W =>
  okF (addrF 0 v1) fun v3 =>
  rdK PR (Instr.loadAt T_int64 v3) (fun v4 W =>
  okF (binP .geq v4 (.int .i64 0)) fun v5 =>
  gdK (wantd v5 true) (fun k W => okF (addrF 0 v1) fun v => k v W) (fun v7 W =>
  gdK (wantd v5 true) (fun k W => rdK PR (Instr.loadAt T_int64 v7) k W) (fun v8 W =>
  gdK (wantd v5 true) (fun k W => okF (binP .leq v8 (.int .i64 1099511627776)) fun v => k v W) (fun v9 W =>
  okF (pickP v5 v9 (.bool false)) fun v10 =>
  gdK (wantd v10 true) (fun k W => okF (addrF 1 v1) fun v => k v W) (fun v12 W =>
  gdK (wantd v10 true) (fun k W => rdK PR (Instr.loadAt T_int v12) k W) (fun v13 W =>
  gdK (wantd v10 true) (fun k W => callK PR F_ballot_rep [v13] k W) (fun v14 W =>
  okF (pickP v10 v14 (.bool false)) fun v15 =>
  R v15 W) W) W) W) W) W) W) W) W
def S.ballot_Good.hint : Hint := (.two .nil (.two .nil .nil))
theorem S.ballot_Good.ok (R : Value → World → Prop) (v0 : Value) (W : World) : bodyK PR CB Try.f38 S.ballot_Good.hint [v0] R W = S.ballot_Good.body R v0 W := by kernel_rfl
theorem S.ballot_Good.fn : PR.funcs[F_ballot_Good]? = some Try.f38 := by kernel_rfl
theorem S.ballot_Good.call {R : Value → World → Prop} {v0 : Value} {W : World} (h : S.ballot_Good.body R v0 W) : callK PR F_ballot_Good [v0] R W :=
  callK_of_body (g := F_ballot_Good) (fn := Try.f38) (args := [v0]) (R := R) (w := W) mixed CBok S.ballot_Good.fn S.ballot_Good.hint (by rw [S.ballot_Good.ok]; exact h)
/-! ### rostrum/inst.content (39) -/
def S.inst_content.j1 (R : Value → World → Prop) (x0 x1 : Value) (W : World) : Prop :=
  okF (binP .geq x1 (.int .i64 0)) fun v21 =>
  gdK (wantd v21 true) (fun k W => k x1 W) (fun v23 W =>
  gdK (wantd v21 true) (fun k W => okF (binP .leq v23 (.int .i64 1099511627776)) fun v => k v W) (fun v24 W =>
  okF (pickP v21 v24 (.bool false)) fun v25 =>
  gdK (wantd v25 true) (fun k W => k x0 W) (fun v27 W =>
  gdK (wantd v25 true) (fun k W => okF (lenP (.slice T_uint8) v27) fun v => k v W) (fun v28 W =>
  gdK (wantd v25 true) (fun k W => okF (binP .leq v28 (.int .i64 300)) fun v => k v W) (fun v29 W =>
  okF (pickP v25 v29 (.bool false)) fun v30 =>
  R v30 W) W) W) W) W) W
def S.inst_content.l1 (R : Value → World → Prop) (J1 : List Value → World → Prop) (K1 : List Value → World → Prop) (x0 x1 x9 x10 : Value) (W : World) : Prop :=
  okF (binP .lss x10 (.int .i64 7)) fun v11 =>
  ifK v11 (
  okF (idxV 7 false 1 x9 x10) fun v12 =>
  okF (binP .lss v12 (.int .i64 0)) fun v14 =>
  gdK (wantd v14 false) (fun k W => k v12 W) (fun v16 W =>
  gdK (wantd v14 false) (fun k W => okF (binP .gtr v16 (.int .i64 1000)) fun v => k v W) (fun v17 W =>
  okF (pickP v14 (.bool true) v17) fun v18 =>
  ifK v18 (
  R (.bool false) W) (
  okF (binP .add x10 (.int .i64 1)) fun v19 =>
  K1 [x0, x1, x9, v19] W)) W) W) (
  J1 [x0, x1] W)
def S.inst_content.body (R : Value → World → Prop) (v0 v1 v2 : Value) (W : World) : Prop :=
  efK PR (Instr.box T_vec_Vec v2) (fun v5 W =>
  joinK (fun s W => S.inst_content.j1 R (nthv s 0) (nthv s 1) W) (fun J1 =>
  rdK PR (Instr.loadAt T_vec_Vec v5) (fun v9 W =>
  loopK (fun K1 s W => S.inst_content.l1 R J1 K1 (nthv s 0) (nthv s 1) (nthv s 2) (nthv s 3) W) [v0, v1, v9, (.int .i64 0)] W) W)) W
def S.inst_content.hint : Hint := (.two .nil (.at [0, 1] (.two .nil (.at [0, 1, 9, 10] (.two .nil (.two (.two .nil .nil) (.two (.two .nil (.two .nil (.two (.two .nil .nil) .nil))) .nil))) .nil)) (.two .nil .nil)))
theorem S.inst_content.ok (R : Value → World → Prop) (v0 v1 v2 : Value) (W : World) : bodyK PR CB Try.f39 S.inst_content.hint [v0, v1, v2] R W = S.inst_content.body R v0 v1 v2 W := by kernel_rfl
theorem S.inst_content.fn : PR.funcs[F_inst_content]? = some Try.f39 := by kernel_rfl
theorem S.inst_content.call {R : Value → World → Prop} {v0 v1 v2 : Value} {W : World} (h : S.inst_content.body R v0 v1 v2 W) : callK PR F_inst_content [v0, v1, v2] R W :=
  callK_of_body (g := F_inst_content) (fn := Try.f39) (args := [v0, v1, v2]) (R := R) (w := W) mixed CBok S.inst_content.fn S.inst_content.hint (by rw [S.inst_content.ok]; exact h)
/-! ### cmp.Or[int] (40) -/
def S.cmp_Or_int.j1 (R : Value → World → Prop) (x3 : Value) (W : World) : Prop :=
  R x3 W
def S.cmp_Or_int.l1 (R : Value → World → Prop) (J1 : List Value → World → Prop) (K1 : List Value → World → Prop) (x3 x6 x7 x8 : Value) (W : World) : Prop :=
  okF (binP .lss x8 x7) fun v9 =>
  ifK v9 (
  okF (idxS 1 x6 x8) fun v10 =>
  rdK PR (Instr.loadAt T_int v10) (fun v11 W =>
  okF (binP .neq v11 x3) fun v14 =>
  ifK v14 (
  R v11 W) (
  okF (binP .add x8 (.int .i64 1)) fun v16 =>
  K1 [x3, x6, x7, v16] W)) W) (
  J1 [x3] W)
def S.cmp_Or_int.body (R : Value → World → Prop) (v0 : Value) (W : World) : Prop :=
  joinK (fun s W => S.cmp_Or_int.j1 R (nthv s 0) W) (fun J1 =>
  okF (lenP (.slice T_int) v0) fun v7 =>
  loopK (fun K1 s W => S.cmp_Or_int.l1 R J1 K1 (nthv s 0) (nthv s 1) (nthv s 2) (nthv s 3) W) [(.int .i64 0), v0, v7, (.int .i64 0)] W)
def S.cmp_Or_int.hint : Hint := (.two .nil (.two .nil (.at [3] (.two .nil (.at [3, 6, 7, 8] (.two .nil (.two (.two .nil .nil) (.two (.two .nil (.two .nil (.two (.two .nil .nil) .nil))) .nil))) .nil)) (.two .nil .nil))))
theorem S.cmp_Or_int.ok (R : Value → World → Prop) (v0 : Value) (W : World) : bodyK PR CB Try.f40 S.cmp_Or_int.hint [v0] R W = S.cmp_Or_int.body R v0 W := by kernel_rfl
theorem S.cmp_Or_int.fn : PR.funcs[F_cmp_Or_int]? = some Try.f40 := by kernel_rfl
theorem S.cmp_Or_int.call {R : Value → World → Prop} {v0 : Value} {W : World} (h : S.cmp_Or_int.body R v0 W) : callK PR F_cmp_Or_int [v0] R W :=
  callK_of_body (g := F_cmp_Or_int) (fn := Try.f40) (args := [v0]) (R := R) (w := W) mixed CBok S.cmp_Or_int.fn S.cmp_Or_int.hint (by rw [S.cmp_Or_int.ok]; exact h)
/-! ### cmp.Compare[int64] (41) -/
def S.cmp_Compare_int64.body (R : Value → World → Prop) (v0 v1 : Value) (W : World) : Prop :=
  callK PR F_cmp_isNaN_int64 [v0] (fun v8 W =>
  callK PR F_cmp_isNaN_int64 [v1] (fun v10 W =>
  ifK v8 (
  ifK v10 (
  R (.int .i64 0) W) (
  R (.int .i64 (-1)) W)) (
  ifK v10 (
  R (.int .i64 1) W) (
  okF (binP .lss v0 v1) fun v16 =>
  ifK v16 (
  R (.int .i64 (-1)) W) (
  okF (binP .gtr v0 v1) fun v19 =>
  ifK v19 (
  R (.int .i64 1) W) (
  R (.int .i64 0) W))))) W) W
def S.cmp_Compare_int64.hint : Hint := (.two .nil (.two .nil (.two .nil (.two (.two .nil (.two (.two (.two .nil (.two (.two .nil .nil) .nil)) (.two .nil .nil)) .nil)) (.two (.two .nil (.two (.two .nil .nil) .nil)) (.two (.two .nil (.two (.two .nil .nil) .nil)) (.two (.two .nil (.two (.two .nil .nil) .nil)) (.two .nil .nil))))))))
theorem S.cmp_Compare_int64.ok (R : Value → World → Prop) (v0 v1 : Value) (W : World) : bodyK PR CB Try.f41 S.cmp_Compare_int64.hint [v0, v1] R W = S.cmp_Compare_int64.body R v0 v1 W := by kernel_rfl
theorem S.cmp_Compare_int64.fn : PR.funcs[F_cmp_Compare_int64]? = some Try.f41 := by kernel_rfl
theorem S.cmp_Compare_int64.call {R : Value → World → Prop} {v0 v1 : Value} {W : World} (h : S.cmp_Compare_int64.body R v0 v1 W) : callK PR F_cmp_Compare_int64 [v0, v1] R W :=
  callK_of_body (g := F_cmp_Compare_int64) (fn := Try.f41) (args := [v0, v1]) (R := R) (w := W) mixed CBok S.cmp_Compare_int64.fn S.cmp_Compare_int64.hint (by rw [S.cmp_Compare_int64.ok]; exact h)
/-! ### cmp.Compare[int] (42) -/
def S.cmp_Compare_int.body (R : Value → World → Prop) (v0 v1 : Value) (W : World) : Prop :=
  callK PR F_cmp_isNaN_int [v0] (fun v8 W =>
  callK PR F_cmp_isNaN_int [v1] (fun v10 W =>
  ifK v8 (
  ifK v10 (
  R (.int .i64 0) W) (
  R (.int .i64 (-1)) W)) (
  ifK v10 (
  R (.int .i64 1) W) (
  okF (binP .lss v0 v1) fun v16 =>
  ifK v16 (
  R (.int .i64 (-1)) W) (
  okF (binP .gtr v0 v1) fun v19 =>
  ifK v19 (
  R (.int .i64 1) W) (
  R (.int .i64 0) W))))) W) W
def S.cmp_Compare_int.hint : Hint := (.two .nil (.two .nil (.two .nil (.two (.two .nil (.two (.two (.two .nil (.two (.two .nil .nil) .nil)) (.two .nil .nil)) .nil)) (.two (.two .nil (.two (.two .nil .nil) .nil)) (.two (.two .nil (.two (.two .nil .nil) .nil)) (.two (.two .nil (.two (.two .nil .nil) .nil)) (.two .nil .nil))))))))
theorem S.cmp_Compare_int.ok (R : Value → World → Prop) (v0 v1 : Value) (W : World) : bodyK PR CB Try.f42 S.cmp_Compare_int.hint [v0, v1] R W = S.cmp_Compare_int.body R v0 v1 W := by kernel_rfl
theorem S.cmp_Compare_int.fn : PR.funcs[F_cmp_Compare_int]? = some Try.f42 := by kernel_rfl
theorem S.cmp_Compare_int.call {R : Value → World → Prop} {v0 v1 : Value} {W : World} (h : S.cmp_Compare_int.body R v0 v1 W) : callK PR F_cmp_Compare_int [v0, v1] R W :=
  callK_of_body (g := F_cmp_Compare_int) (fn := Try.f42) (args := [v0, v1]) (R := R) (w := W) mixed CBok S.cmp_Compare_int.fn S.cmp_Compare_int.hint (by rw [S.cmp_Compare_int.ok]; exact h)
/-! ### (*rostrum/lead.Lead).count (43) -/
def S.lead_Lead_count.j1 (R : Value → World → Prop) (x3 : Value) (W : World) : Prop :=
  R x3 W
def S.lead_Lead_count.j2 (K1 : List Value → World → Prop) (x3 x9 x10 : Value) (W : World) : Prop :=
  okF (binP .add x10 (.int .i64 1)) fun v17 =>
  K1 [x3, x9, v17] W
def S.lead_Lead_count.l1 (J1 : List Value → World → Prop) (K1 : List Value → World → Prop) (x3 x9 x10 : Value) (W : World) : Prop :=
  okF (binP .lss x10 (.int .i64 7)) fun v11 =>
  ifK v11 (
  joinK (fun s W => S.lead_Lead_count.j2 K1 (nthv s 0) (nthv s 1) (nthv s 2) W) (fun J2 =>
  okF (idxV 7 false 1 x9 x10) fun v12 =>
  okF (eqP (.pointer T_inst_Rec) .neq v12 (.pointer none)) fun v14 =>
  ifK v14 (
  okF (binP .add x3 (.int .i64 1)) fun v16 =>
  J2 [v16, x9, x10] W) (
  J2 [x3, x9, x10] W))) (
  J1 [x3] W)
def S.lead_Lead_count.body (R : Value → World → Prop) (v0 : Value) (W : World) : Prop :=
  joinK (fun s W => S.lead_Lead_count.j1 R (nthv s 0) W) (fun J1 =>
  okF (nilP v0) fun v7 =>
  okF (addrF 20 v7) fun v8 =>
  rdK PR (Instr.loadAt T_a7_p_inst_Rec v8) (fun v9 W =>
  loopK (fun K1 s W => S.lead_Lead_count.l1 J1 K1 (nthv s 0) (nthv s 1) (nthv s 2) W) [(.int .i64 0), v9, (.int .i64 0)] W) W)
def S.lead_Lead_count.hint : Hint := (.two .nil (.two .nil (.at [3] (.two .nil (.at [3, 9, 10] (.two .nil (.two (.two .nil .nil) (.at [3, 9, 10] (.two .nil (.two .nil (.two .nil .nil))) .nil))) .nil)) (.two .nil .nil))))
theorem S.lead_Lead_count.ok (R : Value → World → Prop) (v0 : Value) (W : World) : bodyK PR CB Try.f43 S.lead_Lead_count.hint [v0] R W = S.lead_Lead_count.body R v0 W := by kernel_rfl
theorem S.lead_Lead_count.fn : PR.funcs[F_lead_Lead_count]? = some Try.f43 := by kernel_rfl
theorem S.lead_Lead_count.call {R : Value → World → Prop} {v0 : Value} {W : World} (h : S.lead_Lead_count.body R v0 W) : callK PR F_lead_Lead_count [v0] R W :=
  callK_of_body (g := F_lead_Lead_count) (fn := Try.f43) (args := [v0]) (R := R) (w := W) mixed CBok S.lead_Lead_count.fn S.lead_Lead_count.hint (by rw [S.lead_Lead_count.ok]; exact h)
/-! ### (*rostrum/lead.Lead).prepared$1 (44) -/
def S.lead_Lead_prepared_1.body (R : Value → World → Prop) (v0 v1 v2 : Value) (W : World) : Prop :=
  okF (nilP v0) fun v5 =>
  okF (addrF 1 v5) fun v6 =>
  rdK PR (Instr.loadAt T_s_uint8 v6) (fun v7 W =>
  okF (nilP v0) fun v9 =>
  okF (addrF 2 v9) fun v10 =>
  rdK PR (Instr.loadAt T_int64 v10) (fun v11 W =>
  okF (nilP v0) fun v13 =>
  okF (addrF 3 v13) fun v14 =>
  rdK PR (Instr.loadAt T_vec_Vec v14) (fun v15 W =>
  okF (addrF 5 v1) fun v16 =>
  efK PR (Instr.storeAt T_s_uint8 v16 v7) (fun _ W =>
  stb PR [(11, true, (Instr.loadAt T_vec_Vec v14), v15), (7, true, (Instr.loadAt T_int64 v10), v11)] (fun W =>
  okF (addrF 6 v1) fun v17 =>
  efK PR (Instr.storeAt T_int64 v17 v11) (fun _ W =>
  stb PR [(11, true, (Instr.loadAt T_vec_Vec v14), v15)] (fun W =>
  okF (addrF 7 v1) fun v18 =>
  efK PR (Instr.storeAt T_vec_Vec v18 v15) (fun _ W =>
  rdK PR (Instr.loadAt T_p_lead_Lead v2) (fun v19 W =>
  rdK PR (Instr.loadAt T_inst_Msg v1) (fun v20 W =>
  callK PR F_lead_Lead_begin [v19, (.int .i64 2), v20] (fun v21 W =>
  R (.tuple #[]) W) W) W) W) W) W) W) W) W) W) W) (tick W)
def S.lead_Lead_prepared_1.hint : Hint := (.two .nil .nil)
theorem S.lead_Lead_prepared_1.ok (R : Value → World → Prop) (v0 v1 v2 : Value) (W : World) : bodyK PR CB Try.f44 S.lead_Lead_prepared_1.hint [v0, v1, v2] R W = S.lead_Lead_prepared_1.body R v0 v1 v2 W := by kernel_rfl
theorem S.lead_Lead_prepared_1.fn : PR.funcs[F_lead_Lead_prepared_1]? = some Try.f44 := by kernel_rfl
theorem S.lead_Lead_prepared_1.call {R : Value → World → Prop} {v0 v1 v2 : Value} {W : World} (h : S.lead_Lead_prepared_1.body R v0 v1 v2 W) : callK PR F_lead_Lead_prepared_1 [v0, v1, v2] R W :=
  callK_of_body (g := F_lead_Lead_prepared_1) (fn := Try.f44) (args := [v0, v1, v2]) (R := R) (w := W) mixed CBok S.lead_Lead_prepared_1.fn S.lead_Lead_prepared_1.hint (by rw [S.lead_Lead_prepared_1.ok]; exact h)
/-! ### (*rostrum/lead.Lead).greatest (45) -/
def S.lead_Lead_greatest.j1 (R : Value → World → Prop) (x5 : Value) (W : World) : Prop :=
  R x5 W
def S.lead_Lead_greatest.j2 (K1 : List Value → World → Prop) (x1 x5 x11 x12 : Value) (W : World) : Prop :=
  okF (binP .add x12 (.int .i64 1)) fun v42 =>
  K1 [x1, x5, x11, v42] W
def S.lead_Lead_greatest.l1 (J1 : List Value → World → Prop) (K1 : List Value → World → Prop) (x1 x5 x11 x12 : Value) (W : World) : Prop :=
  okF (binP .lss x12 (.int .i64 7)) fun v13 =>
  ifK v13 (
  joinK (fun s W => S.lead_Lead_greatest.j2 K1 (nthv s 0) (nthv s 1) (nthv s 2) (nthv s 3) W) (fun J2 =>
  okF (idxV 7 false 1 x11 x12) fun v14 =>
  okF (eqP (.pointer T_inst_Rec) .neq v14 (.pointer none)) fun v16 =>
  gdK (wantd v16 true) (fun k W => k v14 W) (fun v18 W =>
  gdK (wantd v16 true) (fun k W => okF (nilP v18) fun v => k v W) (fun v19 W =>
  gdK (wantd v16 true) (fun k W => okF (addrF 0 v19) fun v => k v W) (fun v20 W =>
  gdK (wantd v16 true) (fun k W => rdK PR (Instr.loadAt T_int v20) k W) (fun v21 W =>
  gdK (wantd v16 true) (fun k W => k x1 W) (fun v22 W =>
  gdK (wantd v16 true) (fun k W => okF (binP .eql v21 v22) fun v => k v W) (fun v23 W =>
  okF (pickP v16 v23 (.bool false)) fun v24 =>
  gdK (wantd v24 true) (fun k W => k x5 W) (fun v26 W =>
  gdK (wantd v24 true) (fun k W => okF (eqP (.pointer T_inst_Rec) .eql v26 (.pointer none)) fun v => k v W) (fun v27 W =>
  gdK (wantd v24 true) (fun k W => k v27 W) (fun v28 W =>
  gdK (wantd v28 false) (fun k W => k v14 W) (fun v29 W =>
  gdK (wantd v28 false) (fun k W => okF (nilP v29) fun v => k v W) (fun v30 W =>
  gdK (wantd v28 false) (fun k W => okF (addrF 12 v30) fun v => k v W) (fun v31 W =>
  gdK (wantd v28 false) (fun k W => rdK PR (Instr.loadAt T_ballot_Ballot v31) k W) (fun v32 W =>
  gdK (wantd v28 false) (fun k W => k x5 W) (fun v33 W =>
  gdK (wantd v28 false) (fun k W => okF (nilP v33) fun v => k v W) (fun v34 W =>
  gdK (wantd v28 false) (fun k W => okF (addrF 12 v34) fun v => k v W) (fun v35 W =>
  gdK (wantd v28 false) (fun k W => rdK PR (Instr.loadAt T_ballot_Ballot v35) k W) (fun v36 W =>
  gdK (wantd v28 false) (fun k W => callK PR F_ballot_Cmp [v32, v36] k W) (fun v37 W =>
  gdK (wantd v28 false) (fun k W => okF (binP .gtr v37 (.int .i64 0)) fun v => k v W) (fun v38 W =>
  gdK (wantd v24 true) (fun k W => okF (pickP v28 (.bool true) v38) fun v => k v W) (fun v39 W =>
  okF (pickP v24 v39 (.bool false)) fun v40 =>
  ifK v40 (
  J2 [x1, v14, x11, x12] W) (
  J2 [x1, x5, x11, x12] W)) W) W) W) W) W) W) W) W) W) W) W) W) W) W) W) W) W) W) W) (tick W))) (
  J1 [x5] W)
def S.lead_Lead_greatest.body (R : Value → World → Prop) (v0 v1 : Value) (W : World) : Prop :=
  joinK (fun s W => S.lead_Lead_greatest.j1 R (nthv s 0) W) (fun J1 =>
  okF (nilP v0) fun v9 =>
  okF (addrF 20 v9) fun v10 =>
  rdK PR (Instr.loadAt T_a7_p_inst_Rec v10) (fun v11 W =>
  loopK (fun K1 s W => S.lead_Lead_greatest.l1 J1 K1 (nthv s 0) (nthv s 1) (nthv s 2) (nthv s 3) W) [v1, (.pointer none), v11, (.int .i64 0)] W) W)
def S.lead_Lead_greatest.hint : Hint := (.two .nil (.two .nil (.at [5] (.two .nil (.at [1, 5, 11, 12] (.two .nil (.two (.two .nil .nil) (.at [1, 5, 11, 12] (.two .nil (.two .nil (.two .nil .nil))) .nil))) .nil)) (.two .nil .nil))))
theorem S.lead_Lead_greatest.ok (R : Value → World → Prop) (v0 v1 : Value) (W : World) : bodyK PR CB Try.f45 S.lead_Lead_greatest.hint [v0, v1] R W = S.lead_Lead_greatest.body R v0 v1 W := by kernel_rfl
theorem S.lead_Lead_greatest.fn : PR.funcs[F_lead_Lead_greatest]? = some Try.f45 := by kernel_rfl
theorem S.lead_Lead_greatest.call {R : Value → World → Prop} {v0 v1 : Value} {W : World} (h : S.lead_Lead_greatest.body R v0 v1 W) : callK PR F_lead_Lead_greatest [v0, v1] R W :=
  callK_of_body (g := F_lead_Lead_greatest) (fn := Try.f45) (args := [v0, v1]) (R := R) (w := W) mixed CBok S.lead_Lead_greatest.fn S.lead_Lead_greatest.hint (by rw [S.lead_Lead_greatest.ok]; exact h)
/-! ### (*rostrum/lead.Lead).alike (46) -/
def S.lead_Lead_alike.j1 (K1 : List Value → World → Prop) (x0 x8 x9 : Value) (W : World) : Prop :=
  okF (binP .add x9 (.int .i64 1)) fun v51 =>
  K1 [x0, x8, v51] W
def S.lead_Lead_alike.l1 (R : Value → World → Prop) (K1 : List Value → World → Prop) (x0 x8 x9 : Value) (W : World) : Prop :=
  okF (binP .lss x9 (.int .i64 7)) fun v10 =>
  ifK v10 (
  joinK (fun s W => S.lead_Lead_alike.j1 K1 (nthv s 0) (nthv s 1) (nthv s 2) W) (fun J1 =>
  okF (idxV 7 false 1 x8 x9) fun v11 =>
  okF (eqP (.pointer T_inst_Rec) .eql v11 (.pointer none)) fun v13 =>
  ifK v13 (
  J1 [x0, x8, x9] W) (
  okF (nilP v11) fun v15 =>
  okF (addrF 0 v15) fun v16 =>
  rdK PR (Instr.loadAt T_int v16) (fun v17 W =>
  okF (binP .neq v17 (.int .i64 1)) fun v18 =>
  gdK (wantd v18 false) (fun k W => k v11 W) (fun v20 W =>
  gdK (wantd v18 false) (fun k W => okF (nilP v20) fun v => k v W) (fun v21 W =>
  gdK (wantd v18 false) (fun k W => okF (addrF 12 v21) fun v => k v W) (fun v22 W =>
  gdK (wantd v18 false) (fun k W => okF (addrF 0 v22) fun v => k v W) (fun v23 W =>
  gdK (wantd v18 false) (fun k W => rdK PR (Instr.loadAt T_int64 v23) k W) (fun v24 W =>
  gdK (wantd v18 false) (fun k W => okF (binP .neq v24 (.int .i64 0)) fun v => k v W) (fun v25 W =>
  okF (pickP v18 (.bool true) v25) fun v26 =>
  gdK (wantd v26 false) (fun k W => k v11 W) (fun v28 W =>
  gdK (wantd v26 false) (fun k W => okF (nilP v28) fun v => k v W) (fun v29 W =>
  gdK (wantd v26 false) (fun k W => okF (addrF 2 v29) fun v => k v W) (fun v30 W =>
  gdK (wantd v26 false) (fun k W => rdK PR (Instr.loadAt T_int64 v30) k W) (fun v31 W =>
  gdK (wantd v26 false) (fun k W => k x0 W) (fun v32 W =>
  gdK (wantd v26 false) (fun k W => okF (nilP v32) fun v => k v W) (fun v33 W =>
  gdK (wantd v26 false) (fun k W => okF (addrF 27 v33) fun v => k v W) (fun v34 W =>
  gdK (wantd v26 false) (fun k W => okF (addrF 2 v34) fun v => k v W) (fun v35 W =>
  gdK (wantd v26 false) (fun k W => rdK PR (Instr.loadAt T_int64 v35) k W) (fun v36 W =>
  gdK (wantd v26 false) (fun k W => okF (binP .neq v31 v36) fun v => k v W) (fun v37 W =>
  okF (pickP v26 (.bool true) v37) fun v38 =>
  gdK (wantd v38 false) (fun k W => k v11 W) (fun v40 W =>
  gdK (wantd v38 false) (fun k W => okF (nilP v40) fun v => k v W) (fun v41 W =>
  gdK (wantd v38 false) (fun k W => okF (addrF 3 v41) fun v => k v W) (fun v42 W =>
  gdK (wantd v38 false) (fun k W => rdK PR (Instr.loadAt T_vec_Vec v42) k W) (fun v43 W =>
  gdK (wantd v38 false) (fun k W => k x0 W) (fun v44 W =>
  gdK (wantd v38 false) (fun k W => okF (nilP v44) fun v => k v W) (fun v45 W =>
  gdK (wantd v38 false) (fun k W => okF (addrF 27 v45) fun v => k v W) (fun v46 W =>
  gdK (wantd v38 false) (fun k W => okF (addrF 3 v46) fun v => k v W) (fun v47 W =>
  gdK (wantd v38 false) (fun k W => rdK PR (Instr.loadAt T_vec_Vec v47) k W) (fun v48 W =>
  gdK (wantd v38 false) (fun k W => rdK PR (aggEq .neq T_vec_Vec v43 v48) k W) (fun v49 W =>
  okF (pickP v38 (.bool true) v49) fun v50 =>
  ifK v50 (
  R (.bool false) W) (
  J1 [x0, x8, x9] W)) W) W) W) W) W) W) W) W) W) W) W) W) W) W) W) W) W) W) W) W) W) W) W) W) W) W) (tick W)))) (
  R (.bool true) W)
def S.lead_Lead_alike.body (R : Value → World → Prop) (v0 : Value) (W : World) : Prop :=
  okF (nilP v0) fun v6 =>
  okF (addrF 20 v6) fun v7 =>
  rdK PR (Instr.loadAt T_a7_p_inst_Rec v7) (fun v8 W =>
  loopK (fun K1 s W => S.lead_Lead_alike.l1 R K1 (nthv s 0) (nthv s 1) (nthv s 2) W) [v0, v8, (.int .i64 0)] W) W
def S.lead_Lead_alike.hint : Hint := (.two .nil (.two (.two .nil (.at [0, 8, 9] (.two .nil (.two (.two .nil .nil) (.at [0, 8, 9] (.two .nil (.two (.two .nil (.two .nil .nil)) (.two .nil (.two (.two .nil .nil) .nil)))) .nil))) .nil)) (.two .nil .nil)))
theorem S.lead_Lead_alike.ok (R : Value → World → Prop) (v0 : Value) (W : World) : bodyK PR CB Try.f46 S.lead_Lead_alike.hint [v0] R W = S.lead_Lead_alike.body R v0 W := by kernel_rfl
theorem S.lead_Lead_alike.fn : PR.funcs[F_lead_Lead_alike]? = some Try.f46 := by kernel_rfl
theorem S.lead_Lead_alike.call {R : Value → World → Prop} {v0 : Value} {W : World} (h : S.lead_Lead_alike.body R v0 W) : callK PR F_lead_Lead_alike [v0] R W :=
  callK_of_body (g := F_lead_Lead_alike) (fn := Try.f46) (args := [v0]) (R := R) (w := W) mixed CBok S.lead_Lead_alike.fn S.lead_Lead_alike.hint (by rw [S.lead_Lead_alike.ok]; exact h)
/-! ### (*rostrum/lead.Lead).first (47) -/
def S.lead_Lead_first.l1 (R : Value → World → Prop) (K1 : List Value → World → Prop) (x8 x9 : Value) (W : World) : Prop :=
  okF (binP .lss x9 (.int .i64 7)) fun v10 =>
  ifK v10 (
  okF (idxV 7 false 1 x8 x9) fun v11 =>
  okF (eqP (.pointer T_inst_Rec) .neq v11 (.pointer none)) fun v13 =>
  ifK v13 (
  R v11 W) (
  okF (binP .add x9 (.int .i64 1)) fun v15 =>
  K1 [x8, v15] W)) (
  R (.pointer none) W)
def S.lead_Lead_first.body (R : Value → World → Prop) (v0 : Value) (W : World) : Prop :=
  okF (nilP v0) fun v6 =>
  okF (addrF 20 v6) fun v7 =>
  rdK PR (Instr.loadAt T_a7_p_inst_Rec v7) (fun v8 W =>
  loopK (fun K1 s W => S.lead_Lead_first.l1 R K1 (nthv s 0) (nthv s 1) W) [v8, (.int .i64 0)] W) W
def S.lead_Lead_first.hint : Hint := (.two .nil (.two (.two .nil (.at [8, 9] (.two .nil (.two (.two .nil .nil) (.two (.two .nil (.two .nil (.two (.two .nil .nil) .nil))) .nil))) .nil)) (.two .nil .nil)))
theorem S.lead_Lead_first.ok (R : Value → World → Prop) (v0 : Value) (W : World) : bodyK PR CB Try.f47 S.lead_Lead_first.hint [v0] R W = S.lead_Lead_first.body R v0 W := by kernel_rfl
theorem S.lead_Lead_first.fn : PR.funcs[F_lead_Lead_first]? = some Try.f47 := by kernel_rfl
theorem S.lead_Lead_first.call {R : Value → World → Prop} {v0 : Value} {W : World} (h : S.lead_Lead_first.body R v0 W) : callK PR F_lead_Lead_first [v0] R W :=
  callK_of_body (g := F_lead_Lead_first) (fn := Try.f47) (args := [v0]) (R := R) (w := W) mixed CBok S.lead_Lead_first.fn S.lead_Lead_first.hint (by rw [S.lead_Lead_first.ok]; exact h)
/-! ### rostrum/ballot.rep (48) -/
def S.ballot_rep.body (R : Value → World → Prop) (v0 : Value) (W : World) : Prop :=
  okF (binP .geq v0 (.int .i64 0)) fun v4 =>
  gdK (wantd v4 true) (fun k W => k v0 W) (fun v6 W =>
  gdK (wantd v4 true) (fun k W => okF (binP .lss v6 (.int .i64 7)) fun v => k v W) (fun v7 W =>
  okF (pickP v4 v7 (.bool false)) fun v8 =>
  R v8 W) W) W
def S.ballot_rep.hint : Hint := (.two .nil (.two .nil .nil))
theorem S.ballot_rep.ok (R : Value → World → Prop) (v0 : Value) (W : World) : bodyK PR CB Try.f48 S.ballot_rep.hint [v0] R W = S.ballot_rep.body R v0 W := by kernel_rfl
theorem S.ballot_rep.fn : PR.funcs[F_ballot_rep]? = some Try.f48 := by kernel_rfl
theorem S.ballot_rep.call {R : Value → World → Prop} {v0 : Value} {W : World} (h : S.ballot_rep.body R v0 W) : callK PR F_ballot_rep [v0] R W :=
  callK_of_body (g := F_ballot_rep) (fn := Try.f48) (args := [v0]) (R := R) (w := W) mixed CBok S.ballot_rep.fn S.ballot_rep.hint (by rw [S.ballot_rep.ok]; exact h)
/-! ### rostrum/vec.Rep (49) -/
def S.vec_Rep.body (R : Value → World → Prop) (v0 : Value) (W : World) : Prop :=
  okF (binP .geq v0 (.int .i64 0)) fun v4 =>
  gdK (wantd v4 true) (fun k W => k v0 W) (fun v6 W =>
  gdK (wantd v4 true) (fun k W => okF (binP .lss v6 (.int .i64 7)) fun v => k v W) (fun v7 W =>
  okF (pickP v4 v7 (.bool false)) fun v8 =>
  R v8 W) W) W
def S.vec_Rep.hint : Hint := (.two .nil (.two .nil .nil))
theorem S.vec_Rep.ok (R : Value → World → Prop) (v0 : Value) (W : World) : bodyK PR CB Try.f49 S.vec_Rep.hint [v0] R W = S.vec_Rep.body R v0 W := by kernel_rfl
theorem S.vec_Rep.fn : PR.funcs[F_vec_Rep]? = some Try.f49 := by kernel_rfl
theorem S.vec_Rep.call {R : Value → World → Prop} {v0 : Value} {W : World} (h : S.vec_Rep.body R v0 W) : callK PR F_vec_Rep [v0] R W :=
  callK_of_body (g := F_vec_Rep) (fn := Try.f49) (args := [v0]) (R := R) (w := W) mixed CBok S.vec_Rep.fn S.vec_Rep.hint (by rw [S.vec_Rep.ok]; exact h)
/-! ### cmp.isNaN[int64] (50) -/
def S.cmp_isNaN_int64.body (R : Value → World → Prop) (v0 : Value) (W : World) : Prop :=
  okF (binP .neq v0 v0) fun v5 =>
  R v5 W
def S.cmp_isNaN_int64.hint : Hint := (.two .nil (.two .nil .nil))
theorem S.cmp_isNaN_int64.ok (R : Value → World → Prop) (v0 : Value) (W : World) : bodyK PR CB Try.f50 S.cmp_isNaN_int64.hint [v0] R W = S.cmp_isNaN_int64.body R v0 W := by kernel_rfl
theorem S.cmp_isNaN_int64.fn : PR.funcs[F_cmp_isNaN_int64]? = some Try.f50 := by kernel_rfl
theorem S.cmp_isNaN_int64.call {R : Value → World → Prop} {v0 : Value} {W : World} (h : S.cmp_isNaN_int64.body R v0 W) : callK PR F_cmp_isNaN_int64 [v0] R W :=
  callK_of_body (g := F_cmp_isNaN_int64) (fn := Try.f50) (args := [v0]) (R := R) (w := W) mixed CBok S.cmp_isNaN_int64.fn S.cmp_isNaN_int64.hint (by rw [S.cmp_isNaN_int64.ok]; exact h)
/-! ### cmp.isNaN[int] (51) -/
def S.cmp_isNaN_int.body (R : Value → World → Prop) (v0 : Value) (W : World) : Prop :=
  okF (binP .neq v0 v0) fun v5 =>
  R v5 W
def S.cmp_isNaN_int.hint : Hint := (.two .nil (.two .nil .nil))
theorem S.cmp_isNaN_int.ok (R : Value → World → Prop) (v0 : Value) (W : World) : bodyK PR CB Try.f51 S.cmp_isNaN_int.hint [v0] R W = S.cmp_isNaN_int.body R v0 W := by kernel_rfl
theorem S.cmp_isNaN_int.fn : PR.funcs[F_cmp_isNaN_int]? = some Try.f51 := by kernel_rfl
theorem S.cmp_isNaN_int.call {R : Value → World → Prop} {v0 : Value} {W : World} (h : S.cmp_isNaN_int.body R v0 W) : callK PR F_cmp_isNaN_int [v0] R W :=
  callK_of_body (g := F_cmp_isNaN_int) (fn := Try.f51) (args := [v0]) (R := R) (w := W) mixed CBok S.cmp_isNaN_int.fn S.cmp_isNaN_int.hint (by rw [S.cmp_isNaN_int.ok]; exact h)
end Go.Proofs.Ytpihhlaiofkmdaa
