/- Texts of the claim ExecPlays, joined: ShRef18, CR18, CR19, CR20. -/
import Derived.Test.YtkjhccpanedccaaGreatBExecPlays1
import Derived.Test.YtkjhccpanedccaaGreatBExecPlays7
namespace Go.Proofs.YtkjhccpanedccaaGreat
set_option linter.unusedVariables false
set_option linter.unusedSimpArgs false
open Go.Eng
def S.rostrumref18_Exec_Commit.body (R : Value → World → Prop) (v0 v1 v2 v3 : Value) (W : World) : Prop :=
 efK PR (Instr.box T_rostrumref18_Inst v1) (fun v5 W =>
 efK PR (Instr.box T_rostrumref7_Vec v2) (fun v6 W =>
 rdK PR (Instr.loadAt T_rostrumref18_Inst v5) (fun v11 W =>
 efK PR (Instr.buildSlice T_s_rostrumref18_Inst 1 #[(0, v11)]) (fun v12 W =>
 callK PR F_rostrumref18_Good [v12] (fun v13 W =>
 okF (unP .not v13) fun v14 =>
 gdK (wantd v14 false) (fun k W => rdK PR (Instr.loadAt T_rostrumref7_Vec v6) k W) (fun v16 W =>
 gdK (wantd v14 false) (fun k W => callK PR F_rostrumref7_Good [v16] k W) (fun v17 W =>
 gdK (wantd v14 false) (fun k W => okF (unP .not v17) fun v => k v W) (fun v18 W =>
 okF (pickP v14 (.bool true) v18) fun v19 =>
 gdK (wantd v19 false) (fun k W => k v3 W) (fun v21 W =>
 gdK (wantd v19 false) (fun k W => okF (lenP (.slice T_uint8) v21) fun v => k v W) (fun v22 W =>
 gdK (wantd v19 false) (fun k W => okF (binP .gtr v22 (.int .i64 65536)) fun v => k v W) (fun v23 W =>
 okF (pickP v19 (.bool true) v23) fun v24 =>
 ifK v24 (
 R (.int .i64 1) W) (
 okF (addrF 0 v5) fun v27 =>
 rdK PR (Instr.loadAt T_api_Dot v27) (fun v28 W =>
 callK PR F_rostrumref18_Exec_Body [v0, v28] (fun v29 W =>
 okF (extP 0 v29) fun v30 =>
 okF (extP 1 v29) fun v31 =>
 ifK v31 (
 R (.int .i64 5) W) (
 okF (nilP v0) fun v34 =>
 okF (addrF 7 v34) fun v35 =>
 rdK PR (Instr.loadAt T_s_rostrumref18_kept v35) (fun v36 W =>
 okF (lenP (.slice T_rostrumref18_kept) v36) fun v37 =>
 okF (binP .geq v37 (.int .i64 1000)) fun v38 =>
 ifK v38 (
 R (.int .i64 2) W) (
 okF (nilP v0) fun v42 =>
 okF (addrF 7 v42) fun v43 =>
 rdK PR (Instr.loadAt T_s_rostrumref18_kept v43) (fun v44 W =>
 rdK PR (Instr.loadAt T_rostrumref18_Inst v5) (fun v46 W =>
 rdK PR (Instr.loadAt T_rostrumref7_Vec v6) (fun v47 W =>
 (efK PR (Instr.buildSlice T_s_rostrumref18_kept 0 #[]) (fun v40 W =>
 stb PR [(8, true, (Instr.loadAt T_rostrumref7_Vec v6), v47), (7, true, (Instr.loadAt T_rostrumref18_Inst v5), v46), (5, true, (Instr.loadAt T_s_rostrumref18_kept v43), v44)] (fun W =>
 (efK PR (Builtin.append_ #[T_s_rostrumref18_kept, T_s_rostrumref18_kept] T_s_rostrumref18_kept #[v40, v44]) (fun v45 W =>
 stb PR [(8, true, (Instr.loadAt T_rostrumref7_Vec v6), v47), (7, true, (Instr.loadAt T_rostrumref18_Inst v5), v46)] (fun W =>
 efK PR (Instr.buildSlice T_s_uint8 0 #[]) (fun v48 W =>
 stb PR [(8, true, (Instr.loadAt T_rostrumref7_Vec v6), v47), (7, true, (Instr.loadAt T_rostrumref18_Inst v5), v46)] (fun W =>
 efK PR (Builtin.append_ #[T_s_uint8, T_s_uint8] T_s_uint8 #[v48, v3]) (fun v50 W =>
 stb PR [(8, true, (Instr.loadAt T_rostrumref7_Vec v6), v47), (7, true, (Instr.loadAt T_rostrumref18_Inst v5), v46)] (fun W =>
 okF (bldP (fun i => ([(0, 10), (10, 7), (17, 1)] : List (Nat × Nat))[i]?) [.int .i64 0, .int .i64 0, .int .i64 0, .int .i64 0, .int .i64 0, .int .i64 0, .int .i64 0, .int .i64 0, .int .i64 0, .int .i64 0, .int .i64 0, .int .i64 0, .int .i64 0, .int .i64 0, .int .i64 0, .int .i64 0, .int .i64 0, .slice none 0 0] [(0, v46), (1, v47), (2, v50)]) fun v51 =>
 efK PR (Instr.buildSlice T_s_rostrumref18_kept 1 #[(0, v51)]) (fun v52 W =>
 efK PR (Builtin.append_ #[T_s_rostrumref18_kept, T_s_rostrumref18_kept] T_s_rostrumref18_kept #[v45, v52]) (fun v53 W =>
 okF (nilP v0) fun v54 =>
 okF (addrF 7 v54) fun v55 =>
 efK PR (Instr.storeAt T_s_rostrumref18_kept v55 v53) (fun _ W =>
 R (.int .i64 0) W) W) W) W) W) W) W) W) W) W) ∧ (efK PR (Instr.buildSlice T_s_uint8 0 #[]) (fun v48_1 W =>
 stb PR [(8, true, (Instr.loadAt T_rostrumref7_Vec v6), v47), (7, true, (Instr.loadAt T_rostrumref18_Inst v5), v46), (5, true, (Instr.loadAt T_s_rostrumref18_kept v43), v44)] (fun W =>
 efK PR (Builtin.append_ #[T_s_rostrumref18_kept, T_s_rostrumref18_kept] T_s_rostrumref18_kept #[v40, v44]) (fun v45_1 W =>
 stb PR [(8, true, (Instr.loadAt T_rostrumref7_Vec v6), v47), (7, true, (Instr.loadAt T_rostrumref18_Inst v5), v46)] (fun W =>
 efK PR (Builtin.append_ #[T_s_uint8, T_s_uint8] T_s_uint8 #[v48_1, v3]) (fun v50_1 W =>
 stb PR [(8, true, (Instr.loadAt T_rostrumref7_Vec v6), v47), (7, true, (Instr.loadAt T_rostrumref18_Inst v5), v46)] (fun W =>
 okF (bldP (fun i => ([(0, 10), (10, 7), (17, 1)] : List (Nat × Nat))[i]?) [.int .i64 0, .int .i64 0, .int .i64 0, .int .i64 0, .int .i64 0, .int .i64 0, .int .i64 0, .int .i64 0, .int .i64 0, .int .i64 0, .int .i64 0, .int .i64 0, .int .i64 0, .int .i64 0, .int .i64 0, .int .i64 0, .int .i64 0, .slice none 0 0] [(0, v46), (1, v47), (2, v50_1)]) fun v51_1 =>
 efK PR (Instr.buildSlice T_s_rostrumref18_kept 1 #[(0, v51_1)]) (fun v52_1 W =>
 efK PR (Builtin.append_ #[T_s_rostrumref18_kept, T_s_rostrumref18_kept] T_s_rostrumref18_kept #[v45_1, v52_1]) (fun v53_1 W =>
 okF (nilP v0) fun v54_1 =>
 okF (addrF 7 v54_1) fun v55_1 =>
 efK PR (Instr.storeAt T_s_rostrumref18_kept v55_1 v53_1) (fun _ W =>
 R (.int .i64 0) W) W) W) W) W) W) W) W) W) W)) W) W) ∧ (efK PR (Instr.buildSlice T_s_uint8 0 #[]) (fun v48_2 W =>
 stb PR [(8, true, (Instr.loadAt T_rostrumref7_Vec v6), v47), (7, true, (Instr.loadAt T_rostrumref18_Inst v5), v46), (5, true, (Instr.loadAt T_s_rostrumref18_kept v43), v44)] (fun W =>
 efK PR (Instr.buildSlice T_s_rostrumref18_kept 0 #[]) (fun v40_1 W =>
 stb PR [(8, true, (Instr.loadAt T_rostrumref7_Vec v6), v47), (7, true, (Instr.loadAt T_rostrumref18_Inst v5), v46), (5, true, (Instr.loadAt T_s_rostrumref18_kept v43), v44)] (fun W =>
 efK PR (Builtin.append_ #[T_s_rostrumref18_kept, T_s_rostrumref18_kept] T_s_rostrumref18_kept #[v40_1, v44]) (fun v45_2 W =>
 stb PR [(8, true, (Instr.loadAt T_rostrumref7_Vec v6), v47), (7, true, (Instr.loadAt T_rostrumref18_Inst v5), v46)] (fun W =>
 efK PR (Builtin.append_ #[T_s_uint8, T_s_uint8] T_s_uint8 #[v48_2, v3]) (fun v50_2 W =>
 stb PR [(8, true, (Instr.loadAt T_rostrumref7_Vec v6), v47), (7, true, (Instr.loadAt T_rostrumref18_Inst v5), v46)] (fun W =>
 okF (bldP (fun i => ([(0, 10), (10, 7), (17, 1)] : List (Nat × Nat))[i]?) [.int .i64 0, .int .i64 0, .int .i64 0, .int .i64 0, .int .i64 0, .int .i64 0, .int .i64 0, .int .i64 0, .int .i64 0, .int .i64 0, .int .i64 0, .int .i64 0, .int .i64 0, .int .i64 0, .int .i64 0, .int .i64 0, .int .i64 0, .slice none 0 0] [(0, v46), (1, v47), (2, v50_2)]) fun v51_2 =>
 efK PR (Instr.buildSlice T_s_rostrumref18_kept 1 #[(0, v51_2)]) (fun v52_2 W =>
 efK PR (Builtin.append_ #[T_s_rostrumref18_kept, T_s_rostrumref18_kept] T_s_rostrumref18_kept #[v45_2, v52_2]) (fun v53_2 W =>
 okF (nilP v0) fun v54_2 =>
 okF (addrF 7 v54_2) fun v55_2 =>
 efK PR (Instr.storeAt T_s_rostrumref18_kept v55_2 v53_2) (fun _ W =>
 R (.int .i64 0) W) W) W) W) W) W) W) W) W) W) W) W)) W) W) (tick W))) W)) W) W)) W) W) W) W) W) W) W) W) W) W) W
def S.rostrumref18_Exec_Commit.hint : Hint := (.two .nil (.two (.two .nil (.two (.two .nil .nil) .nil)) (.two .nil (.two (.two .nil (.two (.two .nil .nil) .nil)) (.two (.two .nil (.two (.two .nil .nil) .nil)) (.two .nil (.two .nil .nil)))))))
theorem S.rostrumref18_Exec_Commit.ok (R : Value → World → Prop) (v0 v1 v2 v3 : Value) (W : World) : bodyK PR CB Tryz.f16 S.rostrumref18_Exec_Commit.hint [v0, v1, v2, v3] R W = S.rostrumref18_Exec_Commit.body R v0 v1 v2 v3 W := by kernel_rfl
theorem S.rostrumref18_Exec_Commit.fn : PR.funcs[F_rostrumref18_Exec_Commit]? = some Tryz.f16 := by kernel_rfl
theorem S.rostrumref18_Exec_Commit.call {R : Value → World → Prop} {v0 v1 v2 v3 : Value} {W : World} (h : S.rostrumref18_Exec_Commit.body R v0 v1 v2 v3 W) : callK PR F_rostrumref18_Exec_Commit [v0, v1, v2, v3] R W :=
 callK_of_body (g := F_rostrumref18_Exec_Commit) (fn := Tryz.f16) (args := [v0, v1, v2, v3]) (R := R) (w := W) mixed CBok S.rostrumref18_Exec_Commit.fn S.rostrumref18_Exec_Commit.hint (by rw [S.rostrumref18_Exec_Commit.ok]; exact h)
def S.rostrumref18_Exec_Have.j3 (R : Value → World → Prop) (x0 x8 : Value) (W : World) : Prop :=
 efK PR (Instr.buildSlice T_s_api_Dot 0 #[]) (fun v87 W =>
 okF (nilP x0) fun v89 =>
 okF (addrF 8 v89) fun v90 =>
 rdK PR (Instr.loadAt T_s_api_Dot v90) (fun v91 W =>
 efK PR (Builtin.append_ #[T_s_api_Dot, T_s_api_Dot] T_s_api_Dot #[v87, v91]) (fun v92 W =>
 efK PR (Builtin.append_ #[T_s_api_Dot, T_s_api_Dot] T_s_api_Dot #[v92, x8]) (fun v94 W =>
 okF (nilP x0) fun v95 =>
 okF (addrF 8 v95) fun v96 =>
 efK PR (Instr.storeAt T_s_api_Dot v96 v94) (fun _ W =>
 R x8 W) W) W) W) W) W
def S.rostrumref18_Exec_Have.j4 (K1 : List Value → World → Prop) (x0 x7 x8 x9 : Value) (W : World) : Prop :=
 okF (binP .add x9 (.int .i64 1)) fun v49 =>
 K1 [x0, x7, x8, v49] W
def S.rostrumref18_Exec_Have.l1 (J3 : List Value → World → Prop) (K1 : List Value → World → Prop) (x0 x7 x8 x9 : Value) (W : World) : Prop :=
 okF (lenP (.slice T_api_Dot) x7) fun v46 =>
 okF (binP .lss x9 v46) fun v47 =>
 ifK v47 (
 joinK (fun s W => S.rostrumref18_Exec_Have.j4 K1 (nthv s 0) (nthv s 1) (nthv s 2) (nthv s 3) W) (fun J4 =>
 okF (bldP (fun i => some (i * 1, 1)) [.int .i64 0, .int .i64 0, .int .i64 0, .int .i64 0, .int .i64 0, .int .i64 0, .int .i64 0] []) fun v50 =>
 okF (nilP x0) fun v52 =>
 okF (addrF 8 v52) fun v53 =>
 rdK PR (Instr.loadAt T_s_api_Dot v53) (fun v54 W =>
 okF (idxS 2 x7 x9) fun v57 =>
 rdK PR (Instr.loadAt T_api_Dot v57) (fun v58 W =>
 callK PR F_rostrumref18_is [v50, v54, v58] (fun v59 W =>
 ifK v59 (
 J4 [x0, x7, x8, x9] W) (
 okF (nilP x0) fun v61 =>
 okF (addrF 7 v61) fun v62 =>
 rdK PR (Instr.loadAt T_s_rostrumref18_kept v62) (fun v63 W =>
 okF (idxS 2 x7 x9) fun v67 =>
 rdK PR (Instr.loadAt T_api_Dot v67) (fun v68 W =>
 okF (nilP x0) fun v74 =>
 okF (addrF 0 v74) fun v75 =>
 rdK PR (Instr.loadAt T_rostrumref7_Vec v75) (fun v76 W =>
 callK PR F_rostrumref18_Exec_find [x0, v68] (fun v69 W =>
 stb PR [(16, true, (Instr.loadAt T_rostrumref7_Vec v75), v76), (3, true, (Instr.loadAt T_s_rostrumref18_kept v62), v63)] (fun W =>
 okF (idxS 18 v63 v69) fun v70 =>
 okF (addrF 10 v70) fun v71 =>
 rdK PR (Instr.loadAt T_rostrumref7_Vec v71) (fun v72 W =>
 callK PR F_rostrumref7_Le [v72, v76] (fun v77 W =>
 okF (unP .not v77) fun v78 =>
 ifK v78 (
 J3 [x0, x8] W) (
 okF (idxS 2 x7 x9) fun v82 =>
 rdK PR (Instr.loadAt T_api_Dot v82) (fun v83 W =>
 efK PR (Instr.buildSlice T_s_api_Dot 1 #[(0, v83)]) (fun v84 W =>
 efK PR (Builtin.append_ #[T_s_api_Dot, T_s_api_Dot] T_s_api_Dot #[x8, v84]) (fun v85 W =>
 J4 [x0, x7, v85, x9] W) W) W) W)) W) W) W) W) W) W) (tick W))) W) W) (tick W))) (
 J3 [x0, x8] W)
def S.rostrumref18_Exec_Have.j2 (R : Value → World → Prop) (x0 x5 : Value) (W : World) : Prop :=
 okF (bldP (fun i => some (i * 1, 1)) [.int .i64 0, .int .i64 0, .int .i64 0, .int .i64 0, .int .i64 0, .int .i64 0, .int .i64 0] []) fun v42 =>
 callK PR F_rostrumref18_Line [x5, v42, (.slice none 0 0)] (fun v43 W =>
 joinK (fun s W => S.rostrumref18_Exec_Have.j3 R (nthv s 0) (nthv s 1) W) (fun J3 =>
 loopK (fun K1 s W => S.rostrumref18_Exec_Have.l1 J3 K1 (nthv s 0) (nthv s 1) (nthv s 2) (nthv s 3) W) [x0, v43, (.slice none 0 0), (.int .i64 0)] W)) W
def S.rostrumref18_Exec_Have.l2 (J2 : List Value → World → Prop) (K2 : List Value → World → Prop) (x0 x5 x6 : Value) (W : World) : Prop :=
 okF (nilP x0) fun v23 =>
 okF (addrF 7 v23) fun v24 =>
 rdK PR (Instr.loadAt T_s_rostrumref18_kept v24) (fun v25 W =>
 okF (lenP (.slice T_rostrumref18_kept) v25) fun v26 =>
 okF (binP .lss x6 v26) fun v27 =>
 ifK v27 (
 okF (nilP x0) fun v32 =>
 okF (addrF 7 v32) fun v33 =>
 rdK PR (Instr.loadAt T_s_rostrumref18_kept v33) (fun v34 W =>
 okF (idxS 18 v34 x6) fun v36 =>
 okF (addrF 0 v36) fun v37 =>
 rdK PR (Instr.loadAt T_rostrumref18_Inst v37) (fun v38 W =>
 efK PR (Instr.buildSlice T_s_rostrumref18_Inst 1 #[(0, v38)]) (fun v39 W =>
 efK PR (Builtin.append_ #[T_s_rostrumref18_Inst, T_s_rostrumref18_Inst] T_s_rostrumref18_Inst #[x5, v39]) (fun v40 W =>
 okF (binP .add x6 (.int .i64 1)) fun v29 =>
 K2 [x0, v40, v29] W) W) W) W) W) (
 J2 [x0, x5] W)) W
def S.rostrumref18_Exec_Have.j1 (R : Value → World → Prop) (x0 : Value) (W : World) : Prop :=
 joinK (fun s W => S.rostrumref18_Exec_Have.j2 R (nthv s 0) (nthv s 1) W) (fun J2 =>
 loopK (fun K2 s W => S.rostrumref18_Exec_Have.l2 J2 K2 (nthv s 0) (nthv s 1) (nthv s 2) W) [x0, (.slice none 0 0), (.int .i64 0)] W)
def S.rostrumref18_Exec_Have.body (R : Value → World → Prop) (v0 v1 : Value) (W : World) : Prop :=
 efK PR (Instr.box T_rostrumref7_Vec v1) (fun v3 W =>
 joinK (fun s W => S.rostrumref18_Exec_Have.j1 R (nthv s 0) W) (fun J1 =>
 rdK PR (Instr.loadAt T_rostrumref7_Vec v3) (fun v10 W =>
 callK PR F_rostrumref7_Good [v10] (fun v11 W =>
 ifK v11 (
 okF (nilP v0) fun v14 =>
 okF (addrF 0 v14) fun v15 =>
 rdK PR (Instr.loadAt T_rostrumref7_Vec v15) (fun v16 W =>
 rdK PR (Instr.loadAt T_rostrumref7_Vec v3) (fun v17 W =>
 callK PR F_rostrumref7_Merge [v16, v17] (fun v18 W =>
 okF (nilP v0) fun v19 =>
 okF (addrF 0 v19) fun v20 =>
 efK PR (Instr.storeAt T_rostrumref7_Vec v20 v18) (fun _ W =>
 J1 [v0] W) W) W) W) (tick W)) (
 J1 [v0] W)) W) W)) W
def S.rostrumref18_Exec_Have.hint : Hint := (.two .nil (.at [0] (.two .nil (.two .nil .nil)) (.two .nil (.at [0, 5] (.two .nil (.at [0, 5, 6] (.two (.two .nil (.two .nil .nil)) (.two .nil .nil)) .nil)) (.two .nil (.two .nil (.at [0, 8] (.two .nil (.at [0, 7, 8, 9] (.two (.two .nil (.two .nil .nil)) (.at [0, 7, 8, 9] (.two (.two .nil (.two .nil .nil)) (.two (.two .nil (.two .nil .nil)) .nil)) .nil)) .nil)) (.two .nil (.two .nil .nil)))))))))
theorem S.rostrumref18_Exec_Have.ok (R : Value → World → Prop) (v0 v1 : Value) (W : World) : bodyK PR CB Tryz.f19 S.rostrumref18_Exec_Have.hint [v0, v1] R W = S.rostrumref18_Exec_Have.body R v0 v1 W := by kernel_rfl
theorem S.rostrumref18_Exec_Have.fn : PR.funcs[F_rostrumref18_Exec_Have]? = some Tryz.f19 := by kernel_rfl
theorem S.rostrumref18_Exec_Have.call {R : Value → World → Prop} {v0 v1 : Value} {W : World} (h : S.rostrumref18_Exec_Have.body R v0 v1 W) : callK PR F_rostrumref18_Exec_Have [v0, v1] R W :=
 callK_of_body (g := F_rostrumref18_Exec_Have) (fn := Tryz.f19) (args := [v0, v1]) (R := R) (w := W) mixed CBok S.rostrumref18_Exec_Have.fn S.rostrumref18_Exec_Have.hint (by rw [S.rostrumref18_Exec_Have.ok]; exact h)
def S.rostrumref18_Exec_Body.body (R : Value → World → Prop) (v0 v1 : Value) (W : World) : Prop :=
 efK PR (Instr.box T_api_Dot v1) (fun v3 W =>
 rdK PR (Instr.loadAt T_api_Dot v3) (fun v8 W =>
 callK PR F_rostrumref18_Exec_find [v0, v8] (fun v9 W =>
 okF (binP .lss v9 (.int .i64 0)) fun v11 =>
 ifK v11 (
 R (.tuple #[(.slice none 0 0), (.bool false)]) W) (
 okF (nilP v0) fun v13 =>
 okF (addrF 7 v13) fun v14 =>
 rdK PR (Instr.loadAt T_s_rostrumref18_kept v14) (fun v15 W =>
 okF (idxS 18 v15 v9) fun v17 =>
 okF (addrF 17 v17) fun v18 =>
 rdK PR (Instr.loadAt T_s_uint8 v18) (fun v19 W =>
 R (.tuple #[v19, (.bool true)]) W) W) W)) W) W) W
def S.rostrumref18_Exec_Body.hint : Hint := (.two .nil (.two .nil (.two (.two .nil (.two (.two .nil .nil) .nil)) (.two .nil .nil))))
theorem S.rostrumref18_Exec_Body.ok (R : Value → World → Prop) (v0 v1 : Value) (W : World) : bodyK PR CB Tryz.f21 S.rostrumref18_Exec_Body.hint [v0, v1] R W = S.rostrumref18_Exec_Body.body R v0 v1 W := by kernel_rfl
theorem S.rostrumref18_Exec_Body.fn : PR.funcs[F_rostrumref18_Exec_Body]? = some Tryz.f21 := by kernel_rfl
theorem S.rostrumref18_Exec_Body.call {R : Value → World → Prop} {v0 v1 : Value} {W : World} (h : S.rostrumref18_Exec_Body.body R v0 v1 W) : callK PR F_rostrumref18_Exec_Body [v0, v1] R W :=
 callK_of_body (g := F_rostrumref18_Exec_Body) (fn := Tryz.f21) (args := [v0, v1]) (R := R) (w := W) mixed CBok S.rostrumref18_Exec_Body.fn S.rostrumref18_Exec_Body.hint (by rw [S.rostrumref18_Exec_Body.ok]; exact h)
def S.rostrumref18_Exec_Waits.body (R : Value → World → Prop) (v0 : Value) (W : World) : Prop :=
 okF (nilP v0) fun v4 =>
 okF (addrF 7 v4) fun v5 =>
 rdK PR (Instr.loadAt T_s_rostrumref18_kept v5) (fun v6 W =>
 okF (lenP (.slice T_rostrumref18_kept) v6) fun v7 =>
 okF (nilP v0) fun v9 =>
 okF (addrF 8 v9) fun v10 =>
 rdK PR (Instr.loadAt T_s_api_Dot v10) (fun v11 W =>
 okF (lenP (.slice T_api_Dot) v11) fun v12 =>
 okF (binP .sub v7 v12) fun v13 =>
 R v13 W) W) (tick W)
def S.rostrumref18_Exec_Waits.hint : Hint := (.two .nil (.two .nil .nil))
theorem S.rostrumref18_Exec_Waits.ok (R : Value → World → Prop) (v0 : Value) (W : World) : bodyK PR CB Tryz.f23 S.rostrumref18_Exec_Waits.hint [v0] R W = S.rostrumref18_Exec_Waits.body R v0 W := by kernel_rfl
theorem S.rostrumref18_Exec_Waits.fn : PR.funcs[F_rostrumref18_Exec_Waits]? = some Tryz.f23 := by kernel_rfl
theorem S.rostrumref18_Exec_Waits.call {R : Value → World → Prop} {v0 : Value} {W : World} (h : S.rostrumref18_Exec_Waits.body R v0 W) : callK PR F_rostrumref18_Exec_Waits [v0] R W :=
 callK_of_body (g := F_rostrumref18_Exec_Waits) (fn := Tryz.f23) (args := [v0]) (R := R) (w := W) mixed CBok S.rostrumref18_Exec_Waits.fn S.rostrumref18_Exec_Waits.hint (by rw [S.rostrumref18_Exec_Waits.ok]; exact h)
def S.rostrumref18_Good.j1 (K1 : List Value → World → Prop) (x0 x3 : Value) (W : World) : Prop :=
 okF (binP .add x3 (.int .i64 1)) fun v15 =>
 K1 [x0, v15] W
def S.rostrumref18_Good.l2 (R : Value → World → Prop) (J1 : List Value → World → Prop) (K2 : List Value → World → Prop) (x0 x3 x4 x6 : Value) (W : World) : Prop :=
 okF (binP .lss x6 x3) fun v70 =>
 ifK v70 (
 okF (idxS 10 x0 x6) fun v75 =>
 okF (addrF 0 v75) fun v76 =>
 rdK PR (Instr.loadAt T_api_Dot v76) (fun v77 W =>
 okF (addrF 0 x4) fun v78 =>
 rdK PR (Instr.loadAt T_api_Dot v78) (fun v79 W =>
 rdK PR (aggEq .eql T_api_Dot v77 v79) (fun v80 W =>
 ifK v80 (
 R (.bool false) W) (
 okF (binP .add x6 (.int .i64 1)) fun v72 =>
 K2 [x0, x3, x4, v72] W)) W) W) (tick W)) (
 J1 [x0, x3] W)
def S.rostrumref18_Good.j2 (R : Value → World → Prop) (J1 : List Value → World → Prop) (x0 x3 x4 : Value) (W : World) : Prop :=
 loopK (fun K2 s W => S.rostrumref18_Good.l2 R J1 K2 (nthv s 0) (nthv s 1) (nthv s 2) (nthv s 3) W) [x0, x3, x4, (.int .i64 0)] W
def S.rostrumref18_Good.l3 (R : Value → World → Prop) (J2 : List Value → World → Prop) (K3 : List Value → World → Prop) (x0 x3 x4 x5 : Value) (W : World) : Prop :=
 okF (binP .lss x5 (.int .i64 7)) fun v53 =>
 ifK v53 (
 okF (addrF 3 x4) fun v57 =>
 okF (idxA 7 1 v57 x5) fun v58 =>
 rdK PR (Instr.loadAt T_int64 v58) (fun v59 W =>
 okF (binP .lss v59 (.int .i64 0)) fun v60 =>
 gdK (wantd v60 false) (fun k W => k x5 W) (fun v62 W =>
 gdK (wantd v60 false) (fun k W => okF (addrF 3 x4) fun v => k v W) (fun v63 W =>
 gdK (wantd v60 false) (fun k W => okF (idxA 7 1 v63 v62) fun v => k v W) (fun v64 W =>
 gdK (wantd v60 false) (fun k W => rdK PR (Instr.loadAt T_int64 v64) k W) (fun v65 W =>
 gdK (wantd v60 false) (fun k W => okF (binP .gtr v65 (.int .i64 1000)) fun v => k v W) (fun v66 W =>
 okF (pickP v60 (.bool true) v66) fun v67 =>
 ifK v67 (
 R (.bool false) W) (
 okF (binP .add x5 (.int .i64 1)) fun v55 =>
 K3 [x0, x3, x4, v55] W)) W) W) W) W) W) W) (
 J2 [x0, x3, x4] W)
def S.rostrumref18_Good.l1 (R : Value → World → Prop) (K1 : List Value → World → Prop) (x0 x3 : Value) (W : World) : Prop :=
 okF (lenP (.slice T_rostrumref18_Inst) x0) fun v12 =>
 okF (binP .lss x3 v12) fun v13 =>
 ifK v13 (
 joinK (fun s W => S.rostrumref18_Good.j1 K1 (nthv s 0) (nthv s 1) W) (fun J1 =>
 okF (idxS 10 x0 x3) fun v18 =>
 rdK PR (Instr.loadAt T_rostrumref18_Inst v18) (fun v19 W =>
 efK PR (Instr.alloc T_rostrumref18_Inst true (.tuple #[])) (fun v4 W =>
 efK PR (Instr.storeAt T_rostrumref18_Inst v4 v19) (fun _ W =>
 okF (addrF 0 v4) fun v20 =>
 okF (addrF 0 v20) fun v21 =>
 rdK PR (Instr.loadAt T_int v21) (fun v22 W =>
 okF (binP .lss v22 (.int .i64 0)) fun v23 =>
 gdK (wantd v23 false) (fun k W => okF (addrF 0 v4) fun v => k v W) (fun v25 W =>
 gdK (wantd v23 false) (fun k W => okF (addrF 0 v25) fun v => k v W) (fun v26 W =>
 gdK (wantd v23 false) (fun k W => rdK PR (Instr.loadAt T_int v26) k W) (fun v27 W =>
 gdK (wantd v23 false) (fun k W => okF (binP .gtr v27 (.int .i64 6)) fun v => k v W) (fun v28 W =>
 okF (pickP v23 (.bool true) v28) fun v29 =>
 gdK (wantd v29 false) (fun k W => okF (addrF 0 v4) fun v => k v W) (fun v31 W =>
 gdK (wantd v29 false) (fun k W => okF (addrF 1 v31) fun v => k v W) (fun v32 W =>
 gdK (wantd v29 false) (fun k W => rdK PR (Instr.loadAt T_int64 v32) k W) (fun v33 W =>
 gdK (wantd v29 false) (fun k W => okF (binP .lss v33 (.int .i64 1)) fun v => k v W) (fun v34 W =>
 okF (pickP v29 (.bool true) v34) fun v35 =>
 gdK (wantd v35 false) (fun k W => okF (addrF 0 v4) fun v => k v W) (fun v37 W =>
 gdK (wantd v35 false) (fun k W => okF (addrF 1 v37) fun v => k v W) (fun v38 W =>
 gdK (wantd v35 false) (fun k W => rdK PR (Instr.loadAt T_int64 v38) k W) (fun v39 W =>
 gdK (wantd v35 false) (fun k W => okF (binP .gtr v39 (.int .i64 1000)) fun v => k v W) (fun v40 W =>
 okF (pickP v35 (.bool true) v40) fun v41 =>
 gdK (wantd v41 false) (fun k W => okF (addrF 2 v4) fun v => k v W) (fun v43 W =>
 gdK (wantd v41 false) (fun k W => rdK PR (Instr.loadAt T_int64 v43) k W) (fun v44 W =>
 gdK (wantd v41 false) (fun k W => okF (binP .lss v44 (.int .i64 0)) fun v => k v W) (fun v45 W =>
 okF (pickP v41 (.bool true) v45) fun v46 =>
 gdK (wantd v46 false) (fun k W => okF (addrF 2 v4) fun v => k v W) (fun v48 W =>
 gdK (wantd v46 false) (fun k W => rdK PR (Instr.loadAt T_int64 v48) k W) (fun v49 W =>
 gdK (wantd v46 false) (fun k W => okF (binP .gtr v49 (.int .i64 1099511627776)) fun v => k v W) (fun v50 W =>
 okF (pickP v46 (.bool true) v50) fun v51 =>
 ifK v51 (
 R (.bool false) W) (
 joinK (fun s W => S.rostrumref18_Good.j2 R J1 (nthv s 0) (nthv s 1) (nthv s 2) W) (fun J2 =>
 loopK (fun K3 s W => S.rostrumref18_Good.l3 R J2 K3 (nthv s 0) (nthv s 1) (nthv s 2) (nthv s 3) W) [x0, x3, v4, (.int .i64 0)] W))) W) W) W) W) W) W) W) W) W) W) W) W) W) W) W) W) W) W) W) W) W) W)) (
 R (.bool true) W)
def S.rostrumref18_Good.body (R : Value → World → Prop) (v0 : Value) (W : World) : Prop :=
 okF (lenP (.slice T_rostrumref18_Inst) v0) fun v8 =>
 okF (binP .gtr v8 (.int .i64 1000)) fun v9 =>
 ifK v9 (
 R (.bool false) W) (
 loopK (fun K1 s W => S.rostrumref18_Good.l1 R K1 (nthv s 0) (nthv s 1) W) [v0, (.int .i64 0)] W)
def S.rostrumref18_Good.hint : Hint := (.two .nil (.two (.two .nil (.two (.two .nil .nil) .nil)) (.two (.two .nil (.at [0, 3] (.two (.two .nil (.two .nil .nil)) (.at [0, 3] (.two .nil (.two (.two .nil (.two (.two .nil .nil) .nil)) (.at [0, 3, 4] (.two .nil (.at [0, 3, 4, 5] (.two (.two .nil (.two .nil .nil)) (.two (.two .nil (.two (.two .nil .nil) .nil)) .nil)) .nil)) (.two .nil (.at [0, 3, 4, 6] (.two (.two .nil (.two .nil .nil)) (.two (.two .nil (.two (.two .nil .nil) .nil)) .nil)) .nil))))) .nil)) .nil)) (.two .nil .nil))))
theorem S.rostrumref18_Good.ok (R : Value → World → Prop) (v0 : Value) (W : World) : bodyK PR CB Tryz.f45 S.rostrumref18_Good.hint [v0] R W = S.rostrumref18_Good.body R v0 W := by kernel_rfl
theorem S.rostrumref18_Good.fn : PR.funcs[F_rostrumref18_Good]? = some Tryz.f45 := by kernel_rfl
theorem S.rostrumref18_Good.call {R : Value → World → Prop} {v0 : Value} {W : World} (h : S.rostrumref18_Good.body R v0 W) : callK PR F_rostrumref18_Good [v0] R W :=
 callK_of_body (g := F_rostrumref18_Good) (fn := Tryz.f45) (args := [v0]) (R := R) (w := W) mixed CBok S.rostrumref18_Good.fn S.rostrumref18_Good.hint (by rw [S.rostrumref18_Good.ok]; exact h)
def S.rostrumref7_Good.l1 (R : Value → World → Prop) (K1 : List Value → World → Prop) (x1 x3 : Value) (W : World) : Prop :=
 okF (binP .lss x3 (.int .i64 7)) fun v5 =>
 ifK v5 (
 okF (idxA 7 1 x1 x3) fun v9 =>
 rdK PR (Instr.loadAt T_int64 v9) (fun v10 W =>
 okF (binP .lss v10 (.int .i64 0)) fun v11 =>
 gdK (wantd v11 false) (fun k W => k x3 W) (fun v13 W =>
 gdK (wantd v11 false) (fun k W => okF (idxA 7 1 x1 v13) fun v => k v W) (fun v14 W =>
 gdK (wantd v11 false) (fun k W => rdK PR (Instr.loadAt T_int64 v14) k W) (fun v15 W =>
 gdK (wantd v11 false) (fun k W => okF (binP .gtr v15 (.int .i64 1099511627776)) fun v => k v W) (fun v16 W =>
 okF (pickP v11 (.bool true) v16) fun v17 =>
 ifK v17 (
 R (.bool false) W) (
 okF (binP .add x3 (.int .i64 1)) fun v7 =>
 K1 [x1, v7] W)) W) W) W) W) W) (
 R (.bool true) W)
def S.rostrumref7_Good.body (R : Value → World → Prop) (v0 : Value) (W : World) : Prop :=
 efK PR (Instr.box T_rostrumref7_Vec v0) (fun v1 W =>
 loopK (fun K1 s W => S.rostrumref7_Good.l1 R K1 (nthv s 0) (nthv s 1) W) [v1, (.int .i64 0)] W) W
def S.rostrumref7_Good.hint : Hint := (.two .nil (.two (.two .nil (.at [1, 3] (.two (.two .nil (.two .nil .nil)) (.two (.two .nil (.two (.two .nil .nil) .nil)) .nil)) .nil)) (.two .nil .nil)))
theorem S.rostrumref7_Good.ok (R : Value → World → Prop) (v0 : Value) (W : World) : bodyK PR CB Tryz.f46 S.rostrumref7_Good.hint [v0] R W = S.rostrumref7_Good.body R v0 W := by kernel_rfl
theorem S.rostrumref7_Good.fn : PR.funcs[F_rostrumref7_Good]? = some Tryz.f46 := by kernel_rfl
theorem S.rostrumref7_Good.call {R : Value → World → Prop} {v0 : Value} {W : World} (h : S.rostrumref7_Good.body R v0 W) : callK PR F_rostrumref7_Good [v0] R W :=
 callK_of_body (g := F_rostrumref7_Good) (fn := Tryz.f46) (args := [v0]) (R := R) (w := W) mixed CBok S.rostrumref7_Good.fn S.rostrumref7_Good.hint (by rw [S.rostrumref7_Good.ok]; exact h)
def S.rostrumref7_Merge.j1 (R : Value → World → Prop) (x2 x4 : Value) (W : World) : Prop :=
 rdK PR (Instr.loadAt T_rostrumref7_Vec x2) (fun v22 W =>
 efK PR (Instr.storeAt T_rostrumref7_Vec x4 v22) (fun _ W =>
 rdK PR (Instr.loadAt T_rostrumref7_Vec x4) (fun r0 W =>
 R r0 W) W) W) W
def S.rostrumref7_Merge.j2 (K1 : List Value → World → Prop) (x2 x3 x4 x5 : Value) (W : World) : Prop :=
 okF (binP .add x5 (.int .i64 1)) fun v9 =>
 K1 [x2, x3, x4, v9] W
def S.rostrumref7_Merge.l1 (J1 : List Value → World → Prop) (K1 : List Value → World → Prop) (x2 x3 x4 x5 : Value) (W : World) : Prop :=
 okF (binP .lss x5 (.int .i64 7)) fun v7 =>
 ifK v7 (
 joinK (fun s W => S.rostrumref7_Merge.j2 K1 (nthv s 0) (nthv s 1) (nthv s 2) (nthv s 3) W) (fun J2 =>
 okF (idxA 7 1 x3 x5) fun v11 =>
 rdK PR (Instr.loadAt T_int64 v11) (fun v12 W =>
 okF (idxA 7 1 x2 x5) fun v14 =>
 rdK PR (Instr.loadAt T_int64 v14) (fun v15 W =>
 okF (binP .gtr v12 v15) fun v16 =>
 ifK v16 (
 okF (idxA 7 1 x3 x5) fun v19 =>
 rdK PR (Instr.loadAt T_int64 v19) (fun v20 W =>
 okF (idxA 7 1 x2 x5) fun v21 =>
 efK PR (Instr.storeAt T_int64 v21 v20) (fun _ W =>
 J2 [x2, x3, x4, x5] W) W) W) (
 J2 [x2, x3, x4, x5] W)) W) (tick W))) (
 J1 [x2, x4] W)
def S.rostrumref7_Merge.body (R : Value → World → Prop) (v0 v1 : Value) (W : World) : Prop :=
 efK PR (Instr.box T_rostrumref7_Vec v0) (fun v2 W =>
 efK PR (Instr.box T_rostrumref7_Vec v1) (fun v3 W =>
 efK PR (Instr.alloc T_rostrumref7_Vec true (.tuple #[])) (fun v4 W =>
 joinK (fun s W => S.rostrumref7_Merge.j1 R (nthv s 0) (nthv s 1) W) (fun J1 =>
 loopK (fun K1 s W => S.rostrumref7_Merge.l1 J1 K1 (nthv s 0) (nthv s 1) (nthv s 2) (nthv s 3) W) [v2, v3, v4, (.int .i64 0)] W)) W) W) W
def S.rostrumref7_Merge.hint : Hint := (.two .nil (.at [2, 4] (.two .nil (.at [2, 3, 4, 5] (.two (.two .nil (.two .nil .nil)) (.at [2, 3, 4, 5] (.two .nil (.two .nil .nil)) .nil)) .nil)) (.two .nil .nil)))
theorem S.rostrumref7_Merge.ok (R : Value → World → Prop) (v0 v1 : Value) (W : World) : bodyK PR CB Tryz.f50 S.rostrumref7_Merge.hint [v0, v1] R W = S.rostrumref7_Merge.body R v0 v1 W := by kernel_rfl
theorem S.rostrumref7_Merge.fn : PR.funcs[F_rostrumref7_Merge]? = some Tryz.f50 := by kernel_rfl
theorem S.rostrumref7_Merge.call {R : Value → World → Prop} {v0 v1 : Value} {W : World} (h : S.rostrumref7_Merge.body R v0 v1 W) : callK PR F_rostrumref7_Merge [v0, v1] R W :=
 callK_of_body (g := F_rostrumref7_Merge) (fn := Tryz.f50) (args := [v0, v1]) (R := R) (w := W) mixed CBok S.rostrumref7_Merge.fn S.rostrumref7_Merge.hint (by rw [S.rostrumref7_Merge.ok]; exact h)
def S.rostrumref18_Line.j3 (R : Value → World → Prop) (x17 : Value) (W : World) : Prop :=
 R x17 W
def S.rostrumref18_Line.j4 (K1 : List Value → World → Prop) (x7 x14 x15 x16 x17 x18 : Value) (W : World) : Prop :=
 okF (binP .add x18 (.int .i64 1)) fun v128 =>
 K1 [x7, x14, x15, x16, x17, v128] W
def S.rostrumref18_Line.j5 (J4 : List Value → World → Prop) (x7 x14 x15 x16 x17 x18 x19 : Value) (W : World) : Prop :=
 okF (idxS 1 x16 x19) fun v207 =>
 efK PR (Instr.storeAt T_bool v207 (.bool true)) (fun _ W =>
 okF (idxS 1 x15 x19) fun v211 =>
 rdK PR (Instr.loadAt T_s_rostrumref18_Inst v211) (fun v212 W =>
 callK PR F_rostrumref18_dots [v212] (fun v213 W =>
 efK PR (Builtin.append_ #[T_s_api_Dot, T_s_api_Dot] T_s_api_Dot #[x17, v213]) (fun v214 W =>
 J4 [x7, x14, x15, x16, v214, x18] W) W) W) W) W
def S.rostrumref18_Line.j6 (K2 : List Value → World → Prop) (x7 x14 x15 x16 x17 x18 x19 x20 : Value) (W : World) : Prop :=
 okF (binP .add x20 (.int .i64 1)) fun v134 =>
 K2 [x7, x14, x15, x16, x17, x18, x19, v134] W
def S.rostrumref18_Line.j7 (J6 : List Value → World → Prop) (x7 x14 x15 x16 x17 x18 x19 x20 x21 : Value) (W : World) : Prop :=
 ifK x21 (
 J6 [x7, x14, x15, x16, x17, x18, x20, x20] W) (
 J6 [x7, x14, x15, x16, x17, x18, x19, x20] W)
def S.rostrumref18_Line.l3 (J7 : List Value → World → Prop) (K3 : List Value → World → Prop) (x7 x14 x15 x16 x17 x18 x19 x20 x21 x22 : Value) (W : World) : Prop :=
 okF (lenP (.slice T_s_rostrumref18_Inst) x15) fun v161 =>
 okF (binP .lss x22 v161) fun v162 =>
 ifK v162 (
 gdK (wantd x21 true) (fun k W => k x22 W) (fun v167 W =>
 gdK (wantd x21 true) (fun k W => k x20 W) (fun v168 W =>
 gdK (wantd x21 true) (fun k W => okF (binP .eql v167 v168) fun v => k v W) (fun v169 W =>
 gdK (wantd x21 true) (fun k W => k v169 W) (fun v170 W =>
 gdK (wantd v170 false) (fun k W => k x16 W) (fun v171 W =>
 gdK (wantd v170 false) (fun k W => k x22 W) (fun v172 W =>
 gdK (wantd v170 false) (fun k W => okF (idxS 1 v171 v172) fun v => k v W) (fun v173 W =>
 gdK (wantd v170 false) (fun k W => rdK PR (Instr.loadAt T_bool v173) k W) (fun v174 W =>
 gdK (wantd x21 true) (fun k W => okF (pickP v170 (.bool true) v174) fun v => k v W) (fun v175 W =>
 gdK (wantd x21 true) (fun k W => k v175 W) (fun v176 W =>
 gdK (wantd v176 false) (fun k W => k x14 W) (fun v177 W =>
 gdK (wantd v176 false) (fun k W => k x7 W) (fun v178 W =>
 gdK (wantd v176 false) (fun k W => k x15 W) (fun v179 W =>
 gdK (wantd v176 false) (fun k W => k x20 W) (fun v180 W =>
 gdK (wantd v176 false) (fun k W => okF (idxS 1 v179 v180) fun v => k v W) (fun v181 W =>
 gdK (wantd v176 false) (fun k W => rdK PR (Instr.loadAt T_s_rostrumref18_Inst v181) k W) (fun v182 W =>
 gdK (wantd v176 false) (fun k W => okF (idxS 10 v182 (.int .i64 0)) fun v => k v W) (fun v183 W =>
 gdK (wantd v176 false) (fun k W => okF (addrF 0 v183) fun v => k v W) (fun v184 W =>
 gdK (wantd v176 false) (fun k W => rdK PR (Instr.loadAt T_api_Dot v184) k W) (fun v185 W =>
 gdK (wantd v176 false) (fun k W => k x7 W) (fun v189 W =>
 gdK (wantd v176 false) (fun k W => k x15 W) (fun v190 W =>
 gdK (wantd v176 false) (fun k W => k x22 W) (fun v191 W =>
 gdK (wantd v176 false) (fun k W => okF (idxS 1 v190 v191) fun v => k v W) (fun v192 W =>
 gdK (wantd v176 false) (fun k W => rdK PR (Instr.loadAt T_s_rostrumref18_Inst v192) k W) (fun v193 W =>
 gdK (wantd v176 false) (fun k W => okF (idxS 10 v193 (.int .i64 0)) fun v => k v W) (fun v194 W =>
 gdK (wantd v176 false) (fun k W => okF (addrF 0 v194) fun v => k v W) (fun v195 W =>
 gdK (wantd v176 false) (fun k W => rdK PR (Instr.loadAt T_api_Dot v195) k W) (fun v196 W =>
 gdK (wantd v176 false) (fun k W => callK PR F_rostrumref18_place [v178, v185] (fun v W => stb PR [(31, (wantd v176 false), (Instr.loadAt T_api_Dot v195), v196), (28, (wantd v176 false), (Instr.loadAt T_s_rostrumref18_Inst v192), v193)] (fun W => k v W) W) W) (fun v186 W =>
 gdK (wantd v176 false) (fun k W => okF (idxS 1 v177 v186) fun v => k v W) (fun v187 W =>
 gdK (wantd v176 false) (fun k W => rdK PR (Instr.loadAt T_s_bool v187) k W) (fun v188 W =>
 gdK (wantd v176 false) (fun k W => callK PR F_rostrumref18_place [v189, v196] (fun v W => stb PR [(23, (wantd v176 false), (Instr.loadAt T_s_bool v187), v188)] (fun W => k v W) W) W) (fun v197 W =>
 gdK (wantd v176 false) (fun k W => okF (idxS 1 v188 v197) fun v => k v W) (fun v198 W =>
 gdK (wantd v176 false) (fun k W => rdK PR (Instr.loadAt T_bool v198) k W) (fun v199 W =>
 gdK (wantd v176 false) (fun k W => okF (unP .not v199) fun v => k v W) (fun v200 W =>
 gdK (wantd x21 true) (fun k W => okF (pickP v176 (.bool true) v200) fun v => k v W) (fun v201 W =>
 okF (pickP x21 v201 (.bool false)) fun v202 =>
 okF (binP .add x22 (.int .i64 1)) fun v164 =>
 K3 [x7, x14, x15, x16, x17, x18, x19, x20, v202, v164] W) W) W) W) W) W) W) W) W) W) W) W) W) W) W) W) W) W) W) W) W) W) W) W) W) W) W) W) W) W) W) W) W) W) W) (tick W)) (
 J7 [x7, x14, x15, x16, x17, x18, x19, x20, x21] W)
def S.rostrumref18_Line.l2 (J5 : List Value → World → Prop) (K2 : List Value → World → Prop) (x7 x14 x15 x16 x17 x18 x19 x20 : Value) (W : World) : Prop :=
 okF (lenP (.slice T_s_rostrumref18_Inst) x15) fun v131 =>
 okF (binP .lss x20 v131) fun v132 =>
 ifK v132 (
 joinK (fun s W => S.rostrumref18_Line.j6 K2 (nthv s 0) (nthv s 1) (nthv s 2) (nthv s 3) (nthv s 4) (nthv s 5) (nthv s 6) (nthv s 7) W) (fun J6 =>
 okF (idxS 1 x16 x20) fun v137 =>
 rdK PR (Instr.loadAt T_bool v137) (fun v138 W =>
 gdK (wantd v138 false) (fun k W => k x19 W) (fun v140 W =>
 gdK (wantd v138 false) (fun k W => okF (binP .geq v140 (.int .i64 0)) fun v => k v W) (fun v141 W =>
 gdK (wantd v138 false) (fun k W => k v141 W) (fun v142 W =>
 gdK (wantd v142 true) (fun k W => k x15 W) (fun v143 W =>
 gdK (wantd v142 true) (fun k W => k x20 W) (fun v144 W =>
 gdK (wantd v142 true) (fun k W => okF (idxS 1 v143 v144) fun v => k v W) (fun v145 W =>
 gdK (wantd v142 true) (fun k W => rdK PR (Instr.loadAt T_s_rostrumref18_Inst v145) k W) (fun v146 W =>
 gdK (wantd v142 true) (fun k W => okF (idxS 10 v146 (.int .i64 0)) fun v => k v W) (fun v147 W =>
 gdK (wantd v142 true) (fun k W => rdK PR (Instr.loadAt T_rostrumref18_Inst v147) k W) (fun v148 W =>
 gdK (wantd v142 true) (fun k W => k x15 W) (fun v149 W =>
 gdK (wantd v142 true) (fun k W => k x19 W) (fun v150 W =>
 gdK (wantd v142 true) (fun k W => okF (idxS 1 v149 v150) fun v => k v W) (fun v151 W =>
 gdK (wantd v142 true) (fun k W => rdK PR (Instr.loadAt T_s_rostrumref18_Inst v151) k W) (fun v152 W =>
 gdK (wantd v142 true) (fun k W => okF (idxS 10 v152 (.int .i64 0)) fun v => k v W) (fun v153 W =>
 gdK (wantd v142 true) (fun k W => rdK PR (Instr.loadAt T_rostrumref18_Inst v153) k W) (fun v154 W =>
 gdK (wantd v142 true) (fun k W => callK PR F_rostrumref18_Less [v148, v154] k W) (fun v155 W =>
 gdK (wantd v142 true) (fun k W => okF (unP .not v155) fun v => k v W) (fun v156 W =>
 gdK (wantd v138 false) (fun k W => okF (pickP v142 v156 (.bool false)) fun v => k v W) (fun v157 W =>
 okF (pickP v138 (.bool true) v157) fun v158 =>
 ifK v158 (
 J6 [x7, x14, x15, x16, x17, x18, x19, x20] W) (
 joinK (fun s W => S.rostrumref18_Line.j7 J6 (nthv s 0) (nthv s 1) (nthv s 2) (nthv s 3) (nthv s 4) (nthv s 5) (nthv s 6) (nthv s 7) (nthv s 8) W) (fun J7 =>
 loopK (fun K3 s W => S.rostrumref18_Line.l3 J7 K3 (nthv s 0) (nthv s 1) (nthv s 2) (nthv s 3) (nthv s 4) (nthv s 5) (nthv s 6) (nthv s 7) (nthv s 8) (nthv s 9) W) [x7, x14, x15, x16, x17, x18, x19, x20, (.bool true), (.int .i64 0)] W))) W) W) W) W) W) W) W) W) W) W) W) W) W) W) W) W) W) W) (tick W))) (
 J5 [x7, x14, x15, x16, x17, x18, x19] W)
def S.rostrumref18_Line.l1 (J3 : List Value → World → Prop) (K1 : List Value → World → Prop) (x7 x14 x15 x16 x17 x18 : Value) (W : World) : Prop :=
 okF (lenP (.slice T_s_rostrumref18_Inst) x15) fun v125 =>
 okF (binP .lss x18 v125) fun v126 =>
 ifK v126 (
 joinK (fun s W => S.rostrumref18_Line.j4 K1 (nthv s 0) (nthv s 1) (nthv s 2) (nthv s 3) (nthv s 4) (nthv s 5) W) (fun J4 =>
 joinK (fun s W => S.rostrumref18_Line.j5 J4 (nthv s 0) (nthv s 1) (nthv s 2) (nthv s 3) (nthv s 4) (nthv s 5) (nthv s 6) W) (fun J5 =>
 loopK (fun K2 s W => S.rostrumref18_Line.l2 J5 K2 (nthv s 0) (nthv s 1) (nthv s 2) (nthv s 3) (nthv s 4) (nthv s 5) (nthv s 6) (nthv s 7) W) [x7, x14, x15, x16, x17, x18, (.int .i64 (-1)), (.int .i64 0)] W))) (
 J3 [x17] W)
def S.rostrumref18_Line.j2 (R : Value → World → Prop) (x7 : Value) (W : World) : Prop :=
 callK PR F_rostrumref18_table [x7] (fun v116 W =>
 callK PR F_rostrumref18_groups [x7, v116] (fun v119 W =>
 okF (lenP (.slice T_s_rostrumref18_Inst) v119) fun v121 =>
 efK PR (Instr.makeSlice T_s_bool v121 v121) (fun v122 W =>
 joinK (fun s W => S.rostrumref18_Line.j3 R (nthv s 0) W) (fun J3 =>
 loopK (fun K1 s W => S.rostrumref18_Line.l1 J3 K1 (nthv s 0) (nthv s 1) (nthv s 2) (nthv s 3) (nthv s 4) (nthv s 5) W) [x7, v116, v119, v122, (.slice none 0 0), (.int .i64 0)] W)) W) W) W
def S.rostrumref18_Line.j8 (K5 : List Value → World → Prop) (x2 x4 x7 x9 x10 : Value) (W : World) : Prop :=
 okF (binP .add x10 (.int .i64 1)) fun v58 =>
 K5 [x2, x4, x7, x9, v58] W
def S.rostrumref18_Line.j9 (K6 : List Value → World → Prop) (x2 x4 x7 x9 x10 x11 : Value) (W : World) : Prop :=
 okF (binP .add x11 (.int .i64 1)) fun v66 =>
 K6 [x2, x4, x7, x9, x10, v66] W
def S.rostrumref18_Line.j10 (K7 : List Value → World → Prop) (x2 x4 x7 x9 x10 x11 x12 : Value) (W : World) : Prop :=
 okF (binP .add x12 (.int .i64 1)) fun v81 =>
 K7 [x2, x4, x7, x9, x10, x11, v81] W
def S.rostrumref18_Line.l7 (J9 : List Value → World → Prop) (K7 : List Value → World → Prop) (x2 x4 x7 x9 x10 x11 x12 : Value) (W : World) : Prop :=
 okF (unP .not x9) fun v68 =>
 gdK (wantd v68 true) (fun k W => k x12 W) (fun v70 W =>
 gdK (wantd v68 true) (fun k W => k x7 W) (fun v71 W =>
 gdK (wantd v68 true) (fun k W => k x10 W) (fun v72 W =>
 gdK (wantd v68 true) (fun k W => k x11 W) (fun v73 W =>
 gdK (wantd v68 true) (fun k W => okF (idxS 10 v71 v72) fun v => k v W) (fun v74 W =>
 gdK (wantd v68 true) (fun k W => okF (addrF 3 v74) fun v => k v W) (fun v75 W =>
 gdK (wantd v68 true) (fun k W => okF (idxA 7 1 v75 v73) fun v => k v W) (fun v76 W =>
 gdK (wantd v68 true) (fun k W => rdK PR (Instr.loadAt T_int64 v76) k W) (fun v77 W =>
 gdK (wantd v68 true) (fun k W => okF (binP .leq v70 v77) fun v => k v W) (fun v78 W =>
 okF (pickP v68 v78 (.bool false)) fun v79 =>
 ifK v79 (
 joinK (fun s W => S.rostrumref18_Line.j10 K7 (nthv s 0) (nthv s 1) (nthv s 2) (nthv s 3) (nthv s 4) (nthv s 5) (nthv s 6) W) (fun J10 =>
 okF (bldP (fun i => ([(0, 1), (1, 1)] : List (Nat × Nat))[i]?) [.int .i64 0, .int .i64 0] [(0, x11), (1, x12)]) fun v84 =>
 efK PR (Instr.alloc T_api_Dot true (.tuple #[])) (fun v13 W =>
 efK PR (Instr.storeAt T_api_Dot v13 v84) (fun _ W =>
 rdK PR (Instr.loadAt T_api_Dot v13) (fun v85 W =>
 okF (idxS 10 x7 x10) fun v88 =>
 okF (addrF 0 v88) fun v89 =>
 rdK PR (Instr.loadAt T_api_Dot v89) (fun v90 W =>
 rdK PR (aggEq .neq T_api_Dot v85 v90) (fun v91 W =>
 gdK (wantd v91 true) (fun k W => rdK PR (Instr.loadAt T_a7_int64 x4) k W) (fun v93 W =>
 gdK (wantd v91 true) (fun k W => k x2 W) (fun v94 W =>
 gdK (wantd v91 true) (fun k W => rdK PR (Instr.loadAt T_api_Dot v13) k W) (fun v95 W =>
 gdK (wantd v91 true) (fun k W => callK PR F_rostrumref18_is [v93, v94, v95] k W) (fun v96 W =>
 gdK (wantd v91 true) (fun k W => okF (unP .not v96) fun v => k v W) (fun v97 W =>
 okF (pickP v91 v97 (.bool false)) fun v98 =>
 gdK (wantd v98 true) (fun k W => k x7 W) (fun v100 W =>
 gdK (wantd v98 true) (fun k W => rdK PR (Instr.loadAt T_api_Dot v13) k W) (fun v101 W =>
 gdK (wantd v98 true) (fun k W => callK PR F_rostrumref18_there [v100, v101] k W) (fun v102 W =>
 gdK (wantd v98 true) (fun k W => okF (unP .not v102) fun v => k v W) (fun v103 W =>
 okF (pickP v98 v103 (.bool false)) fun v104 =>
 ifK v104 (
 okF (slcS 10 x7 none (some x10) none) fun v108 =>
 okF (binP .add x10 (.int .i64 1)) fun v112 =>
 okF (slcS 10 x7 (some v112) none none) fun v113 =>
 efK PR (Instr.buildSlice T_s_rostrumref18_Inst 0 #[]) (fun v105 W =>
 efK PR (Builtin.append_ #[T_s_rostrumref18_Inst, T_s_rostrumref18_Inst] T_s_rostrumref18_Inst #[v105, v108]) (fun v109 W =>
 efK PR (Builtin.append_ #[T_s_rostrumref18_Inst, T_s_rostrumref18_Inst] T_s_rostrumref18_Inst #[v109, v113]) (fun v114 W =>
 J10 [x2, x4, v114, (.bool true), x10, x11, x12] W) W) W) (tick W)) (
 J10 [x2, x4, x7, x9, x10, x11, x12] W)) W) W) W) W) W) W) W) W) W) W) W) (tick W)) W) W)) (
 J9 [x2, x4, x7, x9, x10, x11] W)) W) W) W) W) W) W) W) W) W
def S.rostrumref18_Line.l6 (J8 : List Value → World → Prop) (K6 : List Value → World → Prop) (x2 x4 x7 x9 x10 x11 : Value) (W : World) : Prop :=
 okF (binP .lss x11 (.int .i64 7)) fun v60 =>
 gdK (wantd v60 true) (fun k W => k x9 W) (fun v62 W =>
 gdK (wantd v60 true) (fun k W => okF (unP .not v62) fun v => k v W) (fun v63 W =>
 okF (pickP v60 v63 (.bool false)) fun v64 =>
 ifK v64 (
 joinK (fun s W => S.rostrumref18_Line.j9 K6 (nthv s 0) (nthv s 1) (nthv s 2) (nthv s 3) (nthv s 4) (nthv s 5) W) (fun J9 =>
 loopK (fun K7 s W => S.rostrumref18_Line.l7 J9 K7 (nthv s 0) (nthv s 1) (nthv s 2) (nthv s 3) (nthv s 4) (nthv s 5) (nthv s 6) W) [x2, x4, x7, x9, x10, x11, (.int .i64 1)] W)) (
 J8 [x2, x4, x7, x9, x10] W)) W) W
def S.rostrumref18_Line.l5 (K4 : List Value → World → Prop) (K5 : List Value → World → Prop) (x2 x4 x7 x9 x10 : Value) (W : World) : Prop :=
 okF (lenP (.slice T_rostrumref18_Inst) x7) fun v51 =>
 okF (binP .lss x10 v51) fun v52 =>
 gdK (wantd v52 true) (fun k W => k x9 W) (fun v54 W =>
 gdK (wantd v52 true) (fun k W => okF (unP .not v54) fun v => k v W) (fun v55 W =>
 okF (pickP v52 v55 (.bool false)) fun v56 =>
 ifK v56 (
 joinK (fun s W => S.rostrumref18_Line.j8 K5 (nthv s 0) (nthv s 1) (nthv s 2) (nthv s 3) (nthv s 4) W) (fun J8 =>
 loopK (fun K6 s W => S.rostrumref18_Line.l6 J8 K6 (nthv s 0) (nthv s 1) (nthv s 2) (nthv s 3) (nthv s 4) (nthv s 5) W) [x2, x4, x7, x9, x10, (.int .i64 0)] W)) (
 K4 [x2, x4, x7, x9] W)) W) W
def S.rostrumref18_Line.l4 (J2 : List Value → World → Prop) (K4 : List Value → World → Prop) (x2 x4 x7 x9 : Value) (W : World) : Prop :=
 ifK x9 (
 loopK (fun K5 s W => S.rostrumref18_Line.l5 K4 K5 (nthv s 0) (nthv s 1) (nthv s 2) (nthv s 3) (nthv s 4) W) [x2, x4, x7, (.bool false), (.int .i64 0)] W) (
 J2 [x7] W)
def S.rostrumref18_Line.j1 (R : Value → World → Prop) (x2 x4 x7 : Value) (W : World) : Prop :=
 joinK (fun s W => S.rostrumref18_Line.j2 R (nthv s 0) W) (fun J2 =>
 loopK (fun K4 s W => S.rostrumref18_Line.l4 J2 K4 (nthv s 0) (nthv s 1) (nthv s 2) (nthv s 3) W) [x2, x4, x7, (.bool true)] W)
def S.rostrumref18_Line.j11 (K8 : List Value → World → Prop) (x0 x2 x4 x7 x8 : Value) (W : World) : Prop :=
 okF (binP .add x8 (.int .i64 1)) fun v31 =>
 K8 [x0, x2, x4, x7, v31] W
def S.rostrumref18_Line.l8 (J1 : List Value → World → Prop) (K8 : List Value → World → Prop) (x0 x2 x4 x7 x8 : Value) (W : World) : Prop :=
 okF (lenP (.slice T_rostrumref18_Inst) x0) fun v28 =>
 okF (binP .lss x8 v28) fun v29 =>
 ifK v29 (
 joinK (fun s W => S.rostrumref18_Line.j11 K8 (nthv s 0) (nthv s 1) (nthv s 2) (nthv s 3) (nthv s 4) W) (fun J11 =>
 rdK PR (Instr.loadAt T_a7_int64 x4) (fun v32 W =>
 okF (idxS 10 x0 x8) fun v36 =>
 okF (addrF 0 v36) fun v37 =>
 rdK PR (Instr.loadAt T_api_Dot v37) (fun v38 W =>
 callK PR F_rostrumref18_is [v32, x2, v38] (fun v39 W =>
 okF (unP .not v39) fun v40 =>
 ifK v40 (
 okF (idxS 10 x0 x8) fun v44 =>
 rdK PR (Instr.loadAt T_rostrumref18_Inst v44) (fun v45 W =>
 efK PR (Instr.buildSlice T_s_rostrumref18_Inst 1 #[(0, v45)]) (fun v46 W =>
 efK PR (Builtin.append_ #[T_s_rostrumref18_Inst, T_s_rostrumref18_Inst] T_s_rostrumref18_Inst #[x7, v46]) (fun v47 W =>
 J11 [x0, x2, x4, v47, x8] W) W) W) W) (
 J11 [x0, x2, x4, x7, x8] W)) W) W) (tick W))) (
 J1 [x2, x4, x7] W)
def S.rostrumref18_Line.body (R : Value → World → Prop) (v0 v1 v2 : Value) (W : World) : Prop :=
 efK PR (Instr.box T_a7_int64 v1) (fun v4 W =>
 callK PR F_rostrumref18_Good [v0] (fun v24 W =>
 okF (unP .not v24) fun v25 =>
 ifK v25 (
 R (.slice none 0 0) W) (
 joinK (fun s W => S.rostrumref18_Line.j1 R (nthv s 0) (nthv s 1) (nthv s 2) W) (fun J1 =>
 loopK (fun K8 s W => S.rostrumref18_Line.l8 J1 K8 (nthv s 0) (nthv s 1) (nthv s 2) (nthv s 3) (nthv s 4) W) [v0, v2, v4, (.slice none 0 0), (.int .i64 0)] W))) W) W
def S.rostrumref18_Line.hint : Hint := (.two .nil (.two (.two .nil (.two (.two .nil .nil) .nil)) (.two .nil (.at [2, 4, 7] (.two .nil (.at [0, 2, 4, 7, 8] (.two (.two .nil (.two .nil .nil)) (.at [0, 2, 4, 7, 8] (.two .nil (.two .nil .nil)) .nil)) .nil)) (.at [7] (.two .nil (.at [2, 4, 7, 9] (.two (.two .nil (.two .nil .nil)) (.two .nil (.two .nil (.at [2, 4, 7, 9, 10] (.two (.two .nil (.two .nil .nil)) (.at [2, 4, 7, 9, 10] (.two .nil (.at [2, 4, 7, 9, 10, 11] (.two (.two .nil (.two .nil .nil)) (.at [2, 4, 7, 9, 10, 11] (.two .nil (.at [2, 4, 7, 9, 10, 11, 12] (.two (.two .nil (.two .nil .nil)) (.at [2, 4, 7, 9, 10, 11, 12] (.two .nil (.two .nil (.two (.two .nil .nil) .nil))) .nil)) .nil)) .nil)) .nil)) .nil)) .nil)))) .nil)) (.two .nil (.two .nil (.two .nil (.two .nil (.at [17] (.two .nil (.at [7, 14, 15, 16, 17, 18] (.two (.two .nil (.two .nil .nil)) (.at [7, 14, 15, 16, 17, 18] (.two .nil (.at [7, 14, 15, 16, 17, 18, 19] (.two .nil (.at [7, 14, 15, 16, 17, 18, 19, 20] (.two (.two .nil (.two .nil .nil)) (.at [7, 14, 15, 16, 17, 18, 19, 20] (.two (.two .nil (.two .nil .nil)) (.two .nil (.at [7, 14, 15, 16, 17, 18, 19, 20, 21] (.two .nil (.at [7, 14, 15, 16, 17, 18, 19, 20, 21, 22] (.two (.two .nil (.two .nil .nil)) (.two .nil .nil)) .nil)) (.two .nil (.two .nil .nil))))) .nil)) .nil)) (.two .nil .nil))) .nil)) .nil)) (.two .nil .nil)))))))))))
theorem S.rostrumref18_Line.ok (R : Value → World → Prop) (v0 v1 v2 : Value) (W : World) : bodyK PR CB Tryz.f51 S.rostrumref18_Line.hint [v0, v1, v2] R W = S.rostrumref18_Line.body R v0 v1 v2 W := by kernel_rfl
theorem S.rostrumref18_Line.fn : PR.funcs[F_rostrumref18_Line]? = some Tryz.f51 := by kernel_rfl
theorem S.rostrumref18_Line.call {R : Value → World → Prop} {v0 v1 v2 : Value} {W : World} (h : S.rostrumref18_Line.body R v0 v1 v2 W) : callK PR F_rostrumref18_Line [v0, v1, v2] R W :=
 callK_of_body (g := F_rostrumref18_Line) (fn := Tryz.f51) (args := [v0, v1, v2]) (R := R) (w := W) mixed CBok S.rostrumref18_Line.fn S.rostrumref18_Line.hint (by rw [S.rostrumref18_Line.ok]; exact h)
def S.rostrumref18_is.l1 (R : Value → World → Prop) (K1 : List Value → World → Prop) (x1 x5 x7 : Value) (W : World) : Prop :=
 okF (lenP (.slice T_api_Dot) x1) fun v17 =>
 okF (binP .lss x7 v17) fun v18 =>
 ifK v18 (
 okF (idxS 2 x1 x7) fun v23 =>
 rdK PR (Instr.loadAt T_api_Dot v23) (fun v24 W =>
 rdK PR (Instr.loadAt T_api_Dot x5) (fun v25 W =>
 rdK PR (aggEq .eql T_api_Dot v24 v25) (fun v26 W =>
 ifK v26 (
 R (.bool true) W) (
 okF (binP .add x7 (.int .i64 1)) fun v20 =>
 K1 [x1, x5, v20] W)) W) W) (tick W)) (
 R (.bool false) W)
def S.rostrumref18_is.body (R : Value → World → Prop) (v0 v1 v2 : Value) (W : World) : Prop :=
 efK PR (Instr.box T_a7_int64 v0) (fun v3 W =>
 efK PR (Instr.box T_api_Dot v2) (fun v5 W =>
 okF (addrF 1 v5) fun v8 =>
 rdK PR (Instr.loadAt T_int64 v8) (fun v9 W =>
 okF (addrF 0 v5) fun v10 =>
 rdK PR (Instr.loadAt T_int v10) (fun v11 W =>
 okF (idxA 7 1 v3 v11) fun v12 =>
 rdK PR (Instr.loadAt T_int64 v12) (fun v13 W =>
 okF (binP .leq v9 v13) fun v14 =>
 ifK v14 (
 R (.bool true) W) (
 loopK (fun K1 s W => S.rostrumref18_is.l1 R K1 (nthv s 0) (nthv s 1) (nthv s 2) W) [v1, v5, (.int .i64 0)] W)) W) W) (tick W)) W) W
def S.rostrumref18_is.hint : Hint := (.two .nil (.two (.two .nil (.two (.two .nil .nil) .nil)) (.two (.two .nil (.at [1, 5, 7] (.two (.two .nil (.two .nil .nil)) (.two (.two .nil (.two (.two .nil .nil) .nil)) .nil)) .nil)) (.two .nil .nil))))
theorem S.rostrumref18_is.ok (R : Value → World → Prop) (v0 v1 v2 : Value) (W : World) : bodyK PR CB Tryz.f52 S.rostrumref18_is.hint [v0, v1, v2] R W = S.rostrumref18_is.body R v0 v1 v2 W := by kernel_rfl
theorem S.rostrumref18_is.fn : PR.funcs[F_rostrumref18_is]? = some Tryz.f52 := by kernel_rfl
theorem S.rostrumref18_is.call {R : Value → World → Prop} {v0 v1 v2 : Value} {W : World} (h : S.rostrumref18_is.body R v0 v1 v2 W) : callK PR F_rostrumref18_is [v0, v1, v2] R W :=
 callK_of_body (g := F_rostrumref18_is) (fn := Tryz.f52) (args := [v0, v1, v2]) (R := R) (w := W) mixed CBok S.rostrumref18_is.fn S.rostrumref18_is.hint (by rw [S.rostrumref18_is.ok]; exact h)
def S.rostrumref7_Le.l1 (R : Value → World → Prop) (K1 : List Value → World → Prop) (x2 x3 x5 : Value) (W : World) : Prop :=
 okF (binP .lss x5 (.int .i64 7)) fun v7 =>
 ifK v7 (
 okF (idxA 7 1 x2 x5) fun v11 =>
 rdK PR (Instr.loadAt T_int64 v11) (fun v12 W =>
 okF (idxA 7 1 x3 x5) fun v14 =>
 rdK PR (Instr.loadAt T_int64 v14) (fun v15 W =>
 okF (binP .gtr v12 v15) fun v16 =>
 ifK v16 (
 R (.bool false) W) (
 okF (binP .add x5 (.int .i64 1)) fun v9 =>
 K1 [x2, x3, v9] W)) W) (tick W)) (
 R (.bool true) W)
def S.rostrumref7_Le.body (R : Value → World → Prop) (v0 v1 : Value) (W : World) : Prop :=
 efK PR (Instr.box T_rostrumref7_Vec v0) (fun v2 W =>
 efK PR (Instr.box T_rostrumref7_Vec v1) (fun v3 W =>
 loopK (fun K1 s W => S.rostrumref7_Le.l1 R K1 (nthv s 0) (nthv s 1) (nthv s 2) W) [v2, v3, (.int .i64 0)] W) W) W
def S.rostrumref7_Le.hint : Hint := (.two .nil (.two (.two .nil (.at [2, 3, 5] (.two (.two .nil (.two .nil .nil)) (.two (.two .nil (.two (.two .nil .nil) .nil)) .nil)) .nil)) (.two .nil .nil)))
theorem S.rostrumref7_Le.ok (R : Value → World → Prop) (v0 v1 : Value) (W : World) : bodyK PR CB Tryz.f53 S.rostrumref7_Le.hint [v0, v1] R W = S.rostrumref7_Le.body R v0 v1 W := by kernel_rfl
theorem S.rostrumref7_Le.fn : PR.funcs[F_rostrumref7_Le]? = some Tryz.f53 := by kernel_rfl
theorem S.rostrumref7_Le.call {R : Value → World → Prop} {v0 v1 : Value} {W : World} (h : S.rostrumref7_Le.body R v0 v1 W) : callK PR F_rostrumref7_Le [v0, v1] R W :=
 callK_of_body (g := F_rostrumref7_Le) (fn := Tryz.f53) (args := [v0, v1]) (R := R) (w := W) mixed CBok S.rostrumref7_Le.fn S.rostrumref7_Le.hint (by rw [S.rostrumref7_Le.ok]; exact h)
def S.rostrumref18_Exec_find.l1 (R : Value → World → Prop) (K1 : List Value → World → Prop) (x0 x3 x5 : Value) (W : World) : Prop :=
 okF (nilP x0) fun v8 =>
 okF (addrF 7 v8) fun v9 =>
 rdK PR (Instr.loadAt T_s_rostrumref18_kept v9) (fun v10 W =>
 okF (lenP (.slice T_rostrumref18_kept) v10) fun v11 =>
 okF (binP .lss x5 v11) fun v12 =>
 ifK v12 (
 okF (nilP x0) fun v16 =>
 okF (addrF 7 v16) fun v17 =>
 rdK PR (Instr.loadAt T_s_rostrumref18_kept v17) (fun v18 W =>
 okF (idxS 18 v18 x5) fun v20 =>
 okF (addrF 0 v20) fun v21 =>
 okF (addrF 0 v21) fun v22 =>
 rdK PR (Instr.loadAt T_api_Dot v22) (fun v23 W =>
 rdK PR (Instr.loadAt T_api_Dot x3) (fun v24 W =>
 rdK PR (aggEq .eql T_api_Dot v23 v24) (fun v25 W =>
 ifK v25 (
 R x5 W) (
 okF (binP .add x5 (.int .i64 1)) fun v14 =>
 K1 [x0, x3, v14] W)) W) W) W) (tick W)) (
 R (.int .i64 (-1)) W)) W
def S.rostrumref18_Exec_find.body (R : Value → World → Prop) (v0 v1 : Value) (W : World) : Prop :=
 efK PR (Instr.box T_api_Dot v1) (fun v3 W =>
 loopK (fun K1 s W => S.rostrumref18_Exec_find.l1 R K1 (nthv s 0) (nthv s 1) (nthv s 2) W) [v0, v3, (.int .i64 0)] W) W
def S.rostrumref18_Exec_find.hint : Hint := (.two .nil (.two (.two .nil (.at [0, 3, 5] (.two (.two .nil (.two .nil .nil)) (.two (.two .nil (.two (.two .nil .nil) .nil)) .nil)) .nil)) (.two .nil .nil)))
theorem S.rostrumref18_Exec_find.ok (R : Value → World → Prop) (v0 v1 : Value) (W : World) : bodyK PR CB Tryz.f54 S.rostrumref18_Exec_find.hint [v0, v1] R W = S.rostrumref18_Exec_find.body R v0 v1 W := by kernel_rfl
theorem S.rostrumref18_Exec_find.fn : PR.funcs[F_rostrumref18_Exec_find]? = some Tryz.f54 := by kernel_rfl
theorem S.rostrumref18_Exec_find.call {R : Value → World → Prop} {v0 v1 : Value} {W : World} (h : S.rostrumref18_Exec_find.body R v0 v1 W) : callK PR F_rostrumref18_Exec_find [v0, v1] R W :=
 callK_of_body (g := F_rostrumref18_Exec_find) (fn := Tryz.f54) (args := [v0, v1]) (R := R) (w := W) mixed CBok S.rostrumref18_Exec_find.fn S.rostrumref18_Exec_find.hint (by rw [S.rostrumref18_Exec_find.ok]; exact h)
def S.rostrumref18_there.body (R : Value → World → Prop) (v0 v1 : Value) (W : World) : Prop :=
 efK PR (Instr.box T_api_Dot v1) (fun v3 W =>
 rdK PR (Instr.loadAt T_api_Dot v3) (fun v6 W =>
 callK PR F_rostrumref18_place [v0, v6] (fun v7 W =>
 okF (binP .geq v7 (.int .i64 0)) fun v8 =>
 R v8 W) W) W) W
def S.rostrumref18_there.hint : Hint := (.two .nil (.two .nil .nil))
theorem S.rostrumref18_there.ok (R : Value → World → Prop) (v0 v1 : Value) (W : World) : bodyK PR CB Tryz.f69 S.rostrumref18_there.hint [v0, v1] R W = S.rostrumref18_there.body R v0 v1 W := by kernel_rfl
theorem S.rostrumref18_there.fn : PR.funcs[F_rostrumref18_there]? = some Tryz.f69 := by kernel_rfl
theorem S.rostrumref18_there.call {R : Value → World → Prop} {v0 v1 : Value} {W : World} (h : S.rostrumref18_there.body R v0 v1 W) : callK PR F_rostrumref18_there [v0, v1] R W :=
 callK_of_body (g := F_rostrumref18_there) (fn := Tryz.f69) (args := [v0, v1]) (R := R) (w := W) mixed CBok S.rostrumref18_there.fn S.rostrumref18_there.hint (by rw [S.rostrumref18_there.ok]; exact h)
def S.rostrumref18_table.j2 (R : Value → World → Prop) (x3 : Value) (W : World) : Prop :=
 R x3 W
def S.rostrumref18_table.j3 (K1 : List Value → World → Prop) (x0 x3 x6 : Value) (W : World) : Prop :=
 okF (binP .add x6 (.int .i64 1)) fun v51 =>
 K1 [x0, x3, v51] W
def S.rostrumref18_table.j4 (K2 : List Value → World → Prop) (x0 x3 x6 x7 : Value) (W : World) : Prop :=
 okF (binP .add x7 (.int .i64 1)) fun v57 =>
 K2 [x0, x3, x6, v57] W
def S.rostrumref18_table.l3 (J4 : List Value → World → Prop) (K3 : List Value → World → Prop) (x0 x3 x6 x7 x8 : Value) (W : World) : Prop :=
 okF (lenP (.slice T_rostrumref18_Inst) x0) fun v60 =>
 okF (binP .lss x8 v60) fun v61 =>
 gdK (wantd v61 true) (fun k W => k x3 W) (fun v63 W =>
 gdK (wantd v61 true) (fun k W => k x7 W) (fun v64 W =>
 gdK (wantd v61 true) (fun k W => okF (idxS 1 v63 v64) fun v => k v W) (fun v65 W =>
 gdK (wantd v61 true) (fun k W => rdK PR (Instr.loadAt T_s_bool v65) k W) (fun v66 W =>
 gdK (wantd v61 true) (fun k W => k x6 W) (fun v67 W =>
 gdK (wantd v61 true) (fun k W => okF (idxS 1 v66 v67) fun v => k v W) (fun v68 W =>
 gdK (wantd v61 true) (fun k W => rdK PR (Instr.loadAt T_bool v68) k W) (fun v69 W =>
 okF (pickP v61 v69 (.bool false)) fun v70 =>
 ifK v70 (
 okF (idxS 1 x3 x7) fun v75 =>
 rdK PR (Instr.loadAt T_s_bool v75) (fun v76 W =>
 okF (idxS 1 x3 x7) fun v80 =>
 rdK PR (Instr.loadAt T_s_bool v80) (fun v81 W =>
 okF (idxS 1 v81 x8) fun v83 =>
 rdK PR (Instr.loadAt T_bool v83) (fun v84 W =>
 gdK (wantd v84 false) (fun k W => k x3 W) (fun v86 W =>
 gdK (wantd v84 false) (fun k W => k x6 W) (fun v87 W =>
 gdK (wantd v84 false) (fun k W => okF (idxS 1 v86 v87) fun v => k v W) (fun v88 W =>
 gdK (wantd v84 false) (fun k W => rdK PR (Instr.loadAt T_s_bool v88) k W) (fun v89 W =>
 gdK (wantd v84 false) (fun k W => k x8 W) (fun v90 W =>
 gdK (wantd v84 false) (fun k W => okF (idxS 1 v89 v90) fun v => k v W) (fun v91 W =>
 gdK (wantd v84 false) (fun k W => rdK PR (Instr.loadAt T_bool v91) k W) (fun v92 W =>
 okF (pickP v84 (.bool true) v92) fun v93 =>
 okF (idxS 1 v76 x8) fun v94 =>
 efK PR (Instr.storeAt T_bool v94 v93) (fun _ W =>
 okF (binP .add x8 (.int .i64 1)) fun v72 =>
 K3 [x0, x3, x6, x7, v72] W) W) W) W) W) W) W) W) W) W) W) (tick W)) (
 J4 [x0, x3, x6, x7] W)) W) W) W) W) W) W) W
def S.rostrumref18_table.l2 (J3 : List Value → World → Prop) (K2 : List Value → World → Prop) (x0 x3 x6 x7 : Value) (W : World) : Prop :=
 okF (lenP (.slice T_rostrumref18_Inst) x0) fun v54 =>
 okF (binP .lss x7 v54) fun v55 =>
 ifK v55 (
 joinK (fun s W => S.rostrumref18_table.j4 K2 (nthv s 0) (nthv s 1) (nthv s 2) (nthv s 3) W) (fun J4 =>
 loopK (fun K3 s W => S.rostrumref18_table.l3 J4 K3 (nthv s 0) (nthv s 1) (nthv s 2) (nthv s 3) (nthv s 4) W) [x0, x3, x6, x7, (.int .i64 0)] W)) (
 J3 [x0, x3, x6] W)
def S.rostrumref18_table.l1 (J2 : List Value → World → Prop) (K1 : List Value → World → Prop) (x0 x3 x6 : Value) (W : World) : Prop :=
 okF (lenP (.slice T_rostrumref18_Inst) x0) fun v48 =>
 okF (binP .lss x6 v48) fun v49 =>
 ifK v49 (
 joinK (fun s W => S.rostrumref18_table.j3 K1 (nthv s 0) (nthv s 1) (nthv s 2) W) (fun J3 =>
 loopK (fun K2 s W => S.rostrumref18_table.l2 J3 K2 (nthv s 0) (nthv s 1) (nthv s 2) (nthv s 3) W) [x0, x3, x6, (.int .i64 0)] W)) (
 J2 [x3] W)
def S.rostrumref18_table.j1 (R : Value → World → Prop) (x0 x3 : Value) (W : World) : Prop :=
 joinK (fun s W => S.rostrumref18_table.j2 R (nthv s 0) W) (fun J2 =>
 loopK (fun K1 s W => S.rostrumref18_table.l1 J2 K1 (nthv s 0) (nthv s 1) (nthv s 2) W) [x0, x3, (.int .i64 0)] W)
def S.rostrumref18_table.j5 (K4 : List Value → World → Prop) (x0 x3 x4 : Value) (W : World) : Prop :=
 okF (binP .add x4 (.int .i64 1)) fun v17 =>
 K4 [x0, x3, v17] W
def S.rostrumref18_table.l5 (J5 : List Value → World → Prop) (K5 : List Value → World → Prop) (x0 x3 x4 x5 : Value) (W : World) : Prop :=
 okF (lenP (.slice T_rostrumref18_Inst) x0) fun v26 =>
 okF (binP .lss x5 v26) fun v27 =>
 ifK v27 (
 okF (idxS 1 x3 x4) fun v32 =>
 rdK PR (Instr.loadAt T_s_bool v32) (fun v33 W =>
 okF (idxS 10 x0 x4) fun v37 =>
 rdK PR (Instr.loadAt T_rostrumref18_Inst v37) (fun v38 W =>
 okF (idxS 10 x0 x5) fun v41 =>
 okF (addrF 0 v41) fun v42 =>
 rdK PR (Instr.loadAt T_api_Dot v42) (fun v43 W =>
 callK PR F_rostrumref18_hangs [v38, v43] (fun v44 W =>
 stb PR [(3, true, (Instr.loadAt T_s_bool v32), v33)] (fun W =>
 okF (idxS 1 v33 x5) fun v45 =>
 efK PR (Instr.storeAt T_bool v45 v44) (fun _ W =>
 okF (binP .add x5 (.int .i64 1)) fun v29 =>
 K5 [x0, x3, x4, v29] W) W) W) W) W) W) (tick W)) (
 J5 [x0, x3, x4] W)
def S.rostrumref18_table.l4 (J1 : List Value → World → Prop) (K4 : List Value → World → Prop) (x0 x3 x4 : Value) (W : World) : Prop :=
 okF (lenP (.slice T_rostrumref18_Inst) x0) fun v14 =>
 okF (binP .lss x4 v14) fun v15 =>
 ifK v15 (
 joinK (fun s W => S.rostrumref18_table.j5 K4 (nthv s 0) (nthv s 1) (nthv s 2) W) (fun J5 =>
 okF (lenP (.slice T_rostrumref18_Inst) x0) fun v21 =>
 efK PR (Instr.makeSlice T_s_bool v21 v21) (fun v22 W =>
 okF (idxS 1 x3 x4) fun v23 =>
 efK PR (Instr.storeAt T_s_bool v23 v22) (fun _ W =>
 loopK (fun K5 s W => S.rostrumref18_table.l5 J5 K5 (nthv s 0) (nthv s 1) (nthv s 2) (nthv s 3) W) [x0, x3, x4, (.int .i64 0)] W) W) W)) (
 J1 [x0, x3] W)
def S.rostrumref18_table.body (R : Value → World → Prop) (v0 : Value) (W : World) : Prop :=
 okF (lenP (.slice T_rostrumref18_Inst) v0) fun v10 =>
 efK PR (Instr.makeSlice T_s_s_bool v10 v10) (fun v11 W =>
 joinK (fun s W => S.rostrumref18_table.j1 R (nthv s 0) (nthv s 1) W) (fun J1 =>
 loopK (fun K4 s W => S.rostrumref18_table.l4 J1 K4 (nthv s 0) (nthv s 1) (nthv s 2) W) [v0, v11, (.int .i64 0)] W)) W
def S.rostrumref18_table.hint : Hint := (.two .nil (.two .nil (.at [0, 3] (.two .nil (.at [0, 3, 4] (.two (.two .nil (.two .nil .nil)) (.at [0, 3, 4] (.two .nil (.two .nil (.at [0, 3, 4, 5] (.two (.two .nil (.two .nil .nil)) (.two .nil .nil)) .nil))) .nil)) .nil)) (.at [3] (.two .nil (.at [0, 3, 6] (.two (.two .nil (.two .nil .nil)) (.at [0, 3, 6] (.two .nil (.at [0, 3, 6, 7] (.two (.two .nil (.two .nil .nil)) (.at [0, 3, 6, 7] (.two .nil (.at [0, 3, 6, 7, 8] (.two (.two .nil (.two .nil .nil)) (.two .nil .nil)) .nil)) .nil)) .nil)) .nil)) .nil)) (.two .nil .nil)))))
theorem S.rostrumref18_table.ok (R : Value → World → Prop) (v0 : Value) (W : World) : bodyK PR CB Tryz.f70 S.rostrumref18_table.hint [v0] R W = S.rostrumref18_table.body R v0 W := by kernel_rfl
theorem S.rostrumref18_table.fn : PR.funcs[F_rostrumref18_table]? = some Tryz.f70 := by kernel_rfl
theorem S.rostrumref18_table.call {R : Value → World → Prop} {v0 : Value} {W : World} (h : S.rostrumref18_table.body R v0 W) : callK PR F_rostrumref18_table [v0] R W :=
 callK_of_body (g := F_rostrumref18_table) (fn := Tryz.f70) (args := [v0]) (R := R) (w := W) mixed CBok S.rostrumref18_table.fn S.rostrumref18_table.hint (by rw [S.rostrumref18_table.ok]; exact h)
def S.rostrumref18_groups.j1 (R : Value → World → Prop) (x6 : Value) (W : World) : Prop :=
 R x6 W
def S.rostrumref18_groups.j2 (K1 : List Value → World → Prop) (x0 x1 x5 x6 x7 : Value) (W : World) : Prop :=
 okF (binP .add x7 (.int .i64 1)) fun v19 =>
 K1 [x0, x1, x5, x6, v19] W
def S.rostrumref18_groups.j3 (J2 : List Value → World → Prop) (x0 x1 x5 x6 x7 x8 : Value) (W : World) : Prop :=
 efK PR (Instr.buildSlice T_s_s_rostrumref18_Inst 1 #[(0, x8)]) (fun v89 W =>
 efK PR (Builtin.append_ #[T_s_s_rostrumref18_Inst, T_s_s_rostrumref18_Inst] T_s_s_rostrumref18_Inst #[x6, v89]) (fun v90 W =>
 J2 [x0, x1, x5, v90, x7] W) W) W
def S.rostrumref18_groups.j4 (K2 : List Value → World → Prop) (x0 x1 x5 x6 x7 x8 x9 : Value) (W : World) : Prop :=
 okF (binP .add x9 (.int .i64 1)) fun v29 =>
 K2 [x0, x1, x5, x6, x7, x8, v29] W
def S.rostrumref18_groups.j5 (J4 : List Value → World → Prop) (x0 x1 x5 x6 x7 x8 x9 x10 : Value) (W : World) : Prop :=
 okF (slcS 10 x8 none (some x10) none) fun v75 =>
 okF (idxS 10 x0 x9) fun v79 =>
 rdK PR (Instr.loadAt T_rostrumref18_Inst v79) (fun v80 W =>
 okF (slcS 10 x8 (some x10) none none) fun v85 =>
 (efK PR (Instr.buildSlice T_s_rostrumref18_Inst 0 #[]) (fun v72 W =>
 stb PR [(8, true, (Instr.loadAt T_rostrumref18_Inst v79), v80)] (fun W =>
 (efK PR (Builtin.append_ #[T_s_rostrumref18_Inst, T_s_rostrumref18_Inst] T_s_rostrumref18_Inst #[v72, v75]) (fun v76 W =>
 stb PR [(8, true, (Instr.loadAt T_rostrumref18_Inst v79), v80)] (fun W =>
 efK PR (Instr.buildSlice T_s_rostrumref18_Inst 1 #[(0, v80)]) (fun v81 W =>
 efK PR (Builtin.append_ #[T_s_rostrumref18_Inst, T_s_rostrumref18_Inst] T_s_rostrumref18_Inst #[v76, v81]) (fun v82 W =>
 efK PR (Builtin.append_ #[T_s_rostrumref18_Inst, T_s_rostrumref18_Inst] T_s_rostrumref18_Inst #[v82, v85]) (fun v86 W =>
 J4 [x0, x1, x5, x6, x7, v86, x9] W) W) W) W) W) W) ∧ (efK PR (Instr.buildSlice T_s_rostrumref18_Inst 1 #[(0, v80)]) (fun v81_1 W =>
 efK PR (Builtin.append_ #[T_s_rostrumref18_Inst, T_s_rostrumref18_Inst] T_s_rostrumref18_Inst #[v72, v75]) (fun v76_1 W =>
 efK PR (Builtin.append_ #[T_s_rostrumref18_Inst, T_s_rostrumref18_Inst] T_s_rostrumref18_Inst #[v76_1, v81_1]) (fun v82_1 W =>
 efK PR (Builtin.append_ #[T_s_rostrumref18_Inst, T_s_rostrumref18_Inst] T_s_rostrumref18_Inst #[v82_1, v85]) (fun v86_1 W =>
 J4 [x0, x1, x5, x6, x7, v86_1, x9] W) W) W) W) W)) W) W) ∧ (efK PR (Instr.buildSlice T_s_rostrumref18_Inst 1 #[(0, v80)]) (fun v81_2 W =>
 efK PR (Instr.buildSlice T_s_rostrumref18_Inst 0 #[]) (fun v72_1 W =>
 efK PR (Builtin.append_ #[T_s_rostrumref18_Inst, T_s_rostrumref18_Inst] T_s_rostrumref18_Inst #[v72_1, v75]) (fun v76_2 W =>
 efK PR (Builtin.append_ #[T_s_rostrumref18_Inst, T_s_rostrumref18_Inst] T_s_rostrumref18_Inst #[v76_2, v81_2]) (fun v82_2 W =>
 efK PR (Builtin.append_ #[T_s_rostrumref18_Inst, T_s_rostrumref18_Inst] T_s_rostrumref18_Inst #[v82_2, v85]) (fun v86_2 W =>
 J4 [x0, x1, x5, x6, x7, v86_2, x9] W) W) W) W) W) W)) (tick W)
def S.rostrumref18_groups.l3 (J5 : List Value → World → Prop) (K3 : List Value → World → Prop) (x0 x1 x5 x6 x7 x8 x9 x10 : Value) (W : World) : Prop :=
 okF (lenP (.slice T_rostrumref18_Inst) x8) fun v57 =>
 okF (binP .lss x10 v57) fun v58 =>
 gdK (wantd v58 true) (fun k W => k x8 W) (fun v60 W =>
 gdK (wantd v58 true) (fun k W => k x10 W) (fun v61 W =>
 gdK (wantd v58 true) (fun k W => okF (idxS 10 v60 v61) fun v => k v W) (fun v62 W =>
 gdK (wantd v58 true) (fun k W => rdK PR (Instr.loadAt T_rostrumref18_Inst v62) k W) (fun v63 W =>
 gdK (wantd v58 true) (fun k W => k x0 W) (fun v64 W =>
 gdK (wantd v58 true) (fun k W => k x9 W) (fun v65 W =>
 gdK (wantd v58 true) (fun k W => okF (idxS 10 v64 v65) fun v => k v W) (fun v66 W =>
 gdK (wantd v58 true) (fun k W => rdK PR (Instr.loadAt T_rostrumref18_Inst v66) k W) (fun v67 W =>
 gdK (wantd v58 true) (fun k W => callK PR F_rostrumref18_Less [v63, v67] k W) (fun v68 W =>
 okF (pickP v58 v68 (.bool false)) fun v69 =>
 ifK v69 (
 okF (binP .add x10 (.int .i64 1)) fun v71 =>
 K3 [x0, x1, x5, x6, x7, x8, x9, v71] W) (
 J5 [x0, x1, x5, x6, x7, x8, x9, x10] W)) W) W) W) W) W) W) W) W) (tick W)
def S.rostrumref18_groups.l2 (J3 : List Value → World → Prop) (K2 : List Value → World → Prop) (x0 x1 x5 x6 x7 x8 x9 : Value) (W : World) : Prop :=
 okF (lenP (.slice T_rostrumref18_Inst) x0) fun v26 =>
 okF (binP .lss x9 v26) fun v27 =>
 ifK v27 (
 joinK (fun s W => S.rostrumref18_groups.j4 K2 (nthv s 0) (nthv s 1) (nthv s 2) (nthv s 3) (nthv s 4) (nthv s 5) (nthv s 6) W) (fun J4 =>
 okF (binP .neq x9 x7) fun v32 =>
 gdK (wantd v32 true) (fun k W => k x1 W) (fun v34 W =>
 gdK (wantd v32 true) (fun k W => k x7 W) (fun v35 W =>
 gdK (wantd v32 true) (fun k W => okF (idxS 1 v34 v35) fun v => k v W) (fun v36 W =>
 gdK (wantd v32 true) (fun k W => rdK PR (Instr.loadAt T_s_bool v36) k W) (fun v37 W =>
 gdK (wantd v32 true) (fun k W => k x9 W) (fun v38 W =>
 gdK (wantd v32 true) (fun k W => okF (idxS 1 v37 v38) fun v => k v W) (fun v39 W =>
 gdK (wantd v32 true) (fun k W => rdK PR (Instr.loadAt T_bool v39) k W) (fun v40 W =>
 gdK (wantd v32 true) (fun k W => k v40 W) (fun v41 W =>
 gdK (wantd v41 true) (fun k W => k x1 W) (fun v42 W =>
 gdK (wantd v41 true) (fun k W => k x9 W) (fun v43 W =>
 gdK (wantd v41 true) (fun k W => okF (idxS 1 v42 v43) fun v => k v W) (fun v44 W =>
 gdK (wantd v41 true) (fun k W => rdK PR (Instr.loadAt T_s_bool v44) k W) (fun v45 W =>
 gdK (wantd v41 true) (fun k W => k x7 W) (fun v46 W =>
 gdK (wantd v41 true) (fun k W => okF (idxS 1 v45 v46) fun v => k v W) (fun v47 W =>
 gdK (wantd v41 true) (fun k W => rdK PR (Instr.loadAt T_bool v47) k W) (fun v48 W =>
 gdK (wantd v32 true) (fun k W => okF (pickP v41 v48 (.bool false)) fun v => k v W) (fun v49 W =>
 gdK (wantd v32 true) (fun k W => okF (unP .not v49) fun v => k v W) (fun v50 W =>
 okF (pickP v32 v50 (.bool false)) fun v51 =>
 ifK v51 (
 J4 [x0, x1, x5, x6, x7, x8, x9] W) (
 okF (idxS 1 x5 x9) fun v54 =>
 efK PR (Instr.storeAt T_bool v54 (.bool true)) (fun _ W =>
 joinK (fun s W => S.rostrumref18_groups.j5 J4 (nthv s 0) (nthv s 1) (nthv s 2) (nthv s 3) (nthv s 4) (nthv s 5) (nthv s 6) (nthv s 7) W) (fun J5 =>
 loopK (fun K3 s W => S.rostrumref18_groups.l3 J5 K3 (nthv s 0) (nthv s 1) (nthv s 2) (nthv s 3) (nthv s 4) (nthv s 5) (nthv s 6) (nthv s 7) W) [x0, x1, x5, x6, x7, x8, x9, (.int .i64 0)] W)) W)) W) W) W) W) W) W) W) W) W) W) W) W) W) W) W) W) W)) (
 J3 [x0, x1, x5, x6, x7, x8] W)
def S.rostrumref18_groups.l1 (J1 : List Value → World → Prop) (K1 : List Value → World → Prop) (x0 x1 x5 x6 x7 : Value) (W : World) : Prop :=
 okF (lenP (.slice T_rostrumref18_Inst) x0) fun v16 =>
 okF (binP .lss x7 v16) fun v17 =>
 ifK v17 (
 joinK (fun s W => S.rostrumref18_groups.j2 K1 (nthv s 0) (nthv s 1) (nthv s 2) (nthv s 3) (nthv s 4) W) (fun J2 =>
 okF (idxS 1 x5 x7) fun v22 =>
 rdK PR (Instr.loadAt T_bool v22) (fun v23 W =>
 ifK v23 (
 J2 [x0, x1, x5, x6, x7] W) (
 joinK (fun s W => S.rostrumref18_groups.j3 J2 (nthv s 0) (nthv s 1) (nthv s 2) (nthv s 3) (nthv s 4) (nthv s 5) W) (fun J3 =>
 loopK (fun K2 s W => S.rostrumref18_groups.l2 J3 K2 (nthv s 0) (nthv s 1) (nthv s 2) (nthv s 3) (nthv s 4) (nthv s 5) (nthv s 6) W) [x0, x1, x5, x6, x7, (.slice none 0 0), (.int .i64 0)] W))) W)) (
 J1 [x6] W)
def S.rostrumref18_groups.body (R : Value → World → Prop) (v0 v1 : Value) (W : World) : Prop :=
 okF (lenP (.slice T_rostrumref18_Inst) v0) fun v12 =>
 efK PR (Instr.makeSlice T_s_bool v12 v12) (fun v13 W =>
 joinK (fun s W => S.rostrumref18_groups.j1 R (nthv s 0) W) (fun J1 =>
 loopK (fun K1 s W => S.rostrumref18_groups.l1 J1 K1 (nthv s 0) (nthv s 1) (nthv s 2) (nthv s 3) (nthv s 4) W) [v0, v1, v13, (.slice none 0 0), (.int .i64 0)] W)) W
def S.rostrumref18_groups.hint : Hint := (.two .nil (.two .nil (.two .nil (.at [6] (.two .nil (.at [0, 1, 5, 6, 7] (.two (.two .nil (.two .nil .nil)) (.at [0, 1, 5, 6, 7] (.two (.two .nil (.two .nil .nil)) (.two .nil (.at [0, 1, 5, 6, 7, 8] (.two .nil (.at [0, 1, 5, 6, 7, 8, 9] (.two (.two .nil (.two .nil .nil)) (.at [0, 1, 5, 6, 7, 8, 9] (.two (.two .nil (.two .nil .nil)) (.two .nil (.two .nil (.at [0, 1, 5, 6, 7, 8, 9, 10] (.at [0, 1, 5, 6, 7, 8, 9, 10] (.two (.two .nil (.two .nil .nil)) .nil) .nil) .nil)))) .nil)) .nil)) .nil))) .nil)) .nil)) (.two .nil .nil)))))
theorem S.rostrumref18_groups.ok (R : Value → World → Prop) (v0 v1 : Value) (W : World) : bodyK PR CB Tryz.f71 S.rostrumref18_groups.hint [v0, v1] R W = S.rostrumref18_groups.body R v0 v1 W := by kernel_rfl
theorem S.rostrumref18_groups.fn : PR.funcs[F_rostrumref18_groups]? = some Tryz.f71 := by kernel_rfl
theorem S.rostrumref18_groups.call {R : Value → World → Prop} {v0 v1 : Value} {W : World} (h : S.rostrumref18_groups.body R v0 v1 W) : callK PR F_rostrumref18_groups [v0, v1] R W :=
 callK_of_body (g := F_rostrumref18_groups) (fn := Tryz.f71) (args := [v0, v1]) (R := R) (w := W) mixed CBok S.rostrumref18_groups.fn S.rostrumref18_groups.hint (by rw [S.rostrumref18_groups.ok]; exact h)
def S.rostrumref18_Less.body (R : Value → World → Prop) (v0 v1 : Value) (W : World) : Prop :=
 efK PR (Instr.box T_rostrumref18_Inst v0) (fun v2 W =>
 efK PR (Instr.box T_rostrumref18_Inst v1) (fun v3 W =>
 okF (addrF 2 v2) fun v5 =>
 rdK PR (Instr.loadAt T_int64 v5) (fun v6 W =>
 okF (addrF 2 v3) fun v7 =>
 rdK PR (Instr.loadAt T_int64 v7) (fun v8 W =>
 okF (binP .neq v6 v8) fun v9 =>
 ifK v9 (
 okF (addrF 2 v2) fun v10 =>
 rdK PR (Instr.loadAt T_int64 v10) (fun v11 W =>
 okF (addrF 2 v3) fun v12 =>
 rdK PR (Instr.loadAt T_int64 v12) (fun v13 W =>
 okF (binP .lss v11 v13) fun v14 =>
 R v14 W) W) W) (
 okF (addrF 0 v2) fun v15 =>
 rdK PR (Instr.loadAt T_api_Dot v15) (fun v16 W =>
 okF (addrF 0 v3) fun v17 =>
 rdK PR (Instr.loadAt T_api_Dot v17) (fun v18 W =>
 callK PR F_rostrumref7_Less [v16, v18] (fun v19 W =>
 R v19 W) W) W) W)) W) W) W) W
def S.rostrumref18_Less.hint : Hint := (.two .nil (.two (.two .nil (.two (.two .nil .nil) .nil)) (.two .nil .nil)))
theorem S.rostrumref18_Less.ok (R : Value → World → Prop) (v0 v1 : Value) (W : World) : bodyK PR CB Tryz.f72 S.rostrumref18_Less.hint [v0, v1] R W = S.rostrumref18_Less.body R v0 v1 W := by kernel_rfl
theorem S.rostrumref18_Less.fn : PR.funcs[F_rostrumref18_Less]? = some Tryz.f72 := by kernel_rfl
theorem S.rostrumref18_Less.call {R : Value → World → Prop} {v0 v1 : Value} {W : World} (h : S.rostrumref18_Less.body R v0 v1 W) : callK PR F_rostrumref18_Less [v0, v1] R W :=
 callK_of_body (g := F_rostrumref18_Less) (fn := Tryz.f72) (args := [v0, v1]) (R := R) (w := W) mixed CBok S.rostrumref18_Less.fn S.rostrumref18_Less.hint (by rw [S.rostrumref18_Less.ok]; exact h)
def S.rostrumref18_place.l1 (R : Value → World → Prop) (K1 : List Value → World → Prop) (x0 x3 x5 : Value) (W : World) : Prop :=
 okF (lenP (.slice T_rostrumref18_Inst) x0) fun v8 =>
 okF (binP .lss x5 v8) fun v9 =>
 ifK v9 (
 okF (idxS 10 x0 x5) fun v14 =>
 okF (addrF 0 v14) fun v15 =>
 rdK PR (Instr.loadAt T_api_Dot v15) (fun v16 W =>
 rdK PR (Instr.loadAt T_api_Dot x3) (fun v17 W =>
 rdK PR (aggEq .eql T_api_Dot v16 v17) (fun v18 W =>
 ifK v18 (
 R x5 W) (
 okF (binP .add x5 (.int .i64 1)) fun v11 =>
 K1 [x0, x3, v11] W)) W) W) (tick W)) (
 R (.int .i64 (-1)) W)
def S.rostrumref18_place.body (R : Value → World → Prop) (v0 v1 : Value) (W : World) : Prop :=
 efK PR (Instr.box T_api_Dot v1) (fun v3 W =>
 loopK (fun K1 s W => S.rostrumref18_place.l1 R K1 (nthv s 0) (nthv s 1) (nthv s 2) W) [v0, v3, (.int .i64 0)] W) W
def S.rostrumref18_place.hint : Hint := (.two .nil (.two (.two .nil (.at [0, 3, 5] (.two (.two .nil (.two .nil .nil)) (.two (.two .nil (.two (.two .nil .nil) .nil)) .nil)) .nil)) (.two .nil .nil)))
theorem S.rostrumref18_place.ok (R : Value → World → Prop) (v0 v1 : Value) (W : World) : bodyK PR CB Tryz.f73 S.rostrumref18_place.hint [v0, v1] R W = S.rostrumref18_place.body R v0 v1 W := by kernel_rfl
theorem S.rostrumref18_place.fn : PR.funcs[F_rostrumref18_place]? = some Tryz.f73 := by kernel_rfl
theorem S.rostrumref18_place.call {R : Value → World → Prop} {v0 v1 : Value} {W : World} (h : S.rostrumref18_place.body R v0 v1 W) : callK PR F_rostrumref18_place [v0, v1] R W :=
 callK_of_body (g := F_rostrumref18_place) (fn := Tryz.f73) (args := [v0, v1]) (R := R) (w := W) mixed CBok S.rostrumref18_place.fn S.rostrumref18_place.hint (by rw [S.rostrumref18_place.ok]; exact h)
def S.rostrumref18_dots.j1 (R : Value → World → Prop) (x3 : Value) (W : World) : Prop :=
 R x3 W
def S.rostrumref18_dots.l1 (J1 : List Value → World → Prop) (K1 : List Value → World → Prop) (x0 x3 x4 : Value) (W : World) : Prop :=
 okF (lenP (.slice T_rostrumref18_Inst) x0) fun v7 =>
 okF (binP .lss x4 v7) fun v8 =>
 ifK v8 (
 okF (idxS 10 x0 x4) fun v14 =>
 okF (addrF 0 v14) fun v15 =>
 rdK PR (Instr.loadAt T_api_Dot v15) (fun v16 W =>
 efK PR (Instr.buildSlice T_s_api_Dot 1 #[(0, v16)]) (fun v17 W =>
 efK PR (Builtin.append_ #[T_s_api_Dot, T_s_api_Dot] T_s_api_Dot #[x3, v17]) (fun v18 W =>
 okF (binP .add x4 (.int .i64 1)) fun v10 =>
 K1 [x0, v18, v10] W) W) W) W) (
 J1 [x3] W)
def S.rostrumref18_dots.body (R : Value → World → Prop) (v0 : Value) (W : World) : Prop :=
 joinK (fun s W => S.rostrumref18_dots.j1 R (nthv s 0) W) (fun J1 =>
 loopK (fun K1 s W => S.rostrumref18_dots.l1 J1 K1 (nthv s 0) (nthv s 1) (nthv s 2) W) [v0, (.slice none 0 0), (.int .i64 0)] W)
def S.rostrumref18_dots.hint : Hint := (.two .nil (.two .nil (.at [3] (.two .nil (.at [0, 3, 4] (.two (.two .nil (.two .nil .nil)) (.two .nil .nil)) .nil)) (.two .nil .nil))))
theorem S.rostrumref18_dots.ok (R : Value → World → Prop) (v0 : Value) (W : World) : bodyK PR CB Tryz.f74 S.rostrumref18_dots.hint [v0] R W = S.rostrumref18_dots.body R v0 W := by kernel_rfl
theorem S.rostrumref18_dots.fn : PR.funcs[F_rostrumref18_dots]? = some Tryz.f74 := by kernel_rfl
theorem S.rostrumref18_dots.call {R : Value → World → Prop} {v0 : Value} {W : World} (h : S.rostrumref18_dots.body R v0 W) : callK PR F_rostrumref18_dots [v0] R W :=
 callK_of_body (g := F_rostrumref18_dots) (fn := Tryz.f74) (args := [v0]) (R := R) (w := W) mixed CBok S.rostrumref18_dots.fn S.rostrumref18_dots.hint (by rw [S.rostrumref18_dots.ok]; exact h)
def S.rostrumref18_hangs.body (R : Value → World → Prop) (v0 v1 : Value) (W : World) : Prop :=
 efK PR (Instr.box T_rostrumref18_Inst v0) (fun v2 W =>
 efK PR (Instr.box T_api_Dot v1) (fun v3 W =>
 okF (addrF 0 v2) fun v5 =>
 rdK PR (Instr.loadAt T_api_Dot v5) (fun v6 W =>
 rdK PR (Instr.loadAt T_api_Dot v3) (fun v7 W =>
 rdK PR (aggEq .neq T_api_Dot v6 v7) (fun v8 W =>
 gdK (wantd v8 true) (fun k W => okF (addrF 1 v3) fun v => k v W) (fun v10 W =>
 gdK (wantd v8 true) (fun k W => rdK PR (Instr.loadAt T_int64 v10) k W) (fun v11 W =>
 gdK (wantd v8 true) (fun k W => okF (addrF 0 v3) fun v => k v W) (fun v12 W =>
 gdK (wantd v8 true) (fun k W => rdK PR (Instr.loadAt T_int v12) k W) (fun v13 W =>
 gdK (wantd v8 true) (fun k W => okF (addrF 3 v2) fun v => k v W) (fun v14 W =>
 gdK (wantd v8 true) (fun k W => okF (idxA 7 1 v14 v13) fun v => k v W) (fun v15 W =>
 gdK (wantd v8 true) (fun k W => rdK PR (Instr.loadAt T_int64 v15) k W) (fun v16 W =>
 gdK (wantd v8 true) (fun k W => okF (binP .leq v11 v16) fun v => k v W) (fun v17 W =>
 okF (pickP v8 v17 (.bool false)) fun v18 =>
 R v18 W) W) W) W) W) W) W) W) W) W) W) (tick W)) W) W
def S.rostrumref18_hangs.hint : Hint := (.two .nil (.two .nil .nil))
theorem S.rostrumref18_hangs.ok (R : Value → World → Prop) (v0 v1 : Value) (W : World) : bodyK PR CB Tryz.f90 S.rostrumref18_hangs.hint [v0, v1] R W = S.rostrumref18_hangs.body R v0 v1 W := by kernel_rfl
theorem S.rostrumref18_hangs.fn : PR.funcs[F_rostrumref18_hangs]? = some Tryz.f90 := by kernel_rfl
theorem S.rostrumref18_hangs.call {R : Value → World → Prop} {v0 v1 : Value} {W : World} (h : S.rostrumref18_hangs.body R v0 v1 W) : callK PR F_rostrumref18_hangs [v0, v1] R W :=
 callK_of_body (g := F_rostrumref18_hangs) (fn := Tryz.f90) (args := [v0, v1]) (R := R) (w := W) mixed CBok S.rostrumref18_hangs.fn S.rostrumref18_hangs.hint (by rw [S.rostrumref18_hangs.ok]; exact h)
def S.rostrumref7_Less.body (R : Value → World → Prop) (v0 v1 : Value) (W : World) : Prop :=
 efK PR (Instr.box T_api_Dot v0) (fun v2 W =>
 efK PR (Instr.box T_api_Dot v1) (fun v3 W =>
 okF (addrF 0 v2) fun v5 =>
 rdK PR (Instr.loadAt T_int v5) (fun v6 W =>
 okF (addrF 0 v3) fun v7 =>
 rdK PR (Instr.loadAt T_int v7) (fun v8 W =>
 okF (binP .lss v6 v8) fun v9 =>
 gdK (wantd v9 false) (fun k W => okF (addrF 0 v2) fun v => k v W) (fun v11 W =>
 gdK (wantd v9 false) (fun k W => rdK PR (Instr.loadAt T_int v11) k W) (fun v12 W =>
 gdK (wantd v9 false) (fun k W => okF (addrF 0 v3) fun v => k v W) (fun v13 W =>
 gdK (wantd v9 false) (fun k W => rdK PR (Instr.loadAt T_int v13) k W) (fun v14 W =>
 gdK (wantd v9 false) (fun k W => okF (binP .eql v12 v14) fun v => k v W) (fun v15 W =>
 gdK (wantd v9 false) (fun k W => k v15 W) (fun v16 W =>
 gdK (wantd v16 true) (fun k W => okF (addrF 1 v2) fun v => k v W) (fun v17 W =>
 gdK (wantd v16 true) (fun k W => rdK PR (Instr.loadAt T_int64 v17) k W) (fun v18 W =>
 gdK (wantd v16 true) (fun k W => okF (addrF 1 v3) fun v => k v W) (fun v19 W =>
 gdK (wantd v16 true) (fun k W => rdK PR (Instr.loadAt T_int64 v19) k W) (fun v20 W =>
 gdK (wantd v16 true) (fun k W => okF (binP .lss v18 v20) fun v => k v W) (fun v21 W =>
 gdK (wantd v9 false) (fun k W => okF (pickP v16 v21 (.bool false)) fun v => k v W) (fun v22 W =>
 okF (pickP v9 (.bool true) v22) fun v23 =>
 R v23 W) W) W) W) W) W) W) W) W) W) W) W) W) W) W) W) W
def S.rostrumref7_Less.hint : Hint := (.two .nil (.two .nil .nil))
theorem S.rostrumref7_Less.ok (R : Value → World → Prop) (v0 v1 : Value) (W : World) : bodyK PR CB Tryz.f91 S.rostrumref7_Less.hint [v0, v1] R W = S.rostrumref7_Less.body R v0 v1 W := by kernel_rfl
theorem S.rostrumref7_Less.fn : PR.funcs[F_rostrumref7_Less]? = some Tryz.f91 := by kernel_rfl
theorem S.rostrumref7_Less.call {R : Value → World → Prop} {v0 v1 : Value} {W : World} (h : S.rostrumref7_Less.body R v0 v1 W) : callK PR F_rostrumref7_Less [v0, v1] R W :=
 callK_of_body (g := F_rostrumref7_Less) (fn := Tryz.f91) (args := [v0, v1]) (R := R) (w := W) mixed CBok S.rostrumref7_Less.fn S.rostrumref7_Less.hint (by rw [S.rostrumref7_Less.ok]; exact h)
end Go.Proofs.YtkjhccpanedccaaGreat
namespace Go.Proofs.YtkjhccpanedccaaGreat
set_option linter.unusedVariables false
set_option linter.unusedSimpArgs false
open Go Go.Eng Go.Tar Go.Sort
section
variable {W0 W : World} {L L' : List Asn} {k : Value → World → Prop}
theorem getI7 {x : Ins} {i : Nat} (hi : i < 7) : getL false [.int .i64 x.d.rep, .int .i64 x.d.n, .int .i64 x.s, .int .i64 x.v.x0, .int .i64 x.v.x1, .int .i64 x.v.x2, .int .i64 x.v.x3, .int .i64 x.v.x4, .int .i64 x.v.x5, .int .i64 x.v.x6] (3 + i) 1 = some (.int .i64 (x.v.get i)) := by
 rcases P7.cases7 hi with rfl | rfl | rfl | rfl | rfl | rfl | rfl <;> rfl
theorem rHangs {x : Ins} {d : Dot} (h0 : 0 ≤ d.rep) (h1 : d.rep < 7) (h : St W0 L W) (hk : ∀ W', St W0 L W' → k (.bool (hgB x d)) W') : callK PR F_rostrumref18_hangs [.agg #[.int .i64 x.d.rep, .int .i64 x.d.n, .int .i64 x.s, .int .i64 x.v.x0, .int .i64 x.v.x1, .int .i64 x.v.x2, .int .i64 x.v.x3, .int .i64 x.v.x4, .int .i64 x.v.x5, .int .i64 x.v.x6], .agg #[.int .i64 d.rep, .int .i64 d.n]] k W := by
 apply S.rostrumref18_hangs.call
 unfold S.rostrumref18_hangs.body
 refine bxa h fun xb W1 h => ?_
 refine bxa h fun db W1 h => ?_
 have h : St W0 (cells db [.int .i64 d.rep, .int .i64 d.n] T_api_Dot :: cells xb [.int .i64 x.d.rep, .int .i64 x.d.n, .int .i64 x.s, .int .i64 x.v.x0, .int .i64 x.v.x1, .int .i64 x.v.x2, .int .i64 x.v.x3, .int .i64 x.v.x4, .int .i64 x.v.x5, .int .i64 x.v.x6] T_rostrumref18_Inst :: L) W1 := h
 unfold hgB at hk
 by_cases he : x.d = d
 ·have f2 : (decide (x.d.rep = d.rep) && decide (x.d.n = d.n)) = true := by rw [dot_eq]; exact decide_eq_true he
  rw [decide_eq_true he, Bool.not_true, Bool.false_and] at hk
  (repeat (first | ((with_reducible first | refine v5 ?_ | refine vn ?_); refine ⟨_, rfl, ?_⟩) | simp -implicitDefEqProofs only [SE, SU, SV, f2]))
  exact hk _ (St.drop (St.drop (by first | assumption | exact St.tick (by assumption) | exact St.tick (St.tick (by assumption)))))
 ·have f2 : (decide (x.d.rep = d.rep) && decide (x.d.n = d.n)) = false := by rw [dot_eq]; exact decide_eq_false he
  rw [decide_eq_false he, Bool.not_false, Bool.true_and] at hk
  have hr : d.rep.toNat < 7 := by omega
  have ei : ∀ z o, idxA 7 1 (.pointer (some ⟨z, o, none⟩)) (.int .i64 d.rep) = some (.pointer (some ⟨z, o + d.rep.toNat, none⟩)) := fun z o => by
   rw [idxA_blk (by omega) (by omega), Nat.mul_one]
  (repeat (first | ((with_reducible first | refine v5 ?_ | refine vn ?_); refine ⟨_, rfl, ?_⟩) | simp -implicitDefEqProofs only [SE, SU, SV, f2, ei]))
  refine ld (v := .int .i64 (x.v.get d.rep.toNat)) (by first | assumption | exact St.tick (by assumption) | exact St.tick (St.tick (by assumption))) (getI7 hr) (by simp) ?_
  (repeat simp -implicitDefEqProofs only [SE, SU, SV])
  exact hk _ (St.drop (St.drop (by first | assumption | exact St.tick (by assumption) | exact St.tick (St.tick (by assumption)))))
theorem dotL_run {x y : Dot} (h : St W0 L W) (hk : ∀ W', St W0 L W' → k (.bool (decide (x.rep < y.rep ∨ (x.rep = y.rep ∧ x.n < y.n)))) W') : callK PR F_rostrumref7_Less [.agg #[.int .i64 x.rep, .int .i64 x.n], .agg #[.int .i64 y.rep, .int .i64 y.n]] k W := by
 apply S.rostrumref7_Less.call
 unfold S.rostrumref7_Less.body
 refine bxa h fun xb W1 h => ?_
 refine bxa h fun db W1 h => ?_
 have h : St W0 (cells db [.int .i64 y.rep, .int .i64 y.n] T_api_Dot :: cells xb [.int .i64 x.rep, .int .i64 x.n] T_api_Dot :: L) W1 := h
 by_cases h1 : x.rep < y.rep
 ·rw [decide_eq_true (.inl h1)] at hk
  (repeat (first | ((with_reducible refine v5 ?_); refine ⟨_, rfl, ?_⟩) | simp -implicitDefEqProofs only [SE, SU, SV, h1]))
  exact hk _ (St.drop (St.drop (by first | assumption | exact St.tick (by assumption) | exact St.tick (St.tick (by assumption)))))
 ·by_cases h2 : x.rep = y.rep
  ·have e : decide (x.rep < y.rep ∨ (x.rep = y.rep ∧ x.n < y.n)) = decide (x.n < y.n) := by rw [decide_eq_decide]; omega
   rw [e] at hk
   (repeat (first | ((with_reducible refine v5 ?_); refine ⟨_, rfl, ?_⟩) | simp -implicitDefEqProofs only [SE, SU, SV, h1, h2]))
   exact hk _ (St.drop (St.drop (by first | assumption | exact St.tick (by assumption) | exact St.tick (St.tick (by assumption)))))
  ·rw [decide_eq_false (by omega)] at hk
   (repeat (first | ((with_reducible refine v5 ?_); refine ⟨_, rfl, ?_⟩) | simp -implicitDefEqProofs only [SE, SU, SV, h1, h2]))
   exact hk _ (St.drop (St.drop (by first | assumption | exact St.tick (by assumption) | exact St.tick (St.tick (by assumption)))))
theorem rLess {x y : Ins} (h : St W0 L W) (hk : ∀ W', St W0 L W' → k (.bool (decide (insLt x y))) W') : callK PR F_rostrumref18_Less [.agg #[.int .i64 x.d.rep, .int .i64 x.d.n, .int .i64 x.s, .int .i64 x.v.x0, .int .i64 x.v.x1, .int .i64 x.v.x2, .int .i64 x.v.x3, .int .i64 x.v.x4, .int .i64 x.v.x5, .int .i64 x.v.x6], .agg #[.int .i64 y.d.rep, .int .i64 y.d.n, .int .i64 y.s, .int .i64 y.v.x0, .int .i64 y.v.x1, .int .i64 y.v.x2, .int .i64 y.v.x3, .int .i64 y.v.x4, .int .i64 y.v.x5, .int .i64 y.v.x6]] k W := by
 apply S.rostrumref18_Less.call
 unfold S.rostrumref18_Less.body
 refine bxa h fun xb W1 h => ?_
 refine bxa h fun db W1 h => ?_
 have h : St W0 (cells db [.int .i64 y.d.rep, .int .i64 y.d.n, .int .i64 y.s, .int .i64 y.v.x0, .int .i64 y.v.x1, .int .i64 y.v.x2, .int .i64 y.v.x3, .int .i64 y.v.x4, .int .i64 y.v.x5, .int .i64 y.v.x6] T_rostrumref18_Inst :: cells xb [.int .i64 x.d.rep, .int .i64 x.d.n, .int .i64 x.s, .int .i64 x.v.x0, .int .i64 x.v.x1, .int .i64 x.v.x2, .int .i64 x.v.x3, .int .i64 x.v.x4, .int .i64 x.v.x5, .int .i64 x.v.x6] T_rostrumref18_Inst :: L) W1 := h
 by_cases h1 : x.s = y.s
 ·have e : decide (insLt x y) = decide (x.d.rep < y.d.rep ∨ (x.d.rep = y.d.rep ∧ x.d.n < y.d.n)) := decide_eq_decide.2 (by unfold insLt; omega)
  rw [e] at hk
  (repeat (first | ((with_reducible refine v5 ?_); refine ⟨_, rfl, ?_⟩) | simp -implicitDefEqProofs only [SE, SU, SV, h1]))
  refine dotL_run (x := x.d) (y := y.d) (by first | assumption | exact St.tick (by assumption) | exact St.tick (St.tick (by assumption))) fun W2 h => ?_
  skip
  exact hk _ (St.drop (St.drop (by first | assumption | exact St.tick (by assumption) | exact St.tick (St.tick (by assumption)))))
 ·have e : decide (insLt x y) = decide (x.s < y.s) := decide_eq_decide.2 (by unfold insLt; omega)
  rw [e] at hk
  (repeat (first | ((with_reducible refine v5 ?_); refine ⟨_, rfl, ?_⟩) | simp -implicitDefEqProofs only [SE, SU, SV, h1]))
  exact hk _ (St.drop (St.drop (by first | assumption | exact St.tick (by assumption) | exact St.tick (St.tick (by assumption)))))
set_option maxRecDepth 100000 in
set_option maxHeartbeats 4000000 in
theorem rPlace {a : Option Addr} {c : Nat} {l : List Ins} {d : Dot} (h : St W0 L W) [hr : Rd W0 L a INS l] (hl : l.length < 1000000)
  (hk : ∀ W', St W0 L W' → k (.int .i64 (match plcO l d with | some i => (i : Int) | none => -1)) W') : callK PR F_rostrumref18_place [.slice a l.length c, .agg #[.int .i64 d.rep, .int .i64 d.n]] k W := by
 apply S.rostrumref18_place.call
 unfold S.rostrumref18_place.body
 refine bxa h fun db W1 h => ?_
 have h : St W0 (cells db [.int .i64 d.rep, .int .i64 d.n] T_api_Dot :: L) W1 := h
 refine loop_c (σ := Unit) l.length (fun i _ => [.slice a l.length c, .pointer (some ⟨db, 0, none⟩), .int .i64 (i : Int)])
  (fun i _ W1 => (∀ j (hj : j < l.length), j < i → l[j].d ≠ d) ∧ St W0 (cells db [.int .i64 d.rep, .int .i64 d.n] T_api_Dot :: L) W1) () rfl ⟨fun _ _ h => by omega, h⟩ ?_
 clear h
 rintro K i _ W2 hi ⟨hno, h⟩ hK
 simp -implicitDefEqProofs only [SE, SU, SV]
 unfold S.rostrumref18_place.l1
 by_cases hlt : (i : Int) < (l.length : Int)
 ·have hib : i < l.length := by omega
  have ew : IntKind.i64.wrap ((i : Int) + 1) = ((i + 1 : Nat) : Int) := by rw [i64w]; omega
  (repeat simp -implicitDefEqProofs only [SE, SU, SV, hlt])
  refine ixA (i := i) (a := a) (l := l) (A := INS) (by first | assumption | exact St.tick (by assumption) | exact St.tick (St.tick (by assumption))) rfl rfl hib fun g o ha => ?_
  cases ha
  (repeat simp -implicitDefEqProofs only [SE, SU, SV])
  refine ldA0 (i := i) (l := l) (A := INS) (by first | assumption | exact St.tick (by assumption) | exact St.tick (St.tick (by assumption))) rfl hib (v := .agg #[.int .i64 (l[i].d).rep, .int .i64 (l[i].d).n]) rfl (by simp [INS]) ?_
  (repeat (first | ((with_reducible first | refine v5 ?_ | refine ve ?_); refine ⟨_, rfl, ?_⟩) | simp -implicitDefEqProofs only [SE, SU, SV]))
  by_cases he : l[i].d = d
  ·have f2 : (decide (l[i].d.rep = d.rep) && decide (l[i].d.n = d.n)) = true := by rw [dot_eq]; exact decide_eq_true he
   have hp : plcO l d = some i := by
    unfold plcO
    rw [List.findIdx?_eq_some_iff_getElem]
    exact ⟨hib, decide_eq_true he, fun j hj => by simpa using hno j (by omega) hj⟩
   rw [hp] at hk
   (repeat simp -implicitDefEqProofs only [SE, SU, SV, f2])
   exact hk _ (St.drop (by first | assumption | exact St.tick (by assumption) | exact St.tick (St.tick (by assumption))))
  ·have f2 : (decide (l[i].d.rep = d.rep) && decide (l[i].d.n = d.n)) = false := by rw [dot_eq]; exact decide_eq_false he
   (repeat simp -implicitDefEqProofs only [SE, SU, SV, f2, ew])
   refine hK () _ hib ⟨fun j hj hji => ?_, (by first | assumption | exact St.tick (by assumption) | exact St.tick (St.tick (by assumption)))⟩
   by_cases e : j = i
   ·subst e; exact he
   ·exact hno j hj (by omega)
 ·have hp : plcO l d = none := plcO_none.2 fun x hx => by
   obtain ⟨j, hj, rfl⟩ := List.getElem_of_mem hx
   exact hno j hj (by omega)
  rw [hp] at hk
  (repeat simp -implicitDefEqProofs only [SE, SU, SV, hlt])
  exact hk _ (St.drop (by first | assumption | exact St.tick (by assumption) | exact St.tick (St.tick (by assumption))))
theorem rThere {a : Option Addr} {c : Nat} {l : List Ins} {d : Dot} (h : St W0 L W) [hr : Rd W0 L a INS l] (hl : l.length < 1000000)
  (hk : ∀ W', St W0 L W' → k (.bool (plcO l d).isSome) W') : callK PR F_rostrumref18_there [.slice a l.length c, .agg #[.int .i64 d.rep, .int .i64 d.n]] k W := by
 apply S.rostrumref18_there.call
 unfold S.rostrumref18_there.body
 refine bxa h fun db W1 h => ?_
 have h : St W0 (cells db [.int .i64 d.rep, .int .i64 d.n] T_api_Dot :: L) W1 := h
 (repeat (first | ((with_reducible refine v5 ?_); refine ⟨_, rfl, ?_⟩) | simp -implicitDefEqProofs only [SE, SU, SV]))
 refine rPlace (a := a) (l := l) (d := d) (by first | assumption | exact St.tick (by assumption) | exact St.tick (St.tick (by assumption))) hl fun W2 h => ?_
 cases hp : plcO l d with
 | none =>
  rw [hp] at hk
  (repeat simp -implicitDefEqProofs only [SE, SU, SV])
  exact hk _ (St.drop h)
 | some i =>
  rw [hp] at hk
  have e : (0 : Int) ≤ (i : Int) := by omega
  (repeat simp -implicitDefEqProofs only [SE, SU, SV, e])
  exact hk _ (St.drop h)
set_option maxRecDepth 100000 in
set_option maxHeartbeats 4000000 in
theorem rDots {a : Option Addr} {c : Nat} {l : List Ins} (h : St W0 L W) [hr : Rd W0 L a INS l] (hl : l.length < 1000000)
  (hk : ∀ a' c' W', St W0 (arr DOT T_api_Dot a' c' (l.map (·.d)) :: L) W' → k (.slice a' (l.map (·.d)).length c') W') : callK PR F_rostrumref18_dots [.slice a l.length c] k W := by
 apply S.rostrumref18_dots.call
 unfold S.rostrumref18_dots.body
 refine joinK_i ?_
 refine loop_c (σ := List Dot × Option Addr × Nat) l.length (fun i s => [.slice a l.length c, .slice s.2.1 s.1.length s.2.2, .int .i64 (i : Int)])
  (fun i s W1 => s.1 = (l.take i).map (·.d) ∧ St W0 (arr DOT T_api_Dot s.2.1 s.2.2 s.1 :: L) W1) ([], none, 0) rfl ⟨rfl, h.ent (arr_nil _ _)⟩ ?_
 clear h
 rintro K i ⟨acc, xa, xc⟩ W2 hi ⟨ha, h⟩ hK
 simp -implicitDefEqProofs only [SE, SU, SV]
 unfold S.rostrumref18_dots.l1
 simp only at ha h
 have hal : acc.length = i := by rw [ha]; simp; omega
 by_cases hlt : (i : Int) < (l.length : Int)
 ·have hib : i < l.length := by omega
  have ew : IntKind.i64.wrap ((i : Int) + 1) = ((i + 1 : Nat) : Int) := by rw [i64w]; omega
  (repeat simp -implicitDefEqProofs only [SE, SU, SV, hlt])
  refine ixA (i := i) (a := a) (l := l) (A := INS) (by first | assumption | exact St.tick (by assumption) | exact St.tick (St.tick (by assumption))) rfl rfl hib fun g o ha => ?_
  cases ha
  (repeat simp -implicitDefEqProofs only [SE, SU, SV])
  refine ldA0 (i := i) (l := l) (A := INS) (by first | assumption | exact St.tick (by assumption) | exact St.tick (St.tick (by assumption))) rfl hib (v := .agg #[.int .i64 (l[i].d).rep, .int .i64 (l[i].d).n]) rfl (by simp [INS]) ?_
  refine bsA DOT [l[i].d] (n := 1) (by first | assumption | exact St.tick (by assumption) | exact St.tick (St.tick (by assumption))) rfl rfl (by decide) (by decide) rfl fun a5 c5 W12 h => ?_
  refine appA (A := DOT) (a := xa) (l := acc) (m := [l[i].d]) (by first | assumption | exact St.tick (by assumption) | exact St.tick (St.tick (by assumption))) rfl (by simp only [List.length_cons, List.length_nil]; omega) (by simp only [List.length_cons, List.length_nil, maxLen]; omega) fun a6 c6 W13 h => ?_
  (repeat simp -implicitDefEqProofs only [SE, SU, SV, ew])
  exact hK (acc ++ [l[i].d], a6, c6) _ hib ⟨by rw [ha, List.take_succ_eq_append_getElem hib, List.map_append]; rfl, St.wk h⟩
 ·have e : i = l.length := by omega
  subst e
  rw [List.take_length] at ha
  subst ha
  (repeat simp -implicitDefEqProofs only [SE, SU, SV, hlt])
  unfold S.rostrumref18_dots.j1
  exact hk xa xc _ h
set_option maxRecDepth 100000 in
set_option maxHeartbeats 4000000 in
theorem rIs {a : Option Addr} {c : Nat} {l : List Dot} {v : P7 Int} {d : Dot} (h0 : 0 ≤ d.rep) (h1 : d.rep < 7) (h : St W0 L W) [hr : Rd W0 L a DOT l] (hl : l.length < 1000000)
  (hk : ∀ W', St W0 L W' → k (.bool (isO v l d)) W') : callK PR F_rostrumref18_is [.agg #[.int .i64 v.x0, .int .i64 v.x1, .int .i64 v.x2, .int .i64 v.x3, .int .i64 v.x4, .int .i64 v.x5, .int .i64 v.x6], .slice a l.length c, .agg #[.int .i64 d.rep, .int .i64 d.n]] k W := by
 apply S.rostrumref18_is.call
 unfold S.rostrumref18_is.body
 refine bxa h fun vb W1 h => ?_
 refine bxa h fun db W1 h => ?_
 have h : St W0 (cells db [.int .i64 d.rep, .int .i64 d.n] T_api_Dot :: cells vb [.int .i64 v.x0, .int .i64 v.x1, .int .i64 v.x2, .int .i64 v.x3, .int .i64 v.x4, .int .i64 v.x5, .int .i64 v.x6] T_a7_int64 :: L) W1 := h
 unfold isO at hk
 have hr : d.rep.toNat < 7 := by omega
 have ei : ∀ z, idxA 7 1 (.pointer (some ⟨z, 0, none⟩)) (.int .i64 d.rep) = some (.pointer (some ⟨z, d.rep.toNat, none⟩)) := fun z => idxA7i h0 h1
 (repeat (first | ((with_reducible refine v5 ?_); refine ⟨_, rfl, ?_⟩) | simp -implicitDefEqProofs only [SE, SU, SV, ei]))
 refine ld (v := .int .i64 (v.get d.rep.toNat)) (by first | assumption | exact St.tick (by assumption) | exact St.tick (St.tick (by assumption))) (getL7 hr) (by simp) ?_
 by_cases hd : d.n ≤ v.get d.rep.toNat
 ·rw [decide_eq_true hd, Bool.true_or] at hk
  (repeat simp -implicitDefEqProofs only [SE, SU, SV, hd])
  exact hk _ (St.drop (St.drop (by first | assumption | exact St.tick (by assumption) | exact St.tick (St.tick (by assumption)))))
 rw [decide_eq_false hd, Bool.false_or] at hk
 (repeat simp -implicitDefEqProofs only [SE, SU, SV, hd])
 refine loop_c (σ := Unit) l.length (fun i _ => [.slice a l.length c, .pointer (some ⟨db, 0, none⟩), .int .i64 (i : Int)])
  (fun i _ W1 => (∀ j (hj : j < l.length), j < i → l[j] ≠ d) ∧ St W0 (cells db [.int .i64 d.rep, .int .i64 d.n] T_api_Dot :: cells vb [.int .i64 v.x0, .int .i64 v.x1, .int .i64 v.x2, .int .i64 v.x3, .int .i64 v.x4, .int .i64 v.x5, .int .i64 v.x6] T_a7_int64 :: L) W1) () rfl ⟨fun _ _ h => by omega, (by first | assumption | exact St.tick (by assumption) | exact St.tick (St.tick (by assumption)))⟩ ?_
 clear h
 rintro K i _ W2 hi ⟨hno, h⟩ hK
 simp -implicitDefEqProofs only [SE, SU, SV]
 unfold S.rostrumref18_is.l1
 by_cases hlt : (i : Int) < (l.length : Int)
 ·have hib : i < l.length := by omega
  have ew : IntKind.i64.wrap ((i : Int) + 1) = ((i + 1 : Nat) : Int) := by rw [i64w]; omega
  (repeat simp -implicitDefEqProofs only [SE, SU, SV, hlt])
  refine ixA (i := i) (a := a) (l := l) (A := DOT) (by first | assumption | exact St.tick (by assumption) | exact St.tick (St.tick (by assumption))) rfl rfl hib fun g o ha => ?_
  cases ha
  skip
  refine ldA0 (i := i) (l := l) (A := DOT) (by first | assumption | exact St.tick (by assumption) | exact St.tick (St.tick (by assumption))) rfl hib (v := .agg #[.int .i64 (l[i]).rep, .int .i64 (l[i]).n]) rfl (by simp [DOT]) ?_
  (repeat (first | ((with_reducible first | refine v5 ?_ | refine ve ?_); refine ⟨_, rfl, ?_⟩) | simp -implicitDefEqProofs only [SE, SU, SV]))
  by_cases he : l[i] = d
  ·have f2 : (decide (l[i].rep = d.rep) && decide (l[i].n = d.n)) = true := by rw [dot_eq]; exact decide_eq_true he
   rw [decide_eq_true (he ▸ List.getElem_mem hib)] at hk
   (repeat simp -implicitDefEqProofs only [SE, SU, SV, f2])
   exact hk _ (St.drop (St.drop (by first | assumption | exact St.tick (by assumption) | exact St.tick (St.tick (by assumption)))))
  ·have f2 : (decide (l[i].rep = d.rep) && decide (l[i].n = d.n)) = false := by rw [dot_eq]; exact decide_eq_false he
   (repeat simp -implicitDefEqProofs only [SE, SU, SV, f2, ew])
   refine hK () _ hib ⟨fun j hj hji => ?_, (by first | assumption | exact St.tick (by assumption) | exact St.tick (St.tick (by assumption)))⟩
   by_cases e : j = i
   ·subst e; exact he
   ·exact hno j hj (by omega)
 ·have hp : d ∉ l := fun hx => by
   obtain ⟨j, hj, e⟩ := List.getElem_of_mem hx
   exact hno j hj (by omega) e
  rw [decide_eq_false hp] at hk
  (repeat simp -implicitDefEqProofs only [SE, SU, SV, hlt])
  exact hk _ (St.drop (St.drop (by first | assumption | exact St.tick (by assumption) | exact St.tick (St.tick (by assumption)))))
end
end Go.Proofs.YtkjhccpanedccaaGreat
namespace Go.Proofs.YtkjhccpanedccaaGreat
set_option linter.unusedVariables false
set_option linter.unusedSimpArgs false
open Go Go.Eng Go.Tar Go.Sort
section
variable {W0 W : World} {L L' : List Asn}
theorem rGood7 {v : P7 Int} {k : Value → World → Prop} (h : St W0 L W) (hk : ∀ W', St W0 L W' → k (.bool (goodV v)) W') : callK PR F_rostrumref7_Good [.agg #[.int .i64 v.x0, .int .i64 v.x1, .int .i64 v.x2, .int .i64 v.x3, .int .i64 v.x4, .int .i64 v.x5, .int .i64 v.x6]] k W := by
 apply S.rostrumref7_Good.call
 unfold S.rostrumref7_Good.body
 refine bxa h fun p W1 h => ?_
 refine loop_c (σ := Unit) 7 (fun i _ => [.pointer (some ⟨p, 0, none⟩), .int .i64 i]) (fun i _ W1 => (∀ j, j < i → 0 ≤ v.get j ∧ v.get j ≤ 1099511627776) ∧ St W0 (cells p [.int .i64 v.x0, .int .i64 v.x1, .int .i64 v.x2, .int .i64 v.x3, .int .i64 v.x4, .int .i64 v.x5, .int .i64 v.x6] T_rostrumref7_Vec :: L) W1) () rfl ⟨fun j h => by omega, h⟩ ?_
 clear h
 rintro K i _ W2 hi ⟨hv, h⟩ hK
 simp -implicitDefEqProofs only [SE, SU, SV]
 unfold S.rostrumref7_Good.l1
 have hno : i < 7 → (v.get i < 0 ∨ 1099511627776 < v.get i) → goodV v = false := fun hi h => by
  rw [Bool.eq_false_iff]
  intro hd
  have := (goodV_iff v).1 hd i hi
  omega
 by_cases hlt : (i : Int) < 7
 ·have hi7 : i < 7 := by omega
  have ei := fun z => idxA7 (z := z) (i := i) hi7
  (repeat (first | ((with_reducible refine v5 ?_); refine ⟨_, rfl, ?_⟩) | simp -implicitDefEqProofs only [SE, SU, SV, hlt, ei]))
  refine ld (v := .int .i64 (v.get i)) (by first | assumption | exact St.tick (by assumption) | exact St.tick (St.tick (by assumption))) (getL7 hi7) (by simp) ?_
  by_cases h1 : v.get i < 0
  ·rw [hno hi7 (.inl h1)] at hk
   (repeat simp -implicitDefEqProofs only [SE, SU, SV, h1])
   exact hk _ (St.drop (by first | assumption | exact St.tick (by assumption) | exact St.tick (St.tick (by assumption))))
  ·(repeat (first | ((with_reducible refine v5 ?_); refine ⟨_, rfl, ?_⟩) | simp -implicitDefEqProofs only [SE, SU, SV, h1, ei]))
   refine ld (v := .int .i64 (v.get i)) (by first | assumption | exact St.tick (by assumption) | exact St.tick (St.tick (by assumption))) (getL7 hi7) (by simp) ?_
   by_cases h2 : 1099511627776 < v.get i
   ·rw [hno hi7 (.inr h2)] at hk
    (repeat simp -implicitDefEqProofs only [SE, SU, SV, h2])
    exact hk _ (St.drop (by first | assumption | exact St.tick (by assumption) | exact St.tick (St.tick (by assumption))))
   ·have ew : IntKind.i64.wrap ((i : Int) + 1) = ((i + 1 : Nat) : Int) := by rw [i64w]; omega
    (repeat simp -implicitDefEqProofs only [SE, SU, SV, h2, ew])
    refine hK () _ hi7 ⟨fun j hj => ?_, (by first | assumption | exact St.tick (by assumption) | exact St.tick (St.tick (by assumption)))⟩
    by_cases hji : j = i
    ·subst hji; omega
    ·exact hv j (by omega)
 ·rw [(goodV_iff v).2 fun j hj => hv j (by omega)] at hk
  (repeat simp -implicitDefEqProofs only [SE, SU, SV, hlt])
  exact hk _ (St.drop (by first | assumption | exact St.tick (by assumption) | exact St.tick (St.tick (by assumption))))
theorem rLe7 {a b : P7 Int} {k : Value → World → Prop} (h : St W0 L W) (hk : ∀ W', St W0 L W' → k (.bool (leV a b)) W') : callK PR F_rostrumref7_Le [.agg #[.int .i64 a.x0, .int .i64 a.x1, .int .i64 a.x2, .int .i64 a.x3, .int .i64 a.x4, .int .i64 a.x5, .int .i64 a.x6], .agg #[.int .i64 b.x0, .int .i64 b.x1, .int .i64 b.x2, .int .i64 b.x3, .int .i64 b.x4, .int .i64 b.x5, .int .i64 b.x6]] k W := by
 apply S.rostrumref7_Le.call
 unfold S.rostrumref7_Le.body
 refine bxa h fun p W1 h => ?_
 refine bxa h fun q W1 h => ?_
 refine loop_c (σ := Unit) 7 (fun i _ => [.pointer (some ⟨p, 0, none⟩), .pointer (some ⟨q, 0, none⟩), .int .i64 i]) (fun i _ W1 => (∀ j, j < i → a.get j ≤ b.get j) ∧ St W0 (cells q [.int .i64 b.x0, .int .i64 b.x1, .int .i64 b.x2, .int .i64 b.x3, .int .i64 b.x4, .int .i64 b.x5, .int .i64 b.x6] T_rostrumref7_Vec :: cells p [.int .i64 a.x0, .int .i64 a.x1, .int .i64 a.x2, .int .i64 a.x3, .int .i64 a.x4, .int .i64 a.x5, .int .i64 a.x6] T_rostrumref7_Vec :: L) W1) () rfl ⟨fun j h => by omega, h⟩ ?_
 clear h
 rintro K i _ W2 hi ⟨hv, h⟩ hK
 simp -implicitDefEqProofs only [SE, SU, SV]
 unfold S.rostrumref7_Le.l1
 by_cases hlt : (i : Int) < 7
 ·have hi7 : i < 7 := by omega
  have ei := fun z => idxA7 (z := z) (i := i) hi7
  (repeat (first | ((with_reducible refine v5 ?_); refine ⟨_, rfl, ?_⟩) | simp -implicitDefEqProofs only [SE, SU, SV, hlt, ei]))
  refine ld (v := .int .i64 (a.get i)) (by first | assumption | exact St.tick (by assumption) | exact St.tick (St.tick (by assumption))) (getL7 hi7) (by simp) ?_
  (repeat ((with_reducible refine v5 ?_); refine ⟨_, rfl, ?_⟩))
  refine ld (v := .int .i64 (b.get i)) (by first | assumption | exact St.tick (by assumption) | exact St.tick (St.tick (by assumption))) (getL7 hi7) (by simp) ?_
  by_cases h1 : b.get i < a.get i
  ·have hc : leV a b = false := by
    rw [Bool.eq_false_iff]; intro hd
    have := (leV_iff a b).1 hd i hi7
    omega
   (repeat simp -implicitDefEqProofs only [SE, SU, SV, h1])
   rw [hc] at hk
   exact hk _ (St.drop (St.drop (by first | assumption | exact St.tick (by assumption) | exact St.tick (St.tick (by assumption)))))
  ·have ew : IntKind.i64.wrap ((i : Int) + 1) = ((i + 1 : Nat) : Int) := by rw [i64w]; omega
   (repeat simp -implicitDefEqProofs only [SE, SU, SV, h1, ew])
   refine hK () _ hi7 ⟨fun j hj => ?_, (by first | assumption | exact St.tick (by assumption) | exact St.tick (St.tick (by assumption)))⟩
   by_cases hji : j = i
   ·subst hji; omega
   ·exact hv j (by omega)
 ·(repeat simp -implicitDefEqProofs only [SE, SU, SV, hlt])
  rw [(leV_iff a b).2 fun j hj => hv j (by omega)] at hk
  exact hk _ (St.drop (St.drop (by first | assumption | exact St.tick (by assumption) | exact St.tick (St.tick (by assumption)))))
theorem rMerge7 {a b : P7 Int} {k : Value → World → Prop} (h : St W0 L W) (hk : ∀ W', St W0 L W' → k (.agg #[.int .i64 (vmerge a b).x0, .int .i64 (vmerge a b).x1, .int .i64 (vmerge a b).x2, .int .i64 (vmerge a b).x3, .int .i64 (vmerge a b).x4, .int .i64 (vmerge a b).x5, .int .i64 (vmerge a b).x6]) W') : callK PR F_rostrumref7_Merge [.agg #[.int .i64 a.x0, .int .i64 a.x1, .int .i64 a.x2, .int .i64 a.x3, .int .i64 a.x4, .int .i64 a.x5, .int .i64 a.x6], .agg #[.int .i64 b.x0, .int .i64 b.x1, .int .i64 b.x2, .int .i64 b.x3, .int .i64 b.x4, .int .i64 b.x5, .int .i64 b.x6]] k W := by
 apply S.rostrumref7_Merge.call
 unfold S.rostrumref7_Merge.body
 refine bxa h fun p W1 h => ?_
 refine bxa h fun q W1 h => ?_
 refine al h fun r W1 h => ?_
 refine joinK_i ?_
 refine loop_c (σ := P7 Int) 7 (fun i _ => [.pointer (some ⟨p, 0, none⟩), .pointer (some ⟨q, 0, none⟩), .pointer (some ⟨r, 0, none⟩), .int .i64 i])
  (fun i s W1 => (∀ j, j < 7 → s.get j = if j < i then imax (a.get j) (b.get j) else a.get j) ∧ St W0 (cells r [.int .i64 (P7.all 0).x0, .int .i64 (P7.all 0).x1, .int .i64 (P7.all 0).x2, .int .i64 (P7.all 0).x3, .int .i64 (P7.all 0).x4, .int .i64 (P7.all 0).x5, .int .i64 (P7.all 0).x6] T_rostrumref7_Vec :: cells q [.int .i64 b.x0, .int .i64 b.x1, .int .i64 b.x2, .int .i64 b.x3, .int .i64 b.x4, .int .i64 b.x5, .int .i64 b.x6] T_rostrumref7_Vec :: cells p [.int .i64 s.x0, .int .i64 s.x1, .int .i64 s.x2, .int .i64 s.x3, .int .i64 s.x4, .int .i64 s.x5, .int .i64 s.x6] T_rostrumref7_Vec :: L) W1)
  a rfl ⟨fun j h => by simp, h⟩ ?_
 clear h
 rintro K i s W2 hi ⟨hs, h⟩ hK
 simp -implicitDefEqProofs only [SE, SU, SV]
 unfold S.rostrumref7_Merge.l1
 have ew : IntKind.i64.wrap ((i : Int) + 1) = ((i + 1 : Nat) : Int) := by rw [i64w]; omega
 by_cases hlt : i < 7
 ·have hK' : ∀ W', St W0 (cells r [.int .i64 (P7.all 0).x0, .int .i64 (P7.all 0).x1, .int .i64 (P7.all 0).x2, .int .i64 (P7.all 0).x3, .int .i64 (P7.all 0).x4, .int .i64 (P7.all 0).x5, .int .i64 (P7.all 0).x6] T_rostrumref7_Vec :: cells q [.int .i64 b.x0, .int .i64 b.x1, .int .i64 b.x2, .int .i64 b.x3, .int .i64 b.x4, .int .i64 b.x5, .int .i64 b.x6] T_rostrumref7_Vec :: cells p [.int .i64 (s.set i (imax (s.get i) (b.get i))).x0, .int .i64 (s.set i (imax (s.get i) (b.get i))).x1, .int .i64 (s.set i (imax (s.get i) (b.get i))).x2, .int .i64 (s.set i (imax (s.get i) (b.get i))).x3, .int .i64 (s.set i (imax (s.get i) (b.get i))).x4, .int .i64 (s.set i (imax (s.get i) (b.get i))).x5, .int .i64 (s.set i (imax (s.get i) (b.get i))).x6] T_rostrumref7_Vec :: L) W' → K [.pointer (some ⟨p, 0, none⟩), .pointer (some ⟨q, 0, none⟩), .pointer (some ⟨r, 0, none⟩), .int .i64 ((i + 1 : Nat) : Int)] W' :=
   fun W' h => hK _ W' hlt ⟨fun j hj => by
    rw [P7.get_set _ _ _ _ hj]
    by_cases hji : j = i
    ·subst hji; rw [if_pos rfl, if_pos (by omega), hs j hj, if_neg (by omega)]
    ·rw [if_neg hji, hs j hj]
     by_cases h1 : j < i
     ·rw [if_pos h1, if_pos (by omega)]
     ·rw [if_neg h1, if_neg (by omega)], h⟩
  clear hK hs
  have ia : ∀ z, idxA 7 1 (.pointer (some ⟨z, 0, none⟩)) (.int .i64 (i : Int)) = some (.pointer (some ⟨z, i, none⟩)) := fun z => idxA7 hlt
  have e1 : decide ((i : Int) < 7) = true := decide_eq_true (by omega)
  by_cases g : s.get i < b.get i
  all_goals
   first | rw [imax, if_pos g] at hK' | rw [imax, if_neg g] at hK'
   rcases P7.cases7 hlt with rfl | rfl | rfl | rfl | rfl | rfl | rfl
   all_goals
    simp only [P7.get] at g
    (repeat simp -implicitDefEqProofs only [SE, SU, SV, e1, ia])
    refine joinK_i ?_
    (repeat (first | ((with_reducible refine v5 ?_); refine ⟨_, rfl, ?_⟩) | ((with_reducible refine v12 ?_ ?_); exact rfl; intros) | simp -implicitDefEqProofs only [SE, SU, SV, g]))
    unfold S.rostrumref7_Merge.j2
    (repeat simp -implicitDefEqProofs only [SE, SU, SV, ew])
    exact hK' _ (by first | assumption | exact St.tick (by assumption) | exact St.tick (St.tick (by assumption)))
 ·have e1 : decide ((i : Int) < 7) = false := decide_eq_false (by omega)
  (repeat simp -implicitDefEqProofs only [SE, SU, SV, e1])
  unfold S.rostrumref7_Merge.j1
  (repeat (first | ((with_reducible refine v5 ?_); refine ⟨_, rfl, ?_⟩) | ((with_reducible refine v12 ?_ ?_); exact rfl; intros) | ((with_reducible refine w5 ?_ ?_); simp; refine ⟨_, rfl, ?_⟩) | simp -implicitDefEqProofs only [SE, SU, SV]))
  have hi7 : i = 7 := by omega
  subst hi7
  have : s = vmerge a b := P7.ext7 fun j hj => by rw [hs j hj, if_pos hj, vmerge, P7.get_zip]
  rw [this] at *
  exact hk _ (St.wk (by first | assumption | exact St.tick (by assumption) | exact St.tick (St.tick (by assumption))))
theorem goodO_bad {l : List Ins} {i : Nat} (hib : i < l.length) (hb : insOne l[i] = false ∨ depsO l[i] = false ∨ ∃ j, ∃ hj : j < i, l[j].d = l[i].d) : goodO l = false := by
 rw [Bool.eq_false_iff]
 intro hg
 obtain ⟨g1, g2, _⟩ := goodO_iff.1 hg
 obtain ⟨g3, g4⟩ := g1 _ (List.getElem_mem hib)
 rcases hb with hb | hb | ⟨j, hj, e⟩
 ·rw [hb] at g3; cases g3
 ·rw [hb] at g4; cases g4
 ·have := at_inj g2 (i := j) (by omega) hib e
  omega
set_option maxRecDepth 100000 in
set_option maxHeartbeats 4000000 in
theorem rGood {a : Option Addr} {c : Nat} {l : List Ins} {k : Value → World → Prop} (h : St W0 L W) [hr : Rd W0 L a INS l] (hl : l.length < 4611686018427387904)
  (hk : ∀ W', St W0 L W' → k (.bool (goodO l)) W') : callK PR F_rostrumref18_Good [.slice a l.length c] k W := by
 apply S.rostrumref18_Good.call
 unfold S.rostrumref18_Good.body
 by_cases h1000 : (1000 : Int) < (l.length : Int)
 ·have : goodO l = false := by
   rw [Bool.eq_false_iff]; intro hg
   have := (goodO_iff.1 hg).2.2
   omega
  rw [this] at hk
  (repeat simp -implicitDefEqProofs only [SE, SU, SV, h1000])
  exact hk _ h
 (repeat simp -implicitDefEqProofs only [SE, SU, SV, h1000])
 refine loop_c (σ := Unit) l.length (fun i _ => [.slice a l.length c, .int .i64 (i : Int)])
  (fun i _ W1 => ((∀ j (hj : j < l.length), j < i → insOne l[j] = true ∧ depsO l[j] = true) ∧ ∀ j u (hj : j < l.length) (hu : u < l.length), u < j → j < i → l[u].d ≠ l[j].d) ∧ St W0 L W1) () rfl ⟨⟨fun _ _ h => by omega, fun _ _ _ _ _ h => by omega⟩, h⟩ ?_
 clear h
 rintro K i _ W2 hi ⟨⟨hall, hnd⟩, h⟩ hK
 simp -implicitDefEqProofs only [SE, SU, SV]
 unfold S.rostrumref18_Good.l1
 by_cases hlt : (i : Int) < (l.length : Int)
 ·have hib : i < l.length := by omega
  have hbad := goodO_bad hib
  (repeat simp -implicitDefEqProofs only [SE, SU, SV, hlt])
  refine joinK_i ?_
  refine ixA (i := i) (a := a) (l := l) (A := INS) (by first | assumption | exact St.tick (by assumption) | exact St.tick (St.tick (by assumption))) rfl rfl hib fun g o ha => ?_
  cases ha
  refine ldA0 (i := i) (l := l) (A := INS) (by first | assumption | exact St.tick (by assumption) | exact St.tick (St.tick (by assumption))) rfl hib (v := .agg (INS.row l[i]).toArray) rfl (by simp [INS]) ?_
  have hno : ∀ W', St W0 L W' → (insOne l[i] = false ∨ depsO l[i] = false ∨ ∃ j, ∃ hj : j < i, l[j].d = l[i].d) → k (.bool false) W' := fun W' h hb => by
   have := hk W' h
   rwa [hbad hb] at this
  have hone : insOne l[i] = true ↔ (0 ≤ l[i].d.rep ∧ l[i].d.rep < 7 ∧ 1 ≤ l[i].d.n ∧ l[i].d.n ≤ 1000) ∧ ¬ l[i].s < 0 ∧ ¬ 1099511627776 < l[i].s := by
   unfold insOne dotO
   simp only [Bool.and_eq_true, Bool.not_eq_true', decide_eq_true_eq, decide_eq_false_iff_not, and_assoc]
  have hdp := depsO_iff l[i]
  have hdup : (∀ u, ∀ hu : u < i, l[u].d ≠ l[i].d) → insOne l[i] = true → depsO l[i] = true → ∀ W', St W0 L W' → K [.slice (some ⟨g, o, none⟩) l.length c, .int .i64 ((i + 1 : Nat) : Int)] W' := fun h1 h2 h3 W' h => hK () W' hib ⟨⟨fun j hj hji => by
   by_cases e : j = i
   ·subst e; exact ⟨h2, h3⟩
   ·exact hall j hj (by omega), fun j u hj hu huj hji => by
   by_cases e : j = i
   ·subst e; exact h1 u huj
   ·exact hnd j u hj hu huj (by omega)⟩, h⟩
  have hseen : ∀ u, ∀ hu : u < i, (decide (l[u].d.rep = l[i].d.rep) && decide (l[u].d.n = l[i].d.n)) = decide (l[u].d = l[i].d) := fun u hu => dot_eq _ _
  clear hbad hall hnd hK hk
  generalize hy : l[i] = y at *
  rw [show (INS.row y).toArray = #[.int .i64 y.d.rep, .int .i64 y.d.n, .int .i64 y.s, .int .i64 y.v.x0, .int .i64 y.v.x1, .int .i64 y.v.x2, .int .i64 y.v.x3, .int .i64 y.v.x4, .int .i64 y.v.x5, .int .i64 y.v.x6] from rfl]
  refine al (by first | assumption | exact St.tick (by assumption) | exact St.tick (St.tick (by assumption))) fun b W3 h => ?_
  have hf : ∀ W', St W0 (cells b [.int .i64 y.d.rep, .int .i64 y.d.n, .int .i64 y.s, .int .i64 y.v.x0, .int .i64 y.v.x1, .int .i64 y.v.x2, .int .i64 y.v.x3, .int .i64 y.v.x4, .int .i64 y.v.x5, .int .i64 y.v.x6] T_rostrumref18_Inst :: L) W' → ¬ ((0 ≤ y.d.rep ∧ y.d.rep < 7 ∧ 1 ≤ y.d.n ∧ y.d.n ≤ 1000) ∧ ¬ y.s < 0 ∧ ¬ 1099511627776 < y.s) → k (.bool false) W' := fun W' h hn => hno W' (St.drop h) (.inl (by simpa using fun e => hn (hone.1 e)))
  by_cases d1 : y.d.rep < 0
  ·(repeat (first | ((with_reducible refine v5 ?_); refine ⟨_, rfl, ?_⟩) | ((with_reducible refine v12 ?_ ?_); exact rfl; intros) | ((with_reducible refine w5 ?_ ?_); simp; refine ⟨_, rfl, ?_⟩) | ((with_reducible refine w12 ?_ ?_ ?_ ?_); simp; simp; simp [oneC]; intros) | simp -implicitDefEqProofs only [SE, SU, SV, d1]))
   exact hf _ (by first | assumption | exact St.tick (by assumption) | exact St.tick (St.tick (by assumption))) (by omega)
  by_cases d2 : 6 < y.d.rep
  ·(repeat (first | ((with_reducible refine v5 ?_); refine ⟨_, rfl, ?_⟩) | ((with_reducible refine v12 ?_ ?_); exact rfl; intros) | ((with_reducible refine w5 ?_ ?_); simp; refine ⟨_, rfl, ?_⟩) | ((with_reducible refine w12 ?_ ?_ ?_ ?_); simp; simp; simp [oneC]; intros) | simp -implicitDefEqProofs only [SE, SU, SV, d1, d2]))
   exact hf _ (by first | assumption | exact St.tick (by assumption) | exact St.tick (St.tick (by assumption))) (by omega)
  by_cases d3 : y.d.n < 1
  ·(repeat (first | ((with_reducible refine v5 ?_); refine ⟨_, rfl, ?_⟩) | ((with_reducible refine v12 ?_ ?_); exact rfl; intros) | ((with_reducible refine w5 ?_ ?_); simp; refine ⟨_, rfl, ?_⟩) | ((with_reducible refine w12 ?_ ?_ ?_ ?_); simp; simp; simp [oneC]; intros) | simp -implicitDefEqProofs only [SE, SU, SV, d1, d2, d3]))
   exact hf _ (by first | assumption | exact St.tick (by assumption) | exact St.tick (St.tick (by assumption))) (by omega)
  by_cases d4 : 1000 < y.d.n
  ·(repeat (first | ((with_reducible refine v5 ?_); refine ⟨_, rfl, ?_⟩) | ((with_reducible refine v12 ?_ ?_); exact rfl; intros) | ((with_reducible refine w5 ?_ ?_); simp; refine ⟨_, rfl, ?_⟩) | ((with_reducible refine w12 ?_ ?_ ?_ ?_); simp; simp; simp [oneC]; intros) | simp -implicitDefEqProofs only [SE, SU, SV, d1, d2, d3, d4]))
   exact hf _ (by first | assumption | exact St.tick (by assumption) | exact St.tick (St.tick (by assumption))) (by omega)
  by_cases d5 : y.s < 0
  ·(repeat (first | ((with_reducible refine v5 ?_); refine ⟨_, rfl, ?_⟩) | ((with_reducible refine v12 ?_ ?_); exact rfl; intros) | ((with_reducible refine w5 ?_ ?_); simp; refine ⟨_, rfl, ?_⟩) | ((with_reducible refine w12 ?_ ?_ ?_ ?_); simp; simp; simp [oneC]; intros) | simp -implicitDefEqProofs only [SE, SU, SV, d1, d2, d3, d4, d5]))
   exact hf _ (by first | assumption | exact St.tick (by assumption) | exact St.tick (St.tick (by assumption))) (by omega)
  by_cases d6 : 1099511627776 < y.s
  ·(repeat (first | ((with_reducible refine v5 ?_); refine ⟨_, rfl, ?_⟩) | ((with_reducible refine v12 ?_ ?_); exact rfl; intros) | ((with_reducible refine w5 ?_ ?_); simp; refine ⟨_, rfl, ?_⟩) | ((with_reducible refine w12 ?_ ?_ ?_ ?_); simp; simp; simp [oneC]; intros) | simp -implicitDefEqProofs only [SE, SU, SV, d1, d2, d3, d4, d5, d6]))
   exact hf _ (by first | assumption | exact St.tick (by assumption) | exact St.tick (St.tick (by assumption))) (by omega)
  have h1 := hone.2 ⟨by omega, d5, d6⟩
  (repeat (first | ((with_reducible refine v5 ?_); refine ⟨_, rfl, ?_⟩) | ((with_reducible refine v12 ?_ ?_); exact rfl; intros) | ((with_reducible refine w5 ?_ ?_); simp; refine ⟨_, rfl, ?_⟩) | ((with_reducible refine w12 ?_ ?_ ?_ ?_); simp; simp; simp [oneC]; intros) | simp -implicitDefEqProofs only [SE, SU, SV, d1, d2, d3, d4, d5, d6]))
  refine joinK_i ?_
  rename_i W4 h
  (try simp only [BLS, SB, stL_a, stL_b, stL_c, List.append_nil, List.take_nil, List.drop_nil, Nat.reduceAdd] at h)
  have h := St.wk (L' := cells b [.int .i64 y.d.rep, .int .i64 y.d.n, .int .i64 y.s, .int .i64 y.v.x0, .int .i64 y.v.x1, .int .i64 y.v.x2, .int .i64 y.v.x3, .int .i64 y.v.x4, .int .i64 y.v.x5, .int .i64 y.v.x6] T_rostrumref18_Inst :: L) h
  refine loop_c (σ := Unit) 7 (fun r _ => [.slice (some ⟨g, o, none⟩) l.length c, .int .i64 (i : Int), .pointer (some ⟨b, 0, none⟩), .int .i64 (r : Int)])
   (fun r _ W1 => (∀ j, j < r → 0 ≤ y.v.get j ∧ y.v.get j ≤ 1000) ∧ St W0 (cells b [.int .i64 y.d.rep, .int .i64 y.d.n, .int .i64 y.s, .int .i64 y.v.x0, .int .i64 y.v.x1, .int .i64 y.v.x2, .int .i64 y.v.x3, .int .i64 y.v.x4, .int .i64 y.v.x5, .int .i64 y.v.x6] T_rostrumref18_Inst :: L) W1) () rfl ⟨fun j h => by omega, h⟩ ?_
  clear h
  rintro K2 r _ W5 hr7 ⟨hv, h⟩ hK2
  simp -implicitDefEqProofs only [SE, SU, SV]
  unfold S.rostrumref18_Good.l3
  by_cases hlt7 : (r : Int) < 7
  ·have hi7 : r < 7 := by omega
   have ei : ∀ z, idxA 7 1 (.pointer (some ⟨z, 3, none⟩)) (.int .i64 (r : Int)) = some (.pointer (some ⟨z, 3 + r, none⟩)) := fun z => by
    rw [idxA_blk (by omega) (by omega), Nat.mul_one, Int.toNat_natCast]
   have hdn : y.v.get r < 0 ∨ 1000 < y.v.get r → depsO y = false := fun h => by
    rw [Bool.eq_false_iff]; intro hd
    have := hdp.1 hd r hi7
    omega
   (repeat (first | ((with_reducible refine v5 ?_); refine ⟨_, rfl, ?_⟩) | simp -implicitDefEqProofs only [SE, SU, SV, hlt7, ei]))
   refine ld (v := .int .i64 (y.v.get r)) (by first | assumption | exact St.tick (by assumption) | exact St.tick (St.tick (by assumption))) (getI7 hi7) (by simp) ?_
   by_cases e1 : y.v.get r < 0
   ·(repeat simp -implicitDefEqProofs only [SE, SU, SV, e1])
    exact hno _ (St.drop (by first | assumption | exact St.tick (by assumption) | exact St.tick (St.tick (by assumption)))) (.inr (.inl (hdn (.inl e1))))
   ·(repeat (first | ((with_reducible refine v5 ?_); refine ⟨_, rfl, ?_⟩) | simp -implicitDefEqProofs only [SE, SU, SV, e1, ei]))
    refine ld (v := .int .i64 (y.v.get r)) (by first | assumption | exact St.tick (by assumption) | exact St.tick (St.tick (by assumption))) (getI7 hi7) (by simp) ?_
    by_cases e2 : 1000 < y.v.get r
    ·(repeat simp -implicitDefEqProofs only [SE, SU, SV, e2])
     exact hno _ (St.drop (by first | assumption | exact St.tick (by assumption) | exact St.tick (St.tick (by assumption)))) (.inr (.inl (hdn (.inr e2))))
    ·have ew : IntKind.i64.wrap ((r : Int) + 1) = ((r + 1 : Nat) : Int) := by rw [i64w]; omega
     (repeat simp -implicitDefEqProofs only [SE, SU, SV, e2, ew])
     refine hK2 () _ hi7 ⟨fun j hj => ?_, (by first | assumption | exact St.tick (by assumption) | exact St.tick (St.tick (by assumption)))⟩
     by_cases hji : j = r
     ·subst hji; omega
     ·exact hv j (by omega)
  ·have h2 := hdp.2 fun j hj => hv j (by omega)
   (repeat simp -implicitDefEqProofs only [SE, SU, SV, hlt7])
   unfold S.rostrumref18_Good.j2
   refine loop_c (σ := Unit) i (fun u _ => [.slice (some ⟨g, o, none⟩) l.length c, .int .i64 (i : Int), .pointer (some ⟨b, 0, none⟩), .int .i64 (u : Int)])
    (fun u _ W1 => (∀ j, ∀ hj : j < i, j < u → l[j].d ≠ y.d) ∧ St W0 (cells b [.int .i64 y.d.rep, .int .i64 y.d.n, .int .i64 y.s, .int .i64 y.v.x0, .int .i64 y.v.x1, .int .i64 y.v.x2, .int .i64 y.v.x3, .int .i64 y.v.x4, .int .i64 y.v.x5, .int .i64 y.v.x6] T_rostrumref18_Inst :: L) W1) () rfl ⟨fun j _ h => by omega, (by first | assumption | exact St.tick (by assumption) | exact St.tick (St.tick (by assumption)))⟩ ?_
   clear h
   rintro K3 u _ W6 hu7 ⟨hv3, h⟩ hK3
   simp -implicitDefEqProofs only [SE, SU, SV]
   unfold S.rostrumref18_Good.l2
   by_cases hui : (u : Int) < (i : Int)
   ·have hui2 : u < i := by omega
    have hub : u < l.length := by omega
    (repeat simp -implicitDefEqProofs only [SE, SU, SV, hui])
    refine ixA (i := u) (a := some ⟨g, o, none⟩) (l := l) (A := INS) (by first | assumption | exact St.tick (by assumption) | exact St.tick (St.tick (by assumption))) rfl rfl hub fun g o ha => ?_
    cases ha
    (repeat simp -implicitDefEqProofs only [SE, SU, SV])
    refine ldA0 (i := u) (l := l) (A := INS) (by first | assumption | exact St.tick (by assumption) | exact St.tick (St.tick (by assumption))) rfl hub (v := .agg #[.int .i64 (l[u].d).rep, .int .i64 (l[u].d).n]) rfl (by simp [INS]) ?_
    (repeat (first | ((with_reducible first | refine v5 ?_ | refine ve ?_); refine ⟨_, rfl, ?_⟩) | simp -implicitDefEqProofs only [SE, SU, SV]))
    have f1 := hseen u hui2
    by_cases he : l[u].d = y.d
    ·rw [decide_eq_true he] at f1
     (repeat simp -implicitDefEqProofs only [SE, SU, SV, f1])
     exact hno _ (St.drop (by first | assumption | exact St.tick (by assumption) | exact St.tick (St.tick (by assumption)))) (.inr (.inr ⟨u, hui2, he⟩))
    ·rw [decide_eq_false he] at f1
     have ew : IntKind.i64.wrap ((u : Int) + 1) = ((u + 1 : Nat) : Int) := by rw [i64w]; omega
     (repeat simp -implicitDefEqProofs only [SE, SU, SV, f1, ew])
     refine hK3 () _ hui2 ⟨fun j hj hju => ?_, (by first | assumption | exact St.tick (by assumption) | exact St.tick (St.tick (by assumption)))⟩
     by_cases e : j = u
     ·subst e; exact he
     ·exact hv3 j hj (by omega)
   ·have ew : IntKind.i64.wrap ((i : Int) + 1) = ((i + 1 : Nat) : Int) := by rw [i64w]; omega
    (repeat simp -implicitDefEqProofs only [SE, SU, SV, hui])
    unfold S.rostrumref18_Good.j1
    (repeat simp -implicitDefEqProofs only [SE, SU, SV, ew])
    exact hdup (fun u hu => hv3 u hu (by omega)) h1 h2 _ (St.drop (by first | assumption | exact St.tick (by assumption) | exact St.tick (St.tick (by assumption))))
 ·have hg : goodO l = true := goodO_iff.2 ⟨fun x hx => by
   obtain ⟨j, hj, rfl⟩ := List.getElem_of_mem hx
   exact hall j hj (by omega), by
   rw [List.nodup_iff_pairwise_ne, List.pairwise_map, List.pairwise_iff_getElem]
   exact fun u j hu hj huj => hnd j u hj hu huj (by omega), by omega⟩
  rw [hg] at hk
  (repeat simp -implicitDefEqProofs only [SE, SU, SV, hlt])
  exact hk _ h
end
end Go.Proofs.YtkjhccpanedccaaGreat
namespace Go.Proofs.YtkjhccpanedccaaGreat
set_option linter.unusedVariables false
set_option linter.unusedSimpArgs false
open Go Go.Eng Go.Tar Go.Sort
structure GSl (α : Type) where
 a : Option Addr
 c : Nat
 l : List α
abbrev GSl.v {α : Type} (x : GSl α) : Value := .slice x.a x.l.length x.c
def GSY {α : Type} : Ly (GSl α) := ⟨1, by omega, fun x => [x.v], fun _ => rfl, fun _ => rfl⟩
@[reducible] def gch {α : Type} (A : Ly α) (t : TypeId) (x : GSl α) : Asn := arr A t x.a x.c x.l
def LG {α : Type} (A : Ly α) (t ts : TypeId) (a : Option Addr) (c : Nat) (vs : List (List α)) : Asn := fun h => ∃ rows : List (GSl α), rows.map (·.l) = vs ∧ sep [arr GSY ts a c rows, many (gch A t) rows] h
section
variable {α : Type} {A : Ly α} {t ts : TypeId} {W0 W : World} {L L' : List Asn} {a : Option Addr} {c : Nat} {vs : List (List α)}
theorem lg_at (h : St W0 (LG A t ts a c vs :: L) W) : ∃ rows : List (GSl α), rows.map (·.l) = vs ∧ St W0 (arr GSY ts a c rows :: many (gch A t) rows :: L) W := by
 obtain ⟨rows, h⟩ := h.ex
 obtain ⟨h1, h⟩ := h.fact
 exact ⟨rows, h1, h.flat⟩
theorem lg_ent {rows : List (GSl α)} (h : rows.map (·.l) = vs) : ent (arr GSY ts a c rows :: many (gch A t) rows :: L) (LG A t ts a c vs :: L) :=
 (ent.pack [_, _] L).trans (ent.weak fun _ hp => ⟨rows, h, hp⟩)
theorem lg_none : ent L (LG A t ts none 0 [] :: L) := ((many_nil (F := gch A t)).trans (arr_nil GSY ts)).trans (lg_ent (rows := []) rfl)
theorem gch_none : ∀ n : Nat, ent L (many (gch A t) (List.replicate n (⟨none, 0, []⟩ : GSl α)) :: L)
 | 0 => many_nil (F := gch A t)
 | n + 1 => (gch_none n).trans ((arr_nil A t).trans (many_uncons (F := gch A t) ⟨none, 0, []⟩ _))
theorem gch_pick (rows : List (GSl α)) {i : Nat} (hi : i < rows.length) : ent (many (gch A t) rows :: L) (gch A t rows[i] :: many (gch A t) (rows.take i ++ rows.drop (i + 1)) :: L) :=
 (many_perm (F := gch A t) (permPick rows hi)).trans (many_cons _ _)
theorem gch_place (rows : List (GSl α)) {i : Nat} (hi : i < rows.length) (x : GSl α) : ent (gch A t x :: many (gch A t) (rows.take i ++ rows.drop (i + 1)) :: L) (many (gch A t) (rows.set i x) :: L) := by
 refine (many_uncons (F := gch A t) x _).trans (many_perm (F := gch A t) ?_)
 have h := (permPick (rows.set i x) (i := i) (by simpa using hi)).symm
 simp only [List.getElem_set_self] at h
 rw [List.take_set_of_le (Nat.le_refl i), List.drop_set_of_lt (Nat.lt_succ_self i)] at h
 exact h
theorem gch_rd {rows : List (GSl α)} {x : GSl α} (hx : x ∈ rows) : Rd W0 (many (gch A t) rows :: L) x.a A x.l := ⟨fun W h => by
 obtain ⟨B, C, rfl⟩ := List.append_of_mem hx
 have h1 := h.ent ((many_perm (F := gch A t) (List.perm_middle (a := x) (l₁ := B) (l₂ := C))).trans (many_cons _ _))
 have hr : Rd W0 (arr A t x.a x.c x.l :: many (gch A t) (B ++ C) :: L) x.a A x.l := inferInstance
 exact hr.ok W h1⟩
theorem ldH {P : Program} {i g o : Nat} {rows : List (GSl α)} {T : TypeId} [ht : TyI P T false 1] (hi : i < rows.length) (h : St W0 L W) [hr : Rd W0 L (some ⟨g, o, none⟩) GSY rows] {k : Value → World → Prop} (hk : k rows[i].v W) : rdK P (Instr.loadAt T (.pointer (some ⟨g, o + i * 1, none⟩))) k W :=
 ldA0 (i := i) (l := rows) (A := GSY) h rfl hi (v := rows[i].v) rfl (by simp) hk
end
def tbl (r : Nat) (f : Nat → Nat → Bool) (n : Nat) : List (List Bool) := (List.range n).map fun i => if i < r then (List.range n).map (f i) else []
section
variable {f g : Nat → Nat → Bool} {n r i k : Nat}
theorem tbl_len : (tbl r f n).length = n := by simp [tbl]
theorem tbl_congr (h : ∀ i k, i < r → i < n → k < n → f i k = g i k) : tbl r f n = tbl r g n := by
 refine List.map_congr_left fun i hi => ?_
 split
 ·rename_i hr
  exact List.map_congr_left fun k hk => h i k hr (List.mem_range.1 hi) (List.mem_range.1 hk)
 ·rfl
theorem tbl_row (hi : i < n) (hr : i < r) : (tbl r f n)[i]'(by rw [tbl_len]; exact hi) = (List.range n).map (f i) := by
 simp [tbl, hr]
theorem mr_at (hk : k < n) {p : Nat → Bool} : ((List.range n).map p)[k]'(by simpa using hk) = p k := by simp
theorem mr_set (v : Bool) (p : Nat → Bool) : ((List.range n).map p).set k v = (List.range n).map fun x => if x = k then v else p x := by
 apply List.ext_getElem
 ·simp
 ·intro j h1 h2
  simp only [List.getElem_set, List.getElem_map, List.getElem_range]
  by_cases e : k = j
  ·subst e; simp
  ·rw [if_neg e, if_neg fun h => e h.symm]
theorem tbl_set (hr : i < r) (v : Bool) : (tbl r f n).set i (((List.range n).map (f i)).set k v) = tbl r (fun a b => if a = i ∧ b = k then v else f a b) n := by
 apply List.ext_getElem
 ·simp [tbl]
 ·intro j h1 h2
  rw [List.getElem_set]
  have hj : j < n := by simpa [tbl] using h2
  by_cases e : i = j
  ·subst e
   rw [if_pos rfl, mr_set, tbl_row hj hr]
   simp
  ·rw [if_neg e]
   simp only [tbl, List.getElem_map, List.getElem_range]
   have : ∀ b, (if j = i ∧ b = k then v else f j b) = f j b := fun b => if_neg fun h => e h.1.symm
   simp only [this]
theorem tbl_new (hi : i < n) : (tbl i f n).set i (List.replicate n false) = tbl (i + 1) (fun a b => if a = i then false else f a b) n := by
 apply List.ext_getElem
 ·simp [tbl]
 ·intro j h1 h2
  rw [List.getElem_set]
  have hj : j < n := by simpa [tbl] using h2
  by_cases e : i = j
  ·subst e
   rw [if_pos rfl, tbl_row hj (by omega)]
   simp only [if_true]
   apply List.ext_getElem <;> simp
  ·rw [if_neg e]
   simp only [tbl, List.getElem_map, List.getElem_range]
   by_cases hl : j < i
   ·rw [if_pos hl, if_pos (by omega)]
    simp only [if_neg (fun h => e h.symm : ¬ j = i)]
   ·rw [if_neg hl, if_neg (by omega)]
end
theorem wsh_col (K : List Ins) (m a : Nat) : wsh K (m + 1) a m = wsh K m a m := by
 rw [wsh]; cases wsh K m a m <;> simp
theorem wsh_row (K : List Ins) (m b : Nat) : wsh K (m + 1) m b = wsh K m m b := by
 rw [wsh]; cases wsh K m m b <;> simp
section
variable {W0 W : World} {L L' : List Asn} {k : Value → World → Prop}
abbrev TB (a : Option Addr) (c r : Nat) (f : Nat → Nat → Bool) (n : Nat) : Asn := LG BOO T_bool T_s_bool a c (tbl r f n)
theorem tb_row {a : Option Addr} {c r n i : Nat} {f : Nat → Nat → Bool} (hi : i < n) (hr : i < r) (h : St W0 (TB a c r f n :: L) W) : ∃ (g o : Nat) (rows : List (GSl Bool)) (hi' : i < rows.length), a = some ⟨g, o, none⟩ ∧ rows.length = n ∧ rows.map (·.l) = tbl r f n ∧ rows[i].l = (List.range n).map (f i) ∧
  St W0 (arr GSY T_s_bool a c rows :: many (gch BOO T_bool) rows :: L) W := by
 obtain ⟨rows, hrows, h⟩ := lg_at h
 have hl : rows.length = n := by have := congrArg List.length hrows; simpa [tbl_len] using this
 obtain ⟨g, o, e⟩ := posAddr (i := i) (a := a) (A := GSY) (l := rows) h (by omega)
 refine ⟨g, o, rows, by omega, e, hl, hrows, ?_, h⟩
 have : rows[i].l = (rows.map (·.l))[i]'(by simp; omega) := by simp
 rw [this]
 simp only [hrows]
 exact tbl_row hi hr
theorem arr_same {α : Type} {A : Ly α} {e : TypeId} {a : Option Addr} {c : Nat} {l l' : List α} (h1 : A.rows l = A.rows l') (h2 : l.length = l'.length) : arr A e a c l = arr A e a c l' := by unfold arr; rw [h1, h2]
theorem gsy_set {α : Type} {e : TypeId} {a : Option Addr} {c i : Nat} {rows : List (GSl α)} (hi : i < rows.length) {x : GSl α} (hx : x.v = rows[i].v) : arr GSY e a c rows = arr GSY e a c (rows.set i x) := by
 refine arr_same ?_ (by simp)
 have key : ∀ l : List (GSl α), GSY.rows l = l.map (·.v) := fun l => by rw [List.map_eq_flatMap]; rfl
 rw [key, key, List.map_set, hx]
 apply List.ext_getElem
 ·simp
 ·intro j h1 h2
  rw [List.getElem_set]
  by_cases e : i = j
  ·subst e; simp
  ·rw [if_neg e]
theorem tb_ld {n i u g o c : Nat} {f : Nat → Nat → Bool} {rows : List (GSl Bool)} (hi : i < rows.length) (hrow : rows[i].l = (List.range n).map (f i)) (hu : u < n) (h : St W0 (arr GSY T_s_bool (some ⟨g, o, none⟩) c rows :: many (gch BOO T_bool) rows :: L) W) {k : Value → World → Prop} (hk : k (.bool (f i u)) W) :
  okF (idxS 1 (.slice rows[i].a rows[i].l.length rows[i].c) (.int .i64 (u : Int))) fun p => rdK PR (Instr.loadAt T_bool p) k W := by
 have hul : u < rows[i].l.length := by rw [hrow]; simpa using hu
 have h := St.wk (L' := many (gch BOO T_bool) rows :: arr GSY T_s_bool (some ⟨g, o, none⟩) c rows :: L) h
 haveI hrd := gch_rd (W0 := W0) (A := BOO) (t := T_bool) (L := arr GSY T_s_bool (some ⟨g, o, none⟩) c rows :: L) (List.getElem_mem hi)
 refine ixA (i := u) (a := rows[i].a) (l := rows[i].l) (A := BOO) h rfl rfl hul fun g2 o2 ha => ?_
 rw [ha] at hrd
 refine ldA0 (i := u) (l := rows[i].l) (A := BOO) h rfl hul (v := .bool (f i u)) ?_ (by simp) hk
 simp only [hrow, List.getElem_map, List.getElem_range]
 rfl
theorem tb_st {n i u g o c r : Nat} {f : Nat → Nat → Bool} {rows : List (GSl Bool)} {v : Bool} (hi : i < rows.length) (hr : i < r) (hrows : rows.map (·.l) = tbl r f n) (hrow : rows[i].l = (List.range n).map (f i)) (hu : u < n) (h : St W0 (arr GSY T_s_bool (some ⟨g, o, none⟩) c rows :: many (gch BOO T_bool) rows :: L) W) {k : Unit → World → Prop}
  (hk : ∀ W', St W0 (TB (some ⟨g, o, none⟩) c r (fun a b => if a = i ∧ b = u then v else f a b) n :: L) W' → k () W') :
  okF (idxS 1 (.slice rows[i].a rows[i].l.length rows[i].c) (.int .i64 (u : Int))) fun p => efK PR (Instr.storeAt T_bool p (.bool v)) k W := by
 have hul : u < rows[i].l.length := by rw [hrow]; simpa using hu
 have h := St.wk (L' := many (gch BOO T_bool) rows :: arr GSY T_s_bool (some ⟨g, o, none⟩) c rows :: L) h
 have h := h.ent (gch_pick rows hi)
 refine ixA (i := u) (a := rows[i].a) (l := rows[i].l) (A := BOO) h rfl rfl hul fun g5 o5 ha => ?_
 have h : St W0 (arr BOO T_bool rows[i].a rows[i].c rows[i].l :: many (gch BOO T_bool) (rows.take i ++ rows.drop (i + 1)) :: arr GSY T_s_bool (some ⟨g, o, none⟩) c rows :: L) W := h
 rw [ha] at h
 refine stGb hul h fun W7 h => ?_
 rw [← ha] at h
 have h : St W0 (gch BOO T_bool ⟨rows[i].a, rows[i].c, rows[i].l.set u v⟩ :: many (gch BOO T_bool) (rows.take i ++ rows.drop (i + 1)) :: arr GSY T_s_bool (some ⟨g, o, none⟩) c rows :: L) W7 := h
 have h := h.ent (gch_place rows hi ⟨rows[i].a, rows[i].c, rows[i].l.set u v⟩)
 rw [gsy_set hi (x := ⟨rows[i].a, rows[i].c, rows[i].l.set u v⟩) (by simp)] at h
 have h := St.wk (L' := arr GSY T_s_bool (some ⟨g, o, none⟩) c (rows.set i ⟨rows[i].a, rows[i].c, rows[i].l.set u v⟩) :: many (gch BOO T_bool) (rows.set i ⟨rows[i].a, rows[i].c, rows[i].l.set u v⟩) :: L) h
 exact hk _ (h.ent (lg_ent (by rw [List.map_set, hrows, hrow, tbl_set hr])))
def gW (K : List Ins) (m i u : Nat) (a b : Nat) : Bool := if a < i ∨ (a = i ∧ b < u) then wsh K (m + 1) a b else wsh K m a b
theorem gW_col {K : List Ins} {m i u a : Nat} : gW K m i u a m = wsh K m a m := by unfold gW; rw [wsh_col]; simp
theorem gW_row {K : List Ins} {m i u b : Nat} : gW K m i u m b = wsh K m m b := by unfold gW; rw [wsh_row]; simp
set_option maxRecDepth 100000 in
set_option maxHeartbeats 4000000 in
theorem rTable {a : Option Addr} {c : Nat} {l : List Ins} (hd : ∀ x ∈ l, 0 ≤ x.d.rep ∧ x.d.rep < 7) (h : St W0 L W) [hr : Rd W0 L a INS l] (hl : l.length ≤ 1000)
  (hk : ∀ a' c' W', St W0 (TB a' c' l.length (tab l) l.length :: L) W' → k (.slice a' l.length c') W') : callK PR F_rostrumref18_table [.slice a l.length c] k W := by
 apply S.rostrumref18_table.call
 unfold S.rostrumref18_table.body
 (repeat simp -implicitDefEqProofs only [SE, SU, SV])
 refine mkS (A := GSY) (⟨none, 0, []⟩ : GSl Bool) l.length h rfl rfl (by omega) (by omega) fun ta tc W1 h => ?_
 rw [List.length_replicate]
 have h : St W0 (TB ta tc 0 (t0 l) l.length :: L) W1 := (h.ent (ent.cons _ (gch_none (A := BOO) (t := T_bool) l.length))).ent (lg_ent (by simp [tbl]; apply List.ext_getElem <;> simp))
 refine joinK_i ?_
 refine loop_c (σ := Unit) l.length (fun i _ => [.slice a l.length c, .slice ta l.length tc, .int .i64 (i : Int)]) (fun i _ W1 => St W0 (TB ta tc i (t0 l) l.length :: L) W1) () rfl h ?_
 clear h
 rintro K i _ W2 hi h hK
 simp -implicitDefEqProofs only [SE, SU, SV]
 unfold S.rostrumref18_table.l4
 have ew : IntKind.i64.wrap ((i : Int) + 1) = ((i + 1 : Nat) : Int) := by rw [i64w]; omega
 by_cases hlt : (i : Int) < (l.length : Int)
 ·have hib : i < l.length := by omega
  (repeat simp -implicitDefEqProofs only [SE, SU, SV, hlt])
  refine joinK_i ?_
  skip
  refine mkB h (by omega) fun ra rc W3 h => ?_
  obtain ⟨rows, hrows, h⟩ := lg_at (St.wk (L' := TB ta tc i (t0 l) l.length :: arr BOO T_bool ra rc (List.replicate l.length false) :: L) h)
  have hrl : rows.length = l.length := by have := congrArg List.length hrows; simpa [tbl_len] using this
  have hir : i < rows.length := by omega
  obtain ⟨g, o, e⟩ := posAddr (i := i) (a := ta) (A := GSY) (l := rows) h hir
  subst e
  have e1 : (List.replicate l.length false).length = l.length := List.length_replicate
  have h := h.ent (ent.cons _ (gch_pick rows hir))
  (repeat simp -implicitDefEqProofs only [SE, SU, SV, ix2 hib])
  have h := St.wk (L' := arr GSY T_s_bool (some ⟨g, o, none⟩) tc rows :: gch BOO T_bool ⟨ra, rc, List.replicate l.length false⟩ :: many (gch BOO T_bool) (rows.take i ++ rows.drop (i + 1)) :: L) h
  refine stA (i := i) (x := (⟨ra, rc, List.replicate l.length false⟩ : GSl Bool)) (l := rows) (A := GSY) h rfl hir (by simp [GSY, vcells]) fun W4 h => ?_
  have h := (h.ent (ent.cons _ (gch_place rows hir ⟨ra, rc, List.replicate l.length false⟩))).ent (lg_ent (vs := tbl (i + 1) (fun a b => if a = i then false else t0 l a b) l.length) (by rw [List.map_set, hrows, tbl_new hib]))
  refine loop_c (σ := Unit) l.length (fun u _ => [.slice a l.length c, .slice (some ⟨g, o, none⟩) l.length tc, .int .i64 (i : Int), .int .i64 (u : Int)])
   (fun u _ W1 => St W0 (TB (some ⟨g, o, none⟩) tc (i + 1) (fun a b => if a = i ∧ u ≤ b then false else t0 l a b) l.length :: L) W1) () rfl (by
    have e : (fun a b => if a = i ∧ 0 ≤ b then false else t0 l a b) = fun a b => if a = i then false else t0 l a b := by funext a b; simp
    rw [e]; exact h) ?_
  clear h
  rintro K2 u _ W5 hu h hK2
  simp -implicitDefEqProofs only [SE, SU, SV]
  unfold S.rostrumref18_table.l5
  have ew2 : IntKind.i64.wrap ((u : Int) + 1) = ((u + 1 : Nat) : Int) := by rw [i64w]; omega
  by_cases hlt2 : (u : Int) < (l.length : Int)
  ·have hub : u < l.length := by omega
   obtain ⟨g2, o2, rows, hir, e, hrl, hrows, hrow, h⟩ := tb_row hib (by omega) h
   cases e
   (repeat simp -implicitDefEqProofs only [SE, SU, SV, hlt2, ix2 hib])
   refine ldH hir (by first | assumption | exact St.tick (by assumption) | exact St.tick (St.tick (by assumption))) ?_
   refine ixA (i := i) (a := a) (l := l) (A := INS) (by first | assumption | exact St.tick (by assumption) | exact St.tick (St.tick (by assumption))) rfl rfl hib fun g3 o3 ha => ?_
   cases ha
   refine ldA0 (i := i) (l := l) (A := INS) (by first | assumption | exact St.tick (by assumption) | exact St.tick (St.tick (by assumption))) rfl hib (v := .agg (INS.row l[i]).toArray) rfl (by simp [INS]) ?_
   skip
   refine ixA (i := u) (a := some ⟨g3, o3, none⟩) (l := l) (A := INS) (by first | assumption | exact St.tick (by assumption) | exact St.tick (St.tick (by assumption))) rfl rfl hub fun g4 o4 ha => ?_
   cases ha
   (repeat simp -implicitDefEqProofs only [SE, SU, SV])
   refine ldA0 (i := u) (l := l) (A := INS) (by first | assumption | exact St.tick (by assumption) | exact St.tick (St.tick (by assumption))) rfl hub (v := .agg #[.int .i64 (l[u].d).rep, .int .i64 (l[u].d).n]) rfl (by simp [INS]) ?_
   obtain ⟨d1, d2⟩ := hd _ (List.getElem_mem hub)
   refine rHangs (x := l[i]) (d := l[u].d) d1 d2 (by first | assumption | exact St.tick (by assumption) | exact St.tick (St.tick (by assumption))) fun W6 h => ?_
   refine stb_ldA0 (i := i) (l := rows) (A := GSY) h rfl hir (v := rows[i].v) rfl (by simp) ?_
   (repeat ((with_reducible refine stb_n ?_); intros))
   refine tb_st hir (by omega) hrows hrow hub h fun W7 h => ?_
   (repeat simp -implicitDefEqProofs only [SE, SU, SV, ew2])
   refine hK2 () _ hub ?_
   have e : tbl (i + 1) (fun a b => if a = i ∧ u + 1 ≤ b then false else t0 l a b) l.length = tbl (i + 1) (fun a b => if a = i ∧ b = u then hgB l[i] l[u].d else if a = i ∧ u ≤ b then false else t0 l a b) l.length := tbl_congr fun a b _ _ _ => by
    by_cases ea : a = i ∧ b = u
    ·rw [if_pos ea, ea.1, ea.2, if_neg (show ¬ (i = i ∧ u + 1 ≤ u) by omega), t0, gd_at hib, gd_at hub]
    ·have : (a = i ∧ u + 1 ≤ b) ↔ (a = i ∧ u ≤ b) := by omega
     rw [if_neg ea]
     simp only [this]
   unfold TB
   rw [e]; exact h
  ·have hu2 : u = l.length := by omega
   subst hu2
   (repeat simp -implicitDefEqProofs only [SE, SU, SV, hlt2])
   unfold S.rostrumref18_table.j5
   (repeat simp -implicitDefEqProofs only [SE, SU, SV, ew])
   refine hK () _ hib ?_
   have e : tbl (i + 1) (t0 l) l.length = tbl (i + 1) (fun a b => if a = i ∧ l.length ≤ b then false else t0 l a b) l.length := tbl_congr fun a b _ _ hb => by rw [if_neg (by omega)]
   unfold TB
   rw [e]; exact h
 ·have hi2 : i = l.length := by omega
  subst hi2
  (repeat simp -implicitDefEqProofs only [SE, SU, SV, hlt])
  unfold S.rostrumref18_table.j1
  refine joinK_i ?_
  have h : St W0 (TB ta tc l.length (wsh l 0) l.length :: L) W2 := h
  refine loop_c (σ := Unit) l.length (fun m _ => [.slice a l.length c, .slice ta l.length tc, .int .i64 (m : Int)]) (fun m _ W1 => St W0 (TB ta tc l.length (wsh l m) l.length :: L) W1) () rfl h ?_
  clear h hK
  rintro K m _ W3 hm h hK
  simp -implicitDefEqProofs only [SE, SU, SV]
  unfold S.rostrumref18_table.l1
  have ewm : IntKind.i64.wrap ((m : Int) + 1) = ((m + 1 : Nat) : Int) := by rw [i64w]; omega
  by_cases hltm : (m : Int) < (l.length : Int)
  ·have hmb : m < l.length := by omega
   (repeat simp -implicitDefEqProofs only [SE, SU, SV, hltm])
   refine joinK_i ?_
   refine loop_c (σ := Unit) l.length (fun i _ => [.slice a l.length c, .slice ta l.length tc, .int .i64 (m : Int), .int .i64 (i : Int)]) (fun i _ W1 => St W0 (TB ta tc l.length (gW l m i 0) l.length :: L) W1) () rfl (by
    have e : gW l m 0 0 = wsh l m := by funext a b; simp [gW]
    rw [e]; exact h) ?_
   clear h
   rintro K2 i _ W4 hi h hK2
   simp -implicitDefEqProofs only [SE, SU, SV]
   unfold S.rostrumref18_table.l2
   have ewi : IntKind.i64.wrap ((i : Int) + 1) = ((i + 1 : Nat) : Int) := by rw [i64w]; omega
   by_cases hlti : (i : Int) < (l.length : Int)
   ·have hib : i < l.length := by omega
    (repeat simp -implicitDefEqProofs only [SE, SU, SV, hlti])
    refine joinK_i ?_
    refine loop_c (σ := Unit) l.length (fun u _ => [.slice a l.length c, .slice ta l.length tc, .int .i64 (m : Int), .int .i64 (i : Int), .int .i64 (u : Int)]) (fun u _ W1 => St W0 (TB ta tc l.length (gW l m i u) l.length :: L) W1) () rfl h ?_
    clear h
    rintro K3 u _ W5 hu h hK3
    simp -implicitDefEqProofs only [SE, SU, SV]
    unfold S.rostrumref18_table.l3
    have ewu : IntKind.i64.wrap ((u : Int) + 1) = ((u + 1 : Nat) : Int) := by rw [i64w]; omega
    by_cases hltu : (u : Int) < (l.length : Int)
    ·have hub : u < l.length := by omega
     obtain ⟨g, o, rows, hir, e, hrl, hrows, hrow, h⟩ := tb_row hib hib h
     subst e
     have hmr : m < rows.length := by omega
     have hrowm : rows[m].l = (List.range l.length).map (gW l m i u m) := by
      have : rows[m].l = (rows.map (·.l))[m]'(by simp; omega) := by simp
      rw [this]
      simp only [hrows]
      exact tbl_row hmb hmb
     (repeat simp -implicitDefEqProofs only [SE, SU, SV, hltu, ix2 hib])
     refine ldH hir (by first | assumption | exact St.tick (by assumption) | exact St.tick (St.tick (by assumption))) ?_
     refine tb_ld hir hrow hmb (by first | assumption | exact St.tick (by assumption) | exact St.tick (St.tick (by assumption))) ?_
     rw [gW_col]
     cases hb : wsh l m i m with
     | false =>
      (repeat simp -implicitDefEqProofs only [SE, SU, SV])
      unfold S.rostrumref18_table.j4
      (repeat simp -implicitDefEqProofs only [SE, SU, SV, ewi])
      refine hK2 () _ hib ?_
      have e : tbl l.length (gW l m (i + 1) 0) l.length = tbl l.length (gW l m i u) l.length := tbl_congr fun a b _ _ _ => by
       unfold gW
       by_cases ea : a = i
       ·subst ea
        have : wsh l (m + 1) a b = wsh l m a b := by rw [wsh, hb]; simp
        rw [this]; simp
       ·have : (a < i + 1 ∨ (a = i + 1 ∧ b < 0)) ↔ (a < i ∨ (a = i ∧ b < u)) := by omega
        simp only [this]
      unfold TB
      rw [e]; exact St.ent (by first | assumption | exact St.tick (by assumption) | exact St.tick (St.tick (by assumption))) (lg_ent hrows)
     | true =>
      have fin : ∀ W', St W0 (TB (some ⟨g, o, none⟩) tc l.length (fun a b => if a = i ∧ b = u then wsh l (m + 1) i u else gW l m i u a b) l.length :: L) W' → K3 [.slice a l.length c, .slice (some ⟨g, o, none⟩) l.length tc, .int .i64 (m : Int), .int .i64 (i : Int), .int .i64 ((u + 1 : Nat) : Int)] W' := fun W' h => hK3 () W' hub (by
       have e : tbl l.length (gW l m i (u + 1)) l.length = tbl l.length (fun a b => if a = i ∧ b = u then wsh l (m + 1) i u else gW l m i u a b) l.length := tbl_congr fun a b _ _ _ => by
        unfold gW
        by_cases ea : a = i ∧ b = u
        ·rw [if_pos ea, if_pos (by omega), ea.1, ea.2]
        ·rw [if_neg ea]
         have : (a < i ∨ (a = i ∧ b < u + 1)) ↔ (a < i ∨ (a = i ∧ b < u)) := by omega
         simp only [this]
       unfold TB
       rw [e]; exact h)
      (repeat simp -implicitDefEqProofs only [SE, SU, SV, ix2 hib])
      refine ldH hir (by first | assumption | exact St.tick (by assumption) | exact St.tick (St.tick (by assumption))) ?_
      skip
      refine ldH hir (by first | assumption | exact St.tick (by assumption) | exact St.tick (St.tick (by assumption))) ?_
      refine tb_ld hir hrow hub (by first | assumption | exact St.tick (by assumption) | exact St.tick (St.tick (by assumption))) ?_
      have e0 : gW l m i u i u = wsh l m i u := by unfold gW; simp
      have e1 : wsh l (m + 1) i u = (wsh l m i u || wsh l m m u) := by rw [wsh, hb]; simp
      rw [e0]
      cases hb2 : wsh l m i u with
      | true =>
       rw [hb2, Bool.true_or] at e1
       rw [e1] at fin
       (repeat simp -implicitDefEqProofs only [SE, SU, SV])
       refine tb_st hir hib hrows hrow hub (by first | assumption | exact St.tick (by assumption) | exact St.tick (St.tick (by assumption))) fun W7 h => ?_
       (repeat simp -implicitDefEqProofs only [SE, SU, SV, ewu])
       exact fin _ h
      | false =>
       rw [hb2, Bool.false_or] at e1
       rw [e1] at fin
       (repeat simp -implicitDefEqProofs only [SE, SU, SV, ix2 hmb])
       refine ldH hmr (by first | assumption | exact St.tick (by assumption) | exact St.tick (St.tick (by assumption))) ?_
       refine tb_ld hmr hrowm hub (by first | assumption | exact St.tick (by assumption) | exact St.tick (St.tick (by assumption))) ?_
       rw [gW_row]
       skip
       refine tb_st hir hib hrows hrow hub (by first | assumption | exact St.tick (by assumption) | exact St.tick (St.tick (by assumption))) fun W7 h => ?_
       (repeat simp -implicitDefEqProofs only [SE, SU, SV, ewu])
       exact fin _ h
    ·have hu2 : u = l.length := by omega
     subst hu2
     (repeat simp -implicitDefEqProofs only [SE, SU, SV, hltu])
     unfold S.rostrumref18_table.j4
     (repeat simp -implicitDefEqProofs only [SE, SU, SV, ewi])
     refine hK2 () _ hib ?_
     have e : tbl l.length (gW l m (i + 1) 0) l.length = tbl l.length (gW l m i l.length) l.length := tbl_congr fun a b _ _ hb => by
      unfold gW
      have : (a < i + 1 ∨ (a = i + 1 ∧ b < 0)) ↔ (a < i ∨ (a = i ∧ b < l.length)) := by omega
      simp only [this]
     unfold TB
     rw [e]; exact h
   ·have hi2 : i = l.length := by omega
    subst hi2
    (repeat simp -implicitDefEqProofs only [SE, SU, SV, hlti])
    unfold S.rostrumref18_table.j3
    (repeat simp -implicitDefEqProofs only [SE, SU, SV, ewm])
    refine hK () _ hmb ?_
    have e : tbl l.length (wsh l (m + 1)) l.length = tbl l.length (gW l m l.length 0) l.length := tbl_congr fun a b _ ha _ => by
     unfold gW; rw [if_pos (.inl ha)]
    unfold TB
    rw [e]; exact h
  ·have hm2 : m = l.length := by omega
   subst hm2
   (repeat simp -implicitDefEqProofs only [SE, SU, SV, hltm])
   unfold S.rostrumref18_table.j2
   exact hk _ _ _ h
end
end Go.Proofs.YtkjhccpanedccaaGreat
