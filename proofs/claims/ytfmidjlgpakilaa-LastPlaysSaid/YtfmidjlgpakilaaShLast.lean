import Derived.Test.YtfmidjlgpakilaaBase
namespace Go.Proofs.Ytfmidjlgpakilaa
set_option linter.unusedVariables false
set_option linter.unusedSimpArgs false
open Go.Eng
/-! ### rostrum/last.New (13) -/
def S.last_New.body (R : Value → World → Prop) (W : World) : Prop :=
  okF (bldP (fun i => ([(0, 1), (1, 1), (2, 1), (3, 2)] : List (Nat × Nat))[i]?) [.bool false, .string ⟨#[]⟩, .int .i64 0, .int .i64 0, .int .i64 0] []) fun v1 =>
  efK PR (Instr.box T_last_Last v1) (fun v2 W =>
  R v2 W) W
def S.last_New.hint : Hint := (.two .nil (.two .nil .nil))
theorem S.last_New.ok (R : Value → World → Prop) (W : World) : bodyK PR CB Try.f13 S.last_New.hint [] R W = S.last_New.body R  W := by kernel_rfl
theorem S.last_New.fn : PR.funcs[F_last_New]? = some Try.f13 := by kernel_rfl
theorem S.last_New.call {R : Value → World → Prop} {W : World} (h : S.last_New.body R  W) : callK PR F_last_New [] R W :=
  callK_of_body (g := F_last_New) (fn := Try.f13) (args := []) (R := R) (w := W) mixed CBok S.last_New.fn S.last_New.hint (by rw [S.last_New.ok]; exact h)
/-! ### (*rostrum/last.Last).Write (14) -/
def S.last_Last_Write.body (R : Value → World → Prop) (v0 v1 v2 v3 : Value) (W : World) : Prop :=
  efK PR (Instr.box T_api_Dot v3) (fun v7 W =>
  okF (lenP .string v1) fun v12 =>
  okF (binP .gtr v12 (.int .i64 100)) fun v13 =>
  gdK (wantd v13 false) (fun k W => k v2 W) (fun v15 W =>
  gdK (wantd v13 false) (fun k W => okF (binP .lss v15 (.int .i64 0)) fun v => k v W) (fun v16 W =>
  okF (pickP v13 (.bool true) v16) fun v17 =>
  gdK (wantd v17 false) (fun k W => k v2 W) (fun v19 W =>
  gdK (wantd v17 false) (fun k W => okF (binP .gtr v19 (.int .i64 1099511627776)) fun v => k v W) (fun v20 W =>
  okF (pickP v17 (.bool true) v20) fun v21 =>
  gdK (wantd v21 false) (fun k W => rdK PR (Instr.loadAt T_api_Dot v7) k W) (fun v23 W =>
  gdK (wantd v21 false) (fun k W => callK PR F_vec_Dot [v23] k W) (fun v24 W =>
  gdK (wantd v21 false) (fun k W => okF (unP .not v24) fun v => k v W) (fun v25 W =>
  okF (pickP v21 (.bool true) v25) fun v26 =>
  ifK v26 (
  R (.tuple #[(.bool false), (.int .i64 1)]) W) (
  okF (nilP v0) fun v29 =>
  okF (addrF 2 v29) fun v30 =>
  rdK PR (Instr.loadAt T_int64 v30) (fun v31 W =>
  rdK PR (Instr.loadAt T_api_Dot v7) (fun v33 W =>
  okF (nilP v0) fun v35 =>
  okF (addrF 3 v35) fun v36 =>
  rdK PR (Instr.loadAt T_api_Dot v36) (fun v37 W =>
  callK PR F_cmp_Compare_int64 [v2, v31] (fun v32 W =>
  stb PR [(10, true, (Instr.loadAt T_api_Dot v36), v37), (6, true, (Instr.loadAt T_api_Dot v7), v33)] (fun W =>
  callK PR F_dots_Order [v33, v37] (fun v38 W =>
  efK PR (Instr.buildSlice T_s_int 2 #[(0, v32), (1, v38)]) (fun v39 W =>
  callK PR F_cmp_Or_int [v39] (fun v40 W =>
  okF (nilP v0) fun v43 =>
  okF (addrF 0 v43) fun v44 =>
  rdK PR (Instr.loadAt T_bool v44) (fun v45 W =>
  gdK (wantd v45 true) (fun k W => k v40 W) (fun v47 W =>
  gdK (wantd v45 true) (fun k W => okF (binP .lss v47 (.int .i64 0)) fun v => k v W) (fun v48 W =>
  okF (pickP v45 v48 (.bool false)) fun v49 =>
  ifK v49 (
  R (.tuple #[(.bool false), (.int .i64 0)]) W) (
  okF (nilP v0) fun v52 =>
  okF (addrF 0 v52) fun v53 =>
  rdK PR (Instr.loadAt T_bool v53) (fun v54 W =>
  gdK (wantd v54 true) (fun k W => k v40 W) (fun v56 W =>
  gdK (wantd v54 true) (fun k W => okF (binP .eql v56 (.int .i64 0)) fun v => k v W) (fun v57 W =>
  okF (pickP v54 v57 (.bool false)) fun v58 =>
  ifK v58 (
  okF (nilP v0) fun v61 =>
  okF (addrF 1 v61) fun v62 =>
  rdK PR (Instr.loadAt T_string v62) (fun v63 W =>
  okF (binP .neq v1 v63) fun v64 =>
  ifK v64 (
  R (.tuple #[(.bool false), (.int .i64 5)]) W) (
  R (.tuple #[(.bool false), (.int .i64 0)]) W)) W) (
  rdK PR (Instr.loadAt T_api_Dot v7) (fun v68 W =>
  okF (bldP (fun i => ([(0, 1), (1, 1), (2, 1), (3, 2)] : List (Nat × Nat))[i]?) [.bool false, .string ⟨#[]⟩, .int .i64 0, .int .i64 0, .int .i64 0] [(0, (.bool true)), (1, v1), (2, v2), (3, v68)]) fun v69 =>
  okF (nilP v0) fun v70 =>
  efK PR (Instr.storeAt T_last_Last v70 v69) (fun _ W =>
  R (.tuple #[(.bool true), (.int .i64 0)]) W) W) W)) W) W) W)) W) W) W) W) W) W) W) W) W) W) (tick W))) W) W) W) W) W) W) W) W
def S.last_Last_Write.hint : Hint := (.two .nil (.two (.two .nil (.two (.two .nil .nil) .nil)) (.two .nil (.two (.two .nil (.two (.two .nil .nil) (.two .nil (.two (.two (.two .nil (.two (.two .nil .nil) .nil)) (.two .nil .nil)) .nil)))) (.two .nil (.two .nil .nil))))))
theorem S.last_Last_Write.ok (R : Value → World → Prop) (v0 v1 v2 v3 : Value) (W : World) : bodyK PR CB Try.f14 S.last_Last_Write.hint [v0, v1, v2, v3] R W = S.last_Last_Write.body R v0 v1 v2 v3 W := by kernel_rfl
theorem S.last_Last_Write.fn : PR.funcs[F_last_Last_Write]? = some Try.f14 := by kernel_rfl
theorem S.last_Last_Write.call {R : Value → World → Prop} {v0 v1 v2 v3 : Value} {W : World} (h : S.last_Last_Write.body R v0 v1 v2 v3 W) : callK PR F_last_Last_Write [v0, v1, v2, v3] R W :=
  callK_of_body (g := F_last_Last_Write) (fn := Try.f14) (args := [v0, v1, v2, v3]) (R := R) (w := W) mixed CBok S.last_Last_Write.fn S.last_Last_Write.hint (by rw [S.last_Last_Write.ok]; exact h)
/-! ### rostrum/last.Same (15) -/
def S.last_Same.body (R : Value → World → Prop) (v0 v1 : Value) (W : World) : Prop :=
  okF (nilP v0) fun v6 =>
  rdK PR (Instr.loadAt T_last_Last v6) (fun v7 W =>
  okF (nilP v1) fun v9 =>
  rdK PR (Instr.loadAt T_last_Last v9) (fun v10 W =>
  rdK PR (aggEq .eql T_last_Last v7 v10) (fun v11 W =>
  R v11 W) W) W) (tick W)
def S.last_Same.hint : Hint := (.two .nil (.two .nil .nil))
theorem S.last_Same.ok (R : Value → World → Prop) (v0 v1 : Value) (W : World) : bodyK PR CB Try.f15 S.last_Same.hint [v0, v1] R W = S.last_Same.body R v0 v1 W := by kernel_rfl
theorem S.last_Same.fn : PR.funcs[F_last_Same]? = some Try.f15 := by kernel_rfl
theorem S.last_Same.call {R : Value → World → Prop} {v0 v1 : Value} {W : World} (h : S.last_Same.body R v0 v1 W) : callK PR F_last_Same [v0, v1] R W :=
  callK_of_body (g := F_last_Same) (fn := Try.f15) (args := [v0, v1]) (R := R) (w := W) mixed CBok S.last_Same.fn S.last_Same.hint (by rw [S.last_Same.ok]; exact h)
/-! ### (*rostrum/last.Last).Value (16) -/
def S.last_Last_Value.body (R : Value → World → Prop) (v0 : Value) (W : World) : Prop :=
  okF (nilP v0) fun v5 =>
  okF (addrF 1 v5) fun v6 =>
  rdK PR (Instr.loadAt T_string v6) (fun v7 W =>
  okF (nilP v0) fun v9 =>
  okF (addrF 0 v9) fun v10 =>
  rdK PR (Instr.loadAt T_bool v10) (fun v11 W =>
  R (.tuple #[v7, v11]) W) W) (tick W)
def S.last_Last_Value.hint : Hint := (.two .nil (.two .nil .nil))
theorem S.last_Last_Value.ok (R : Value → World → Prop) (v0 : Value) (W : World) : bodyK PR CB Try.f16 S.last_Last_Value.hint [v0] R W = S.last_Last_Value.body R v0 W := by kernel_rfl
theorem S.last_Last_Value.fn : PR.funcs[F_last_Last_Value]? = some Try.f16 := by kernel_rfl
theorem S.last_Last_Value.call {R : Value → World → Prop} {v0 : Value} {W : World} (h : S.last_Last_Value.body R v0 W) : callK PR F_last_Last_Value [v0] R W :=
  callK_of_body (g := F_last_Last_Value) (fn := Try.f16) (args := [v0]) (R := R) (w := W) mixed CBok S.last_Last_Value.fn S.last_Last_Value.hint (by rw [S.last_Last_Value.ok]; exact h)
/-! ### (*rostrum/last.Last).When (17) -/
def S.last_Last_When.body (R : Value → World → Prop) (v0 : Value) (W : World) : Prop :=
  efK PR (Instr.alloc T_api_Dot true (.tuple #[])) (fun v3 W =>
  okF (nilP v0) fun v5 =>
  okF (addrF 2 v5) fun v6 =>
  rdK PR (Instr.loadAt T_int64 v6) (fun v7 W =>
  okF (nilP v0) fun v9 =>
  okF (addrF 3 v9) fun v10 =>
  rdK PR (Instr.loadAt T_api_Dot v10) (fun v11 W =>
  efK PR (Instr.storeAt T_api_Dot v3 v11) (fun _ W =>
  rdK PR (Instr.loadAt T_api_Dot v3) (fun r1 W =>
  R (.tuple #[v7, r1]) W) W) W) W) (tick W)) W
def S.last_Last_When.hint : Hint := (.two .nil (.two .nil .nil))
theorem S.last_Last_When.ok (R : Value → World → Prop) (v0 : Value) (W : World) : bodyK PR CB Try.f17 S.last_Last_When.hint [v0] R W = S.last_Last_When.body R v0 W := by kernel_rfl
theorem S.last_Last_When.fn : PR.funcs[F_last_Last_When]? = some Try.f17 := by kernel_rfl
theorem S.last_Last_When.call {R : Value → World → Prop} {v0 : Value} {W : World} (h : S.last_Last_When.body R v0 W) : callK PR F_last_Last_When [v0] R W :=
  callK_of_body (g := F_last_Last_When) (fn := Try.f17) (args := [v0]) (R := R) (w := W) mixed CBok S.last_Last_When.fn S.last_Last_When.hint (by rw [S.last_Last_When.ok]; exact h)
/-! ### rostrum/rostrumlaw11.awake (12) -/
def S.rostrumlaw11_awake.body (R : Value → World → Prop) (W : World) : Prop :=
  callK PR F_last_New [] (fun v8 W =>
  okF (eqP (.pointer T_last_Last) .eql v8 (.pointer none)) fun v10 =>
  ifK v10 (
  R (.bool false) W) (
  okF (bldP (fun i => ([(0, 1), (1, 1)] : List (Nat × Nat))[i]?) [.int .i64 0, .int .i64 0] [(1, (.int .i64 1))]) fun v13 =>
  callK PR F_last_Last_Write [v8, (.string ⟨#[97]⟩), (.int .i64 5), v13] (fun v14 W =>
  okF (extP 0 v14) fun v15 =>
  okF (extP 1 v14) fun v16 =>
  okF (bldP (fun i => ([(0, 1), (1, 1)] : List (Nat × Nat))[i]?) [.int .i64 0, .int .i64 0] [(0, (.int .i64 1)), (1, (.int .i64 1))]) fun v19 =>
  callK PR F_last_Last_Write [v8, (.string ⟨#[98]⟩), (.int .i64 3), v19] (fun v20 W =>
  okF (extP 0 v20) fun v21 =>
  okF (extP 1 v20) fun v22 =>
  callK PR F_last_Last_Value [v8] (fun v25 W =>
  okF (extP 0 v25) fun v26 =>
  okF (extP 1 v25) fun v27 =>
  gdK (wantd v15 true) (fun k W => k v16 W) (fun v30 W =>
  gdK (wantd v15 true) (fun k W => okF (binP .eql v30 (.int .i64 0)) fun v => k v W) (fun v31 W =>
  okF (pickP v15 v31 (.bool false)) fun v32 =>
  gdK (wantd v32 true) (fun k W => k v21 W) (fun v34 W =>
  gdK (wantd v32 true) (fun k W => okF (unP .not v34) fun v => k v W) (fun v35 W =>
  okF (pickP v32 v35 (.bool false)) fun v36 =>
  gdK (wantd v36 true) (fun k W => k v22 W) (fun v38 W =>
  gdK (wantd v36 true) (fun k W => okF (binP .eql v38 (.int .i64 0)) fun v => k v W) (fun v39 W =>
  okF (pickP v36 v39 (.bool false)) fun v40 =>
  gdK (wantd v40 true) (fun k W => k v27 W) (fun v42 W =>
  okF (pickP v40 v42 (.bool false)) fun v43 =>
  gdK (wantd v43 true) (fun k W => k v26 W) (fun v45 W =>
  gdK (wantd v43 true) (fun k W => okF (binP .eql v45 (.string ⟨#[97]⟩)) fun v => k v W) (fun v46 W =>
  okF (pickP v43 v46 (.bool false)) fun v47 =>
  R v47 W) W) W) W) W) W) W) W) W) W) W) W) W)) W
def S.rostrumlaw11_awake.hint : Hint := (.two .nil (.two .nil (.two (.two .nil (.two (.two .nil .nil) .nil)) (.two .nil (.two .nil (.two .nil (.two .nil .nil)))))))
theorem S.rostrumlaw11_awake.ok (R : Value → World → Prop) (W : World) : bodyK PR CB Try.f12 S.rostrumlaw11_awake.hint [] R W = S.rostrumlaw11_awake.body R  W := by kernel_rfl
theorem S.rostrumlaw11_awake.fn : PR.funcs[F_rostrumlaw11_awake]? = some Try.f12 := by kernel_rfl
theorem S.rostrumlaw11_awake.call {R : Value → World → Prop} {W : World} (h : S.rostrumlaw11_awake.body R  W) : callK PR F_rostrumlaw11_awake [] R W :=
  callK_of_body (g := F_rostrumlaw11_awake) (fn := Try.f12) (args := []) (R := R) (w := W) mixed CBok S.rostrumlaw11_awake.fn S.rostrumlaw11_awake.hint (by rw [S.rostrumlaw11_awake.ok]; exact h)
/-! ### rostrum/last.Get (34) -/
def S.last_Get.j1 (R : Value → World → Prop) (x0 x3 : Value) (W : World) : Prop :=
  callK PR F_pack_Reader_Bad [x0] (fun v34 W =>
  ifK v34 (
  R (.pointer none) W) (
  R x3 W)) W
def S.last_Get.body (R : Value → World → Prop) (v0 : Value) (W : World) : Prop :=
  callK PR F_last_New [] (fun v4 W =>
  joinK (fun s W => S.last_Get.j1 R (nthv s 0) (nthv s 1) W) (fun J1 =>
  callK PR F_pack_Reader_Num [v0, (.int .i64 0), (.int .i64 1)] (fun v6 W =>
  okF (binP .eql v6 (.int .i64 1)) fun v7 =>
  ifK v7 (
  okF (nilP v4) fun v9 =>
  okF (addrF 0 v9) fun v10 =>
  efK PR (Instr.storeAt T_bool v10 (.bool true)) (fun _ W =>
  callK PR F_pack_Reader_Num [v0, (.int .i64 0), (.int .i64 1099511627776)] (fun v13 W =>
  okF (nilP v4) fun v14 =>
  okF (addrF 2 v14) fun v15 =>
  efK PR (Instr.storeAt T_int64 v15 v13) (fun _ W =>
  callK PR F_pack_Reader_Num [v0, (.int .i64 0), (.int .i64 6)] (fun v18 W =>
  okF (nilP v4) fun v19 =>
  okF (addrF 3 v19) fun v20 =>
  okF (addrF 0 v20) fun v21 =>
  efK PR (Instr.storeAt T_int v21 v18) (fun _ W =>
  callK PR F_pack_Reader_Num [v0, (.int .i64 1), (.int .i64 1099511627776)] (fun v24 W =>
  okF (nilP v4) fun v25 =>
  okF (addrF 3 v25) fun v26 =>
  okF (addrF 1 v26) fun v27 =>
  efK PR (Instr.storeAt T_int64 v27 v24) (fun _ W =>
  callK PR F_pack_Reader_Text [v0, (.int .i64 100)] (fun v30 W =>
  okF (nilP v4) fun v31 =>
  okF (addrF 1 v31) fun v32 =>
  efK PR (Instr.storeAt T_string v32 v30) (fun _ W =>
  J1 [v0, v4] W) W) W) W) W) W) W) W) W) W) (
  J1 [v0, v4] W)) W)) W
def S.last_Get.hint : Hint := (.two .nil (.two .nil (.at [0, 3] (.two .nil (.two (.two .nil (.two .nil (.two .nil (.two .nil .nil)))) .nil)) (.two (.two .nil (.two (.two .nil .nil) .nil)) (.two .nil .nil)))))
theorem S.last_Get.ok (R : Value → World → Prop) (v0 : Value) (W : World) : bodyK PR CB Try.f34 S.last_Get.hint [v0] R W = S.last_Get.body R v0 W := by kernel_rfl
theorem S.last_Get.fn : PR.funcs[F_last_Get]? = some Try.f34 := by kernel_rfl
theorem S.last_Get.call {R : Value → World → Prop} {v0 : Value} {W : World} (h : S.last_Get.body R v0 W) : callK PR F_last_Get [v0] R W :=
  callK_of_body (g := F_last_Get) (fn := Try.f34) (args := [v0]) (R := R) (w := W) mixed CBok S.last_Get.fn S.last_Get.hint (by rw [S.last_Get.ok]; exact h)
/-! ### (*rostrum/last.Last).Put (35) -/
def S.last_Last_Put.body (R : Value → World → Prop) (v0 v1 : Value) (W : World) : Prop :=
  okF (nilP v0) fun v6 =>
  okF (addrF 0 v6) fun v7 =>
  rdK PR (Instr.loadAt T_bool v7) (fun v8 W =>
  okF (unP .not v8) fun v9 =>
  ifK v9 (
  callK PR F_pack_Num [v1, (.int .i64 0)] (fun v11 W =>
  R v11 W) W) (
  okF (nilP v0) fun v15 =>
  okF (addrF 2 v15) fun v16 =>
  rdK PR (Instr.loadAt T_int64 v16) (fun v17 W =>
  callK PR F_pack_Num [v1, (.int .i64 1)] (fun v13 W =>
  stb PR [(5, true, (Instr.loadAt T_int64 v16), v17)] (fun W =>
  callK PR F_pack_Num [v13, v17] (fun v18 W =>
  okF (nilP v0) fun v21 =>
  okF (addrF 3 v21) fun v22 =>
  okF (addrF 0 v22) fun v23 =>
  rdK PR (Instr.loadAt T_int v23) (fun v24 W =>
  okF (nilP v0) fun v27 =>
  okF (addrF 3 v27) fun v28 =>
  okF (addrF 1 v28) fun v29 =>
  rdK PR (Instr.loadAt T_int64 v29) (fun v30 W =>
  okF (nilP v0) fun v33 =>
  okF (addrF 1 v33) fun v34 =>
  rdK PR (Instr.loadAt T_string v34) (fun v35 W =>
  callK PR F_pack_Num [v18, v24] (fun v25 W =>
  stb PR [(16, true, (Instr.loadAt T_string v34), v35), (11, true, (Instr.loadAt T_int64 v29), v30)] (fun W =>
  callK PR F_pack_Num [v25, v30] (fun v31 W =>
  stb PR [(16, true, (Instr.loadAt T_string v34), v35)] (fun W =>
  callK PR F_pack_Text [v31, v35] (fun v36 W =>
  R v36 W) W) W) W) W) W) W) W) (tick W)) W) W) W) (tick W))) W
def S.last_Last_Put.hint : Hint := (.two .nil (.two (.two .nil (.two (.two .nil .nil) .nil)) (.two .nil (.two .nil .nil))))
theorem S.last_Last_Put.ok (R : Value → World → Prop) (v0 v1 : Value) (W : World) : bodyK PR CB Try.f35 S.last_Last_Put.hint [v0, v1] R W = S.last_Last_Put.body R v0 v1 W := by kernel_rfl
theorem S.last_Last_Put.fn : PR.funcs[F_last_Last_Put]? = some Try.f35 := by kernel_rfl
theorem S.last_Last_Put.call {R : Value → World → Prop} {v0 v1 : Value} {W : World} (h : S.last_Last_Put.body R v0 v1 W) : callK PR F_last_Last_Put [v0, v1] R W :=
  callK_of_body (g := F_last_Last_Put) (fn := Try.f35) (args := [v0, v1]) (R := R) (w := W) mixed CBok S.last_Last_Put.fn S.last_Last_Put.hint (by rw [S.last_Last_Put.ok]; exact h)
/-! ### (*rostrum/rostrumref7.Last).Write (36) -/
def S.rostrumref7_Last_Write.body (R : Value → World → Prop) (v0 v1 v2 v3 : Value) (W : World) : Prop :=
  efK PR (Instr.box T_api_Dot v3) (fun v7 W =>
  okF (lenP .string v1) fun v11 =>
  okF (binP .gtr v11 (.int .i64 100)) fun v12 =>
  gdK (wantd v12 false) (fun k W => k v2 W) (fun v14 W =>
  gdK (wantd v12 false) (fun k W => okF (binP .lss v14 (.int .i64 0)) fun v => k v W) (fun v15 W =>
  okF (pickP v12 (.bool true) v15) fun v16 =>
  gdK (wantd v16 false) (fun k W => k v2 W) (fun v18 W =>
  gdK (wantd v16 false) (fun k W => okF (binP .gtr v18 (.int .i64 1099511627776)) fun v => k v W) (fun v19 W =>
  okF (pickP v16 (.bool true) v19) fun v20 =>
  gdK (wantd v20 false) (fun k W => rdK PR (Instr.loadAt T_api_Dot v7) k W) (fun v22 W =>
  gdK (wantd v20 false) (fun k W => callK PR F_rostrumref7_May [v22] k W) (fun v23 W =>
  gdK (wantd v20 false) (fun k W => okF (unP .not v23) fun v => k v W) (fun v24 W =>
  okF (pickP v20 (.bool true) v24) fun v25 =>
  ifK v25 (
  R (.tuple #[(.bool false), (.int .i64 1)]) W) (
  okF (nilP v0) fun v27 =>
  okF (addrF 0 v27) fun v28 =>
  rdK PR (Instr.loadAt T_bool v28) (fun v29 W =>
  gdK (wantd v29 true) (fun k W => k v0 W) (fun v31 W =>
  gdK (wantd v29 true) (fun k W => okF (nilP v31) fun v => k v W) (fun v32 W =>
  gdK (wantd v29 true) (fun k W => okF (addrF 2 v32) fun v => k v W) (fun v33 W =>
  gdK (wantd v29 true) (fun k W => rdK PR (Instr.loadAt T_int64 v33) k W) (fun v34 W =>
  gdK (wantd v29 true) (fun k W => k v2 W) (fun v35 W =>
  gdK (wantd v29 true) (fun k W => okF (binP .eql v34 v35) fun v => k v W) (fun v36 W =>
  okF (pickP v29 v36 (.bool false)) fun v37 =>
  gdK (wantd v37 true) (fun k W => k v0 W) (fun v39 W =>
  gdK (wantd v37 true) (fun k W => okF (nilP v39) fun v => k v W) (fun v40 W =>
  gdK (wantd v37 true) (fun k W => okF (addrF 3 v40) fun v => k v W) (fun v41 W =>
  gdK (wantd v37 true) (fun k W => rdK PR (Instr.loadAt T_api_Dot v41) k W) (fun v42 W =>
  gdK (wantd v37 true) (fun k W => rdK PR (Instr.loadAt T_api_Dot v7) k W) (fun v43 W =>
  gdK (wantd v37 true) (fun k W => rdK PR (aggEq .eql T_api_Dot v42 v43) k W) (fun v44 W =>
  okF (pickP v37 v44 (.bool false)) fun v45 =>
  gdK (wantd v45 true) (fun k W => k v0 W) (fun v47 W =>
  gdK (wantd v45 true) (fun k W => okF (nilP v47) fun v => k v W) (fun v48 W =>
  gdK (wantd v45 true) (fun k W => okF (addrF 1 v48) fun v => k v W) (fun v49 W =>
  gdK (wantd v45 true) (fun k W => rdK PR (Instr.loadAt T_string v49) k W) (fun v50 W =>
  gdK (wantd v45 true) (fun k W => k v1 W) (fun v51 W =>
  gdK (wantd v45 true) (fun k W => okF (binP .neq v50 v51) fun v => k v W) (fun v52 W =>
  okF (pickP v45 v52 (.bool false)) fun v53 =>
  ifK v53 (
  R (.tuple #[(.bool false), (.int .i64 5)]) W) (
  okF (nilP v0) fun v55 =>
  okF (addrF 0 v55) fun v56 =>
  rdK PR (Instr.loadAt T_bool v56) (fun v57 W =>
  gdK (wantd v57 true) (fun k W => k v2 W) (fun v59 W =>
  gdK (wantd v57 true) (fun k W => k v0 W) (fun v60 W =>
  gdK (wantd v57 true) (fun k W => okF (nilP v60) fun v => k v W) (fun v61 W =>
  gdK (wantd v57 true) (fun k W => okF (addrF 2 v61) fun v => k v W) (fun v62 W =>
  gdK (wantd v57 true) (fun k W => rdK PR (Instr.loadAt T_int64 v62) k W) (fun v63 W =>
  gdK (wantd v57 true) (fun k W => okF (binP .lss v59 v63) fun v => k v W) (fun v64 W =>
  gdK (wantd v57 true) (fun k W => k v64 W) (fun v65 W =>
  gdK (wantd v65 false) (fun k W => k v2 W) (fun v66 W =>
  gdK (wantd v65 false) (fun k W => k v0 W) (fun v67 W =>
  gdK (wantd v65 false) (fun k W => okF (nilP v67) fun v => k v W) (fun v68 W =>
  gdK (wantd v65 false) (fun k W => okF (addrF 2 v68) fun v => k v W) (fun v69 W =>
  gdK (wantd v65 false) (fun k W => rdK PR (Instr.loadAt T_int64 v69) k W) (fun v70 W =>
  gdK (wantd v65 false) (fun k W => okF (binP .eql v66 v70) fun v => k v W) (fun v71 W =>
  gdK (wantd v65 false) (fun k W => k v71 W) (fun v72 W =>
  gdK (wantd v72 true) (fun k W => k v0 W) (fun v73 W =>
  gdK (wantd v72 true) (fun k W => okF (nilP v73) fun v => k v W) (fun v74 W =>
  gdK (wantd v72 true) (fun k W => okF (addrF 3 v74) fun v => k v W) (fun v75 W =>
  gdK (wantd v72 true) (fun k W => rdK PR (Instr.loadAt T_api_Dot v75) k W) (fun v76 W =>
  gdK (wantd v72 true) (fun k W => rdK PR (Instr.loadAt T_api_Dot v7) k W) (fun v77 W =>
  gdK (wantd v72 true) (fun k W => callK PR F_rostrumref7_Less [v76, v77] k W) (fun v78 W =>
  gdK (wantd v72 true) (fun k W => okF (unP .not v78) fun v => k v W) (fun v79 W =>
  gdK (wantd v65 false) (fun k W => okF (pickP v72 v79 (.bool false)) fun v => k v W) (fun v80 W =>
  gdK (wantd v57 true) (fun k W => okF (pickP v65 (.bool true) v80) fun v => k v W) (fun v81 W =>
  okF (pickP v57 v81 (.bool false)) fun v82 =>
  ifK v82 (
  R (.tuple #[(.bool false), (.int .i64 0)]) W) (
  rdK PR (Instr.loadAt T_api_Dot v7) (fun v86 W =>
  okF (bldP (fun i => ([(0, 1), (1, 1), (2, 1), (3, 2)] : List (Nat × Nat))[i]?) [.bool false, .string ⟨#[]⟩, .int .i64 0, .int .i64 0, .int .i64 0] [(0, (.bool true)), (1, v1), (2, v2), (3, v86)]) fun v87 =>
  okF (nilP v0) fun v88 =>
  efK PR (Instr.storeAt T_rostrumref7_Last v88 v87) (fun _ W =>
  R (.tuple #[(.bool true), (.int .i64 0)]) W) W) W)) W) W) W) W) W) W) W) W) W) W) W) W) W) W) W) W) W) W) W) W) W) W) W) (tick W))) W) W) W) W) W) W) W) W) W) W) W) W) W) W) W) W) W) W) (tick W))) W) W) W) W) W) W) W) W
def S.rostrumref7_Last_Write.hint : Hint := (.two .nil (.two (.two .nil (.two (.two .nil .nil) .nil)) (.two (.two .nil (.two (.two .nil .nil) .nil)) (.two (.two .nil (.two (.two .nil .nil) .nil)) (.two .nil (.two .nil .nil))))))
theorem S.rostrumref7_Last_Write.ok (R : Value → World → Prop) (v0 v1 v2 v3 : Value) (W : World) : bodyK PR CB Try.f36 S.rostrumref7_Last_Write.hint [v0, v1, v2, v3] R W = S.rostrumref7_Last_Write.body R v0 v1 v2 v3 W := by kernel_rfl
theorem S.rostrumref7_Last_Write.fn : PR.funcs[F_rostrumref7_Last_Write]? = some Try.f36 := by kernel_rfl
theorem S.rostrumref7_Last_Write.call {R : Value → World → Prop} {v0 v1 v2 v3 : Value} {W : World} (h : S.rostrumref7_Last_Write.body R v0 v1 v2 v3 W) : callK PR F_rostrumref7_Last_Write [v0, v1, v2, v3] R W :=
  callK_of_body (g := F_rostrumref7_Last_Write) (fn := Try.f36) (args := [v0, v1, v2, v3]) (R := R) (w := W) mixed CBok S.rostrumref7_Last_Write.fn S.rostrumref7_Last_Write.hint (by rw [S.rostrumref7_Last_Write.ok]; exact h)
/-! ### (*rostrum/rostrumref7.Last).Put (37) -/
def S.rostrumref7_Last_Put.body (R : Value → World → Prop) (v0 v1 : Value) (W : World) : Prop :=
  okF (nilP v0) fun v6 =>
  okF (addrF 0 v6) fun v7 =>
  rdK PR (Instr.loadAt T_bool v7) (fun v8 W =>
  okF (unP .not v8) fun v9 =>
  ifK v9 (
  callK PR F_rostrumref1_Num [v1, (.int .i64 0)] (fun v11 W =>
  R v11 W) W) (
  okF (nilP v0) fun v15 =>
  okF (addrF 2 v15) fun v16 =>
  rdK PR (Instr.loadAt T_int64 v16) (fun v17 W =>
  okF (nilP v0) fun v20 =>
  okF (addrF 3 v20) fun v21 =>
  okF (addrF 0 v21) fun v22 =>
  rdK PR (Instr.loadAt T_int v22) (fun v23 W =>
  callK PR F_rostrumref1_Num [v1, (.int .i64 1)] (fun v13 W =>
  stb PR [(11, true, (Instr.loadAt T_int v22), v23), (5, true, (Instr.loadAt T_int64 v16), v17)] (fun W =>
  callK PR F_rostrumref1_Num [v13, v17] (fun v18 W =>
  stb PR [(11, true, (Instr.loadAt T_int v22), v23)] (fun W =>
  callK PR F_rostrumref1_Num [v18, v23] (fun v24 W =>
  okF (nilP v0) fun v27 =>
  okF (addrF 3 v27) fun v28 =>
  okF (addrF 1 v28) fun v29 =>
  rdK PR (Instr.loadAt T_int64 v29) (fun v30 W =>
  okF (nilP v0) fun v33 =>
  okF (addrF 1 v33) fun v34 =>
  rdK PR (Instr.loadAt T_string v34) (fun v35 W =>
  (callK PR F_rostrumref1_Num [v24, v30] (fun v31 W =>
  stb PR [(10, true, (Instr.loadAt T_string v34), v35)] (fun W =>
  efK PR (convert T_string T_s_uint8 v35) (fun v36 W =>
  callK PR F_rostrumref1_Bytes [v31, v36] (fun v37 W =>
  R v37 W) W) W) W) W) ∧ (efK PR (convert T_string T_s_uint8 v35) (fun v36_1 W =>
  stb PR [(5, true, (Instr.loadAt T_int64 v29), v30)] (fun W =>
  callK PR F_rostrumref1_Num [v24, v30] (fun v31_1 W =>
  callK PR F_rostrumref1_Bytes [v31_1, v36_1] (fun v37_1 W =>
  R v37_1 W) W) W) W) W)) W) (tick W)) W) W) W) W) W) W) (tick W))) W
def S.rostrumref7_Last_Put.hint : Hint := (.two .nil (.two (.two .nil (.two (.two .nil .nil) .nil)) (.two .nil (.two .nil .nil))))
theorem S.rostrumref7_Last_Put.ok (R : Value → World → Prop) (v0 v1 : Value) (W : World) : bodyK PR CB Try.f37 S.rostrumref7_Last_Put.hint [v0, v1] R W = S.rostrumref7_Last_Put.body R v0 v1 W := by kernel_rfl
theorem S.rostrumref7_Last_Put.fn : PR.funcs[F_rostrumref7_Last_Put]? = some Try.f37 := by kernel_rfl
theorem S.rostrumref7_Last_Put.call {R : Value → World → Prop} {v0 v1 : Value} {W : World} (h : S.rostrumref7_Last_Put.body R v0 v1 W) : callK PR F_rostrumref7_Last_Put [v0, v1] R W :=
  callK_of_body (g := F_rostrumref7_Last_Put) (fn := Try.f37) (args := [v0, v1]) (R := R) (w := W) mixed CBok S.rostrumref7_Last_Put.fn S.rostrumref7_Last_Put.hint (by rw [S.rostrumref7_Last_Put.ok]; exact h)
/-! ### rostrum/rostrumref7.GetLast (38) -/
def S.rostrumref7_GetLast.j1 (R : Value → World → Prop) (x0 x3 : Value) (W : World) : Prop :=
  okF (nilP x0) fun v36 =>
  okF (addrF 2 v36) fun v37 =>
  rdK PR (Instr.loadAt T_bool v37) (fun v38 W =>
  ifK v38 (
  R (.pointer none) W) (
  R x3 W)) W
def S.rostrumref7_GetLast.body (R : Value → World → Prop) (v0 : Value) (W : World) : Prop :=
  okF (bldP (fun i => ([(0, 1), (1, 1), (2, 1), (3, 2)] : List (Nat × Nat))[i]?) [.bool false, .string ⟨#[]⟩, .int .i64 0, .int .i64 0, .int .i64 0] []) fun v4 =>
  efK PR (Instr.box T_rostrumref7_Last v4) (fun v5 W =>
  joinK (fun s W => S.rostrumref7_GetLast.j1 R (nthv s 0) (nthv s 1) W) (fun J1 =>
  callK PR F_rostrumref1_Reader_Num [v0, (.int .i64 0), (.int .i64 1)] (fun v7 W =>
  okF (binP .eql v7 (.int .i64 1)) fun v8 =>
  ifK v8 (
  okF (nilP v5) fun v10 =>
  okF (addrF 0 v10) fun v11 =>
  efK PR (Instr.storeAt T_bool v11 (.bool true)) (fun _ W =>
  callK PR F_rostrumref1_Reader_Num [v0, (.int .i64 0), (.int .i64 1099511627776)] (fun v14 W =>
  okF (nilP v5) fun v15 =>
  okF (addrF 2 v15) fun v16 =>
  efK PR (Instr.storeAt T_int64 v16 v14) (fun _ W =>
  callK PR F_rostrumref1_Reader_Num [v0, (.int .i64 0), (.int .i64 6)] (fun v19 W =>
  okF (nilP v5) fun v20 =>
  okF (addrF 3 v20) fun v21 =>
  okF (addrF 0 v21) fun v22 =>
  efK PR (Instr.storeAt T_int v22 v19) (fun _ W =>
  callK PR F_rostrumref1_Reader_Num [v0, (.int .i64 1), (.int .i64 1099511627776)] (fun v25 W =>
  okF (nilP v5) fun v26 =>
  okF (addrF 3 v26) fun v27 =>
  okF (addrF 1 v27) fun v28 =>
  efK PR (Instr.storeAt T_int64 v28 v25) (fun _ W =>
  callK PR F_rostrumref1_Reader_Bytes [v0, (.int .i64 100)] (fun v31 W =>
  rdK PR (convert T_s_uint8 T_string v31) (fun v32 W =>
  okF (nilP v5) fun v33 =>
  okF (addrF 1 v33) fun v34 =>
  efK PR (Instr.storeAt T_string v34 v32) (fun _ W =>
  J1 [v0, v5] W) W) W) W) W) W) W) W) W) W) W) (
  J1 [v0, v5] W)) W)) W
def S.rostrumref7_GetLast.hint : Hint := (.two .nil (.two .nil (.at [0, 3] (.two .nil (.two (.two .nil (.two .nil (.two .nil (.two .nil .nil)))) .nil)) (.two (.two .nil (.two (.two .nil .nil) .nil)) (.two .nil .nil)))))
theorem S.rostrumref7_GetLast.ok (R : Value → World → Prop) (v0 : Value) (W : World) : bodyK PR CB Try.f38 S.rostrumref7_GetLast.hint [v0] R W = S.rostrumref7_GetLast.body R v0 W := by kernel_rfl
theorem S.rostrumref7_GetLast.fn : PR.funcs[F_rostrumref7_GetLast]? = some Try.f38 := by kernel_rfl
theorem S.rostrumref7_GetLast.call {R : Value → World → Prop} {v0 : Value} {W : World} (h : S.rostrumref7_GetLast.body R v0 W) : callK PR F_rostrumref7_GetLast [v0] R W :=
  callK_of_body (g := F_rostrumref7_GetLast) (fn := Try.f38) (args := [v0]) (R := R) (w := W) mixed CBok S.rostrumref7_GetLast.fn S.rostrumref7_GetLast.hint (by rw [S.rostrumref7_GetLast.ok]; exact h)
/-! ### rostrum/rostrumref7.May (54) -/
def S.rostrumref7_May.body (R : Value → World → Prop) (v0 : Value) (W : World) : Prop :=
  efK PR (Instr.box T_api_Dot v0) (fun v1 W =>
  okF (addrF 0 v1) fun v3 =>
  rdK PR (Instr.loadAt T_int v3) (fun v4 W =>
  okF (binP .geq v4 (.int .i64 0)) fun v5 =>
  gdK (wantd v5 true) (fun k W => okF (addrF 0 v1) fun v => k v W) (fun v7 W =>
  gdK (wantd v5 true) (fun k W => rdK PR (Instr.loadAt T_int v7) k W) (fun v8 W =>
  gdK (wantd v5 true) (fun k W => okF (binP .lss v8 (.int .i64 7)) fun v => k v W) (fun v9 W =>
  okF (pickP v5 v9 (.bool false)) fun v10 =>
  gdK (wantd v10 true) (fun k W => okF (addrF 1 v1) fun v => k v W) (fun v12 W =>
  gdK (wantd v10 true) (fun k W => rdK PR (Instr.loadAt T_int64 v12) k W) (fun v13 W =>
  gdK (wantd v10 true) (fun k W => okF (binP .geq v13 (.int .i64 1)) fun v => k v W) (fun v14 W =>
  okF (pickP v10 v14 (.bool false)) fun v15 =>
  gdK (wantd v15 true) (fun k W => okF (addrF 1 v1) fun v => k v W) (fun v17 W =>
  gdK (wantd v15 true) (fun k W => rdK PR (Instr.loadAt T_int64 v17) k W) (fun v18 W =>
  gdK (wantd v15 true) (fun k W => okF (binP .leq v18 (.int .i64 1099511627776)) fun v => k v W) (fun v19 W =>
  okF (pickP v15 v19 (.bool false)) fun v20 =>
  R v20 W) W) W) W) W) W) W) W) W) W) W) W
def S.rostrumref7_May.hint : Hint := (.two .nil (.two .nil .nil))
theorem S.rostrumref7_May.ok (R : Value → World → Prop) (v0 : Value) (W : World) : bodyK PR CB Try.f54 S.rostrumref7_May.hint [v0] R W = S.rostrumref7_May.body R v0 W := by kernel_rfl
theorem S.rostrumref7_May.fn : PR.funcs[F_rostrumref7_May]? = some Try.f54 := by kernel_rfl
theorem S.rostrumref7_May.call {R : Value → World → Prop} {v0 : Value} {W : World} (h : S.rostrumref7_May.body R v0 W) : callK PR F_rostrumref7_May [v0] R W :=
  callK_of_body (g := F_rostrumref7_May) (fn := Try.f54) (args := [v0]) (R := R) (w := W) mixed CBok S.rostrumref7_May.fn S.rostrumref7_May.hint (by rw [S.rostrumref7_May.ok]; exact h)
/-! ### rostrum/rostrumref7.Less (55) -/
def S.rostrumref7_Less.body (R : Value → World → Prop) (v0 v1 : Value) (W : World) : Prop :=
  efK PR (Instr.box T_api_Dot v0) (fun v2 W =>
  efK PR (Instr.box T_api_Dot v1) (fun v3 W =>
  okF (addrF 0 v2) fun v5 =>
  rdK PR (Instr.loadAt T_int v5) (fun v6 W =>
  okF (addrF 0 v3) fun v7 =>
  rdK PR (Instr.loadAt T_int v7) (fun v8 W =>
  okF (binP .lss v6 v8) fun v9 =>
  gdK (wantd v9 false) (fun k W => okF (addrF 0 v2) fun v => k v W) (fun v11 W =>
  gdK (wantd v9 false) (fun k W => rdK PR (Instr.loadAt T_int v11) k W) (fun v12 W =>
  gdK (wantd v9 false) (fun k W => okF (addrF 0 v3) fun v => k v W) (fun v13 W =>
  gdK (wantd v9 false) (fun k W => rdK PR (Instr.loadAt T_int v13) k W) (fun v14 W =>
  gdK (wantd v9 false) (fun k W => okF (binP .eql v12 v14) fun v => k v W) (fun v15 W =>
  gdK (wantd v9 false) (fun k W => k v15 W) (fun v16 W =>
  gdK (wantd v16 true) (fun k W => okF (addrF 1 v2) fun v => k v W) (fun v17 W =>
  gdK (wantd v16 true) (fun k W => rdK PR (Instr.loadAt T_int64 v17) k W) (fun v18 W =>
  gdK (wantd v16 true) (fun k W => okF (addrF 1 v3) fun v => k v W) (fun v19 W =>
  gdK (wantd v16 true) (fun k W => rdK PR (Instr.loadAt T_int64 v19) k W) (fun v20 W =>
  gdK (wantd v16 true) (fun k W => okF (binP .lss v18 v20) fun v => k v W) (fun v21 W =>
  gdK (wantd v9 false) (fun k W => okF (pickP v16 v21 (.bool false)) fun v => k v W) (fun v22 W =>
  okF (pickP v9 (.bool true) v22) fun v23 =>
  R v23 W) W) W) W) W) W) W) W) W) W) W) W) W) W) W) W) W
def S.rostrumref7_Less.hint : Hint := (.two .nil (.two .nil .nil))
theorem S.rostrumref7_Less.ok (R : Value → World → Prop) (v0 v1 : Value) (W : World) : bodyK PR CB Try.f55 S.rostrumref7_Less.hint [v0, v1] R W = S.rostrumref7_Less.body R v0 v1 W := by kernel_rfl
theorem S.rostrumref7_Less.fn : PR.funcs[F_rostrumref7_Less]? = some Try.f55 := by kernel_rfl
theorem S.rostrumref7_Less.call {R : Value → World → Prop} {v0 v1 : Value} {W : World} (h : S.rostrumref7_Less.body R v0 v1 W) : callK PR F_rostrumref7_Less [v0, v1] R W :=
  callK_of_body (g := F_rostrumref7_Less) (fn := Try.f55) (args := [v0, v1]) (R := R) (w := W) mixed CBok S.rostrumref7_Less.fn S.rostrumref7_Less.hint (by rw [S.rostrumref7_Less.ok]; exact h)
/-! ### rostrum/rostrumlaw11.LastGrows (4) -/
def S.rostrumlaw11_LastGrows.j1 (K1 : List Value → World → Prop) (x0 x3 x4 x5 : Value) (W : World) : Prop :=
  okF (binP .add x5 (.int .i64 1)) fun v23 =>
  K1 [x0, x3, x4, v23] W
def S.rostrumlaw11_LastGrows.l1 (R : Value → World → Prop) (K1 : List Value → World → Prop) (x0 x3 x4 x5 : Value) (W : World) : Prop :=
  okF (lenP (.slice T_rostrumlaw11_Act) x0) fun v20 =>
  okF (binP .lss x5 v20) fun v21 =>
  ifK v21 (
  joinK (fun s W => S.rostrumlaw11_LastGrows.j1 K1 (nthv s 0) (nthv s 1) (nthv s 2) (nthv s 3) W) (fun J1 =>
  okF (idxS 4 x0 x5) fun v28 =>
  okF (addrF 0 v28) fun v29 =>
  rdK PR (Instr.loadAt T_string v29) (fun v30 W =>
  okF (idxS 4 x0 x5) fun v33 =>
  okF (addrF 1 v33) fun v34 =>
  rdK PR (Instr.loadAt T_int64 v34) (fun v35 W =>
  okF (idxS 4 x0 x5) fun v38 =>
  okF (addrF 2 v38) fun v39 =>
  rdK PR (Instr.loadAt T_api_Dot v39) (fun v40 W =>
  callK PR F_last_Last_Write [x3, v30, v35, v40] (fun v41 W =>
  okF (extP 0 v41) fun v42 =>
  okF (extP 1 v41) fun v43 =>
  callK PR F_last_Last_Value [x3] (fun v46 W =>
  okF (extP 0 v46) fun v47 =>
  okF (extP 1 v46) fun v48 =>
  callK PR F_last_Last_When [x3] (fun v51 W =>
  okF (extP 0 v51) fun v52 =>
  okF (extP 1 v51) fun v53 =>
  efK PR (Instr.alloc T_api_Dot true (.tuple #[])) (fun v11 W =>
  efK PR (Instr.storeAt T_api_Dot v11 v53) (fun _ W =>
  gdK (wantd v42 true) (fun k W => k v47 W) (fun v56 W =>
  gdK (wantd v42 true) (fun k W => k x0 W) (fun v57 W =>
  gdK (wantd v42 true) (fun k W => k x5 W) (fun v58 W =>
  gdK (wantd v42 true) (fun k W => okF (idxS 4 v57 v58) fun v => k v W) (fun v59 W =>
  gdK (wantd v42 true) (fun k W => okF (addrF 0 v59) fun v => k v W) (fun v60 W =>
  gdK (wantd v42 true) (fun k W => rdK PR (Instr.loadAt T_string v60) k W) (fun v61 W =>
  gdK (wantd v42 true) (fun k W => okF (binP .neq v56 v61) fun v => k v W) (fun v62 W =>
  gdK (wantd v42 true) (fun k W => k v62 W) (fun v63 W =>
  gdK (wantd v63 false) (fun k W => k v52 W) (fun v64 W =>
  gdK (wantd v63 false) (fun k W => k x0 W) (fun v65 W =>
  gdK (wantd v63 false) (fun k W => k x5 W) (fun v66 W =>
  gdK (wantd v63 false) (fun k W => okF (idxS 4 v65 v66) fun v => k v W) (fun v67 W =>
  gdK (wantd v63 false) (fun k W => okF (addrF 1 v67) fun v => k v W) (fun v68 W =>
  gdK (wantd v63 false) (fun k W => rdK PR (Instr.loadAt T_int64 v68) k W) (fun v69 W =>
  gdK (wantd v63 false) (fun k W => okF (binP .neq v64 v69) fun v => k v W) (fun v70 W =>
  gdK (wantd v42 true) (fun k W => okF (pickP v63 (.bool true) v70) fun v => k v W) (fun v71 W =>
  gdK (wantd v42 true) (fun k W => k v71 W) (fun v72 W =>
  gdK (wantd v72 false) (fun k W => rdK PR (Instr.loadAt T_api_Dot v11) k W) (fun v73 W =>
  gdK (wantd v72 false) (fun k W => k x0 W) (fun v74 W =>
  gdK (wantd v72 false) (fun k W => k x5 W) (fun v75 W =>
  gdK (wantd v72 false) (fun k W => okF (idxS 4 v74 v75) fun v => k v W) (fun v76 W =>
  gdK (wantd v72 false) (fun k W => okF (addrF 2 v76) fun v => k v W) (fun v77 W =>
  gdK (wantd v72 false) (fun k W => rdK PR (Instr.loadAt T_api_Dot v77) k W) (fun v78 W =>
  gdK (wantd v72 false) (fun k W => rdK PR (aggEq .neq T_api_Dot v73 v78) k W) (fun v79 W =>
  gdK (wantd v42 true) (fun k W => okF (pickP v72 (.bool true) v79) fun v => k v W) (fun v80 W =>
  gdK (wantd v42 true) (fun k W => k v80 W) (fun v81 W =>
  gdK (wantd v81 false) (fun k W => k v43 W) (fun v82 W =>
  gdK (wantd v81 false) (fun k W => okF (binP .neq v82 (.int .i64 0)) fun v => k v W) (fun v83 W =>
  gdK (wantd v42 true) (fun k W => okF (pickP v81 (.bool true) v83) fun v => k v W) (fun v84 W =>
  okF (pickP v42 v84 (.bool false)) fun v85 =>
  gdK (wantd v85 false) (fun k W => k v48 W) (fun v87 W =>
  gdK (wantd v85 false) (fun k W => k v87 W) (fun v88 W =>
  gdK (wantd v88 true) (fun k W => k v52 W) (fun v89 W =>
  gdK (wantd v88 true) (fun k W => k x4 W) (fun v90 W =>
  gdK (wantd v88 true) (fun k W => okF (binP .lss v89 v90) fun v => k v W) (fun v91 W =>
  gdK (wantd v85 false) (fun k W => okF (pickP v88 v91 (.bool false)) fun v => k v W) (fun v92 W =>
  okF (pickP v85 (.bool true) v92) fun v93 =>
  gdK (wantd v93 false) (fun k W => k v43 W) (fun v95 W =>
  gdK (wantd v93 false) (fun k W => okF (binP .neq v95 (.int .i64 0)) fun v => k v W) (fun v96 W =>
  gdK (wantd v93 false) (fun k W => k v96 W) (fun v97 W =>
  gdK (wantd v97 true) (fun k W => k v42 W) (fun v98 W =>
  gdK (wantd v93 false) (fun k W => okF (pickP v97 v98 (.bool false)) fun v => k v W) (fun v99 W =>
  okF (pickP v93 (.bool true) v99) fun v100 =>
  ifK v100 (
  R (.bool false) W) (
  ifK v48 (
  J1 [x0, x3, v52, x5] W) (
  J1 [x0, x3, x4, x5] W))) W) W) W) W) W) W) W) W) W) W) W) W) W) W) W) W) W) W) W) W) W) W) W) W) W) W) W) W) W) W) W) W) W) W) W) W) W) W) W) (tick W)) W) W) W) W) W) W) W) (tick W))) (
  R (.bool true) W)
def S.rostrumlaw11_LastGrows.body (R : Value → World → Prop) (v0 : Value) (W : World) : Prop :=
  callK PR F_rostrumlaw11_awake [] (fun v12 W =>
  okF (unP .not v12) fun v13 =>
  ifK v13 (
  R (.bool false) W) (
  okF (lenP (.slice T_rostrumlaw11_Act) v0) fun v15 =>
  okF (binP .gtr v15 (.int .i64 40)) fun v16 =>
  ifK v16 (
  R (.bool true) W) (
  callK PR F_last_New [] (fun v17 W =>
  loopK (fun K1 s W => S.rostrumlaw11_LastGrows.l1 R K1 (nthv s 0) (nthv s 1) (nthv s 2) (nthv s 3) W) [v0, v17, (.int .i64 (-1)), (.int .i64 0)] W) W))) W
def S.rostrumlaw11_LastGrows.hint : Hint := (.two .nil (.two (.two .nil (.two (.two .nil .nil) .nil)) (.two (.two .nil (.two (.two .nil .nil) .nil)) (.two .nil (.two .nil (.two (.two .nil (.at [0, 3, 4, 5] (.two (.two .nil (.two .nil .nil)) (.at [0, 3, 4, 5] (.two .nil (.two .nil (.two .nil (.two (.two .nil (.two (.two .nil .nil) .nil)) (.two .nil (.two .nil .nil)))))) .nil)) .nil)) (.two .nil .nil)))))))
theorem S.rostrumlaw11_LastGrows.ok (R : Value → World → Prop) (v0 : Value) (W : World) : bodyK PR CB Try.f4 S.rostrumlaw11_LastGrows.hint [v0] R W = S.rostrumlaw11_LastGrows.body R v0 W := by kernel_rfl
theorem S.rostrumlaw11_LastGrows.fn : PR.funcs[F_rostrumlaw11_LastGrows]? = some Try.f4 := by kernel_rfl
theorem S.rostrumlaw11_LastGrows.call {R : Value → World → Prop} {v0 : Value} {W : World} (h : S.rostrumlaw11_LastGrows.body R v0 W) : callK PR F_rostrumlaw11_LastGrows [v0] R W :=
  callK_of_body (g := F_rostrumlaw11_LastGrows) (fn := Try.f4) (args := [v0]) (R := R) (w := W) mixed CBok S.rostrumlaw11_LastGrows.fn S.rostrumlaw11_LastGrows.hint (by rw [S.rostrumlaw11_LastGrows.ok]; exact h)
/-! ### rostrum/rostrumlaw11.LastKnown (9) -/
def S.rostrumlaw11_LastKnown.body (R : Value → World → Prop) (W : World) : Prop :=
  callK PR F_rostrumlaw11_awake [] (fun v19 W =>
  okF (unP .not v19) fun v20 =>
  ifK v20 (
  R (.bool false) W) (
  callK PR F_last_New [] (fun v21 W =>
  callK PR F_last_Last_Value [v21] (fun v24 W =>
  okF (extP 0 v24) fun v25 =>
  okF (extP 1 v24) fun v26 =>
  okF (bldP (fun i => ([(0, 1), (1, 1)] : List (Nat × Nat))[i]?) [.int .i64 0, .int .i64 0] [(1, (.int .i64 1))]) fun v29 =>
  callK PR F_last_Last_Write [v21, (.string ⟨#[97]⟩), (.int .i64 (-1)), v29] (fun v30 W =>
  okF (extP 0 v30) fun v31 =>
  okF (extP 1 v30) fun v32 =>
  okF (bldP (fun i => ([(0, 1), (1, 1)] : List (Nat × Nat))[i]?) [.int .i64 0, .int .i64 0] []) fun v35 =>
  callK PR F_last_Last_Write [v21, (.string ⟨#[97]⟩), (.int .i64 1), v35] (fun v36 W =>
  okF (extP 0 v36) fun v37 =>
  okF (extP 1 v36) fun v38 =>
  efK PR (Instr.makeSlice T_s_uint8 (.int .i64 101) (.int .i64 101)) (fun v41 W =>
  rdK PR (convert T_s_uint8 T_string v41) (fun v42 W =>
  okF (bldP (fun i => ([(0, 1), (1, 1)] : List (Nat × Nat))[i]?) [.int .i64 0, .int .i64 0] [(1, (.int .i64 1))]) fun v43 =>
  callK PR F_last_Last_Write [v21, v42, (.int .i64 1), v43] (fun v44 W =>
  okF (extP 0 v44) fun v45 =>
  okF (extP 1 v44) fun v46 =>
  okF (bldP (fun i => ([(0, 1), (1, 1)] : List (Nat × Nat))[i]?) [.int .i64 0, .int .i64 0] [(1, (.int .i64 1))]) fun v48 =>
  callK PR F_last_Last_Write [v21, (.string ⟨#[97]⟩), (.int .i64 1), v48] (fun v49 W =>
  okF (bldP (fun i => ([(0, 1), (1, 1)] : List (Nat × Nat))[i]?) [.int .i64 0, .int .i64 0] [(1, (.int .i64 1))]) fun v52 =>
  callK PR F_last_Last_Write [v21, (.string ⟨#[98]⟩), (.int .i64 1), v52] (fun v53 W =>
  okF (extP 0 v53) fun v54 =>
  okF (extP 1 v53) fun v55 =>
  okF (bldP (fun i => ([(0, 1), (1, 1)] : List (Nat × Nat))[i]?) [.int .i64 0, .int .i64 0] [(1, (.int .i64 1))]) fun v58 =>
  callK PR F_last_Last_Write [v21, (.string ⟨#[97]⟩), (.int .i64 1), v58] (fun v59 W =>
  okF (extP 0 v59) fun v60 =>
  okF (extP 1 v59) fun v61 =>
  okF (bldP (fun i => ([(0, 1), (1, 1)] : List (Nat × Nat))[i]?) [.int .i64 0, .int .i64 0] [(1, (.int .i64 2))]) fun v64 =>
  callK PR F_last_Last_Write [v21, (.string ⟨#[99]⟩), (.int .i64 1), v64] (fun v65 W =>
  okF (extP 0 v65) fun v66 =>
  okF (extP 1 v65) fun v67 =>
  callK PR F_last_Last_When [v21] (fun v70 W =>
  okF (extP 0 v70) fun v71 =>
  okF (extP 1 v70) fun v72 =>
  efK PR (Instr.alloc T_api_Dot true (.tuple #[])) (fun v17 W =>
  efK PR (Instr.storeAt T_api_Dot v17 v72) (fun _ W =>
  callK PR F_last_Last_Put [v21, (.slice none 0 0)] (fun v74 W =>
  callK PR F_pack_Read [v74] (fun v75 W =>
  callK PR F_last_Get [v75] (fun v76 W =>
  okF (unP .not v26) fun v78 =>
  gdK (wantd v78 true) (fun k W => k v32 W) (fun v80 W =>
  gdK (wantd v78 true) (fun k W => okF (binP .eql v80 (.int .i64 1)) fun v => k v W) (fun v81 W =>
  okF (pickP v78 v81 (.bool false)) fun v82 =>
  gdK (wantd v82 true) (fun k W => k v38 W) (fun v84 W =>
  gdK (wantd v82 true) (fun k W => okF (binP .eql v84 (.int .i64 1)) fun v => k v W) (fun v85 W =>
  okF (pickP v82 v85 (.bool false)) fun v86 =>
  gdK (wantd v86 true) (fun k W => k v46 W) (fun v88 W =>
  gdK (wantd v86 true) (fun k W => okF (binP .eql v88 (.int .i64 1)) fun v => k v W) (fun v89 W =>
  okF (pickP v86 v89 (.bool false)) fun v90 =>
  gdK (wantd v90 true) (fun k W => k v55 W) (fun v92 W =>
  gdK (wantd v90 true) (fun k W => okF (binP .eql v92 (.int .i64 5)) fun v => k v W) (fun v93 W =>
  okF (pickP v90 v93 (.bool false)) fun v94 =>
  gdK (wantd v94 true) (fun k W => k v60 W) (fun v96 W =>
  gdK (wantd v94 true) (fun k W => okF (unP .not v96) fun v => k v W) (fun v97 W =>
  okF (pickP v94 v97 (.bool false)) fun v98 =>
  gdK (wantd v98 true) (fun k W => k v66 W) (fun v100 W =>
  okF (pickP v98 v100 (.bool false)) fun v101 =>
  gdK (wantd v101 true) (fun k W => k v71 W) (fun v103 W =>
  gdK (wantd v101 true) (fun k W => okF (binP .eql v103 (.int .i64 1)) fun v => k v W) (fun v104 W =>
  okF (pickP v101 v104 (.bool false)) fun v105 =>
  gdK (wantd v105 true) (fun k W => rdK PR (Instr.loadAt T_api_Dot v17) k W) (fun v107 W =>
  gdK (wantd v105 true) (fun k W => okF (bldP (fun i => ([(0, 1), (1, 1)] : List (Nat × Nat))[i]?) [.int .i64 0, .int .i64 0] [(1, (.int .i64 2))]) fun v => k v W) (fun v108 W =>
  gdK (wantd v105 true) (fun k W => rdK PR (aggEq .eql T_api_Dot v107 v108) k W) (fun v109 W =>
  okF (pickP v105 v109 (.bool false)) fun v110 =>
  gdK (wantd v110 true) (fun k W => k v76 W) (fun v112 W =>
  gdK (wantd v110 true) (fun k W => okF (eqP (.pointer T_last_Last) .neq v112 (.pointer none)) fun v => k v W) (fun v113 W =>
  okF (pickP v110 v113 (.bool false)) fun v114 =>
  gdK (wantd v114 true) (fun k W => k v76 W) (fun v116 W =>
  gdK (wantd v114 true) (fun k W => k v21 W) (fun v117 W =>
  gdK (wantd v114 true) (fun k W => callK PR F_last_Same [v116, v117] k W) (fun v118 W =>
  okF (pickP v114 v118 (.bool false)) fun v119 =>
  gdK (wantd v119 true) (fun k W => k v76 W) (fun v121 W =>
  gdK (wantd v119 true) (fun k W => callK PR F_last_New [] k W) (fun v122 W =>
  gdK (wantd v119 true) (fun k W => callK PR F_last_Same [v121, v122] k W) (fun v123 W =>
  gdK (wantd v119 true) (fun k W => okF (unP .not v123) fun v => k v W) (fun v124 W =>
  okF (pickP v119 v124 (.bool false)) fun v125 =>
  gdK (wantd v125 true) (fun k W => callK PR F_last_New [] k W) (fun v127 W =>
  gdK (wantd v125 true) (fun k W => callK PR F_last_Last_Put [v127, (.slice none 0 0)] k W) (fun v128 W =>
  gdK (wantd v125 true) (fun k W => rdK PR (convert T_s_uint8 T_string v128) k W) (fun v129 W =>
  gdK (wantd v125 true) (fun k W => okF (binP .eql v129 (.string ⟨#[0]⟩)) fun v => k v W) (fun v130 W =>
  okF (pickP v125 v130 (.bool false)) fun v131 =>
  R v131 W) W) W) W) W) W) W) W) W) W) W) W) W) W) W) W) W) W) W) W) W) W) W) W) W) W) W) W) W) W) W) W) W) W) W) W) W) W) W) W) W) W) W) W) W) W) W)) W
def S.rostrumlaw11_LastKnown.hint : Hint := (.two .nil (.two (.two .nil (.two (.two .nil .nil) .nil)) (.two .nil (.two .nil (.two .nil (.two .nil (.two .nil (.two .nil (.two .nil (.two .nil (.two .nil (.two .nil (.two .nil (.two .nil .nil))))))))))))))
theorem S.rostrumlaw11_LastKnown.ok (R : Value → World → Prop) (W : World) : bodyK PR CB Try.f9 S.rostrumlaw11_LastKnown.hint [] R W = S.rostrumlaw11_LastKnown.body R  W := by kernel_rfl
theorem S.rostrumlaw11_LastKnown.fn : PR.funcs[F_rostrumlaw11_LastKnown]? = some Try.f9 := by kernel_rfl
theorem S.rostrumlaw11_LastKnown.call {R : Value → World → Prop} {W : World} (h : S.rostrumlaw11_LastKnown.body R  W) : callK PR F_rostrumlaw11_LastKnown [] R W :=
  callK_of_body (g := F_rostrumlaw11_LastKnown) (fn := Try.f9) (args := []) (R := R) (w := W) mixed CBok S.rostrumlaw11_LastKnown.fn S.rostrumlaw11_LastKnown.hint (by rw [S.rostrumlaw11_LastKnown.ok]; exact h)
/-! ### rostrum/rostrumlaw11.LastPlays (10) -/
def S.rostrumlaw11_LastPlays.j1 (R : Value → World → Prop) (x1 : Value) (W : World) : Prop :=
  callK PR F_pack_Read [x1] (fun v132 W =>
  okF (bldP (fun i => ([(0, 1), (1, 1), (2, 1)] : List (Nat × Nat))[i]?) [.slice none 0 0, .int .i64 0, .bool false] [(0, x1)]) fun v134 =>
  efK PR (Instr.box T_rostrumref1_Reader v134) (fun v135 W =>
  callK PR F_last_Get [v132] (fun v137 W =>
  callK PR F_rostrumref7_GetLast [v135] (fun v139 W =>
  okF (eqP (.pointer T_last_Last) .eql v137 (.pointer none)) fun v141 =>
  okF (eqP (.pointer T_rostrumref7_Last) .eql v139 (.pointer none)) fun v143 =>
  okF (eqP .bool .eql v141 v143) fun v144 =>
  gdK (wantd v144 true) (fun k W => k v137 W) (fun v146 W =>
  gdK (wantd v144 true) (fun k W => okF (eqP (.pointer T_last_Last) .eql v146 (.pointer none)) fun v => k v W) (fun v147 W =>
  gdK (wantd v144 true) (fun k W => k v147 W) (fun v148 W =>
  gdK (wantd v148 false) (fun k W => k v137 W) (fun v149 W =>
  gdK (wantd v148 false) (fun k W => k v139 W) (fun v152 W =>
  gdK (wantd v148 false) (fun k W => callK PR F_last_Last_Put [v149, (.slice none 0 0)] k W) (fun v150 W =>
  gdK (wantd v148 false) (fun k W => rdK PR (convert T_s_uint8 T_string v150) k W) (fun v151 W =>
  gdK (wantd v148 false) (fun k W => callK PR F_rostrumref7_Last_Put [v152, (.slice none 0 0)] (fun v W => stb PR [(11, (wantd v148 false), (convert T_s_uint8 T_string v150), v151)] (fun W => k v W) W) W) (fun v153 W =>
  gdK (wantd v148 false) (fun k W => rdK PR (convert T_s_uint8 T_string v153) k W) (fun v154 W =>
  gdK (wantd v148 false) (fun k W => okF (binP .eql v151 v154) fun v => k v W) (fun v155 W =>
  gdK (wantd v148 false) (fun k W => k v155 W) (fun v156 W =>
  gdK (wantd v156 true) (fun k W => k v132 W) (fun v157 W =>
  gdK (wantd v156 true) (fun k W => k v135 W) (fun v159 W =>
  gdK (wantd v156 true) (fun k W => callK PR F_pack_Reader_End [v157] k W) (fun v158 W =>
  gdK (wantd v156 true) (fun k W => callK PR F_rostrumref1_Reader_End [v159] k W) (fun v160 W =>
  gdK (wantd v156 true) (fun k W => okF (eqP .bool .eql v158 v160) fun v => k v W) (fun v161 W =>
  gdK (wantd v148 false) (fun k W => okF (pickP v156 v161 (.bool false)) fun v => k v W) (fun v162 W =>
  gdK (wantd v144 true) (fun k W => okF (pickP v148 (.bool true) v162) fun v => k v W) (fun v163 W =>
  okF (pickP v144 v163 (.bool false)) fun v164 =>
  R v164 W) W) W) W) W) W) W) W) W) W) W) W) W) W) W) W) W) W) (tick W)) W) W) W) W
def S.rostrumlaw11_LastPlays.l1 (R : Value → World → Prop) (J1 : List Value → World → Prop) (K1 : List Value → World → Prop) (x0 x1 x5 x6 x7 : Value) (W : World) : Prop :=
  okF (lenP (.slice T_rostrumlaw11_Act) x0) fun v36 =>
  okF (binP .lss x7 v36) fun v37 =>
  ifK v37 (
  okF (idxS 4 x0 x7) fun v42 =>
  rdK PR (Instr.loadAt T_rostrumlaw11_Act v42) (fun v43 W =>
  efK PR (Instr.alloc T_rostrumlaw11_Act true (.tuple #[])) (fun v8 W =>
  efK PR (Instr.storeAt T_rostrumlaw11_Act v8 v43) (fun _ W =>
  okF (addrF 0 v8) fun v44 =>
  rdK PR (Instr.loadAt T_string v44) (fun v45 W =>
  okF (lenP .string v45) fun v46 =>
  okF (binP .gtr v46 (.int .i64 150)) fun v47 =>
  ifK v47 (
  R (.bool true) W) (
  okF (addrF 0 v8) fun v50 =>
  rdK PR (Instr.loadAt T_string v50) (fun v51 W =>
  okF (addrF 1 v8) fun v52 =>
  rdK PR (Instr.loadAt T_int64 v52) (fun v53 W =>
  okF (addrF 2 v8) fun v54 =>
  rdK PR (Instr.loadAt T_api_Dot v54) (fun v55 W =>
  callK PR F_last_Last_Write [x5, v51, v53, v55] (fun v56 W =>
  okF (extP 0 v56) fun v57 =>
  okF (extP 1 v56) fun v58 =>
  okF (addrF 0 v8) fun v61 =>
  rdK PR (Instr.loadAt T_string v61) (fun v62 W =>
  okF (addrF 1 v8) fun v63 =>
  rdK PR (Instr.loadAt T_int64 v63) (fun v64 W =>
  okF (addrF 2 v8) fun v65 =>
  rdK PR (Instr.loadAt T_api_Dot v65) (fun v66 W =>
  callK PR F_rostrumref7_Last_Write [x6, v62, v64, v66] (fun v67 W =>
  okF (extP 0 v67) fun v68 =>
  okF (extP 1 v67) fun v69 =>
  callK PR F_last_Last_Value [x5] (fun v72 W =>
  okF (extP 0 v72) fun v73 =>
  okF (extP 1 v72) fun v74 =>
  callK PR F_last_Last_When [x5] (fun v77 W =>
  okF (extP 0 v77) fun v78 =>
  okF (extP 1 v77) fun v79 =>
  efK PR (Instr.alloc T_api_Dot true (.tuple #[])) (fun v16 W =>
  efK PR (Instr.storeAt T_api_Dot v16 v79) (fun _ W =>
  okF (eqP .bool .neq v57 v68) fun v82 =>
  gdK (wantd v82 false) (fun k W => k v58 W) (fun v84 W =>
  gdK (wantd v82 false) (fun k W => k v69 W) (fun v85 W =>
  gdK (wantd v82 false) (fun k W => okF (binP .neq v84 v85) fun v => k v W) (fun v86 W =>
  okF (pickP v82 (.bool true) v86) fun v87 =>
  gdK (wantd v87 false) (fun k W => k v73 W) (fun v89 W =>
  gdK (wantd v87 false) (fun k W => k x6 W) (fun v90 W =>
  gdK (wantd v87 false) (fun k W => okF (nilP v90) fun v => k v W) (fun v91 W =>
  gdK (wantd v87 false) (fun k W => okF (addrF 1 v91) fun v => k v W) (fun v92 W =>
  gdK (wantd v87 false) (fun k W => rdK PR (Instr.loadAt T_string v92) k W) (fun v93 W =>
  gdK (wantd v87 false) (fun k W => okF (binP .neq v89 v93) fun v => k v W) (fun v94 W =>
  okF (pickP v87 (.bool true) v94) fun v95 =>
  gdK (wantd v95 false) (fun k W => k v74 W) (fun v97 W =>
  gdK (wantd v95 false) (fun k W => k x6 W) (fun v98 W =>
  gdK (wantd v95 false) (fun k W => okF (nilP v98) fun v => k v W) (fun v99 W =>
  gdK (wantd v95 false) (fun k W => okF (addrF 0 v99) fun v => k v W) (fun v100 W =>
  gdK (wantd v95 false) (fun k W => rdK PR (Instr.loadAt T_bool v100) k W) (fun v101 W =>
  gdK (wantd v95 false) (fun k W => okF (eqP .bool .neq v97 v101) fun v => k v W) (fun v102 W =>
  okF (pickP v95 (.bool true) v102) fun v103 =>
  gdK (wantd v103 false) (fun k W => k v78 W) (fun v105 W =>
  gdK (wantd v103 false) (fun k W => k x6 W) (fun v106 W =>
  gdK (wantd v103 false) (fun k W => okF (nilP v106) fun v => k v W) (fun v107 W =>
  gdK (wantd v103 false) (fun k W => okF (addrF 2 v107) fun v => k v W) (fun v108 W =>
  gdK (wantd v103 false) (fun k W => rdK PR (Instr.loadAt T_int64 v108) k W) (fun v109 W =>
  gdK (wantd v103 false) (fun k W => okF (binP .neq v105 v109) fun v => k v W) (fun v110 W =>
  okF (pickP v103 (.bool true) v110) fun v111 =>
  gdK (wantd v111 false) (fun k W => rdK PR (Instr.loadAt T_api_Dot v16) k W) (fun v113 W =>
  gdK (wantd v111 false) (fun k W => k x6 W) (fun v114 W =>
  gdK (wantd v111 false) (fun k W => okF (nilP v114) fun v => k v W) (fun v115 W =>
  gdK (wantd v111 false) (fun k W => okF (addrF 3 v115) fun v => k v W) (fun v116 W =>
  gdK (wantd v111 false) (fun k W => rdK PR (Instr.loadAt T_api_Dot v116) k W) (fun v117 W =>
  gdK (wantd v111 false) (fun k W => rdK PR (aggEq .neq T_api_Dot v113 v117) k W) (fun v118 W =>
  okF (pickP v111 (.bool true) v118) fun v119 =>
  gdK (wantd v119 false) (fun k W => k x5 W) (fun v121 W =>
  gdK (wantd v119 false) (fun k W => k x1 W) (fun v122 W =>
  gdK (wantd v119 false) (fun k W => k x6 W) (fun v125 W =>
  gdK (wantd v119 false) (fun k W => k x1 W) (fun v126 W =>
  gdK (wantd v119 false) (fun k W => callK PR F_last_Last_Put [v121, v122] k W) (fun v123 W =>
  gdK (wantd v119 false) (fun k W => rdK PR (convert T_s_uint8 T_string v123) k W) (fun v124 W =>
  gdK (wantd v119 false) (fun k W => callK PR F_rostrumref7_Last_Put [v125, v126] (fun v W => stb PR [(44, (wantd v119 false), (convert T_s_uint8 T_string v123), v124)] (fun W => k v W) W) W) (fun v127 W =>
  gdK (wantd v119 false) (fun k W => rdK PR (convert T_s_uint8 T_string v127) k W) (fun v128 W =>
  gdK (wantd v119 false) (fun k W => okF (binP .neq v124 v128) fun v => k v W) (fun v129 W =>
  okF (pickP v119 (.bool true) v129) fun v130 =>
  ifK v130 (
  R (.bool false) W) (
  okF (binP .add x7 (.int .i64 1)) fun v39 =>
  K1 [x0, x1, x5, x6, v39] W)) W) W) W) W) W) W) W) W) W) W) W) W) W) W) W) W) W) W) W) W) W) W) W) W) W) W) W) W) W) W) W) W) W) W) W) (tick W)) W) W) W) W) W) W) W) W) W) W) W) W)) W) W) W) W) (
  J1 [x1] W)
def S.rostrumlaw11_LastPlays.body (R : Value → World → Prop) (v0 v1 : Value) (W : World) : Prop :=
  callK PR F_rostrumlaw11_awake [] (fun v21 W =>
  okF (unP .not v21) fun v22 =>
  ifK v22 (
  R (.bool false) W) (
  okF (lenP (.slice T_rostrumlaw11_Act) v0) fun v24 =>
  okF (binP .gtr v24 (.int .i64 60)) fun v25 =>
  gdK (wantd v25 false) (fun k W => k v1 W) (fun v27 W =>
  gdK (wantd v25 false) (fun k W => okF (lenP (.slice T_uint8) v27) fun v => k v W) (fun v28 W =>
  gdK (wantd v25 false) (fun k W => okF (binP .gtr v28 (.int .i64 200)) fun v => k v W) (fun v29 W =>
  okF (pickP v25 (.bool true) v29) fun v30 =>
  ifK v30 (
  R (.bool true) W) (
  callK PR F_last_New [] (fun v31 W =>
  okF (bldP (fun i => ([(0, 1), (1, 1), (2, 1), (3, 2)] : List (Nat × Nat))[i]?) [.bool false, .string ⟨#[]⟩, .int .i64 0, .int .i64 0, .int .i64 0] []) fun v32 =>
  efK PR (Instr.box T_rostrumref7_Last v32) (fun v33 W =>
  joinK (fun s W => S.rostrumlaw11_LastPlays.j1 R (nthv s 0) W) (fun J1 =>
  loopK (fun K1 s W => S.rostrumlaw11_LastPlays.l1 R J1 K1 (nthv s 0) (nthv s 1) (nthv s 2) (nthv s 3) (nthv s 4) W) [v0, v1, v31, v33, (.int .i64 0)] W)) W) W)) W) W) W)) W
def S.rostrumlaw11_LastPlays.hint : Hint := (.two .nil (.two (.two .nil (.two (.two .nil .nil) .nil)) (.two (.two .nil (.two (.two .nil .nil) .nil)) (.two .nil (.at [1] (.two .nil (.at [0, 1, 5, 6, 7] (.two (.two .nil (.two .nil .nil)) (.two (.two .nil (.two (.two .nil (.two (.two .nil .nil) .nil)) (.two .nil (.two .nil (.two .nil (.two .nil (.two .nil (.two (.two .nil .nil) .nil)))))))) .nil)) .nil)) (.two .nil (.two .nil (.two .nil .nil))))))))
theorem S.rostrumlaw11_LastPlays.ok (R : Value → World → Prop) (v0 v1 : Value) (W : World) : bodyK PR CB Try.f10 S.rostrumlaw11_LastPlays.hint [v0, v1] R W = S.rostrumlaw11_LastPlays.body R v0 v1 W := by kernel_rfl
theorem S.rostrumlaw11_LastPlays.fn : PR.funcs[F_rostrumlaw11_LastPlays]? = some Try.f10 := by kernel_rfl
theorem S.rostrumlaw11_LastPlays.call {R : Value → World → Prop} {v0 v1 : Value} {W : World} (h : S.rostrumlaw11_LastPlays.body R v0 v1 W) : callK PR F_rostrumlaw11_LastPlays [v0, v1] R W :=
  callK_of_body (g := F_rostrumlaw11_LastPlays) (fn := Try.f10) (args := [v0, v1]) (R := R) (w := W) mixed CBok S.rostrumlaw11_LastPlays.fn S.rostrumlaw11_LastPlays.hint (by rw [S.rostrumlaw11_LastPlays.ok]; exact h)
/-! ### rostrum/rostrumlaw11.LastBack (11) -/
def S.rostrumlaw11_LastBack.j1 (R : Value → World → Prop) (x3 x5 : Value) (W : World) : Prop :=
  callK PR F_last_Last_Put [x5, (.slice none 0 0)] (fun v43 W =>
  callK PR F_pack_Read [v43] (fun v44 W =>
  callK PR F_last_Get [v44] (fun v46 W =>
  okF (eqP (.pointer T_last_Last) .eql v46 (.pointer none)) fun v48 =>
  gdK (wantd v48 false) (fun k W => k v44 W) (fun v50 W =>
  gdK (wantd v48 false) (fun k W => callK PR F_pack_Reader_End [v50] k W) (fun v51 W =>
  gdK (wantd v48 false) (fun k W => okF (unP .not v51) fun v => k v W) (fun v52 W =>
  okF (pickP v48 (.bool true) v52) fun v53 =>
  gdK (wantd v53 false) (fun k W => k x5 W) (fun v55 W =>
  gdK (wantd v53 false) (fun k W => k v46 W) (fun v56 W =>
  gdK (wantd v53 false) (fun k W => callK PR F_last_Same [v55, v56] k W) (fun v57 W =>
  gdK (wantd v53 false) (fun k W => okF (unP .not v57) fun v => k v W) (fun v58 W =>
  okF (pickP v53 (.bool true) v58) fun v59 =>
  ifK v59 (
  R (.bool false) W) (
  okF (addrF 0 x3) fun v62 =>
  rdK PR (Instr.loadAt T_string v62) (fun v63 W =>
  okF (addrF 1 x3) fun v64 =>
  rdK PR (Instr.loadAt T_int64 v64) (fun v65 W =>
  okF (addrF 2 x3) fun v66 =>
  rdK PR (Instr.loadAt T_api_Dot v66) (fun v67 W =>
  callK PR F_last_Last_Write [x5, v63, v65, v67] (fun v68 W =>
  okF (extP 0 v68) fun v69 =>
  okF (extP 1 v68) fun v70 =>
  okF (addrF 0 x3) fun v73 =>
  rdK PR (Instr.loadAt T_string v73) (fun v74 W =>
  okF (addrF 1 x3) fun v75 =>
  rdK PR (Instr.loadAt T_int64 v75) (fun v76 W =>
  okF (addrF 2 x3) fun v77 =>
  rdK PR (Instr.loadAt T_api_Dot v77) (fun v78 W =>
  callK PR F_last_Last_Write [v46, v74, v76, v78] (fun v79 W =>
  okF (extP 0 v79) fun v80 =>
  okF (extP 1 v79) fun v81 =>
  okF (eqP .bool .eql v69 v80) fun v84 =>
  gdK (wantd v84 true) (fun k W => k v70 W) (fun v86 W =>
  gdK (wantd v84 true) (fun k W => k v81 W) (fun v87 W =>
  gdK (wantd v84 true) (fun k W => okF (binP .eql v86 v87) fun v => k v W) (fun v88 W =>
  okF (pickP v84 v88 (.bool false)) fun v89 =>
  gdK (wantd v89 true) (fun k W => k x5 W) (fun v91 W =>
  gdK (wantd v89 true) (fun k W => k v46 W) (fun v92 W =>
  gdK (wantd v89 true) (fun k W => callK PR F_last_Same [v91, v92] k W) (fun v93 W =>
  okF (pickP v89 v93 (.bool false)) fun v94 =>
  R v94 W) W) W) W) W) W) W) W) W) W) W) W) W) W) W)) W) W) W) W) W) W) W) W) W) W
def S.rostrumlaw11_LastBack.l1 (J1 : List Value → World → Prop) (K1 : List Value → World → Prop) (x0 x3 x5 x6 : Value) (W : World) : Prop :=
  okF (lenP (.slice T_rostrumlaw11_Act) x0) fun v21 =>
  okF (binP .lss x6 v21) fun v22 =>
  ifK v22 (
  okF (idxS 4 x0 x6) fun v28 =>
  okF (addrF 0 v28) fun v29 =>
  rdK PR (Instr.loadAt T_string v29) (fun v30 W =>
  okF (idxS 4 x0 x6) fun v33 =>
  okF (addrF 1 v33) fun v34 =>
  rdK PR (Instr.loadAt T_int64 v34) (fun v35 W =>
  okF (idxS 4 x0 x6) fun v38 =>
  okF (addrF 2 v38) fun v39 =>
  rdK PR (Instr.loadAt T_api_Dot v39) (fun v40 W =>
  callK PR F_last_Last_Write [x5, v30, v35, v40] (fun v41 W =>
  okF (binP .add x6 (.int .i64 1)) fun v24 =>
  K1 [x0, x3, x5, v24] W) W) W) W) (tick W)) (
  J1 [x3, x5] W)
def S.rostrumlaw11_LastBack.body (R : Value → World → Prop) (v0 v1 : Value) (W : World) : Prop :=
  efK PR (Instr.box T_rostrumlaw11_Act v1) (fun v3 W =>
  callK PR F_rostrumlaw11_awake [] (fun v13 W =>
  okF (unP .not v13) fun v14 =>
  ifK v14 (
  R (.bool false) W) (
  okF (lenP (.slice T_rostrumlaw11_Act) v0) fun v16 =>
  okF (binP .gtr v16 (.int .i64 30)) fun v17 =>
  ifK v17 (
  R (.bool true) W) (
  callK PR F_last_New [] (fun v18 W =>
  joinK (fun s W => S.rostrumlaw11_LastBack.j1 R (nthv s 0) (nthv s 1) W) (fun J1 =>
  loopK (fun K1 s W => S.rostrumlaw11_LastBack.l1 J1 K1 (nthv s 0) (nthv s 1) (nthv s 2) (nthv s 3) W) [v0, v3, v18, (.int .i64 0)] W)) W))) W) W
def S.rostrumlaw11_LastBack.hint : Hint := (.two .nil (.two (.two .nil (.two (.two .nil .nil) .nil)) (.two (.two .nil (.two (.two .nil .nil) .nil)) (.two .nil (.at [3, 5] (.two .nil (.at [0, 3, 5, 6] (.two (.two .nil (.two .nil .nil)) (.two .nil .nil)) .nil)) (.two .nil (.two .nil (.two (.two .nil (.two (.two .nil .nil) .nil)) (.two .nil (.two .nil (.two .nil .nil)))))))))))
theorem S.rostrumlaw11_LastBack.ok (R : Value → World → Prop) (v0 v1 : Value) (W : World) : bodyK PR CB Try.f11 S.rostrumlaw11_LastBack.hint [v0, v1] R W = S.rostrumlaw11_LastBack.body R v0 v1 W := by kernel_rfl
theorem S.rostrumlaw11_LastBack.fn : PR.funcs[F_rostrumlaw11_LastBack]? = some Try.f11 := by kernel_rfl
theorem S.rostrumlaw11_LastBack.call {R : Value → World → Prop} {v0 v1 : Value} {W : World} (h : S.rostrumlaw11_LastBack.body R v0 v1 W) : callK PR F_rostrumlaw11_LastBack [v0, v1] R W :=
  callK_of_body (g := F_rostrumlaw11_LastBack) (fn := Try.f11) (args := [v0, v1]) (R := R) (w := W) mixed CBok S.rostrumlaw11_LastBack.fn S.rostrumlaw11_LastBack.hint (by rw [S.rostrumlaw11_LastBack.ok]; exact h)
end Go.Proofs.Ytfmidjlgpakilaa
