import Derived.Test.YtmojfpaagokckaaBase
namespace Go.Proofs.Ytmojfpaagokckaa
set_option linter.unusedVariables false
set_option linter.unusedSimpArgs false
open Go.Eng
/-! ### rostrum/orset.New (11) -/
def S.orset_New.body (R : Value → World → Prop) (W : World) : Prop :=
  efK PR (Instr.makeMap T_m_api_Dot_string none) (fun v1 W =>
  efK PR (Instr.makeMap T_m_string_vec_Vec none) (fun v2 W =>
  okF (bldP (fun i => ([(0, 1), (1, 1)] : List (Nat × Nat))[i]?) [.map none, .map none] [(0, v1), (1, v2)]) fun v3 =>
  efK PR (Instr.box T_orset_Set v3) (fun v4 W =>
  R v4 W) W) W) W
def S.orset_New.hint : Hint := (.two .nil (.two .nil .nil))
theorem S.orset_New.ok (R : Value → World → Prop) (W : World) : bodyK PR CB Try.f11 S.orset_New.hint [] R W = S.orset_New.body R  W := by kernel_rfl
theorem S.orset_New.fn : PR.funcs[F_orset_New]? = some Try.f11 := by kernel_rfl
theorem S.orset_New.call {R : Value → World → Prop} {W : World} (h : S.orset_New.body R  W) : callK PR F_orset_New [] R W :=
  callK_of_body (g := F_orset_New) (fn := Try.f11) (args := []) (R := R) (w := W) mixed CBok S.orset_New.fn S.orset_New.hint (by rw [S.orset_New.ok]; exact h)
/-! ### (*rostrum/orset.Set).Remove (12) -/
def S.orset_Set_Remove.body (R : Value → World → Prop) (v0 v1 v2 : Value) (W : World) : Prop :=
  efK PR (Instr.box T_vec_Vec v2) (fun v5 W =>
  okF (lenP .string v1) fun v8 =>
  okF (binP .gtr v8 (.int .i64 100)) fun v9 =>
  gdK (wantd v9 false) (fun k W => rdK PR (Instr.loadAt T_vec_Vec v5) k W) (fun v11 W =>
  gdK (wantd v9 false) (fun k W => callK PR F_vec_Good [v11] k W) (fun v12 W =>
  gdK (wantd v9 false) (fun k W => okF (unP .not v12) fun v => k v W) (fun v13 W =>
  okF (pickP v9 (.bool true) v13) fun v14 =>
  ifK v14 (
  R (.int .i64 1) W) (
  okF (nilP v0) fun v16 =>
  okF (addrF 1 v16) fun v17 =>
  rdK PR (Instr.loadAt T_m_string_vec_Vec v17) (fun v18 W =>
  okF (nilP v0) fun v21 =>
  okF (addrF 1 v21) fun v22 =>
  rdK PR (Instr.loadAt T_m_string_vec_Vec v22) (fun v23 W =>
  rdK PR (Instr.lookup T_m_string_vec_Vec v23 v1 false) (fun v25 W =>
  rdK PR (Instr.loadAt T_vec_Vec v5) (fun v26 W =>
  callK PR F_vec_Merge [v25, v26] (fun v27 W =>
  stb PR [(3, true, (Instr.loadAt T_m_string_vec_Vec v17), v18)] (fun W =>
  efK PR (Instr.mapUpdate T_m_string_vec_Vec v18 v1 v27) (fun _ W =>
  R (.int .i64 0) W) W) W) W) W) W) W) (tick W))) W) W) W) W
def S.orset_Set_Remove.hint : Hint := (.two .nil (.two (.two .nil (.two (.two .nil .nil) .nil)) (.two .nil (.two .nil .nil))))
theorem S.orset_Set_Remove.ok (R : Value → World → Prop) (v0 v1 v2 : Value) (W : World) : bodyK PR CB Try.f12 S.orset_Set_Remove.hint [v0, v1, v2] R W = S.orset_Set_Remove.body R v0 v1 v2 W := by kernel_rfl
theorem S.orset_Set_Remove.fn : PR.funcs[F_orset_Set_Remove]? = some Try.f12 := by kernel_rfl
theorem S.orset_Set_Remove.call {R : Value → World → Prop} {v0 v1 v2 : Value} {W : World} (h : S.orset_Set_Remove.body R v0 v1 v2 W) : callK PR F_orset_Set_Remove [v0, v1, v2] R W :=
  callK_of_body (g := F_orset_Set_Remove) (fn := Try.f12) (args := [v0, v1, v2]) (R := R) (w := W) mixed CBok S.orset_Set_Remove.fn S.orset_Set_Remove.hint (by rw [S.orset_Set_Remove.ok]; exact h)
/-! ### (*rostrum/orset.Set).Add (13) -/
def S.orset_Set_Add.body (R : Value → World → Prop) (v0 v1 v2 : Value) (W : World) : Prop :=
  efK PR (Instr.box T_api_Dot v1) (fun v4 W =>
  rdK PR (Instr.loadAt T_api_Dot v4) (fun v9 W =>
  callK PR F_vec_Dot [v9] (fun v10 W =>
  okF (unP .not v10) fun v11 =>
  gdK (wantd v11 false) (fun k W => k v2 W) (fun v13 W =>
  gdK (wantd v11 false) (fun k W => okF (lenP .string v13) fun v => k v W) (fun v14 W =>
  gdK (wantd v11 false) (fun k W => okF (binP .gtr v14 (.int .i64 100)) fun v => k v W) (fun v15 W =>
  okF (pickP v11 (.bool true) v15) fun v16 =>
  ifK v16 (
  R (.int .i64 1) W) (
  okF (nilP v0) fun v19 =>
  okF (addrF 0 v19) fun v20 =>
  rdK PR (Instr.loadAt T_m_api_Dot_string v20) (fun v21 W =>
  rdK PR (Instr.loadAt T_api_Dot v4) (fun v22 W =>
  rdK PR (Instr.lookup T_m_api_Dot_string v21 v22 true) (fun v23 W =>
  okF (extP 0 v23) fun v24 =>
  okF (extP 1 v23) fun v25 =>
  gdK (wantd v25 true) (fun k W => k v24 W) (fun v28 W =>
  gdK (wantd v25 true) (fun k W => k v2 W) (fun v29 W =>
  gdK (wantd v25 true) (fun k W => okF (binP .neq v28 v29) fun v => k v W) (fun v30 W =>
  okF (pickP v25 v30 (.bool false)) fun v31 =>
  ifK v31 (
  R (.int .i64 5) W) (
  okF (nilP v0) fun v33 =>
  okF (addrF 0 v33) fun v34 =>
  rdK PR (Instr.loadAt T_m_api_Dot_string v34) (fun v35 W =>
  rdK PR (Instr.loadAt T_api_Dot v4) (fun v36 W =>
  efK PR (Instr.mapUpdate T_m_api_Dot_string v35 v36 v2) (fun _ W =>
  R (.int .i64 0) W) W) W) (tick W))) W) W) W) W) W) (tick W))) W) W) W) W) W) W
def S.orset_Set_Add.hint : Hint := (.two .nil (.two (.two .nil (.two (.two .nil .nil) .nil)) (.two (.two .nil (.two .nil (.two (.two .nil .nil) .nil))) (.two .nil (.two .nil .nil)))))
theorem S.orset_Set_Add.ok (R : Value → World → Prop) (v0 v1 v2 : Value) (W : World) : bodyK PR CB Try.f13 S.orset_Set_Add.hint [v0, v1, v2] R W = S.orset_Set_Add.body R v0 v1 v2 W := by kernel_rfl
theorem S.orset_Set_Add.fn : PR.funcs[F_orset_Set_Add]? = some Try.f13 := by kernel_rfl
theorem S.orset_Set_Add.call {R : Value → World → Prop} {v0 v1 v2 : Value} {W : World} (h : S.orset_Set_Add.body R v0 v1 v2 W) : callK PR F_orset_Set_Add [v0, v1, v2] R W :=
  callK_of_body (g := F_orset_Set_Add) (fn := Try.f13) (args := [v0, v1, v2]) (R := R) (w := W) mixed CBok S.orset_Set_Add.fn S.orset_Set_Add.hint (by rw [S.orset_Set_Add.ok]; exact h)
/-! ### (*rostrum/orset.Set).Has (15) -/
def S.orset_Set_Has.body (R : Value → World → Prop) (v0 v1 : Value) (W : World) : Prop :=
  callK PR F_orset_Set_Dots [v0, v1] (fun v7 W =>
  okF (lenP (.slice T_api_Dot) v7) fun v8 =>
  okF (binP .gtr v8 (.int .i64 0)) fun v9 =>
  R v9 W) W
def S.orset_Set_Has.hint : Hint := (.two .nil (.two .nil .nil))
theorem S.orset_Set_Has.ok (R : Value → World → Prop) (v0 v1 : Value) (W : World) : bodyK PR CB Try.f15 S.orset_Set_Has.hint [v0, v1] R W = S.orset_Set_Has.body R v0 v1 W := by kernel_rfl
theorem S.orset_Set_Has.fn : PR.funcs[F_orset_Set_Has]? = some Try.f15 := by kernel_rfl
theorem S.orset_Set_Has.call {R : Value → World → Prop} {v0 v1 : Value} {W : World} (h : S.orset_Set_Has.body R v0 v1 W) : callK PR F_orset_Set_Has [v0, v1] R W :=
  callK_of_body (g := F_orset_Set_Has) (fn := Try.f15) (args := [v0, v1]) (R := R) (w := W) mixed CBok S.orset_Set_Has.fn S.orset_Set_Has.hint (by rw [S.orset_Set_Has.ok]; exact h)
/-! ### (*rostrum/orset.Set).All (19) -/
def S.orset_Set_All.j1 (R : Value → World → Prop) (x3 : Value) (W : World) : Prop :=
  callK PR F_slices_Sort_string_string [x3] (fun v25 W =>
  callK PR F_slices_Compact_string_string [x3] (fun v27 W =>
  R v27 W) W) W
def S.orset_Set_All.l1 (J1 : List Value → World → Prop) (K1 : List Value → World → Prop) (x0 x3 x10 : Value) (W : World) : Prop :=
  efK PR (Instr.next x10 false T_t0) (fun v11 W =>
  okF (extP 0 v11) fun v12 =>
  ifK v12 (
  efK PR (Instr.entry x10) (fun v13 W =>
  okF (extP 0 v13) fun v14 =>
  okF (extP 1 v13) fun v15 =>
  efK PR (Instr.alloc T_api_Dot true (.tuple #[])) (fun v4 W =>
  efK PR (Instr.storeAt T_api_Dot v4 v14) (fun _ W =>
  rdK PR (Instr.loadAt T_api_Dot v4) (fun v17 W =>
  callK PR F_orset_Set_live [x0, v17, v15] (fun v19 W =>
  ifK v19 (
  efK PR (Instr.buildSlice T_s_string 1 #[(0, v15)]) (fun v22 W =>
  efK PR (Builtin.append_ #[T_s_string, T_s_string] T_s_string #[x3, v22]) (fun v23 W =>
  K1 [x0, v23, x10] W) W) W) (
  K1 [x0, x3, x10] W)) W) W) W) W) W) (
  J1 [x3] W)) W
def S.orset_Set_All.body (R : Value → World → Prop) (v0 : Value) (W : World) : Prop :=
  joinK (fun s W => S.orset_Set_All.j1 R (nthv s 0) W) (fun J1 =>
  okF (nilP v0) fun v7 =>
  okF (addrF 0 v7) fun v8 =>
  rdK PR (Instr.loadAt T_m_api_Dot_string v8) (fun v9 W =>
  efK PR (Instr.range T_m_api_Dot_string v9) (fun v10 W =>
  loopK (fun K1 s W => S.orset_Set_All.l1 J1 K1 (nthv s 0) (nthv s 1) (nthv s 2) W) [v0, (.slice none 0 0), v10] W) W) W)
def S.orset_Set_All.hint : Hint := (.two .nil (.two .nil (.at [3] (.two .nil (.at [0, 3, 10] (.two .nil (.two (.two .nil .nil) (.two .nil (.two .nil (.two .nil .nil))))) .nil)) (.two .nil (.two .nil .nil)))))
theorem S.orset_Set_All.ok (R : Value → World → Prop) (v0 : Value) (W : World) : bodyK PR CB Try.f19 S.orset_Set_All.hint [v0] R W = S.orset_Set_All.body R v0 W := by kernel_rfl
theorem S.orset_Set_All.fn : PR.funcs[F_orset_Set_All]? = some Try.f19 := by kernel_rfl
theorem S.orset_Set_All.call {R : Value → World → Prop} {v0 : Value} {W : World} (h : S.orset_Set_All.body R v0 W) : callK PR F_orset_Set_All [v0] R W :=
  callK_of_body (g := F_orset_Set_All) (fn := Try.f19) (args := [v0]) (R := R) (w := W) mixed CBok S.orset_Set_All.fn S.orset_Set_All.hint (by rw [S.orset_Set_All.ok]; exact h)
/-! ### (*rostrum/orset.Set).Dots (22) -/
def S.orset_Set_Dots.j1 (R : Value → World → Prop) (x5 : Value) (W : World) : Prop :=
  callK PR F_slices_SortFunc_api_Dot_api_Dot [x5, (.func (.func F_dots_Order) #[] #[])] (fun v32 W =>
  R x5 W) W
def S.orset_Set_Dots.l1 (J1 : List Value → World → Prop) (K1 : List Value → World → Prop) (x0 x1 x5 x12 : Value) (W : World) : Prop :=
  efK PR (Instr.next x12 false T_t0) (fun v13 W =>
  okF (extP 0 v13) fun v14 =>
  ifK v14 (
  efK PR (Instr.entry x12) (fun v15 W =>
  okF (extP 0 v15) fun v16 =>
  okF (extP 1 v15) fun v17 =>
  efK PR (Instr.alloc T_api_Dot true (.tuple #[])) (fun v6 W =>
  efK PR (Instr.storeAt T_api_Dot v6 v16) (fun _ W =>
  okF (binP .eql x1 v17) fun v20 =>
  gdK (wantd v20 true) (fun k W => k x0 W) (fun v22 W =>
  gdK (wantd v20 true) (fun k W => rdK PR (Instr.loadAt T_api_Dot v6) k W) (fun v23 W =>
  gdK (wantd v20 true) (fun k W => k x1 W) (fun v24 W =>
  gdK (wantd v20 true) (fun k W => callK PR F_orset_Set_live [v22, v23, v24] k W) (fun v25 W =>
  okF (pickP v20 v25 (.bool false)) fun v26 =>
  ifK v26 (
  rdK PR (Instr.loadAt T_api_Dot v6) (fun v28 W =>
  efK PR (Instr.buildSlice T_s_api_Dot 1 #[(0, v28)]) (fun v29 W =>
  efK PR (Builtin.append_ #[T_s_api_Dot, T_s_api_Dot] T_s_api_Dot #[x5, v29]) (fun v30 W =>
  K1 [x0, x1, v30, x12] W) W) W) W) (
  K1 [x0, x1, x5, x12] W)) W) W) W) W) W) W) W) (
  J1 [x5] W)) W
def S.orset_Set_Dots.body (R : Value → World → Prop) (v0 v1 : Value) (W : World) : Prop :=
  joinK (fun s W => S.orset_Set_Dots.j1 R (nthv s 0) W) (fun J1 =>
  okF (nilP v0) fun v9 =>
  okF (addrF 0 v9) fun v10 =>
  rdK PR (Instr.loadAt T_m_api_Dot_string v10) (fun v11 W =>
  efK PR (Instr.range T_m_api_Dot_string v11) (fun v12 W =>
  loopK (fun K1 s W => S.orset_Set_Dots.l1 J1 K1 (nthv s 0) (nthv s 1) (nthv s 2) (nthv s 3) W) [v0, v1, (.slice none 0 0), v12] W) W) W)
def S.orset_Set_Dots.hint : Hint := (.two .nil (.two .nil (.at [5] (.two .nil (.at [0, 1, 5, 12] (.two .nil (.two (.two .nil .nil) (.two .nil (.two .nil (.two .nil .nil))))) .nil)) (.two .nil (.two .nil .nil)))))
theorem S.orset_Set_Dots.ok (R : Value → World → Prop) (v0 v1 : Value) (W : World) : bodyK PR CB Try.f22 S.orset_Set_Dots.hint [v0, v1] R W = S.orset_Set_Dots.body R v0 v1 W := by kernel_rfl
theorem S.orset_Set_Dots.fn : PR.funcs[F_orset_Set_Dots]? = some Try.f22 := by kernel_rfl
theorem S.orset_Set_Dots.call {R : Value → World → Prop} {v0 v1 : Value} {W : World} (h : S.orset_Set_Dots.body R v0 v1 W) : callK PR F_orset_Set_Dots [v0, v1] R W :=
  callK_of_body (g := F_orset_Set_Dots) (fn := Try.f22) (args := [v0, v1]) (R := R) (w := W) mixed CBok S.orset_Set_Dots.fn S.orset_Set_Dots.hint (by rw [S.orset_Set_Dots.ok]; exact h)
/-! ### (*rostrum/orset.Set).Put (24) -/
def S.orset_Set_Put.j1 (R : Value → World → Prop) (x1 : Value) (W : World) : Prop :=
  R x1 W
def S.orset_Set_Put.j2 (K1 : List Value → World → Prop) (x0 x1 x17 x18 x19 : Value) (W : World) : Prop :=
  okF (binP .add x19 (.int .i64 1)) fun v46 =>
  K1 [x0, x1, x17, x18, v46] W
def S.orset_Set_Put.l2 (J2 : List Value → World → Prop) (K2 : List Value → World → Prop) (x0 x1 x17 x18 x19 x32 x33 x34 : Value) (W : World) : Prop :=
  okF (binP .lss x34 x33) fun v35 =>
  ifK v35 (
  okF (idxS 2 x32 x34) fun v36 =>
  rdK PR (Instr.loadAt T_api_Dot v36) (fun v37 W =>
  efK PR (Instr.alloc T_api_Dot true (.tuple #[])) (fun v10 W =>
  efK PR (Instr.storeAt T_api_Dot v10 v37) (fun _ W =>
  okF (addrF 0 v10) fun v39 =>
  rdK PR (Instr.loadAt T_int v39) (fun v40 W =>
  okF (addrF 1 v10) fun v42 =>
  rdK PR (Instr.loadAt T_int64 v42) (fun v43 W =>
  callK PR F_pack_Num [x1, v40] (fun v41 W =>
  stb PR [(5, true, (Instr.loadAt T_int64 v42), v43)] (fun W =>
  callK PR F_pack_Num [v41, v43] (fun v44 W =>
  okF (binP .add x34 (.int .i64 1)) fun v45 =>
  K2 [x0, v44, x17, x18, x19, x32, x33, v45] W) W) W) W) W) (tick W)) W) W) W) (
  J2 [x0, x1, x17, x18, x19] W)
def S.orset_Set_Put.l1 (J1 : List Value → World → Prop) (K1 : List Value → World → Prop) (x0 x1 x17 x18 x19 : Value) (W : World) : Prop :=
  okF (binP .lss x19 x18) fun v20 =>
  ifK v20 (
  joinK (fun s W => S.orset_Set_Put.j2 K1 (nthv s 0) (nthv s 1) (nthv s 2) (nthv s 3) (nthv s 4) W) (fun J2 =>
  okF (idxS 1 x17 x19) fun v21 =>
  rdK PR (Instr.loadAt T_string v21) (fun v22 W =>
  callK PR F_orset_Set_Dots [x0, v22] (fun v25 W =>
  callK PR F_pack_Text [x1, v22] (fun v28 W =>
  okF (lenP (.slice T_api_Dot) v25) fun v30 =>
  callK PR F_pack_Num [v28, v30] (fun v31 W =>
  okF (lenP (.slice T_api_Dot) v25) fun v33 =>
  loopK (fun K2 s W => S.orset_Set_Put.l2 J2 K2 (nthv s 0) (nthv s 1) (nthv s 2) (nthv s 3) (nthv s 4) (nthv s 5) (nthv s 6) (nthv s 7) W) [x0, v31, x17, x18, x19, v25, v33, (.int .i64 0)] W) W) W) W) W)) (
  J1 [x1] W)
def S.orset_Set_Put.body (R : Value → World → Prop) (v0 v1 : Value) (W : World) : Prop :=
  callK PR F_orset_Set_All [v0] (fun v12 W =>
  okF (lenP (.slice T_string) v12) fun v15 =>
  callK PR F_pack_Num [v1, v15] (fun v16 W =>
  joinK (fun s W => S.orset_Set_Put.j1 R (nthv s 0) W) (fun J1 =>
  okF (lenP (.slice T_string) v12) fun v18 =>
  loopK (fun K1 s W => S.orset_Set_Put.l1 J1 K1 (nthv s 0) (nthv s 1) (nthv s 2) (nthv s 3) (nthv s 4) W) [v0, v16, v12, v18, (.int .i64 0)] W)) W) W
def S.orset_Set_Put.hint : Hint := (.two .nil (.two .nil (.two .nil (.at [1] (.two .nil (.at [0, 1, 17, 18, 19] (.two .nil (.two (.two .nil .nil) (.at [0, 1, 17, 18, 19] (.two .nil (.two .nil (.two .nil (.two .nil (.at [0, 1, 17, 18, 19, 32, 33, 34] (.two .nil (.two (.two .nil .nil) (.two (.two .nil .nil) .nil))) .nil))))) .nil))) .nil)) (.two .nil .nil)))))
theorem S.orset_Set_Put.ok (R : Value → World → Prop) (v0 v1 : Value) (W : World) : bodyK PR CB Try.f24 S.orset_Set_Put.hint [v0, v1] R W = S.orset_Set_Put.body R v0 v1 W := by kernel_rfl
theorem S.orset_Set_Put.fn : PR.funcs[F_orset_Set_Put]? = some Try.f24 := by kernel_rfl
theorem S.orset_Set_Put.call {R : Value → World → Prop} {v0 v1 : Value} {W : World} (h : S.orset_Set_Put.body R v0 v1 W) : callK PR F_orset_Set_Put [v0, v1] R W :=
  callK_of_body (g := F_orset_Set_Put) (fn := Try.f24) (args := [v0, v1]) (R := R) (w := W) mixed CBok S.orset_Set_Put.fn S.orset_Set_Put.hint (by rw [S.orset_Set_Put.ok]; exact h)
/-! ### (*rostrum/orset.Set).Copy (26) -/
def S.orset_Set_Copy.body (R : Value → World → Prop) (v0 : Value) (W : World) : Prop :=
  okF (nilP v0) fun v4 =>
  okF (addrF 0 v4) fun v5 =>
  rdK PR (Instr.loadAt T_m_api_Dot_string v5) (fun v6 W =>
  okF (nilP v0) fun v9 =>
  okF (addrF 1 v9) fun v10 =>
  rdK PR (Instr.loadAt T_m_string_vec_Vec v10) (fun v11 W =>
  callK PR F_maps_Clone_map_api_Dot_string_api_Dot_string [v6] (fun v7 W =>
  stb PR [(8, true, (Instr.loadAt T_m_string_vec_Vec v10), v11)] (fun W =>
  callK PR F_maps_Clone_map_string_vec_Vec_string_vec_Vec [v11] (fun v12 W =>
  okF (bldP (fun i => ([(0, 1), (1, 1)] : List (Nat × Nat))[i]?) [.map none, .map none] [(0, v7), (1, v12)]) fun v13 =>
  efK PR (Instr.box T_orset_Set v13) (fun v14 W =>
  R v14 W) W) W) W) W) W) (tick W)
def S.orset_Set_Copy.hint : Hint := (.two .nil (.two .nil .nil))
theorem S.orset_Set_Copy.ok (R : Value → World → Prop) (v0 : Value) (W : World) : bodyK PR CB Try.f26 S.orset_Set_Copy.hint [v0] R W = S.orset_Set_Copy.body R v0 W := by kernel_rfl
theorem S.orset_Set_Copy.fn : PR.funcs[F_orset_Set_Copy]? = some Try.f26 := by kernel_rfl
theorem S.orset_Set_Copy.call {R : Value → World → Prop} {v0 : Value} {W : World} (h : S.orset_Set_Copy.body R v0 W) : callK PR F_orset_Set_Copy [v0] R W :=
  callK_of_body (g := F_orset_Set_Copy) (fn := Try.f26) (args := [v0]) (R := R) (w := W) mixed CBok S.orset_Set_Copy.fn S.orset_Set_Copy.hint (by rw [S.orset_Set_Copy.ok]; exact h)
/-! ### rostrum/orset.Same (27) -/
def S.orset_Same.l1 (R : Value → World → Prop) (K1 : List Value → World → Prop) (x0 x1 x15 x16 x17 : Value) (W : World) : Prop :=
  okF (binP .lss x17 x16) fun v18 =>
  ifK v18 (
  okF (idxS 1 x15 x17) fun v19 =>
  rdK PR (Instr.loadAt T_string v19) (fun v20 W =>
  callK PR F_orset_Set_Dots [x0, v20] (fun v23 W =>
  callK PR F_orset_Set_Dots [x1, v20] (fun v26 W =>
  callK PR F_slices_Equal_api_Dot_api_Dot [v23, v26] (fun v27 W =>
  okF (unP .not v27) fun v28 =>
  ifK v28 (
  R (.bool false) W) (
  okF (binP .add x17 (.int .i64 1)) fun v29 =>
  K1 [x0, x1, x15, x16, v29] W)) W) W) W) W) (
  R (.bool true) W)
def S.orset_Same.body (R : Value → World → Prop) (v0 v1 : Value) (W : World) : Prop :=
  callK PR F_orset_Set_All [v0] (fun v9 W =>
  callK PR F_orset_Set_All [v1] (fun v12 W =>
  callK PR F_slices_Equal_string_string [v9, v12] (fun v13 W =>
  okF (unP .not v13) fun v14 =>
  ifK v14 (
  R (.bool false) W) (
  okF (lenP (.slice T_string) v9) fun v16 =>
  loopK (fun K1 s W => S.orset_Same.l1 R K1 (nthv s 0) (nthv s 1) (nthv s 2) (nthv s 3) (nthv s 4) W) [v0, v1, v9, v16, (.int .i64 0)] W)) W) W) W
def S.orset_Same.hint : Hint := (.two .nil (.two .nil (.two (.two .nil (.two (.two .nil .nil) .nil)) (.two (.two .nil (.at [0, 1, 15, 16, 17] (.two .nil (.two (.two .nil .nil) (.two (.two .nil (.two .nil (.two (.two .nil .nil) .nil))) .nil))) .nil)) (.two .nil .nil)))))
theorem S.orset_Same.ok (R : Value → World → Prop) (v0 v1 : Value) (W : World) : bodyK PR CB Try.f27 S.orset_Same.hint [v0, v1] R W = S.orset_Same.body R v0 v1 W := by kernel_rfl
theorem S.orset_Same.fn : PR.funcs[F_orset_Same]? = some Try.f27 := by kernel_rfl
theorem S.orset_Same.call {R : Value → World → Prop} {v0 v1 : Value} {W : World} (h : S.orset_Same.body R v0 v1 W) : callK PR F_orset_Same [v0, v1] R W :=
  callK_of_body (g := F_orset_Same) (fn := Try.f27) (args := [v0, v1]) (R := R) (w := W) mixed CBok S.orset_Same.fn S.orset_Same.hint (by rw [S.orset_Same.ok]; exact h)
/-! ### (*rostrum/orset.Set).Drop (28) -/
def S.orset_Set_Drop.body (R : Value → World → Prop) (v0 v1 : Value) (W : World) : Prop :=
  efK PR (Instr.box T_p_orset_Set v0) (fun v2 W =>
  efK PR (Instr.box T_vec_Vec v1) (fun v3 W =>
  rdK PR (Instr.loadAt T_p_orset_Set v2) (fun v4 W =>
  okF (nilP v4) fun v5 =>
  okF (addrF 0 v5) fun v6 =>
  rdK PR (Instr.loadAt T_m_api_Dot_string v6) (fun v7 W =>
  callK PR F_maps_DeleteFunc_map_api_Dot_string_api_Dot_string [v7, (.func (.func F_orset_Set_Drop_1) #[] #[v2, v3])] (fun v9 W =>
  rdK PR (Instr.loadAt T_p_orset_Set v2) (fun v10 W =>
  okF (nilP v10) fun v11 =>
  okF (addrF 1 v11) fun v12 =>
  rdK PR (Instr.loadAt T_m_string_vec_Vec v12) (fun v13 W =>
  callK PR F_maps_DeleteFunc_map_string_vec_Vec_string_vec_Vec [v13, (.func (.func F_orset_Set_Drop_2) #[] #[v3])] (fun v15 W =>
  R (.tuple #[]) W) W) W) W) W) W) W) W) W
def S.orset_Set_Drop.hint : Hint := (.two .nil (.two .nil .nil))
theorem S.orset_Set_Drop.ok (R : Value → World → Prop) (v0 v1 : Value) (W : World) : bodyK PR CB Try.f28 S.orset_Set_Drop.hint [v0, v1] R W = S.orset_Set_Drop.body R v0 v1 W := by kernel_rfl
theorem S.orset_Set_Drop.fn : PR.funcs[F_orset_Set_Drop]? = some Try.f28 := by kernel_rfl
theorem S.orset_Set_Drop.call {R : Value → World → Prop} {v0 v1 : Value} {W : World} (h : S.orset_Set_Drop.body R v0 v1 W) : callK PR F_orset_Set_Drop [v0, v1] R W :=
  callK_of_body (g := F_orset_Set_Drop) (fn := Try.f28) (args := [v0, v1]) (R := R) (w := W) mixed CBok S.orset_Set_Drop.fn S.orset_Set_Drop.hint (by rw [S.orset_Set_Drop.ok]; exact h)
/-! ### (*rostrum/orset.Set).live (36) -/
def S.orset_Set_live.body (R : Value → World → Prop) (v0 v1 v2 : Value) (W : World) : Prop :=
  efK PR (Instr.box T_api_Dot v1) (fun v4 W =>
  okF (nilP v0) fun v8 =>
  okF (addrF 1 v8) fun v9 =>
  rdK PR (Instr.loadAt T_m_string_vec_Vec v9) (fun v10 W =>
  rdK PR (Instr.lookup T_m_string_vec_Vec v10 v2 false) (fun v12 W =>
  rdK PR (Instr.loadAt T_api_Dot v4) (fun v13 W =>
  callK PR F_vec_Has [v12, v13] (fun v14 W =>
  okF (unP .not v14) fun v15 =>
  R v15 W) W) W) W) (tick W)) W
def S.orset_Set_live.hint : Hint := (.two .nil (.two .nil .nil))
theorem S.orset_Set_live.ok (R : Value → World → Prop) (v0 v1 v2 : Value) (W : World) : bodyK PR CB Try.f36 S.orset_Set_live.hint [v0, v1, v2] R W = S.orset_Set_live.body R v0 v1 v2 W := by kernel_rfl
theorem S.orset_Set_live.fn : PR.funcs[F_orset_Set_live]? = some Try.f36 := by kernel_rfl
theorem S.orset_Set_live.call {R : Value → World → Prop} {v0 v1 v2 : Value} {W : World} (h : S.orset_Set_live.body R v0 v1 v2 W) : callK PR F_orset_Set_live [v0, v1, v2] R W :=
  callK_of_body (g := F_orset_Set_live) (fn := Try.f36) (args := [v0, v1, v2]) (R := R) (w := W) mixed CBok S.orset_Set_live.fn S.orset_Set_live.hint (by rw [S.orset_Set_live.ok]; exact h)
/-! ### slices.Compact[[]string,string] (38) -/
def S.slices_Compact_string_string.j1 (R : Value → World → Prop) (x0 : Value) (W : World) : Prop :=
  R x0 W
def S.slices_Compact_string_string.j2 (K1 : List Value → World → Prop) (x0 x3 : Value) (W : World) : Prop :=
  okF (binP .add x3 (.int .i64 1)) fun v15 =>
  K1 [x0, v15] W
def S.slices_Compact_string_string.j3 (R : Value → World → Prop) (x0 x3 : Value) (W : World) : Prop :=
  okF (slcS 1 x0 (some x3) none none) fun v56 =>
  efK PR (Builtin.clear_ #[T_s_string] T_t0 #[v56]) (fun _ W =>
  okF (slcS 1 x0 none (some x3) none) fun v59 =>
  R v59 W) W
def S.slices_Compact_string_string.j4 (K2 : List Value → World → Prop) (x0 x3 x4 x5 : Value) (W : World) : Prop :=
  okF (binP .add x5 (.int .i64 1)) fun v34 =>
  K2 [x0, x3, x4, v34] W
def S.slices_Compact_string_string.l2 (J3 : List Value → World → Prop) (K2 : List Value → World → Prop) (x0 x3 x4 x5 : Value) (W : World) : Prop :=
  okF (lenP (.slice T_string) x4) fun v31 =>
  okF (binP .lss x5 v31) fun v32 =>
  ifK v32 (
  joinK (fun s W => S.slices_Compact_string_string.j4 K2 (nthv s 0) (nthv s 1) (nthv s 2) (nthv s 3) W) (fun J4 =>
  okF (idxS 1 x4 x5) fun v37 =>
  rdK PR (Instr.loadAt T_string v37) (fun v38 W =>
  okF (binP .sub x5 (.int .i64 1)) fun v41 =>
  okF (idxS 1 x4 v41) fun v42 =>
  rdK PR (Instr.loadAt T_string v42) (fun v43 W =>
  okF (binP .neq v38 v43) fun v44 =>
  ifK v44 (
  okF (idxS 1 x4 x5) fun v49 =>
  rdK PR (Instr.loadAt T_string v49) (fun v50 W =>
  okF (idxS 1 x0 x3) fun v51 =>
  efK PR (Instr.storeAt T_string v51 v50) (fun _ W =>
  okF (binP .add x3 (.int .i64 1)) fun v53 =>
  J4 [x0, v53, x4, x5] W) W) W) (
  J4 [x0, x3, x4, x5] W)) W) (tick W))) (
  J3 [x0, x3] W)
def S.slices_Compact_string_string.l1 (R : Value → World → Prop) (J1 : List Value → World → Prop) (K1 : List Value → World → Prop) (x0 x3 : Value) (W : World) : Prop :=
  okF (lenP (.slice T_string) x0) fun v12 =>
  okF (binP .lss x3 v12) fun v13 =>
  ifK v13 (
  joinK (fun s W => S.slices_Compact_string_string.j2 K1 (nthv s 0) (nthv s 1) W) (fun J2 =>
  okF (idxS 1 x0 x3) fun v18 =>
  rdK PR (Instr.loadAt T_string v18) (fun v19 W =>
  okF (binP .sub x3 (.int .i64 1)) fun v22 =>
  okF (idxS 1 x0 v22) fun v23 =>
  rdK PR (Instr.loadAt T_string v23) (fun v24 W =>
  okF (binP .eql v19 v24) fun v25 =>
  ifK v25 (
  okF (slcS 1 x0 (some x3) none none) fun v28 =>
  joinK (fun s W => S.slices_Compact_string_string.j3 R (nthv s 0) (nthv s 1) W) (fun J3 =>
  loopK (fun K2 s W => S.slices_Compact_string_string.l2 J3 K2 (nthv s 0) (nthv s 1) (nthv s 2) (nthv s 3) W) [x0, x3, v28, (.int .i64 1)] W)) (
  J2 [x0, x3] W)) W) (tick W))) (
  J1 [x0] W)
def S.slices_Compact_string_string.body (R : Value → World → Prop) (v0 : Value) (W : World) : Prop :=
  okF (lenP (.slice T_string) v0) fun v7 =>
  okF (binP .lss v7 (.int .i64 2)) fun v8 =>
  ifK v8 (
  R v0 W) (
  joinK (fun s W => S.slices_Compact_string_string.j1 R (nthv s 0) W) (fun J1 =>
  loopK (fun K1 s W => S.slices_Compact_string_string.l1 R J1 K1 (nthv s 0) (nthv s 1) W) [v0, (.int .i64 1)] W))
def S.slices_Compact_string_string.hint : Hint := (.two .nil (.two (.two .nil (.two (.two .nil .nil) .nil)) (.at [0] (.two .nil (.at [0, 3] (.two (.two .nil (.two .nil .nil)) (.at [0, 3] (.two .nil (.two (.two .nil (.at [0, 3] (.two .nil (.at [0, 3, 4, 5] (.two (.two .nil (.two .nil .nil)) (.at [0, 3, 4, 5] (.two .nil (.two (.two .nil .nil) .nil)) .nil)) .nil)) (.two .nil (.two .nil .nil)))) .nil)) .nil)) .nil)) (.two .nil .nil))))
theorem S.slices_Compact_string_string.ok (R : Value → World → Prop) (v0 : Value) (W : World) : bodyK PR CB Try.f38 S.slices_Compact_string_string.hint [v0] R W = S.slices_Compact_string_string.body R v0 W := by kernel_rfl
theorem S.slices_Compact_string_string.fn : PR.funcs[F_slices_Compact_string_string]? = some Try.f38 := by kernel_rfl
theorem S.slices_Compact_string_string.call {R : Value → World → Prop} {v0 : Value} {W : World} (h : S.slices_Compact_string_string.body R v0 W) : callK PR F_slices_Compact_string_string [v0] R W :=
  callK_of_body (g := F_slices_Compact_string_string) (fn := Try.f38) (args := [v0]) (R := R) (w := W) mixed CBok S.slices_Compact_string_string.fn S.slices_Compact_string_string.hint (by rw [S.slices_Compact_string_string.ok]; exact h)
/-! ### slices.Equal[[]string,string] (49) -/
def S.slices_Equal_string_string.l1 (R : Value → World → Prop) (K1 : List Value → World → Prop) (x0 x1 x12 x13 : Value) (W : World) : Prop :=
  okF (binP .lss x13 x12) fun v14 =>
  ifK v14 (
  okF (idxS 1 x0 x13) fun v18 =>
  rdK PR (Instr.loadAt T_string v18) (fun v19 W =>
  okF (idxS 1 x1 x13) fun v22 =>
  rdK PR (Instr.loadAt T_string v22) (fun v23 W =>
  okF (binP .neq v19 v23) fun v24 =>
  ifK v24 (
  R (.bool false) W) (
  okF (binP .add x13 (.int .i64 1)) fun v25 =>
  K1 [x0, x1, x12, v25] W)) W) (tick W)) (
  R (.bool true) W)
def S.slices_Equal_string_string.body (R : Value → World → Prop) (v0 v1 : Value) (W : World) : Prop :=
  okF (lenP (.slice T_string) v0) fun v7 =>
  okF (lenP (.slice T_string) v1) fun v9 =>
  okF (binP .neq v7 v9) fun v10 =>
  ifK v10 (
  R (.bool false) W) (
  okF (lenP (.slice T_string) v0) fun v12 =>
  loopK (fun K1 s W => S.slices_Equal_string_string.l1 R K1 (nthv s 0) (nthv s 1) (nthv s 2) (nthv s 3) W) [v0, v1, v12, (.int .i64 0)] W)
def S.slices_Equal_string_string.hint : Hint := (.two .nil (.two (.two .nil (.two (.two .nil .nil) .nil)) (.two (.two .nil (.at [0, 1, 12, 13] (.two .nil (.two (.two .nil .nil) (.two (.two .nil (.two .nil (.two (.two .nil .nil) .nil))) .nil))) .nil)) (.two .nil .nil))))
theorem S.slices_Equal_string_string.ok (R : Value → World → Prop) (v0 v1 : Value) (W : World) : bodyK PR CB Try.f49 S.slices_Equal_string_string.hint [v0, v1] R W = S.slices_Equal_string_string.body R v0 v1 W := by kernel_rfl
theorem S.slices_Equal_string_string.fn : PR.funcs[F_slices_Equal_string_string]? = some Try.f49 := by kernel_rfl
theorem S.slices_Equal_string_string.call {R : Value → World → Prop} {v0 v1 : Value} {W : World} (h : S.slices_Equal_string_string.body R v0 v1 W) : callK PR F_slices_Equal_string_string [v0, v1] R W :=
  callK_of_body (g := F_slices_Equal_string_string) (fn := Try.f49) (args := [v0, v1]) (R := R) (w := W) mixed CBok S.slices_Equal_string_string.fn S.slices_Equal_string_string.hint (by rw [S.slices_Equal_string_string.ok]; exact h)
/-! ### slices.Equal[[]rostrum/api.Dot,rostrum/api.Dot] (50) -/
def S.slices_Equal_api_Dot_api_Dot.l1 (R : Value → World → Prop) (K1 : List Value → World → Prop) (x0 x1 x12 x13 : Value) (W : World) : Prop :=
  okF (binP .lss x13 x12) fun v14 =>
  ifK v14 (
  okF (idxS 2 x0 x13) fun v18 =>
  rdK PR (Instr.loadAt T_api_Dot v18) (fun v19 W =>
  okF (idxS 2 x1 x13) fun v22 =>
  rdK PR (Instr.loadAt T_api_Dot v22) (fun v23 W =>
  rdK PR (aggEq .neq T_api_Dot v19 v23) (fun v24 W =>
  ifK v24 (
  R (.bool false) W) (
  okF (binP .add x13 (.int .i64 1)) fun v25 =>
  K1 [x0, x1, x12, v25] W)) W) W) (tick W)) (
  R (.bool true) W)
def S.slices_Equal_api_Dot_api_Dot.body (R : Value → World → Prop) (v0 v1 : Value) (W : World) : Prop :=
  okF (lenP (.slice T_api_Dot) v0) fun v7 =>
  okF (lenP (.slice T_api_Dot) v1) fun v9 =>
  okF (binP .neq v7 v9) fun v10 =>
  ifK v10 (
  R (.bool false) W) (
  okF (lenP (.slice T_api_Dot) v0) fun v12 =>
  loopK (fun K1 s W => S.slices_Equal_api_Dot_api_Dot.l1 R K1 (nthv s 0) (nthv s 1) (nthv s 2) (nthv s 3) W) [v0, v1, v12, (.int .i64 0)] W)
def S.slices_Equal_api_Dot_api_Dot.hint : Hint := (.two .nil (.two (.two .nil (.two (.two .nil .nil) .nil)) (.two (.two .nil (.at [0, 1, 12, 13] (.two .nil (.two (.two .nil .nil) (.two (.two .nil (.two .nil (.two (.two .nil .nil) .nil))) .nil))) .nil)) (.two .nil .nil))))
theorem S.slices_Equal_api_Dot_api_Dot.ok (R : Value → World → Prop) (v0 v1 : Value) (W : World) : bodyK PR CB Try.f50 S.slices_Equal_api_Dot_api_Dot.hint [v0, v1] R W = S.slices_Equal_api_Dot_api_Dot.body R v0 v1 W := by kernel_rfl
theorem S.slices_Equal_api_Dot_api_Dot.fn : PR.funcs[F_slices_Equal_api_Dot_api_Dot]? = some Try.f50 := by kernel_rfl
theorem S.slices_Equal_api_Dot_api_Dot.call {R : Value → World → Prop} {v0 v1 : Value} {W : World} (h : S.slices_Equal_api_Dot_api_Dot.body R v0 v1 W) : callK PR F_slices_Equal_api_Dot_api_Dot [v0, v1] R W :=
  callK_of_body (g := F_slices_Equal_api_Dot_api_Dot) (fn := Try.f50) (args := [v0, v1]) (R := R) (w := W) mixed CBok S.slices_Equal_api_Dot_api_Dot.fn S.slices_Equal_api_Dot_api_Dot.hint (by rw [S.slices_Equal_api_Dot_api_Dot.ok]; exact h)
/-! ### maps.DeleteFunc[map[rostrum/api.Dot]string,rostrum/api.Dot,string] (51) -/
def S.maps_DeleteFunc_map_api_Dot_string_api_Dot_string.l1 (R : Value → World → Prop) (K1 : List Value → World → Prop) (x0 x1 x7 : Value) (W : World) : Prop :=
  efK PR (Instr.next x7 false T_t0) (fun v8 W =>
  okF (extP 0 v8) fun v9 =>
  ifK v9 (
  efK PR (Instr.entry x7) (fun v10 W =>
  okF (extP 0 v10) fun v11 =>
  okF (extP 1 v10) fun v12 =>
  efK PR (Instr.alloc T_api_Dot true (.tuple #[])) (fun v4 W =>
  efK PR (Instr.storeAt T_api_Dot v4 v11) (fun _ W =>
  rdK PR (Instr.loadAt T_api_Dot v4) (fun v14 W =>
  vcK PR x1 [v14, v12] (fun v16 W =>
  ifK v16 (
  rdK PR (Instr.loadAt T_api_Dot v4) (fun v18 W =>
  efK PR (Builtin.delete_ #[T_m_api_Dot_string, T_api_Dot] T_t0 #[x0, v18]) (fun _ W =>
  K1 [x0, x1, x7] W) W) W) (
  K1 [x0, x1, x7] W)) W) W) W) W) W) (
  R (.tuple #[]) W)) W
def S.maps_DeleteFunc_map_api_Dot_string_api_Dot_string.body (R : Value → World → Prop) (v0 v1 : Value) (W : World) : Prop :=
  efK PR (Instr.range T_m_api_Dot_string v0) (fun v7 W =>
  loopK (fun K1 s W => S.maps_DeleteFunc_map_api_Dot_string_api_Dot_string.l1 R K1 (nthv s 0) (nthv s 1) (nthv s 2) W) [v0, v1, v7] W) W
def S.maps_DeleteFunc_map_api_Dot_string_api_Dot_string.hint : Hint := (.two .nil (.at [0, 1, 7] (.two .nil (.two (.two .nil .nil) (.two .nil (.two .nil (.two .nil .nil))))) .nil))
theorem S.maps_DeleteFunc_map_api_Dot_string_api_Dot_string.ok (R : Value → World → Prop) (v0 v1 : Value) (W : World) : bodyK PR CB Try.f51 S.maps_DeleteFunc_map_api_Dot_string_api_Dot_string.hint [v0, v1] R W = S.maps_DeleteFunc_map_api_Dot_string_api_Dot_string.body R v0 v1 W := by kernel_rfl
theorem S.maps_DeleteFunc_map_api_Dot_string_api_Dot_string.fn : PR.funcs[F_maps_DeleteFunc_map_api_Dot_string_api_Dot_string]? = some Try.f51 := by kernel_rfl
theorem S.maps_DeleteFunc_map_api_Dot_string_api_Dot_string.call {R : Value → World → Prop} {v0 v1 : Value} {W : World} (h : S.maps_DeleteFunc_map_api_Dot_string_api_Dot_string.body R v0 v1 W) : callK PR F_maps_DeleteFunc_map_api_Dot_string_api_Dot_string [v0, v1] R W :=
  callK_of_body (g := F_maps_DeleteFunc_map_api_Dot_string_api_Dot_string) (fn := Try.f51) (args := [v0, v1]) (R := R) (w := W) mixed CBok S.maps_DeleteFunc_map_api_Dot_string_api_Dot_string.fn S.maps_DeleteFunc_map_api_Dot_string_api_Dot_string.hint (by rw [S.maps_DeleteFunc_map_api_Dot_string_api_Dot_string.ok]; exact h)
/-! ### (*rostrum/orset.Set).Drop$1 (52) -/
def S.orset_Set_Drop_1.body (R : Value → World → Prop) (v0 v1 v2 v3 : Value) (W : World) : Prop :=
  efK PR (Instr.box T_api_Dot v0) (fun v4 W =>
  rdK PR (Instr.loadAt T_p_orset_Set v2) (fun v7 W =>
  rdK PR (Instr.loadAt T_api_Dot v4) (fun v8 W =>
  callK PR F_orset_Set_live [v7, v8, v1] (fun v10 W =>
  okF (unP .not v10) fun v11 =>
  gdK (wantd v11 true) (fun k W => rdK PR (Instr.loadAt T_vec_Vec v3) k W) (fun v13 W =>
  gdK (wantd v11 true) (fun k W => rdK PR (Instr.loadAt T_api_Dot v4) k W) (fun v14 W =>
  gdK (wantd v11 true) (fun k W => callK PR F_vec_Has [v13, v14] k W) (fun v15 W =>
  okF (pickP v11 v15 (.bool false)) fun v16 =>
  R v16 W) W) W) W) W) W) W) W
def S.orset_Set_Drop_1.hint : Hint := (.two .nil (.two .nil .nil))
theorem S.orset_Set_Drop_1.ok (R : Value → World → Prop) (v0 v1 v2 v3 : Value) (W : World) : bodyK PR CB Try.f52 S.orset_Set_Drop_1.hint [v0, v1, v2, v3] R W = S.orset_Set_Drop_1.body R v0 v1 v2 v3 W := by kernel_rfl
theorem S.orset_Set_Drop_1.fn : PR.funcs[F_orset_Set_Drop_1]? = some Try.f52 := by kernel_rfl
theorem S.orset_Set_Drop_1.call {R : Value → World → Prop} {v0 v1 v2 v3 : Value} {W : World} (h : S.orset_Set_Drop_1.body R v0 v1 v2 v3 W) : callK PR F_orset_Set_Drop_1 [v0, v1, v2, v3] R W :=
  callK_of_body (g := F_orset_Set_Drop_1) (fn := Try.f52) (args := [v0, v1, v2, v3]) (R := R) (w := W) mixed CBok S.orset_Set_Drop_1.fn S.orset_Set_Drop_1.hint (by rw [S.orset_Set_Drop_1.ok]; exact h)
/-! ### maps.DeleteFunc[map[string]rostrum/vec.Vec,string,rostrum/vec.Vec] (53) -/
def S.maps_DeleteFunc_map_string_vec_Vec_string_vec_Vec.l1 (R : Value → World → Prop) (K1 : List Value → World → Prop) (x0 x1 x7 : Value) (W : World) : Prop :=
  efK PR (Instr.next x7 false T_t0) (fun v8 W =>
  okF (extP 0 v8) fun v9 =>
  ifK v9 (
  efK PR (Instr.entry x7) (fun v10 W =>
  okF (extP 0 v10) fun v11 =>
  okF (extP 1 v10) fun v12 =>
  efK PR (Instr.alloc T_vec_Vec true (.tuple #[])) (fun v5 W =>
  efK PR (Instr.storeAt T_vec_Vec v5 v12) (fun _ W =>
  rdK PR (Instr.loadAt T_vec_Vec v5) (fun v15 W =>
  vcK PR x1 [v11, v15] (fun v16 W =>
  ifK v16 (
  efK PR (Builtin.delete_ #[T_m_string_vec_Vec, T_string] T_t0 #[x0, v11]) (fun _ W =>
  K1 [x0, x1, x7] W) W) (
  K1 [x0, x1, x7] W)) W) W) W) W) W) (
  R (.tuple #[]) W)) W
def S.maps_DeleteFunc_map_string_vec_Vec_string_vec_Vec.body (R : Value → World → Prop) (v0 v1 : Value) (W : World) : Prop :=
  efK PR (Instr.range T_m_string_vec_Vec v0) (fun v7 W =>
  loopK (fun K1 s W => S.maps_DeleteFunc_map_string_vec_Vec_string_vec_Vec.l1 R K1 (nthv s 0) (nthv s 1) (nthv s 2) W) [v0, v1, v7] W) W
def S.maps_DeleteFunc_map_string_vec_Vec_string_vec_Vec.hint : Hint := (.two .nil (.at [0, 1, 7] (.two .nil (.two (.two .nil .nil) (.two .nil (.two .nil (.two .nil .nil))))) .nil))
theorem S.maps_DeleteFunc_map_string_vec_Vec_string_vec_Vec.ok (R : Value → World → Prop) (v0 v1 : Value) (W : World) : bodyK PR CB Try.f53 S.maps_DeleteFunc_map_string_vec_Vec_string_vec_Vec.hint [v0, v1] R W = S.maps_DeleteFunc_map_string_vec_Vec_string_vec_Vec.body R v0 v1 W := by kernel_rfl
theorem S.maps_DeleteFunc_map_string_vec_Vec_string_vec_Vec.fn : PR.funcs[F_maps_DeleteFunc_map_string_vec_Vec_string_vec_Vec]? = some Try.f53 := by kernel_rfl
theorem S.maps_DeleteFunc_map_string_vec_Vec_string_vec_Vec.call {R : Value → World → Prop} {v0 v1 : Value} {W : World} (h : S.maps_DeleteFunc_map_string_vec_Vec_string_vec_Vec.body R v0 v1 W) : callK PR F_maps_DeleteFunc_map_string_vec_Vec_string_vec_Vec [v0, v1] R W :=
  callK_of_body (g := F_maps_DeleteFunc_map_string_vec_Vec_string_vec_Vec) (fn := Try.f53) (args := [v0, v1]) (R := R) (w := W) mixed CBok S.maps_DeleteFunc_map_string_vec_Vec_string_vec_Vec.fn S.maps_DeleteFunc_map_string_vec_Vec_string_vec_Vec.hint (by rw [S.maps_DeleteFunc_map_string_vec_Vec_string_vec_Vec.ok]; exact h)
/-! ### (*rostrum/orset.Set).Drop$2 (54) -/
def S.orset_Set_Drop_2.body (R : Value → World → Prop) (v0 v1 v2 : Value) (W : World) : Prop :=
  efK PR (Instr.box T_vec_Vec v1) (fun v4 W =>
  rdK PR (Instr.loadAt T_vec_Vec v4) (fun v6 W =>
  rdK PR (Instr.loadAt T_vec_Vec v2) (fun v7 W =>
  callK PR F_vec_Le [v6, v7] (fun v8 W =>
  R v8 W) W) W) W) W
def S.orset_Set_Drop_2.hint : Hint := (.two .nil (.two .nil .nil))
theorem S.orset_Set_Drop_2.ok (R : Value → World → Prop) (v0 v1 v2 : Value) (W : World) : bodyK PR CB Try.f54 S.orset_Set_Drop_2.hint [v0, v1, v2] R W = S.orset_Set_Drop_2.body R v0 v1 v2 W := by kernel_rfl
theorem S.orset_Set_Drop_2.fn : PR.funcs[F_orset_Set_Drop_2]? = some Try.f54 := by kernel_rfl
theorem S.orset_Set_Drop_2.call {R : Value → World → Prop} {v0 v1 v2 : Value} {W : World} (h : S.orset_Set_Drop_2.body R v0 v1 v2 W) : callK PR F_orset_Set_Drop_2 [v0, v1, v2] R W :=
  callK_of_body (g := F_orset_Set_Drop_2) (fn := Try.f54) (args := [v0, v1, v2]) (R := R) (w := W) mixed CBok S.orset_Set_Drop_2.fn S.orset_Set_Drop_2.hint (by rw [S.orset_Set_Drop_2.ok]; exact h)
end Go.Proofs.Ytmojfpaagokckaa
