import Derived.Test.YtmojfpaagokckaaBase
namespace Go.Proofs.Ytmojfpaagokckaa
set_option linter.unusedVariables false
set_option linter.unusedSimpArgs false
open Go.Eng
/-! ### rostrum/vec.Good (10) -/
def S.vec_Good.l1 (R : Value → World → Prop) (K1 : List Value → World → Prop) (x5 x6 : Value) (W : World) : Prop :=
  okF (binP .lss x6 (.int .i64 7)) fun v7 =>
  ifK v7 (
  okF (idxV 7 false 1 x5 x6) fun v8 =>
  okF (binP .lss v8 (.int .i64 0)) fun v10 =>
  gdK (wantd v10 false) (fun k W => k v8 W) (fun v12 W =>
  gdK (wantd v10 false) (fun k W => okF (binP .gtr v12 (.int .i64 1099511627776)) fun v => k v W) (fun v13 W =>
  okF (pickP v10 (.bool true) v13) fun v14 =>
  ifK v14 (
  R (.bool false) W) (
  okF (binP .add x6 (.int .i64 1)) fun v15 =>
  K1 [x5, v15] W)) W) W) (
  R (.bool true) W)
def S.vec_Good.body (R : Value → World → Prop) (v0 : Value) (W : World) : Prop :=
  efK PR (Instr.box T_vec_Vec v0) (fun v1 W =>
  rdK PR (Instr.loadAt T_vec_Vec v1) (fun v5 W =>
  loopK (fun K1 s W => S.vec_Good.l1 R K1 (nthv s 0) (nthv s 1) W) [v5, (.int .i64 0)] W) W) W
def S.vec_Good.hint : Hint := (.two .nil (.two (.two .nil (.at [5, 6] (.two .nil (.two (.two .nil .nil) (.two (.two .nil (.two .nil (.two (.two .nil .nil) .nil))) .nil))) .nil)) (.two .nil .nil)))
theorem S.vec_Good.ok (R : Value → World → Prop) (v0 : Value) (W : World) : bodyK PR CB Try.f10 S.vec_Good.hint [v0] R W = S.vec_Good.body R v0 W := by kernel_rfl
theorem S.vec_Good.fn : PR.funcs[F_vec_Good]? = some Try.f10 := by kernel_rfl
theorem S.vec_Good.call {R : Value → World → Prop} {v0 : Value} {W : World} (h : S.vec_Good.body R v0 W) : callK PR F_vec_Good [v0] R W :=
  callK_of_body (g := F_vec_Good) (fn := Try.f10) (args := [v0]) (R := R) (w := W) mixed CBok S.vec_Good.fn S.vec_Good.hint (by rw [S.vec_Good.ok]; exact h)
/-! ### rostrum/vec.Has (14) -/
def S.vec_Has.body (R : Value → World → Prop) (v0 v1 : Value) (W : World) : Prop :=
  efK PR (Instr.box T_vec_Vec v0) (fun v2 W =>
  efK PR (Instr.box T_api_Dot v1) (fun v3 W =>
  okF (addrF 0 v3) fun v5 =>
  rdK PR (Instr.loadAt T_int v5) (fun v6 W =>
  callK PR F_vec_Rep [v6] (fun v7 W =>
  gdK (wantd v7 true) (fun k W => okF (addrF 1 v3) fun v => k v W) (fun v9 W =>
  gdK (wantd v7 true) (fun k W => rdK PR (Instr.loadAt T_int64 v9) k W) (fun v10 W =>
  gdK (wantd v7 true) (fun k W => okF (binP .geq v10 (.int .i64 1)) fun v => k v W) (fun v11 W =>
  okF (pickP v7 v11 (.bool false)) fun v12 =>
  gdK (wantd v12 true) (fun k W => okF (addrF 1 v3) fun v => k v W) (fun v14 W =>
  gdK (wantd v12 true) (fun k W => rdK PR (Instr.loadAt T_int64 v14) k W) (fun v15 W =>
  gdK (wantd v12 true) (fun k W => okF (addrF 0 v3) fun v => k v W) (fun v16 W =>
  gdK (wantd v12 true) (fun k W => rdK PR (Instr.loadAt T_int v16) k W) (fun v17 W =>
  gdK (wantd v12 true) (fun k W => okF (idxA 7 1 v2 v17) fun v => k v W) (fun v18 W =>
  gdK (wantd v12 true) (fun k W => rdK PR (Instr.loadAt T_int64 v18) k W) (fun v19 W =>
  gdK (wantd v12 true) (fun k W => okF (binP .leq v15 v19) fun v => k v W) (fun v20 W =>
  okF (pickP v12 v20 (.bool false)) fun v21 =>
  R v21 W) W) W) W) W) W) W) W) W) W) W) W) (tick W)) W) W
def S.vec_Has.hint : Hint := (.two .nil (.two .nil .nil))
theorem S.vec_Has.ok (R : Value → World → Prop) (v0 v1 : Value) (W : World) : bodyK PR CB Try.f14 S.vec_Has.hint [v0, v1] R W = S.vec_Has.body R v0 v1 W := by kernel_rfl
theorem S.vec_Has.fn : PR.funcs[F_vec_Has]? = some Try.f14 := by kernel_rfl
theorem S.vec_Has.call {R : Value → World → Prop} {v0 v1 : Value} {W : World} (h : S.vec_Has.body R v0 v1 W) : callK PR F_vec_Has [v0, v1] R W :=
  callK_of_body (g := F_vec_Has) (fn := Try.f14) (args := [v0, v1]) (R := R) (w := W) mixed CBok S.vec_Has.fn S.vec_Has.hint (by rw [S.vec_Has.ok]; exact h)
/-! ### rostrum/vec.Le (29) -/
def S.vec_Le.l1 (R : Value → World → Prop) (K1 : List Value → World → Prop) (x2 x3 x6 : Value) (W : World) : Prop :=
  okF (binP .lss x6 (.int .i64 7)) fun v7 =>
  ifK v7 (
  okF (idxA 7 1 x2 x6) fun v10 =>
  rdK PR (Instr.loadAt T_int64 v10) (fun v11 W =>
  okF (idxA 7 1 x3 x6) fun v13 =>
  rdK PR (Instr.loadAt T_int64 v13) (fun v14 W =>
  okF (binP .gtr v11 v14) fun v15 =>
  ifK v15 (
  R (.bool false) W) (
  okF (binP .add x6 (.int .i64 1)) fun v16 =>
  K1 [x2, x3, v16] W)) W) (tick W)) (
  R (.bool true) W)
def S.vec_Le.body (R : Value → World → Prop) (v0 v1 : Value) (W : World) : Prop :=
  efK PR (Instr.box T_vec_Vec v0) (fun v2 W =>
  efK PR (Instr.box T_vec_Vec v1) (fun v3 W =>
  loopK (fun K1 s W => S.vec_Le.l1 R K1 (nthv s 0) (nthv s 1) (nthv s 2) W) [v2, v3, (.int .i64 0)] W) W) W
def S.vec_Le.hint : Hint := (.two .nil (.two (.two .nil (.at [2, 3, 6] (.two .nil (.two (.two .nil .nil) (.two (.two .nil (.two .nil (.two (.two .nil .nil) .nil))) .nil))) .nil)) (.two .nil .nil)))
theorem S.vec_Le.ok (R : Value → World → Prop) (v0 v1 : Value) (W : World) : bodyK PR CB Try.f29 S.vec_Le.hint [v0, v1] R W = S.vec_Le.body R v0 v1 W := by kernel_rfl
theorem S.vec_Le.fn : PR.funcs[F_vec_Le]? = some Try.f29 := by kernel_rfl
theorem S.vec_Le.call {R : Value → World → Prop} {v0 v1 : Value} {W : World} (h : S.vec_Le.body R v0 v1 W) : callK PR F_vec_Le [v0, v1] R W :=
  callK_of_body (g := F_vec_Le) (fn := Try.f29) (args := [v0, v1]) (R := R) (w := W) mixed CBok S.vec_Le.fn S.vec_Le.hint (by rw [S.vec_Le.ok]; exact h)
/-! ### rostrum/vec.Merge (30) -/
def S.vec_Merge.j1 (R : Value → World → Prop) (x2 x4 : Value) (W : World) : Prop :=
  rdK PR (Instr.loadAt T_vec_Vec x2) (fun v19 W =>
  efK PR (Instr.storeAt T_vec_Vec x4 v19) (fun _ W =>
  rdK PR (Instr.loadAt T_vec_Vec x4) (fun r0 W =>
  R r0 W) W) W) W
def S.vec_Merge.l1 (J1 : List Value → World → Prop) (K1 : List Value → World → Prop) (x2 x3 x4 x6 : Value) (W : World) : Prop :=
  okF (binP .lss x6 (.int .i64 7)) fun v7 =>
  ifK v7 (
  okF (idxA 7 1 x2 x6) fun v11 =>
  rdK PR (Instr.loadAt T_int64 v11) (fun v12 W =>
  okF (idxA 7 1 x3 x6) fun v14 =>
  rdK PR (Instr.loadAt T_int64 v14) (fun v15 W =>
  okF (foldP max2P [v12, v15]) fun v16 =>
  okF (idxA 7 1 x2 x6) fun v17 =>
  efK PR (Instr.storeAt T_int64 v17 v16) (fun _ W =>
  okF (binP .add x6 (.int .i64 1)) fun v18 =>
  K1 [x2, x3, x4, v18] W) W) W) (tick W)) (
  J1 [x2, x4] W)
def S.vec_Merge.body (R : Value → World → Prop) (v0 v1 : Value) (W : World) : Prop :=
  efK PR (Instr.box T_vec_Vec v0) (fun v2 W =>
  efK PR (Instr.box T_vec_Vec v1) (fun v3 W =>
  efK PR (Instr.alloc T_vec_Vec true (.tuple #[])) (fun v4 W =>
  joinK (fun s W => S.vec_Merge.j1 R (nthv s 0) (nthv s 1) W) (fun J1 =>
  loopK (fun K1 s W => S.vec_Merge.l1 J1 K1 (nthv s 0) (nthv s 1) (nthv s 2) (nthv s 3) W) [v2, v3, v4, (.int .i64 0)] W)) W) W) W
def S.vec_Merge.hint : Hint := (.two .nil (.at [2, 4] (.two .nil (.at [2, 3, 4, 6] (.two .nil (.two (.two .nil .nil) (.two (.two .nil .nil) .nil))) .nil)) (.two .nil .nil)))
theorem S.vec_Merge.ok (R : Value → World → Prop) (v0 v1 : Value) (W : World) : bodyK PR CB Try.f30 S.vec_Merge.hint [v0, v1] R W = S.vec_Merge.body R v0 v1 W := by kernel_rfl
theorem S.vec_Merge.fn : PR.funcs[F_vec_Merge]? = some Try.f30 := by kernel_rfl
theorem S.vec_Merge.call {R : Value → World → Prop} {v0 v1 : Value} {W : World} (h : S.vec_Merge.body R v0 v1 W) : callK PR F_vec_Merge [v0, v1] R W :=
  callK_of_body (g := F_vec_Merge) (fn := Try.f30) (args := [v0, v1]) (R := R) (w := W) mixed CBok S.vec_Merge.fn S.vec_Merge.hint (by rw [S.vec_Merge.ok]; exact h)
/-! ### rostrum/rostrumref7.May (33) -/
def S.rostrumref7_May.body (R : Value → World → Prop) (v0 : Value) (W : World) : Prop :=
  efK PR (Instr.box T_api_Dot v0) (fun v1 W =>
  okF (addrF 0 v1) fun v3 =>
  rdK PR (Instr.loadAt T_int v3) (fun v4 W =>
  okF (binP .geq v4 (.int .i64 0)) fun v5 =>
  gdK (wantd v5 true) (fun k W => okF (addrF 0 v1) fun v => k v W) (fun v7 W =>
  gdK (wantd v5 true) (fun k W => rdK PR (Instr.loadAt T_int v7) k W) (fun v8 W =>
  gdK (wantd v5 true) (fun k W => okF (binP .lss v8 (.int .i64 7)) fun v => k v W) (fun v9 W =>
  okF (pickP v5 v9 (.bool false)) fun v10 =>
  gdK (wantd v10 true) (fun k W => okF (addrF 1 v1) fun v => k v W) (fun v12 W =>
  gdK (wantd v10 true) (fun k W => rdK PR (Instr.loadAt T_int64 v12) k W) (fun v13 W =>
  gdK (wantd v10 true) (fun k W => okF (binP .geq v13 (.int .i64 1)) fun v => k v W) (fun v14 W =>
  okF (pickP v10 v14 (.bool false)) fun v15 =>
  gdK (wantd v15 true) (fun k W => okF (addrF 1 v1) fun v => k v W) (fun v17 W =>
  gdK (wantd v15 true) (fun k W => rdK PR (Instr.loadAt T_int64 v17) k W) (fun v18 W =>
  gdK (wantd v15 true) (fun k W => okF (binP .leq v18 (.int .i64 1099511627776)) fun v => k v W) (fun v19 W =>
  okF (pickP v15 v19 (.bool false)) fun v20 =>
  R v20 W) W) W) W) W) W) W) W) W) W) W) W
def S.rostrumref7_May.hint : Hint := (.two .nil (.two .nil .nil))
theorem S.rostrumref7_May.ok (R : Value → World → Prop) (v0 : Value) (W : World) : bodyK PR CB Try.f33 S.rostrumref7_May.hint [v0] R W = S.rostrumref7_May.body R v0 W := by kernel_rfl
theorem S.rostrumref7_May.fn : PR.funcs[F_rostrumref7_May]? = some Try.f33 := by kernel_rfl
theorem S.rostrumref7_May.call {R : Value → World → Prop} {v0 : Value} {W : World} (h : S.rostrumref7_May.body R v0 W) : callK PR F_rostrumref7_May [v0] R W :=
  callK_of_body (g := F_rostrumref7_May) (fn := Try.f33) (args := [v0]) (R := R) (w := W) mixed CBok S.rostrumref7_May.fn S.rostrumref7_May.hint (by rw [S.rostrumref7_May.ok]; exact h)
/-! ### rostrum/rostrumref7.Has (34) -/
def S.rostrumref7_Has.body (R : Value → World → Prop) (v0 v1 : Value) (W : World) : Prop :=
  efK PR (Instr.box T_rostrumref7_Vec v0) (fun v2 W =>
  efK PR (Instr.box T_api_Dot v1) (fun v3 W =>
  okF (addrF 0 v3) fun v5 =>
  rdK PR (Instr.loadAt T_int v5) (fun v6 W =>
  okF (binP .geq v6 (.int .i64 0)) fun v7 =>
  gdK (wantd v7 true) (fun k W => okF (addrF 0 v3) fun v => k v W) (fun v9 W =>
  gdK (wantd v7 true) (fun k W => rdK PR (Instr.loadAt T_int v9) k W) (fun v10 W =>
  gdK (wantd v7 true) (fun k W => okF (binP .lss v10 (.int .i64 7)) fun v => k v W) (fun v11 W =>
  okF (pickP v7 v11 (.bool false)) fun v12 =>
  gdK (wantd v12 true) (fun k W => okF (addrF 1 v3) fun v => k v W) (fun v14 W =>
  gdK (wantd v12 true) (fun k W => rdK PR (Instr.loadAt T_int64 v14) k W) (fun v15 W =>
  gdK (wantd v12 true) (fun k W => okF (binP .geq v15 (.int .i64 1)) fun v => k v W) (fun v16 W =>
  okF (pickP v12 v16 (.bool false)) fun v17 =>
  gdK (wantd v17 true) (fun k W => okF (addrF 1 v3) fun v => k v W) (fun v19 W =>
  gdK (wantd v17 true) (fun k W => rdK PR (Instr.loadAt T_int64 v19) k W) (fun v20 W =>
  gdK (wantd v17 true) (fun k W => okF (addrF 0 v3) fun v => k v W) (fun v21 W =>
  gdK (wantd v17 true) (fun k W => rdK PR (Instr.loadAt T_int v21) k W) (fun v22 W =>
  gdK (wantd v17 true) (fun k W => okF (idxA 7 1 v2 v22) fun v => k v W) (fun v23 W =>
  gdK (wantd v17 true) (fun k W => rdK PR (Instr.loadAt T_int64 v23) k W) (fun v24 W =>
  gdK (wantd v17 true) (fun k W => okF (binP .leq v20 v24) fun v => k v W) (fun v25 W =>
  okF (pickP v17 v25 (.bool false)) fun v26 =>
  R v26 W) W) W) W) W) W) W) W) W) W) W) W) W) W) (tick W)) W) W
def S.rostrumref7_Has.hint : Hint := (.two .nil (.two .nil .nil))
theorem S.rostrumref7_Has.ok (R : Value → World → Prop) (v0 v1 : Value) (W : World) : bodyK PR CB Try.f34 S.rostrumref7_Has.hint [v0, v1] R W = S.rostrumref7_Has.body R v0 v1 W := by kernel_rfl
theorem S.rostrumref7_Has.fn : PR.funcs[F_rostrumref7_Has]? = some Try.f34 := by kernel_rfl
theorem S.rostrumref7_Has.call {R : Value → World → Prop} {v0 v1 : Value} {W : World} (h : S.rostrumref7_Has.body R v0 v1 W) : callK PR F_rostrumref7_Has [v0, v1] R W :=
  callK_of_body (g := F_rostrumref7_Has) (fn := Try.f34) (args := [v0, v1]) (R := R) (w := W) mixed CBok S.rostrumref7_Has.fn S.rostrumref7_Has.hint (by rw [S.rostrumref7_Has.ok]; exact h)
/-! ### rostrum/rostrumref7.Good (35) -/
def S.rostrumref7_Good.l1 (R : Value → World → Prop) (K1 : List Value → World → Prop) (x1 x3 : Value) (W : World) : Prop :=
  okF (binP .lss x3 (.int .i64 7)) fun v5 =>
  ifK v5 (
  okF (idxA 7 1 x1 x3) fun v9 =>
  rdK PR (Instr.loadAt T_int64 v9) (fun v10 W =>
  okF (binP .lss v10 (.int .i64 0)) fun v11 =>
  gdK (wantd v11 false) (fun k W => k x3 W) (fun v13 W =>
  gdK (wantd v11 false) (fun k W => okF (idxA 7 1 x1 v13) fun v => k v W) (fun v14 W =>
  gdK (wantd v11 false) (fun k W => rdK PR (Instr.loadAt T_int64 v14) k W) (fun v15 W =>
  gdK (wantd v11 false) (fun k W => okF (binP .gtr v15 (.int .i64 1099511627776)) fun v => k v W) (fun v16 W =>
  okF (pickP v11 (.bool true) v16) fun v17 =>
  ifK v17 (
  R (.bool false) W) (
  okF (binP .add x3 (.int .i64 1)) fun v7 =>
  K1 [x1, v7] W)) W) W) W) W) W) (
  R (.bool true) W)
def S.rostrumref7_Good.body (R : Value → World → Prop) (v0 : Value) (W : World) : Prop :=
  efK PR (Instr.box T_rostrumref7_Vec v0) (fun v1 W =>
  loopK (fun K1 s W => S.rostrumref7_Good.l1 R K1 (nthv s 0) (nthv s 1) W) [v1, (.int .i64 0)] W) W
def S.rostrumref7_Good.hint : Hint := (.two .nil (.two (.two .nil (.at [1, 3] (.two (.two .nil (.two .nil .nil)) (.two (.two .nil (.two (.two .nil .nil) .nil)) .nil)) .nil)) (.two .nil .nil)))
theorem S.rostrumref7_Good.ok (R : Value → World → Prop) (v0 : Value) (W : World) : bodyK PR CB Try.f35 S.rostrumref7_Good.hint [v0] R W = S.rostrumref7_Good.body R v0 W := by kernel_rfl
theorem S.rostrumref7_Good.fn : PR.funcs[F_rostrumref7_Good]? = some Try.f35 := by kernel_rfl
theorem S.rostrumref7_Good.call {R : Value → World → Prop} {v0 : Value} {W : World} (h : S.rostrumref7_Good.body R v0 W) : callK PR F_rostrumref7_Good [v0] R W :=
  callK_of_body (g := F_rostrumref7_Good) (fn := Try.f35) (args := [v0]) (R := R) (w := W) mixed CBok S.rostrumref7_Good.fn S.rostrumref7_Good.hint (by rw [S.rostrumref7_Good.ok]; exact h)
/-! ### rostrum/rostrumref7.Less (61) -/
def S.rostrumref7_Less.body (R : Value → World → Prop) (v0 v1 : Value) (W : World) : Prop :=
  efK PR (Instr.box T_api_Dot v0) (fun v2 W =>
  efK PR (Instr.box T_api_Dot v1) (fun v3 W =>
  okF (addrF 0 v2) fun v5 =>
  rdK PR (Instr.loadAt T_int v5) (fun v6 W =>
  okF (addrF 0 v3) fun v7 =>
  rdK PR (Instr.loadAt T_int v7) (fun v8 W =>
  okF (binP .lss v6 v8) fun v9 =>
  gdK (wantd v9 false) (fun k W => okF (addrF 0 v2) fun v => k v W) (fun v11 W =>
  gdK (wantd v9 false) (fun k W => rdK PR (Instr.loadAt T_int v11) k W) (fun v12 W =>
  gdK (wantd v9 false) (fun k W => okF (addrF 0 v3) fun v => k v W) (fun v13 W =>
  gdK (wantd v9 false) (fun k W => rdK PR (Instr.loadAt T_int v13) k W) (fun v14 W =>
  gdK (wantd v9 false) (fun k W => okF (binP .eql v12 v14) fun v => k v W) (fun v15 W =>
  gdK (wantd v9 false) (fun k W => k v15 W) (fun v16 W =>
  gdK (wantd v16 true) (fun k W => okF (addrF 1 v2) fun v => k v W) (fun v17 W =>
  gdK (wantd v16 true) (fun k W => rdK PR (Instr.loadAt T_int64 v17) k W) (fun v18 W =>
  gdK (wantd v16 true) (fun k W => okF (addrF 1 v3) fun v => k v W) (fun v19 W =>
  gdK (wantd v16 true) (fun k W => rdK PR (Instr.loadAt T_int64 v19) k W) (fun v20 W =>
  gdK (wantd v16 true) (fun k W => okF (binP .lss v18 v20) fun v => k v W) (fun v21 W =>
  gdK (wantd v9 false) (fun k W => okF (pickP v16 v21 (.bool false)) fun v => k v W) (fun v22 W =>
  okF (pickP v9 (.bool true) v22) fun v23 =>
  R v23 W) W) W) W) W) W) W) W) W) W) W) W) W) W) W) W) W
def S.rostrumref7_Less.hint : Hint := (.two .nil (.two .nil .nil))
theorem S.rostrumref7_Less.ok (R : Value → World → Prop) (v0 v1 : Value) (W : World) : bodyK PR CB Try.f61 S.rostrumref7_Less.hint [v0, v1] R W = S.rostrumref7_Less.body R v0 v1 W := by kernel_rfl
theorem S.rostrumref7_Less.fn : PR.funcs[F_rostrumref7_Less]? = some Try.f61 := by kernel_rfl
theorem S.rostrumref7_Less.call {R : Value → World → Prop} {v0 v1 : Value} {W : World} (h : S.rostrumref7_Less.body R v0 v1 W) : callK PR F_rostrumref7_Less [v0, v1] R W :=
  callK_of_body (g := F_rostrumref7_Less) (fn := Try.f61) (args := [v0, v1]) (R := R) (w := W) mixed CBok S.rostrumref7_Less.fn S.rostrumref7_Less.hint (by rw [S.rostrumref7_Less.ok]; exact h)
end Go.Proofs.Ytmojfpaagokckaa
