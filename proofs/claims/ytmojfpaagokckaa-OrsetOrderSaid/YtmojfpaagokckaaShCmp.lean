import Derived.Test.YtmojfpaagokckaaBase
namespace Go.Proofs.Ytmojfpaagokckaa
set_option linter.unusedVariables false
set_option linter.unusedSimpArgs false
open Go.Eng
/-! ### cmp.isNaN[int] (84) -/
def S.cmp_isNaN_int.body (R : Value → World → Prop) (v0 : Value) (W : World) : Prop :=
  okF (binP .neq v0 v0) fun v5 =>
  R v5 W
def S.cmp_isNaN_int.hint : Hint := (.two .nil (.two .nil .nil))
theorem S.cmp_isNaN_int.ok (R : Value → World → Prop) (v0 : Value) (W : World) : bodyK PR CB Try.f84 S.cmp_isNaN_int.hint [v0] R W = S.cmp_isNaN_int.body R v0 W := by kernel_rfl
theorem S.cmp_isNaN_int.fn : PR.funcs[F_cmp_isNaN_int]? = some Try.f84 := by kernel_rfl
theorem S.cmp_isNaN_int.call {R : Value → World → Prop} {v0 : Value} {W : World} (h : S.cmp_isNaN_int.body R v0 W) : callK PR F_cmp_isNaN_int [v0] R W :=
  callK_of_body (g := F_cmp_isNaN_int) (fn := Try.f84) (args := [v0]) (R := R) (w := W) mixed CBok S.cmp_isNaN_int.fn S.cmp_isNaN_int.hint (by rw [S.cmp_isNaN_int.ok]; exact h)
/-! ### cmp.isNaN[int64] (85) -/
def S.cmp_isNaN_int64.body (R : Value → World → Prop) (v0 : Value) (W : World) : Prop :=
  okF (binP .neq v0 v0) fun v5 =>
  R v5 W
def S.cmp_isNaN_int64.hint : Hint := (.two .nil (.two .nil .nil))
theorem S.cmp_isNaN_int64.ok (R : Value → World → Prop) (v0 : Value) (W : World) : bodyK PR CB Try.f85 S.cmp_isNaN_int64.hint [v0] R W = S.cmp_isNaN_int64.body R v0 W := by kernel_rfl
theorem S.cmp_isNaN_int64.fn : PR.funcs[F_cmp_isNaN_int64]? = some Try.f85 := by kernel_rfl
theorem S.cmp_isNaN_int64.call {R : Value → World → Prop} {v0 : Value} {W : World} (h : S.cmp_isNaN_int64.body R v0 W) : callK PR F_cmp_isNaN_int64 [v0] R W :=
  callK_of_body (g := F_cmp_isNaN_int64) (fn := Try.f85) (args := [v0]) (R := R) (w := W) mixed CBok S.cmp_isNaN_int64.fn S.cmp_isNaN_int64.hint (by rw [S.cmp_isNaN_int64.ok]; exact h)
/-! ### cmp.Compare[int] (59) -/
def S.cmp_Compare_int.body (R : Value → World → Prop) (v0 v1 : Value) (W : World) : Prop :=
  callK PR F_cmp_isNaN_int [v0] (fun v8 W =>
  callK PR F_cmp_isNaN_int [v1] (fun v10 W =>
  ifK v8 (
  ifK v10 (
  R (.int .i64 0) W) (
  R (.int .i64 (-1)) W)) (
  ifK v10 (
  R (.int .i64 1) W) (
  okF (binP .lss v0 v1) fun v16 =>
  ifK v16 (
  R (.int .i64 (-1)) W) (
  okF (binP .gtr v0 v1) fun v19 =>
  ifK v19 (
  R (.int .i64 1) W) (
  R (.int .i64 0) W))))) W) W
def S.cmp_Compare_int.hint : Hint := (.two .nil (.two .nil (.two .nil (.two (.two .nil (.two (.two (.two .nil (.two (.two .nil .nil) .nil)) (.two .nil .nil)) .nil)) (.two (.two .nil (.two (.two .nil .nil) .nil)) (.two (.two .nil (.two (.two .nil .nil) .nil)) (.two (.two .nil (.two (.two .nil .nil) .nil)) (.two .nil .nil))))))))
theorem S.cmp_Compare_int.ok (R : Value → World → Prop) (v0 v1 : Value) (W : World) : bodyK PR CB Try.f59 S.cmp_Compare_int.hint [v0, v1] R W = S.cmp_Compare_int.body R v0 v1 W := by kernel_rfl
theorem S.cmp_Compare_int.fn : PR.funcs[F_cmp_Compare_int]? = some Try.f59 := by kernel_rfl
theorem S.cmp_Compare_int.call {R : Value → World → Prop} {v0 v1 : Value} {W : World} (h : S.cmp_Compare_int.body R v0 v1 W) : callK PR F_cmp_Compare_int [v0, v1] R W :=
  callK_of_body (g := F_cmp_Compare_int) (fn := Try.f59) (args := [v0, v1]) (R := R) (w := W) mixed CBok S.cmp_Compare_int.fn S.cmp_Compare_int.hint (by rw [S.cmp_Compare_int.ok]; exact h)
/-! ### cmp.Compare[int64] (60) -/
def S.cmp_Compare_int64.body (R : Value → World → Prop) (v0 v1 : Value) (W : World) : Prop :=
  callK PR F_cmp_isNaN_int64 [v0] (fun v8 W =>
  callK PR F_cmp_isNaN_int64 [v1] (fun v10 W =>
  ifK v8 (
  ifK v10 (
  R (.int .i64 0) W) (
  R (.int .i64 (-1)) W)) (
  ifK v10 (
  R (.int .i64 1) W) (
  okF (binP .lss v0 v1) fun v16 =>
  ifK v16 (
  R (.int .i64 (-1)) W) (
  okF (binP .gtr v0 v1) fun v19 =>
  ifK v19 (
  R (.int .i64 1) W) (
  R (.int .i64 0) W))))) W) W
def S.cmp_Compare_int64.hint : Hint := (.two .nil (.two .nil (.two .nil (.two (.two .nil (.two (.two (.two .nil (.two (.two .nil .nil) .nil)) (.two .nil .nil)) .nil)) (.two (.two .nil (.two (.two .nil .nil) .nil)) (.two (.two .nil (.two (.two .nil .nil) .nil)) (.two (.two .nil (.two (.two .nil .nil) .nil)) (.two .nil .nil))))))))
theorem S.cmp_Compare_int64.ok (R : Value → World → Prop) (v0 v1 : Value) (W : World) : bodyK PR CB Try.f60 S.cmp_Compare_int64.hint [v0, v1] R W = S.cmp_Compare_int64.body R v0 v1 W := by kernel_rfl
theorem S.cmp_Compare_int64.fn : PR.funcs[F_cmp_Compare_int64]? = some Try.f60 := by kernel_rfl
theorem S.cmp_Compare_int64.call {R : Value → World → Prop} {v0 v1 : Value} {W : World} (h : S.cmp_Compare_int64.body R v0 v1 W) : callK PR F_cmp_Compare_int64 [v0, v1] R W :=
  callK_of_body (g := F_cmp_Compare_int64) (fn := Try.f60) (args := [v0, v1]) (R := R) (w := W) mixed CBok S.cmp_Compare_int64.fn S.cmp_Compare_int64.hint (by rw [S.cmp_Compare_int64.ok]; exact h)
/-! ### cmp.Or[int] (58) -/
def S.cmp_Or_int.j1 (R : Value → World → Prop) (x3 : Value) (W : World) : Prop :=
  R x3 W
def S.cmp_Or_int.l1 (R : Value → World → Prop) (J1 : List Value → World → Prop) (K1 : List Value → World → Prop) (x3 x6 x7 x8 : Value) (W : World) : Prop :=
  okF (binP .lss x8 x7) fun v9 =>
  ifK v9 (
  okF (idxS 1 x6 x8) fun v10 =>
  rdK PR (Instr.loadAt T_int v10) (fun v11 W =>
  okF (binP .neq v11 x3) fun v14 =>
  ifK v14 (
  R v11 W) (
  okF (binP .add x8 (.int .i64 1)) fun v16 =>
  K1 [x3, x6, x7, v16] W)) W) (
  J1 [x3] W)
def S.cmp_Or_int.body (R : Value → World → Prop) (v0 : Value) (W : World) : Prop :=
  joinK (fun s W => S.cmp_Or_int.j1 R (nthv s 0) W) (fun J1 =>
  okF (lenP (.slice T_int) v0) fun v7 =>
  loopK (fun K1 s W => S.cmp_Or_int.l1 R J1 K1 (nthv s 0) (nthv s 1) (nthv s 2) (nthv s 3) W) [(.int .i64 0), v0, v7, (.int .i64 0)] W)
def S.cmp_Or_int.hint : Hint := (.two .nil (.two .nil (.at [3] (.two .nil (.at [3, 6, 7, 8] (.two .nil (.two (.two .nil .nil) (.two (.two .nil (.two .nil (.two (.two .nil .nil) .nil))) .nil))) .nil)) (.two .nil .nil))))
theorem S.cmp_Or_int.ok (R : Value → World → Prop) (v0 : Value) (W : World) : bodyK PR CB Try.f58 S.cmp_Or_int.hint [v0] R W = S.cmp_Or_int.body R v0 W := by kernel_rfl
theorem S.cmp_Or_int.fn : PR.funcs[F_cmp_Or_int]? = some Try.f58 := by kernel_rfl
theorem S.cmp_Or_int.call {R : Value → World → Prop} {v0 : Value} {W : World} (h : S.cmp_Or_int.body R v0 W) : callK PR F_cmp_Or_int [v0] R W :=
  callK_of_body (g := F_cmp_Or_int) (fn := Try.f58) (args := [v0]) (R := R) (w := W) mixed CBok S.cmp_Or_int.fn S.cmp_Or_int.hint (by rw [S.cmp_Or_int.ok]; exact h)
/-! ### rostrum/vec.Rep (32) -/
def S.vec_Rep.body (R : Value → World → Prop) (v0 : Value) (W : World) : Prop :=
  okF (binP .geq v0 (.int .i64 0)) fun v4 =>
  gdK (wantd v4 true) (fun k W => k v0 W) (fun v6 W =>
  gdK (wantd v4 true) (fun k W => okF (binP .lss v6 (.int .i64 7)) fun v => k v W) (fun v7 W =>
  okF (pickP v4 v7 (.bool false)) fun v8 =>
  R v8 W) W) W
def S.vec_Rep.hint : Hint := (.two .nil (.two .nil .nil))
theorem S.vec_Rep.ok (R : Value → World → Prop) (v0 : Value) (W : World) : bodyK PR CB Try.f32 S.vec_Rep.hint [v0] R W = S.vec_Rep.body R v0 W := by kernel_rfl
theorem S.vec_Rep.fn : PR.funcs[F_vec_Rep]? = some Try.f32 := by kernel_rfl
theorem S.vec_Rep.call {R : Value → World → Prop} {v0 : Value} {W : World} (h : S.vec_Rep.body R v0 W) : callK PR F_vec_Rep [v0] R W :=
  callK_of_body (g := F_vec_Rep) (fn := Try.f32) (args := [v0]) (R := R) (w := W) mixed CBok S.vec_Rep.fn S.vec_Rep.hint (by rw [S.vec_Rep.ok]; exact h)
/-! ### rostrum/vec.Dot (31) -/
def S.vec_Dot.body (R : Value → World → Prop) (v0 : Value) (W : World) : Prop :=
  efK PR (Instr.box T_api_Dot v0) (fun v1 W =>
  okF (addrF 0 v1) fun v3 =>
  rdK PR (Instr.loadAt T_int v3) (fun v4 W =>
  callK PR F_vec_Rep [v4] (fun v5 W =>
  gdK (wantd v5 true) (fun k W => okF (addrF 1 v1) fun v => k v W) (fun v7 W =>
  gdK (wantd v5 true) (fun k W => rdK PR (Instr.loadAt T_int64 v7) k W) (fun v8 W =>
  gdK (wantd v5 true) (fun k W => okF (binP .geq v8 (.int .i64 1)) fun v => k v W) (fun v9 W =>
  okF (pickP v5 v9 (.bool false)) fun v10 =>
  gdK (wantd v10 true) (fun k W => okF (addrF 1 v1) fun v => k v W) (fun v12 W =>
  gdK (wantd v10 true) (fun k W => rdK PR (Instr.loadAt T_int64 v12) k W) (fun v13 W =>
  gdK (wantd v10 true) (fun k W => okF (binP .leq v13 (.int .i64 1099511627776)) fun v => k v W) (fun v14 W =>
  okF (pickP v10 v14 (.bool false)) fun v15 =>
  R v15 W) W) W) W) W) W) W) W) W) W
def S.vec_Dot.hint : Hint := (.two .nil (.two .nil .nil))
theorem S.vec_Dot.ok (R : Value → World → Prop) (v0 : Value) (W : World) : bodyK PR CB Try.f31 S.vec_Dot.hint [v0] R W = S.vec_Dot.body R v0 W := by kernel_rfl
theorem S.vec_Dot.fn : PR.funcs[F_vec_Dot]? = some Try.f31 := by kernel_rfl
theorem S.vec_Dot.call {R : Value → World → Prop} {v0 : Value} {W : World} (h : S.vec_Dot.body R v0 W) : callK PR F_vec_Dot [v0] R W :=
  callK_of_body (g := F_vec_Dot) (fn := Try.f31) (args := [v0]) (R := R) (w := W) mixed CBok S.vec_Dot.fn S.vec_Dot.hint (by rw [S.vec_Dot.ok]; exact h)
/-! ### rostrum/dots.Order (41) -/
def S.dots_Order.body (R : Value → World → Prop) (v0 v1 : Value) (W : World) : Prop :=
  efK PR (Instr.box T_api_Dot v0) (fun v2 W =>
  efK PR (Instr.box T_api_Dot v1) (fun v3 W =>
  okF (addrF 0 v2) fun v5 =>
  rdK PR (Instr.loadAt T_int v5) (fun v6 W =>
  okF (addrF 0 v3) fun v7 =>
  rdK PR (Instr.loadAt T_int v7) (fun v8 W =>
  okF (addrF 1 v2) fun v10 =>
  rdK PR (Instr.loadAt T_int64 v10) (fun v11 W =>
  okF (addrF 1 v3) fun v12 =>
  rdK PR (Instr.loadAt T_int64 v12) (fun v13 W =>
  callK PR F_cmp_Compare_int [v6, v8] (fun v9 W =>
  stb PR [(8, true, (Instr.loadAt T_int64 v12), v13), (6, true, (Instr.loadAt T_int64 v10), v11)] (fun W =>
  callK PR F_cmp_Compare_int64 [v11, v13] (fun v14 W =>
  efK PR (Instr.buildSlice T_s_int 2 #[(0, v9), (1, v14)]) (fun v15 W =>
  callK PR F_cmp_Or_int [v15] (fun v16 W =>
  R v16 W) W) W) W) W) W) W) W) W) (tick W)) W) W
def S.dots_Order.hint : Hint := (.two .nil (.two .nil .nil))
theorem S.dots_Order.ok (R : Value → World → Prop) (v0 v1 : Value) (W : World) : bodyK PR CB Try.f41 S.dots_Order.hint [v0, v1] R W = S.dots_Order.body R v0 v1 W := by kernel_rfl
theorem S.dots_Order.fn : PR.funcs[F_dots_Order]? = some Try.f41 := by kernel_rfl
theorem S.dots_Order.call {R : Value → World → Prop} {v0 v1 : Value} {W : World} (h : S.dots_Order.body R v0 v1 W) : callK PR F_dots_Order [v0, v1] R W :=
  callK_of_body (g := F_dots_Order) (fn := Try.f41) (args := [v0, v1]) (R := R) (w := W) mixed CBok S.dots_Order.fn S.dots_Order.hint (by rw [S.dots_Order.ok]; exact h)
end Go.Proofs.Ytmojfpaagokckaa
