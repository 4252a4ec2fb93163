/- Texts of the claim ExecOne, joined: ShOrder, Lay, COrd, SrtX, COrd2, PSort. -/
import Derived.Test.YtkjhccpanedccaaBExecOne1
import Derived.Shelf.SlIterI.Sorted
import Derived.Shelf.SortM.SortNone
import Derived.Shelf.SortM.Plain
import Derived.Shelf.SlSortCmp.NoneTotal
import Derived.Test.YtkjhccpanedccaaBExecOne3
namespace Go.Proofs.Ytkjhccpanedccaa
set_option linter.unusedVariables false
set_option linter.unusedSimpArgs false
open Go.Eng
/-! ### rostrum/order.compare (50) -/
def S.order_compare.body (R : Value → World → Prop) (v0 v1 : Value) (W : World) : Prop :=
  efK PR (Instr.box T_order_Inst v0) (fun v2 W =>
  efK PR (Instr.box T_order_Inst v1) (fun v3 W =>
  okF (addrF 2 v2) fun v5 =>
  rdK PR (Instr.loadAt T_int64 v5) (fun v6 W =>
  okF (addrF 2 v3) fun v7 =>
  rdK PR (Instr.loadAt T_int64 v7) (fun v8 W =>
  okF (addrF 0 v2) fun v10 =>
  okF (addrF 0 v10) fun v11 =>
  rdK PR (Instr.loadAt T_int v11) (fun v12 W =>
  okF (addrF 0 v3) fun v13 =>
  okF (addrF 0 v13) fun v14 =>
  rdK PR (Instr.loadAt T_int v14) (fun v15 W =>
  okF (addrF 0 v2) fun v17 =>
  okF (addrF 1 v17) fun v18 =>
  rdK PR (Instr.loadAt T_int64 v18) (fun v19 W =>
  okF (addrF 0 v3) fun v20 =>
  okF (addrF 1 v20) fun v21 =>
  rdK PR (Instr.loadAt T_int64 v21) (fun v22 W =>
  callK PR F_cmp_Compare_int64 [v6, v8] (fun v9 W =>
  stb PR [(17, true, (Instr.loadAt T_int64 v21), v22), (14, true, (Instr.loadAt T_int64 v18), v19), (10, true, (Instr.loadAt T_int v14), v15), (7, true, (Instr.loadAt T_int v11), v12)] (fun W =>
  callK PR F_cmp_Compare_int [v12, v15] (fun v16 W =>
  stb PR [(17, true, (Instr.loadAt T_int64 v21), v22), (14, true, (Instr.loadAt T_int64 v18), v19)] (fun W =>
  callK PR F_cmp_Compare_int64 [v19, v22] (fun v23 W =>
  efK PR (Instr.buildSlice T_s_int 3 #[(0, v9), (1, v16), (2, v23)]) (fun v24 W =>
  callK PR F_cmp_Or_int [v24] (fun v25 W =>
  R v25 W) W) W) W) W) W) W) W) W) W) W) W) W) (tick W)) W) W
def S.order_compare.hint : Hint := (.two .nil (.two .nil .nil))
theorem S.order_compare.ok (R : Value → World → Prop) (v0 v1 : Value) (W : World) : bodyK PR CB Try.f50 S.order_compare.hint [v0, v1] R W = S.order_compare.body R v0 v1 W := by kernel_rfl
theorem S.order_compare.fn : PR.funcs[F_order_compare]? = some Try.f50 := by kernel_rfl
theorem S.order_compare.call {R : Value → World → Prop} {v0 v1 : Value} {W : World} (h : S.order_compare.body R v0 v1 W) : callK PR F_order_compare [v0, v1] R W :=
  callK_of_body (g := F_order_compare) (fn := Try.f50) (args := [v0, v1]) (R := R) (w := W) mixed CBok S.order_compare.fn S.order_compare.hint (by rw [S.order_compare.ok]; exact h)
/-! ### rostrum/order.dot (36) -/
def S.order_dot.body (R : Value → World → Prop) (v0 : Value) (W : World) : Prop :=
  efK PR (Instr.box T_api_Dot v0) (fun v1 W =>
  okF (addrF 0 v1) fun v3 =>
  rdK PR (Instr.loadAt T_int v3) (fun v4 W =>
  okF (binP .geq v4 (.int .i64 0)) fun v5 =>
  gdK (wantd v5 true) (fun k W => okF (addrF 0 v1) fun v => k v W) (fun v7 W =>
  gdK (wantd v5 true) (fun k W => rdK PR (Instr.loadAt T_int v7) k W) (fun v8 W =>
  gdK (wantd v5 true) (fun k W => okF (binP .lss v8 (.int .i64 7)) fun v => k v W) (fun v9 W =>
  okF (pickP v5 v9 (.bool false)) fun v10 =>
  gdK (wantd v10 true) (fun k W => okF (addrF 1 v1) fun v => k v W) (fun v12 W =>
  gdK (wantd v10 true) (fun k W => rdK PR (Instr.loadAt T_int64 v12) k W) (fun v13 W =>
  gdK (wantd v10 true) (fun k W => okF (binP .geq v13 (.int .i64 1)) fun v => k v W) (fun v14 W =>
  okF (pickP v10 v14 (.bool false)) fun v15 =>
  gdK (wantd v15 true) (fun k W => okF (addrF 1 v1) fun v => k v W) (fun v17 W =>
  gdK (wantd v15 true) (fun k W => rdK PR (Instr.loadAt T_int64 v17) k W) (fun v18 W =>
  gdK (wantd v15 true) (fun k W => okF (binP .leq v18 (.int .i64 1000)) fun v => k v W) (fun v19 W =>
  okF (pickP v15 v19 (.bool false)) fun v20 =>
  R v20 W) W) W) W) W) W) W) W) W) W) W) W
def S.order_dot.hint : Hint := (.two .nil (.two .nil .nil))
theorem S.order_dot.ok (R : Value → World → Prop) (v0 : Value) (W : World) : bodyK PR CB Try.f36 S.order_dot.hint [v0] R W = S.order_dot.body R v0 W := by kernel_rfl
theorem S.order_dot.fn : PR.funcs[F_order_dot]? = some Try.f36 := by kernel_rfl
theorem S.order_dot.call {R : Value → World → Prop} {v0 : Value} {W : World} (h : S.order_dot.body R v0 W) : callK PR F_order_dot [v0] R W :=
  callK_of_body (g := F_order_dot) (fn := Try.f36) (args := [v0]) (R := R) (w := W) mixed CBok S.order_dot.fn S.order_dot.hint (by rw [S.order_dot.ok]; exact h)
/-! ### rostrum/order.Good (12) -/
def S.order_Good.j1 (R : Value → World → Prop) (x0 : Value) (W : World) : Prop :=
  okF (lenP (.slice T_order_Inst) x0) fun v52 =>
  okF (binP .leq v52 (.int .i64 1000)) fun v53 =>
  R v53 W
def S.order_Good.j2 (K1 : List Value → World → Prop) (x0 x3 x9 x10 x11 : Value) (W : World) : Prop :=
  okF (binP .add x11 (.int .i64 1)) fun v50 =>
  K1 [x0, x3, x9, x10, v50] W
def S.order_Good.l2 (R : Value → World → Prop) (J2 : List Value → World → Prop) (K2 : List Value → World → Prop) (x0 x3 x9 x10 x11 x39 x40 : Value) (W : World) : Prop :=
  okF (binP .lss x40 (.int .i64 7)) fun v41 =>
  ifK v41 (
  okF (idxV 7 false 1 x39 x40) fun v42 =>
  okF (binP .lss v42 (.int .i64 0)) fun v44 =>
  gdK (wantd v44 false) (fun k W => k v42 W) (fun v46 W =>
  gdK (wantd v44 false) (fun k W => okF (binP .gtr v46 (.int .i64 1000)) fun v => k v W) (fun v47 W =>
  okF (pickP v44 (.bool true) v47) fun v48 =>
  ifK v48 (
  R (.bool false) W) (
  okF (binP .add x40 (.int .i64 1)) fun v49 =>
  K2 [x0, x3, x9, x10, x11, x39, v49] W)) W) W) (
  J2 [x0, x3, x9, x10, x11] W)
def S.order_Good.l1 (R : Value → World → Prop) (J1 : List Value → World → Prop) (K1 : List Value → World → Prop) (x0 x3 x9 x10 x11 : Value) (W : World) : Prop :=
  okF (binP .lss x11 x10) fun v12 =>
  ifK v12 (
  joinK (fun s W => S.order_Good.j2 K1 (nthv s 0) (nthv s 1) (nthv s 2) (nthv s 3) (nthv s 4) W) (fun J2 =>
  okF (idxS 10 x9 x11) fun v13 =>
  rdK PR (Instr.loadAt T_order_Inst v13) (fun v14 W =>
  efK PR (Instr.alloc T_order_Inst true (.tuple #[])) (fun v5 W =>
  efK PR (Instr.storeAt T_order_Inst v5 v14) (fun _ W =>
  okF (addrF 0 v5) fun v15 =>
  rdK PR (Instr.loadAt T_api_Dot v15) (fun v16 W =>
  callK PR F_order_dot [v16] (fun v17 W =>
  okF (unP .not v17) fun v18 =>
  gdK (wantd v18 false) (fun k W => okF (addrF 2 v5) fun v => k v W) (fun v20 W =>
  gdK (wantd v18 false) (fun k W => rdK PR (Instr.loadAt T_int64 v20) k W) (fun v21 W =>
  gdK (wantd v18 false) (fun k W => okF (binP .lss v21 (.int .i64 0)) fun v => k v W) (fun v22 W =>
  okF (pickP v18 (.bool true) v22) fun v23 =>
  gdK (wantd v23 false) (fun k W => okF (addrF 2 v5) fun v => k v W) (fun v25 W =>
  gdK (wantd v23 false) (fun k W => rdK PR (Instr.loadAt T_int64 v25) k W) (fun v26 W =>
  gdK (wantd v23 false) (fun k W => okF (binP .gtr v26 (.int .i64 1099511627776)) fun v => k v W) (fun v27 W =>
  okF (pickP v23 (.bool true) v27) fun v28 =>
  gdK (wantd v28 false) (fun k W => k x3 W) (fun v30 W =>
  gdK (wantd v28 false) (fun k W => okF (addrF 0 v5) fun v => k v W) (fun v31 W =>
  gdK (wantd v28 false) (fun k W => rdK PR (Instr.loadAt T_api_Dot v31) k W) (fun v32 W =>
  gdK (wantd v28 false) (fun k W => rdK PR (Instr.lookup T_m_api_Dot_bool v30 v32 false) k W) (fun v33 W =>
  okF (pickP v28 (.bool true) v33) fun v34 =>
  ifK v34 (
  R (.bool false) W) (
  okF (addrF 0 v5) fun v36 =>
  rdK PR (Instr.loadAt T_api_Dot v36) (fun v37 W =>
  efK PR (Instr.mapUpdate T_m_api_Dot_bool x3 v37 (.bool true)) (fun _ W =>
  okF (addrF 3 v5) fun v38 =>
  rdK PR (Instr.loadAt T_a7_int64 v38) (fun v39 W =>
  loopK (fun K2 s W => S.order_Good.l2 R J2 K2 (nthv s 0) (nthv s 1) (nthv s 2) (nthv s 3) (nthv s 4) (nthv s 5) (nthv s 6) W) [x0, x3, x9, x10, x11, v39, (.int .i64 0)] W) W) W) W)) W) W) W) W) W) W) W) W) W) W) W) W) W) W) W)) (
  J1 [x0] W)
def S.order_Good.body (R : Value → World → Prop) (v0 : Value) (W : World) : Prop :=
  efK PR (Instr.makeMap T_m_api_Dot_bool none) (fun v8 W =>
  joinK (fun s W => S.order_Good.j1 R (nthv s 0) W) (fun J1 =>
  okF (lenP (.slice T_order_Inst) v0) fun v10 =>
  loopK (fun K1 s W => S.order_Good.l1 R J1 K1 (nthv s 0) (nthv s 1) (nthv s 2) (nthv s 3) (nthv s 4) W) [v0, v8, v0, v10, (.int .i64 0)] W)) W
def S.order_Good.hint : Hint := (.two .nil (.two .nil (.at [0] (.two .nil (.at [0, 3, 9, 10, 11] (.two .nil (.two (.two .nil .nil) (.at [0, 3, 9, 10, 11] (.two .nil (.two (.two .nil (.two (.two .nil .nil) .nil)) (.two .nil (.two .nil (.at [0, 3, 9, 10, 11, 39, 40] (.two .nil (.two (.two .nil .nil) (.two (.two .nil (.two .nil (.two (.two .nil .nil) .nil))) .nil))) .nil))))) .nil))) .nil)) (.two .nil .nil))))
theorem S.order_Good.ok (R : Value → World → Prop) (v0 : Value) (W : World) : bodyK PR CB Try.f12 S.order_Good.hint [v0] R W = S.order_Good.body R v0 W := by kernel_rfl
theorem S.order_Good.fn : PR.funcs[F_order_Good]? = some Try.f12 := by kernel_rfl
theorem S.order_Good.call {R : Value → World → Prop} {v0 : Value} {W : World} (h : S.order_Good.body R v0 W) : callK PR F_order_Good [v0] R W :=
  callK_of_body (g := F_order_Good) (fn := Try.f12) (args := [v0]) (R := R) (w := W) mixed CBok S.order_Good.fn S.order_Good.hint (by rw [S.order_Good.ok]; exact h)
/-! ### rostrum/order.weave (30) -/
def S.order_weave.j1 (R : Value → World → Prop) (x3 : Value) (W : World) : Prop :=
  R x3 W
def S.order_weave.l1 (J1 : List Value → World → Prop) (K1 : List Value → World → Prop) (x3 x14 x15 x16 : Value) (W : World) : Prop :=
  okF (binP .lss x16 x15) fun v17 =>
  ifK v17 (
  okF (idxS 10 x14 x16) fun v19 =>
  rdK PR (Instr.loadAt T_order_Inst v19) (fun v20 W =>
  efK PR (Instr.alloc T_order_Inst true (.tuple #[])) (fun v5 W =>
  efK PR (Instr.storeAt T_order_Inst v5 v20) (fun _ W =>
  okF (nilP x3) fun v22 =>
  okF (addrF 1 v22) fun v23 =>
  rdK PR (Instr.loadAt T_m_api_Dot_int v23) (fun v24 W =>
  okF (addrF 0 v5) fun v25 =>
  rdK PR (Instr.loadAt T_api_Dot v25) (fun v26 W =>
  efK PR (Instr.mapUpdate T_m_api_Dot_int v24 v26 x16) (fun _ W =>
  okF (binP .add x16 (.int .i64 1)) fun v28 =>
  K1 [x3, x14, x15, v28] W) W) W) (tick W)) W) W) W) (
  J1 [x3] W)
def S.order_weave.body (R : Value → World → Prop) (v0 : Value) (W : World) : Prop :=
  callK PR F_slices_Clone_order_Inst_order_Inst [v0] (fun v7 W =>
  callK PR F_slices_SortFunc_order_Inst_order_Inst [v7, (.func (.func F_order_compare) #[] #[])] (fun v9 W =>
  efK PR (Instr.makeMap T_m_api_Dot_int none) (fun v11 W =>
  okF (bldP (fun i => ([(0, 1), (1, 1)] : List (Nat × Nat))[i]?) [.slice none 0 0, .map none] [(0, v7), (1, v11)]) fun v12 =>
  efK PR (Instr.box T_order_web v12) (fun v13 W =>
  joinK (fun s W => S.order_weave.j1 R (nthv s 0) W) (fun J1 =>
  okF (lenP (.slice T_order_Inst) v7) fun v15 =>
  loopK (fun K1 s W => S.order_weave.l1 J1 K1 (nthv s 0) (nthv s 1) (nthv s 2) (nthv s 3) W) [v13, v7, v15, (.int .i64 0)] W)) W) W) W) W
def S.order_weave.hint : Hint := (.two .nil (.two .nil (.two .nil (.two .nil (.at [3] (.two .nil (.at [3, 14, 15, 16] (.two .nil (.two (.two .nil .nil) (.two (.two .nil .nil) .nil))) .nil)) (.two .nil .nil))))))
theorem S.order_weave.ok (R : Value → World → Prop) (v0 : Value) (W : World) : bodyK PR CB Try.f30 S.order_weave.hint [v0] R W = S.order_weave.body R v0 W := by kernel_rfl
theorem S.order_weave.fn : PR.funcs[F_order_weave]? = some Try.f30 := by kernel_rfl
theorem S.order_weave.call {R : Value → World → Prop} {v0 : Value} {W : World} (h : S.order_weave.body R v0 W) : callK PR F_order_weave [v0] R W :=
  callK_of_body (g := F_order_weave) (fn := Try.f30) (args := [v0]) (R := R) (w := W) mixed CBok S.order_weave.fn S.order_weave.hint (by rw [S.order_weave.ok]; exact h)
/-! ### (*rostrum/order.web).each (52) -/
def S.order_web_each.j1 (K1 : List Value → World → Prop) (x0 x1 x2 x18 x19 : Value) (W : World) : Prop :=
  okF (binP .add x19 (.int .i64 1)) fun v47 =>
  K1 [x0, x1, x2, x18, v47] W
def S.order_web_each.l2 (R : Value → World → Prop) (J1 : List Value → World → Prop) (K2 : List Value → World → Prop) (x0 x1 x2 x7 x8 x9 x18 x19 : Value) (W : World) : Prop :=
  okF (binP .leq x9 x8) fun v25 =>
  ifK v25 (
  okF (bldP (fun i => ([(0, 1), (1, 1)] : List (Nat × Nat))[i]?) [.int .i64 0, .int .i64 0] [(0, x7), (1, x9)]) fun v30 =>
  efK PR (Instr.alloc T_api_Dot true (.tuple #[])) (fun v10 W =>
  efK PR (Instr.storeAt T_api_Dot v10 v30) (fun _ W =>
  rdK PR (Instr.loadAt T_api_Dot v10) (fun v31 W =>
  okF (nilP x0) fun v33 =>
  okF (addrF 0 v33) fun v34 =>
  rdK PR (Instr.loadAt T_s_order_Inst v34) (fun v35 W =>
  okF (idxS 10 v35 x1) fun v37 =>
  okF (addrF 0 v37) fun v38 =>
  rdK PR (Instr.loadAt T_api_Dot v38) (fun v39 W =>
  rdK PR (aggEq .neq T_api_Dot v31 v39) (fun v40 W =>
  gdK (wantd v40 true) (fun k W => k x2 W) (fun v42 W =>
  gdK (wantd v40 true) (fun k W => rdK PR (Instr.loadAt T_api_Dot v10) k W) (fun v43 W =>
  gdK (wantd v40 true) (fun k W => vcK PR v42 [v43] k W) (fun v44 W =>
  gdK (wantd v40 true) (fun k W => okF (unP .not v44) fun v => k v W) (fun v45 W =>
  okF (pickP v40 v45 (.bool false)) fun v46 =>
  ifK v46 (
  R (.bool false) W) (
  okF (binP .add x9 (.int .i64 1)) fun v27 =>
  K2 [x0, x1, x2, x7, x8, v27, x18, x19] W)) W) W) W) W) W) W) W) (tick W)) W) W) (
  J1 [x0, x1, x2, x18, x19] W)
def S.order_web_each.l1 (R : Value → World → Prop) (K1 : List Value → World → Prop) (x0 x1 x2 x18 x19 : Value) (W : World) : Prop :=
  okF (binP .lss x19 (.int .i64 7)) fun v20 =>
  ifK v20 (
  joinK (fun s W => S.order_web_each.j1 K1 (nthv s 0) (nthv s 1) (nthv s 2) (nthv s 3) (nthv s 4) W) (fun J1 =>
  okF (idxV 7 false 1 x18 x19) fun v22 =>
  loopK (fun K2 s W => S.order_web_each.l2 R J1 K2 (nthv s 0) (nthv s 1) (nthv s 2) (nthv s 3) (nthv s 4) (nthv s 5) (nthv s 6) (nthv s 7) W) [x0, x1, x2, x19, v22, (.int .i64 1), x18, x19] W)) (
  R (.bool true) W)
def S.order_web_each.body (R : Value → World → Prop) (v0 v1 v2 : Value) (W : World) : Prop :=
  okF (nilP v0) fun v12 =>
  okF (addrF 0 v12) fun v13 =>
  rdK PR (Instr.loadAt T_s_order_Inst v13) (fun v14 W =>
  okF (idxS 10 v14 v1) fun v16 =>
  okF (addrF 3 v16) fun v17 =>
  rdK PR (Instr.loadAt T_a7_int64 v17) (fun v18 W =>
  loopK (fun K1 s W => S.order_web_each.l1 R K1 (nthv s 0) (nthv s 1) (nthv s 2) (nthv s 3) (nthv s 4) W) [v0, v1, v2, v18, (.int .i64 0)] W) W) W
def S.order_web_each.hint : Hint := (.two .nil (.two (.two .nil (.at [0, 1, 2, 18, 19] (.two .nil (.two (.two .nil .nil) (.at [0, 1, 2, 18, 19] (.two .nil (.two .nil (.at [0, 1, 2, 7, 8, 9, 18, 19] (.two (.two .nil (.two .nil .nil)) (.two (.two .nil (.two .nil (.two (.two .nil .nil) .nil))) .nil)) .nil))) .nil))) .nil)) (.two .nil .nil)))
theorem S.order_web_each.ok (R : Value → World → Prop) (v0 v1 v2 : Value) (W : World) : bodyK PR CB Try.f52 S.order_web_each.hint [v0, v1, v2] R W = S.order_web_each.body R v0 v1 v2 W := by kernel_rfl
theorem S.order_web_each.fn : PR.funcs[F_order_web_each]? = some Try.f52 := by kernel_rfl
theorem S.order_web_each.call {R : Value → World → Prop} {v0 v1 v2 : Value} {W : World} (h : S.order_web_each.body R v0 v1 v2 W) : callK PR F_order_web_each [v0, v1, v2] R W :=
  callK_of_body (g := F_order_web_each) (fn := Try.f52) (args := [v0, v1, v2]) (R := R) (w := W) mixed CBok S.order_web_each.fn S.order_web_each.hint (by rw [S.order_web_each.ok]; exact h)
/-! ### (*rostrum/order.web).on (34) -/
def S.order_web_on.j1 (R : Value → World → Prop) (x3 : Value) (W : World) : Prop :=
  rdK PR (Instr.loadAt T_s_s_int x3) (fun v24 W =>
  R v24 W) W
def S.order_web_on.l1 (J1 : List Value → World → Prop) (K1 : List Value → World → Prop) (x1 x3 x15 x16 : Value) (W : World) : Prop :=
  okF (binP .lss x16 x15) fun v17 =>
  ifK v17 (
  efK PR (Instr.alloc T_int true (.tuple #[])) (fun v4 W =>
  efK PR (Instr.storeAt T_int v4 x16) (fun _ W =>
  rdK PR (Instr.loadAt T_p_order_web x1) (fun v19 W =>
  rdK PR (Instr.loadAt T_int v4) (fun v20 W =>
  callK PR F_order_web_each [v19, v20, (.func (.func F_order_web_on_1) #[] #[x1, x3, v4])] (fun v22 W =>
  okF (binP .add x16 (.int .i64 1)) fun v23 =>
  K1 [x1, x3, x15, v23] W) W) W) W) W) W) (
  J1 [x3] W)
def S.order_web_on.body (R : Value → World → Prop) (v0 : Value) (W : World) : Prop :=
  efK PR (Instr.box T_p_order_web v0) (fun v1 W =>
  rdK PR (Instr.loadAt T_p_order_web v1) (fun v5 W =>
  okF (nilP v5) fun v6 =>
  okF (addrF 0 v6) fun v7 =>
  rdK PR (Instr.loadAt T_s_order_Inst v7) (fun v8 W =>
  okF (lenP (.slice T_order_Inst) v8) fun v9 =>
  efK PR (Instr.makeSlice T_s_s_int v9 v9) (fun v10 W =>
  efK PR (Instr.alloc T_s_s_int true (.tuple #[])) (fun v3 W =>
  efK PR (Instr.storeAt T_s_s_int v3 v10) (fun _ W =>
  joinK (fun s W => S.order_web_on.j1 R (nthv s 0) W) (fun J1 =>
  rdK PR (Instr.loadAt T_p_order_web v1) (fun v11 W =>
  okF (nilP v11) fun v12 =>
  okF (addrF 0 v12) fun v13 =>
  rdK PR (Instr.loadAt T_s_order_Inst v13) (fun v14 W =>
  okF (lenP (.slice T_order_Inst) v14) fun v15 =>
  loopK (fun K1 s W => S.order_web_on.l1 J1 K1 (nthv s 0) (nthv s 1) (nthv s 2) (nthv s 3) W) [v1, v3, v15, (.int .i64 0)] W) W) W)) W) W) W) W) W) W
def S.order_web_on.hint : Hint := (.two .nil (.two .nil (.at [3] (.two .nil (.at [1, 3, 15, 16] (.two .nil (.two (.two .nil .nil) (.two (.two .nil .nil) .nil))) .nil)) (.two .nil .nil))))
theorem S.order_web_on.ok (R : Value → World → Prop) (v0 : Value) (W : World) : bodyK PR CB Try.f34 S.order_web_on.hint [v0] R W = S.order_web_on.body R v0 W := by kernel_rfl
theorem S.order_web_on.fn : PR.funcs[F_order_web_on]? = some Try.f34 := by kernel_rfl
theorem S.order_web_on.call {R : Value → World → Prop} {v0 : Value} {W : World} (h : S.order_web_on.body R v0 W) : callK PR F_order_web_on [v0] R W :=
  callK_of_body (g := F_order_web_on) (fn := Try.f34) (args := [v0]) (R := R) (w := W) mixed CBok S.order_web_on.fn S.order_web_on.hint (by rw [S.order_web_on.ok]; exact h)
/-! ### (*rostrum/order.web).on$1 (55) -/
def S.order_web_on_1.body (R : Value → World → Prop) (v0 v1 v2 v3 : Value) (W : World) : Prop :=
  efK PR (Instr.box T_api_Dot v0) (fun v4 W =>
  rdK PR (Instr.loadAt T_p_order_web v1) (fun v9 W =>
  okF (nilP v9) fun v10 =>
  okF (addrF 1 v10) fun v11 =>
  rdK PR (Instr.loadAt T_m_api_Dot_int v11) (fun v12 W =>
  rdK PR (Instr.loadAt T_api_Dot v4) (fun v13 W =>
  rdK PR (Instr.lookup T_m_api_Dot_int v12 v13 true) (fun v14 W =>
  okF (extP 0 v14) fun v15 =>
  okF (extP 1 v14) fun v16 =>
  ifK v16 (
  rdK PR (Instr.loadAt T_s_s_int v2) (fun v18 W =>
  rdK PR (Instr.loadAt T_int v3) (fun v19 W =>
  rdK PR (Instr.loadAt T_s_s_int v2) (fun v20 W =>
  rdK PR (Instr.loadAt T_int v3) (fun v21 W =>
  okF (idxS 1 v20 v21) fun v22 =>
  rdK PR (Instr.loadAt T_s_int v22) (fun v23 W =>
  efK PR (Instr.buildSlice T_s_int 1 #[(0, v15)]) (fun v25 W =>
  stb PR [(5, true, (Instr.loadAt T_s_int v22), v23), (3, true, (Instr.loadAt T_int v3), v21), (2, true, (Instr.loadAt T_s_s_int v2), v20), (1, true, (Instr.loadAt T_int v3), v19), (0, true, (Instr.loadAt T_s_s_int v2), v18)] (fun W =>
  efK PR (Builtin.append_ #[T_s_int, T_s_int] T_s_int #[v23, v25]) (fun v26 W =>
  stb PR [(1, true, (Instr.loadAt T_int v3), v19), (0, true, (Instr.loadAt T_s_s_int v2), v18)] (fun W =>
  okF (idxS 1 v18 v19) fun v27 =>
  efK PR (Instr.storeAt T_s_int v27 v26) (fun _ W =>
  R (.bool true) W) W) W) W) W) W) W) W) W) W) (tick W)) (
  R (.bool true) W)) W) W) W) (tick W)) W
def S.order_web_on_1.hint : Hint := (.two .nil (.two (.two .nil (.two .nil (.two .nil .nil))) (.two .nil .nil)))
theorem S.order_web_on_1.ok (R : Value → World → Prop) (v0 v1 v2 v3 : Value) (W : World) : bodyK PR CB Try.f55 S.order_web_on_1.hint [v0, v1, v2, v3] R W = S.order_web_on_1.body R v0 v1 v2 v3 W := by kernel_rfl
theorem S.order_web_on_1.fn : PR.funcs[F_order_web_on_1]? = some Try.f55 := by kernel_rfl
theorem S.order_web_on_1.call {R : Value → World → Prop} {v0 v1 v2 v3 : Value} {W : World} (h : S.order_web_on_1.body R v0 v1 v2 v3 W) : callK PR F_order_web_on_1 [v0, v1, v2, v3] R W :=
  callK_of_body (g := F_order_web_on_1) (fn := Try.f55) (args := [v0, v1, v2, v3]) (R := R) (w := W) mixed CBok S.order_web_on_1.fn S.order_web_on_1.hint (by rw [S.order_web_on_1.ok]; exact h)
/-! ### (*rostrum/order.finder).visit (56) -/
def S.order_finder_visit.j2 (R : Value → World → Prop) (x0 x7 : Value) (W : World) : Prop :=
  okF (nilP x0) fun v179 =>
  okF (addrF 6 v179) fun v180 =>
  rdK PR (Instr.loadAt T_s_s_int v180) (fun v181 W =>
  efK PR (Instr.buildSlice T_s_s_int 1 #[(0, x7)]) (fun v183 W =>
  efK PR (Builtin.append_ #[T_s_s_int, T_s_s_int] T_s_s_int #[v181, v183]) (fun v184 W =>
  okF (nilP x0) fun v185 =>
  okF (addrF 6 v185) fun v186 =>
  efK PR (Instr.storeAt T_s_s_int v186 v184) (fun _ W =>
  R (.tuple #[]) W) W) W) W) W
def S.order_finder_visit.l1 (J2 : List Value → World → Prop) (K1 : List Value → World → Prop) (x0 x7 x164 x165 x166 : Value) (W : World) : Prop :=
  okF (binP .lss x166 x165) fun v167 =>
  ifK v167 (
  okF (idxS 1 x164 x166) fun v168 =>
  rdK PR (Instr.loadAt T_int v168) (fun v169 W =>
  okF (nilP x0) fun v171 =>
  okF (addrF 4 v171) fun v172 =>
  rdK PR (Instr.loadAt T_s_bool v172) (fun v173 W =>
  okF (idxS 1 v173 v169) fun v175 =>
  efK PR (Instr.storeAt T_bool v175 (.bool false)) (fun _ W =>
  okF (binP .add x166 (.int .i64 1)) fun v176 =>
  K1 [x0, x7, x164, x165, v176] W) W) W) W) (
  J2 [x0, x7] W)
def S.order_finder_visit.j1 (R : Value → World → Prop) (x0 x1 : Value) (W : World) : Prop :=
  okF (nilP x0) fun v127 =>
  okF (addrF 2 v127) fun v128 =>
  rdK PR (Instr.loadAt T_s_int v128) (fun v129 W =>
  okF (idxS 1 v129 x1) fun v131 =>
  rdK PR (Instr.loadAt T_int v131) (fun v132 W =>
  okF (nilP x0) fun v134 =>
  okF (addrF 1 v134) fun v135 =>
  rdK PR (Instr.loadAt T_s_int v135) (fun v136 W =>
  okF (idxS 1 v136 x1) fun v138 =>
  rdK PR (Instr.loadAt T_int v138) (fun v139 W =>
  okF (binP .neq v132 v139) fun v140 =>
  ifK v140 (
  R (.tuple #[]) W) (
  okF (nilP x0) fun v142 =>
  okF (addrF 3 v142) fun v143 =>
  rdK PR (Instr.loadAt T_s_int v143) (fun v144 W =>
  callK PR F_slices_Index_int_int [v144, x1] (fun v146 W =>
  okF (nilP x0) fun v148 =>
  okF (addrF 3 v148) fun v149 =>
  rdK PR (Instr.loadAt T_s_int v149) (fun v150 W =>
  okF (slcS 1 v150 (some v146) none none) fun v152 =>
  callK PR F_slices_Values_int_int [v152] (fun v153 W =>
  callK PR F_slices_Sorted_int [v153] (fun v154 W =>
  okF (nilP x0) fun v157 =>
  okF (addrF 3 v157) fun v158 =>
  rdK PR (Instr.loadAt T_s_int v158) (fun v159 W =>
  okF (slcS 1 v159 none (some v146) none) fun v161 =>
  okF (nilP x0) fun v162 =>
  okF (addrF 3 v162) fun v163 =>
  efK PR (Instr.storeAt T_s_int v163 v161) (fun _ W =>
  joinK (fun s W => S.order_finder_visit.j2 R (nthv s 0) (nthv s 1) W) (fun J2 =>
  okF (lenP (.slice T_int) v154) fun v165 =>
  loopK (fun K1 s W => S.order_finder_visit.l1 J2 K1 (nthv s 0) (nthv s 1) (nthv s 2) (nthv s 3) (nthv s 4) W) [x0, v154, v154, v165, (.int .i64 0)] W)) W) W) W) W) W) W) W)) W) W) W) (tick W)
def S.order_finder_visit.j3 (K2 : List Value → World → Prop) (x0 x1 x59 x60 x61 : Value) (W : World) : Prop :=
  okF (binP .add x61 (.int .i64 1)) fun v125 =>
  K2 [x0, x1, x59, x60, v125] W
def S.order_finder_visit.l2 (J1 : List Value → World → Prop) (K2 : List Value → World → Prop) (x0 x1 x59 x60 x61 : Value) (W : World) : Prop :=
  okF (binP .lss x61 x60) fun v62 =>
  ifK v62 (
  joinK (fun s W => S.order_finder_visit.j3 K2 (nthv s 0) (nthv s 1) (nthv s 2) (nthv s 3) (nthv s 4) W) (fun J3 =>
  okF (idxS 1 x59 x61) fun v63 =>
  rdK PR (Instr.loadAt T_int v63) (fun v64 W =>
  okF (nilP x0) fun v66 =>
  okF (addrF 1 v66) fun v67 =>
  rdK PR (Instr.loadAt T_s_int v67) (fun v68 W =>
  okF (idxS 1 v68 v64) fun v70 =>
  rdK PR (Instr.loadAt T_int v70) (fun v71 W =>
  okF (binP .eql v71 (.int .i64 0)) fun v72 =>
  ifK v72 (
  callK PR F_order_finder_visit [x0, v64] (fun v75 W =>
  okF (nilP x0) fun v77 =>
  okF (addrF 2 v77) fun v78 =>
  rdK PR (Instr.loadAt T_s_int v78) (fun v79 W =>
  okF (nilP x0) fun v82 =>
  okF (addrF 2 v82) fun v83 =>
  rdK PR (Instr.loadAt T_s_int v83) (fun v84 W =>
  okF (idxS 1 v84 x1) fun v86 =>
  rdK PR (Instr.loadAt T_int v86) (fun v87 W =>
  okF (nilP x0) fun v89 =>
  okF (addrF 2 v89) fun v90 =>
  rdK PR (Instr.loadAt T_s_int v90) (fun v91 W =>
  okF (idxS 1 v91 v64) fun v93 =>
  rdK PR (Instr.loadAt T_int v93) (fun v94 W =>
  okF (foldP min2P [v87, v94]) fun v95 =>
  okF (idxS 1 v79 x1) fun v96 =>
  efK PR (Instr.storeAt T_int v96 v95) (fun _ W =>
  J3 [x0, x1, x59, x60, x61] W) W) W) W) W) W) (tick W)) W) (
  okF (nilP x0) fun v98 =>
  okF (addrF 4 v98) fun v99 =>
  rdK PR (Instr.loadAt T_s_bool v99) (fun v100 W =>
  okF (idxS 1 v100 v64) fun v102 =>
  rdK PR (Instr.loadAt T_bool v102) (fun v103 W =>
  ifK v103 (
  okF (nilP x0) fun v105 =>
  okF (addrF 2 v105) fun v106 =>
  rdK PR (Instr.loadAt T_s_int v106) (fun v107 W =>
  okF (nilP x0) fun v110 =>
  okF (addrF 2 v110) fun v111 =>
  rdK PR (Instr.loadAt T_s_int v111) (fun v112 W =>
  okF (idxS 1 v112 x1) fun v114 =>
  rdK PR (Instr.loadAt T_int v114) (fun v115 W =>
  okF (nilP x0) fun v117 =>
  okF (addrF 1 v117) fun v118 =>
  rdK PR (Instr.loadAt T_s_int v118) (fun v119 W =>
  okF (idxS 1 v119 v64) fun v121 =>
  rdK PR (Instr.loadAt T_int v121) (fun v122 W =>
  okF (foldP min2P [v115, v122]) fun v123 =>
  okF (idxS 1 v107 x1) fun v124 =>
  efK PR (Instr.storeAt T_int v124 v123) (fun _ W =>
  J3 [x0, x1, x59, x60, x61] W) W) W) W) W) W) (tick W)) (
  J3 [x0, x1, x59, x60, x61] W)) W) W)) W) W) W)) (
  J1 [x0, x1] W)
def S.order_finder_visit.body (R : Value → World → Prop) (v0 v1 : Value) (W : World) : Prop :=
  okF (nilP v0) fun v11 =>
  okF (addrF 5 v11) fun v12 =>
  rdK PR (Instr.loadAt T_int v12) (fun v13 W =>
  okF (binP .add v13 (.int .i64 1)) fun v14 =>
  okF (nilP v0) fun v15 =>
  okF (addrF 5 v15) fun v16 =>
  efK PR (Instr.storeAt T_int v16 v14) (fun _ W =>
  okF (nilP v0) fun v18 =>
  okF (addrF 1 v18) fun v19 =>
  rdK PR (Instr.loadAt T_s_int v19) (fun v20 W =>
  okF (nilP v0) fun v23 =>
  okF (addrF 2 v23) fun v24 =>
  rdK PR (Instr.loadAt T_s_int v24) (fun v25 W =>
  okF (nilP v0) fun v28 =>
  okF (addrF 5 v28) fun v29 =>
  rdK PR (Instr.loadAt T_int v29) (fun v30 W =>
  okF (nilP v0) fun v32 =>
  okF (addrF 5 v32) fun v33 =>
  rdK PR (Instr.loadAt T_int v33) (fun v34 W =>
  okF (idxS 1 v20 v1) fun v35 =>
  efK PR (Instr.storeAt T_int v35 v30) (fun _ W =>
  okF (idxS 1 v25 v1) fun v36 =>
  efK PR (Instr.storeAt T_int v36 v34) (fun _ W =>
  okF (nilP v0) fun v39 =>
  okF (addrF 3 v39) fun v40 =>
  rdK PR (Instr.loadAt T_s_int v40) (fun v41 W =>
  efK PR (Instr.buildSlice T_s_int 1 #[(0, v1)]) (fun v43 W =>
  efK PR (Builtin.append_ #[T_s_int, T_s_int] T_s_int #[v41, v43]) (fun v44 W =>
  okF (nilP v0) fun v45 =>
  okF (addrF 3 v45) fun v46 =>
  efK PR (Instr.storeAt T_s_int v46 v44) (fun _ W =>
  okF (nilP v0) fun v48 =>
  okF (addrF 4 v48) fun v49 =>
  rdK PR (Instr.loadAt T_s_bool v49) (fun v50 W =>
  okF (idxS 1 v50 v1) fun v52 =>
  efK PR (Instr.storeAt T_bool v52 (.bool true)) (fun _ W =>
  joinK (fun s W => S.order_finder_visit.j1 R (nthv s 0) (nthv s 1) W) (fun J1 =>
  okF (nilP v0) fun v54 =>
  okF (addrF 0 v54) fun v55 =>
  rdK PR (Instr.loadAt T_s_s_int v55) (fun v56 W =>
  okF (idxS 1 v56 v1) fun v58 =>
  rdK PR (Instr.loadAt T_s_int v58) (fun v59 W =>
  okF (lenP (.slice T_int) v59) fun v60 =>
  loopK (fun K2 s W => S.order_finder_visit.l2 J1 K2 (nthv s 0) (nthv s 1) (nthv s 2) (nthv s 3) (nthv s 4) W) [v0, v1, v59, v60, (.int .i64 0)] W) W) W)) W) W) W) W) W) W) W) W) W) W) W) (tick W)) W) W
def S.order_finder_visit.hint : Hint := (.two .nil (.two .nil (.two .nil (.two .nil (.at [0, 1] (.two .nil (.at [0, 1, 59, 60, 61] (.two .nil (.two (.two .nil .nil) (.at [0, 1, 59, 60, 61] (.two .nil (.two .nil (.two (.two .nil .nil) (.two .nil (.two .nil .nil))))) .nil))) .nil)) (.two (.two .nil (.two .nil .nil)) (.two .nil (.two .nil (.two .nil (.at [0, 7] (.two .nil (.at [0, 7, 164, 165, 166] (.two .nil (.two (.two .nil .nil) (.two (.two .nil .nil) .nil))) .nil)) .nil))))))))))
theorem S.order_finder_visit.ok (R : Value → World → Prop) (v0 v1 : Value) (W : World) : bodyK PR CB Try.f56 S.order_finder_visit.hint [v0, v1] R W = S.order_finder_visit.body R v0 v1 W := by kernel_rfl
theorem S.order_finder_visit.fn : PR.funcs[F_order_finder_visit]? = some Try.f56 := by kernel_rfl
theorem S.order_finder_visit.call {R : Value → World → Prop} {v0 v1 : Value} {W : World} (h : S.order_finder_visit.body R v0 v1 W) : callK PR F_order_finder_visit [v0, v1] R W :=
  callK_of_body (g := F_order_finder_visit) (fn := Try.f56) (args := [v0, v1]) (R := R) (w := W) mixed CBok S.order_finder_visit.fn S.order_finder_visit.hint (by rw [S.order_finder_visit.ok]; exact h)
/-! ### rostrum/order.groups (37) -/
def S.order_groups.j2 (R : Value → World → Prop) (x4 : Value) (W : World) : Prop :=
  okF (nilP x4) fun v35 =>
  okF (addrF 6 v35) fun v36 =>
  rdK PR (Instr.loadAt T_s_s_int v36) (fun v37 W =>
  R v37 W) W
def S.order_groups.j3 (K1 : List Value → World → Prop) (x4 x18 x19 : Value) (W : World) : Prop :=
  okF (binP .add x19 (.int .i64 1)) fun v33 =>
  K1 [x4, x18, v33] W
def S.order_groups.l1 (J2 : List Value → World → Prop) (K1 : List Value → World → Prop) (x4 x18 x19 : Value) (W : World) : Prop :=
  okF (binP .lss x19 x18) fun v20 =>
  ifK v20 (
  joinK (fun s W => S.order_groups.j3 K1 (nthv s 0) (nthv s 1) (nthv s 2) W) (fun J3 =>
  okF (nilP x4) fun v23 =>
  okF (addrF 1 v23) fun v24 =>
  rdK PR (Instr.loadAt T_s_int v24) (fun v25 W =>
  okF (idxS 1 v25 x19) fun v27 =>
  rdK PR (Instr.loadAt T_int v27) (fun v28 W =>
  okF (binP .eql v28 (.int .i64 0)) fun v29 =>
  ifK v29 (
  callK PR F_order_finder_visit [x4, x19] (fun v32 W =>
  J3 [x4, x18, x19] W) W) (
  J3 [x4, x18, x19] W)) W) W)) (
  J2 [x4] W)
def S.order_groups.j1 (R : Value → World → Prop) (x0 x4 : Value) (W : World) : Prop :=
  joinK (fun s W => S.order_groups.j2 R (nthv s 0) W) (fun J2 =>
  okF (lenP (.slice T_s_int) x0) fun v18 =>
  loopK (fun K1 s W => S.order_groups.l1 J2 K1 (nthv s 0) (nthv s 1) (nthv s 2) W) [x4, v18, (.int .i64 0)] W)
def S.order_groups.body (R : Value → World → Prop) (v0 : Value) (W : World) : Prop :=
  okF (lenP (.slice T_s_int) v0) fun v7 =>
  joinK (fun s W => S.order_groups.j1 R (nthv s 0) (nthv s 1) W) (fun J1 =>
  (efK PR (Instr.makeSlice T_s_int v7 v7) (fun v10 W =>
  (efK PR (Instr.makeSlice T_s_int v7 v7) (fun v12 W =>
  efK PR (Instr.makeSlice T_s_bool v7 v7) (fun v14 W =>
  okF (bldP (fun i => ([(0, 1), (1, 1), (2, 1), (3, 1), (4, 1), (5, 1), (6, 1)] : List (Nat × Nat))[i]?) [.slice none 0 0, .slice none 0 0, .slice none 0 0, .slice none 0 0, .slice none 0 0, .int .i64 0, .slice none 0 0] [(0, v0), (1, v10), (2, v12), (4, v14)]) fun v15 =>
  efK PR (Instr.box T_order_finder v15) (fun v16 W =>
  J1 [v0, v16] W) W) W) W) ∧ (efK PR (Instr.makeSlice T_s_bool v7 v7) (fun v14_1 W =>
  efK PR (Instr.makeSlice T_s_int v7 v7) (fun v12_1 W =>
  okF (bldP (fun i => ([(0, 1), (1, 1), (2, 1), (3, 1), (4, 1), (5, 1), (6, 1)] : List (Nat × Nat))[i]?) [.slice none 0 0, .slice none 0 0, .slice none 0 0, .slice none 0 0, .slice none 0 0, .int .i64 0, .slice none 0 0] [(0, v0), (1, v10), (2, v12_1), (4, v14_1)]) fun v15_1 =>
  efK PR (Instr.box T_order_finder v15_1) (fun v16_1 W =>
  J1 [v0, v16_1] W) W) W) W)) (tick W)) ∧ (efK PR (Instr.makeSlice T_s_int v7 v7) (fun v12_2 W =>
  (efK PR (Instr.makeSlice T_s_int v7 v7) (fun v10_1 W =>
  efK PR (Instr.makeSlice T_s_bool v7 v7) (fun v14_2 W =>
  okF (bldP (fun i => ([(0, 1), (1, 1), (2, 1), (3, 1), (4, 1), (5, 1), (6, 1)] : List (Nat × Nat))[i]?) [.slice none 0 0, .slice none 0 0, .slice none 0 0, .slice none 0 0, .slice none 0 0, .int .i64 0, .slice none 0 0] [(0, v0), (1, v10_1), (2, v12_2), (4, v14_2)]) fun v15_2 =>
  efK PR (Instr.box T_order_finder v15_2) (fun v16_2 W =>
  J1 [v0, v16_2] W) W) W) W) ∧ (efK PR (Instr.makeSlice T_s_bool v7 v7) (fun v14_3 W =>
  efK PR (Instr.makeSlice T_s_int v7 v7) (fun v10_2 W =>
  okF (bldP (fun i => ([(0, 1), (1, 1), (2, 1), (3, 1), (4, 1), (5, 1), (6, 1)] : List (Nat × Nat))[i]?) [.slice none 0 0, .slice none 0 0, .slice none 0 0, .slice none 0 0, .slice none 0 0, .int .i64 0, .slice none 0 0] [(0, v0), (1, v10_2), (2, v12_2), (4, v14_3)]) fun v15_3 =>
  efK PR (Instr.box T_order_finder v15_3) (fun v16_3 W =>
  J1 [v0, v16_3] W) W) W) W)) (tick W)) ∧ (efK PR (Instr.makeSlice T_s_bool v7 v7) (fun v14_4 W =>
  (efK PR (Instr.makeSlice T_s_int v7 v7) (fun v10_3 W =>
  efK PR (Instr.makeSlice T_s_int v7 v7) (fun v12_3 W =>
  okF (bldP (fun i => ([(0, 1), (1, 1), (2, 1), (3, 1), (4, 1), (5, 1), (6, 1)] : List (Nat × Nat))[i]?) [.slice none 0 0, .slice none 0 0, .slice none 0 0, .slice none 0 0, .slice none 0 0, .int .i64 0, .slice none 0 0] [(0, v0), (1, v10_3), (2, v12_3), (4, v14_4)]) fun v15_4 =>
  efK PR (Instr.box T_order_finder v15_4) (fun v16_4 W =>
  J1 [v0, v16_4] W) W) W) W) ∧ (efK PR (Instr.makeSlice T_s_int v7 v7) (fun v12_4 W =>
  efK PR (Instr.makeSlice T_s_int v7 v7) (fun v10_4 W =>
  okF (bldP (fun i => ([(0, 1), (1, 1), (2, 1), (3, 1), (4, 1), (5, 1), (6, 1)] : List (Nat × Nat))[i]?) [.slice none 0 0, .slice none 0 0, .slice none 0 0, .slice none 0 0, .slice none 0 0, .int .i64 0, .slice none 0 0] [(0, v0), (1, v10_4), (2, v12_4), (4, v14_4)]) fun v15_5 =>
  efK PR (Instr.box T_order_finder v15_5) (fun v16_5 W =>
  J1 [v0, v16_5] W) W) W) W)) (tick W)))
def S.order_groups.hint : Hint := (.two .nil (.two .nil (.at [0, 4] .nil (.at [4] (.two .nil (.at [4, 18, 19] (.two .nil (.two (.two .nil .nil) (.at [4, 18, 19] (.two .nil (.two .nil (.two .nil .nil))) .nil))) .nil)) (.two .nil .nil)))))
theorem S.order_groups.ok (R : Value → World → Prop) (v0 : Value) (W : World) : bodyK PR CB Try.f37 S.order_groups.hint [v0] R W = S.order_groups.body R v0 W := by kernel_rfl
theorem S.order_groups.fn : PR.funcs[F_order_groups]? = some Try.f37 := by kernel_rfl
theorem S.order_groups.call {R : Value → World → Prop} {v0 : Value} {W : World} (h : S.order_groups.body R v0 W) : callK PR F_order_groups [v0] R W :=
  callK_of_body (g := F_order_groups) (fn := Try.f37) (args := [v0]) (R := R) (w := W) mixed CBok S.order_groups.fn S.order_groups.hint (by rw [S.order_groups.ok]; exact h)
/-! ### rostrum/order.tie (53) -/
def S.order_tie.j3 (R : Value → World → Prop) (x9 : Value) (W : World) : Prop :=
  R x9 W
def S.order_tie.j4 (K1 : List Value → World → Prop) (x0 x3 x4 x9 x53 x54 x55 : Value) (W : World) : Prop :=
  okF (binP .add x55 (.int .i64 1)) fun v120 =>
  K1 [x0, x3, x4, x9, x53, x54, v120] W
def S.order_tie.j5 (K2 : List Value → World → Prop) (x0 x3 x4 x9 x10 x12 x53 x54 x55 x66 x67 x68 : Value) (W : World) : Prop :=
  okF (binP .add x68 (.int .i64 1)) fun v119 =>
  K2 [x0, x3, x4, x9, x10, x12, x53, x54, x55, x66, x67, v119] W
def S.order_tie.j6 (K3 : List Value → World → Prop) (x0 x3 x4 x9 x10 x12 x53 x54 x55 x66 x67 x68 x75 x76 x77 : Value) (W : World) : Prop :=
  okF (binP .add x77 (.int .i64 1)) fun v118 =>
  K3 [x0, x3, x4, x9, x10, x12, x53, x54, x55, x66, x67, x68, x75, x76, v118] W
def S.order_tie.l3 (J5 : List Value → World → Prop) (K3 : List Value → World → Prop) (x0 x3 x4 x9 x10 x12 x53 x54 x55 x66 x67 x68 x75 x76 x77 : Value) (W : World) : Prop :=
  okF (binP .lss x77 x76) fun v78 =>
  ifK v78 (
  joinK (fun s W => S.order_tie.j6 K3 (nthv s 0) (nthv s 1) (nthv s 2) (nthv s 3) (nthv s 4) (nthv s 5) (nthv s 6) (nthv s 7) (nthv s 8) (nthv s 9) (nthv s 10) (nthv s 11) (nthv s 12) (nthv s 13) (nthv s 14) W) (fun J6 =>
  okF (idxS 1 x75 x77) fun v79 =>
  rdK PR (Instr.loadAt T_int v79) (fun v80 W =>
  okF (idxS 1 x4 v80) fun v83 =>
  rdK PR (Instr.loadAt T_int v83) (fun v84 W =>
  okF (idxS 1 x12 v84) fun v87 =>
  rdK PR (Instr.loadAt T_bool v87) (fun v88 W =>
  okF (unP .not v88) fun v89 =>
  ifK v89 (
  okF (idxS 1 x12 v84) fun v92 =>
  efK PR (Instr.storeAt T_bool v92 (.bool true)) (fun _ W =>
  okF (nilP x9) fun v94 =>
  okF (addrF 1 v94) fun v95 =>
  rdK PR (Instr.loadAt T_s_int v95) (fun v96 W =>
  okF (idxS 1 v96 x10) fun v98 =>
  rdK PR (Instr.loadAt T_int v98) (fun v99 W =>
  okF (binP .add v99 (.int .i64 1)) fun v100 =>
  okF (idxS 1 v96 x10) fun v101 =>
  efK PR (Instr.storeAt T_int v101 v100) (fun _ W =>
  okF (nilP x9) fun v103 =>
  okF (addrF 2 v103) fun v104 =>
  rdK PR (Instr.loadAt T_s_s_int v104) (fun v105 W =>
  okF (nilP x9) fun v108 =>
  okF (addrF 2 v108) fun v109 =>
  rdK PR (Instr.loadAt T_s_s_int v109) (fun v110 W =>
  okF (idxS 1 v110 v84) fun v112 =>
  rdK PR (Instr.loadAt T_s_int v112) (fun v113 W =>
  efK PR (Instr.buildSlice T_s_int 1 #[(0, x10)]) (fun v115 W =>
  stb PR [(11, true, (Instr.loadAt T_s_int v112), v113), (8, true, (Instr.loadAt T_s_s_int v109), v110), (3, true, (Instr.loadAt T_s_s_int v104), v105)] (fun W =>
  efK PR (Builtin.append_ #[T_s_int, T_s_int] T_s_int #[v113, v115]) (fun v116 W =>
  stb PR [(3, true, (Instr.loadAt T_s_s_int v104), v105)] (fun W =>
  okF (idxS 1 v105 v84) fun v117 =>
  efK PR (Instr.storeAt T_s_int v117 v116) (fun _ W =>
  J6 [x0, x3, x4, x9, x10, x12, x53, x54, x55, x66, x67, x68, x75, x76, x77] W) W) W) W) W) W) W) W) (tick W)) W) W) W) W) (
  J6 [x0, x3, x4, x9, x10, x12, x53, x54, x55, x66, x67, x68, x75, x76, x77] W)) W) W) W)) (
  J5 [x0, x3, x4, x9, x10, x12, x53, x54, x55, x66, x67, x68] W)
def S.order_tie.l2 (J4 : List Value → World → Prop) (K2 : List Value → World → Prop) (x0 x3 x4 x9 x10 x12 x53 x54 x55 x66 x67 x68 : Value) (W : World) : Prop :=
  okF (binP .lss x68 x67) fun v69 =>
  ifK v69 (
  joinK (fun s W => S.order_tie.j5 K2 (nthv s 0) (nthv s 1) (nthv s 2) (nthv s 3) (nthv s 4) (nthv s 5) (nthv s 6) (nthv s 7) (nthv s 8) (nthv s 9) (nthv s 10) (nthv s 11) W) (fun J5 =>
  okF (idxS 1 x66 x68) fun v70 =>
  rdK PR (Instr.loadAt T_int v70) (fun v71 W =>
  okF (idxS 1 x0 v71) fun v74 =>
  rdK PR (Instr.loadAt T_s_int v74) (fun v75 W =>
  okF (lenP (.slice T_int) v75) fun v76 =>
  loopK (fun K3 s W => S.order_tie.l3 J5 K3 (nthv s 0) (nthv s 1) (nthv s 2) (nthv s 3) (nthv s 4) (nthv s 5) (nthv s 6) (nthv s 7) (nthv s 8) (nthv s 9) (nthv s 10) (nthv s 11) (nthv s 12) (nthv s 13) (nthv s 14) W) [x0, x3, x4, x9, x10, x12, x53, x54, x55, x66, x67, x68, v75, v76, (.int .i64 0)] W) W) W)) (
  J4 [x0, x3, x4, x9, x53, x54, x55] W)
def S.order_tie.l1 (J3 : List Value → World → Prop) (K1 : List Value → World → Prop) (x0 x3 x4 x9 x53 x54 x55 : Value) (W : World) : Prop :=
  okF (binP .lss x55 x54) fun v56 =>
  ifK v56 (
  joinK (fun s W => S.order_tie.j4 K1 (nthv s 0) (nthv s 1) (nthv s 2) (nthv s 3) (nthv s 4) (nthv s 5) (nthv s 6) W) (fun J4 =>
  okF (idxS 1 x53 x55) fun v58 =>
  rdK PR (Instr.loadAt T_s_int v58) (fun v59 W =>
  okF (lenP (.slice T_s_int) x3) fun v61 =>
  efK PR (Instr.makeSlice T_s_bool v61 v61) (fun v62 W =>
  okF (idxS 1 v62 x55) fun v65 =>
  efK PR (Instr.storeAt T_bool v65 (.bool true)) (fun _ W =>
  okF (lenP (.slice T_int) v59) fun v67 =>
  loopK (fun K2 s W => S.order_tie.l2 J4 K2 (nthv s 0) (nthv s 1) (nthv s 2) (nthv s 3) (nthv s 4) (nthv s 5) (nthv s 6) (nthv s 7) (nthv s 8) (nthv s 9) (nthv s 10) (nthv s 11) W) [x0, x3, x4, x9, x55, v62, x53, x54, x55, v59, v67, (.int .i64 0)] W) W) W) W)) (
  J3 [x9] W)
def S.order_tie.j2 (R : Value → World → Prop) (x0 x3 x4 x9 : Value) (W : World) : Prop :=
  joinK (fun s W => S.order_tie.j3 R (nthv s 0) W) (fun J3 =>
  okF (lenP (.slice T_s_int) x3) fun v54 =>
  loopK (fun K1 s W => S.order_tie.l1 J3 K1 (nthv s 0) (nthv s 1) (nthv s 2) (nthv s 3) (nthv s 4) (nthv s 5) (nthv s 6) W) [x0, x3, x4, x9, x3, v54, (.int .i64 0)] W)
def S.order_tie.j1 (R : Value → World → Prop) (x0 x3 x4 : Value) (W : World) : Prop :=
  joinK (fun s W => S.order_tie.j2 R (nthv s 0) (nthv s 1) (nthv s 2) (nthv s 3) W) (fun J2 =>
  okF (lenP (.slice T_s_int) x3) fun v46 =>
  okF (lenP (.slice T_s_int) x3) fun v49 =>
  (efK PR (Instr.makeSlice T_s_int v46 v46) (fun v47 W =>
  efK PR (Instr.makeSlice T_s_s_int v49 v49) (fun v50 W =>
  okF (bldP (fun i => ([(0, 1), (1, 1), (2, 1)] : List (Nat × Nat))[i]?) [.slice none 0 0, .slice none 0 0, .slice none 0 0] [(0, x3), (1, v47), (2, v50)]) fun v51 =>
  efK PR (Instr.box T_order_tied v51) (fun v52 W =>
  J2 [x0, x3, x4, v52] W) W) W) (tick W)) ∧ (efK PR (Instr.makeSlice T_s_s_int v49 v49) (fun v50_1 W =>
  efK PR (Instr.makeSlice T_s_int v46 v46) (fun v47_1 W =>
  okF (bldP (fun i => ([(0, 1), (1, 1), (2, 1)] : List (Nat × Nat))[i]?) [.slice none 0 0, .slice none 0 0, .slice none 0 0] [(0, x3), (1, v47_1), (2, v50_1)]) fun v51_1 =>
  efK PR (Instr.box T_order_tied v51_1) (fun v52_1 W =>
  J2 [x0, x3, x4, v52_1] W) W) W) (tick W)))
def S.order_tie.j7 (K4 : List Value → World → Prop) (x0 x3 x4 x25 x26 x27 : Value) (W : World) : Prop :=
  okF (binP .add x27 (.int .i64 1)) fun v43 =>
  K4 [x0, x3, x4, x25, x26, v43] W
def S.order_tie.l5 (J7 : List Value → World → Prop) (K5 : List Value → World → Prop) (x0 x3 x4 x5 x25 x26 x27 x32 x33 x34 : Value) (W : World) : Prop :=
  okF (binP .lss x34 x33) fun v35 =>
  ifK v35 (
  okF (idxS 1 x32 x34) fun v36 =>
  rdK PR (Instr.loadAt T_int v36) (fun v37 W =>
  okF (idxS 1 x4 v37) fun v41 =>
  efK PR (Instr.storeAt T_int v41 x5) (fun _ W =>
  okF (binP .add x34 (.int .i64 1)) fun v42 =>
  K5 [x0, x3, x4, x5, x25, x26, x27, x32, x33, v42] W) W) W) (
  J7 [x0, x3, x4, x25, x26, x27] W)
def S.order_tie.l4 (J1 : List Value → World → Prop) (K4 : List Value → World → Prop) (x0 x3 x4 x25 x26 x27 : Value) (W : World) : Prop :=
  okF (binP .lss x27 x26) fun v28 =>
  ifK v28 (
  joinK (fun s W => S.order_tie.j7 K4 (nthv s 0) (nthv s 1) (nthv s 2) (nthv s 3) (nthv s 4) (nthv s 5) W) (fun J7 =>
  okF (idxS 1 x25 x27) fun v30 =>
  rdK PR (Instr.loadAt T_s_int v30) (fun v31 W =>
  okF (lenP (.slice T_int) v31) fun v33 =>
  loopK (fun K5 s W => S.order_tie.l5 J7 K5 (nthv s 0) (nthv s 1) (nthv s 2) (nthv s 3) (nthv s 4) (nthv s 5) (nthv s 6) (nthv s 7) (nthv s 8) (nthv s 9) W) [x0, x3, x4, x27, x25, x26, x27, v31, v33, (.int .i64 0)] W) W)) (
  J1 [x0, x3, x4] W)
def S.order_tie.body (R : Value → World → Prop) (v0 : Value) (W : World) : Prop :=
  callK PR F_order_groups [v0] (fun v19 W =>
  callK PR F_slices_SortFunc_int_int [v19, (.func (.func F_order_tie_1) #[] #[])] (fun v21 W =>
  okF (lenP (.slice T_s_int) v0) fun v23 =>
  efK PR (Instr.makeSlice T_s_int v23 v23) (fun v24 W =>
  joinK (fun s W => S.order_tie.j1 R (nthv s 0) (nthv s 1) (nthv s 2) W) (fun J1 =>
  okF (lenP (.slice T_s_int) v19) fun v26 =>
  loopK (fun K4 s W => S.order_tie.l4 J1 K4 (nthv s 0) (nthv s 1) (nthv s 2) (nthv s 3) (nthv s 4) (nthv s 5) W) [v0, v19, v24, v19, v26, (.int .i64 0)] W)) W) W) W
def S.order_tie.hint : Hint := (.two .nil (.two .nil (.two .nil (.two .nil (.at [0, 3, 4] (.two .nil (.at [0, 3, 4, 25, 26, 27] (.two .nil (.two (.two .nil .nil) (.at [0, 3, 4, 25, 26, 27] (.two .nil (.two .nil (.at [0, 3, 4, 5, 25, 26, 27, 32, 33, 34] (.two .nil (.two (.two .nil .nil) (.two (.two .nil .nil) .nil))) .nil))) .nil))) .nil)) (.at [0, 3, 4, 9] .nil (.at [9] (.two .nil (.at [0, 3, 4, 9, 53, 54, 55] (.two .nil (.two (.two .nil .nil) (.at [0, 3, 4, 9, 53, 54, 55] (.two .nil (.two .nil (.two .nil (.two .nil (.at [0, 3, 4, 9, 10, 12, 53, 54, 55, 66, 67, 68] (.two .nil (.two (.two .nil .nil) (.at [0, 3, 4, 9, 10, 12, 53, 54, 55, 66, 67, 68] (.two .nil (.two .nil (.at [0, 3, 4, 9, 10, 12, 53, 54, 55, 66, 67, 68, 75, 76, 77] (.two .nil (.two (.two .nil .nil) (.at [0, 3, 4, 9, 10, 12, 53, 54, 55, 66, 67, 68, 75, 76, 77] (.two .nil (.two .nil (.two .nil (.two (.two .nil (.two .nil .nil)) .nil)))) .nil))) .nil))) .nil))) .nil))))) .nil))) .nil)) (.two .nil .nil))))))))
theorem S.order_tie.ok (R : Value → World → Prop) (v0 : Value) (W : World) : bodyK PR CB Try.f53 S.order_tie.hint [v0] R W = S.order_tie.body R v0 W := by kernel_rfl
theorem S.order_tie.fn : PR.funcs[F_order_tie]? = some Try.f53 := by kernel_rfl
theorem S.order_tie.call {R : Value → World → Prop} {v0 : Value} {W : World} (h : S.order_tie.body R v0 W) : callK PR F_order_tie [v0] R W :=
  callK_of_body (g := F_order_tie) (fn := Try.f53) (args := [v0]) (R := R) (w := W) mixed CBok S.order_tie.fn S.order_tie.hint (by rw [S.order_tie.ok]; exact h)
/-! ### rostrum/order.tie$1 (63) -/
def S.order_tie_1.body (R : Value → World → Prop) (v0 v1 : Value) (W : World) : Prop :=
  okF (idxS 1 v0 (.int .i64 0)) fun v6 =>
  rdK PR (Instr.loadAt T_int v6) (fun v7 W =>
  okF (idxS 1 v1 (.int .i64 0)) fun v9 =>
  rdK PR (Instr.loadAt T_int v9) (fun v10 W =>
  callK PR F_cmp_Compare_int [v7, v10] (fun v11 W =>
  R v11 W) W) W) (tick W)
def S.order_tie_1.hint : Hint := (.two .nil (.two .nil .nil))
theorem S.order_tie_1.ok (R : Value → World → Prop) (v0 v1 : Value) (W : World) : bodyK PR CB Try.f63 S.order_tie_1.hint [v0, v1] R W = S.order_tie_1.body R v0 v1 W := by kernel_rfl
theorem S.order_tie_1.fn : PR.funcs[F_order_tie_1]? = some Try.f63 := by kernel_rfl
theorem S.order_tie_1.call {R : Value → World → Prop} {v0 v1 : Value} {W : World} (h : S.order_tie_1.body R v0 v1 W) : callK PR F_order_tie_1 [v0, v1] R W :=
  callK_of_body (g := F_order_tie_1) (fn := Try.f63) (args := [v0, v1]) (R := R) (w := W) mixed CBok S.order_tie_1.fn S.order_tie_1.hint (by rw [S.order_tie_1.ok]; exact h)
/-! ### rostrum/order.line (33) -/
def S.order_line.j1 (R : Value → World → Prop) (x4 : Value) (W : World) : Prop :=
  R x4 W
def S.order_line.j2 (K1 : List Value → World → Prop) (x3 x4 x14 x15 : Value) (W : World) : Prop :=
  okF (binP .add x15 (.int .i64 1)) fun v59 =>
  K1 [x3, x4, x14, v59] W
def S.order_line.l2 (J2 : List Value → World → Prop) (K2 : List Value → World → Prop) (x3 x4 x14 x15 x43 x44 x45 : Value) (W : World) : Prop :=
  okF (binP .lss x45 x44) fun v46 =>
  ifK v46 (
  okF (idxS 1 x43 x45) fun v47 =>
  rdK PR (Instr.loadAt T_int v47) (fun v48 W =>
  okF (nilP x3) fun v50 =>
  okF (addrF 1 v50) fun v51 =>
  rdK PR (Instr.loadAt T_s_int v51) (fun v52 W =>
  okF (idxS 1 v52 v48) fun v54 =>
  rdK PR (Instr.loadAt T_int v54) (fun v55 W =>
  okF (binP .sub v55 (.int .i64 1)) fun v56 =>
  okF (idxS 1 v52 v48) fun v57 =>
  efK PR (Instr.storeAt T_int v57 v56) (fun _ W =>
  okF (binP .add x45 (.int .i64 1)) fun v58 =>
  K2 [x3, x4, x14, x15, x43, x44, v58] W) W) W) W) W) (
  J2 [x3, x4, x14, x15] W)
def S.order_line.l1 (J1 : List Value → World → Prop) (K1 : List Value → World → Prop) (x3 x4 x14 x15 : Value) (W : World) : Prop :=
  okF (binP .lss x15 x14) fun v16 =>
  ifK v16 (
  joinK (fun s W => S.order_line.j2 K1 (nthv s 0) (nthv s 1) (nthv s 2) (nthv s 3) W) (fun J2 =>
  okF (nilP x3) fun v18 =>
  okF (addrF 1 v18) fun v19 =>
  rdK PR (Instr.loadAt T_s_int v19) (fun v20 W =>
  callK PR F_slices_Index_int_int [v20, (.int .i64 0)] (fun v21 W =>
  okF (nilP x3) fun v23 =>
  okF (addrF 1 v23) fun v24 =>
  rdK PR (Instr.loadAt T_s_int v24) (fun v25 W =>
  okF (idxS 1 v25 v21) fun v27 =>
  efK PR (Instr.storeAt T_int v27 (.int .i64 (-1))) (fun _ W =>
  okF (nilP x3) fun v30 =>
  okF (addrF 0 v30) fun v31 =>
  rdK PR (Instr.loadAt T_s_s_int v31) (fun v32 W =>
  okF (idxS 1 v32 v21) fun v34 =>
  rdK PR (Instr.loadAt T_s_int v34) (fun v35 W =>
  efK PR (Builtin.append_ #[T_s_int, T_s_int] T_s_int #[x4, v35]) (fun v36 W =>
  okF (nilP x3) fun v38 =>
  okF (addrF 2 v38) fun v39 =>
  rdK PR (Instr.loadAt T_s_s_int v39) (fun v40 W =>
  okF (idxS 1 v40 v21) fun v42 =>
  rdK PR (Instr.loadAt T_s_int v42) (fun v43 W =>
  okF (lenP (.slice T_int) v43) fun v44 =>
  loopK (fun K2 s W => S.order_line.l2 J2 K2 (nthv s 0) (nthv s 1) (nthv s 2) (nthv s 3) (nthv s 4) (nthv s 5) (nthv s 6) W) [x3, v36, x14, x15, v43, v44, (.int .i64 0)] W) W) W) W) W) W) W) W) W) W)) (
  J1 [x4] W)
def S.order_line.body (R : Value → World → Prop) (v0 : Value) (W : World) : Prop :=
  callK PR F_order_tie [v0] (fun v9 W =>
  joinK (fun s W => S.order_line.j1 R (nthv s 0) W) (fun J1 =>
  okF (nilP v9) fun v11 =>
  okF (addrF 0 v11) fun v12 =>
  rdK PR (Instr.loadAt T_s_s_int v12) (fun v13 W =>
  okF (lenP (.slice T_s_int) v13) fun v14 =>
  loopK (fun K1 s W => S.order_line.l1 J1 K1 (nthv s 0) (nthv s 1) (nthv s 2) (nthv s 3) W) [v9, (.slice none 0 0), v14, (.int .i64 0)] W) W)) W
def S.order_line.hint : Hint := (.two .nil (.two .nil (.two .nil (.at [4] (.two .nil (.at [3, 4, 14, 15] (.two .nil (.two (.two .nil .nil) (.at [3, 4, 14, 15] (.two .nil (.two .nil (.two .nil (.two .nil (.at [3, 4, 14, 15, 43, 44, 45] (.two .nil (.two (.two .nil .nil) (.two (.two .nil .nil) .nil))) .nil))))) .nil))) .nil)) (.two .nil .nil)))))
theorem S.order_line.ok (R : Value → World → Prop) (v0 : Value) (W : World) : bodyK PR CB Try.f33 S.order_line.hint [v0] R W = S.order_line.body R v0 W := by kernel_rfl
theorem S.order_line.fn : PR.funcs[F_order_line]? = some Try.f33 := by kernel_rfl
theorem S.order_line.call {R : Value → World → Prop} {v0 : Value} {W : World} (h : S.order_line.body R v0 W) : callK PR F_order_line [v0] R W :=
  callK_of_body (g := F_order_line) (fn := Try.f33) (args := [v0]) (R := R) (w := W) mixed CBok S.order_line.fn S.order_line.hint (by rw [S.order_line.ok]; exact h)
/-! ### rostrum/order.kept (31) -/
def S.order_kept.j3 (R : Value → World → Prop) (x17 : Value) (W : World) : Prop :=
  R x17 W
def S.order_kept.j4 (K1 : List Value → World → Prop) (x8 x17 x106 x107 x108 : Value) (W : World) : Prop :=
  okF (binP .add x108 (.int .i64 1)) fun v122 =>
  K1 [x8, x17, x106, x107, v122] W
def S.order_kept.l1 (J3 : List Value → World → Prop) (K1 : List Value → World → Prop) (x8 x17 x106 x107 x108 : Value) (W : World) : Prop :=
  okF (binP .lss x108 x107) fun v109 =>
  ifK v109 (
  joinK (fun s W => S.order_kept.j4 K1 (nthv s 0) (nthv s 1) (nthv s 2) (nthv s 3) (nthv s 4) W) (fun J4 =>
  okF (idxS 10 x106 x108) fun v111 =>
  rdK PR (Instr.loadAt T_order_Inst v111) (fun v112 W =>
  efK PR (Instr.alloc T_order_Inst true (.tuple #[])) (fun v19 W =>
  efK PR (Instr.storeAt T_order_Inst v19 v112) (fun _ W =>
  okF (idxS 1 x8 x108) fun v115 =>
  rdK PR (Instr.loadAt T_bool v115) (fun v116 W =>
  okF (unP .not v116) fun v117 =>
  ifK v117 (
  rdK PR (Instr.loadAt T_order_Inst v19) (fun v119 W =>
  efK PR (Instr.buildSlice T_s_order_Inst 1 #[(0, v119)]) (fun v120 W =>
  efK PR (Builtin.append_ #[T_s_order_Inst, T_s_order_Inst] T_s_order_Inst #[x17, v120]) (fun v121 W =>
  J4 [x8, v121, x106, x107, x108] W) W) W) W) (
  J4 [x8, x17, x106, x107, x108] W)) W) W) W) W)) (
  J3 [x17] W)
def S.order_kept.j2 (R : Value → World → Prop) (x5 x8 : Value) (W : World) : Prop :=
  joinK (fun s W => S.order_kept.j3 R (nthv s 0) W) (fun J3 =>
  rdK PR (Instr.loadAt T_p_order_web x5) (fun v103 W =>
  okF (nilP v103) fun v104 =>
  okF (addrF 0 v104) fun v105 =>
  rdK PR (Instr.loadAt T_s_order_Inst v105) (fun v106 W =>
  okF (lenP (.slice T_order_Inst) v106) fun v107 =>
  loopK (fun K1 s W => S.order_kept.l1 J3 K1 (nthv s 0) (nthv s 1) (nthv s 2) (nthv s 3) (nthv s 4) W) [x8, (.slice none 0 0), v106, v107, (.int .i64 0)] W) W) W)
def S.order_kept.j5 (K2 : List Value → World → Prop) (x5 x7 x8 x9 x14 : Value) (W : World) : Prop :=
  okF (binP .add x14 (.int .i64 1)) fun v77 =>
  K2 [x5, x7, x8, x9, v77] W
def S.order_kept.j6 (K3 : List Value → World → Prop) (x5 x7 x8 x9 x14 x84 x85 x86 : Value) (W : World) : Prop :=
  okF (binP .add x86 (.int .i64 1)) fun v102 =>
  K3 [x5, x7, x8, x9, x14, x84, x85, v102] W
def S.order_kept.l3 (J5 : List Value → World → Prop) (K3 : List Value → World → Prop) (x5 x7 x8 x9 x14 x84 x85 x86 : Value) (W : World) : Prop :=
  okF (binP .lss x86 x85) fun v87 =>
  ifK v87 (
  joinK (fun s W => S.order_kept.j6 K3 (nthv s 0) (nthv s 1) (nthv s 2) (nthv s 3) (nthv s 4) (nthv s 5) (nthv s 6) (nthv s 7) W) (fun J6 =>
  okF (idxS 1 x84 x86) fun v88 =>
  rdK PR (Instr.loadAt T_int v88) (fun v89 W =>
  okF (idxS 1 x8 v89) fun v92 =>
  rdK PR (Instr.loadAt T_bool v92) (fun v93 W =>
  okF (unP .not v93) fun v94 =>
  ifK v94 (
  okF (idxS 1 x8 v89) fun v97 =>
  efK PR (Instr.storeAt T_bool v97 (.bool true)) (fun _ W =>
  efK PR (Instr.buildSlice T_s_int 1 #[(0, v89)]) (fun v100 W =>
  efK PR (Builtin.append_ #[T_s_int, T_s_int] T_s_int #[x9, v100]) (fun v101 W =>
  J6 [x5, x7, x8, v101, x14, x84, x85, x86] W) W) W) W) (
  J6 [x5, x7, x8, x9, x14, x84, x85, x86] W)) W) W)) (
  J5 [x5, x7, x8, x9, x14] W)
def S.order_kept.l2 (J2 : List Value → World → Prop) (K2 : List Value → World → Prop) (x5 x7 x8 x9 x14 : Value) (W : World) : Prop :=
  okF (lenP (.slice T_int) x9) fun v74 =>
  okF (binP .lss x14 v74) fun v75 =>
  ifK v75 (
  joinK (fun s W => S.order_kept.j5 K2 (nthv s 0) (nthv s 1) (nthv s 2) (nthv s 3) (nthv s 4) W) (fun J5 =>
  okF (idxS 1 x9 x14) fun v81 =>
  rdK PR (Instr.loadAt T_int v81) (fun v82 W =>
  okF (idxS 1 x7 v82) fun v83 =>
  rdK PR (Instr.loadAt T_s_int v83) (fun v84 W =>
  okF (lenP (.slice T_int) v84) fun v85 =>
  loopK (fun K3 s W => S.order_kept.l3 J5 K3 (nthv s 0) (nthv s 1) (nthv s 2) (nthv s 3) (nthv s 4) (nthv s 5) (nthv s 6) (nthv s 7) W) [x5, x7, x8, x9, x14, v84, v85, (.int .i64 0)] W) W) W)) (
  J2 [x5, x8] W)
def S.order_kept.j1 (R : Value → World → Prop) (x5 x7 x8 x9 : Value) (W : World) : Prop :=
  joinK (fun s W => S.order_kept.j2 R (nthv s 0) (nthv s 1) W) (fun J2 =>
  loopK (fun K2 s W => S.order_kept.l2 J2 K2 (nthv s 0) (nthv s 1) (nthv s 2) (nthv s 3) (nthv s 4) W) [x5, x7, x8, x9, (.int .i64 0)] W)
def S.order_kept.j7 (K4 : List Value → World → Prop) (x3 x5 x6 x7 x8 x9 x34 x35 : Value) (W : World) : Prop :=
  okF (binP .add x35 (.int .i64 1)) fun v71 =>
  K4 [x3, x5, x6, x7, x8, x9, x34, v71] W
def S.order_kept.j8 (J7 : List Value → World → Prop) (x3 x5 x6 x7 x8 x9 x10 x34 x35 : Value) (W : World) : Prop :=
  rdK PR (Instr.loadAt T_p_order_web x5) (fun v59 W =>
  callK PR F_order_web_each [v59, x10, (.func (.func F_order_kept_1) #[] #[x5, x3])] (fun v62 W =>
  okF (unP .not v62) fun v63 =>
  ifK v63 (
  okF (idxS 1 x8 x10) fun v66 =>
  efK PR (Instr.storeAt T_bool v66 (.bool true)) (fun _ W =>
  efK PR (Instr.buildSlice T_s_int 1 #[(0, x10)]) (fun v69 W =>
  efK PR (Builtin.append_ #[T_s_int, T_s_int] T_s_int #[x9, v69]) (fun v70 W =>
  J7 [x3, x5, x6, x7, x8, v70, x34, x35] W) W) W) W) (
  J7 [x3, x5, x6, x7, x8, x9, x34, x35] W)) W) W
def S.order_kept.l5 (J8 : List Value → World → Prop) (K5 : List Value → World → Prop) (x3 x5 x6 x7 x8 x9 x10 x34 x35 x41 x42 x43 : Value) (W : World) : Prop :=
  okF (binP .lss x43 x42) fun v44 =>
  ifK v44 (
  okF (idxS 1 x41 x43) fun v45 =>
  rdK PR (Instr.loadAt T_int v45) (fun v46 W =>
  okF (idxS 1 x7 v46) fun v51 =>
  rdK PR (Instr.loadAt T_s_int v51) (fun v52 W =>
  efK PR (Instr.buildSlice T_s_int 1 #[(0, x10)]) (fun v54 W =>
  efK PR (Builtin.append_ #[T_s_int, T_s_int] T_s_int #[v52, v54]) (fun v55 W =>
  okF (idxS 1 x7 v46) fun v56 =>
  efK PR (Instr.storeAt T_s_int v56 v55) (fun _ W =>
  okF (binP .add x43 (.int .i64 1)) fun v57 =>
  K5 [x3, x5, x6, x7, x8, x9, x10, x34, x35, x41, x42, v57] W) W) W) W) W) W) (
  J8 [x3, x5, x6, x7, x8, x9, x10, x34, x35] W)
def S.order_kept.l4 (J1 : List Value → World → Prop) (K4 : List Value → World → Prop) (x3 x5 x6 x7 x8 x9 x34 x35 : Value) (W : World) : Prop :=
  okF (binP .lss x35 x34) fun v36 =>
  ifK v36 (
  joinK (fun s W => S.order_kept.j7 K4 (nthv s 0) (nthv s 1) (nthv s 2) (nthv s 3) (nthv s 4) (nthv s 5) (nthv s 6) (nthv s 7) W) (fun J7 =>
  joinK (fun s W => S.order_kept.j8 J7 (nthv s 0) (nthv s 1) (nthv s 2) (nthv s 3) (nthv s 4) (nthv s 5) (nthv s 6) (nthv s 7) (nthv s 8) W) (fun J8 =>
  okF (idxS 1 x6 x35) fun v40 =>
  rdK PR (Instr.loadAt T_s_int v40) (fun v41 W =>
  okF (lenP (.slice T_int) v41) fun v42 =>
  loopK (fun K5 s W => S.order_kept.l5 J8 K5 (nthv s 0) (nthv s 1) (nthv s 2) (nthv s 3) (nthv s 4) (nthv s 5) (nthv s 6) (nthv s 7) (nthv s 8) (nthv s 9) (nthv s 10) (nthv s 11) W) [x3, x5, x6, x7, x8, x9, x35, x34, x35, v41, v42, (.int .i64 0)] W) W))) (
  J1 [x5, x7, x8, x9] W)
def S.order_kept.body (R : Value → World → Prop) (v0 v1 : Value) (W : World) : Prop :=
  efK PR (Instr.box T_t61 v1) (fun v3 W =>
  callK PR F_order_weave [v0] (fun v21 W =>
  efK PR (Instr.alloc T_p_order_web true (.tuple #[])) (fun v5 W =>
  efK PR (Instr.storeAt T_p_order_web v5 v21) (fun _ W =>
  rdK PR (Instr.loadAt T_p_order_web v5) (fun v22 W =>
  callK PR F_order_web_on [v22] (fun v23 W =>
  okF (lenP (.slice T_order_Inst) v0) fun v25 =>
  efK PR (Instr.makeSlice T_s_s_int v25 v25) (fun v26 W =>
  okF (lenP (.slice T_order_Inst) v0) fun v28 =>
  efK PR (Instr.makeSlice T_s_bool v28 v28) (fun v29 W =>
  joinK (fun s W => S.order_kept.j1 R (nthv s 0) (nthv s 1) (nthv s 2) (nthv s 3) W) (fun J1 =>
  rdK PR (Instr.loadAt T_p_order_web v5) (fun v30 W =>
  okF (nilP v30) fun v31 =>
  okF (addrF 0 v31) fun v32 =>
  rdK PR (Instr.loadAt T_s_order_Inst v32) (fun v33 W =>
  okF (lenP (.slice T_order_Inst) v33) fun v34 =>
  loopK (fun K4 s W => S.order_kept.l4 J1 K4 (nthv s 0) (nthv s 1) (nthv s 2) (nthv s 3) (nthv s 4) (nthv s 5) (nthv s 6) (nthv s 7) W) [v3, v5, v23, v26, v29, (.slice none 0 0), v34, (.int .i64 0)] W) W) W)) W) W) W) W) W) W) W) W
def S.order_kept.hint : Hint := (.two .nil (.two .nil (.two .nil (.two .nil (.two .nil (.two .nil (.at [5, 7, 8, 9] (.two .nil (.at [3, 5, 6, 7, 8, 9, 34, 35] (.two .nil (.two (.two .nil .nil) (.at [3, 5, 6, 7, 8, 9, 34, 35] (.two .nil (.at [3, 5, 6, 7, 8, 9, 10, 34, 35] (.two .nil (.at [3, 5, 6, 7, 8, 9, 10, 34, 35, 41, 42, 43] (.two .nil (.two (.two .nil .nil) (.two (.two .nil .nil) .nil))) .nil)) (.two .nil (.two .nil (.two (.two .nil .nil) .nil))))) .nil))) .nil)) (.at [5, 8] (.two .nil (.at [5, 7, 8, 9, 14] (.two (.two .nil (.two .nil .nil)) (.at [5, 7, 8, 9, 14] (.two .nil (.at [5, 7, 8, 9, 14, 84, 85, 86] (.two .nil (.two (.two .nil .nil) (.at [5, 7, 8, 9, 14, 84, 85, 86] (.two .nil (.two .nil (.two (.two .nil .nil) .nil))) .nil))) .nil)) .nil)) .nil)) (.two .nil (.at [17] (.two .nil (.at [8, 17, 106, 107, 108] (.two .nil (.two (.two .nil .nil) (.at [8, 17, 106, 107, 108] (.two .nil (.two .nil (.two .nil .nil))) .nil))) .nil)) (.two .nil .nil)))))))))))
theorem S.order_kept.ok (R : Value → World → Prop) (v0 v1 : Value) (W : World) : bodyK PR CB Try.f31 S.order_kept.hint [v0, v1] R W = S.order_kept.body R v0 v1 W := by kernel_rfl
theorem S.order_kept.fn : PR.funcs[F_order_kept]? = some Try.f31 := by kernel_rfl
theorem S.order_kept.call {R : Value → World → Prop} {v0 v1 : Value} {W : World} (h : S.order_kept.body R v0 v1 W) : callK PR F_order_kept [v0, v1] R W :=
  callK_of_body (g := F_order_kept) (fn := Try.f31) (args := [v0, v1]) (R := R) (w := W) mixed CBok S.order_kept.fn S.order_kept.hint (by rw [S.order_kept.ok]; exact h)
/-! ### rostrum/order.kept$1 (51) -/
def S.order_kept_1.body (R : Value → World → Prop) (v0 v1 v2 : Value) (W : World) : Prop :=
  efK PR (Instr.box T_api_Dot v0) (fun v3 W =>
  rdK PR (Instr.loadAt T_p_order_web v1) (fun v8 W =>
  okF (nilP v8) fun v9 =>
  okF (addrF 1 v9) fun v10 =>
  rdK PR (Instr.loadAt T_m_api_Dot_int v10) (fun v11 W =>
  rdK PR (Instr.loadAt T_api_Dot v3) (fun v12 W =>
  rdK PR (Instr.lookup T_m_api_Dot_int v11 v12 true) (fun v13 W =>
  okF (extP 0 v13) fun v14 =>
  okF (extP 1 v13) fun v15 =>
  gdK (wantd v15 false) (fun k W => rdK PR (Instr.loadAt T_t61 v2) k W) (fun v18 W =>
  gdK (wantd v15 false) (fun k W => rdK PR (Instr.loadAt T_api_Dot v3) k W) (fun v19 W =>
  gdK (wantd v15 false) (fun k W => vcK PR v18 [v19] k W) (fun v20 W =>
  okF (pickP v15 (.bool true) v20) fun v21 =>
  R v21 W) W) W) W) W) W) W) (tick W)) W
def S.order_kept_1.hint : Hint := (.two .nil (.two .nil (.two .nil .nil)))
theorem S.order_kept_1.ok (R : Value → World → Prop) (v0 v1 v2 : Value) (W : World) : bodyK PR CB Try.f51 S.order_kept_1.hint [v0, v1, v2] R W = S.order_kept_1.body R v0 v1 v2 W := by kernel_rfl
theorem S.order_kept_1.fn : PR.funcs[F_order_kept_1]? = some Try.f51 := by kernel_rfl
theorem S.order_kept_1.call {R : Value → World → Prop} {v0 v1 v2 : Value} {W : World} (h : S.order_kept_1.body R v0 v1 v2 W) : callK PR F_order_kept_1 [v0, v1, v2] R W :=
  callK_of_body (g := F_order_kept_1) (fn := Try.f51) (args := [v0, v1, v2]) (R := R) (w := W) mixed CBok S.order_kept_1.fn S.order_kept_1.hint (by rw [S.order_kept_1.ok]; exact h)
/-! ### (*rostrum/order.web).dots (32) -/
def S.order_web_dots.j1 (R : Value → World → Prop) (x5 : Value) (W : World) : Prop :=
  R x5 W
def S.order_web_dots.l1 (J1 : List Value → World → Prop) (K1 : List Value → World → Prop) (x0 x5 x8 x9 x10 : Value) (W : World) : Prop :=
  okF (binP .lss x10 x9) fun v11 =>
  ifK v11 (
  okF (idxS 1 x8 x10) fun v12 =>
  rdK PR (Instr.loadAt T_int v12) (fun v13 W =>
  okF (nilP x0) fun v16 =>
  okF (addrF 0 v16) fun v17 =>
  rdK PR (Instr.loadAt T_s_order_Inst v17) (fun v18 W =>
  okF (idxS 10 v18 v13) fun v20 =>
  okF (addrF 0 v20) fun v21 =>
  rdK PR (Instr.loadAt T_api_Dot v21) (fun v22 W =>
  efK PR (Instr.buildSlice T_s_api_Dot 1 #[(0, v22)]) (fun v23 W =>
  efK PR (Builtin.append_ #[T_s_api_Dot, T_s_api_Dot] T_s_api_Dot #[x5, v23]) (fun v24 W =>
  okF (binP .add x10 (.int .i64 1)) fun v25 =>
  K1 [x0, v24, x8, x9, v25] W) W) W) W) W) W) (
  J1 [x5] W)
def S.order_web_dots.body (R : Value → World → Prop) (v0 v1 : Value) (W : World) : Prop :=
  joinK (fun s W => S.order_web_dots.j1 R (nthv s 0) W) (fun J1 =>
  okF (lenP (.slice T_int) v1) fun v9 =>
  loopK (fun K1 s W => S.order_web_dots.l1 J1 K1 (nthv s 0) (nthv s 1) (nthv s 2) (nthv s 3) (nthv s 4) W) [v0, (.slice none 0 0), v1, v9, (.int .i64 0)] W)
def S.order_web_dots.hint : Hint := (.two .nil (.two .nil (.at [5] (.two .nil (.at [0, 5, 8, 9, 10] (.two .nil (.two (.two .nil .nil) (.two (.two .nil .nil) .nil))) .nil)) (.two .nil .nil))))
theorem S.order_web_dots.ok (R : Value → World → Prop) (v0 v1 : Value) (W : World) : bodyK PR CB Try.f32 S.order_web_dots.hint [v0, v1] R W = S.order_web_dots.body R v0 v1 W := by kernel_rfl
theorem S.order_web_dots.fn : PR.funcs[F_order_web_dots]? = some Try.f32 := by kernel_rfl
theorem S.order_web_dots.call {R : Value → World → Prop} {v0 v1 : Value} {W : World} (h : S.order_web_dots.body R v0 v1 W) : callK PR F_order_web_dots [v0, v1] R W :=
  callK_of_body (g := F_order_web_dots) (fn := Try.f32) (args := [v0, v1]) (R := R) (w := W) mixed CBok S.order_web_dots.fn S.order_web_dots.hint (by rw [S.order_web_dots.ok]; exact h)
/-! ### rostrum/order.Line (10) -/
def S.order_Line.j1 (R : Value → World → Prop) (x0 x4 x7 : Value) (W : World) : Prop :=
  efK PR (Instr.alloc T_t61 true (.tuple #[])) (fun v10 W =>
  efK PR (Instr.storeAt T_t61 v10 (.func (.func F_order_Line_1) #[] #[x4, x7])) (fun _ W =>
  callK PR F_slices_Clone_order_Inst_order_Inst [x0] (fun v28 W =>
  callK PR F_slices_DeleteFunc_order_Inst_order_Inst [v28, (.func (.func F_order_Line_2) #[] #[v10])] (fun v30 W =>
  rdK PR (Instr.loadAt T_t61 v10) (fun v32 W =>
  callK PR F_order_kept [v30, v32] (fun v33 W =>
  callK PR F_order_weave [v33] (fun v34 W =>
  callK PR F_order_web_on [v34] (fun v37 W =>
  callK PR F_order_line [v37] (fun v38 W =>
  callK PR F_order_web_dots [v34, v38] (fun v39 W =>
  R v39 W) W) W) W) W) W) W) W) W) W) W
def S.order_Line.l1 (J1 : List Value → World → Prop) (K1 : List Value → World → Prop) (x0 x4 x7 x17 x18 x19 : Value) (W : World) : Prop :=
  okF (binP .lss x19 x18) fun v20 =>
  ifK v20 (
  okF (idxS 2 x17 x19) fun v21 =>
  rdK PR (Instr.loadAt T_api_Dot v21) (fun v22 W =>
  efK PR (Instr.alloc T_api_Dot true (.tuple #[])) (fun v9 W =>
  efK PR (Instr.storeAt T_api_Dot v9 v22) (fun _ W =>
  rdK PR (Instr.loadAt T_m_api_Dot_bool x7) (fun v23 W =>
  rdK PR (Instr.loadAt T_api_Dot v9) (fun v24 W =>
  efK PR (Instr.mapUpdate T_m_api_Dot_bool v23 v24 (.bool true)) (fun _ W =>
  okF (binP .add x19 (.int .i64 1)) fun v25 =>
  K1 [x0, x4, x7, x17, x18, v25] W) W) W) W) W) W) W) (
  J1 [x0, x4, x7] W)
def S.order_Line.body (R : Value → World → Prop) (v0 v1 v2 : Value) (W : World) : Prop :=
  efK PR (Instr.box T_a7_int64 v1) (fun v4 W =>
  callK PR F_order_Good [v0] (fun v14 W =>
  okF (unP .not v14) fun v15 =>
  ifK v15 (
  R (.slice none 0 0) W) (
  efK PR (Instr.makeMap T_m_api_Dot_bool none) (fun v16 W =>
  efK PR (Instr.alloc T_m_api_Dot_bool true (.tuple #[])) (fun v7 W =>
  efK PR (Instr.storeAt T_m_api_Dot_bool v7 v16) (fun _ W =>
  joinK (fun s W => S.order_Line.j1 R (nthv s 0) (nthv s 1) (nthv s 2) W) (fun J1 =>
  okF (lenP (.slice T_api_Dot) v2) fun v18 =>
  loopK (fun K1 s W => S.order_Line.l1 J1 K1 (nthv s 0) (nthv s 1) (nthv s 2) (nthv s 3) (nthv s 4) (nthv s 5) W) [v0, v4, v7, v2, v18, (.int .i64 0)] W)) W) W) W)) W) W
def S.order_Line.hint : Hint := (.two .nil (.two (.two .nil (.two (.two .nil .nil) .nil)) (.two .nil (.at [0, 4, 7] (.two .nil (.at [0, 4, 7, 17, 18, 19] (.two .nil (.two (.two .nil .nil) (.two (.two .nil .nil) .nil))) .nil)) (.two .nil (.two .nil (.two .nil (.two .nil .nil))))))))
theorem S.order_Line.ok (R : Value → World → Prop) (v0 v1 v2 : Value) (W : World) : bodyK PR CB Try.f10 S.order_Line.hint [v0, v1, v2] R W = S.order_Line.body R v0 v1 v2 W := by kernel_rfl
theorem S.order_Line.fn : PR.funcs[F_order_Line]? = some Try.f10 := by kernel_rfl
theorem S.order_Line.call {R : Value → World → Prop} {v0 v1 v2 : Value} {W : World} (h : S.order_Line.body R v0 v1 v2 W) : callK PR F_order_Line [v0, v1, v2] R W :=
  callK_of_body (g := F_order_Line) (fn := Try.f10) (args := [v0, v1, v2]) (R := R) (w := W) mixed CBok S.order_Line.fn S.order_Line.hint (by rw [S.order_Line.ok]; exact h)
/-! ### rostrum/order.Line$1 (26) -/
def S.order_Line_1.body (R : Value → World → Prop) (v0 v1 v2 : Value) (W : World) : Prop :=
  efK PR (Instr.box T_api_Dot v0) (fun v3 W =>
  okF (addrF 1 v3) fun v5 =>
  rdK PR (Instr.loadAt T_int64 v5) (fun v6 W =>
  okF (addrF 0 v3) fun v7 =>
  rdK PR (Instr.loadAt T_int v7) (fun v8 W =>
  okF (idxA 7 1 v1 v8) fun v9 =>
  rdK PR (Instr.loadAt T_int64 v9) (fun v10 W =>
  okF (binP .leq v6 v10) fun v11 =>
  gdK (wantd v11 false) (fun k W => rdK PR (Instr.loadAt T_m_api_Dot_bool v2) k W) (fun v13 W =>
  gdK (wantd v11 false) (fun k W => rdK PR (Instr.loadAt T_api_Dot v3) k W) (fun v14 W =>
  gdK (wantd v11 false) (fun k W => rdK PR (Instr.lookup T_m_api_Dot_bool v13 v14 false) k W) (fun v15 W =>
  okF (pickP v11 (.bool true) v15) fun v16 =>
  R v16 W) W) W) W) W) W) (tick W)) W
def S.order_Line_1.hint : Hint := (.two .nil (.two .nil .nil))
theorem S.order_Line_1.ok (R : Value → World → Prop) (v0 v1 v2 : Value) (W : World) : bodyK PR CB Try.f26 S.order_Line_1.hint [v0, v1, v2] R W = S.order_Line_1.body R v0 v1 v2 W := by kernel_rfl
theorem S.order_Line_1.fn : PR.funcs[F_order_Line_1]? = some Try.f26 := by kernel_rfl
theorem S.order_Line_1.call {R : Value → World → Prop} {v0 v1 v2 : Value} {W : World} (h : S.order_Line_1.body R v0 v1 v2 W) : callK PR F_order_Line_1 [v0, v1, v2] R W :=
  callK_of_body (g := F_order_Line_1) (fn := Try.f26) (args := [v0, v1, v2]) (R := R) (w := W) mixed CBok S.order_Line_1.fn S.order_Line_1.hint (by rw [S.order_Line_1.ok]; exact h)
/-! ### rostrum/order.Line$2 (29) -/
def S.order_Line_2.body (R : Value → World → Prop) (v0 v1 : Value) (W : World) : Prop :=
  efK PR (Instr.box T_order_Inst v0) (fun v2 W =>
  rdK PR (Instr.loadAt T_t61 v1) (fun v4 W =>
  okF (addrF 0 v2) fun v5 =>
  rdK PR (Instr.loadAt T_api_Dot v5) (fun v6 W =>
  vcK PR v4 [v6] (fun v7 W =>
  R v7 W) W) W) W) W
def S.order_Line_2.hint : Hint := (.two .nil (.two .nil .nil))
theorem S.order_Line_2.ok (R : Value → World → Prop) (v0 v1 : Value) (W : World) : bodyK PR CB Try.f29 S.order_Line_2.hint [v0, v1] R W = S.order_Line_2.body R v0 v1 W := by kernel_rfl
theorem S.order_Line_2.fn : PR.funcs[F_order_Line_2]? = some Try.f29 := by kernel_rfl
theorem S.order_Line_2.call {R : Value → World → Prop} {v0 v1 : Value} {W : World} (h : S.order_Line_2.body R v0 v1 W) : callK PR F_order_Line_2 [v0, v1] R W :=
  callK_of_body (g := F_order_Line_2) (fn := Try.f29) (args := [v0, v1]) (R := R) (w := W) mixed CBok S.order_Line_2.fn S.order_Line_2.hint (by rw [S.order_Line_2.ok]; exact h)
/-! ### rostrum/order.Groups (13) -/
def S.order_Groups.j1 (R : Value → World → Prop) (x4 : Value) (W : World) : Prop :=
  callK PR F_slices_SortFunc_api_Dot_api_Dot [x4, (.func (.func F_order_Groups_1) #[] #[])] (fun v28 W =>
  R x4 W) W
def S.order_Groups.l1 (J1 : List Value → World → Prop) (K1 : List Value → World → Prop) (x3 x4 x14 x15 x16 : Value) (W : World) : Prop :=
  okF (binP .lss x16 x15) fun v17 =>
  ifK v17 (
  okF (idxS 1 x14 x16) fun v18 =>
  rdK PR (Instr.loadAt T_s_int v18) (fun v19 W =>
  callK PR F_order_web_dots [x3, v19] (fun v23 W =>
  efK PR (Instr.buildSlice T_s_s_api_Dot 1 #[(0, v23)]) (fun v24 W =>
  efK PR (Builtin.append_ #[T_s_s_api_Dot, T_s_s_api_Dot] T_s_s_api_Dot #[x4, v24]) (fun v25 W =>
  okF (binP .add x16 (.int .i64 1)) fun v26 =>
  K1 [x3, v25, x14, x15, v26] W) W) W) W) W) (
  J1 [x4] W)
def S.order_Groups.body (R : Value → World → Prop) (v0 : Value) (W : World) : Prop :=
  callK PR F_order_Good [v0] (fun v8 W =>
  okF (unP .not v8) fun v9 =>
  ifK v9 (
  R (.slice none 0 0) W) (
  callK PR F_order_weave [v0] (fun v11 W =>
  joinK (fun s W => S.order_Groups.j1 R (nthv s 0) W) (fun J1 =>
  callK PR F_order_web_on [v11] (fun v13 W =>
  callK PR F_order_groups [v13] (fun v14 W =>
  okF (lenP (.slice T_s_int) v14) fun v15 =>
  loopK (fun K1 s W => S.order_Groups.l1 J1 K1 (nthv s 0) (nthv s 1) (nthv s 2) (nthv s 3) (nthv s 4) W) [v11, (.slice none 0 0), v14, v15, (.int .i64 0)] W) W) W)) W)) W
def S.order_Groups.hint : Hint := (.two .nil (.two (.two .nil (.two (.two .nil .nil) .nil)) (.two .nil (.two .nil (.at [4] (.two .nil (.at [3, 4, 14, 15, 16] (.two .nil (.two (.two .nil .nil) (.two (.two .nil .nil) .nil))) .nil)) (.two .nil (.two .nil .nil)))))))
theorem S.order_Groups.ok (R : Value → World → Prop) (v0 : Value) (W : World) : bodyK PR CB Try.f13 S.order_Groups.hint [v0] R W = S.order_Groups.body R v0 W := by kernel_rfl
theorem S.order_Groups.fn : PR.funcs[F_order_Groups]? = some Try.f13 := by kernel_rfl
theorem S.order_Groups.call {R : Value → World → Prop} {v0 : Value} {W : World} (h : S.order_Groups.body R v0 W) : callK PR F_order_Groups [v0] R W :=
  callK_of_body (g := F_order_Groups) (fn := Try.f13) (args := [v0]) (R := R) (w := W) mixed CBok S.order_Groups.fn S.order_Groups.hint (by rw [S.order_Groups.ok]; exact h)
/-! ### rostrum/order.Groups$1 (39) -/
def S.order_Groups_1.body (R : Value → World → Prop) (v0 v1 : Value) (W : World) : Prop :=
  okF (idxS 2 v0 (.int .i64 0)) fun v6 =>
  okF (addrF 0 v6) fun v7 =>
  rdK PR (Instr.loadAt T_int v7) (fun v8 W =>
  okF (idxS 2 v1 (.int .i64 0)) fun v10 =>
  okF (addrF 0 v10) fun v11 =>
  rdK PR (Instr.loadAt T_int v11) (fun v12 W =>
  okF (idxS 2 v0 (.int .i64 0)) fun v15 =>
  okF (addrF 1 v15) fun v16 =>
  rdK PR (Instr.loadAt T_int64 v16) (fun v17 W =>
  okF (idxS 2 v1 (.int .i64 0)) fun v19 =>
  okF (addrF 1 v19) fun v20 =>
  rdK PR (Instr.loadAt T_int64 v20) (fun v21 W =>
  callK PR F_cmp_Compare_int [v8, v12] (fun v13 W =>
  stb PR [(16, true, (Instr.loadAt T_int64 v20), v21), (12, true, (Instr.loadAt T_int64 v16), v17)] (fun W =>
  callK PR F_cmp_Compare_int64 [v17, v21] (fun v22 W =>
  efK PR (Instr.buildSlice T_s_int 2 #[(0, v13), (1, v22)]) (fun v23 W =>
  callK PR F_cmp_Or_int [v23] (fun v24 W =>
  R v24 W) W) W) W) W) W) W) W) W) (tick W)
def S.order_Groups_1.hint : Hint := (.two .nil (.two .nil .nil))
theorem S.order_Groups_1.ok (R : Value → World → Prop) (v0 v1 : Value) (W : World) : bodyK PR CB Try.f39 S.order_Groups_1.hint [v0, v1] R W = S.order_Groups_1.body R v0 v1 W := by kernel_rfl
theorem S.order_Groups_1.fn : PR.funcs[F_order_Groups_1]? = some Try.f39 := by kernel_rfl
theorem S.order_Groups_1.call {R : Value → World → Prop} {v0 v1 : Value} {W : World} (h : S.order_Groups_1.body R v0 v1 W) : callK PR F_order_Groups_1 [v0, v1] R W :=
  callK_of_body (g := F_order_Groups_1) (fn := Try.f39) (args := [v0, v1]) (R := R) (w := W) mixed CBok S.order_Groups_1.fn S.order_Groups_1.hint (by rw [S.order_Groups_1.ok]; exact h)
end Go.Proofs.Ytkjhccpanedccaa
namespace Go.Proofs.Ytkjhccpanedccaa
set_option linter.unusedVariables false
set_option linter.unusedSimpArgs false
open Go Go.Proofs Go.Shelf
def laySortIns_ren : Go.Shelf.Ren := ⟨fun | 6 => 49 | 15 => 58 | 14 => 61 | 28 => 74 | 29 => 75 | 20 => 76 | 21 => 77 | 22 => 78 | 23 => 79 | 24 => 80 | 25 => 81 | 26 => 82 | 27 => 83 | 46 => 93 | 47 => 89 | 48 => 90 | 49 => 94 | 50 => 95 | 57 => 107 | n => n, fun | 22 => 28 | 24 => 27 | 25 => 91 | 3 => 3 | 39 => 108 | 0 => 0 | 53 => 126 | 55 => 128 | 4 => 4 | 46 => 120 | 45 => 119 | 50 => 95 | 5 => 5 | 9 => 9 | 66 => 136 | 70 => 140 | 76 => 151 | 77 => 152 | n => n, fun | n => n⟩
theorem laySortIns : Go.Proofs.SlLaysF0.n6 Try.prog laySortIns_ren := {
  mixed := by kernel_rfl
  f6 := ⟨Try.f49.name, by decide, Try.func49.trans (congrArg some (by kernel_rfl))⟩
  f14 := ⟨Try.f61.name, by decide, Try.func61.trans (congrArg some (by kernel_rfl))⟩
  f15 := Try.func58.trans (congrArg some (by kernel_rfl))
  f20 := ⟨Try.f76.name, by decide, Try.func76.trans (congrArg some (by kernel_rfl))⟩
  f21 := ⟨Try.f77.name, by decide, Try.func77.trans (congrArg some (by kernel_rfl))⟩
  f22 := ⟨Try.f78.name, by decide, Try.func78.trans (congrArg some (by kernel_rfl))⟩
  f23 := ⟨Try.f79.name, by decide, Try.func79.trans (congrArg some (by kernel_rfl))⟩
  f24 := ⟨Try.f80.name, by decide, Try.func80.trans (congrArg some (by kernel_rfl))⟩
  f25 := ⟨Try.f81.name, by decide, Try.func81.trans (congrArg some (by kernel_rfl))⟩
  f26 := ⟨Try.f82.name, by decide, Try.func82.trans (congrArg some (by kernel_rfl))⟩
  f27 := ⟨Try.f83.name, by decide, Try.func83.trans (congrArg some (by kernel_rfl))⟩
  f28 := Try.func74.trans (congrArg some (by kernel_rfl))
  f29 := Try.func75.trans (congrArg some (by kernel_rfl))
  f46 := ⟨Try.f93.name, by decide, Try.func93.trans (congrArg some (by kernel_rfl))⟩
  f47 := Try.func89.trans (congrArg some (by kernel_rfl))
  f48 := Try.func90.trans (congrArg some (by kernel_rfl))
  f49 := ⟨Try.f94.name, by decide, Try.func94.trans (congrArg some (by kernel_rfl))⟩
  f50 := ⟨Try.f95.name, by decide, Try.func95.trans (congrArg some (by kernel_rfl))⟩
  f57 := ⟨Try.f107.name, by decide, Try.func107.trans (congrArg some (by kernel_rfl))⟩
  t0 := Try.underlying0
  a0 := Try.isAgg0
  z0 := Try.sizeOf0
  v0 := Try.zeroValue0
  t3 := Try.underlying3
  a3 := Try.isAgg3
  z3 := Try.sizeOf3
  v3 := Try.zeroValue3
  t4 := Try.underlying4
  a4 := Try.isAgg4
  z4 := Try.sizeOf4
  v4 := Try.zeroValue4
  t5 := Try.underlying5
  a5 := Try.isAgg5
  z5 := Try.sizeOf5
  v5 := Try.zeroValue5
  t9 := Try.underlying9
  a9 := Try.isAgg9
  z9 := Try.sizeOf9
  v9 := Try.zeroValue9
  t22 := Try.underlying28
  a22 := Try.isAgg28
  z22 := Try.sizeOf28
  v22 := Try.zeroValue28
  t25 := Try.underlying91
  a25 := Try.isAgg91
  z25 := Try.sizeOf91
  v25 := Try.zeroValue91
  t39 := Try.underlying108
  a39 := Try.isAgg108
  z39 := Try.sizeOf108
  v39 := Try.zeroValue108
  t45 := Try.underlying119
  a45 := Try.isAgg119
  z45 := Try.sizeOf119
  v45 := Try.zeroValue119
  t46 := Try.underlying120
  a46 := Try.isAgg120
  z46 := Try.sizeOf120
  v46 := Try.zeroValue120
  t50 := Try.underlying95
  a50 := Try.isAgg95
  z50 := Try.sizeOf95
  v50 := Try.zeroValue95
  t53 := Try.underlying126
  a53 := Try.isAgg126
  z53 := Try.sizeOf126
  v53 := Try.zeroValue126
  t55 := Try.underlying128
  a55 := Try.isAgg128
  z55 := Try.sizeOf128
  v55 := Try.zeroValue128
  t66 := Try.underlying136
  a66 := Try.isAgg136
  z66 := Try.sizeOf136
  v66 := Try.zeroValue136
  t70 := Try.underlying140
  a70 := Try.isAgg140
  z70 := Try.sizeOf140
  v70 := Try.zeroValue140
  t76 := Try.underlying151
  a76 := Try.isAgg151
  z76 := Try.sizeOf151
  v76 := Try.zeroValue151
  t77 := Try.underlying152
  a77 := Try.isAgg152
  z77 := Try.sizeOf152
  v77 := Try.zeroValue152 }
def laySortGrp_ren : Go.Shelf.Ren := ⟨fun | 6 => 62 | 15 => 58 | 14 => 84 | 28 => 74 | 29 => 75 | 20 => 96 | 21 => 97 | 22 => 98 | 23 => 99 | 24 => 100 | 25 => 101 | 26 => 102 | 27 => 103 | 46 => 108 | 47 => 89 | 48 => 90 | 49 => 109 | 50 => 110 | 57 => 120 | n => n, fun | 22 => 71 | 24 => 69 | 25 => 113 | 3 => 3 | 39 => 108 | 0 => 0 | 53 => 126 | 55 => 128 | 4 => 4 | 46 => 120 | 45 => 119 | 50 => 95 | 5 => 5 | 9 => 9 | 66 => 136 | 70 => 140 | 76 => 151 | 77 => 152 | n => n, fun | n => n⟩
theorem laySortGrp : Go.Proofs.SlLaysF.n6 Try.prog laySortGrp_ren := {
  mixed := by kernel_rfl
  f6 := ⟨Try.f62.name, by decide, Try.func62.trans (congrArg some (by kernel_rfl))⟩
  f14 := ⟨Try.f84.name, by decide, Try.func84.trans (congrArg some (by kernel_rfl))⟩
  f15 := Try.func58.trans (congrArg some (by kernel_rfl))
  f20 := ⟨Try.f96.name, by decide, Try.func96.trans (congrArg some (by kernel_rfl))⟩
  f21 := ⟨Try.f97.name, by decide, Try.func97.trans (congrArg some (by kernel_rfl))⟩
  f22 := ⟨Try.f98.name, by decide, Try.func98.trans (congrArg some (by kernel_rfl))⟩
  f23 := ⟨Try.f99.name, by decide, Try.func99.trans (congrArg some (by kernel_rfl))⟩
  f24 := ⟨Try.f100.name, by decide, Try.func100.trans (congrArg some (by kernel_rfl))⟩
  f25 := ⟨Try.f101.name, by decide, Try.func101.trans (congrArg some (by kernel_rfl))⟩
  f26 := ⟨Try.f102.name, by decide, Try.func102.trans (congrArg some (by kernel_rfl))⟩
  f27 := ⟨Try.f103.name, by decide, Try.func103.trans (congrArg some (by kernel_rfl))⟩
  f28 := Try.func74.trans (congrArg some (by kernel_rfl))
  f29 := Try.func75.trans (congrArg some (by kernel_rfl))
  f46 := ⟨Try.f108.name, by decide, Try.func108.trans (congrArg some (by kernel_rfl))⟩
  f47 := Try.func89.trans (congrArg some (by kernel_rfl))
  f48 := Try.func90.trans (congrArg some (by kernel_rfl))
  f49 := ⟨Try.f109.name, by decide, Try.func109.trans (congrArg some (by kernel_rfl))⟩
  f50 := ⟨Try.f110.name, by decide, Try.func110.trans (congrArg some (by kernel_rfl))⟩
  f57 := ⟨Try.f120.name, by decide, Try.func120.trans (congrArg some (by kernel_rfl))⟩
  t0 := Try.underlying0
  a0 := Try.isAgg0
  z0 := Try.sizeOf0
  v0 := Try.zeroValue0
  t3 := Try.underlying3
  a3 := Try.isAgg3
  z3 := Try.sizeOf3
  v3 := Try.zeroValue3
  t4 := Try.underlying4
  a4 := Try.isAgg4
  z4 := Try.sizeOf4
  v4 := Try.zeroValue4
  t5 := Try.underlying5
  a5 := Try.isAgg5
  z5 := Try.sizeOf5
  v5 := Try.zeroValue5
  t9 := Try.underlying9
  a9 := Try.isAgg9
  z9 := Try.sizeOf9
  v9 := Try.zeroValue9
  t22 := Try.underlying71
  a22 := Try.isAgg71
  z22 := Try.sizeOf71
  v22 := Try.zeroValue71
  a24 := Try.isAgg69
  z24 := Try.sizeOf69
  t25 := Try.underlying113
  a25 := Try.isAgg113
  z25 := Try.sizeOf113
  v25 := Try.zeroValue113
  t39 := Try.underlying108
  a39 := Try.isAgg108
  z39 := Try.sizeOf108
  v39 := Try.zeroValue108
  t45 := Try.underlying119
  a45 := Try.isAgg119
  z45 := Try.sizeOf119
  v45 := Try.zeroValue119
  t46 := Try.underlying120
  a46 := Try.isAgg120
  z46 := Try.sizeOf120
  v46 := Try.zeroValue120
  t50 := Try.underlying95
  a50 := Try.isAgg95
  z50 := Try.sizeOf95
  v50 := Try.zeroValue95
  t53 := Try.underlying126
  a53 := Try.isAgg126
  z53 := Try.sizeOf126
  v53 := Try.zeroValue126
  t55 := Try.underlying128
  a55 := Try.isAgg128
  z55 := Try.sizeOf128
  v55 := Try.zeroValue128
  t66 := Try.underlying136
  a66 := Try.isAgg136
  z66 := Try.sizeOf136
  v66 := Try.zeroValue136
  t70 := Try.underlying140
  a70 := Try.isAgg140
  z70 := Try.sizeOf140
  v70 := Try.zeroValue140
  t76 := Try.underlying151
  a76 := Try.isAgg151
  z76 := Try.sizeOf151
  v76 := Try.zeroValue151
  t77 := Try.underlying152
  a77 := Try.isAgg152
  z77 := Try.sizeOf152
  v77 := Try.zeroValue152 }
def laySortGrd_ren : Go.Shelf.Ren := ⟨fun | 6 => 38 | 15 => 58 | 14 => 57 | 28 => 74 | 29 => 75 | 20 => 66 | 21 => 67 | 22 => 68 | 23 => 69 | 24 => 70 | 25 => 71 | 26 => 72 | 27 => 73 | 46 => 88 | 47 => 89 | 48 => 90 | 49 => 91 | 50 => 92 | 57 => 106 | n => n, fun | 22 => 36 | 24 => 29 | 25 => 78 | 3 => 3 | 39 => 108 | 0 => 0 | 53 => 126 | 55 => 128 | 4 => 4 | 46 => 120 | 45 => 119 | 50 => 95 | 5 => 5 | 9 => 9 | 66 => 136 | 70 => 140 | 76 => 151 | 77 => 152 | n => n, fun | n => n⟩
theorem laySortGrd : Go.Proofs.SlLaysF.n6 Try.prog laySortGrd_ren := {
  mixed := by kernel_rfl
  f6 := ⟨Try.f38.name, by decide, Try.func38.trans (congrArg some (by kernel_rfl))⟩
  f14 := ⟨Try.f57.name, by decide, Try.func57.trans (congrArg some (by kernel_rfl))⟩
  f15 := Try.func58.trans (congrArg some (by kernel_rfl))
  f20 := ⟨Try.f66.name, by decide, Try.func66.trans (congrArg some (by kernel_rfl))⟩
  f21 := ⟨Try.f67.name, by decide, Try.func67.trans (congrArg some (by kernel_rfl))⟩
  f22 := ⟨Try.f68.name, by decide, Try.func68.trans (congrArg some (by kernel_rfl))⟩
  f23 := ⟨Try.f69.name, by decide, Try.func69.trans (congrArg some (by kernel_rfl))⟩
  f24 := ⟨Try.f70.name, by decide, Try.func70.trans (congrArg some (by kernel_rfl))⟩
  f25 := ⟨Try.f71.name, by decide, Try.func71.trans (congrArg some (by kernel_rfl))⟩
  f26 := ⟨Try.f72.name, by decide, Try.func72.trans (congrArg some (by kernel_rfl))⟩
  f27 := ⟨Try.f73.name, by decide, Try.func73.trans (congrArg some (by kernel_rfl))⟩
  f28 := Try.func74.trans (congrArg some (by kernel_rfl))
  f29 := Try.func75.trans (congrArg some (by kernel_rfl))
  f46 := ⟨Try.f88.name, by decide, Try.func88.trans (congrArg some (by kernel_rfl))⟩
  f47 := Try.func89.trans (congrArg some (by kernel_rfl))
  f48 := Try.func90.trans (congrArg some (by kernel_rfl))
  f49 := ⟨Try.f91.name, by decide, Try.func91.trans (congrArg some (by kernel_rfl))⟩
  f50 := ⟨Try.f92.name, by decide, Try.func92.trans (congrArg some (by kernel_rfl))⟩
  f57 := ⟨Try.f106.name, by decide, Try.func106.trans (congrArg some (by kernel_rfl))⟩
  t0 := Try.underlying0
  a0 := Try.isAgg0
  z0 := Try.sizeOf0
  v0 := Try.zeroValue0
  t3 := Try.underlying3
  a3 := Try.isAgg3
  z3 := Try.sizeOf3
  v3 := Try.zeroValue3
  t4 := Try.underlying4
  a4 := Try.isAgg4
  z4 := Try.sizeOf4
  v4 := Try.zeroValue4
  t5 := Try.underlying5
  a5 := Try.isAgg5
  z5 := Try.sizeOf5
  v5 := Try.zeroValue5
  t9 := Try.underlying9
  a9 := Try.isAgg9
  z9 := Try.sizeOf9
  v9 := Try.zeroValue9
  t22 := Try.underlying36
  a22 := Try.isAgg36
  z22 := Try.sizeOf36
  v22 := Try.zeroValue36
  a24 := Try.isAgg29
  z24 := Try.sizeOf29
  t25 := Try.underlying78
  a25 := Try.isAgg78
  z25 := Try.sizeOf78
  v25 := Try.zeroValue78
  t39 := Try.underlying108
  a39 := Try.isAgg108
  z39 := Try.sizeOf108
  v39 := Try.zeroValue108
  t45 := Try.underlying119
  a45 := Try.isAgg119
  z45 := Try.sizeOf119
  v45 := Try.zeroValue119
  t46 := Try.underlying120
  a46 := Try.isAgg120
  z46 := Try.sizeOf120
  v46 := Try.zeroValue120
  t50 := Try.underlying95
  a50 := Try.isAgg95
  z50 := Try.sizeOf95
  v50 := Try.zeroValue95
  t53 := Try.underlying126
  a53 := Try.isAgg126
  z53 := Try.sizeOf126
  v53 := Try.zeroValue126
  t55 := Try.underlying128
  a55 := Try.isAgg128
  z55 := Try.sizeOf128
  v55 := Try.zeroValue128
  t66 := Try.underlying136
  a66 := Try.isAgg136
  z66 := Try.sizeOf136
  v66 := Try.zeroValue136
  t70 := Try.underlying140
  a70 := Try.isAgg140
  z70 := Try.sizeOf140
  v70 := Try.zeroValue140
  t76 := Try.underlying151
  a76 := Try.isAgg151
  z76 := Try.sizeOf151
  v76 := Try.zeroValue151
  t77 := Try.underlying152
  a77 := Try.isAgg152
  z77 := Try.sizeOf152
  v77 := Try.zeroValue152 }
def laySorted_ren : Go.Shelf.Ren := ⟨fun | 6 => 64 | 8 => 85 | 9 => 86 | 11 => 104 | 13 => 58 | 12 => 105 | 23 => 74 | 24 => 75 | 14 => 111 | 15 => 112 | 16 => 113 | 17 => 114 | 18 => 115 | 19 => 116 | 20 => 117 | 21 => 118 | 22 => 119 | 25 => 121 | 26 => 89 | 27 => 90 | 28 => 122 | 29 => 123 | 30 => 59 | 31 => 124 | n => n, fun | 26 => 3 | 28 => 116 | 24 => 69 | 0 => 0 | 3 => 3 | 37 => 108 | 48 => 126 | 50 => 128 | 4 => 4 | 40 => 120 | 39 => 119 | 45 => 95 | 5 => 5 | 9 => 9 | 51 => 136 | 55 => 140 | 57 => 151 | 58 => 152 | 33 => 109 | n => n, fun | n => n⟩
theorem laySorted : Go.Proofs.SlLaysZI.n6 Try.prog laySorted_ren := {
  mixed := by kernel_rfl
  f6 := ⟨Try.f64.name, by decide, Try.func64.trans (congrArg some (by kernel_rfl))⟩
  f8 := ⟨Try.f85.name, by decide, Try.func85.trans (congrArg some (by kernel_rfl))⟩
  f11 := ⟨Try.f104.name, by decide, Try.func104.trans (congrArg some (by kernel_rfl))⟩
  t0 := Try.underlying0
  a0 := Try.isAgg0
  z0 := Try.sizeOf0
  v0 := Try.zeroValue0
  t24 := Try.underlying69
  a24 := Try.isAgg69
  z24 := Try.sizeOf69
  v24 := Try.zeroValue69
  t26 := Try.underlying3
  a26 := Try.isAgg3
  z26 := Try.sizeOf3
  v26 := Try.zeroValue3
  t28 := Try.underlying116
  a28 := Try.isAgg116
  z28 := Try.sizeOf116
  v28 := Try.zeroValue116
  i26 := by kernel_rfl }
def laySortI_ren : Go.Shelf.Ren := ⟨fun | 5 => 86 | 8 => 58 | 7 => 105 | 19 => 74 | 20 => 75 | 10 => 111 | 11 => 112 | 12 => 113 | 13 => 114 | 14 => 115 | 15 => 116 | 16 => 117 | 17 => 118 | 18 => 119 | 30 => 121 | 31 => 89 | 32 => 90 | 33 => 122 | 34 => 123 | 35 => 59 | 40 => 124 | n => n, fun | 23 => 69 | 25 => 3 | 3 => 3 | 32 => 108 | 22 => 69 | 0 => 0 | 44 => 126 | 46 => 128 | 4 => 4 | 36 => 120 | 35 => 119 | 41 => 95 | 5 => 5 | 9 => 9 | 53 => 136 | 57 => 140 | 63 => 151 | 64 => 152 | n => n, fun | n => n⟩
theorem laySortI : Go.Proofs.SlLaysM.n5 Try.prog laySortI_ren := {
  mixed := by kernel_rfl
  f5 := ⟨Try.f86.name, by decide, Try.func86.trans (congrArg some (by kernel_rfl))⟩
  f7 := ⟨Try.f105.name, by decide, Try.func105.trans (congrArg some (by kernel_rfl))⟩
  f8 := Try.func58.trans (congrArg some (by kernel_rfl))
  f10 := ⟨Try.f111.name, by decide, Try.func111.trans (congrArg some (by kernel_rfl))⟩
  f11 := ⟨Try.f112.name, by decide, Try.func112.trans (congrArg some (by kernel_rfl))⟩
  f12 := ⟨Try.f113.name, by decide, Try.func113.trans (congrArg some (by kernel_rfl))⟩
  f13 := ⟨Try.f114.name, by decide, Try.func114.trans (congrArg some (by kernel_rfl))⟩
  f14 := ⟨Try.f115.name, by decide, Try.func115.trans (congrArg some (by kernel_rfl))⟩
  f15 := ⟨Try.f116.name, by decide, Try.func116.trans (congrArg some (by kernel_rfl))⟩
  f16 := ⟨Try.f117.name, by decide, Try.func117.trans (congrArg some (by kernel_rfl))⟩
  f17 := ⟨Try.f118.name, by decide, Try.func118.trans (congrArg some (by kernel_rfl))⟩
  f18 := ⟨Try.f119.name, by decide, Try.func119.trans (congrArg some (by kernel_rfl))⟩
  f19 := Try.func74.trans (congrArg some (by kernel_rfl))
  f20 := Try.func75.trans (congrArg some (by kernel_rfl))
  f30 := ⟨Try.f121.name, by decide, Try.func121.trans (congrArg some (by kernel_rfl))⟩
  f31 := Try.func89.trans (congrArg some (by kernel_rfl))
  f32 := Try.func90.trans (congrArg some (by kernel_rfl))
  f33 := ⟨Try.f122.name, by decide, Try.func122.trans (congrArg some (by kernel_rfl))⟩
  f34 := ⟨Try.f123.name, by decide, Try.func123.trans (congrArg some (by kernel_rfl))⟩
  f35 := ⟨Try.f59.name, by decide, Try.func59.trans (congrArg some (by kernel_rfl))⟩
  f40 := ⟨Try.f124.name, by decide, Try.func124.trans (congrArg some (by kernel_rfl))⟩
  t0 := Try.underlying0
  a0 := Try.isAgg0
  z0 := Try.sizeOf0
  v0 := Try.zeroValue0
  t3 := Try.underlying3
  a3 := Try.isAgg3
  z3 := Try.sizeOf3
  v3 := Try.zeroValue3
  t4 := Try.underlying4
  a4 := Try.isAgg4
  z4 := Try.sizeOf4
  v4 := Try.zeroValue4
  t5 := Try.underlying5
  a5 := Try.isAgg5
  z5 := Try.sizeOf5
  v5 := Try.zeroValue5
  t9 := Try.underlying9
  a9 := Try.isAgg9
  z9 := Try.sizeOf9
  v9 := Try.zeroValue9
  t22 := Try.underlying69
  a22 := Try.isAgg69
  z22 := Try.sizeOf69
  v22 := Try.zeroValue69
  t23 := Try.underlying69
  a23 := Try.isAgg69
  z23 := Try.sizeOf69
  v23 := Try.zeroValue69
  t25 := Try.underlying3
  a25 := Try.isAgg3
  z25 := Try.sizeOf3
  v25 := Try.zeroValue3
  t32 := Try.underlying108
  a32 := Try.isAgg108
  z32 := Try.sizeOf108
  v32 := Try.zeroValue108
  t35 := Try.underlying119
  a35 := Try.isAgg119
  z35 := Try.sizeOf119
  v35 := Try.zeroValue119
  t36 := Try.underlying120
  a36 := Try.isAgg120
  z36 := Try.sizeOf120
  v36 := Try.zeroValue120
  t41 := Try.underlying95
  a41 := Try.isAgg95
  z41 := Try.sizeOf95
  v41 := Try.zeroValue95
  t44 := Try.underlying126
  a44 := Try.isAgg126
  z44 := Try.sizeOf126
  v44 := Try.zeroValue126
  t46 := Try.underlying128
  a46 := Try.isAgg128
  z46 := Try.sizeOf128
  v46 := Try.zeroValue128
  t53 := Try.underlying136
  a53 := Try.isAgg136
  z53 := Try.sizeOf136
  v53 := Try.zeroValue136
  t57 := Try.underlying140
  a57 := Try.isAgg140
  z57 := Try.sizeOf140
  v57 := Try.zeroValue140
  t63 := Try.underlying151
  a63 := Try.isAgg151
  z63 := Try.sizeOf151
  v63 := Try.zeroValue151
  t64 := Try.underlying152
  a64 := Try.isAgg152
  z64 := Try.sizeOf152
  v64 := Try.zeroValue152 }
end Go.Proofs.Ytkjhccpanedccaa
namespace Go.Proofs.Ytkjhccpanedccaa
set_option linter.unusedVariables false
set_option linter.unusedSimpArgs false
open Go Go.Eng Go.Sort

structure Ins where
  d : Dot
  s : Int
  v : P7 Int
instance : Inhabited Ins := ⟨⟨⟨0, 0⟩, 0, P7.all 0⟩⟩
def INS : Ly Ins := ⟨10, by omega, fun x => [.int .i64 x.d.rep, .int .i64 x.d.n, .int .i64 x.s, .int .i64 x.v.x0, .int .i64 x.v.x1, .int .i64 x.v.x2, .int .i64 x.v.x3, .int .i64 x.v.x4, .int .i64 x.v.x5, .int .i64 x.v.x6], fun _ => rfl, fun _ => rfl⟩
def cmpIns (a b : Ins) : Int := orI [cmpI a.s b.s, cmpI a.d.rep b.d.rep, cmpI a.d.n b.d.n]
def dotO (d : Dot) : Bool := decide (0 ≤ d.rep) && decide (d.rep < 7) && decide (1 ≤ d.n) && decide (d.n ≤ 1000)
section
variable {W0 W : World} {L L' : List Asn}
theorem or3 {a b c : Int} {k : Value → World → Prop} (h : St W0 L W) (hk : ∀ W', St W0 L W' → k (.int .i64 (orI [a, b, c])) W') :
    efK PR (Instr.buildSlice T_s_int 3 #[(0, .int .i64 a), (1, .int .i64 b), (2, .int .i64 c)]) (fun v W => callK PR F_cmp_Or_int [v] k W) W := by
  refine bs (cs := [.int .i64 a, .int .i64 b, .int .i64 c]) h (by simp) (by simp) rfl fun x W4 h => ?_
  exact ca (cmpOr (l := [a, b, c]) (by simp) h) fun v W' ⟨e, h⟩ => by subst e; exact hk _ h
theorem ordCompare (a b : Ins) (W : World) : callK PR F_order_compare (.agg (INS.row a).toArray :: .agg (INS.row b).toArray :: []) (fun v W' => v = .int .i64 (cmpIns a b) ∧ St W [] W') W := by
  apply S.order_compare.call
  unfold S.order_compare.body
  refine bxa (St.start W) fun p W1 h => ?_
  refine bxa h fun q W2 h => ?_
  have h : St W [cells q [.int .i64 b.d.rep, .int .i64 b.d.n, .int .i64 b.s, .int .i64 b.v.x0, .int .i64 b.v.x1, .int .i64 b.v.x2, .int .i64 b.v.x3, .int .i64 b.v.x4, .int .i64 b.v.x5, .int .i64 b.v.x6] T_order_Inst, cells p [.int .i64 a.d.rep, .int .i64 a.d.n, .int .i64 a.s, .int .i64 a.v.x0, .int .i64 a.v.x1, .int .i64 a.v.x2, .int .i64 a.v.x3, .int .i64 a.v.x4, .int .i64 a.v.x5, .int .i64 a.v.x6] T_order_Inst] W2 := h
  (repeat (first | (first | (with_reducible (first | refine w1 fun _ _ => ?_ | refine w3 fun _ _ _ => ?_ | refine w4 fun _ _ _ => ?_ | refine w11 fun _ _ _ => ?_ | refine stb_n ?_)) | ((with_reducible refine w2 ?_); try simp -implicitDefEqProofs only [EN, lsub, lget, stL, beq_self_eq_true, ne_eq, if_true, if_false, List.cons_append, List.nil_append, Option.isNone_some, Option.isNone_none]; intro _ _) | ((with_reducible (first | refine w5 ?_ ?_ | refine w6 ?_ ?_ | refine w7 ?_ ?_)); simp; refine ⟨_, rfl, ?_⟩) | ((with_reducible (first | refine w8 ?_ ?_ ?_ | refine w9 ?_ ?_ ?_ | refine w10 ?_ ?_ ?_)); exact rfl; simp) | ((with_reducible refine w12 ?_ ?_ ?_ fun _ _ => ?_); simp; simp; simp [oneC]) | ((with_reducible (first | refine eqs ?_ | refine nes ?_)); refine ⟨_, rfl, ?_⟩) | ((refine okF_i (bldP_eq rfl) ?_); try simp only [BLS, List.take_succ_cons, List.take_zero, List.drop_succ_cons, List.drop_zero, List.cons_append, List.nil_append, Nat.reduceAdd])) | simp -implicitDefEqProofs only [EN, lsub, lget, stL, beq_self_eq_true, ne_eq, if_true, if_false, List.cons_append, List.nil_append, Option.isNone_some, Option.isNone_none]))
  refine or3 (by first | assumption | exact St.tick (by assumption) | exact St.tick (St.tick (by assumption))) fun W3 h => ?_
  (first | exact St.nil (by first | assumption | exact St.tick (by assumption) | exact St.tick (St.tick (by assumption))) | exact ⟨rfl, St.nil (by first | assumption | exact St.tick (by assumption) | exact St.tick (St.tick (by assumption)))⟩)
instance ordDot (r n : Int) : Pure0 PR F_order_dot [.agg #[.int .i64 r, .int .i64 n]] (.bool (dotO ⟨r, n⟩)) := ⟨fun W => by
  apply S.order_dot.call
  unfold S.order_dot.body
  refine bxa (St.start W) fun p W1 h => ?_
  unfold dotO
  by_cases h1 : 0 ≤ r
  · by_cases h2 : r < 7
    · by_cases h3 : 1 ≤ n
      · by_cases h4 : n ≤ 1000
        · (repeat (first | (first | (with_reducible (first | refine w1 fun _ _ => ?_ | refine w3 fun _ _ _ => ?_ | refine w4 fun _ _ _ => ?_ | refine w11 fun _ _ _ => ?_ | refine stb_n ?_)) | ((with_reducible refine w2 ?_); try simp -implicitDefEqProofs only [EN, lsub, lget, stL, beq_self_eq_true, ne_eq, if_true, if_false, List.cons_append, List.nil_append, Option.isNone_some, Option.isNone_none, h1, h2, h3, h4]; intro _ _) | ((with_reducible (first | refine w5 ?_ ?_ | refine w6 ?_ ?_ | refine w7 ?_ ?_)); simp; refine ⟨_, rfl, ?_⟩) | ((with_reducible (first | refine w8 ?_ ?_ ?_ | refine w9 ?_ ?_ ?_ | refine w10 ?_ ?_ ?_)); exact rfl; simp) | ((with_reducible refine w12 ?_ ?_ ?_ fun _ _ => ?_); simp; simp; simp [oneC]) | ((with_reducible (first | refine eqs ?_ | refine nes ?_)); refine ⟨_, rfl, ?_⟩) | ((refine okF_i (bldP_eq rfl) ?_); try simp only [BLS, List.take_succ_cons, List.take_zero, List.drop_succ_cons, List.drop_zero, List.cons_append, List.nil_append, Nat.reduceAdd])) | simp -implicitDefEqProofs only [EN, lsub, lget, stL, beq_self_eq_true, ne_eq, if_true, if_false, List.cons_append, List.nil_append, Option.isNone_some, Option.isNone_none, h1, h2, h3, h4]))
          (first | exact St.nil (by first | assumption | exact St.tick (by assumption) | exact St.tick (St.tick (by assumption))) | exact ⟨rfl, St.nil (by first | assumption | exact St.tick (by assumption) | exact St.tick (St.tick (by assumption)))⟩)
        · (repeat (first | (first | (with_reducible (first | refine w1 fun _ _ => ?_ | refine w3 fun _ _ _ => ?_ | refine w4 fun _ _ _ => ?_ | refine w11 fun _ _ _ => ?_ | refine stb_n ?_)) | ((with_reducible refine w2 ?_); try simp -implicitDefEqProofs only [EN, lsub, lget, stL, beq_self_eq_true, ne_eq, if_true, if_false, List.cons_append, List.nil_append, Option.isNone_some, Option.isNone_none, h1, h2, h3, h4]; intro _ _) | ((with_reducible (first | refine w5 ?_ ?_ | refine w6 ?_ ?_ | refine w7 ?_ ?_)); simp; refine ⟨_, rfl, ?_⟩) | ((with_reducible (first | refine w8 ?_ ?_ ?_ | refine w9 ?_ ?_ ?_ | refine w10 ?_ ?_ ?_)); exact rfl; simp) | ((with_reducible refine w12 ?_ ?_ ?_ fun _ _ => ?_); simp; simp; simp [oneC]) | ((with_reducible (first | refine eqs ?_ | refine nes ?_)); refine ⟨_, rfl, ?_⟩) | ((refine okF_i (bldP_eq rfl) ?_); try simp only [BLS, List.take_succ_cons, List.take_zero, List.drop_succ_cons, List.drop_zero, List.cons_append, List.nil_append, Nat.reduceAdd])) | simp -implicitDefEqProofs only [EN, lsub, lget, stL, beq_self_eq_true, ne_eq, if_true, if_false, List.cons_append, List.nil_append, Option.isNone_some, Option.isNone_none, h1, h2, h3, h4]))
          (first | exact St.nil (by first | assumption | exact St.tick (by assumption) | exact St.tick (St.tick (by assumption))) | exact ⟨rfl, St.nil (by first | assumption | exact St.tick (by assumption) | exact St.tick (St.tick (by assumption)))⟩)
      · (repeat (first | (first | (with_reducible (first | refine w1 fun _ _ => ?_ | refine w3 fun _ _ _ => ?_ | refine w4 fun _ _ _ => ?_ | refine w11 fun _ _ _ => ?_ | refine stb_n ?_)) | ((with_reducible refine w2 ?_); try simp -implicitDefEqProofs only [EN, lsub, lget, stL, beq_self_eq_true, ne_eq, if_true, if_false, List.cons_append, List.nil_append, Option.isNone_some, Option.isNone_none, h1, h2, h3]; intro _ _) | ((with_reducible (first | refine w5 ?_ ?_ | refine w6 ?_ ?_ | refine w7 ?_ ?_)); simp; refine ⟨_, rfl, ?_⟩) | ((with_reducible (first | refine w8 ?_ ?_ ?_ | refine w9 ?_ ?_ ?_ | refine w10 ?_ ?_ ?_)); exact rfl; simp) | ((with_reducible refine w12 ?_ ?_ ?_ fun _ _ => ?_); simp; simp; simp [oneC]) | ((with_reducible (first | refine eqs ?_ | refine nes ?_)); refine ⟨_, rfl, ?_⟩) | ((refine okF_i (bldP_eq rfl) ?_); try simp only [BLS, List.take_succ_cons, List.take_zero, List.drop_succ_cons, List.drop_zero, List.cons_append, List.nil_append, Nat.reduceAdd])) | simp -implicitDefEqProofs only [EN, lsub, lget, stL, beq_self_eq_true, ne_eq, if_true, if_false, List.cons_append, List.nil_append, Option.isNone_some, Option.isNone_none, h1, h2, h3]))
        (first | exact St.nil (by first | assumption | exact St.tick (by assumption) | exact St.tick (St.tick (by assumption))) | exact ⟨rfl, St.nil (by first | assumption | exact St.tick (by assumption) | exact St.tick (St.tick (by assumption)))⟩)
    · (repeat (first | (first | (with_reducible (first | refine w1 fun _ _ => ?_ | refine w3 fun _ _ _ => ?_ | refine w4 fun _ _ _ => ?_ | refine w11 fun _ _ _ => ?_ | refine stb_n ?_)) | ((with_reducible refine w2 ?_); try simp -implicitDefEqProofs only [EN, lsub, lget, stL, beq_self_eq_true, ne_eq, if_true, if_false, List.cons_append, List.nil_append, Option.isNone_some, Option.isNone_none, h1, h2]; intro _ _) | ((with_reducible (first | refine w5 ?_ ?_ | refine w6 ?_ ?_ | refine w7 ?_ ?_)); simp; refine ⟨_, rfl, ?_⟩) | ((with_reducible (first | refine w8 ?_ ?_ ?_ | refine w9 ?_ ?_ ?_ | refine w10 ?_ ?_ ?_)); exact rfl; simp) | ((with_reducible refine w12 ?_ ?_ ?_ fun _ _ => ?_); simp; simp; simp [oneC]) | ((with_reducible (first | refine eqs ?_ | refine nes ?_)); refine ⟨_, rfl, ?_⟩) | ((refine okF_i (bldP_eq rfl) ?_); try simp only [BLS, List.take_succ_cons, List.take_zero, List.drop_succ_cons, List.drop_zero, List.cons_append, List.nil_append, Nat.reduceAdd])) | simp -implicitDefEqProofs only [EN, lsub, lget, stL, beq_self_eq_true, ne_eq, if_true, if_false, List.cons_append, List.nil_append, Option.isNone_some, Option.isNone_none, h1, h2]))
      (first | exact St.nil (by first | assumption | exact St.tick (by assumption) | exact St.tick (St.tick (by assumption))) | exact ⟨rfl, St.nil (by first | assumption | exact St.tick (by assumption) | exact St.tick (St.tick (by assumption)))⟩)
  · (repeat (first | (first | (with_reducible (first | refine w1 fun _ _ => ?_ | refine w3 fun _ _ _ => ?_ | refine w4 fun _ _ _ => ?_ | refine w11 fun _ _ _ => ?_ | refine stb_n ?_)) | ((with_reducible refine w2 ?_); try simp -implicitDefEqProofs only [EN, lsub, lget, stL, beq_self_eq_true, ne_eq, if_true, if_false, List.cons_append, List.nil_append, Option.isNone_some, Option.isNone_none, h1]; intro _ _) | ((with_reducible (first | refine w5 ?_ ?_ | refine w6 ?_ ?_ | refine w7 ?_ ?_)); simp; refine ⟨_, rfl, ?_⟩) | ((with_reducible (first | refine w8 ?_ ?_ ?_ | refine w9 ?_ ?_ ?_ | refine w10 ?_ ?_ ?_)); exact rfl; simp) | ((with_reducible refine w12 ?_ ?_ ?_ fun _ _ => ?_); simp; simp; simp [oneC]) | ((with_reducible (first | refine eqs ?_ | refine nes ?_)); refine ⟨_, rfl, ?_⟩) | ((refine okF_i (bldP_eq rfl) ?_); try simp only [BLS, List.take_succ_cons, List.take_zero, List.drop_succ_cons, List.drop_zero, List.cons_append, List.nil_append, Nat.reduceAdd])) | simp -implicitDefEqProofs only [EN, lsub, lget, stL, beq_self_eq_true, ne_eq, if_true, if_false, List.cons_append, List.nil_append, Option.isNone_some, Option.isNone_none, h1]))
    (first | exact St.nil (by first | assumption | exact St.tick (by assumption) | exact St.tick (St.tick (by assumption))) | exact ⟨rfl, St.nil (by first | assumption | exact St.tick (by assumption) | exact St.tick (St.tick (by assumption)))⟩)⟩
theorem insClone {a : Option Addr} {l : List Ins} {c : Nat} {k : Value → World → Prop} (h : St W0 L W) [hr : Rd W0 L a INS l] (hl : l.length < 1000000)
    (hk : ∀ a' c' W', St W0 (arr INS T_order_Inst a' c' l :: L) W' → k (.slice a' l.length c') W') : callK PR F_slices_Clone_order_Inst_order_Inst [.slice a l.length c] k W := by
  apply S.slices_Clone_order_Inst_order_Inst.call
  unfold S.slices_Clone_order_Inst_order_Inst.body
  cases a with
  | none =>
    have hl0 : l = [] := by
      rcases Classical.em (l = []) with h0 | h0
      · exact h0
      · obtain ⟨g, o, h1, _⟩ := Rd.at (A := INS) (l := l) (a := none) h h0
        cases h1
    subst hl0
    simp -implicitDefEqProofs only [EN, lsub, lget, stL, beq_self_eq_true, ne_eq, if_true, if_false, List.cons_append, List.nil_append, Option.isNone_some, Option.isNone_none]
    exact hk none 0 W (h.ent (arr_nil _ _))
  | some ad =>
    simp -implicitDefEqProofs only [EN, lsub, lget, stL, beq_self_eq_true, ne_eq, if_true, if_false, List.cons_append, List.nil_append, Option.isNone_some, Option.isNone_none]
    refine bs0 INS h fun a1 c1 W1 h1 => ?_
    refine appA (a := a1) (l := []) (m := l) h1 rfl (by simp; omega) (by simp [maxLen]; omega) fun a2 c2 W2 h2 => ?_
    exact hk a2 c2 W2 h2
end
end Go.Proofs.Ytkjhccpanedccaa
namespace Go.Eng
set_option linter.unusedVariables false
set_option linter.unusedSimpArgs false
open Go Go.RowKit Go.Sort Go.Proofs
section
variable {P : Program} {ρ : Go.Shelf.Ren} {W0 W W' : World} {L L' : List Asn} {e : TypeId} {α : Type} {A : Ly α}
def atF (l : List α) (i : Fin l.length) : α := l[i]
def Ly.ix (A : Ly α) (l : List α) : Ly (Fin l.length) := ⟨A.sz, A.pos, fun i => A.row (atF l i), fun _ => A.len _, fun _ => A.one _⟩
theorem ix_rows (l : List α) (m : List (Fin l.length)) : (A.ix l).rows m = A.rows (m.map (atF l)) := by
  induction m with
  | nil => rfl
  | cons i m ih => rw [Ly.rows_cons, ih, List.map_cons, Ly.rows_cons]; rfl
theorem arr_ix {l : List α} {m : List (Fin l.length)} {a : Option Addr} {c : Nat} : arr (A.ix l) e a c m = arr A e a c (m.map (atF l)) := by
  unfold arr; rw [ix_rows, List.length_map]; rfl
theorem fin_map (l : List α) : ((List.finRange l.length).map (atF l)) = l := by
  apply List.ext_getElem
  · simp
  · intro i h1 h2; simp [atF]
theorem swo_total {α : Type} {lt : α → α → Bool} (hO : SWO lt) (a b : α) : ((!lt b a) || (!lt a b)) = true := by
  cases h1 : lt b a with
  | false => rfl
  | true =>
    cases h2 : lt a b with
    | false => rfl
    | true => have := hO.trans _ _ _ h1 h2; rw [hO.irrefl] at this; cases this
theorem sortIx (L6 : SlLaysF0.n6 P ρ) (aE : ∀ w, (isAgg (ρ.t 24)).run P w = .ok true w) (zE : ∀ w, (Go.sizeOf (ρ.t 24)).run P w = .ok A.sz w) (cf : α → α → Int) {l : List α} (hO : SWO (ltOf fun i j : Fin l.length => cf (atF l i) (atF l j)))
    (hT : ∀ i j : Fin l.length, (ltOf fun i j : Fin l.length => cf (atF l i) (atF l j)) i j = false → (ltOf fun i j : Fin l.length => cf (atF l i) (atF l j)) j i = false → i = j)
    (g : Nat) (cb : List Value) {a : Option Addr} {c : Nat} {k : Value → World → Prop} (eg : ∀ args w, (callFunc g args).run P w = .ok (.enter g args) w)
    (h : St W0 L W) [ho : Own a L A e c l L'] (hc : ∀ x ∈ l, ∀ y ∈ l, ∀ W', St W0 L' W' → callK P g (.agg (A.row x).toArray :: .agg (A.row y).toArray :: cb) (fun v W'' => v = .int .i64 (cf x y) ∧ St W' [] W'') W')
    (hl : l.length < 4611686018427387904) (hk : ∀ m W', m.Perm l → m.Pairwise (fun x y => ¬ cf y x < 0) → St W0 (arr A e a c m :: L') W' → k (.tuple #[]) W') : callK P (ρ.f 6) [.slice a l.length c, .func (.func g) #[] cb.toArray] k W := by
  have h := h.took (a := a)
  by_cases hl0 : l = []
  · subst hl0
    refine (AnyF.slices_SortFunc_none L6 a c (.func (.func g) #[] cb.toArray) W).mono ?_
    rintro ed w' ⟨rfl, rfl⟩
    exact hk [] _ (List.Perm.refl _) List.Pairwise.nil h
  · have hpos : 0 < l.length := List.length_pos_iff.2 hl0
    haveI : Inhabited (Fin l.length) := ⟨⟨0, hpos⟩⟩
    have h2 : St W0 (arr (A.ix l) e a c (List.finRange l.length) :: L') W := by rw [arr_ix, fin_map]; exact h
    have hlen : (List.finRange l.length).length = l.length := List.length_finRange
    have key := sortFX (A := A.ix l) L6 aE zE (fun i j : Fin l.length => cf (atF l i) (atF l j)) hO hT g cb eg h2 (a := a) (c := c) (l := List.finRange l.length) (k := k) (fun i j W' h => hc (atF l i) (List.getElem_mem _) (atF l j) (List.getElem_mem _) W' h) (by rw [hlen]; exact hl) (fun W' h => by
      rw [arr_ix] at h
      refine hk _ W' ?_ ?_ h
      · have := ((List.mergeSort_perm (List.finRange l.length) fun x y => !(ltOf fun i j : Fin l.length => cf (atF l i) (atF l j)) y x).map (atF l))
        rwa [fin_map] at this
      · refine List.pairwise_map.2 ((List.pairwise_mergeSort (fun a b c h1 h2 => ?_) (fun a b => swo_total hO a b) _).imp fun {a b} h => ?_)
        · simp only [Bool.not_eq_true'] at *
          exact hO.ntrans _ _ _ h2 h1
        · simp only [ltOf, Bool.not_eq_true', decide_eq_false_iff_not] at h
          exact h)
    rw [hlen] at key
    exact key
theorem putRow_enc {α : Type} [Inhabited α] (enc : α → Value) (w : World) (b o : Nat) (d : Array α) : Sort.putRow enc w b o d = Sort.putRow id w b o (d.map enc) := by
  unfold Sort.putRow
  congr 1
  funext c
  unfold putCells
  apply Array.ext_getElem?
  intro i
  simp only [Array.getElem?_mapIdx, Array.size_map, id_eq]
  cases c[i]? with
  | none => rfl
  | some x =>
    simp only [Option.map_some]
    by_cases h : o ≤ i ∧ i < o + d.size
    · rw [if_pos h, if_pos h, getElem!_pos d _ (by omega), getElem!_pos (d.map enc) _ (by simp; omega)]
      simp
    · rw [if_neg h, if_neg h]
theorem rows_one {enc : α → Value} (hA : ∀ x, A.row x = [enc x]) (l : List α) : A.rows l = l.map enc := by
  induction l with
  | nil => rfl
  | cons a l ih => rw [Ly.rows_cons, ih, hA]; rfl
/-- .. at elements of one cell; what the comparison reads may lie anywhere else -/
theorem sortIx1 (L6 : SlLaysF.n6 P ρ) {enc : α → Value} (hA : ∀ x, A.row x = [enc x]) (cf : α → α → Int) {l : List α} (hO : SWO (ltOf fun i j : Fin l.length => cf (atF l i) (atF l j)))
    (hT : ∀ i j : Fin l.length, (ltOf fun i j : Fin l.length => cf (atF l i) (atF l j)) i j = false → (ltOf fun i j : Fin l.length => cf (atF l i) (atF l j)) j i = false → i = j)
    (g : Nat) (cb : List Value) {a : Option Addr} {c : Nat} {k : Value → World → Prop} (eg : ∀ args w, (callFunc g args).run P w = .ok (.enter g args) w)
    (h : St W0 L W) [ho : Own a L A e c l L'] (hc : ∀ x ∈ l, ∀ y ∈ l, ∀ W', St W0 L' W' → callK P g (enc x :: enc y :: cb) (fun v W'' => v = .int .i64 (cf x y) ∧ St W' [] W'') W')
    (hl : l.length < 4611686018427387904) (hk : ∀ m W', m.Perm l → m.Pairwise (fun x y => ¬ cf y x < 0) → St W0 (arr A e a c m :: L') W' → k (.tuple #[]) W') : callK P (ρ.f 6) [.slice a l.length c, .func (.func g) #[] cb.toArray] k W := by
  have h := h.took (a := a)
  have L0 : SlLaysF0.n6 P ρ := { L6 with }
  by_cases hl0 : l = []
  · subst hl0
    refine (AnyF.slices_SortFunc_none L0 a c (.func (.func g) #[] cb.toArray) W).mono ?_
    rintro ed w' ⟨rfl, rfl⟩
    exact hk [] _ (List.Perm.refl _) List.Pairwise.nil h
  have hpos : 0 < l.length := List.length_pos_iff.2 hl0
  haveI : Inhabited (Fin l.length) := ⟨⟨0, hpos⟩⟩
  have hf := h.arrFacts
  have hs1 : A.sz = 1 := by rw [← A.len (l[0]), hA]; rfl
  obtain ⟨b, o, cur, rfl, h1, h2, h3⟩ := h.arrCells (fun e => by have := hf.2.2.1 e; omega)
  rw [hs1, Nat.mul_one] at h1 h2
  have hcell := cells_hold (o := o) h3 l.length (by omega)
  have hls : (List.finRange l.length).toArray.size = l.length := by simp
  have hrow := rows_one hA l
  have hH : Holds (fun i : Fin l.length => enc (atF l i)) W b o (List.finRange l.length).toArray := by
    intro j hj
    have hj' : j < l.length := by simpa using hj
    refine ⟨?_, (hcell j hj').2⟩
    rw [(hcell j hj').1, getElem!_pos _ j hj]
    have e3 : (A.rows l)[j]? = cur[o + j]? := by rw [← h2, List.getElem?_take_of_lt hj', List.getElem?_drop]
    rw [← e3, hrow, List.getElem?_map, List.getElem?_eq_getElem hj']
    simp [atF]
  have hblk : b < W.heap.size := by
    obtain ⟨fr, _, hb⟩ := h3.cells
    exact (Array.getElem?_eq_some_iff.1 hb.blk.2).1
  have hcmp : CmpLays1 P g cb.toArray (fun i : Fin l.length => enc (atF l i)) (fun i j => cf (atF l i) (atF l j)) b o (List.finRange l.length).toArray.size W := by
    intro m os dk hdk x y
    have hfs : (dk.map fun i : Fin l.length => enc (atF l i)).toList.length = l.length := by rw [Array.length_toList, Array.size_map, hdk, hls]
    have hw := (St.putRow (o := o) (n := m) (os := os) h3 (F := (dk.map fun i : Fin l.length => enc (atF l i)).toList) (by rw [hfs]; have := hf.1; omega)).drop
    rw [Array.toArray_toList, ← putRow_enc] at hw
    have h5 := hc (atF l x) (List.getElem_mem x.isLt) (atF l y) (List.getElem_mem y.isLt) (sortWorld (fun i : Fin l.length => enc (atF l i)) W b o m dk os) hw
    have e5 : (#[enc (atF l x), enc (atF l y)] ++ cb.toArray : Array Value) = (enc (atF l x) :: enc (atF l y) :: cb).toArray := by simp
    rw [e5]
    refine Calls.mono h5 fun ed w' hq => ?_
    cases ed with
    | returned v => exact ⟨by rw [hq.1], hq.2.grown⟩
    | _ => exact hq.elim
  have hcon := Any.slices_SortFunc_total L6 (fun i : Fin l.length => enc (atF l i)) (fun i => ?_) (fun i j => cf (atF l i) (atF l j)) hO g cb.toArray b o c (List.finRange l.length).toArray W eg hcmp hH hblk (by rw [hls]; exact hl) hT
  · rw [hls] at hcon
    generalize hM : (List.finRange l.length).toArray.toList.mergeSort _ = M at hcon
    refine Calls.mono hcon ?_
    rintro ed w' ⟨rfl, n, os, rfl⟩
    have e8 : ((List.finRange l.length).toArray.toList) = List.finRange l.length := by simp
    rw [e8] at hM
    have hp : M.Perm (List.finRange l.length) := by rw [← hM]; exact List.mergeSort_perm _ _
    have hlen : M.length = l.length := by rw [hp.length_eq, List.length_finRange]
    refine hk (M.map (atF l)) _ ?_ ?_ ?_
    · have := hp.map (atF l)
      rwa [fin_map] at this
    · rw [← hM]
      refine List.pairwise_map.2 ((List.pairwise_mergeSort (fun a b c h1 h2 => ?_) (fun a b => swo_total hO a b) _).imp fun {a b} h => ?_)
      · simp only [Bool.not_eq_true'] at *
        exact hO.ntrans _ _ _ h2 h1
      · simp only [ltOf, Bool.not_eq_true', decide_eq_false_iff_not] at h
        exact h
    · clear hM
      unfold sortWorld
      rw [putRow_enc]
      have e6 : (M.toArray.map fun i : Fin l.length => enc (atF l i)) = (A.rows (M.map (atF l))).toArray := by rw [rows_one hA]; simp
      rw [e6]
      have hrl : (A.rows (M.map (atF l))).length = l.length := by rw [Ly.rows_len, List.length_map, hlen, hs1, Nat.mul_one]
      refine (St.putRow (o := o) (n := n) (os := os) h3 (F := A.rows (M.map (atF l))) (by omega)).ent (arr_of_cells (by rw [List.length_map]; have := hf.1; omega) hf.2.1 ?_ ?_)
      · rw [hs1]
        simp only [List.length_append, List.length_take, List.length_drop]; have := hf.1; omega
      · rw [hs1, Nat.mul_one, List.append_assoc, List.drop_append_of_le_length (by simp; have := hf.1; omega), List.drop_take, Nat.sub_self, List.take_zero, List.nil_append, List.length_map, hlen]
        exact List.take_left' hrl
  · have := List.all_eq_true.1 (A.one (atF l i)) (enc (atF l i)) (by rw [hA]; simp)
    show (enc (atF l i)).oneCell' = true
    generalize enc (atF l i) = v at this ⊢
    cases v <;> first | rfl | (simp [oneC] at this)
end
end Go.Eng
namespace Go.Proofs.Ytkjhccpanedccaa
set_option linter.unusedVariables false
set_option linter.unusedSimpArgs false
open Go Go.Eng Go.Sort

def insLt (a b : Ins) : Prop := a.s < b.s ∨ (a.s = b.s ∧ (a.d.rep < b.d.rep ∨ (a.d.rep = b.d.rep ∧ a.d.n < b.d.n)))
instance (a b : Ins) : Decidable (insLt a b) := by unfold insLt; infer_instance
theorem cmpIns_lt (a b : Ins) : cmpIns a b < 0 ↔ insLt a b := by
  unfold cmpIns insLt cmpI
  simp only [orI]
  by_cases h1 : a.s < b.s
  · simp [h1]
  · by_cases h2 : b.s < a.s
    · simp only [if_neg h1, if_pos h2]; simp; omega
    · have h3 : a.s = b.s := by omega
      by_cases h4 : a.d.rep < b.d.rep
      · simp [h3, h4]
      · by_cases h5 : b.d.rep < a.d.rep
        · simp [h3, h4, h5]; omega
        · have h6 : a.d.rep = b.d.rep := by omega
          by_cases h7 : a.d.n < b.d.n
          · simp [h3, h6, h7]
          · by_cases h8 : b.d.n < a.d.n
            · simp [h3, h6, h7, h8]
            · simp [h3, h6, h7, h8]
theorem insLt_same {a b : Ins} (h1 : ¬ insLt a b) (h2 : ¬ insLt b a) : a.d = b.d := by
  unfold insLt at *
  obtain ⟨⟨r, n⟩, s, v⟩ := a
  obtain ⟨⟨r', n'⟩, s', v'⟩ := b
  simp only [Dot.mk.injEq] at *
  omega
theorem swoIns {α : Type} (f : α → Ins) : SWO (Proofs.ltOf fun x y => cmpIns (f x) (f y)) where
  irrefl x := by unfold Proofs.ltOf; rw [decide_eq_false_iff_not, cmpIns_lt, insLt]; omega
  trans x y z h1 h2 := by unfold Proofs.ltOf at *; rw [decide_eq_true_eq, cmpIns_lt, insLt] at *; omega
  ntrans x y z h1 h2 := by unfold Proofs.ltOf at *; rw [decide_eq_false_iff_not, cmpIns_lt, insLt] at *; omega
/-- in the order of Seq, Rep, N -/
def insSorted (l : List Ins) : Prop := l.Pairwise fun x y => ¬ insLt y x
section
variable {W0 W : World} {L L' : List Asn}
theorem insSort {a : Option Addr} {c : Nat} {l : List Ins} {k : Value → World → Prop} (h : St W0 L W) [ho : Own a L INS T_order_Inst c l L'] (hl : l.length < 1000000) (hn : (l.map (·.d)).Nodup)
    (hk : ∀ m W', m.Perm l → insSorted m → St W0 (arr INS T_order_Inst a c m :: L') W' → k (.tuple #[]) W') : callK PR F_slices_SortFunc_order_Inst_order_Inst [.slice a l.length c, .func (.func F_order_compare) #[] #[]] k W := by
  obtain ⟨d, i, h1, h2, h3, h4⟩ := (inferInstance : TyI PR T_order_Inst true 10).ok
  refine sortIx (P := PR) (A := INS) (ρ := laySortIns_ren) laySortIns (fun w => ?_) (fun w => ?_) cmpIns (l := l) (swoIns _) (fun i j g1 g2 => ?_) F_order_compare [] (fun args w => callFunc_ok (CBok _ (by kernel_rfl)) w) h (fun x _ y _ W' _ => ordCompare x y W') (by omega) fun m W' hp hs h => hk m W' hp (hs.imp fun {x y} h => by rwa [cmpIns_lt] at h) h
  · have := run_isAgg' (P := PR) (w := w) h1
    rw [h2] at this
    exact this
  · have := run_sizeOf' (P := PR) (w := w) h3
    rw [h4] at this
    exact this
  · unfold Proofs.ltOf at g1 g2
    rw [decide_eq_false_iff_not, cmpIns_lt] at g1 g2
    have hd := insLt_same g1 g2
    have h3 := List.getElem_inj (h₀ := by simp) (h₁ := by simp) (i := i.1) (j := j.1) hn
    exact Fin.ext (h3.1 (by simpa [atF] using hd))
def insOne (x : Ins) : Bool := dotO x.d && !decide (x.s < 0) && !decide (1099511627776 < x.s)
def depsO (x : Ins) : Bool := x.v.list.all fun n => decide (0 ≤ n ∧ n ≤ 1000)
def goodO (l : List Ins) : Bool := l.all (fun x => insOne x && depsO x) && decide (l.map (·.d)).Nodup && decide (l.length ≤ 1000)
theorem depsO_iff (x : Ins) : depsO x = true ↔ ∀ i, i < 7 → 0 ≤ x.v.get i ∧ x.v.get i ≤ 1000 := by
  simp only [depsO, P7.list, List.all_cons, List.all_nil, Bool.and_true, Bool.and_eq_true, decide_eq_true_eq]
  constructor
  · rintro ⟨h0, h1, h2, h3, h4, h5, h6⟩ i hi
    rcases P7.cases7 hi with rfl | rfl | rfl | rfl | rfl | rfl | rfl <;> assumption
  · intro h
    exact ⟨h 0 (by omega), h 1 (by omega), h 2 (by omega), h 3 (by omega), h 4 (by omega), h 5 (by omega), h 6 (by omega)⟩
theorem nodup_take {l : List Ins} {i : Nat} (hi : i < l.length) (h : ((l.take i).map (·.d)).Nodup) (hn : l[i].d ∉ (l.take i).map (·.d)) : ((l.take (i + 1)).map (·.d)).Nodup := by
  rw [List.take_succ_eq_append_getElem hi, List.map_append, List.nodup_append]
  refine ⟨h, by simp, fun a ha b hb e => ?_⟩
  simp only [List.map_cons, List.map_nil, List.mem_singleton] at hb
  subst hb; subst e; exact hn ha
theorem seenD (ds : List Dot) (d : Dot) : ((mget (ds.map fun d => (d, Value.bool true)) d).getD (.bool false)) = .bool (decide (d ∈ ds)) := by
  induction ds with
  | nil => rfl
  | cons a ds ih =>
    simp only [List.map_cons, mget]
    by_cases h : a = d
    · rw [if_pos h]; simp [h]
    · rw [if_neg h, ih]; simp [Ne.symm h]
set_option maxRecDepth 100000 in
set_option maxHeartbeats 4000000 in
theorem ordGood {a : Option Addr} {c : Nat} {l : List Ins} {k : Value → World → Prop} (h : St W0 L W) [hr : Rd W0 L a INS l] (hl : l.length < 4611686018427387904)
    (hk : ∀ W', St W0 L W' → k (.bool (goodO l)) W') : callK PR F_order_Good [.slice a l.length c] k W := by
  apply S.order_Good.call
  unfold S.order_Good.body
  refine mkMap (K := KD) h fun r W1 h => ?_
  refine joinK_i ?_
  (repeat (first | (first | (with_reducible (first | refine w1 fun _ _ => ?_ | refine w3 fun _ _ _ => ?_ | refine w4 fun _ _ _ => ?_ | refine w11 fun _ _ _ => ?_ | refine stb_n ?_)) | ((with_reducible refine w2 ?_); try simp -implicitDefEqProofs only [EN, lsub, lget, stL, beq_self_eq_true, ne_eq, if_true, if_false, List.cons_append, List.nil_append, Option.isNone_some, Option.isNone_none]; intro _ _) | ((with_reducible (first | refine w5 ?_ ?_ | refine w6 ?_ ?_ | refine w7 ?_ ?_)); simp; refine ⟨_, rfl, ?_⟩) | ((with_reducible (first | refine w8 ?_ ?_ ?_ | refine w9 ?_ ?_ ?_ | refine w10 ?_ ?_ ?_)); exact rfl; simp) | ((with_reducible refine w12 ?_ ?_ ?_ fun _ _ => ?_); simp; simp; simp [oneC]) | ((with_reducible (first | refine eqs ?_ | refine nes ?_)); refine ⟨_, rfl, ?_⟩) | ((refine okF_i (bldP_eq rfl) ?_); try simp only [BLS, List.take_succ_cons, List.take_zero, List.drop_succ_cons, List.drop_zero, List.cons_append, List.nil_append, Nat.reduceAdd])) | simp -implicitDefEqProofs only [EN, lsub, lget, stL, beq_self_eq_true, ne_eq, if_true, if_false, List.cons_append, List.nil_append, Option.isNone_some, Option.isNone_none]))
  refine loop_c (σ := Unit) l.length (fun i _ => [.slice a l.length c, .map (some r), .slice a l.length c, .int .i64 l.length, .int .i64 i])
    (fun i _ W1 => (((l.take i).all fun x => insOne x && depsO x) = true ∧ ((l.take i).map (·.d)).Nodup) ∧ St W0 (mp KD r (((l.take i).map (·.d)).map fun d => (d, Value.bool true)) :: L) W1) () rfl ⟨⟨rfl, List.nodup_nil⟩, h⟩ ?_
  clear h
  rintro K i _ W2 hi ⟨⟨hall, hnd⟩, h⟩ hK
  simp -implicitDefEqProofs only [EN, lsub, lget, stL, beq_self_eq_true, ne_eq, if_true, if_false, List.cons_append, List.nil_append, Option.isNone_some, Option.isNone_none]
  unfold S.order_Good.l1
  by_cases hlt : (i : Int) < (l.length : Int)
  · have hib : i < l.length := by omega
    have ew : IntKind.i64.wrap ((i : Int) + 1) = ((i + 1 : Nat) : Int) := by rw [i64w]; omega
    have hbad : (insOne l[i] = false ∨ depsO l[i] = false ∨ l[i].d ∈ (l.take i).map (·.d)) → goodO l = false := by
      intro hb
      rw [Bool.eq_false_iff]
      intro hg
      unfold goodO at hg
      simp only [Bool.and_eq_true, decide_eq_true_eq, List.all_eq_true] at hg
      obtain ⟨⟨g1, g2⟩, _⟩ := hg
      have g3 := g1 _ (List.getElem_mem hib)
      rcases hb with hb | hb | hb
      · rw [hb] at g3; simp at g3
      · rw [hb] at g3; simp at g3
      · have g4 := g2.sublist ((List.take_sublist (i + 1) l).map (·.d))
        rw [List.take_succ_eq_append_getElem hib, List.map_append, List.nodup_append] at g4
        exact g4.2.2 _ hb l[i].d (by simp) rfl
    have hns : (l.take (i + 1)).all (fun x => insOne x && depsO x) = ((l.take i).all (fun x => insOne x && depsO x) && (insOne l[i] && depsO l[i])) := by
      rw [List.take_succ_eq_append_getElem hib, List.all_append]; simp
    have hnd2 := nodup_take hib hnd
    have hmm : ((l.take (i + 1)).map (·.d)).map (fun d => (d, Value.bool true)) = ((l.take i).map (·.d)).map (fun d => (d, Value.bool true)) ++ [(l[i].d, Value.bool true)] := by
      rw [List.take_succ_eq_append_getElem hib, List.map_append, List.map_append]; rfl
    (repeat (first | (first | (with_reducible (first | refine w1 fun _ _ => ?_ | refine w3 fun _ _ _ => ?_ | refine w4 fun _ _ _ => ?_ | refine w11 fun _ _ _ => ?_ | refine stb_n ?_)) | ((with_reducible refine w2 ?_); try simp -implicitDefEqProofs only [EN, lsub, lget, stL, beq_self_eq_true, ne_eq, if_true, if_false, List.cons_append, List.nil_append, Option.isNone_some, Option.isNone_none, hlt]; intro _ _) | ((with_reducible (first | refine w5 ?_ ?_ | refine w6 ?_ ?_ | refine w7 ?_ ?_)); simp; refine ⟨_, rfl, ?_⟩) | ((with_reducible (first | refine w8 ?_ ?_ ?_ | refine w9 ?_ ?_ ?_ | refine w10 ?_ ?_ ?_)); exact rfl; simp) | ((with_reducible refine w12 ?_ ?_ ?_ fun _ _ => ?_); simp; simp; simp [oneC]) | ((with_reducible (first | refine eqs ?_ | refine nes ?_)); refine ⟨_, rfl, ?_⟩) | ((refine okF_i (bldP_eq rfl) ?_); try simp only [BLS, List.take_succ_cons, List.take_zero, List.drop_succ_cons, List.drop_zero, List.cons_append, List.nil_append, Nat.reduceAdd])) | simp -implicitDefEqProofs only [EN, lsub, lget, stL, beq_self_eq_true, ne_eq, if_true, if_false, List.cons_append, List.nil_append, Option.isNone_some, Option.isNone_none, hlt]))
    refine joinK_i ?_
    refine ixA (i := i) (a := a) (l := l) (A := INS) h rfl rfl hib fun g o ha => ?_
    cases ha
    refine ldA0 (i := i) (l := l) (A := INS) h rfl hib (v := .agg (INS.row l[i]).toArray) rfl (by simp [INS]) ?_
    generalize l[i] = y at *
    rw [show (INS.row y).toArray = #[.int .i64 y.d.rep, .int .i64 y.d.n, .int .i64 y.s, .int .i64 y.v.x0, .int .i64 y.v.x1, .int .i64 y.v.x2, .int .i64 y.v.x3, .int .i64 y.v.x4, .int .i64 y.v.x5, .int .i64 y.v.x6] from rfl]
    have ed : dotO ⟨y.d.rep, y.d.n⟩ = dotO y.d := rfl
    have esn := seenD ((l.take i).map (·.d)) y.d
    have hno : ∀ W', St W0 L W' → (insOne y = false ∨ depsO y = false ∨ y.d ∈ (l.take i).map (·.d)) → k (.bool false) W' := fun W' h hb => by
      have := hk W' h
      rwa [hbad hb] at this
    cases hd : dotO y.d with
    | false =>
      (repeat (first | (first | (with_reducible (first | refine w1 fun _ _ => ?_ | refine w3 fun _ _ _ => ?_ | refine w4 fun _ _ _ => ?_ | refine w11 fun _ _ _ => ?_ | refine stb_n ?_)) | ((with_reducible refine w2 ?_); try simp -implicitDefEqProofs only [EN, lsub, lget, stL, beq_self_eq_true, ne_eq, if_true, if_false, List.cons_append, List.nil_append, Option.isNone_some, Option.isNone_none, ed, hd]; intro _ _) | ((with_reducible (first | refine w5 ?_ ?_ | refine w6 ?_ ?_ | refine w7 ?_ ?_)); simp; refine ⟨_, rfl, ?_⟩) | ((with_reducible (first | refine w8 ?_ ?_ ?_ | refine w9 ?_ ?_ ?_ | refine w10 ?_ ?_ ?_)); exact rfl; simp) | ((with_reducible refine w12 ?_ ?_ ?_ fun _ _ => ?_); simp; simp; simp [oneC]) | ((with_reducible (first | refine eqs ?_ | refine nes ?_)); refine ⟨_, rfl, ?_⟩) | ((refine okF_i (bldP_eq rfl) ?_); try simp only [BLS, List.take_succ_cons, List.take_zero, List.drop_succ_cons, List.drop_zero, List.cons_append, List.nil_append, Nat.reduceAdd])) | simp -implicitDefEqProofs only [EN, lsub, lget, stL, beq_self_eq_true, ne_eq, if_true, if_false, List.cons_append, List.nil_append, Option.isNone_some, Option.isNone_none, ed, hd]))
      exact hno _ (St.wk (by first | assumption | exact St.tick (by assumption) | exact St.tick (St.tick (by assumption)))) (.inl (by unfold insOne; rw [hd]; rfl))
    | true =>
    by_cases h1 : y.s < 0
    · (repeat (first | (first | (with_reducible (first | refine w1 fun _ _ => ?_ | refine w3 fun _ _ _ => ?_ | refine w4 fun _ _ _ => ?_ | refine w11 fun _ _ _ => ?_ | refine stb_n ?_)) | ((with_reducible refine w2 ?_); try simp -implicitDefEqProofs only [EN, lsub, lget, stL, beq_self_eq_true, ne_eq, if_true, if_false, List.cons_append, List.nil_append, Option.isNone_some, Option.isNone_none, ed, hd, h1]; intro _ _) | ((with_reducible (first | refine w5 ?_ ?_ | refine w6 ?_ ?_ | refine w7 ?_ ?_)); simp; refine ⟨_, rfl, ?_⟩) | ((with_reducible (first | refine w8 ?_ ?_ ?_ | refine w9 ?_ ?_ ?_ | refine w10 ?_ ?_ ?_)); exact rfl; simp) | ((with_reducible refine w12 ?_ ?_ ?_ fun _ _ => ?_); simp; simp; simp [oneC]) | ((with_reducible (first | refine eqs ?_ | refine nes ?_)); refine ⟨_, rfl, ?_⟩) | ((refine okF_i (bldP_eq rfl) ?_); try simp only [BLS, List.take_succ_cons, List.take_zero, List.drop_succ_cons, List.drop_zero, List.cons_append, List.nil_append, Nat.reduceAdd])) | simp -implicitDefEqProofs only [EN, lsub, lget, stL, beq_self_eq_true, ne_eq, if_true, if_false, List.cons_append, List.nil_append, Option.isNone_some, Option.isNone_none, ed, hd, h1]))
      exact hno _ (St.wk (by first | assumption | exact St.tick (by assumption) | exact St.tick (St.tick (by assumption)))) (.inl (by unfold insOne; rw [hd, decide_eq_true h1]; rfl))
    by_cases h2 : 1099511627776 < y.s
    · (repeat (first | (first | (with_reducible (first | refine w1 fun _ _ => ?_ | refine w3 fun _ _ _ => ?_ | refine w4 fun _ _ _ => ?_ | refine w11 fun _ _ _ => ?_ | refine stb_n ?_)) | ((with_reducible refine w2 ?_); try simp -implicitDefEqProofs only [EN, lsub, lget, stL, beq_self_eq_true, ne_eq, if_true, if_false, List.cons_append, List.nil_append, Option.isNone_some, Option.isNone_none, ed, hd, h1, h2]; intro _ _) | ((with_reducible (first | refine w5 ?_ ?_ | refine w6 ?_ ?_ | refine w7 ?_ ?_)); simp; refine ⟨_, rfl, ?_⟩) | ((with_reducible (first | refine w8 ?_ ?_ ?_ | refine w9 ?_ ?_ ?_ | refine w10 ?_ ?_ ?_)); exact rfl; simp) | ((with_reducible refine w12 ?_ ?_ ?_ fun _ _ => ?_); simp; simp; simp [oneC]) | ((with_reducible (first | refine eqs ?_ | refine nes ?_)); refine ⟨_, rfl, ?_⟩) | ((refine okF_i (bldP_eq rfl) ?_); try simp only [BLS, List.take_succ_cons, List.take_zero, List.drop_succ_cons, List.drop_zero, List.cons_append, List.nil_append, Nat.reduceAdd])) | simp -implicitDefEqProofs only [EN, lsub, lget, stL, beq_self_eq_true, ne_eq, if_true, if_false, List.cons_append, List.nil_append, Option.isNone_some, Option.isNone_none, ed, hd, h1, h2]))
      exact hno _ (St.wk (by first | assumption | exact St.tick (by assumption) | exact St.tick (St.tick (by assumption)))) (.inl (by unfold insOne; rw [hd, decide_eq_true h2, Bool.not_true, Bool.and_false]))
    have hone : insOne y = true := by unfold insOne; rw [hd, decide_eq_false h1, decide_eq_false h2]; rfl
    (repeat (first | (first | (with_reducible (first | refine w1 fun _ _ => ?_ | refine w3 fun _ _ _ => ?_ | refine w4 fun _ _ _ => ?_ | refine w11 fun _ _ _ => ?_ | refine stb_n ?_)) | ((with_reducible refine w2 ?_); try simp -implicitDefEqProofs only [EN, lsub, lget, stL, beq_self_eq_true, ne_eq, if_true, if_false, List.cons_append, List.nil_append, Option.isNone_some, Option.isNone_none, ed, hd, h1, h2]; intro _ _) | ((with_reducible (first | refine w5 ?_ ?_ | refine w6 ?_ ?_ | refine w7 ?_ ?_)); simp; refine ⟨_, rfl, ?_⟩) | ((with_reducible (first | refine w8 ?_ ?_ ?_ | refine w9 ?_ ?_ ?_ | refine w10 ?_ ?_ ?_)); exact rfl; simp) | ((with_reducible refine w12 ?_ ?_ ?_ fun _ _ => ?_); simp; simp; simp [oneC]) | ((with_reducible (first | refine eqs ?_ | refine nes ?_)); refine ⟨_, rfl, ?_⟩) | ((refine okF_i (bldP_eq rfl) ?_); try simp only [BLS, List.take_succ_cons, List.take_zero, List.drop_succ_cons, List.drop_zero, List.cons_append, List.nil_append, Nat.reduceAdd])) | simp -implicitDefEqProofs only [EN, lsub, lget, stL, beq_self_eq_true, ne_eq, if_true, if_false, List.cons_append, List.nil_append, Option.isNone_some, Option.isNone_none, ed, hd, h1, h2]))
    refine lkp (K := KD) (z := .bool false) y.d (by first | assumption | exact St.tick (by assumption) | exact St.tick (St.tick (by assumption))) ?_
    rw [esn]
    by_cases hs : y.d ∈ (l.take i).map (·.d)
    · have f1 := decide_eq_true hs
      (repeat (first | (first | (with_reducible (first | refine w1 fun _ _ => ?_ | refine w3 fun _ _ _ => ?_ | refine w4 fun _ _ _ => ?_ | refine w11 fun _ _ _ => ?_ | refine stb_n ?_)) | ((with_reducible refine w2 ?_); try simp -implicitDefEqProofs only [EN, lsub, lget, stL, beq_self_eq_true, ne_eq, if_true, if_false, List.cons_append, List.nil_append, Option.isNone_some, Option.isNone_none, f1]; intro _ _) | ((with_reducible (first | refine w5 ?_ ?_ | refine w6 ?_ ?_ | refine w7 ?_ ?_)); simp; refine ⟨_, rfl, ?_⟩) | ((with_reducible (first | refine w8 ?_ ?_ ?_ | refine w9 ?_ ?_ ?_ | refine w10 ?_ ?_ ?_)); exact rfl; simp) | ((with_reducible refine w12 ?_ ?_ ?_ fun _ _ => ?_); simp; simp; simp [oneC]) | ((with_reducible (first | refine eqs ?_ | refine nes ?_)); refine ⟨_, rfl, ?_⟩) | ((refine okF_i (bldP_eq rfl) ?_); try simp only [BLS, List.take_succ_cons, List.take_zero, List.drop_succ_cons, List.drop_zero, List.cons_append, List.nil_append, Nat.reduceAdd])) | simp -implicitDefEqProofs only [EN, lsub, lget, stL, beq_self_eq_true, ne_eq, if_true, if_false, List.cons_append, List.nil_append, Option.isNone_some, Option.isNone_none, f1]))
      exact hno _ (St.wk (by first | assumption | exact St.tick (by assumption) | exact St.tick (St.tick (by assumption)))) (.inr (.inr hs))
    have f1 := decide_eq_false hs
    (repeat (first | (first | (with_reducible (first | refine w1 fun _ _ => ?_ | refine w3 fun _ _ _ => ?_ | refine w4 fun _ _ _ => ?_ | refine w11 fun _ _ _ => ?_ | refine stb_n ?_)) | ((with_reducible refine w2 ?_); try simp -implicitDefEqProofs only [EN, lsub, lget, stL, beq_self_eq_true, ne_eq, if_true, if_false, List.cons_append, List.nil_append, Option.isNone_some, Option.isNone_none, f1]; intro _ _) | ((with_reducible (first | refine w5 ?_ ?_ | refine w6 ?_ ?_ | refine w7 ?_ ?_)); simp; refine ⟨_, rfl, ?_⟩) | ((with_reducible (first | refine w8 ?_ ?_ ?_ | refine w9 ?_ ?_ ?_ | refine w10 ?_ ?_ ?_)); exact rfl; simp) | ((with_reducible refine w12 ?_ ?_ ?_ fun _ _ => ?_); simp; simp; simp [oneC]) | ((with_reducible (first | refine eqs ?_ | refine nes ?_)); refine ⟨_, rfl, ?_⟩) | ((refine okF_i (bldP_eq rfl) ?_); try simp only [BLS, List.take_succ_cons, List.take_zero, List.drop_succ_cons, List.drop_zero, List.cons_append, List.nil_append, Nat.reduceAdd])) | simp -implicitDefEqProofs only [EN, lsub, lget, stL, beq_self_eq_true, ne_eq, if_true, if_false, List.cons_append, List.nil_append, Option.isNone_some, Option.isNone_none, f1]))
    refine mset (K := KD) y.d (by first | assumption | exact St.tick (by assumption) | exact St.tick (St.tick (by assumption))) fun W3 h => ?_
    rw [mput_new (fun p hp => by
      obtain ⟨d, hd2, rfl⟩ := List.mem_map.1 hp
      exact fun e => hs (e ▸ hd2)), ← hmm] at h
    (repeat (first | (first | (with_reducible (first | refine w1 fun _ _ => ?_ | refine w3 fun _ _ _ => ?_ | refine w4 fun _ _ _ => ?_ | refine w11 fun _ _ _ => ?_ | refine stb_n ?_)) | ((with_reducible refine w2 ?_); try simp -implicitDefEqProofs only [EN, lsub, lget, stL, beq_self_eq_true, ne_eq, if_true, if_false, List.cons_append, List.nil_append, Option.isNone_some, Option.isNone_none]; intro _ _) | ((with_reducible (first | refine w5 ?_ ?_ | refine w6 ?_ ?_ | refine w7 ?_ ?_)); simp; refine ⟨_, rfl, ?_⟩) | ((with_reducible (first | refine w8 ?_ ?_ ?_ | refine w9 ?_ ?_ ?_ | refine w10 ?_ ?_ ?_)); exact rfl; simp) | ((with_reducible refine w12 ?_ ?_ ?_ fun _ _ => ?_); simp; simp; simp [oneC]) | ((with_reducible (first | refine eqs ?_ | refine nes ?_)); refine ⟨_, rfl, ?_⟩) | ((refine okF_i (bldP_eq rfl) ?_); try simp only [BLS, List.take_succ_cons, List.take_zero, List.drop_succ_cons, List.drop_zero, List.cons_append, List.nil_append, Nat.reduceAdd])) | simp -implicitDefEqProofs only [EN, lsub, lget, stL, beq_self_eq_true, ne_eq, if_true, if_false, List.cons_append, List.nil_append, Option.isNone_some, Option.isNone_none]))
    have h : St W0 (mp KD r (((l.take (i + 1)).map (·.d)).map fun d => (d, Value.bool true)) :: L) W3 := St.wk (by first | assumption | exact St.tick (by assumption) | exact St.tick (St.tick (by assumption)))
    refine loop_c (σ := Unit) 7 (fun j _ => [.slice (some ⟨g, o, none⟩) l.length c, .map (some r), .slice (some ⟨g, o, none⟩) l.length c, .int .i64 l.length, .int .i64 i, .agg #[.int .i64 y.v.x0, .int .i64 y.v.x1, .int .i64 y.v.x2, .int .i64 y.v.x3, .int .i64 y.v.x4, .int .i64 y.v.x5, .int .i64 y.v.x6], .int .i64 j])
      (fun j _ W1 => (∀ t, t < j → 0 ≤ y.v.get t ∧ y.v.get t ≤ 1000) ∧ St W0 (mp KD r (((l.take (i + 1)).map (·.d)).map fun d => (d, Value.bool true)) :: L) W1) () rfl ⟨fun t h => by omega, h⟩ ?_
    clear h
    rintro K2 j _ W4 hj ⟨hdeps, h⟩ hK2
    simp -implicitDefEqProofs only [EN, lsub, lget, stL, beq_self_eq_true, ne_eq, if_true, if_false, List.cons_append, List.nil_append, Option.isNone_some, Option.isNone_none]
    unfold S.order_Good.l2
    have hbadd : ∀ W', St W0 L W' → j < 7 → (y.v.get j < 0 ∨ 1000 < y.v.get j) → k (.bool false) W' := fun W' h hj7 hb => hno W' h (.inr (.inl (by
      rw [Bool.eq_false_iff]
      intro hdd
      have := (depsO_iff y).1 hdd j hj7
      omega)))
    by_cases hjt : (j : Int) < 7
    · have e7 := idxV7i (x := y.v) (i := j) (by omega)
      have ew2 : IntKind.i64.wrap ((j : Int) + 1) = ((j + 1 : Nat) : Int) := by rw [i64w]; omega
      by_cases g1 : y.v.get j < 0
      · (repeat (first | (first | (with_reducible (first | refine w1 fun _ _ => ?_ | refine w3 fun _ _ _ => ?_ | refine w4 fun _ _ _ => ?_ | refine w11 fun _ _ _ => ?_ | refine stb_n ?_)) | ((with_reducible refine w2 ?_); try simp -implicitDefEqProofs only [EN, lsub, lget, stL, beq_self_eq_true, ne_eq, if_true, if_false, List.cons_append, List.nil_append, Option.isNone_some, Option.isNone_none, hjt, e7, g1]; intro _ _) | ((with_reducible (first | refine w5 ?_ ?_ | refine w6 ?_ ?_ | refine w7 ?_ ?_)); simp; refine ⟨_, rfl, ?_⟩) | ((with_reducible (first | refine w8 ?_ ?_ ?_ | refine w9 ?_ ?_ ?_ | refine w10 ?_ ?_ ?_)); exact rfl; simp) | ((with_reducible refine w12 ?_ ?_ ?_ fun _ _ => ?_); simp; simp; simp [oneC]) | ((with_reducible (first | refine eqs ?_ | refine nes ?_)); refine ⟨_, rfl, ?_⟩) | ((refine okF_i (bldP_eq rfl) ?_); try simp only [BLS, List.take_succ_cons, List.take_zero, List.drop_succ_cons, List.drop_zero, List.cons_append, List.nil_append, Nat.reduceAdd])) | simp -implicitDefEqProofs only [EN, lsub, lget, stL, beq_self_eq_true, ne_eq, if_true, if_false, List.cons_append, List.nil_append, Option.isNone_some, Option.isNone_none, hjt, e7, g1]))
        exact hbadd _ h.drop (by omega) (.inl g1)
      by_cases g2 : 1000 < y.v.get j
      · (repeat (first | (first | (with_reducible (first | refine w1 fun _ _ => ?_ | refine w3 fun _ _ _ => ?_ | refine w4 fun _ _ _ => ?_ | refine w11 fun _ _ _ => ?_ | refine stb_n ?_)) | ((with_reducible refine w2 ?_); try simp -implicitDefEqProofs only [EN, lsub, lget, stL, beq_self_eq_true, ne_eq, if_true, if_false, List.cons_append, List.nil_append, Option.isNone_some, Option.isNone_none, hjt, e7, g1, g2]; intro _ _) | ((with_reducible (first | refine w5 ?_ ?_ | refine w6 ?_ ?_ | refine w7 ?_ ?_)); simp; refine ⟨_, rfl, ?_⟩) | ((with_reducible (first | refine w8 ?_ ?_ ?_ | refine w9 ?_ ?_ ?_ | refine w10 ?_ ?_ ?_)); exact rfl; simp) | ((with_reducible refine w12 ?_ ?_ ?_ fun _ _ => ?_); simp; simp; simp [oneC]) | ((with_reducible (first | refine eqs ?_ | refine nes ?_)); refine ⟨_, rfl, ?_⟩) | ((refine okF_i (bldP_eq rfl) ?_); try simp only [BLS, List.take_succ_cons, List.take_zero, List.drop_succ_cons, List.drop_zero, List.cons_append, List.nil_append, Nat.reduceAdd])) | simp -implicitDefEqProofs only [EN, lsub, lget, stL, beq_self_eq_true, ne_eq, if_true, if_false, List.cons_append, List.nil_append, Option.isNone_some, Option.isNone_none, hjt, e7, g1, g2]))
        exact hbadd _ h.drop (by omega) (.inr g2)
      (repeat (first | (first | (with_reducible (first | refine w1 fun _ _ => ?_ | refine w3 fun _ _ _ => ?_ | refine w4 fun _ _ _ => ?_ | refine w11 fun _ _ _ => ?_ | refine stb_n ?_)) | ((with_reducible refine w2 ?_); try simp -implicitDefEqProofs only [EN, lsub, lget, stL, beq_self_eq_true, ne_eq, if_true, if_false, List.cons_append, List.nil_append, Option.isNone_some, Option.isNone_none, hjt, e7, g1, g2, ew2]; intro _ _) | ((with_reducible (first | refine w5 ?_ ?_ | refine w6 ?_ ?_ | refine w7 ?_ ?_)); simp; refine ⟨_, rfl, ?_⟩) | ((with_reducible (first | refine w8 ?_ ?_ ?_ | refine w9 ?_ ?_ ?_ | refine w10 ?_ ?_ ?_)); exact rfl; simp) | ((with_reducible refine w12 ?_ ?_ ?_ fun _ _ => ?_); simp; simp; simp [oneC]) | ((with_reducible (first | refine eqs ?_ | refine nes ?_)); refine ⟨_, rfl, ?_⟩) | ((refine okF_i (bldP_eq rfl) ?_); try simp only [BLS, List.take_succ_cons, List.take_zero, List.drop_succ_cons, List.drop_zero, List.cons_append, List.nil_append, Nat.reduceAdd])) | simp -implicitDefEqProofs only [EN, lsub, lget, stL, beq_self_eq_true, ne_eq, if_true, if_false, List.cons_append, List.nil_append, Option.isNone_some, Option.isNone_none, hjt, e7, g1, g2, ew2]))
      refine hK2 () _ (by omega) ⟨fun t ht => ?_, h⟩
      by_cases e : t = j
      · subst e; omega
      · exact hdeps t (by omega)
    · (repeat (first | (first | (with_reducible (first | refine w1 fun _ _ => ?_ | refine w3 fun _ _ _ => ?_ | refine w4 fun _ _ _ => ?_ | refine w11 fun _ _ _ => ?_ | refine stb_n ?_)) | ((with_reducible refine w2 ?_); try simp -implicitDefEqProofs only [EN, lsub, lget, stL, beq_self_eq_true, ne_eq, if_true, if_false, List.cons_append, List.nil_append, Option.isNone_some, Option.isNone_none, hjt]; intro _ _) | ((with_reducible (first | refine w5 ?_ ?_ | refine w6 ?_ ?_ | refine w7 ?_ ?_)); simp; refine ⟨_, rfl, ?_⟩) | ((with_reducible (first | refine w8 ?_ ?_ ?_ | refine w9 ?_ ?_ ?_ | refine w10 ?_ ?_ ?_)); exact rfl; simp) | ((with_reducible refine w12 ?_ ?_ ?_ fun _ _ => ?_); simp; simp; simp [oneC]) | ((with_reducible (first | refine eqs ?_ | refine nes ?_)); refine ⟨_, rfl, ?_⟩) | ((refine okF_i (bldP_eq rfl) ?_); try simp only [BLS, List.take_succ_cons, List.take_zero, List.drop_succ_cons, List.drop_zero, List.cons_append, List.nil_append, Nat.reduceAdd])) | simp -implicitDefEqProofs only [EN, lsub, lget, stL, beq_self_eq_true, ne_eq, if_true, if_false, List.cons_append, List.nil_append, Option.isNone_some, Option.isNone_none, hjt]))
      unfold S.order_Good.j2
      (repeat (first | (first | (with_reducible (first | refine w1 fun _ _ => ?_ | refine w3 fun _ _ _ => ?_ | refine w4 fun _ _ _ => ?_ | refine w11 fun _ _ _ => ?_ | refine stb_n ?_)) | ((with_reducible refine w2 ?_); try simp -implicitDefEqProofs only [EN, lsub, lget, stL, beq_self_eq_true, ne_eq, if_true, if_false, List.cons_append, List.nil_append, Option.isNone_some, Option.isNone_none, ew]; intro _ _) | ((with_reducible (first | refine w5 ?_ ?_ | refine w6 ?_ ?_ | refine w7 ?_ ?_)); simp; refine ⟨_, rfl, ?_⟩) | ((with_reducible (first | refine w8 ?_ ?_ ?_ | refine w9 ?_ ?_ ?_ | refine w10 ?_ ?_ ?_)); exact rfl; simp) | ((with_reducible refine w12 ?_ ?_ ?_ fun _ _ => ?_); simp; simp; simp [oneC]) | ((with_reducible (first | refine eqs ?_ | refine nes ?_)); refine ⟨_, rfl, ?_⟩) | ((refine okF_i (bldP_eq rfl) ?_); try simp only [BLS, List.take_succ_cons, List.take_zero, List.drop_succ_cons, List.drop_zero, List.cons_append, List.nil_append, Nat.reduceAdd])) | simp -implicitDefEqProofs only [EN, lsub, lget, stL, beq_self_eq_true, ne_eq, if_true, if_false, List.cons_append, List.nil_append, Option.isNone_some, Option.isNone_none, ew]))
      have hdp : depsO y = true := (depsO_iff y).2 fun t ht => hdeps t (by omega)
      exact hK () _ hib ⟨⟨by rw [hns, hall, hone, hdp]; rfl, hnd2 hs⟩, h⟩
  · have hil : i = l.length := by omega
    subst hil
    rw [List.take_length] at hall hnd
    (repeat (first | (first | (with_reducible (first | refine w1 fun _ _ => ?_ | refine w3 fun _ _ _ => ?_ | refine w4 fun _ _ _ => ?_ | refine w11 fun _ _ _ => ?_ | refine stb_n ?_)) | ((with_reducible refine w2 ?_); try simp -implicitDefEqProofs only [EN, lsub, lget, stL, beq_self_eq_true, ne_eq, if_true, if_false, List.cons_append, List.nil_append, Option.isNone_some, Option.isNone_none, hlt]; intro _ _) | ((with_reducible (first | refine w5 ?_ ?_ | refine w6 ?_ ?_ | refine w7 ?_ ?_)); simp; refine ⟨_, rfl, ?_⟩) | ((with_reducible (first | refine w8 ?_ ?_ ?_ | refine w9 ?_ ?_ ?_ | refine w10 ?_ ?_ ?_)); exact rfl; simp) | ((with_reducible refine w12 ?_ ?_ ?_ fun _ _ => ?_); simp; simp; simp [oneC]) | ((with_reducible (first | refine eqs ?_ | refine nes ?_)); refine ⟨_, rfl, ?_⟩) | ((refine okF_i (bldP_eq rfl) ?_); try simp only [BLS, List.take_succ_cons, List.take_zero, List.drop_succ_cons, List.drop_zero, List.cons_append, List.nil_append, Nat.reduceAdd])) | simp -implicitDefEqProofs only [EN, lsub, lget, stL, beq_self_eq_true, ne_eq, if_true, if_false, List.cons_append, List.nil_append, Option.isNone_some, Option.isNone_none, hlt]))
    unfold S.order_Good.j1
    have e : goodO l = decide ((l.length : Int) ≤ 1000) := by
      unfold goodO
      rw [hall, decide_eq_true hnd, Bool.true_and, Bool.true_and, decide_eq_decide]; omega
    (repeat (first | (first | (with_reducible (first | refine w1 fun _ _ => ?_ | refine w3 fun _ _ _ => ?_ | refine w4 fun _ _ _ => ?_ | refine w11 fun _ _ _ => ?_ | refine stb_n ?_)) | ((with_reducible refine w2 ?_); try simp -implicitDefEqProofs only [EN, lsub, lget, stL, beq_self_eq_true, ne_eq, if_true, if_false, List.cons_append, List.nil_append, Option.isNone_some, Option.isNone_none]; intro _ _) | ((with_reducible (first | refine w5 ?_ ?_ | refine w6 ?_ ?_ | refine w7 ?_ ?_)); simp; refine ⟨_, rfl, ?_⟩) | ((with_reducible (first | refine w8 ?_ ?_ ?_ | refine w9 ?_ ?_ ?_ | refine w10 ?_ ?_ ?_)); exact rfl; simp) | ((with_reducible refine w12 ?_ ?_ ?_ fun _ _ => ?_); simp; simp; simp [oneC]) | ((with_reducible (first | refine eqs ?_ | refine nes ?_)); refine ⟨_, rfl, ?_⟩) | ((refine okF_i (bldP_eq rfl) ?_); try simp only [BLS, List.take_succ_cons, List.take_zero, List.drop_succ_cons, List.drop_zero, List.cons_append, List.nil_append, Nat.reduceAdd])) | simp -implicitDefEqProofs only [EN, lsub, lget, stL, beq_self_eq_true, ne_eq, if_true, if_false, List.cons_append, List.nil_append, Option.isNone_some, Option.isNone_none]))
    rw [← e]
    exact hk _ h.drop
end
end Go.Proofs.Ytkjhccpanedccaa
namespace Go.Tar
set_option linter.unusedVariables false
set_option linter.unusedSimpArgs false
section
variable {α : Type} {le : α → α → Bool}
def ins (le : α → α → Bool) (a : α) : List α → List α
  | [] => [a]
  | b :: l => if le a b then a :: b :: l else b :: ins le a l
def isort (le : α → α → Bool) : List α → List α
  | [] => []
  | a :: l => ins le a (isort le l)
theorem ins_perm (a : α) : ∀ l : List α, (ins le a l).Perm (a :: l)
  | [] => List.Perm.refl _
  | b :: l => by
    unfold ins
    split
    · exact List.Perm.refl _
    · exact ((ins_perm a l).cons b).trans (List.Perm.swap a b l)
theorem isort_perm : ∀ l : List α, (isort le l).Perm l
  | [] => List.Perm.refl _
  | a :: l => (ins_perm a _).trans ((isort_perm l).cons a)
theorem ins_sorted (htr : ∀ a b c, le a b = true → le b c = true → le a c = true) (hto : ∀ a b, (le a b || le b a) = true) (a : α) : ∀ l : List α, l.Pairwise (fun x y => le x y = true) → (ins le a l).Pairwise (fun x y => le x y = true)
  | [], _ => by simp [ins]
  | b :: l, h => by
    unfold ins
    by_cases hab : le a b = true
    · rw [if_pos hab, List.pairwise_cons]
      refine ⟨fun c hc => ?_, h⟩
      rcases List.mem_cons.1 hc with rfl | hc
      · exact hab
      · exact htr _ _ _ hab ((List.pairwise_cons.1 h).1 c hc)
    · rw [if_neg hab, List.pairwise_cons]
      refine ⟨fun c hc => ?_, ins_sorted htr hto a l (List.pairwise_cons.1 h).2⟩
      rcases List.mem_cons.1 ((ins_perm a l).mem_iff.1 hc) with rfl | hc
      · have := hto b c
        simp only [Bool.or_eq_true] at this
        exact this.resolve_right hab
      · exact (List.pairwise_cons.1 h).1 c hc
theorem isort_sorted (htr : ∀ a b c, le a b = true → le b c = true → le a c = true) (hto : ∀ a b, (le a b || le b a) = true) : ∀ l : List α, (isort le l).Pairwise (fun x y => le x y = true)
  | [] => List.Pairwise.nil
  | a :: l => ins_sorted htr hto a _ (isort_sorted htr hto l)
end
end Go.Tar
