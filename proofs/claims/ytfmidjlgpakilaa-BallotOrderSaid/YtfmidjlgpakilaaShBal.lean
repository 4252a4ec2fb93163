import Derived.Test.YtfmidjlgpakilaaBase
namespace Go.Proofs.Ytfmidjlgpakilaa
set_option linter.unusedVariables false
set_option linter.unusedSimpArgs false
open Go.Eng
/-! ### rostrum/ballot.Good (21) -/
def S.ballot_Good.body (R : Value → World → Prop) (v0 : Value) (W : World) : Prop :=
  efK PR (Instr.box T_ballot_Ballot v0) (fun v1 W =>
  okF (addrF 0 v1) fun v3 =>
  rdK PR (Instr.loadAt T_int64 v3) (fun v4 W =>
  okF (binP .geq v4 (.int .i64 0)) fun v5 =>
  gdK (wantd v5 true) (fun k W => okF (addrF 0 v1) fun v => k v W) (fun v7 W =>
  gdK (wantd v5 true) (fun k W => rdK PR (Instr.loadAt T_int64 v7) k W) (fun v8 W =>
  gdK (wantd v5 true) (fun k W => okF (binP .leq v8 (.int .i64 1099511627776)) fun v => k v W) (fun v9 W =>
  okF (pickP v5 v9 (.bool false)) fun v10 =>
  gdK (wantd v10 true) (fun k W => okF (addrF 1 v1) fun v => k v W) (fun v12 W =>
  gdK (wantd v10 true) (fun k W => rdK PR (Instr.loadAt T_int v12) k W) (fun v13 W =>
  gdK (wantd v10 true) (fun k W => callK PR F_ballot_rep [v13] k W) (fun v14 W =>
  okF (pickP v10 v14 (.bool false)) fun v15 =>
  R v15 W) W) W) W) W) W) W) W) W
def S.ballot_Good.hint : Hint := (.two .nil (.two .nil .nil))
theorem S.ballot_Good.ok (R : Value → World → Prop) (v0 : Value) (W : World) : bodyK PR CB Try.f21 S.ballot_Good.hint [v0] R W = S.ballot_Good.body R v0 W := by kernel_rfl
theorem S.ballot_Good.fn : PR.funcs[F_ballot_Good]? = some Try.f21 := by kernel_rfl
theorem S.ballot_Good.call {R : Value → World → Prop} {v0 : Value} {W : World} (h : S.ballot_Good.body R v0 W) : callK PR F_ballot_Good [v0] R W :=
  callK_of_body (g := F_ballot_Good) (fn := Try.f21) (args := [v0]) (R := R) (w := W) mixed CBok S.ballot_Good.fn S.ballot_Good.hint (by rw [S.ballot_Good.ok]; exact h)
/-! ### rostrum/ballot.rep (46) -/
def S.ballot_rep.body (R : Value → World → Prop) (v0 : Value) (W : World) : Prop :=
  okF (binP .geq v0 (.int .i64 0)) fun v4 =>
  gdK (wantd v4 true) (fun k W => k v0 W) (fun v6 W =>
  gdK (wantd v4 true) (fun k W => okF (binP .lss v6 (.int .i64 7)) fun v => k v W) (fun v7 W =>
  okF (pickP v4 v7 (.bool false)) fun v8 =>
  R v8 W) W) W
def S.ballot_rep.hint : Hint := (.two .nil (.two .nil .nil))
theorem S.ballot_rep.ok (R : Value → World → Prop) (v0 : Value) (W : World) : bodyK PR CB Try.f46 S.ballot_rep.hint [v0] R W = S.ballot_rep.body R v0 W := by kernel_rfl
theorem S.ballot_rep.fn : PR.funcs[F_ballot_rep]? = some Try.f46 := by kernel_rfl
theorem S.ballot_rep.call {R : Value → World → Prop} {v0 : Value} {W : World} (h : S.ballot_rep.body R v0 W) : callK PR F_ballot_rep [v0] R W :=
  callK_of_body (g := F_ballot_rep) (fn := Try.f46) (args := [v0]) (R := R) (w := W) mixed CBok S.ballot_rep.fn S.ballot_rep.hint (by rw [S.ballot_rep.ok]; exact h)
/-! ### rostrum/ballot.Cmp (19) -/
def S.ballot_Cmp.body (R : Value → World → Prop) (v0 v1 : Value) (W : World) : Prop :=
  efK PR (Instr.box T_ballot_Ballot v0) (fun v2 W =>
  efK PR (Instr.box T_ballot_Ballot v1) (fun v3 W =>
  okF (addrF 0 v2) fun v5 =>
  rdK PR (Instr.loadAt T_int64 v5) (fun v6 W =>
  okF (addrF 0 v3) fun v7 =>
  rdK PR (Instr.loadAt T_int64 v7) (fun v8 W =>
  okF (addrF 1 v2) fun v10 =>
  rdK PR (Instr.loadAt T_int v10) (fun v11 W =>
  okF (addrF 1 v3) fun v12 =>
  rdK PR (Instr.loadAt T_int v12) (fun v13 W =>
  callK PR F_cmp_Compare_int64 [v6, v8] (fun v9 W =>
  stb PR [(8, true, (Instr.loadAt T_int v12), v13), (6, true, (Instr.loadAt T_int v10), v11)] (fun W =>
  callK PR F_cmp_Compare_int [v11, v13] (fun v14 W =>
  efK PR (Instr.buildSlice T_s_int 2 #[(0, v9), (1, v14)]) (fun v15 W =>
  callK PR F_cmp_Or_int [v15] (fun v16 W =>
  R v16 W) W) W) W) W) W) W) W) W) (tick W)) W) W
def S.ballot_Cmp.hint : Hint := (.two .nil (.two .nil .nil))
theorem S.ballot_Cmp.ok (R : Value → World → Prop) (v0 v1 : Value) (W : World) : bodyK PR CB Try.f19 S.ballot_Cmp.hint [v0, v1] R W = S.ballot_Cmp.body R v0 v1 W := by kernel_rfl
theorem S.ballot_Cmp.fn : PR.funcs[F_ballot_Cmp]? = some Try.f19 := by kernel_rfl
theorem S.ballot_Cmp.call {R : Value → World → Prop} {v0 v1 : Value} {W : World} (h : S.ballot_Cmp.body R v0 v1 W) : callK PR F_ballot_Cmp [v0, v1] R W :=
  callK_of_body (g := F_ballot_Cmp) (fn := Try.f19) (args := [v0, v1]) (R := R) (w := W) mixed CBok S.ballot_Cmp.fn S.ballot_Cmp.hint (by rw [S.ballot_Cmp.ok]; exact h)
/-! ### rostrum/ballot.Most (20) -/
def S.ballot_Most.j1 (R : Value → World → Prop) (x2 x3 : Value) (W : World) : Prop :=
  rdK PR (Instr.loadAt T_ballot_Ballot x3) (fun v25 W =>
  efK PR (Instr.storeAt T_ballot_Ballot x2 v25) (fun _ W =>
  rdK PR (Instr.loadAt T_ballot_Ballot x2) (fun r0 W =>
  R r0 W) W) W) W
def S.ballot_Most.j2 (K1 : List Value → World → Prop) (x2 x3 x13 x14 x15 : Value) (W : World) : Prop :=
  okF (binP .add x15 (.int .i64 1)) fun v24 =>
  K1 [x2, x3, x13, x14, v24] W
def S.ballot_Most.l1 (J1 : List Value → World → Prop) (K1 : List Value → World → Prop) (x2 x3 x13 x14 x15 : Value) (W : World) : Prop :=
  okF (binP .lss x15 x14) fun v16 =>
  ifK v16 (
  joinK (fun s W => S.ballot_Most.j2 K1 (nthv s 0) (nthv s 1) (nthv s 2) (nthv s 3) (nthv s 4) W) (fun J2 =>
  okF (idxS 2 x13 x15) fun v17 =>
  rdK PR (Instr.loadAt T_ballot_Ballot v17) (fun v18 W =>
  efK PR (Instr.alloc T_ballot_Ballot true (.tuple #[])) (fun v5 W =>
  efK PR (Instr.storeAt T_ballot_Ballot v5 v18) (fun _ W =>
  rdK PR (Instr.loadAt T_ballot_Ballot v5) (fun v19 W =>
  rdK PR (Instr.loadAt T_ballot_Ballot x3) (fun v20 W =>
  callK PR F_ballot_Cmp [v19, v20] (fun v21 W =>
  okF (binP .gtr v21 (.int .i64 0)) fun v22 =>
  ifK v22 (
  rdK PR (Instr.loadAt T_ballot_Ballot v5) (fun v23 W =>
  efK PR (Instr.storeAt T_ballot_Ballot x3 v23) (fun _ W =>
  J2 [x2, x3, x13, x14, x15] W) W) W) (
  J2 [x2, x3, x13, x14, x15] W)) W) W) W) W) W) W)) (
  J1 [x2, x3] W)
def S.ballot_Most.body (R : Value → World → Prop) (v0 : Value) (W : World) : Prop :=
  efK PR (Instr.alloc T_ballot_Ballot true (.tuple #[])) (fun v2 W =>
  okF (lenP (.slice T_ballot_Ballot) v0) fun v7 =>
  okF (binP .eql v7 (.int .i64 0)) fun v8 =>
  ifK v8 (
  okF (bldP (fun i => ([(0, 1), (1, 1)] : List (Nat × Nat))[i]?) [.int .i64 0, .int .i64 0] []) fun v9 =>
  efK PR (Instr.storeAt T_ballot_Ballot v2 v9) (fun _ W =>
  rdK PR (Instr.loadAt T_ballot_Ballot v2) (fun r0 W =>
  R r0 W) W) W) (
  okF (idxS 2 v0 (.int .i64 0)) fun v11 =>
  rdK PR (Instr.loadAt T_ballot_Ballot v11) (fun v12 W =>
  efK PR (Instr.alloc T_ballot_Ballot true (.tuple #[])) (fun v3 W =>
  efK PR (Instr.storeAt T_ballot_Ballot v3 v12) (fun _ W =>
  joinK (fun s W => S.ballot_Most.j1 R (nthv s 0) (nthv s 1) W) (fun J1 =>
  okF (lenP (.slice T_ballot_Ballot) v0) fun v14 =>
  loopK (fun K1 s W => S.ballot_Most.l1 J1 K1 (nthv s 0) (nthv s 1) (nthv s 2) (nthv s 3) (nthv s 4) W) [v2, v3, v0, v14, (.int .i64 0)] W)) W) W) W)) W
def S.ballot_Most.hint : Hint := (.two .nil (.two (.two .nil (.two (.two .nil .nil) .nil)) (.two .nil (.at [2, 3] (.two .nil (.at [2, 3, 13, 14, 15] (.two .nil (.two (.two .nil .nil) (.at [2, 3, 13, 14, 15] (.two .nil (.two .nil (.two .nil .nil))) .nil))) .nil)) (.two .nil .nil)))))
theorem S.ballot_Most.ok (R : Value → World → Prop) (v0 : Value) (W : World) : bodyK PR CB Try.f20 S.ballot_Most.hint [v0] R W = S.ballot_Most.body R v0 W := by kernel_rfl
theorem S.ballot_Most.fn : PR.funcs[F_ballot_Most]? = some Try.f20 := by kernel_rfl
theorem S.ballot_Most.call {R : Value → World → Prop} {v0 : Value} {W : World} (h : S.ballot_Most.body R v0 W) : callK PR F_ballot_Most [v0] R W :=
  callK_of_body (g := F_ballot_Most) (fn := Try.f20) (args := [v0]) (R := R) (w := W) mixed CBok S.ballot_Most.fn S.ballot_Most.hint (by rw [S.ballot_Most.ok]; exact h)
/-! ### rostrum/ballot.Put (22) -/
def S.ballot_Put.body (R : Value → World → Prop) (v0 v1 : Value) (W : World) : Prop :=
  efK PR (Instr.box T_ballot_Ballot v1) (fun v3 W =>
  okF (addrF 0 v3) fun v6 =>
  rdK PR (Instr.loadAt T_int64 v6) (fun v7 W =>
  okF (addrF 1 v3) fun v9 =>
  rdK PR (Instr.loadAt T_int v9) (fun v10 W =>
  callK PR F_pack_Num [v0, v7] (fun v8 W =>
  stb PR [(5, true, (Instr.loadAt T_int v9), v10)] (fun W =>
  callK PR F_pack_Num [v8, v10] (fun v11 W =>
  R v11 W) W) W) W) W) (tick W)) W
def S.ballot_Put.hint : Hint := (.two .nil (.two .nil .nil))
theorem S.ballot_Put.ok (R : Value → World → Prop) (v0 v1 : Value) (W : World) : bodyK PR CB Try.f22 S.ballot_Put.hint [v0, v1] R W = S.ballot_Put.body R v0 v1 W := by kernel_rfl
theorem S.ballot_Put.fn : PR.funcs[F_ballot_Put]? = some Try.f22 := by kernel_rfl
theorem S.ballot_Put.call {R : Value → World → Prop} {v0 v1 : Value} {W : World} (h : S.ballot_Put.body R v0 v1 W) : callK PR F_ballot_Put [v0, v1] R W :=
  callK_of_body (g := F_ballot_Put) (fn := Try.f22) (args := [v0, v1]) (R := R) (w := W) mixed CBok S.ballot_Put.fn S.ballot_Put.hint (by rw [S.ballot_Put.ok]; exact h)
/-! ### rostrum/ballot.Get (24) -/
def S.ballot_Get.body (R : Value → World → Prop) (v0 : Value) (W : World) : Prop :=
  efK PR (Instr.alloc T_ballot_Ballot true (.tuple #[])) (fun v2 W =>
  callK PR F_pack_Reader_Num [v0, (.int .i64 0), (.int .i64 1099511627776)] (fun v6 W =>
  callK PR F_pack_Reader_Num [v0, (.int .i64 0), (.int .i64 6)] (fun v8 W =>
  callK PR F_pack_Reader_Bad [v0] (fun v10 W =>
  ifK v10 (
  okF (bldP (fun i => ([(0, 1), (1, 1)] : List (Nat × Nat))[i]?) [.int .i64 0, .int .i64 0] []) fun v11 =>
  efK PR (Instr.storeAt T_ballot_Ballot v2 v11) (fun _ W =>
  rdK PR (Instr.loadAt T_ballot_Ballot v2) (fun r0 W =>
  R r0 W) W) W) (
  okF (bldP (fun i => ([(0, 1), (1, 1)] : List (Nat × Nat))[i]?) [.int .i64 0, .int .i64 0] [(0, v6), (1, v8)]) fun v14 =>
  efK PR (Instr.storeAt T_ballot_Ballot v2 v14) (fun _ W =>
  rdK PR (Instr.loadAt T_ballot_Ballot v2) (fun r0 W =>
  R r0 W) W) W)) W) W) W) W
def S.ballot_Get.hint : Hint := (.two .nil (.two .nil (.two .nil (.two (.two .nil (.two (.two .nil .nil) .nil)) (.two .nil .nil)))))
theorem S.ballot_Get.ok (R : Value → World → Prop) (v0 : Value) (W : World) : bodyK PR CB Try.f24 S.ballot_Get.hint [v0] R W = S.ballot_Get.body R v0 W := by kernel_rfl
theorem S.ballot_Get.fn : PR.funcs[F_ballot_Get]? = some Try.f24 := by kernel_rfl
theorem S.ballot_Get.call {R : Value → World → Prop} {v0 : Value} {W : World} (h : S.ballot_Get.body R v0 W) : callK PR F_ballot_Get [v0] R W :=
  callK_of_body (g := F_ballot_Get) (fn := Try.f24) (args := [v0]) (R := R) (w := W) mixed CBok S.ballot_Get.fn S.ballot_Get.hint (by rw [S.ballot_Get.ok]; exact h)
/-! ### rostrum/ballot.Next (26) -/
def S.ballot_Next.body (R : Value → World → Prop) (v0 v1 : Value) (W : World) : Prop :=
  efK PR (Instr.box T_ballot_Ballot v0) (fun v2 W =>
  efK PR (Instr.alloc T_ballot_Ballot true (.tuple #[])) (fun v4 W =>
  rdK PR (Instr.loadAt T_ballot_Ballot v2) (fun v7 W =>
  callK PR F_ballot_Good [v7] (fun v8 W =>
  okF (unP .not v8) fun v9 =>
  gdK (wantd v9 false) (fun k W => k v1 W) (fun v11 W =>
  gdK (wantd v9 false) (fun k W => callK PR F_ballot_rep [v11] k W) (fun v12 W =>
  gdK (wantd v9 false) (fun k W => okF (unP .not v12) fun v => k v W) (fun v13 W =>
  okF (pickP v9 (.bool true) v13) fun v14 =>
  ifK v14 (
  okF (bldP (fun i => ([(0, 1), (1, 1)] : List (Nat × Nat))[i]?) [.int .i64 0, .int .i64 0] []) fun v15 =>
  efK PR (Instr.storeAt T_ballot_Ballot v4 v15) (fun _ W =>
  rdK PR (Instr.loadAt T_ballot_Ballot v4) (fun r0 W =>
  R (.tuple #[r0, (.int .i64 1)]) W) W) W) (
  okF (addrF 0 v2) fun v17 =>
  rdK PR (Instr.loadAt T_int64 v17) (fun v18 W =>
  okF (binP .eql v18 (.int .i64 1099511627776)) fun v19 =>
  ifK v19 (
  okF (bldP (fun i => ([(0, 1), (1, 1)] : List (Nat × Nat))[i]?) [.int .i64 0, .int .i64 0] []) fun v20 =>
  efK PR (Instr.storeAt T_ballot_Ballot v4 v20) (fun _ W =>
  rdK PR (Instr.loadAt T_ballot_Ballot v4) (fun r0 W =>
  R (.tuple #[r0, (.int .i64 2)]) W) W) W) (
  okF (addrF 0 v2) fun v21 =>
  rdK PR (Instr.loadAt T_int64 v21) (fun v22 W =>
  okF (binP .add v22 (.int .i64 1)) fun v23 =>
  okF (bldP (fun i => ([(0, 1), (1, 1)] : List (Nat × Nat))[i]?) [.int .i64 0, .int .i64 0] [(0, v23), (1, v1)]) fun v25 =>
  efK PR (Instr.storeAt T_ballot_Ballot v4 v25) (fun _ W =>
  rdK PR (Instr.loadAt T_ballot_Ballot v4) (fun r0 W =>
  R (.tuple #[r0, (.int .i64 0)]) W) W) W) W)) W)) W) W) W) W) W) W) W
def S.ballot_Next.hint : Hint := (.two .nil (.two (.two .nil (.two (.two .nil .nil) (.two .nil (.two (.two .nil .nil) .nil)))) (.two .nil .nil)))
theorem S.ballot_Next.ok (R : Value → World → Prop) (v0 v1 : Value) (W : World) : bodyK PR CB Try.f26 S.ballot_Next.hint [v0, v1] R W = S.ballot_Next.body R v0 v1 W := by kernel_rfl
theorem S.ballot_Next.fn : PR.funcs[F_ballot_Next]? = some Try.f26 := by kernel_rfl
theorem S.ballot_Next.call {R : Value → World → Prop} {v0 v1 : Value} {W : World} (h : S.ballot_Next.body R v0 v1 W) : callK PR F_ballot_Next [v0, v1] R W :=
  callK_of_body (g := F_ballot_Next) (fn := Try.f26) (args := [v0, v1]) (R := R) (w := W) mixed CBok S.ballot_Next.fn S.ballot_Next.hint (by rw [S.ballot_Next.ok]; exact h)
/-! ### rostrum/ballot.First (44) -/
def S.ballot_First.body (R : Value → World → Prop) (v0 : Value) (W : World) : Prop :=
  efK PR (Instr.alloc T_ballot_Ballot true (.tuple #[])) (fun v2 W =>
  okF (bldP (fun i => ([(0, 1), (1, 1)] : List (Nat × Nat))[i]?) [.int .i64 0, .int .i64 0] [(1, v0)]) fun v4 =>
  efK PR (Instr.storeAt T_ballot_Ballot v2 v4) (fun _ W =>
  rdK PR (Instr.loadAt T_ballot_Ballot v2) (fun r0 W =>
  R r0 W) W) W) W
def S.ballot_First.hint : Hint := (.two .nil (.two .nil .nil))
theorem S.ballot_First.ok (R : Value → World → Prop) (v0 : Value) (W : World) : bodyK PR CB Try.f44 S.ballot_First.hint [v0] R W = S.ballot_First.body R v0 W := by kernel_rfl
theorem S.ballot_First.fn : PR.funcs[F_ballot_First]? = some Try.f44 := by kernel_rfl
theorem S.ballot_First.call {R : Value → World → Prop} {v0 : Value} {W : World} (h : S.ballot_First.body R v0 W) : callK PR F_ballot_First [v0] R W :=
  callK_of_body (g := F_ballot_First) (fn := Try.f44) (args := [v0]) (R := R) (w := W) mixed CBok S.ballot_First.fn S.ballot_First.hint (by rw [S.ballot_First.ok]; exact h)
/-! ### rostrum/rostrumlaw19.own (28) -/
def S.rostrumlaw19_own.body (R : Value → World → Prop) (v0 : Value) (W : World) : Prop :=
  efK PR (Instr.box T_ballot_Ballot v0) (fun v1 W =>
  efK PR (Instr.alloc T_rostrumref18_Ballot true (.tuple #[])) (fun v2 W =>
  okF (addrF 0 v1) fun v3 =>
  rdK PR (Instr.loadAt T_int64 v3) (fun v4 W =>
  okF (addrF 1 v1) fun v5 =>
  rdK PR (Instr.loadAt T_int v5) (fun v6 W =>
  okF (bldP (fun i => ([(0, 1), (1, 1)] : List (Nat × Nat))[i]?) [.int .i64 0, .int .i64 0] [(0, v4), (1, v6)]) fun v7 =>
  efK PR (Instr.storeAt T_rostrumref18_Ballot v2 v7) (fun _ W =>
  rdK PR (Instr.loadAt T_rostrumref18_Ballot v2) (fun r0 W =>
  R r0 W) W) W) W) W) W) W
def S.rostrumlaw19_own.hint : Hint := (.two .nil (.two .nil .nil))
theorem S.rostrumlaw19_own.ok (R : Value → World → Prop) (v0 : Value) (W : World) : bodyK PR CB Try.f28 S.rostrumlaw19_own.hint [v0] R W = S.rostrumlaw19_own.body R v0 W := by kernel_rfl
theorem S.rostrumlaw19_own.fn : PR.funcs[F_rostrumlaw19_own]? = some Try.f28 := by kernel_rfl
theorem S.rostrumlaw19_own.call {R : Value → World → Prop} {v0 : Value} {W : World} (h : S.rostrumlaw19_own.body R v0 W) : callK PR F_rostrumlaw19_own [v0] R W :=
  callK_of_body (g := F_rostrumlaw19_own) (fn := Try.f28) (args := [v0]) (R := R) (w := W) mixed CBok S.rostrumlaw19_own.fn S.rostrumlaw19_own.hint (by rw [S.rostrumlaw19_own.ok]; exact h)
/-! ### rostrum/rostrumlaw19.awake (18) -/
def S.rostrumlaw19_awake.body (R : Value → World → Prop) (W : World) : Prop :=
  okF (bldP (fun i => ([(0, 1), (1, 1)] : List (Nat × Nat))[i]?) [.int .i64 0, .int .i64 0] []) fun v4 =>
  callK PR F_ballot_Next [v4, (.int .i64 2)] (fun v5 W =>
  okF (extP 0 v5) fun v6 =>
  okF (extP 1 v5) fun v7 =>
  efK PR (Instr.alloc T_ballot_Ballot true (.tuple #[])) (fun v1 W =>
  efK PR (Instr.storeAt T_ballot_Ballot v1 v6) (fun _ W =>
  okF (binP .eql v7 (.int .i64 0)) fun v9 =>
  gdK (wantd v9 true) (fun k W => rdK PR (Instr.loadAt T_ballot_Ballot v1) k W) (fun v11 W =>
  gdK (wantd v9 true) (fun k W => okF (bldP (fun i => ([(0, 1), (1, 1)] : List (Nat × Nat))[i]?) [.int .i64 0, .int .i64 0] [(0, (.int .i64 1)), (1, (.int .i64 2))]) fun v => k v W) (fun v12 W =>
  gdK (wantd v9 true) (fun k W => rdK PR (aggEq .eql T_ballot_Ballot v11 v12) k W) (fun v13 W =>
  okF (pickP v9 v13 (.bool false)) fun v14 =>
  gdK (wantd v14 true) (fun k W => rdK PR (Instr.loadAt T_ballot_Ballot v1) k W) (fun v16 W =>
  gdK (wantd v14 true) (fun k W => callK PR F_ballot_First [(.int .i64 6)] (fun v W => stb PR [(8, (wantd v14 true), (Instr.loadAt T_ballot_Ballot v1), v16)] (fun W => k v W) W) W) (fun v17 W =>
  gdK (wantd v14 true) (fun k W => callK PR F_ballot_Cmp [v16, v17] k W) (fun v18 W =>
  gdK (wantd v14 true) (fun k W => okF (binP .eql v18 (.int .i64 1)) fun v => k v W) (fun v19 W =>
  okF (pickP v14 v19 (.bool false)) fun v20 =>
  gdK (wantd v20 true) (fun k W => okF (bldP (fun i => ([(0, 1), (1, 1)] : List (Nat × Nat))[i]?) [.int .i64 0, .int .i64 0] [(1, (.int .i64 6))]) fun v => k v W) (fun v23 W =>
  gdK (wantd v20 true) (fun k W => callK PR F_ballot_First [(.int .i64 6)] k W) (fun v22 W =>
  gdK (wantd v20 true) (fun k W => rdK PR (aggEq .eql T_ballot_Ballot v22 v23) k W) (fun v24 W =>
  okF (pickP v20 v24 (.bool false)) fun v25 =>
  R v25 W) W) W) W) W) W) W) W) W) W) (tick W)) W) W) W
def S.rostrumlaw19_awake.hint : Hint := (.two .nil (.two .nil (.two .nil .nil)))
theorem S.rostrumlaw19_awake.ok (R : Value → World → Prop) (W : World) : bodyK PR CB Try.f18 S.rostrumlaw19_awake.hint [] R W = S.rostrumlaw19_awake.body R  W := by kernel_rfl
theorem S.rostrumlaw19_awake.fn : PR.funcs[F_rostrumlaw19_awake]? = some Try.f18 := by kernel_rfl
theorem S.rostrumlaw19_awake.call {R : Value → World → Prop} {W : World} (h : S.rostrumlaw19_awake.body R  W) : callK PR F_rostrumlaw19_awake [] R W :=
  callK_of_body (g := F_rostrumlaw19_awake) (fn := Try.f18) (args := []) (R := R) (w := W) mixed CBok S.rostrumlaw19_awake.fn S.rostrumlaw19_awake.hint (by rw [S.rostrumlaw19_awake.ok]; exact h)
/-! ### rostrum/rostrumref18.GoodBallot (29) -/
def S.rostrumref18_GoodBallot.body (R : Value → World → Prop) (v0 : Value) (W : World) : Prop :=
  efK PR (Instr.box T_rostrumref18_Ballot v0) (fun v1 W =>
  okF (addrF 0 v1) fun v3 =>
  rdK PR (Instr.loadAt T_int64 v3) (fun v4 W =>
  okF (binP .geq v4 (.int .i64 0)) fun v5 =>
  gdK (wantd v5 true) (fun k W => okF (addrF 0 v1) fun v => k v W) (fun v7 W =>
  gdK (wantd v5 true) (fun k W => rdK PR (Instr.loadAt T_int64 v7) k W) (fun v8 W =>
  gdK (wantd v5 true) (fun k W => okF (binP .leq v8 (.int .i64 1099511627776)) fun v => k v W) (fun v9 W =>
  okF (pickP v5 v9 (.bool false)) fun v10 =>
  gdK (wantd v10 true) (fun k W => okF (addrF 1 v1) fun v => k v W) (fun v12 W =>
  gdK (wantd v10 true) (fun k W => rdK PR (Instr.loadAt T_int v12) k W) (fun v13 W =>
  gdK (wantd v10 true) (fun k W => okF (binP .geq v13 (.int .i64 0)) fun v => k v W) (fun v14 W =>
  okF (pickP v10 v14 (.bool false)) fun v15 =>
  gdK (wantd v15 true) (fun k W => okF (addrF 1 v1) fun v => k v W) (fun v17 W =>
  gdK (wantd v15 true) (fun k W => rdK PR (Instr.loadAt T_int v17) k W) (fun v18 W =>
  gdK (wantd v15 true) (fun k W => okF (binP .leq v18 (.int .i64 6)) fun v => k v W) (fun v19 W =>
  okF (pickP v15 v19 (.bool false)) fun v20 =>
  R v20 W) W) W) W) W) W) W) W) W) W) W) W
def S.rostrumref18_GoodBallot.hint : Hint := (.two .nil (.two .nil .nil))
theorem S.rostrumref18_GoodBallot.ok (R : Value → World → Prop) (v0 : Value) (W : World) : bodyK PR CB Try.f29 S.rostrumref18_GoodBallot.hint [v0] R W = S.rostrumref18_GoodBallot.body R v0 W := by kernel_rfl
theorem S.rostrumref18_GoodBallot.fn : PR.funcs[F_rostrumref18_GoodBallot]? = some Try.f29 := by kernel_rfl
theorem S.rostrumref18_GoodBallot.call {R : Value → World → Prop} {v0 : Value} {W : World} (h : S.rostrumref18_GoodBallot.body R v0 W) : callK PR F_rostrumref18_GoodBallot [v0] R W :=
  callK_of_body (g := F_rostrumref18_GoodBallot) (fn := Try.f29) (args := [v0]) (R := R) (w := W) mixed CBok S.rostrumref18_GoodBallot.fn S.rostrumref18_GoodBallot.hint (by rw [S.rostrumref18_GoodBallot.ok]; exact h)
/-! ### rostrum/rostrumref18.GetBallot (30) -/
def S.rostrumref18_GetBallot.body (R : Value → World → Prop) (v0 : Value) (W : World) : Prop :=
  efK PR (Instr.alloc T_rostrumref18_Ballot true (.tuple #[])) (fun v2 W =>
  callK PR F_rostrumref1_Reader_Num [v0, (.int .i64 0), (.int .i64 1099511627776)] (fun v5 W =>
  okF (bldP (fun i => ([(0, 1), (1, 1)] : List (Nat × Nat))[i]?) [.int .i64 0, .int .i64 0] [(0, v5)]) fun v6 =>
  efK PR (Instr.alloc T_rostrumref18_Ballot true (.tuple #[])) (fun v3 W =>
  efK PR (Instr.storeAt T_rostrumref18_Ballot v3 v6) (fun _ W =>
  callK PR F_rostrumref1_Reader_Num [v0, (.int .i64 0), (.int .i64 6)] (fun v8 W =>
  okF (addrF 1 v3) fun v9 =>
  efK PR (Instr.storeAt T_int v9 v8) (fun _ W =>
  okF (nilP v0) fun v11 =>
  okF (addrF 2 v11) fun v12 =>
  rdK PR (Instr.loadAt T_bool v12) (fun v13 W =>
  ifK v13 (
  okF (bldP (fun i => ([(0, 1), (1, 1)] : List (Nat × Nat))[i]?) [.int .i64 0, .int .i64 0] []) fun v14 =>
  efK PR (Instr.storeAt T_rostrumref18_Ballot v2 v14) (fun _ W =>
  rdK PR (Instr.loadAt T_rostrumref18_Ballot v2) (fun r0 W =>
  R r0 W) W) W) (
  rdK PR (Instr.loadAt T_rostrumref18_Ballot v3) (fun v15 W =>
  efK PR (Instr.storeAt T_rostrumref18_Ballot v2 v15) (fun _ W =>
  rdK PR (Instr.loadAt T_rostrumref18_Ballot v2) (fun r0 W =>
  R r0 W) W) W) W)) W) W) W) W) W) W) W
def S.rostrumref18_GetBallot.hint : Hint := (.two .nil (.two .nil (.two .nil (.two (.two .nil (.two (.two .nil .nil) .nil)) (.two .nil .nil)))))
theorem S.rostrumref18_GetBallot.ok (R : Value → World → Prop) (v0 : Value) (W : World) : bodyK PR CB Try.f30 S.rostrumref18_GetBallot.hint [v0] R W = S.rostrumref18_GetBallot.body R v0 W := by kernel_rfl
theorem S.rostrumref18_GetBallot.fn : PR.funcs[F_rostrumref18_GetBallot]? = some Try.f30 := by kernel_rfl
theorem S.rostrumref18_GetBallot.call {R : Value → World → Prop} {v0 : Value} {W : World} (h : S.rostrumref18_GetBallot.body R v0 W) : callK PR F_rostrumref18_GetBallot [v0] R W :=
  callK_of_body (g := F_rostrumref18_GetBallot) (fn := Try.f30) (args := [v0]) (R := R) (w := W) mixed CBok S.rostrumref18_GetBallot.fn S.rostrumref18_GetBallot.hint (by rw [S.rostrumref18_GetBallot.ok]; exact h)
/-! ### rostrum/rostrumref18.PutBallot (32) -/
def S.rostrumref18_PutBallot.body (R : Value → World → Prop) (v0 v1 : Value) (W : World) : Prop :=
  efK PR (Instr.box T_rostrumref18_Ballot v1) (fun v3 W =>
  okF (addrF 0 v3) fun v6 =>
  rdK PR (Instr.loadAt T_int64 v6) (fun v7 W =>
  okF (addrF 1 v3) fun v9 =>
  rdK PR (Instr.loadAt T_int v9) (fun v10 W =>
  callK PR F_rostrumref1_Num [v0, v7] (fun v8 W =>
  stb PR [(5, true, (Instr.loadAt T_int v9), v10)] (fun W =>
  callK PR F_rostrumref1_Num [v8, v10] (fun v11 W =>
  R v11 W) W) W) W) W) (tick W)) W
def S.rostrumref18_PutBallot.hint : Hint := (.two .nil (.two .nil .nil))
theorem S.rostrumref18_PutBallot.ok (R : Value → World → Prop) (v0 v1 : Value) (W : World) : bodyK PR CB Try.f32 S.rostrumref18_PutBallot.hint [v0, v1] R W = S.rostrumref18_PutBallot.body R v0 v1 W := by kernel_rfl
theorem S.rostrumref18_PutBallot.fn : PR.funcs[F_rostrumref18_PutBallot]? = some Try.f32 := by kernel_rfl
theorem S.rostrumref18_PutBallot.call {R : Value → World → Prop} {v0 v1 : Value} {W : World} (h : S.rostrumref18_PutBallot.body R v0 v1 W) : callK PR F_rostrumref18_PutBallot [v0, v1] R W :=
  callK_of_body (g := F_rostrumref18_PutBallot) (fn := Try.f32) (args := [v0, v1]) (R := R) (w := W) mixed CBok S.rostrumref18_PutBallot.fn S.rostrumref18_PutBallot.hint (by rw [S.rostrumref18_PutBallot.ok]; exact h)
/-! ### rostrum/rostrumref18.Cmp (33) -/
def S.rostrumref18_Cmp.body (R : Value → World → Prop) (v0 v1 : Value) (W : World) : Prop :=
  efK PR (Instr.box T_rostrumref18_Ballot v0) (fun v2 W =>
  efK PR (Instr.box T_rostrumref18_Ballot v1) (fun v3 W =>
  rdK PR (Instr.loadAt T_rostrumref18_Ballot v2) (fun v5 W =>
  rdK PR (Instr.loadAt T_rostrumref18_Ballot v3) (fun v6 W =>
  rdK PR (aggEq .eql T_rostrumref18_Ballot v5 v6) (fun v7 W =>
  ifK v7 (
  R (.int .i64 0) W) (
  okF (addrF 0 v2) fun v8 =>
  rdK PR (Instr.loadAt T_int64 v8) (fun v9 W =>
  okF (addrF 0 v3) fun v10 =>
  rdK PR (Instr.loadAt T_int64 v10) (fun v11 W =>
  okF (binP .lss v9 v11) fun v12 =>
  gdK (wantd v12 false) (fun k W => okF (addrF 0 v2) fun v => k v W) (fun v14 W =>
  gdK (wantd v12 false) (fun k W => rdK PR (Instr.loadAt T_int64 v14) k W) (fun v15 W =>
  gdK (wantd v12 false) (fun k W => okF (addrF 0 v3) fun v => k v W) (fun v16 W =>
  gdK (wantd v12 false) (fun k W => rdK PR (Instr.loadAt T_int64 v16) k W) (fun v17 W =>
  gdK (wantd v12 false) (fun k W => okF (binP .eql v15 v17) fun v => k v W) (fun v18 W =>
  gdK (wantd v12 false) (fun k W => k v18 W) (fun v19 W =>
  gdK (wantd v19 true) (fun k W => okF (addrF 1 v2) fun v => k v W) (fun v20 W =>
  gdK (wantd v19 true) (fun k W => rdK PR (Instr.loadAt T_int v20) k W) (fun v21 W =>
  gdK (wantd v19 true) (fun k W => okF (addrF 1 v3) fun v => k v W) (fun v22 W =>
  gdK (wantd v19 true) (fun k W => rdK PR (Instr.loadAt T_int v22) k W) (fun v23 W =>
  gdK (wantd v19 true) (fun k W => okF (binP .lss v21 v23) fun v => k v W) (fun v24 W =>
  gdK (wantd v12 false) (fun k W => okF (pickP v19 v24 (.bool false)) fun v => k v W) (fun v25 W =>
  okF (pickP v12 (.bool true) v25) fun v26 =>
  ifK v26 (
  R (.int .i64 (-1)) W) (
  R (.int .i64 1) W)) W) W) W) W) W) W) W) W) W) W) W) W) W) W)) W) W) W) W) W
def S.rostrumref18_Cmp.hint : Hint := (.two .nil (.two (.two .nil (.two (.two .nil .nil) .nil)) (.two (.two .nil (.two (.two .nil .nil) .nil)) (.two .nil .nil))))
theorem S.rostrumref18_Cmp.ok (R : Value → World → Prop) (v0 v1 : Value) (W : World) : bodyK PR CB Try.f33 S.rostrumref18_Cmp.hint [v0, v1] R W = S.rostrumref18_Cmp.body R v0 v1 W := by kernel_rfl
theorem S.rostrumref18_Cmp.fn : PR.funcs[F_rostrumref18_Cmp]? = some Try.f33 := by kernel_rfl
theorem S.rostrumref18_Cmp.call {R : Value → World → Prop} {v0 v1 : Value} {W : World} (h : S.rostrumref18_Cmp.body R v0 v1 W) : callK PR F_rostrumref18_Cmp [v0, v1] R W :=
  callK_of_body (g := F_rostrumref18_Cmp) (fn := Try.f33) (args := [v0, v1]) (R := R) (w := W) mixed CBok S.rostrumref18_Cmp.fn S.rostrumref18_Cmp.hint (by rw [S.rostrumref18_Cmp.ok]; exact h)
/-! ### rostrum/rostrumref18.Next (27) -/
def S.rostrumref18_Next.body (R : Value → World → Prop) (v0 v1 : Value) (W : World) : Prop :=
  efK PR (Instr.box T_rostrumref18_Ballot v0) (fun v2 W =>
  efK PR (Instr.alloc T_rostrumref18_Ballot true (.tuple #[])) (fun v4 W =>
  rdK PR (Instr.loadAt T_rostrumref18_Ballot v2) (fun v6 W =>
  callK PR F_rostrumref18_GoodBallot [v6] (fun v7 W =>
  okF (unP .not v7) fun v8 =>
  gdK (wantd v8 false) (fun k W => k v1 W) (fun v10 W =>
  gdK (wantd v8 false) (fun k W => okF (binP .lss v10 (.int .i64 0)) fun v => k v W) (fun v11 W =>
  okF (pickP v8 (.bool true) v11) fun v12 =>
  gdK (wantd v12 false) (fun k W => k v1 W) (fun v14 W =>
  gdK (wantd v12 false) (fun k W => okF (binP .gtr v14 (.int .i64 6)) fun v => k v W) (fun v15 W =>
  okF (pickP v12 (.bool true) v15) fun v16 =>
  ifK v16 (
  okF (bldP (fun i => ([(0, 1), (1, 1)] : List (Nat × Nat))[i]?) [.int .i64 0, .int .i64 0] []) fun v17 =>
  efK PR (Instr.storeAt T_rostrumref18_Ballot v4 v17) (fun _ W =>
  rdK PR (Instr.loadAt T_rostrumref18_Ballot v4) (fun r0 W =>
  R (.tuple #[r0, (.int .i64 1)]) W) W) W) (
  okF (addrF 0 v2) fun v18 =>
  rdK PR (Instr.loadAt T_int64 v18) (fun v19 W =>
  okF (binP .eql v19 (.int .i64 1099511627776)) fun v20 =>
  ifK v20 (
  okF (bldP (fun i => ([(0, 1), (1, 1)] : List (Nat × Nat))[i]?) [.int .i64 0, .int .i64 0] []) fun v21 =>
  efK PR (Instr.storeAt T_rostrumref18_Ballot v4 v21) (fun _ W =>
  rdK PR (Instr.loadAt T_rostrumref18_Ballot v4) (fun r0 W =>
  R (.tuple #[r0, (.int .i64 2)]) W) W) W) (
  okF (addrF 0 v2) fun v22 =>
  rdK PR (Instr.loadAt T_int64 v22) (fun v23 W =>
  okF (binP .add v23 (.int .i64 1)) fun v24 =>
  okF (bldP (fun i => ([(0, 1), (1, 1)] : List (Nat × Nat))[i]?) [.int .i64 0, .int .i64 0] [(0, v24), (1, v1)]) fun v26 =>
  efK PR (Instr.storeAt T_rostrumref18_Ballot v4 v26) (fun _ W =>
  rdK PR (Instr.loadAt T_rostrumref18_Ballot v4) (fun r0 W =>
  R (.tuple #[r0, (.int .i64 0)]) W) W) W) W)) W)) W) W) W) W) W) W) W) W
def S.rostrumref18_Next.hint : Hint := (.two .nil (.two (.two .nil (.two (.two .nil .nil) .nil)) (.two (.two .nil (.two (.two .nil .nil) .nil)) (.two .nil .nil))))
theorem S.rostrumref18_Next.ok (R : Value → World → Prop) (v0 v1 : Value) (W : World) : bodyK PR CB Try.f27 S.rostrumref18_Next.hint [v0, v1] R W = S.rostrumref18_Next.body R v0 v1 W := by kernel_rfl
theorem S.rostrumref18_Next.fn : PR.funcs[F_rostrumref18_Next]? = some Try.f27 := by kernel_rfl
theorem S.rostrumref18_Next.call {R : Value → World → Prop} {v0 v1 : Value} {W : World} (h : S.rostrumref18_Next.body R v0 v1 W) : callK PR F_rostrumref18_Next [v0, v1] R W :=
  callK_of_body (g := F_rostrumref18_Next) (fn := Try.f27) (args := [v0, v1]) (R := R) (w := W) mixed CBok S.rostrumref18_Next.fn S.rostrumref18_Next.hint (by rw [S.rostrumref18_Next.ok]; exact h)
/-! ### rostrum/rostrumlaw19.BallotOrder (5) -/
def S.rostrumlaw19_BallotOrder.body (R : Value → World → Prop) (v0 v1 v2 : Value) (W : World) : Prop :=
  efK PR (Instr.box T_ballot_Ballot v0) (fun v3 W =>
  efK PR (Instr.box T_ballot_Ballot v1) (fun v4 W =>
  efK PR (Instr.box T_ballot_Ballot v2) (fun v5 W =>
  callK PR F_rostrumlaw19_awake [] (fun v9 W =>
  okF (unP .not v9) fun v10 =>
  ifK v10 (
  R (.bool false) W) (
  rdK PR (Instr.loadAt T_ballot_Ballot v3) (fun v11 W =>
  rdK PR (Instr.loadAt T_ballot_Ballot v4) (fun v12 W =>
  rdK PR (Instr.loadAt T_ballot_Ballot v4) (fun v14 W =>
  rdK PR (Instr.loadAt T_ballot_Ballot v5) (fun v15 W =>
  callK PR F_ballot_Cmp [v11, v12] (fun v13 W =>
  stb PR [(4, true, (Instr.loadAt T_ballot_Ballot v5), v15), (3, true, (Instr.loadAt T_ballot_Ballot v4), v14)] (fun W =>
  callK PR F_ballot_Cmp [v14, v15] (fun v16 W =>
  rdK PR (Instr.loadAt T_ballot_Ballot v4) (fun v18 W =>
  rdK PR (Instr.loadAt T_ballot_Ballot v3) (fun v19 W =>
  callK PR F_ballot_Cmp [v18, v19] (fun v20 W =>
  okF (unP .neg v20) fun v21 =>
  okF (binP .eql v13 v21) fun v22 =>
  gdK (wantd v22 true) (fun k W => k v13 W) (fun v24 W =>
  gdK (wantd v22 true) (fun k W => okF (binP .eql v24 (.int .i64 0)) fun v => k v W) (fun v25 W =>
  gdK (wantd v22 true) (fun k W => rdK PR (Instr.loadAt T_ballot_Ballot v3) k W) (fun v26 W =>
  gdK (wantd v22 true) (fun k W => rdK PR (Instr.loadAt T_ballot_Ballot v4) k W) (fun v27 W =>
  gdK (wantd v22 true) (fun k W => rdK PR (aggEq .eql T_ballot_Ballot v26 v27) k W) (fun v28 W =>
  gdK (wantd v22 true) (fun k W => okF (eqP .bool .eql v25 v28) fun v => k v W) (fun v29 W =>
  okF (pickP v22 v29 (.bool false)) fun v30 =>
  gdK (wantd v30 true) (fun k W => k v13 W) (fun v32 W =>
  gdK (wantd v30 true) (fun k W => okF (binP .gtr v32 (.int .i64 0)) fun v => k v W) (fun v33 W =>
  gdK (wantd v30 true) (fun k W => k v33 W) (fun v34 W =>
  gdK (wantd v34 false) (fun k W => k v16 W) (fun v35 W =>
  gdK (wantd v34 false) (fun k W => okF (binP .gtr v35 (.int .i64 0)) fun v => k v W) (fun v36 W =>
  gdK (wantd v30 true) (fun k W => okF (pickP v34 (.bool true) v36) fun v => k v W) (fun v37 W =>
  gdK (wantd v30 true) (fun k W => k v37 W) (fun v38 W =>
  gdK (wantd v38 false) (fun k W => rdK PR (Instr.loadAt T_ballot_Ballot v3) k W) (fun v39 W =>
  gdK (wantd v38 false) (fun k W => rdK PR (Instr.loadAt T_ballot_Ballot v5) k W) (fun v40 W =>
  gdK (wantd v38 false) (fun k W => callK PR F_ballot_Cmp [v39, v40] k W) (fun v41 W =>
  gdK (wantd v38 false) (fun k W => okF (binP .leq v41 (.int .i64 0)) fun v => k v W) (fun v42 W =>
  gdK (wantd v30 true) (fun k W => okF (pickP v38 (.bool true) v42) fun v => k v W) (fun v43 W =>
  okF (pickP v30 v43 (.bool false)) fun v44 =>
  gdK (wantd v44 true) (fun k W => rdK PR (Instr.loadAt T_ballot_Ballot v3) k W) (fun v46 W =>
  gdK (wantd v44 true) (fun k W => rdK PR (Instr.loadAt T_ballot_Ballot v4) k W) (fun v47 W =>
  gdK (wantd v44 true) (fun k W => rdK PR (Instr.loadAt T_ballot_Ballot v5) k W) (fun v48 W =>
  gdK (wantd v44 true) (fun k W => rdK PR (Instr.loadAt T_ballot_Ballot v5) k W) (fun v51 W =>
  gdK (wantd v44 true) (fun k W => rdK PR (Instr.loadAt T_ballot_Ballot v4) k W) (fun v52 W =>
  gdK (wantd v44 true) (fun k W => rdK PR (Instr.loadAt T_ballot_Ballot v3) k W) (fun v53 W =>
  (gdK (wantd v44 true) (fun k W => efK PR (Instr.buildSlice T_s_ballot_Ballot 3 #[(0, v46), (1, v47), (2, v48)]) (fun v W => stb PR [(36, (wantd v44 true), (Instr.loadAt T_ballot_Ballot v3), v53), (35, (wantd v44 true), (Instr.loadAt T_ballot_Ballot v4), v52), (34, (wantd v44 true), (Instr.loadAt T_ballot_Ballot v5), v51)] (fun W => k v W) W) W) (fun v49 W =>
  (gdK (wantd v44 true) (fun k W => callK PR F_ballot_Most [v49] (fun v W => stb PR [(36, (wantd v44 true), (Instr.loadAt T_ballot_Ballot v3), v53), (35, (wantd v44 true), (Instr.loadAt T_ballot_Ballot v4), v52), (34, (wantd v44 true), (Instr.loadAt T_ballot_Ballot v5), v51)] (fun W => k v W) W) W) (fun v50 W =>
  gdK (wantd v44 true) (fun k W => efK PR (Instr.buildSlice T_s_ballot_Ballot 3 #[(0, v51), (1, v52), (2, v53)]) k W) (fun v54 W =>
  gdK (wantd v44 true) (fun k W => callK PR F_ballot_Most [v54] k W) (fun v55 W =>
  gdK (wantd v44 true) (fun k W => rdK PR (aggEq .eql T_ballot_Ballot v50 v55) k W) (fun v56 W =>
  okF (pickP v44 v56 (.bool false)) fun v57 =>
  R v57 W) W) W) W) W) ∧ (gdK (wantd v44 true) (fun k W => efK PR (Instr.buildSlice T_s_ballot_Ballot 3 #[(0, v51), (1, v52), (2, v53)]) k W) (fun v54_1 W =>
  gdK (wantd v44 true) (fun k W => callK PR F_ballot_Most [v49] k W) (fun v50_1 W =>
  gdK (wantd v44 true) (fun k W => callK PR F_ballot_Most [v54_1] k W) (fun v55_1 W =>
  gdK (wantd v44 true) (fun k W => rdK PR (aggEq .eql T_ballot_Ballot v50_1 v55_1) k W) (fun v56_1 W =>
  okF (pickP v44 v56_1 (.bool false)) fun v57_1 =>
  R v57_1 W) W) W) W) W)) W) ∧ (gdK (wantd v44 true) (fun k W => efK PR (Instr.buildSlice T_s_ballot_Ballot 3 #[(0, v51), (1, v52), (2, v53)]) (fun v W => stb PR [(31, (wantd v44 true), (Instr.loadAt T_ballot_Ballot v5), v48), (30, (wantd v44 true), (Instr.loadAt T_ballot_Ballot v4), v47), (29, (wantd v44 true), (Instr.loadAt T_ballot_Ballot v3), v46)] (fun W => k v W) W) W) (fun v54_2 W =>
  gdK (wantd v44 true) (fun k W => efK PR (Instr.buildSlice T_s_ballot_Ballot 3 #[(0, v46), (1, v47), (2, v48)]) k W) (fun v49_1 W =>
  gdK (wantd v44 true) (fun k W => callK PR F_ballot_Most [v49_1] k W) (fun v50_2 W =>
  gdK (wantd v44 true) (fun k W => callK PR F_ballot_Most [v54_2] k W) (fun v55_2 W =>
  gdK (wantd v44 true) (fun k W => rdK PR (aggEq .eql T_ballot_Ballot v50_2 v55_2) k W) (fun v56_2 W =>
  okF (pickP v44 v56_2 (.bool false)) fun v57_2 =>
  R v57_2 W) W) W) W) W) W)) W) W) W) W) W) W) W) W) W) W) W) W) W) W) W) W) W) W) W) W) W) W) W) W) W) W) (tick W)) W) W) W) W) W) W) (tick W))) W) W) W) W
def S.rostrumlaw19_BallotOrder.hint : Hint := (.two .nil (.two (.two .nil (.two (.two .nil .nil) .nil)) (.two .nil (.two .nil .nil))))
theorem S.rostrumlaw19_BallotOrder.ok (R : Value → World → Prop) (v0 v1 v2 : Value) (W : World) : bodyK PR CB Try.f5 S.rostrumlaw19_BallotOrder.hint [v0, v1, v2] R W = S.rostrumlaw19_BallotOrder.body R v0 v1 v2 W := by kernel_rfl
theorem S.rostrumlaw19_BallotOrder.fn : PR.funcs[F_rostrumlaw19_BallotOrder]? = some Try.f5 := by kernel_rfl
theorem S.rostrumlaw19_BallotOrder.call {R : Value → World → Prop} {v0 v1 v2 : Value} {W : World} (h : S.rostrumlaw19_BallotOrder.body R v0 v1 v2 W) : callK PR F_rostrumlaw19_BallotOrder [v0, v1, v2] R W :=
  callK_of_body (g := F_rostrumlaw19_BallotOrder) (fn := Try.f5) (args := [v0, v1, v2]) (R := R) (w := W) mixed CBok S.rostrumlaw19_BallotOrder.fn S.rostrumlaw19_BallotOrder.hint (by rw [S.rostrumlaw19_BallotOrder.ok]; exact h)
/-! ### rostrum/rostrumlaw19.BallotBack (6) -/
def S.rostrumlaw19_BallotBack.j2 (R : Value → World → Prop) (x5 : Value) (W : World) : Prop :=
  okF (eqP (.pointer T_pack_Reader) .neq x5 (.pointer none)) fun v50 =>
  gdK (wantd v50 true) (fun k W => k x5 W) (fun v52 W =>
  gdK (wantd v50 true) (fun k W => callK PR F_pack_Reader_End [v52] k W) (fun v53 W =>
  okF (pickP v50 v53 (.bool false)) fun v54 =>
  R v54 W) W) W
def S.rostrumlaw19_BallotBack.l1 (R : Value → World → Prop) (J2 : List Value → World → Prop) (K1 : List Value → World → Prop) (x0 x5 x6 : Value) (W : World) : Prop :=
  okF (lenP (.slice T_ballot_Ballot) x0) fun v34 =>
  okF (binP .lss x6 v34) fun v35 =>
  ifK v35 (
  okF (eqP (.pointer T_pack_Reader) .eql x5 (.pointer none)) fun v39 =>
  gdK (wantd v39 false) (fun k W => k x5 W) (fun v41 W =>
  gdK (wantd v39 false) (fun k W => k x0 W) (fun v43 W =>
  gdK (wantd v39 false) (fun k W => k x6 W) (fun v44 W =>
  gdK (wantd v39 false) (fun k W => okF (idxS 2 v43 v44) fun v => k v W) (fun v45 W =>
  gdK (wantd v39 false) (fun k W => rdK PR (Instr.loadAt T_ballot_Ballot v45) k W) (fun v46 W =>
  gdK (wantd v39 false) (fun k W => callK PR F_ballot_Get [v41] (fun v W => stb PR [(8, (wantd v39 false), (Instr.loadAt T_ballot_Ballot v45), v46)] (fun W => k v W) W) W) (fun v42 W =>
  gdK (wantd v39 false) (fun k W => rdK PR (aggEq .neq T_ballot_Ballot v42 v46) k W) (fun v47 W =>
  okF (pickP v39 (.bool true) v47) fun v48 =>
  ifK v48 (
  R (.bool false) W) (
  okF (binP .add x6 (.int .i64 1)) fun v37 =>
  K1 [x0, x5, v37] W)) W) W) W) W) W) W) (tick W)) (
  J2 [x5] W)
def S.rostrumlaw19_BallotBack.j1 (R : Value → World → Prop) (x0 x3 : Value) (W : World) : Prop :=
  callK PR F_pack_Read [x3] (fun v31 W =>
  joinK (fun s W => S.rostrumlaw19_BallotBack.j2 R (nthv s 0) W) (fun J2 =>
  loopK (fun K1 s W => S.rostrumlaw19_BallotBack.l1 R J2 K1 (nthv s 0) (nthv s 1) (nthv s 2) W) [x0, v31, (.int .i64 0)] W)) W
def S.rostrumlaw19_BallotBack.l2 (R : Value → World → Prop) (J1 : List Value → World → Prop) (K2 : List Value → World → Prop) (x0 x3 x4 : Value) (W : World) : Prop :=
  okF (lenP (.slice T_ballot_Ballot) x0) fun v14 =>
  okF (binP .lss x4 v14) fun v15 =>
  ifK v15 (
  okF (idxS 2 x0 x4) fun v20 =>
  rdK PR (Instr.loadAt T_ballot_Ballot v20) (fun v21 W =>
  callK PR F_ballot_Good [v21] (fun v22 W =>
  okF (unP .not v22) fun v23 =>
  ifK v23 (
  R (.bool true) W) (
  okF (idxS 2 x0 x4) fun v27 =>
  rdK PR (Instr.loadAt T_ballot_Ballot v27) (fun v28 W =>
  callK PR F_ballot_Put [x3, v28] (fun v29 W =>
  okF (binP .add x4 (.int .i64 1)) fun v17 =>
  K2 [x0, v29, v17] W) W) W)) W) W) (
  J1 [x0, x3] W)
def S.rostrumlaw19_BallotBack.body (R : Value → World → Prop) (v0 : Value) (W : World) : Prop :=
  callK PR F_rostrumlaw19_awake [] (fun v7 W =>
  okF (unP .not v7) fun v8 =>
  ifK v8 (
  R (.bool false) W) (
  okF (lenP (.slice T_ballot_Ballot) v0) fun v10 =>
  okF (binP .gtr v10 (.int .i64 20)) fun v11 =>
  ifK v11 (
  R (.bool true) W) (
  joinK (fun s W => S.rostrumlaw19_BallotBack.j1 R (nthv s 0) (nthv s 1) W) (fun J1 =>
  loopK (fun K2 s W => S.rostrumlaw19_BallotBack.l2 R J1 K2 (nthv s 0) (nthv s 1) (nthv s 2) W) [v0, (.slice none 0 0), (.int .i64 0)] W)))) W
def S.rostrumlaw19_BallotBack.hint : Hint := (.two .nil (.two (.two .nil (.two (.two .nil .nil) .nil)) (.two (.two .nil (.two (.two .nil .nil) .nil)) (.two .nil (.at [0, 3] (.two .nil (.at [0, 3, 4] (.two (.two .nil (.two .nil .nil)) (.two (.two (.two .nil (.two (.two .nil .nil) .nil)) .nil) .nil)) .nil)) (.two .nil (.at [5] (.two .nil (.at [0, 5, 6] (.two (.two .nil (.two .nil .nil)) (.two (.two .nil (.two (.two .nil .nil) .nil)) .nil)) .nil)) (.two .nil .nil))))))))
theorem S.rostrumlaw19_BallotBack.ok (R : Value → World → Prop) (v0 : Value) (W : World) : bodyK PR CB Try.f6 S.rostrumlaw19_BallotBack.hint [v0] R W = S.rostrumlaw19_BallotBack.body R v0 W := by kernel_rfl
theorem S.rostrumlaw19_BallotBack.fn : PR.funcs[F_rostrumlaw19_BallotBack]? = some Try.f6 := by kernel_rfl
theorem S.rostrumlaw19_BallotBack.call {R : Value → World → Prop} {v0 : Value} {W : World} (h : S.rostrumlaw19_BallotBack.body R v0 W) : callK PR F_rostrumlaw19_BallotBack [v0] R W :=
  callK_of_body (g := F_rostrumlaw19_BallotBack) (fn := Try.f6) (args := [v0]) (R := R) (w := W) mixed CBok S.rostrumlaw19_BallotBack.fn S.rostrumlaw19_BallotBack.hint (by rw [S.rostrumlaw19_BallotBack.ok]; exact h)
/-! ### rostrum/rostrumlaw19.BallotSays (7) -/
def S.rostrumlaw19_BallotSays.j1 (R : Value → World → Prop) (x1 x15 : Value) (W : World) : Prop :=
  rdK PR (Instr.loadAt T_ballot_Ballot x15) (fun v130 W =>
  callK PR F_ballot_Most [x1] (fun v129 W =>
  stb PR [(2, true, (Instr.loadAt T_ballot_Ballot x15), v130)] (fun W =>
  rdK PR (aggEq .eql T_ballot_Ballot v129 v130) (fun v131 W =>
  R v131 W) W) W) W) (tick W)
def S.rostrumlaw19_BallotSays.j2 (K1 : List Value → World → Prop) (x1 x4 x15 x16 : Value) (W : World) : Prop :=
  okF (binP .add x16 (.int .i64 1)) fun v97 =>
  K1 [x1, x4, x15, v97] W
def S.rostrumlaw19_BallotSays.l1 (R : Value → World → Prop) (J1 : List Value → World → Prop) (K1 : List Value → World → Prop) (x1 x4 x15 x16 : Value) (W : World) : Prop :=
  okF (lenP (.slice T_ballot_Ballot) x1) fun v94 =>
  okF (binP .lss x16 v94) fun v95 =>
  ifK v95 (
  joinK (fun s W => S.rostrumlaw19_BallotSays.j2 K1 (nthv s 0) (nthv s 1) (nthv s 2) (nthv s 3) W) (fun J2 =>
  rdK PR (Instr.loadAt T_ballot_Ballot x4) (fun v98 W =>
  okF (idxS 2 x1 x16) fun v101 =>
  rdK PR (Instr.loadAt T_ballot_Ballot v101) (fun v102 W =>
  rdK PR (Instr.loadAt T_ballot_Ballot x4) (fun v104 W =>
  okF (idxS 2 x1 x16) fun v108 =>
  rdK PR (Instr.loadAt T_ballot_Ballot v108) (fun v109 W =>
  callK PR F_ballot_Cmp [v98, v102] (fun v103 W =>
  stb PR [(11, true, (Instr.loadAt T_ballot_Ballot v108), v109), (6, true, (Instr.loadAt T_ballot_Ballot x4), v104)] (fun W =>
  callK PR F_rostrumlaw19_own [v104] (fun v105 W =>
  stb PR [(11, true, (Instr.loadAt T_ballot_Ballot v108), v109)] (fun W =>
  callK PR F_rostrumlaw19_own [v109] (fun v110 W =>
  callK PR F_rostrumref18_Cmp [v105, v110] (fun v111 W =>
  okF (binP .neq v103 v111) fun v112 =>
  ifK v112 (
  R (.bool false) W) (
  okF (binP .eql x16 (.int .i64 0)) fun v114 =>
  gdK (wantd v114 false) (fun k W => k x1 W) (fun v116 W =>
  gdK (wantd v114 false) (fun k W => k x16 W) (fun v117 W =>
  gdK (wantd v114 false) (fun k W => okF (idxS 2 v116 v117) fun v => k v W) (fun v118 W =>
  gdK (wantd v114 false) (fun k W => rdK PR (Instr.loadAt T_ballot_Ballot v118) k W) (fun v119 W =>
  gdK (wantd v114 false) (fun k W => rdK PR (Instr.loadAt T_ballot_Ballot x15) k W) (fun v120 W =>
  gdK (wantd v114 false) (fun k W => callK PR F_ballot_Cmp [v119, v120] k W) (fun v121 W =>
  gdK (wantd v114 false) (fun k W => okF (binP .gtr v121 (.int .i64 0)) fun v => k v W) (fun v122 W =>
  okF (pickP v114 (.bool true) v122) fun v123 =>
  ifK v123 (
  okF (idxS 2 x1 x16) fun v126 =>
  rdK PR (Instr.loadAt T_ballot_Ballot v126) (fun v127 W =>
  efK PR (Instr.storeAt T_ballot_Ballot x15 v127) (fun _ W =>
  J2 [x1, x4, x15, x16] W) W) W) (
  J2 [x1, x4, x15, x16] W)) W) W) W) W) W) W) (tick W))) W) W) W) W) W) W) W) W) W) (tick W))) (
  J1 [x1, x15] W)
def S.rostrumlaw19_BallotSays.body (R : Value → World → Prop) (v0 v1 v2 v3 : Value) (W : World) : Prop :=
  efK PR (Instr.box T_ballot_Ballot v0) (fun v4 W =>
  callK PR F_rostrumlaw19_awake [] (fun v17 W =>
  okF (unP .not v17) fun v18 =>
  ifK v18 (
  R (.bool false) W) (
  okF (lenP (.slice T_ballot_Ballot) v1) fun v20 =>
  okF (binP .gtr v20 (.int .i64 20)) fun v21 =>
  gdK (wantd v21 false) (fun k W => k v3 W) (fun v23 W =>
  gdK (wantd v21 false) (fun k W => okF (lenP (.slice T_uint8) v23) fun v => k v W) (fun v24 W =>
  gdK (wantd v21 false) (fun k W => okF (binP .gtr v24 (.int .i64 60)) fun v => k v W) (fun v25 W =>
  okF (pickP v21 (.bool true) v25) fun v26 =>
  ifK v26 (
  R (.bool true) W) (
  rdK PR (Instr.loadAt T_ballot_Ballot v4) (fun v28 W =>
  callK PR F_ballot_Next [v28, v2] (fun v30 W =>
  okF (extP 0 v30) fun v31 =>
  okF (extP 1 v30) fun v32 =>
  efK PR (Instr.alloc T_ballot_Ballot true (.tuple #[])) (fun v9 W =>
  efK PR (Instr.storeAt T_ballot_Ballot v9 v31) (fun _ W =>
  rdK PR (Instr.loadAt T_ballot_Ballot v4) (fun v34 W =>
  callK PR F_rostrumlaw19_own [v34] (fun v35 W =>
  callK PR F_rostrumref18_Next [v35, v2] (fun v37 W =>
  okF (extP 0 v37) fun v38 =>
  okF (extP 1 v37) fun v39 =>
  efK PR (Instr.alloc T_rostrumref18_Ballot true (.tuple #[])) (fun v11 W =>
  efK PR (Instr.storeAt T_rostrumref18_Ballot v11 v38) (fun _ W =>
  callK PR F_pack_Read [v3] (fun v41 W =>
  okF (bldP (fun i => ([(0, 1), (1, 1), (2, 1)] : List (Nat × Nat))[i]?) [.slice none 0 0, .int .i64 0, .bool false] [(0, v3)]) fun v43 =>
  efK PR (Instr.box T_rostrumref1_Reader v43) (fun v44 W =>
  rdK PR (Instr.loadAt T_ballot_Ballot v9) (fun v45 W =>
  rdK PR (Instr.loadAt T_rostrumref18_Ballot v11) (fun v47 W =>
  callK PR F_rostrumlaw19_own [v45] (fun v46 W =>
  stb PR [(2, true, (Instr.loadAt T_rostrumref18_Ballot v11), v47)] (fun W =>
  rdK PR (aggEq .neq T_rostrumref18_Ballot v46 v47) (fun v48 W =>
  gdK (wantd v48 false) (fun k W => k v32 W) (fun v50 W =>
  gdK (wantd v48 false) (fun k W => k v39 W) (fun v51 W =>
  gdK (wantd v48 false) (fun k W => okF (binP .neq v50 v51) fun v => k v W) (fun v52 W =>
  okF (pickP v48 (.bool true) v52) fun v53 =>
  gdK (wantd v53 false) (fun k W => rdK PR (Instr.loadAt T_ballot_Ballot v4) k W) (fun v55 W =>
  gdK (wantd v53 false) (fun k W => rdK PR (Instr.loadAt T_ballot_Ballot v4) k W) (fun v57 W =>
  gdK (wantd v53 false) (fun k W => callK PR F_ballot_Good [v55] (fun v W => stb PR [(12, (wantd v53 false), (Instr.loadAt T_ballot_Ballot v4), v57)] (fun W => k v W) W) W) (fun v56 W =>
  gdK (wantd v53 false) (fun k W => callK PR F_rostrumlaw19_own [v57] k W) (fun v58 W =>
  gdK (wantd v53 false) (fun k W => callK PR F_rostrumref18_GoodBallot [v58] k W) (fun v59 W =>
  gdK (wantd v53 false) (fun k W => okF (eqP .bool .neq v56 v59) fun v => k v W) (fun v60 W =>
  okF (pickP v53 (.bool true) v60) fun v61 =>
  gdK (wantd v61 false) (fun k W => k v41 W) (fun v63 W =>
  gdK (wantd v61 false) (fun k W => k v44 W) (fun v66 W =>
  gdK (wantd v61 false) (fun k W => callK PR F_ballot_Get [v63] k W) (fun v64 W =>
  gdK (wantd v61 false) (fun k W => callK PR F_rostrumlaw19_own [v64] k W) (fun v65 W =>
  gdK (wantd v61 false) (fun k W => callK PR F_rostrumref18_GetBallot [v66] k W) (fun v67 W =>
  gdK (wantd v61 false) (fun k W => rdK PR (aggEq .neq T_rostrumref18_Ballot v65 v67) k W) (fun v68 W =>
  okF (pickP v61 (.bool true) v68) fun v69 =>
  gdK (wantd v69 false) (fun k W => k v41 W) (fun v71 W =>
  gdK (wantd v69 false) (fun k W => k v44 W) (fun v73 W =>
  gdK (wantd v69 false) (fun k W => okF (nilP v73) fun v => k v W) (fun v74 W =>
  gdK (wantd v69 false) (fun k W => okF (addrF 2 v74) fun v => k v W) (fun v75 W =>
  gdK (wantd v69 false) (fun k W => rdK PR (Instr.loadAt T_bool v75) k W) (fun v76 W =>
  gdK (wantd v69 false) (fun k W => callK PR F_pack_Reader_Bad [v71] (fun v W => stb PR [(31, (wantd v69 false), (Instr.loadAt T_bool v75), v76)] (fun W => k v W) W) W) (fun v72 W =>
  gdK (wantd v69 false) (fun k W => okF (eqP .bool .neq v72 v76) fun v => k v W) (fun v77 W =>
  okF (pickP v69 (.bool true) v77) fun v78 =>
  gdK (wantd v78 false) (fun k W => k v3 W) (fun v80 W =>
  gdK (wantd v78 false) (fun k W => rdK PR (Instr.loadAt T_ballot_Ballot v4) k W) (fun v81 W =>
  gdK (wantd v78 false) (fun k W => k v3 W) (fun v84 W =>
  gdK (wantd v78 false) (fun k W => rdK PR (Instr.loadAt T_ballot_Ballot v4) k W) (fun v85 W =>
  gdK (wantd v78 false) (fun k W => callK PR F_ballot_Put [v80, v81] (fun v W => stb PR [(40, (wantd v78 false), (Instr.loadAt T_ballot_Ballot v4), v85)] (fun W => k v W) W) W) (fun v82 W =>
  gdK (wantd v78 false) (fun k W => rdK PR (convert T_s_uint8 T_string v82) k W) (fun v83 W =>
  gdK (wantd v78 false) (fun k W => callK PR F_rostrumlaw19_own [v85] (fun v W => stb PR [(38, (wantd v78 false), (convert T_s_uint8 T_string v82), v83)] (fun W => k v W) W) W) (fun v86 W =>
  gdK (wantd v78 false) (fun k W => callK PR F_rostrumref18_PutBallot [v84, v86] (fun v W => stb PR [(38, (wantd v78 false), (convert T_s_uint8 T_string v82), v83)] (fun W => k v W) W) W) (fun v87 W =>
  gdK (wantd v78 false) (fun k W => rdK PR (convert T_s_uint8 T_string v87) k W) (fun v88 W =>
  gdK (wantd v78 false) (fun k W => okF (binP .neq v83 v88) fun v => k v W) (fun v89 W =>
  okF (pickP v78 (.bool true) v89) fun v90 =>
  ifK v90 (
  R (.bool false) W) (
  okF (bldP (fun i => ([(0, 1), (1, 1)] : List (Nat × Nat))[i]?) [.int .i64 0, .int .i64 0] []) fun v91 =>
  efK PR (Instr.alloc T_ballot_Ballot true (.tuple #[])) (fun v15 W =>
  efK PR (Instr.storeAt T_ballot_Ballot v15 v91) (fun _ W =>
  joinK (fun s W => S.rostrumlaw19_BallotSays.j1 R (nthv s 0) (nthv s 1) W) (fun J1 =>
  loopK (fun K1 s W => S.rostrumlaw19_BallotSays.l1 R J1 K1 (nthv s 0) (nthv s 1) (nthv s 2) (nthv s 3) W) [v1, v4, v15, (.int .i64 0)] W)) W) W)) W) W) W) W) W) W) W) W) W) W) W) W) W) W) W) W) W) W) W) W) W) W) W) W) W) W) W) W) W) W) W) W) W) W) W) W) (tick W)) W) W) W) W) W) W) W) W) W) W) W)) W) W) W)) W) W
def S.rostrumlaw19_BallotSays.hint : Hint := (.two .nil (.two (.two .nil (.two (.two .nil .nil) .nil)) (.two (.two .nil (.two (.two .nil .nil) .nil)) (.two .nil (.two .nil (.two .nil (.two (.two .nil (.two (.two .nil .nil) .nil)) (.two .nil (.at [1, 15] (.two .nil (.at [1, 4, 15, 16] (.two (.two .nil (.two .nil .nil)) (.at [1, 4, 15, 16] (.two (.two .nil (.two (.two .nil .nil) .nil)) (.two .nil (.two .nil .nil))) .nil)) .nil)) (.two .nil .nil))))))))))
theorem S.rostrumlaw19_BallotSays.ok (R : Value → World → Prop) (v0 v1 v2 v3 : Value) (W : World) : bodyK PR CB Try.f7 S.rostrumlaw19_BallotSays.hint [v0, v1, v2, v3] R W = S.rostrumlaw19_BallotSays.body R v0 v1 v2 v3 W := by kernel_rfl
theorem S.rostrumlaw19_BallotSays.fn : PR.funcs[F_rostrumlaw19_BallotSays]? = some Try.f7 := by kernel_rfl
theorem S.rostrumlaw19_BallotSays.call {R : Value → World → Prop} {v0 v1 v2 v3 : Value} {W : World} (h : S.rostrumlaw19_BallotSays.body R v0 v1 v2 v3 W) : callK PR F_rostrumlaw19_BallotSays [v0, v1, v2, v3] R W :=
  callK_of_body (g := F_rostrumlaw19_BallotSays) (fn := Try.f7) (args := [v0, v1, v2, v3]) (R := R) (w := W) mixed CBok S.rostrumlaw19_BallotSays.fn S.rostrumlaw19_BallotSays.hint (by rw [S.rostrumlaw19_BallotSays.ok]; exact h)
/-! ### rostrum/rostrumlaw19.BallotNext (8) -/
def S.rostrumlaw19_BallotNext.j1 (R : Value → World → Prop) (x1 x2 x7 x9 : Value) (W : World) : Prop :=
  rdK PR (Instr.loadAt T_ballot_Ballot x7) (fun v67 W =>
  callK PR F_ballot_Put [(.slice none 0 0), v67] (fun v68 W =>
  callK PR F_pack_Read [v68] (fun v69 W =>
  rdK PR (Instr.loadAt T_ballot_Ballot x7) (fun v70 W =>
  rdK PR (Instr.loadAt T_ballot_Ballot x9) (fun v71 W =>
  rdK PR (aggEq .eql T_ballot_Ballot v70 v71) (fun v72 W =>
  okF (binP .eql x1 x2) fun v75 =>
  okF (eqP .bool .eql v72 v75) fun v76 =>
  gdK (wantd v76 true) (fun k W => k v69 W) (fun v78 W =>
  gdK (wantd v76 true) (fun k W => okF (eqP (.pointer T_pack_Reader) .neq v78 (.pointer none)) fun v => k v W) (fun v79 W =>
  okF (pickP v76 v79 (.bool false)) fun v80 =>
  gdK (wantd v80 true) (fun k W => k v69 W) (fun v82 W =>
  gdK (wantd v80 true) (fun k W => rdK PR (Instr.loadAt T_ballot_Ballot x7) k W) (fun v84 W =>
  gdK (wantd v80 true) (fun k W => callK PR F_ballot_Get [v82] (fun v W => stb PR [(14, (wantd v80 true), (Instr.loadAt T_ballot_Ballot x7), v84)] (fun W => k v W) W) W) (fun v83 W =>
  gdK (wantd v80 true) (fun k W => rdK PR (aggEq .eql T_ballot_Ballot v83 v84) k W) (fun v85 W =>
  okF (pickP v80 v85 (.bool false)) fun v86 =>
  okF (pickP v86 (.bool true) (.bool false)) fun v88 =>
  R v88 W) W) W) W) W) W) W) W) W) (tick W)) W) W) W
def S.rostrumlaw19_BallotNext.l1 (R : Value → World → Prop) (J1 : List Value → World → Prop) (K1 : List Value → World → Prop) (x0 x1 x2 x7 x9 x11 : Value) (W : World) : Prop :=
  okF (lenP (.slice T_ballot_Ballot) x0) fun v56 =>
  okF (binP .lss x11 v56) fun v57 =>
  ifK v57 (
  rdK PR (Instr.loadAt T_ballot_Ballot x7) (fun v60 W =>
  okF (idxS 2 x0 x11) fun v63 =>
  rdK PR (Instr.loadAt T_ballot_Ballot v63) (fun v64 W =>
  callK PR F_ballot_Cmp [v60, v64] (fun v65 W =>
  okF (binP .leq v65 (.int .i64 0)) fun v66 =>
  ifK v66 (
  R (.bool false) W) (
  okF (binP .add x11 (.int .i64 1)) fun v59 =>
  K1 [x0, x1, x2, x7, x9, v59] W)) W) W) (tick W)) (
  J1 [x1, x2, x7, x9] W)
def S.rostrumlaw19_BallotNext.body (R : Value → World → Prop) (v0 v1 v2 : Value) (W : World) : Prop :=
  callK PR F_rostrumlaw19_awake [] (fun v13 W =>
  okF (unP .not v13) fun v14 =>
  ifK v14 (
  R (.bool false) W) (
  okF (lenP (.slice T_ballot_Ballot) v0) fun v16 =>
  okF (binP .gtr v16 (.int .i64 20)) fun v17 =>
  ifK v17 (
  R (.bool true) W) (
  callK PR F_ballot_Most [v0] (fun v20 W =>
  callK PR F_ballot_Next [v20, v1] (fun v22 W =>
  okF (extP 0 v22) fun v23 =>
  okF (extP 1 v22) fun v24 =>
  efK PR (Instr.alloc T_ballot_Ballot true (.tuple #[])) (fun v7 W =>
  efK PR (Instr.storeAt T_ballot_Ballot v7 v23) (fun _ W =>
  callK PR F_ballot_Most [v0] (fun v27 W =>
  callK PR F_ballot_Next [v27, v2] (fun v29 W =>
  okF (extP 0 v29) fun v30 =>
  okF (extP 1 v29) fun v31 =>
  efK PR (Instr.alloc T_ballot_Ballot true (.tuple #[])) (fun v9 W =>
  efK PR (Instr.storeAt T_ballot_Ballot v9 v30) (fun _ W =>
  okF (binP .neq v24 (.int .i64 0)) fun v33 =>
  gdK (wantd v33 false) (fun k W => k v31 W) (fun v35 W =>
  gdK (wantd v33 false) (fun k W => okF (binP .neq v35 (.int .i64 0)) fun v => k v W) (fun v36 W =>
  okF (pickP v33 (.bool true) v36) fun v37 =>
  ifK v37 (
  okF (binP .neq v24 (.int .i64 0)) fun v39 =>
  gdK (wantd v39 true) (fun k W => rdK PR (Instr.loadAt T_ballot_Ballot v7) k W) (fun v41 W =>
  gdK (wantd v39 true) (fun k W => okF (bldP (fun i => ([(0, 1), (1, 1)] : List (Nat × Nat))[i]?) [.int .i64 0, .int .i64 0] []) fun v => k v W) (fun v42 W =>
  gdK (wantd v39 true) (fun k W => rdK PR (aggEq .eql T_ballot_Ballot v41 v42) k W) (fun v43 W =>
  okF (pickP v39 v43 (.bool false)) fun v44 =>
  gdK (wantd v44 false) (fun k W => k v31 W) (fun v46 W =>
  gdK (wantd v44 false) (fun k W => okF (binP .neq v46 (.int .i64 0)) fun v => k v W) (fun v47 W =>
  gdK (wantd v44 false) (fun k W => k v47 W) (fun v48 W =>
  gdK (wantd v48 true) (fun k W => rdK PR (Instr.loadAt T_ballot_Ballot v9) k W) (fun v49 W =>
  gdK (wantd v48 true) (fun k W => okF (bldP (fun i => ([(0, 1), (1, 1)] : List (Nat × Nat))[i]?) [.int .i64 0, .int .i64 0] []) fun v => k v W) (fun v50 W =>
  gdK (wantd v48 true) (fun k W => rdK PR (aggEq .eql T_ballot_Ballot v49 v50) k W) (fun v51 W =>
  gdK (wantd v44 false) (fun k W => okF (pickP v48 v51 (.bool false)) fun v => k v W) (fun v52 W =>
  okF (pickP v44 (.bool true) v52) fun v53 =>
  R v53 W) W) W) W) W) W) W) W) W) W) W) (
  joinK (fun s W => S.rostrumlaw19_BallotNext.j1 R (nthv s 0) (nthv s 1) (nthv s 2) (nthv s 3) W) (fun J1 =>
  loopK (fun K1 s W => S.rostrumlaw19_BallotNext.l1 R J1 K1 (nthv s 0) (nthv s 1) (nthv s 2) (nthv s 3) (nthv s 4) (nthv s 5) W) [v0, v1, v2, v7, v9, (.int .i64 0)] W))) W) W) W) W) W) W) W) W) W) W))) W
def S.rostrumlaw19_BallotNext.hint : Hint := (.two .nil (.two (.two .nil (.two (.two .nil .nil) .nil)) (.two (.two .nil (.two (.two .nil .nil) .nil)) (.two .nil (.two .nil (.two (.two .nil (.two (.two .nil .nil) .nil)) (.at [1, 2, 7, 9] (.two .nil (.at [0, 1, 2, 7, 9, 11] (.two (.two .nil (.two .nil .nil)) (.two (.two .nil (.two (.two .nil .nil) .nil)) .nil)) .nil)) (.two .nil (.two .nil .nil)))))))))
theorem S.rostrumlaw19_BallotNext.ok (R : Value → World → Prop) (v0 v1 v2 : Value) (W : World) : bodyK PR CB Try.f8 S.rostrumlaw19_BallotNext.hint [v0, v1, v2] R W = S.rostrumlaw19_BallotNext.body R v0 v1 v2 W := by kernel_rfl
theorem S.rostrumlaw19_BallotNext.fn : PR.funcs[F_rostrumlaw19_BallotNext]? = some Try.f8 := by kernel_rfl
theorem S.rostrumlaw19_BallotNext.call {R : Value → World → Prop} {v0 v1 v2 : Value} {W : World} (h : S.rostrumlaw19_BallotNext.body R v0 v1 v2 W) : callK PR F_rostrumlaw19_BallotNext [v0, v1, v2] R W :=
  callK_of_body (g := F_rostrumlaw19_BallotNext) (fn := Try.f8) (args := [v0, v1, v2]) (R := R) (w := W) mixed CBok S.rostrumlaw19_BallotNext.fn S.rostrumlaw19_BallotNext.hint (by rw [S.rostrumlaw19_BallotNext.ok]; exact h)
end Go.Proofs.Ytfmidjlgpakilaa
