import Derived.Test.YtfmidjlgpakilaaBase
namespace Go.Proofs.Ytfmidjlgpakilaa
set_option linter.unusedVariables false
set_option linter.unusedSimpArgs false
open Go.Eng
/-! ### bytes.Clone (48) -/
def S.bytes_Clone.body (R : Value → World → Prop) (v0 : Value) (W : World) : Prop :=
  okF (eqP (.slice T_uint8) .eql v0 (.slice none 0 0)) fun v4 =>
  ifK v4 (
  R (.slice none 0 0) W) (
  efK PR (Instr.buildSlice T_s_uint8 0 #[]) (fun v5 W =>
  efK PR (Builtin.append_ #[T_s_uint8, T_s_uint8] T_s_uint8 #[v5, v0]) (fun v7 W =>
  R v7 W) W) W)
def S.bytes_Clone.hint : Hint := (.two .nil (.two (.two .nil (.two (.two .nil .nil) .nil)) (.two .nil .nil)))
theorem S.bytes_Clone.ok (R : Value → World → Prop) (v0 : Value) (W : World) : bodyK PR CB Try.f48 S.bytes_Clone.hint [v0] R W = S.bytes_Clone.body R v0 W := by kernel_rfl
theorem S.bytes_Clone.fn : PR.funcs[F_bytes_Clone]? = some Try.f48 := by kernel_rfl
theorem S.bytes_Clone.call {R : Value → World → Prop} {v0 : Value} {W : World} (h : S.bytes_Clone.body R v0 W) : callK PR F_bytes_Clone [v0] R W :=
  callK_of_body (g := F_bytes_Clone) (fn := Try.f48) (args := [v0]) (R := R) (w := W) mixed CBok S.bytes_Clone.fn S.bytes_Clone.hint (by rw [S.bytes_Clone.ok]; exact h)
/-! ### rostrum/pack.Num (47) -/
def S.pack_Num.j1 (R : Value → World → Prop) (x5 x6 : Value) (W : World) : Prop :=
  okF (cvtP (.int .u8) x6) fun v28 =>
  efK PR (Instr.buildSlice T_s_uint8 1 #[(0, v28)]) (fun v29 W =>
  efK PR (Builtin.append_ #[T_s_uint8, T_s_uint8] T_s_uint8 #[x5, v29]) (fun v30 W =>
  R v30 W) W) W
def S.pack_Num.l1 (J1 : List Value → World → Prop) (K1 : List Value → World → Prop) (x5 x6 : Value) (W : World) : Prop :=
  okF (binP .geq x6 (.int .u64 128)) fun v17 =>
  ifK v17 (
  okF (cvtP (.int .u8) x6) fun v22 =>
  okF (binP .or v22 (.int .u8 128)) fun v23 =>
  efK PR (Instr.buildSlice T_s_uint8 1 #[(0, v23)]) (fun v24 W =>
  efK PR (Builtin.append_ #[T_s_uint8, T_s_uint8] T_s_uint8 #[x5, v24]) (fun v25 W =>
  okF (binP .shr x6 (.int .u64 7)) fun v19 =>
  K1 [v25, v19] W) W) W) (
  J1 [x5, x6] W)
def S.pack_Num.body (R : Value → World → Prop) (v0 v1 : Value) (W : World) : Prop :=
  callK PR F_bytes_Clone [v0] (fun v8 W =>
  okF (cvtP (.int .u64) v1) fun v10 =>
  okF (binP .shl v10 (.int .u64 1)) fun v11 =>
  okF (binP .shr v1 (.int .u64 63)) fun v13 =>
  okF (cvtP (.int .u64) v13) fun v14 =>
  okF (binP .xor v11 v14) fun v15 =>
  joinK (fun s W => S.pack_Num.j1 R (nthv s 0) (nthv s 1) W) (fun J1 =>
  loopK (fun K1 s W => S.pack_Num.l1 J1 K1 (nthv s 0) (nthv s 1) W) [v8, v15] W)) W
def S.pack_Num.hint : Hint := (.two .nil (.two .nil (.two .nil (.at [5, 6] (.at [5, 6] (.two (.two .nil (.two .nil .nil)) (.two .nil .nil)) .nil) (.two .nil .nil)))))
theorem S.pack_Num.ok (R : Value → World → Prop) (v0 v1 : Value) (W : World) : bodyK PR CB Try.f47 S.pack_Num.hint [v0, v1] R W = S.pack_Num.body R v0 v1 W := by kernel_rfl
theorem S.pack_Num.fn : PR.funcs[F_pack_Num]? = some Try.f47 := by kernel_rfl
theorem S.pack_Num.call {R : Value → World → Prop} {v0 v1 : Value} {W : World} (h : S.pack_Num.body R v0 v1 W) : callK PR F_pack_Num [v0, v1] R W :=
  callK_of_body (g := F_pack_Num) (fn := Try.f47) (args := [v0, v1]) (R := R) (w := W) mixed CBok S.pack_Num.fn S.pack_Num.hint (by rw [S.pack_Num.ok]; exact h)
/-! ### (*rostrum/pack.Reader).Num (49) -/
def S.pack_Reader_Num.j1 (R : Value → World → Prop) (x0 : Value) (W : World) : Prop :=
  callK PR F_pack_Reader_fail [x0] (fun v86 W =>
  R v86 W) W
def S.pack_Reader_Num.l1 (R : Value → World → Prop) (J1 : List Value → World → Prop) (K1 : List Value → World → Prop) (x0 x1 x2 x7 x21 x22 x23 : Value) (W : World) : Prop :=
  okF (binP .lss x23 x22) fun v24 =>
  ifK v24 (
  okF (idxS 1 x21 x23) fun v26 =>
  rdK PR (Instr.loadAt T_uint8 v26) (fun v27 W =>
  okF (binP .andNot v27 (.int .u8 128)) fun v30 =>
  okF (cvtP (.int .u64) v30) fun v31 =>
  okF (binP .mul (.int .i64 7) x23) fun v33 =>
  okF (binP .shl v31 v33) fun v34 =>
  okF (binP .or x7 v34) fun v35 =>
  okF (binP .and v27 (.int .u8 128)) fun v37 =>
  okF (binP .neq v37 (.int .u8 0)) fun v38 =>
  ifK v38 (
  okF (binP .add x23 (.int .i64 1)) fun v84 =>
  K1 [x0, x1, x2, v35, x21, x22, v84] W) (
  okF (binP .shr v35 (.int .u64 1)) fun v40 =>
  okF (cvtP (.int .i64) v40) fun v41 =>
  okF (binP .and v35 (.int .u64 1)) fun v43 =>
  okF (cvtP (.int .i64) v43) fun v44 =>
  okF (unP .neg v44) fun v45 =>
  okF (binP .xor v41 v45) fun v46 =>
  okF (binP .gtr x23 (.int .i64 0)) fun v48 =>
  gdK (wantd v48 true) (fun k W => k v27 W) (fun v50 W =>
  gdK (wantd v48 true) (fun k W => okF (binP .eql v50 (.int .u8 0)) fun v => k v W) (fun v51 W =>
  okF (pickP v48 v51 (.bool false)) fun v52 =>
  gdK (wantd v52 false) (fun k W => k x23 W) (fun v54 W =>
  gdK (wantd v52 false) (fun k W => okF (binP .eql v54 (.int .i64 9)) fun v => k v W) (fun v55 W =>
  gdK (wantd v52 false) (fun k W => k v55 W) (fun v56 W =>
  gdK (wantd v56 true) (fun k W => k v27 W) (fun v57 W =>
  gdK (wantd v56 true) (fun k W => okF (binP .gtr v57 (.int .u8 1)) fun v => k v W) (fun v58 W =>
  gdK (wantd v52 false) (fun k W => okF (pickP v56 v58 (.bool false)) fun v => k v W) (fun v59 W =>
  okF (pickP v52 (.bool true) v59) fun v60 =>
  gdK (wantd v60 false) (fun k W => k v46 W) (fun v62 W =>
  gdK (wantd v60 false) (fun k W => k x1 W) (fun v63 W =>
  gdK (wantd v60 false) (fun k W => okF (binP .lss v62 v63) fun v => k v W) (fun v64 W =>
  okF (pickP v60 (.bool true) v64) fun v65 =>
  gdK (wantd v65 false) (fun k W => k v46 W) (fun v67 W =>
  gdK (wantd v65 false) (fun k W => k x2 W) (fun v68 W =>
  gdK (wantd v65 false) (fun k W => okF (binP .gtr v67 v68) fun v => k v W) (fun v69 W =>
  okF (pickP v65 (.bool true) v69) fun v70 =>
  ifK v70 (
  callK PR F_pack_Reader_fail [x0] (fun v72 W =>
  R v72 W) W) (
  okF (nilP x0) fun v75 =>
  okF (addrF 0 v75) fun v76 =>
  rdK PR (Instr.loadAt T_s_uint8 v76) (fun v77 W =>
  okF (binP .add x23 (.int .i64 1)) fun v79 =>
  okF (slcS 1 v77 (some v79) none none) fun v80 =>
  okF (nilP x0) fun v81 =>
  okF (addrF 0 v81) fun v82 =>
  efK PR (Instr.storeAt T_s_uint8 v82 v80) (fun _ W =>
  R v46 W) W) W)) W) W) W) W) W) W) W) W) W) W) W) W) W) W)) W) (
  J1 [x0] W)
def S.pack_Reader_Num.body (R : Value → World → Prop) (v0 v1 v2 : Value) (W : World) : Prop :=
  joinK (fun s W => S.pack_Reader_Num.j1 R (nthv s 0) W) (fun J1 =>
  okF (nilP v0) fun v12 =>
  okF (addrF 0 v12) fun v13 =>
  rdK PR (Instr.loadAt T_s_uint8 v13) (fun v14 W =>
  okF (nilP v0) fun v16 =>
  okF (addrF 0 v16) fun v17 =>
  rdK PR (Instr.loadAt T_s_uint8 v17) (fun v18 W =>
  okF (lenP (.slice T_uint8) v18) fun v19 =>
  okF (foldP min2P [v19, (.int .i64 10)]) fun v20 =>
  okF (slcS 1 v14 none (some v20) none) fun v21 =>
  okF (lenP (.slice T_uint8) v21) fun v22 =>
  loopK (fun K1 s W => S.pack_Reader_Num.l1 R J1 K1 (nthv s 0) (nthv s 1) (nthv s 2) (nthv s 3) (nthv s 4) (nthv s 5) (nthv s 6) W) [v0, v1, v2, (.int .u64 0), v21, v22, (.int .i64 0)] W) W) (tick W))
def S.pack_Reader_Num.hint : Hint := (.two .nil (.two .nil (.at [0] (.two .nil (.at [0, 1, 2, 7, 21, 22, 23] (.two .nil (.two (.two .nil .nil) (.two (.two .nil (.two .nil (.two (.two .nil (.two .nil .nil)) (.two .nil (.two (.two .nil (.two (.two .nil .nil) .nil)) (.two .nil (.two .nil .nil))))))) .nil))) .nil)) (.two .nil .nil))))
theorem S.pack_Reader_Num.ok (R : Value → World → Prop) (v0 v1 v2 : Value) (W : World) : bodyK PR CB Try.f49 S.pack_Reader_Num.hint [v0, v1, v2] R W = S.pack_Reader_Num.body R v0 v1 v2 W := by kernel_rfl
theorem S.pack_Reader_Num.fn : PR.funcs[F_pack_Reader_Num]? = some Try.f49 := by kernel_rfl
theorem S.pack_Reader_Num.call {R : Value → World → Prop} {v0 v1 v2 : Value} {W : World} (h : S.pack_Reader_Num.body R v0 v1 v2 W) : callK PR F_pack_Reader_Num [v0, v1, v2] R W :=
  callK_of_body (g := F_pack_Reader_Num) (fn := Try.f49) (args := [v0, v1, v2]) (R := R) (w := W) mixed CBok S.pack_Reader_Num.fn S.pack_Reader_Num.hint (by rw [S.pack_Reader_Num.ok]; exact h)
/-! ### (*rostrum/pack.Reader).fail (61) -/
def S.pack_Reader_fail.body (R : Value → World → Prop) (v0 : Value) (W : World) : Prop :=
  okF (nilP v0) fun v5 =>
  okF (addrF 0 v5) fun v6 =>
  efK PR (Instr.storeAt T_s_uint8 v6 (.slice none 0 0)) (fun _ W =>
  okF (nilP v0) fun v7 =>
  okF (addrF 1 v7) fun v8 =>
  efK PR (Instr.storeAt T_bool v8 (.bool true)) (fun _ W =>
  R (.int .i64 0) W) W) W
def S.pack_Reader_fail.hint : Hint := (.two .nil (.two .nil (.two .nil .nil)))
theorem S.pack_Reader_fail.ok (R : Value → World → Prop) (v0 : Value) (W : World) : bodyK PR CB Try.f61 S.pack_Reader_fail.hint [v0] R W = S.pack_Reader_fail.body R v0 W := by kernel_rfl
theorem S.pack_Reader_fail.fn : PR.funcs[F_pack_Reader_fail]? = some Try.f61 := by kernel_rfl
theorem S.pack_Reader_fail.call {R : Value → World → Prop} {v0 : Value} {W : World} (h : S.pack_Reader_fail.body R v0 W) : callK PR F_pack_Reader_fail [v0] R W :=
  callK_of_body (g := F_pack_Reader_fail) (fn := Try.f61) (args := [v0]) (R := R) (w := W) mixed CBok S.pack_Reader_fail.fn S.pack_Reader_fail.hint (by rw [S.pack_Reader_fail.ok]; exact h)
/-! ### (*rostrum/pack.Reader).Bytes (63) -/
def S.pack_Reader_Bytes.body (R : Value → World → Prop) (v0 v1 : Value) (W : World) : Prop :=
  callK PR F_pack_Reader_Num [v0, (.int .i64 0), v1] (fun v9 W =>
  okF (nilP v0) fun v12 =>
  okF (addrF 0 v12) fun v13 =>
  rdK PR (Instr.loadAt T_s_uint8 v13) (fun v14 W =>
  okF (lenP (.slice T_uint8) v14) fun v15 =>
  okF (binP .gtr v9 v15) fun v16 =>
  ifK v16 (
  callK PR F_pack_Reader_fail [v0] (fun v18 W =>
  R (.slice none 0 0) W) W) (
  okF (nilP v0) fun v20 =>
  okF (addrF 0 v20) fun v21 =>
  rdK PR (Instr.loadAt T_s_uint8 v21) (fun v22 W =>
  okF (slcS 1 v22 none (some v9) none) fun v24 =>
  callK PR F_bytes_Clone [v24] (fun v25 W =>
  okF (nilP v0) fun v28 =>
  okF (addrF 0 v28) fun v29 =>
  rdK PR (Instr.loadAt T_s_uint8 v29) (fun v30 W =>
  okF (slcS 1 v30 (some v9) none none) fun v32 =>
  okF (nilP v0) fun v33 =>
  okF (addrF 0 v33) fun v34 =>
  efK PR (Instr.storeAt T_s_uint8 v34 v32) (fun _ W =>
  R v25 W) W) W) W) W)) W) W
def S.pack_Reader_Bytes.hint : Hint := (.two .nil (.two .nil (.two (.two .nil (.two (.two .nil (.two .nil .nil)) .nil)) (.two .nil (.two .nil (.two .nil .nil))))))
theorem S.pack_Reader_Bytes.ok (R : Value → World → Prop) (v0 v1 : Value) (W : World) : bodyK PR CB Try.f63 S.pack_Reader_Bytes.hint [v0, v1] R W = S.pack_Reader_Bytes.body R v0 v1 W := by kernel_rfl
theorem S.pack_Reader_Bytes.fn : PR.funcs[F_pack_Reader_Bytes]? = some Try.f63 := by kernel_rfl
theorem S.pack_Reader_Bytes.call {R : Value → World → Prop} {v0 v1 : Value} {W : World} (h : S.pack_Reader_Bytes.body R v0 v1 W) : callK PR F_pack_Reader_Bytes [v0, v1] R W :=
  callK_of_body (g := F_pack_Reader_Bytes) (fn := Try.f63) (args := [v0, v1]) (R := R) (w := W) mixed CBok S.pack_Reader_Bytes.fn S.pack_Reader_Bytes.hint (by rw [S.pack_Reader_Bytes.ok]; exact h)
/-! ### (*rostrum/pack.Reader).Bad (31) -/
def S.pack_Reader_Bad.body (R : Value → World → Prop) (v0 : Value) (W : World) : Prop :=
  okF (nilP v0) fun v4 =>
  okF (addrF 1 v4) fun v5 =>
  rdK PR (Instr.loadAt T_bool v5) (fun v6 W =>
  R v6 W) W
def S.pack_Reader_Bad.hint : Hint := (.two .nil (.two .nil .nil))
theorem S.pack_Reader_Bad.ok (R : Value → World → Prop) (v0 : Value) (W : World) : bodyK PR CB Try.f31 S.pack_Reader_Bad.hint [v0] R W = S.pack_Reader_Bad.body R v0 W := by kernel_rfl
theorem S.pack_Reader_Bad.fn : PR.funcs[F_pack_Reader_Bad]? = some Try.f31 := by kernel_rfl
theorem S.pack_Reader_Bad.call {R : Value → World → Prop} {v0 : Value} {W : World} (h : S.pack_Reader_Bad.body R v0 W) : callK PR F_pack_Reader_Bad [v0] R W :=
  callK_of_body (g := F_pack_Reader_Bad) (fn := Try.f31) (args := [v0]) (R := R) (w := W) mixed CBok S.pack_Reader_Bad.fn S.pack_Reader_Bad.hint (by rw [S.pack_Reader_Bad.ok]; exact h)
/-! ### (*rostrum/pack.Reader).End (25) -/
def S.pack_Reader_End.body (R : Value → World → Prop) (v0 : Value) (W : World) : Prop :=
  okF (nilP v0) fun v4 =>
  okF (addrF 1 v4) fun v5 =>
  rdK PR (Instr.loadAt T_bool v5) (fun v6 W =>
  okF (unP .not v6) fun v7 =>
  gdK (wantd v7 true) (fun k W => k v0 W) (fun v9 W =>
  gdK (wantd v7 true) (fun k W => okF (nilP v9) fun v => k v W) (fun v10 W =>
  gdK (wantd v7 true) (fun k W => okF (addrF 0 v10) fun v => k v W) (fun v11 W =>
  gdK (wantd v7 true) (fun k W => rdK PR (Instr.loadAt T_s_uint8 v11) k W) (fun v12 W =>
  gdK (wantd v7 true) (fun k W => okF (lenP (.slice T_uint8) v12) fun v => k v W) (fun v13 W =>
  gdK (wantd v7 true) (fun k W => okF (binP .eql v13 (.int .i64 0)) fun v => k v W) (fun v14 W =>
  okF (pickP v7 v14 (.bool false)) fun v15 =>
  R v15 W) W) W) W) W) W) W) W
def S.pack_Reader_End.hint : Hint := (.two .nil (.two .nil .nil))
theorem S.pack_Reader_End.ok (R : Value → World → Prop) (v0 : Value) (W : World) : bodyK PR CB Try.f25 S.pack_Reader_End.hint [v0] R W = S.pack_Reader_End.body R v0 W := by kernel_rfl
theorem S.pack_Reader_End.fn : PR.funcs[F_pack_Reader_End]? = some Try.f25 := by kernel_rfl
theorem S.pack_Reader_End.call {R : Value → World → Prop} {v0 : Value} {W : World} (h : S.pack_Reader_End.body R v0 W) : callK PR F_pack_Reader_End [v0] R W :=
  callK_of_body (g := F_pack_Reader_End) (fn := Try.f25) (args := [v0]) (R := R) (w := W) mixed CBok S.pack_Reader_End.fn S.pack_Reader_End.hint (by rw [S.pack_Reader_End.ok]; exact h)
/-! ### rostrum/pack.Bytes (64) -/
def S.pack_Bytes.body (R : Value → World → Prop) (v0 v1 : Value) (W : World) : Prop :=
  okF (lenP (.slice T_uint8) v1) fun v7 =>
  callK PR F_pack_Num [v0, v7] (fun v8 W =>
  efK PR (Builtin.append_ #[T_s_uint8, T_s_uint8] T_s_uint8 #[v8, v1]) (fun v10 W =>
  R v10 W) W) W
def S.pack_Bytes.hint : Hint := (.two .nil (.two .nil .nil))
theorem S.pack_Bytes.ok (R : Value → World → Prop) (v0 v1 : Value) (W : World) : bodyK PR CB Try.f64 S.pack_Bytes.hint [v0, v1] R W = S.pack_Bytes.body R v0 v1 W := by kernel_rfl
theorem S.pack_Bytes.fn : PR.funcs[F_pack_Bytes]? = some Try.f64 := by kernel_rfl
theorem S.pack_Bytes.call {R : Value → World → Prop} {v0 v1 : Value} {W : World} (h : S.pack_Bytes.body R v0 v1 W) : callK PR F_pack_Bytes [v0, v1] R W :=
  callK_of_body (g := F_pack_Bytes) (fn := Try.f64) (args := [v0, v1]) (R := R) (w := W) mixed CBok S.pack_Bytes.fn S.pack_Bytes.hint (by rw [S.pack_Bytes.ok]; exact h)
/-! ### (*rostrum/rostrumref1.Reader).raw (62) -/
def S.rostrumref1_Reader_raw.j1 (R : Value → World → Prop) (W : World) : Prop :=
  R (.tuple #[(.int .u64 0), (.bool false)]) W
def S.rostrumref1_Reader_raw.l1 (R : Value → World → Prop) (J1 : List Value → World → Prop) (K1 : List Value → World → Prop) (x0 x4 x5 : Value) (W : World) : Prop :=
  okF (binP .lss x5 (.int .i64 10)) fun v8 =>
  gdK (wantd v8 true) (fun k W => k x0 W) (fun v10 W =>
  gdK (wantd v8 true) (fun k W => okF (nilP v10) fun v => k v W) (fun v11 W =>
  gdK (wantd v8 true) (fun k W => okF (addrF 1 v11) fun v => k v W) (fun v12 W =>
  gdK (wantd v8 true) (fun k W => rdK PR (Instr.loadAt T_int v12) k W) (fun v13 W =>
  gdK (wantd v8 true) (fun k W => k x5 W) (fun v14 W =>
  gdK (wantd v8 true) (fun k W => okF (binP .add v13 v14) fun v => k v W) (fun v15 W =>
  gdK (wantd v8 true) (fun k W => k x0 W) (fun v16 W =>
  gdK (wantd v8 true) (fun k W => okF (nilP v16) fun v => k v W) (fun v17 W =>
  gdK (wantd v8 true) (fun k W => okF (addrF 0 v17) fun v => k v W) (fun v18 W =>
  gdK (wantd v8 true) (fun k W => rdK PR (Instr.loadAt T_s_uint8 v18) k W) (fun v19 W =>
  gdK (wantd v8 true) (fun k W => okF (lenP (.slice T_uint8) v19) fun v => k v W) (fun v20 W =>
  gdK (wantd v8 true) (fun k W => okF (binP .lss v15 v20) fun v => k v W) (fun v21 W =>
  okF (pickP v8 v21 (.bool false)) fun v22 =>
  ifK v22 (
  okF (nilP x0) fun v26 =>
  okF (addrF 0 v26) fun v27 =>
  rdK PR (Instr.loadAt T_s_uint8 v27) (fun v28 W =>
  okF (nilP x0) fun v30 =>
  okF (addrF 1 v30) fun v31 =>
  rdK PR (Instr.loadAt T_int v31) (fun v32 W =>
  okF (binP .add v32 x5) fun v34 =>
  okF (idxS 1 v28 v34) fun v35 =>
  rdK PR (Instr.loadAt T_uint8 v35) (fun v36 W =>
  okF (binP .eql x5 (.int .i64 9)) fun v38 =>
  gdK (wantd v38 true) (fun k W => k v36 W) (fun v40 W =>
  gdK (wantd v38 true) (fun k W => okF (binP .gtr v40 (.int .u8 1)) fun v => k v W) (fun v41 W =>
  okF (pickP v38 v41 (.bool false)) fun v42 =>
  ifK v42 (
  R (.tuple #[(.int .u64 0), (.bool false)]) W) (
  okF (binP .and v36 (.int .u8 127)) fun v45 =>
  okF (cvtP (.int .u64) v45) fun v46 =>
  okF (binP .mul (.int .i64 7) x5) fun v48 =>
  okF (cvtP (.int .u64) v48) fun v49 =>
  okF (binP .shl v46 v49) fun v50 =>
  okF (binP .or x4 v50) fun v51 =>
  okF (binP .lss v36 (.int .u8 128)) fun v53 =>
  ifK v53 (
  okF (nilP x0) fun v56 =>
  okF (addrF 1 v56) fun v57 =>
  rdK PR (Instr.loadAt T_int v57) (fun v58 W =>
  okF (binP .add v58 x5) fun v60 =>
  okF (binP .add v60 (.int .i64 1)) fun v61 =>
  okF (nilP x0) fun v62 =>
  okF (addrF 1 v62) fun v63 =>
  efK PR (Instr.storeAt T_int v63 v61) (fun _ W =>
  okF (binP .gtr v36 (.int .u8 0)) fun v66 =>
  gdK (wantd v66 false) (fun k W => k x5 W) (fun v68 W =>
  gdK (wantd v66 false) (fun k W => okF (binP .eql v68 (.int .i64 0)) fun v => k v W) (fun v69 W =>
  okF (pickP v66 (.bool true) v69) fun v70 =>
  R (.tuple #[v51, v70]) W) W) W) W) W) (
  okF (binP .add x5 (.int .i64 1)) fun v24 =>
  K1 [x0, v51, v24] W))) W) W) W) W) (tick W)) (
  J1 [] W)) W) W) W) W) W) W) W) W) W) W) W) (tick W)
def S.rostrumref1_Reader_raw.body (R : Value → World → Prop) (v0 : Value) (W : World) : Prop :=
  joinK (fun s W => S.rostrumref1_Reader_raw.j1 R W) (fun J1 =>
  loopK (fun K1 s W => S.rostrumref1_Reader_raw.l1 R J1 K1 (nthv s 0) (nthv s 1) (nthv s 2) W) [v0, (.int .u64 0), (.int .i64 0)] W)
def S.rostrumref1_Reader_raw.hint : Hint := (.two .nil (.two .nil (.at [] (.two .nil (.at [0, 4, 5] (.two (.two .nil (.two .nil .nil)) (.two (.two .nil (.two (.two .nil (.two (.two .nil .nil) .nil)) (.two .nil (.two .nil (.two (.two .nil (.two .nil .nil)) .nil))))) .nil)) .nil)) (.two .nil .nil))))
theorem S.rostrumref1_Reader_raw.ok (R : Value → World → Prop) (v0 : Value) (W : World) : bodyK PR CB Try.f62 S.rostrumref1_Reader_raw.hint [v0] R W = S.rostrumref1_Reader_raw.body R v0 W := by kernel_rfl
theorem S.rostrumref1_Reader_raw.fn : PR.funcs[F_rostrumref1_Reader_raw]? = some Try.f62 := by kernel_rfl
theorem S.rostrumref1_Reader_raw.call {R : Value → World → Prop} {v0 : Value} {W : World} (h : S.rostrumref1_Reader_raw.body R v0 W) : callK PR F_rostrumref1_Reader_raw [v0] R W :=
  callK_of_body (g := F_rostrumref1_Reader_raw) (fn := Try.f62) (args := [v0]) (R := R) (w := W) mixed CBok S.rostrumref1_Reader_raw.fn S.rostrumref1_Reader_raw.hint (by rw [S.rostrumref1_Reader_raw.ok]; exact h)
/-! ### (*rostrum/rostrumref1.Reader).Num (50) -/
def S.rostrumref1_Reader_Num.j1 (R : Value → World → Prop) (x0 x1 x2 x8 x9 : Value) (W : World) : Prop :=
  okF (unP .not x8) fun v28 =>
  gdK (wantd v28 false) (fun k W => k x9 W) (fun v30 W =>
  gdK (wantd v28 false) (fun k W => k x1 W) (fun v31 W =>
  gdK (wantd v28 false) (fun k W => okF (binP .lss v30 v31) fun v => k v W) (fun v32 W =>
  okF (pickP v28 (.bool true) v32) fun v33 =>
  gdK (wantd v33 false) (fun k W => k x9 W) (fun v35 W =>
  gdK (wantd v33 false) (fun k W => k x2 W) (fun v36 W =>
  gdK (wantd v33 false) (fun k W => okF (binP .gtr v35 v36) fun v => k v W) (fun v37 W =>
  okF (pickP v33 (.bool true) v37) fun v38 =>
  ifK v38 (
  okF (nilP x0) fun v40 =>
  okF (addrF 2 v40) fun v41 =>
  efK PR (Instr.storeAt T_bool v41 (.bool true)) (fun _ W =>
  R (.int .i64 0) W) W) (
  R x9 W)) W) W) W) W) W) W
def S.rostrumref1_Reader_Num.body (R : Value → World → Prop) (v0 v1 v2 : Value) (W : World) : Prop :=
  okF (nilP v0) fun v11 =>
  okF (addrF 2 v11) fun v12 =>
  rdK PR (Instr.loadAt T_bool v12) (fun v13 W =>
  ifK v13 (
  R (.int .i64 0) W) (
  callK PR F_rostrumref1_Reader_raw [v0] (fun v16 W =>
  okF (extP 0 v16) fun v17 =>
  okF (extP 1 v16) fun v18 =>
  okF (binP .shr v17 (.int .u64 1)) fun v20 =>
  okF (cvtP (.int .i64) v20) fun v21 =>
  joinK (fun s W => S.rostrumref1_Reader_Num.j1 R (nthv s 0) (nthv s 1) (nthv s 2) (nthv s 3) (nthv s 4) W) (fun J1 =>
  okF (binP .and v17 (.int .u64 1)) fun v23 =>
  okF (binP .eql v23 (.int .u64 1)) fun v24 =>
  ifK v24 (
  okF (binP .sub (.int .i64 (-1)) v21) fun v26 =>
  J1 [v0, v1, v2, v18, v26] W) (
  J1 [v0, v1, v2, v18, v21] W))) W)) W
def S.rostrumref1_Reader_Num.hint : Hint := (.two .nil (.two (.two .nil (.two (.two .nil .nil) .nil)) (.two .nil (.two .nil (.at [0, 1, 2, 8, 9] (.two .nil (.two .nil .nil)) (.two (.two .nil (.two (.two .nil (.two .nil .nil)) .nil)) (.two .nil .nil)))))))
theorem S.rostrumref1_Reader_Num.ok (R : Value → World → Prop) (v0 v1 v2 : Value) (W : World) : bodyK PR CB Try.f50 S.rostrumref1_Reader_Num.hint [v0, v1, v2] R W = S.rostrumref1_Reader_Num.body R v0 v1 v2 W := by kernel_rfl
theorem S.rostrumref1_Reader_Num.fn : PR.funcs[F_rostrumref1_Reader_Num]? = some Try.f50 := by kernel_rfl
theorem S.rostrumref1_Reader_Num.call {R : Value → World → Prop} {v0 v1 v2 : Value} {W : World} (h : S.rostrumref1_Reader_Num.body R v0 v1 v2 W) : callK PR F_rostrumref1_Reader_Num [v0, v1, v2] R W :=
  callK_of_body (g := F_rostrumref1_Reader_Num) (fn := Try.f50) (args := [v0, v1, v2]) (R := R) (w := W) mixed CBok S.rostrumref1_Reader_Num.fn S.rostrumref1_Reader_Num.hint (by rw [S.rostrumref1_Reader_Num.ok]; exact h)
/-! ### (*rostrum/rostrumref1.Reader).Bytes (57) -/
def S.rostrumref1_Reader_Bytes.body (R : Value → World → Prop) (v0 v1 : Value) (W : World) : Prop :=
  callK PR F_rostrumref1_Reader_Num [v0, (.int .i64 0), v1] (fun v9 W =>
  okF (nilP v0) fun v11 =>
  okF (addrF 2 v11) fun v12 =>
  rdK PR (Instr.loadAt T_bool v12) (fun v13 W =>
  gdK (wantd v13 false) (fun k W => k v9 W) (fun v15 W =>
  gdK (wantd v13 false) (fun k W => k v0 W) (fun v16 W =>
  gdK (wantd v13 false) (fun k W => okF (nilP v16) fun v => k v W) (fun v17 W =>
  gdK (wantd v13 false) (fun k W => okF (addrF 0 v17) fun v => k v W) (fun v18 W =>
  gdK (wantd v13 false) (fun k W => rdK PR (Instr.loadAt T_s_uint8 v18) k W) (fun v19 W =>
  gdK (wantd v13 false) (fun k W => okF (lenP (.slice T_uint8) v19) fun v => k v W) (fun v20 W =>
  gdK (wantd v13 false) (fun k W => k v0 W) (fun v21 W =>
  gdK (wantd v13 false) (fun k W => okF (nilP v21) fun v => k v W) (fun v22 W =>
  gdK (wantd v13 false) (fun k W => okF (addrF 1 v22) fun v => k v W) (fun v23 W =>
  gdK (wantd v13 false) (fun k W => rdK PR (Instr.loadAt T_int v23) k W) (fun v24 W =>
  gdK (wantd v13 false) (fun k W => okF (binP .sub v20 v24) fun v => k v W) (fun v25 W =>
  gdK (wantd v13 false) (fun k W => okF (binP .gtr v15 v25) fun v => k v W) (fun v26 W =>
  okF (pickP v13 (.bool true) v26) fun v27 =>
  ifK v27 (
  okF (nilP v0) fun v29 =>
  okF (addrF 2 v29) fun v30 =>
  efK PR (Instr.storeAt T_bool v30 (.bool true)) (fun _ W =>
  R (.slice none 0 0) W) W) (
  okF (nilP v0) fun v33 =>
  okF (addrF 0 v33) fun v34 =>
  rdK PR (Instr.loadAt T_s_uint8 v34) (fun v35 W =>
  okF (nilP v0) fun v37 =>
  okF (addrF 1 v37) fun v38 =>
  rdK PR (Instr.loadAt T_int v38) (fun v39 W =>
  okF (nilP v0) fun v41 =>
  okF (addrF 1 v41) fun v42 =>
  rdK PR (Instr.loadAt T_int v42) (fun v43 W =>
  okF (binP .add v43 v9) fun v45 =>
  okF (slcS 1 v35 (some v39) (some v45) none) fun v46 =>
  efK PR (Instr.buildSlice T_s_uint8 0 #[]) (fun v31 W =>
  stb PR [(12, true, (Instr.loadAt T_int v42), v43), (8, true, (Instr.loadAt T_int v38), v39), (4, true, (Instr.loadAt T_s_uint8 v34), v35)] (fun W =>
  efK PR (Builtin.append_ #[T_s_uint8, T_s_uint8] T_s_uint8 #[v31, v46]) (fun v47 W =>
  okF (nilP v0) fun v50 =>
  okF (addrF 1 v50) fun v51 =>
  rdK PR (Instr.loadAt T_int v51) (fun v52 W =>
  okF (binP .add v52 v9) fun v54 =>
  okF (nilP v0) fun v55 =>
  okF (addrF 1 v55) fun v56 =>
  efK PR (Instr.storeAt T_int v56 v54) (fun _ W =>
  R v47 W) W) W) W) W) W) W) W) (tick W))) W) W) W) W) W) W) W) W) W) W) W) W) (tick W)) W
def S.rostrumref1_Reader_Bytes.hint : Hint := (.two .nil (.two .nil (.two (.two .nil (.two (.two .nil (.two .nil .nil)) .nil)) (.two .nil (.two .nil (.two .nil .nil))))))
theorem S.rostrumref1_Reader_Bytes.ok (R : Value → World → Prop) (v0 v1 : Value) (W : World) : bodyK PR CB Try.f57 S.rostrumref1_Reader_Bytes.hint [v0, v1] R W = S.rostrumref1_Reader_Bytes.body R v0 v1 W := by kernel_rfl
theorem S.rostrumref1_Reader_Bytes.fn : PR.funcs[F_rostrumref1_Reader_Bytes]? = some Try.f57 := by kernel_rfl
theorem S.rostrumref1_Reader_Bytes.call {R : Value → World → Prop} {v0 v1 : Value} {W : World} (h : S.rostrumref1_Reader_Bytes.body R v0 v1 W) : callK PR F_rostrumref1_Reader_Bytes [v0, v1] R W :=
  callK_of_body (g := F_rostrumref1_Reader_Bytes) (fn := Try.f57) (args := [v0, v1]) (R := R) (w := W) mixed CBok S.rostrumref1_Reader_Bytes.fn S.rostrumref1_Reader_Bytes.hint (by rw [S.rostrumref1_Reader_Bytes.ok]; exact h)
/-! ### (*rostrum/rostrumref1.Reader).End (39) -/
def S.rostrumref1_Reader_End.body (R : Value → World → Prop) (v0 : Value) (W : World) : Prop :=
  okF (nilP v0) fun v4 =>
  okF (addrF 2 v4) fun v5 =>
  rdK PR (Instr.loadAt T_bool v5) (fun v6 W =>
  okF (unP .not v6) fun v7 =>
  gdK (wantd v7 true) (fun k W => k v0 W) (fun v9 W =>
  gdK (wantd v7 true) (fun k W => okF (nilP v9) fun v => k v W) (fun v10 W =>
  gdK (wantd v7 true) (fun k W => okF (addrF 1 v10) fun v => k v W) (fun v11 W =>
  gdK (wantd v7 true) (fun k W => rdK PR (Instr.loadAt T_int v11) k W) (fun v12 W =>
  gdK (wantd v7 true) (fun k W => k v0 W) (fun v13 W =>
  gdK (wantd v7 true) (fun k W => okF (nilP v13) fun v => k v W) (fun v14 W =>
  gdK (wantd v7 true) (fun k W => okF (addrF 0 v14) fun v => k v W) (fun v15 W =>
  gdK (wantd v7 true) (fun k W => rdK PR (Instr.loadAt T_s_uint8 v15) k W) (fun v16 W =>
  gdK (wantd v7 true) (fun k W => okF (lenP (.slice T_uint8) v16) fun v => k v W) (fun v17 W =>
  gdK (wantd v7 true) (fun k W => okF (binP .eql v12 v17) fun v => k v W) (fun v18 W =>
  okF (pickP v7 v18 (.bool false)) fun v19 =>
  R v19 W) W) W) W) W) W) W) W) W) W) W) (tick W)
def S.rostrumref1_Reader_End.hint : Hint := (.two .nil (.two .nil .nil))
theorem S.rostrumref1_Reader_End.ok (R : Value → World → Prop) (v0 : Value) (W : World) : bodyK PR CB Try.f39 S.rostrumref1_Reader_End.hint [v0] R W = S.rostrumref1_Reader_End.body R v0 W := by kernel_rfl
theorem S.rostrumref1_Reader_End.fn : PR.funcs[F_rostrumref1_Reader_End]? = some Try.f39 := by kernel_rfl
theorem S.rostrumref1_Reader_End.call {R : Value → World → Prop} {v0 : Value} {W : World} (h : S.rostrumref1_Reader_End.body R v0 W) : callK PR F_rostrumref1_Reader_End [v0] R W :=
  callK_of_body (g := F_rostrumref1_Reader_End) (fn := Try.f39) (args := [v0]) (R := R) (w := W) mixed CBok S.rostrumref1_Reader_End.fn S.rostrumref1_Reader_End.hint (by rw [S.rostrumref1_Reader_End.ok]; exact h)
/-! ### rostrum/rostrumref1.Num (51) -/
def S.rostrumref1_Num.j2 (R : Value → World → Prop) (x5 x6 : Value) (W : World) : Prop :=
  okF (cvtP (.int .u8) x5) fun v30 =>
  efK PR (Instr.buildSlice T_s_uint8 1 #[(0, v30)]) (fun v31 W =>
  efK PR (Builtin.append_ #[T_s_uint8, T_s_uint8] T_s_uint8 #[x6, v31]) (fun v32 W =>
  R v32 W) W) W
def S.rostrumref1_Num.l1 (J2 : List Value → World → Prop) (K1 : List Value → World → Prop) (x5 x6 : Value) (W : World) : Prop :=
  okF (binP .geq x5 (.int .u64 128)) fun v18 =>
  ifK v18 (
  okF (binP .rem x5 (.int .u64 128)) fun v21 =>
  okF (cvtP (.int .u8) v21) fun v22 =>
  okF (binP .add v22 (.int .u8 128)) fun v23 =>
  efK PR (Instr.buildSlice T_s_uint8 1 #[(0, v23)]) (fun v24 W =>
  efK PR (Builtin.append_ #[T_s_uint8, T_s_uint8] T_s_uint8 #[x6, v24]) (fun v25 W =>
  okF (binP .quo x5 (.int .u64 128)) fun v27 =>
  K1 [v27, v25] W) W) W) (
  J2 [x5, x6] W)
def S.rostrumref1_Num.j1 (R : Value → World → Prop) (x0 x5 : Value) (W : World) : Prop :=
  efK PR (Instr.buildSlice T_s_uint8 0 #[]) (fun v14 W =>
  efK PR (Builtin.append_ #[T_s_uint8, T_s_uint8] T_s_uint8 #[v14, x0]) (fun v16 W =>
  joinK (fun s W => S.rostrumref1_Num.j2 R (nthv s 0) (nthv s 1) W) (fun J2 =>
  loopK (fun K1 s W => S.rostrumref1_Num.l1 J2 K1 (nthv s 0) (nthv s 1) W) [x5, v16] W)) W) W
def S.rostrumref1_Num.body (R : Value → World → Prop) (v0 v1 : Value) (W : World) : Prop :=
  okF (cvtP (.int .u64) v1) fun v8 =>
  okF (binP .shl v8 (.int .u64 1)) fun v9 =>
  joinK (fun s W => S.rostrumref1_Num.j1 R (nthv s 0) (nthv s 1) W) (fun J1 =>
  okF (binP .lss v1 (.int .i64 0)) fun v11 =>
  ifK v11 (
  okF (unP .xor v9) fun v13 =>
  J1 [v0, v13] W) (
  J1 [v0, v9] W))
def S.rostrumref1_Num.hint : Hint := (.two .nil (.two .nil (.at [0, 5] (.two .nil (.two .nil .nil)) (.two .nil (.at [5, 6] (.at [5, 6] (.two (.two .nil (.two .nil .nil)) (.two .nil .nil)) .nil) (.two .nil .nil))))))
theorem S.rostrumref1_Num.ok (R : Value → World → Prop) (v0 v1 : Value) (W : World) : bodyK PR CB Try.f51 S.rostrumref1_Num.hint [v0, v1] R W = S.rostrumref1_Num.body R v0 v1 W := by kernel_rfl
theorem S.rostrumref1_Num.fn : PR.funcs[F_rostrumref1_Num]? = some Try.f51 := by kernel_rfl
theorem S.rostrumref1_Num.call {R : Value → World → Prop} {v0 v1 : Value} {W : World} (h : S.rostrumref1_Num.body R v0 v1 W) : callK PR F_rostrumref1_Num [v0, v1] R W :=
  callK_of_body (g := F_rostrumref1_Num) (fn := Try.f51) (args := [v0, v1]) (R := R) (w := W) mixed CBok S.rostrumref1_Num.fn S.rostrumref1_Num.hint (by rw [S.rostrumref1_Num.ok]; exact h)
/-! ### rostrum/rostrumref1.Bytes (56) -/
def S.rostrumref1_Bytes.body (R : Value → World → Prop) (v0 v1 : Value) (W : World) : Prop :=
  okF (lenP (.slice T_uint8) v1) fun v7 =>
  callK PR F_rostrumref1_Num [v0, v7] (fun v8 W =>
  efK PR (Builtin.append_ #[T_s_uint8, T_s_uint8] T_s_uint8 #[v8, v1]) (fun v10 W =>
  R v10 W) W) W
def S.rostrumref1_Bytes.hint : Hint := (.two .nil (.two .nil .nil))
theorem S.rostrumref1_Bytes.ok (R : Value → World → Prop) (v0 v1 : Value) (W : World) : bodyK PR CB Try.f56 S.rostrumref1_Bytes.hint [v0, v1] R W = S.rostrumref1_Bytes.body R v0 v1 W := by kernel_rfl
theorem S.rostrumref1_Bytes.fn : PR.funcs[F_rostrumref1_Bytes]? = some Try.f56 := by kernel_rfl
theorem S.rostrumref1_Bytes.call {R : Value → World → Prop} {v0 v1 : Value} {W : World} (h : S.rostrumref1_Bytes.body R v0 v1 W) : callK PR F_rostrumref1_Bytes [v0, v1] R W :=
  callK_of_body (g := F_rostrumref1_Bytes) (fn := Try.f56) (args := [v0, v1]) (R := R) (w := W) mixed CBok S.rostrumref1_Bytes.fn S.rostrumref1_Bytes.hint (by rw [S.rostrumref1_Bytes.ok]; exact h)
/-! ### rostrum/pack.Read (23) -/
def S.pack_Read.body (R : Value → World → Prop) (v0 : Value) (W : World) : Prop :=
  callK PR F_bytes_Clone [v0] (fun v4 W =>
  okF (bldP (fun i => ([(0, 1), (1, 1)] : List (Nat × Nat))[i]?) [.slice none 0 0, .bool false] [(0, v4)]) fun v5 =>
  efK PR (Instr.box T_pack_Reader v5) (fun v6 W =>
  R v6 W) W) W
def S.pack_Read.hint : Hint := (.two .nil (.two .nil .nil))
theorem S.pack_Read.ok (R : Value → World → Prop) (v0 : Value) (W : World) : bodyK PR CB Try.f23 S.pack_Read.hint [v0] R W = S.pack_Read.body R v0 W := by kernel_rfl
theorem S.pack_Read.fn : PR.funcs[F_pack_Read]? = some Try.f23 := by kernel_rfl
theorem S.pack_Read.call {R : Value → World → Prop} {v0 : Value} {W : World} (h : S.pack_Read.body R v0 W) : callK PR F_pack_Read [v0] R W :=
  callK_of_body (g := F_pack_Read) (fn := Try.f23) (args := [v0]) (R := R) (w := W) mixed CBok S.pack_Read.fn S.pack_Read.hint (by rw [S.pack_Read.ok]; exact h)
/-! ### rostrum/pack.Text (53) -/
def S.pack_Text.body (R : Value → World → Prop) (v0 v1 : Value) (W : World) : Prop :=
  efK PR (convert T_string T_s_uint8 v1) (fun v7 W =>
  callK PR F_pack_Bytes [v0, v7] (fun v8 W =>
  R v8 W) W) W
def S.pack_Text.hint : Hint := (.two .nil (.two .nil .nil))
theorem S.pack_Text.ok (R : Value → World → Prop) (v0 v1 : Value) (W : World) : bodyK PR CB Try.f53 S.pack_Text.hint [v0, v1] R W = S.pack_Text.body R v0 v1 W := by kernel_rfl
theorem S.pack_Text.fn : PR.funcs[F_pack_Text]? = some Try.f53 := by kernel_rfl
theorem S.pack_Text.call {R : Value → World → Prop} {v0 v1 : Value} {W : World} (h : S.pack_Text.body R v0 v1 W) : callK PR F_pack_Text [v0, v1] R W :=
  callK_of_body (g := F_pack_Text) (fn := Try.f53) (args := [v0, v1]) (R := R) (w := W) mixed CBok S.pack_Text.fn S.pack_Text.hint (by rw [S.pack_Text.ok]; exact h)
/-! ### (*rostrum/pack.Reader).Text (52) -/
def S.pack_Reader_Text.body (R : Value → World → Prop) (v0 v1 : Value) (W : World) : Prop :=
  callK PR F_pack_Reader_Bytes [v0, v1] (fun v7 W =>
  rdK PR (convert T_s_uint8 T_string v7) (fun v8 W =>
  R v8 W) W) W
def S.pack_Reader_Text.hint : Hint := (.two .nil (.two .nil .nil))
theorem S.pack_Reader_Text.ok (R : Value → World → Prop) (v0 v1 : Value) (W : World) : bodyK PR CB Try.f52 S.pack_Reader_Text.hint [v0, v1] R W = S.pack_Reader_Text.body R v0 v1 W := by kernel_rfl
theorem S.pack_Reader_Text.fn : PR.funcs[F_pack_Reader_Text]? = some Try.f52 := by kernel_rfl
theorem S.pack_Reader_Text.call {R : Value → World → Prop} {v0 v1 : Value} {W : World} (h : S.pack_Reader_Text.body R v0 v1 W) : callK PR F_pack_Reader_Text [v0, v1] R W :=
  callK_of_body (g := F_pack_Reader_Text) (fn := Try.f52) (args := [v0, v1]) (R := R) (w := W) mixed CBok S.pack_Reader_Text.fn S.pack_Reader_Text.hint (by rw [S.pack_Reader_Text.ok]; exact h)
end Go.Proofs.Ytfmidjlgpakilaa
