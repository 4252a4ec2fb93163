/- Texts of the claim WalPlays, joined: ShCont, CWal5, CWal6, CWal7, CWal8, CWal4, Srt. -/
import Derived.Test.YthladblmjoaeoaaBWalPlays1
import Derived.Test.YthladblmjoaeoaaBWalPlays4
import Derived.Test.YthladblmjoaeoaaBWalPlays5
import Derived.Shelf.SlSortCmp.NoneTotal
namespace Go.Proofs.Ythladblmjoaeoaa
set_option linter.unusedVariables false
set_option linter.unusedSimpArgs false
open Go.Eng
/-! ### slices.Contains[[]int,int] (70) -/
def S.slices_Contains_int_int.body (R : Value → World → Prop) (v0 v1 : Value) (W : World) : Prop :=
  callK PR F_slices_Index_int_int [v0, v1] (fun v7 W =>
  okF (binP .geq v7 (.int .i64 0)) fun v8 =>
  R v8 W) W
def S.slices_Contains_int_int.hint : Hint := (.two .nil (.two .nil .nil))
theorem S.slices_Contains_int_int.ok (R : Value → World → Prop) (v0 v1 : Value) (W : World) : bodyK PR CB Try.f70 S.slices_Contains_int_int.hint [v0, v1] R W = S.slices_Contains_int_int.body R v0 v1 W := by kernel_rfl
theorem S.slices_Contains_int_int.fn : PR.funcs[F_slices_Contains_int_int]? = some Try.f70 := by kernel_rfl
theorem S.slices_Contains_int_int.call {R : Value → World → Prop} {v0 v1 : Value} {W : World} (h : S.slices_Contains_int_int.body R v0 v1 W) : callK PR F_slices_Contains_int_int [v0, v1] R W :=
  callK_of_body (g := F_slices_Contains_int_int) (fn := Try.f70) (args := [v0, v1]) (R := R) (w := W) mixed CBok S.slices_Contains_int_int.fn S.slices_Contains_int_int.hint (by rw [S.slices_Contains_int_int.ok]; exact h)
/-! ### slices.Index[[]int,int] (81) -/
def S.slices_Index_int_int.l1 (R : Value → World → Prop) (K1 : List Value → World → Prop) (x0 x1 x7 x8 : Value) (W : World) : Prop :=
  okF (binP .lss x8 x7) fun v9 =>
  ifK v9 (
  okF (idxS 1 x0 x8) fun v14 =>
  rdK PR (Instr.loadAt T_int v14) (fun v15 W =>
  okF (binP .eql x1 v15) fun v16 =>
  ifK v16 (
  R x8 W) (
  okF (binP .add x8 (.int .i64 1)) fun v18 =>
  K1 [x0, x1, x7, v18] W)) W) (
  R (.int .i64 (-1)) W)
def S.slices_Index_int_int.body (R : Value → World → Prop) (v0 v1 : Value) (W : World) : Prop :=
  okF (lenP (.slice T_int) v0) fun v7 =>
  loopK (fun K1 s W => S.slices_Index_int_int.l1 R K1 (nthv s 0) (nthv s 1) (nthv s 2) (nthv s 3) W) [v0, v1, v7, (.int .i64 0)] W
def S.slices_Index_int_int.hint : Hint := (.two .nil (.two (.two .nil (.at [0, 1, 7, 8] (.two .nil (.two (.two .nil .nil) (.two (.two .nil (.two .nil (.two (.two .nil .nil) .nil))) .nil))) .nil)) (.two .nil .nil)))
theorem S.slices_Index_int_int.ok (R : Value → World → Prop) (v0 v1 : Value) (W : World) : bodyK PR CB Try.f81 S.slices_Index_int_int.hint [v0, v1] R W = S.slices_Index_int_int.body R v0 v1 W := by kernel_rfl
theorem S.slices_Index_int_int.fn : PR.funcs[F_slices_Index_int_int]? = some Try.f81 := by kernel_rfl
theorem S.slices_Index_int_int.call {R : Value → World → Prop} {v0 v1 : Value} {W : World} (h : S.slices_Index_int_int.body R v0 v1 W) : callK PR F_slices_Index_int_int [v0, v1] R W :=
  callK_of_body (g := F_slices_Index_int_int) (fn := Try.f81) (args := [v0, v1]) (R := R) (w := W) mixed CBok S.slices_Index_int_int.fn S.slices_Index_int_int.hint (by rw [S.slices_Index_int_int.ok]; exact h)
end Go.Proofs.Ythladblmjoaeoaa
namespace Go.Proofs.Ythladblmjoaeoaa
set_option linter.unusedVariables false
set_option linter.unusedSimpArgs false
open Go Go.Eng

/-- a log, as it lies -/
structure LG where
  na : Option Addr
  nc : Nat
  da : Option Addr
  dc : Nat
  bb : BSl
  ra : Option Addr
  rc : Nat
  rows : List BSl
def lg (q dp : Nat) (l : LS) : Asn := fun h => ∃ x : LG, (x.bb.bs = l.base ∧ x.rows.map (·.bs) = l.recs) ∧
  sep [cells q [.pointer (some ⟨dp, 0, none⟩), .int .i64 l.part, .int .i64 l.lives, .int .u64 (l.turn : Int), .slice x.na l.nums.length x.nc, .int .i64 l.cur, .int .i64 l.count, .int .i64 l.index, .slice x.da l.dirty.length x.dc, .slice x.bb.a x.bb.bs.length x.bb.c, .slice x.ra x.rows.length x.rc, .bool l.full] T_wal_Log,
    arr I64 T_int x.na x.nc l.nums, arr I64 T_int x.da x.dc l.dirty, fch x.bb, arr BSY T_s_uint8 x.ra x.rc x.rows, many fch x.rows] h
section
variable {W0 W : World} {L L' L1 L2 : List Asn}
theorem lg_at {q dp : Nat} {l : LS} (h : St W0 (lg q dp l :: L) W) : ∃ na nc da dc bb ra rc rows, bb.bs = l.base ∧ rows.map (fun x : BSl => x.bs) = l.recs ∧
    St W0 (cells q [.pointer (some ⟨dp, 0, none⟩), .int .i64 l.part, .int .i64 l.lives, .int .u64 (l.turn : Int), .slice na l.nums.length nc, .int .i64 l.cur, .int .i64 l.count, .int .i64 l.index, .slice da l.dirty.length dc, .slice bb.a bb.bs.length bb.c, .slice ra rows.length rc, .bool l.full] T_wal_Log ::
    arr I64 T_int na nc l.nums :: arr I64 T_int da dc l.dirty :: fch bb :: arr BSY T_s_uint8 ra rc rows :: many fch rows :: L) W := by
  obtain ⟨x, h⟩ := h.ex
  obtain ⟨h1, h⟩ := h.fact
  exact ⟨x.na, x.nc, x.da, x.dc, x.bb, x.ra, x.rc, x.rows, h1.1, h1.2, h.flat⟩
theorem lg_ent {q dp : Nat} {l : LS} {na da ra : Option Addr} {nc dc rc : Nat} {bb : BSl} {rows : List BSl} (h1 : bb.bs = l.base) (h2 : rows.map (fun x : BSl => x.bs) = l.recs) :
    ent (cells q [.pointer (some ⟨dp, 0, none⟩), .int .i64 l.part, .int .i64 l.lives, .int .u64 (l.turn : Int), .slice na l.nums.length nc, .int .i64 l.cur, .int .i64 l.count, .int .i64 l.index, .slice da l.dirty.length dc, .slice bb.a bb.bs.length bb.c, .slice ra rows.length rc, .bool l.full] T_wal_Log ::
    arr I64 T_int na nc l.nums :: arr I64 T_int da dc l.dirty :: fch bb :: arr BSY T_s_uint8 ra rc rows :: many fch rows :: L) (lg q dp l :: L) :=
  (ent.pack [_, _, _, _, _, _] L).trans (ent.weak fun _ hp => ⟨⟨na, nc, da, dc, bb, ra, rc, rows⟩, ⟨h1, h2⟩, hp⟩)
theorem lg_dk {q dp : Nat} {l : LS} {na da ra : Option Addr} {nc dc rc : Nat} {bb : BSl} {rows : List BSl} {x : Asn} (h1 : bb.bs = l.base) (h2 : rows.map (fun x : BSl => x.bs) = l.recs) :
    ent (x :: cells q [.pointer (some ⟨dp, 0, none⟩), .int .i64 l.part, .int .i64 l.lives, .int .u64 (l.turn : Int), .slice na l.nums.length nc, .int .i64 l.cur, .int .i64 l.count, .int .i64 l.index, .slice da l.dirty.length dc, .slice bb.a bb.bs.length bb.c, .slice ra rows.length rc, .bool l.full] T_wal_Log ::
    arr I64 T_int na nc l.nums :: arr I64 T_int da dc l.dirty :: fch bb :: arr BSY T_s_uint8 ra rc rows :: many fch rows :: L) (lg q dp l :: x :: L) :=
  (ent.cons x (lg_ent h1 h2)).trans (ent.swap _ _ _)
/-- the log ahead, the disk behind it -/
theorem lg_two {q dp : Nat} {l : LS} {d : DS} (h : St W0 L W) (hl : Tk (lg q dp) L l L1) (hd : Tk (dk dp) L1 d L2) : St W0 (lg q dp l :: dk dp d :: L2) W := (h.perm hl.perm).ent (ent.cons _ (ent.perm hd.perm))
/-- the log's chunks, wherever they stand -/
theorem lg_mk (q dp : Nat) (l : LS) {La Lb Lc Ld Le Lf : List Asn} (na : Option Addr) (nc : Nat) (da : Option Addr) (dc : Nat) (bb : BSl) (ra : Option Addr) (rc : Nat) (rows : List BSl) (h : St W0 L W) (h1 : bb.bs = l.base) (h2 : rows.map (fun x : BSl => x.bs) = l.recs)
    [p1 : Pk (cells q [.pointer (some ⟨dp, 0, none⟩), .int .i64 l.part, .int .i64 l.lives, .int .u64 (l.turn : Int), .slice na l.nums.length nc, .int .i64 l.cur, .int .i64 l.count, .int .i64 l.index, .slice da l.dirty.length dc, .slice bb.a bb.bs.length bb.c, .slice ra rows.length rc, .bool l.full] T_wal_Log) L La]
    [p2 : Pk (arr I64 T_int na nc l.nums) La Lb] [p3 : Pk (arr I64 T_int da dc l.dirty) Lb Lc] [p4 : Pk (fch bb) Lc Ld] [p5 : Pk (arr BSY T_s_uint8 ra rc rows) Ld Le] [p6 : Pk (many fch rows) Le Lf] : St W0 (lg q dp l :: Lf) W :=
  (((((((h.perm p1.perm).ent (ent.cons _ (ent.perm p2.perm))).ent (ent.cons _ (ent.cons _ (ent.perm p3.perm)))).ent (ent.cons _ (ent.cons _ (ent.cons _ (ent.perm p4.perm))))).ent (ent.cons _ (ent.cons _ (ent.cons _ (ent.cons _ (ent.perm p5.perm)))))).ent (ent.cons _ (ent.cons _ (ent.cons _ (ent.cons _ (ent.cons _ (ent.perm p6.perm))))))).ent (lg_ent h1 h2))
theorem St.manyPush {β : Type} {F : β → Asn} (x : β) (rows : List β) {La Lb : List Asn} (h : St W0 L W) [p1 : Pk (F x) L La] [p2 : Pk (many F rows) La Lb] : St W0 (many F (rows ++ [x]) :: Lb) W :=
  ((h.perm p1.perm).ent (ent.cons _ (ent.perm p2.perm))).ent ((many_uncons (F := F) x rows).trans (many_perm (F := F) (List.perm_append_singleton _ _).symm))
theorem ent.rot4 (a b c d : Asn) (L : List Asn) : ent (a :: b :: c :: d :: L) (b :: c :: d :: a :: L) := (ent.rot3 a b c _).trans (ent.cons b (ent.cons c (ent.swap a d L)))
theorem contI {a : Option Addr} {c : Nat} {l : List Int} {x : Int} {k : Value → World → Prop} (h : St W0 L W) [hr : Rd W0 L a I64 l] (hl : l.length < 4611686018427387904) (hk : ∀ W', St W0 L W' → k (.bool (decide (x ∈ l))) W') : callK PR F_slices_Contains_int_int [.slice a l.length c, .int .i64 x] k W := by
  apply S.slices_Contains_int_int.call
  unfold S.slices_Contains_int_int.body
  apply S.slices_Index_int_int.call
  unfold S.slices_Index_int_int.body
  simp -implicitDefEqProofs only [SE, SU, SV]
  refine loop_c (σ := Unit) l.length (fun i _ => [.slice a l.length c, .int .i64 x, .int .i64 (l.length : Int), .int .i64 (i : Int)]) (fun i _ W1 => x ∉ l.take i ∧ St W0 L W1) () rfl ⟨by simp, h⟩ ?_
  clear h
  rintro K i _ W1 hi ⟨hno, h⟩ hK
  simp -implicitDefEqProofs only [SE, SU, SV]
  unfold S.slices_Index_int_int.l1
  by_cases hlt : (i : Int) < (l.length : Int)
  · have hib : i < l.length := by omega
    have ew : IntKind.i64.wrap ((i : Int) + 1) = ((i + 1 : Nat) : Int) := by rw [i64w]; omega
    (repeat (first | (first | ((with_reducible first | refine w1 ?_ | refine w3 ?_ | refine w4 ?_ | refine w11 ?_ | refine stb_n ?_); intros) | ((with_reducible first | refine v5 ?_ | refine v6 ?_ | refine v7 ?_ | refine ve ?_ | refine vn ?_); refine ⟨_, rfl, ?_⟩) | ((with_reducible first | refine v8 ?_ ?_ | refine v9 ?_ ?_ | refine v10 ?_ ?_ | refine v12 ?_ ?_); exact rfl; intros) | ((with_reducible refine w2 ?_); try simp -implicitDefEqProofs only [SE, SU, SV, hlt]; intros) | ((with_reducible refine w5 ?_ ?_); simp; refine ⟨_, rfl, ?_⟩) | ((with_reducible refine w12 ?_ ?_ ?_ ?_); simp; simp; simp [oneC]; intros) | (refine okF_i (bldP_eq rfl) ?_; try simp only [BLS, SB, Nat.reduceAdd])) | simp -implicitDefEqProofs only [SE, SU, SV, hlt]))
    refine ixA (i := i) (a := a) (l := l) (A := I64) h rfl rfl hib fun g o ha => ?_
    cases ha
    refine ldA0 (i := i) (l := l) (A := I64) h rfl hib (v := .int .i64 l[i]) rfl (by simp) ?_
    by_cases he : x = l[i]
    · have f1 := decide_eq_true he
      have f2 : decide ((0 : Int) ≤ (i : Int)) = true := decide_eq_true (by omega)
      have f3 : decide (x ∈ l) = true := decide_eq_true (by rw [he]; exact List.getElem_mem hib)
      rw [f3] at hk
      (repeat (first | (first | ((with_reducible first | refine w1 ?_ | refine w3 ?_ | refine w4 ?_ | refine w11 ?_ | refine stb_n ?_); intros) | ((with_reducible first | refine v5 ?_ | refine v6 ?_ | refine v7 ?_ | refine ve ?_ | refine vn ?_); refine ⟨_, rfl, ?_⟩) | ((with_reducible first | refine v8 ?_ ?_ | refine v9 ?_ ?_ | refine v10 ?_ ?_ | refine v12 ?_ ?_); exact rfl; intros) | ((with_reducible refine w2 ?_); try simp -implicitDefEqProofs only [SE, SU, SV, f1, f2]; intros) | ((with_reducible refine w5 ?_ ?_); simp; refine ⟨_, rfl, ?_⟩) | ((with_reducible refine w12 ?_ ?_ ?_ ?_); simp; simp; simp [oneC]; intros) | (refine okF_i (bldP_eq rfl) ?_; try simp only [BLS, SB, Nat.reduceAdd])) | simp -implicitDefEqProofs only [SE, SU, SV, f1, f2]))
      exact hk _ h
    · have f1 := decide_eq_false he
      (repeat (first | (first | ((with_reducible first | refine w1 ?_ | refine w3 ?_ | refine w4 ?_ | refine w11 ?_ | refine stb_n ?_); intros) | ((with_reducible first | refine v5 ?_ | refine v6 ?_ | refine v7 ?_ | refine ve ?_ | refine vn ?_); refine ⟨_, rfl, ?_⟩) | ((with_reducible first | refine v8 ?_ ?_ | refine v9 ?_ ?_ | refine v10 ?_ ?_ | refine v12 ?_ ?_); exact rfl; intros) | ((with_reducible refine w2 ?_); try simp -implicitDefEqProofs only [SE, SU, SV, f1, ew]; intros) | ((with_reducible refine w5 ?_ ?_); simp; refine ⟨_, rfl, ?_⟩) | ((with_reducible refine w12 ?_ ?_ ?_ ?_); simp; simp; simp [oneC]; intros) | (refine okF_i (bldP_eq rfl) ?_; try simp only [BLS, SB, Nat.reduceAdd])) | simp -implicitDefEqProofs only [SE, SU, SV, f1, ew]))
      refine hK () _ hib ⟨?_, h⟩
      rw [take_snoc hib, List.mem_append, List.mem_singleton]
      rintro (h1 | h1)
      · exact hno h1
      · exact he h1
  · have e : l.take i = l := List.take_of_length_le (by omega)
    rw [e] at hno
    have f3 : decide (x ∈ l) = false := decide_eq_false hno
    rw [f3] at hk
    (repeat (first | (first | ((with_reducible first | refine w1 ?_ | refine w3 ?_ | refine w4 ?_ | refine w11 ?_ | refine stb_n ?_); intros) | ((with_reducible first | refine v5 ?_ | refine v6 ?_ | refine v7 ?_ | refine ve ?_ | refine vn ?_); refine ⟨_, rfl, ?_⟩) | ((with_reducible first | refine v8 ?_ ?_ | refine v9 ?_ ?_ | refine v10 ?_ ?_ | refine v12 ?_ ?_); exact rfl; intros) | ((with_reducible refine w2 ?_); try simp -implicitDefEqProofs only [SE, SU, SV, hlt]; intros) | ((with_reducible refine w5 ?_ ?_); simp; refine ⟨_, rfl, ?_⟩) | ((with_reducible refine w12 ?_ ?_ ?_ ?_); simp; simp; simp [oneC]; intros) | (refine okF_i (bldP_eq rfl) ?_; try simp only [BLS, SB, Nat.reduceAdd])) | simp -implicitDefEqProofs only [SE, SU, SV, hlt]))
    exact hk _ h
variable {q dp : Nat} {l : LS} {d : DS} {k : Value → World → Prop}
theorem walDone (h : St W0 L W) [hl : Tk (lg q dp) L l L1] [hd : Tk (dk dp) L1 d L2] (hk : ∀ W', St W0 (lg q dp l :: dk dp d :: L2) W' → k (.bool (l.done d)) W') : callK PR F_wal_Log_Done [.pointer (some ⟨q, 0, none⟩)] k W := by
  apply S.wal_Log_Done.call
  unfold S.wal_Log_Done.body
  obtain ⟨na, nc, da, dc, bb, ra, rc, rows, hb, hrw, h⟩ := lg_at (lg_two h hl hd)
  unfold LS.done at hk
  cases hf : l.full with
  | true =>
    rw [hf] at hk h
    (repeat (first | (first | ((with_reducible first | refine w1 ?_ | refine w3 ?_ | refine w4 ?_ | refine w11 ?_ | refine stb_n ?_); intros) | ((with_reducible first | refine v5 ?_ | refine v6 ?_ | refine v7 ?_ | refine ve ?_ | refine vn ?_); refine ⟨_, rfl, ?_⟩) | ((with_reducible first | refine v8 ?_ ?_ | refine v9 ?_ ?_ | refine v10 ?_ ?_ | refine v12 ?_ ?_); exact rfl; intros) | ((with_reducible refine w2 ?_); try simp -implicitDefEqProofs only [SE, SU, SV]; intros) | ((with_reducible refine w5 ?_ ?_); simp; refine ⟨_, rfl, ?_⟩) | ((with_reducible refine w12 ?_ ?_ ?_ ?_); simp; simp; simp [oneC]; intros) | (refine okF_i (bldP_eq rfl) ?_; try simp only [BLS, SB, Nat.reduceAdd])) | simp -implicitDefEqProofs only [SE, SU, SV]))
    rename_i h
    exact hk _ ((St.tick h).ent (hf ▸ lg_ent hb hrw))
  | false =>
    have hend : ∀ W1, St W0 (cells q [.pointer (some ⟨dp, 0, none⟩), .int .i64 l.part, .int .i64 l.lives, .int .u64 (l.turn : Int), .slice na l.nums.length nc, .int .i64 l.cur, .int .i64 l.count, .int .i64 l.index, .slice da l.dirty.length dc, .slice bb.a bb.bs.length bb.c, .slice ra rows.length rc, .bool false] T_wal_Log ::
        arr I64 T_int na nc l.nums :: arr I64 T_int da dc l.dirty :: fch bb :: arr BSY T_s_uint8 ra rc rows :: many fch rows :: dk dp d :: L2) W1 → St W0 (lg q dp l :: dk dp d :: L2) W1 := fun W1 h => h.ent (hf ▸ lg_ent hb hrw)
    rw [hf] at hk h
    (repeat (first | (first | ((with_reducible first | refine w1 ?_ | refine w3 ?_ | refine w4 ?_ | refine w11 ?_ | refine stb_n ?_); intros) | ((with_reducible first | refine v5 ?_ | refine v6 ?_ | refine v7 ?_ | refine ve ?_ | refine vn ?_); refine ⟨_, rfl, ?_⟩) | ((with_reducible first | refine v8 ?_ ?_ | refine v9 ?_ ?_ | refine v10 ?_ ?_ | refine v12 ?_ ?_); exact rfl; intros) | ((with_reducible refine w2 ?_); try simp -implicitDefEqProofs only [SE, SU, SV]; intros) | ((with_reducible refine w5 ?_ ?_); simp; refine ⟨_, rfl, ?_⟩) | ((with_reducible refine w12 ?_ ?_ ?_ ?_); simp; simp; simp [oneC]; intros) | (refine okF_i (bldP_eq rfl) ?_; try simp only [BLS, SB, Nat.reduceAdd])) | simp -implicitDefEqProofs only [SE, SU, SV]))
    refine diskPower (d := d) (by first | assumption | exact St.tick (by assumption) | exact St.tick (St.tick (by assumption))) fun W1 h => ?_
    cases ho : d.on with
    | false =>
      rw [ho] at hk
      (repeat (first | (first | ((with_reducible first | refine w1 ?_ | refine w3 ?_ | refine w4 ?_ | refine w11 ?_ | refine stb_n ?_); intros) | ((with_reducible first | refine v5 ?_ | refine v6 ?_ | refine v7 ?_ | refine ve ?_ | refine vn ?_); refine ⟨_, rfl, ?_⟩) | ((with_reducible first | refine v8 ?_ ?_ | refine v9 ?_ ?_ | refine v10 ?_ ?_ | refine v12 ?_ ?_); exact rfl; intros) | ((with_reducible refine w2 ?_); try simp -implicitDefEqProofs only [SE, SU, SV]; intros) | ((with_reducible refine w5 ?_ ?_); simp; refine ⟨_, rfl, ?_⟩) | ((with_reducible refine w12 ?_ ?_ ?_ ?_); simp; simp; simp [oneC]; intros) | (refine okF_i (bldP_eq rfl) ?_; try simp only [BLS, SB, Nat.reduceAdd])) | simp -implicitDefEqProofs only [SE, SU, SV]))
      exact hk _ (hend _ (St.wk (by first | assumption | exact St.tick (by assumption) | exact St.tick (St.tick (by assumption)))))
    | true =>
      rw [ho] at hk
      (repeat (first | (first | ((with_reducible first | refine w1 ?_ | refine w3 ?_ | refine w4 ?_ | refine w11 ?_ | refine stb_n ?_); intros) | ((with_reducible first | refine v5 ?_ | refine v6 ?_ | refine v7 ?_ | refine ve ?_ | refine vn ?_); refine ⟨_, rfl, ?_⟩) | ((with_reducible first | refine v8 ?_ ?_ | refine v9 ?_ ?_ | refine v10 ?_ ?_ | refine v12 ?_ ?_); exact rfl; intros) | ((with_reducible refine w2 ?_); try simp -implicitDefEqProofs only [SE, SU, SV]; intros) | ((with_reducible refine w5 ?_ ?_); simp; refine ⟨_, rfl, ?_⟩) | ((with_reducible refine w12 ?_ ?_ ?_ ?_); simp; simp; simp [oneC]; intros) | (refine okF_i (bldP_eq rfl) ?_; try simp only [BLS, SB, Nat.reduceAdd])) | simp -implicitDefEqProofs only [SE, SU, SV]))
      refine diskLives (d := d) (by first | assumption | exact St.tick (by assumption) | exact St.tick (St.tick (by assumption))) fun W2 h => ?_
      simp only [Bool.not_true, Bool.false_or] at hk
      (repeat (first | (first | ((with_reducible first | refine w1 ?_ | refine w3 ?_ | refine w4 ?_ | refine w11 ?_ | refine stb_n ?_); intros) | ((with_reducible first | refine v5 ?_ | refine v6 ?_ | refine v7 ?_ | refine ve ?_ | refine vn ?_); refine ⟨_, rfl, ?_⟩) | ((with_reducible first | refine v8 ?_ ?_ | refine v9 ?_ ?_ | refine v10 ?_ ?_ | refine v12 ?_ ?_); exact rfl; intros) | ((with_reducible refine w2 ?_); try simp -implicitDefEqProofs only [SE, SU, SV]; intros) | ((with_reducible refine w5 ?_ ?_); simp; refine ⟨_, rfl, ?_⟩) | ((with_reducible refine w12 ?_ ?_ ?_ ?_); simp; simp; simp [oneC]; intros) | (refine okF_i (bldP_eq rfl) ?_; try simp only [BLS, SB, Nat.reduceAdd])) | simp -implicitDefEqProofs only [SE, SU, SV]))
      exact hk _ (hend _ (St.wk (by first | assumption | exact St.tick (by assumption) | exact St.tick (St.tick (by assumption)))))
set_option maxRecDepth 20000 in
theorem walFree (h : St W0 L W) [hl : Tk (lg q dp) L l L1] (hn : l.nums.length < 4611686018427387904) (hk : ∀ W', St W0 (lg q dp l :: L1) W' → k (.int .i64 l.free) W') : callK PR F_wal_Log_free [.pointer (some ⟨q, 0, none⟩)] k W := by
  apply S.wal_Log_free.call
  unfold S.wal_Log_free.body
  have h := h.perm hl.perm
  obtain ⟨N, hN⟩ : ∃ N : Nat, N = 1000 := ⟨_, rfl⟩
  have hf0 : freeGo l.nums 0 (N - 0) = l.free := by rw [hN]; rfl
  refine loop_c (σ := Unit) N (fun i _ => [.pointer (some ⟨q, 0, none⟩), .int .i64 (i : Int)]) (fun i _ W1 => freeGo l.nums i (N - i) = l.free ∧ St W0 (lg q dp l :: L1) W1) () rfl ⟨hf0, h⟩ ?_
  clear h
  rintro K i _ W1 hi ⟨hfr, h⟩ hK
  simp -implicitDefEqProofs only [SE, SU, SV]
  unfold S.wal_Log_free.l1
  by_cases hlt : (i : Int) < 1000
  · have ew : IntKind.i64.wrap ((i : Int) + 1) = ((i + 1 : Nat) : Int) := by rw [i64w]; omega
    obtain ⟨m, hm⟩ : ∃ m, N - i = m + 1 := ⟨999 - i, by omega⟩
    rw [hm, freeGo] at hfr
    obtain ⟨na, nc, da, dc, bb, ra, rc, rows, hb, hrw, h⟩ := lg_at h
    (repeat (first | (first | ((with_reducible first | refine w1 ?_ | refine w3 ?_ | refine w4 ?_ | refine w11 ?_ | refine stb_n ?_); intros) | ((with_reducible first | refine v5 ?_ | refine v6 ?_ | refine v7 ?_ | refine ve ?_ | refine vn ?_); refine ⟨_, rfl, ?_⟩) | ((with_reducible first | refine v8 ?_ ?_ | refine v9 ?_ ?_ | refine v10 ?_ ?_ | refine v12 ?_ ?_); exact rfl; intros) | ((with_reducible refine w2 ?_); try simp -implicitDefEqProofs only [SE, SU, SV, hlt]; intros) | ((with_reducible refine w5 ?_ ?_); simp; refine ⟨_, rfl, ?_⟩) | ((with_reducible refine w12 ?_ ?_ ?_ ?_); simp; simp; simp [oneC]; intros) | (refine okF_i (bldP_eq rfl) ?_; try simp only [BLS, SB, Nat.reduceAdd])) | simp -implicitDefEqProofs only [SE, SU, SV, hlt]))
    refine contI (a := na) (l := l.nums) (by first | assumption | exact St.tick (by assumption) | exact St.tick (St.tick (by assumption))) hn fun W2 h => ?_
    by_cases hc : (i : Int) ∈ l.nums
    · rw [if_pos hc] at hfr
      have f1 := decide_eq_true hc
      (repeat (first | (first | ((with_reducible first | refine w1 ?_ | refine w3 ?_ | refine w4 ?_ | refine w11 ?_ | refine stb_n ?_); intros) | ((with_reducible first | refine v5 ?_ | refine v6 ?_ | refine v7 ?_ | refine ve ?_ | refine vn ?_); refine ⟨_, rfl, ?_⟩) | ((with_reducible first | refine v8 ?_ ?_ | refine v9 ?_ ?_ | refine v10 ?_ ?_ | refine v12 ?_ ?_); exact rfl; intros) | ((with_reducible refine w2 ?_); try simp -implicitDefEqProofs only [SE, SU, SV, f1, ew]; intros) | ((with_reducible refine w5 ?_ ?_); simp; refine ⟨_, rfl, ?_⟩) | ((with_reducible refine w12 ?_ ?_ ?_ ?_); simp; simp; simp [oneC]; intros) | (refine okF_i (bldP_eq rfl) ?_; try simp only [BLS, SB, Nat.reduceAdd])) | simp -implicitDefEqProofs only [SE, SU, SV, f1, ew]))
      refine hK () _ (by omega) ⟨?_, h.ent (lg_ent hb hrw)⟩
      rw [show N - (i + 1) = m by omega]; exact hfr
    · rw [if_neg hc] at hfr
      have f1 := decide_eq_false hc
      rw [← hfr] at hk
      (repeat (first | (first | ((with_reducible first | refine w1 ?_ | refine w3 ?_ | refine w4 ?_ | refine w11 ?_ | refine stb_n ?_); intros) | ((with_reducible first | refine v5 ?_ | refine v6 ?_ | refine v7 ?_ | refine ve ?_ | refine vn ?_); refine ⟨_, rfl, ?_⟩) | ((with_reducible first | refine v8 ?_ ?_ | refine v9 ?_ ?_ | refine v10 ?_ ?_ | refine v12 ?_ ?_); exact rfl; intros) | ((with_reducible refine w2 ?_); try simp -implicitDefEqProofs only [SE, SU, SV, f1]; intros) | ((with_reducible refine w5 ?_ ?_); simp; refine ⟨_, rfl, ?_⟩) | ((with_reducible refine w12 ?_ ?_ ?_ ?_); simp; simp; simp [oneC]; intros) | (refine okF_i (bldP_eq rfl) ?_; try simp only [BLS, SB, Nat.reduceAdd])) | simp -implicitDefEqProofs only [SE, SU, SV, f1]))
      exact hk _ (h.ent (lg_ent hb hrw))
  · have : N - i = 0 := by omega
    rw [this, freeGo] at hfr
    rw [← hfr] at hk
    (repeat (first | (first | ((with_reducible first | refine w1 ?_ | refine w3 ?_ | refine w4 ?_ | refine w11 ?_ | refine stb_n ?_); intros) | ((with_reducible first | refine v5 ?_ | refine v6 ?_ | refine v7 ?_ | refine ve ?_ | refine vn ?_); refine ⟨_, rfl, ?_⟩) | ((with_reducible first | refine v8 ?_ ?_ | refine v9 ?_ ?_ | refine v10 ?_ ?_ | refine v12 ?_ ?_); exact rfl; intros) | ((with_reducible refine w2 ?_); try simp -implicitDefEqProofs only [SE, SU, SV, hlt]; intros) | ((with_reducible refine w5 ?_ ?_); simp; refine ⟨_, rfl, ?_⟩) | ((with_reducible refine w12 ?_ ?_ ?_ ?_); simp; simp; simp [oneC]; intros) | (refine okF_i (bldP_eq rfl) ?_; try simp only [BLS, SB, Nat.reduceAdd])) | simp -implicitDefEqProofs only [SE, SU, SV, hlt]))
    exact hk _ h
/-- what a log's numbers must be, n more adds ahead -/
structure LOk (n : Nat) (d : DS) (l : LS) : Prop where
  ok : d.ok
  ws : d.ws.length + n < 500000
  nums : l.nums.length + n < 500000
  dirty : l.dirty.length + n < 500000
  turn : l.turn < 2 ^ 62
  index : 0 ≤ l.index ∧ l.index + n < 2 ^ 31
  count : 0 ≤ l.count ∧ l.count + n < 2 ^ 62
theorem append_ws (d : DS) (f : Int) (b : Bs) : (d.append f b).1.ws.length ≤ d.ws.length + 1 := by
  unfold DS.append
  split
  · simp
  · split <;> simp
theorem LOk.add {n : Nat} {d : DS} {l : LS} (h : LOk (n + 1) d l) (r : Bs) : LOk n (LS.add d l r).1 (LS.add d l r).2.1 := by
  obtain ⟨h1, h2, h3, h4, h5, ⟨h6, h7⟩, ⟨h8, h9⟩⟩ := h
  have hw : ∀ (l' : LS) (f : Int) (b : Bs), l'.nums.length + n < 500000 → l'.dirty.length + n + 1 < 500000 → l'.turn < 2 ^ 62 → (0 ≤ l'.index ∧ l'.index + n < 2 ^ 31) → (0 ≤ l'.count ∧ l'.count + n < 2 ^ 62) → LOk n (LS.write d l' f b).1 (LS.write d l' f b).2.1 := by
    intro l' f b g1 g2 g3 g4 g5
    have ga := append_ws d f b
    unfold LS.write
    split
    · exact ⟨h1.append f b, by simp only; omega, g1, by simp only; omega, g3, g4, g5⟩
    · refine ⟨h1.append f b, by simp only; omega, g1, ?_, g3, g4, g5⟩
      simp only
      split
      · omega
      · simp only [List.length_append, List.length_singleton]; omega
  unfold LS.add
  split
  · exact hw _ _ _ (by simp only [List.length_append, List.length_singleton]; omega) (by simp only; omega) h5 ⟨by simp only; omega, by simp only; omega⟩ ⟨by simp only; omega, by simp only; omega⟩
  · split
    · exact ⟨h1, by simp only; omega, by simp only; omega, by simp only; omega, h5, ⟨h6, by simp only; omega⟩, ⟨h8, by simp only; omega⟩⟩
    · exact hw _ _ _ (by simp only; omega) (by simp only; omega) h5 ⟨h6, by simp only; omega⟩ ⟨by simp only; omega, by simp only; omega⟩
theorem add_recs (d : DS) (l : LS) (r : Bs) : (LS.add d l r).2.1.recs = l.recs := by
  unfold LS.add
  split
  · unfold LS.write; split <;> rfl
  · split
    · rfl
    · unfold LS.write; split <;> rfl
theorem walWrite {f : Int} {a : Option Addr} {c : Nat} {b : Bs} (h : St W0 L W) [hl : Tk (lg q dp) L l L1] [hd : Tk (dk dp) L1 d L2] [hr : Rd W0 L2 a B8 b] (hk0 : d.ok) (hw : d.ws.length < 500000) (hdl : l.dirty.length < 500000) (hb2 : b.length < 16777216)
    (hk : ∀ W', St W0 (lg q dp (LS.write d l f b).2.1 :: dk dp (LS.write d l f b).1 :: L2) W' → k (.int .i64 (LS.write d l f b).2.2) W') : callK PR F_wal_Log_write [.pointer (some ⟨q, 0, none⟩), .int .i64 f, .slice a b.length c] k W := by
  apply S.wal_Log_write.call
  unfold S.wal_Log_write.body
  obtain ⟨na, nc, da, dc, bb, ra, rc, rows, hb, hrw, h⟩ := lg_at (lg_two h hl hd)
  unfold LS.write at hk
  (repeat (first | (first | ((with_reducible first | refine w1 ?_ | refine w3 ?_ | refine w4 ?_ | refine w11 ?_ | refine stb_n ?_); intros) | ((with_reducible first | refine v5 ?_ | refine v6 ?_ | refine v7 ?_ | refine ve ?_ | refine vn ?_); refine ⟨_, rfl, ?_⟩) | ((with_reducible first | refine v8 ?_ ?_ | refine v9 ?_ ?_ | refine v10 ?_ ?_ | refine v12 ?_ ?_); exact rfl; intros) | ((with_reducible refine w2 ?_); try simp -implicitDefEqProofs only [SE, SU, SV]; intros) | ((with_reducible refine w5 ?_ ?_); simp; refine ⟨_, rfl, ?_⟩) | ((with_reducible refine w12 ?_ ?_ ?_ ?_); simp; simp; simp [oneC]; intros) | (refine okF_i (bldP_eq rfl) ?_; try simp only [BLS, SB, Nat.reduceAdd])) | simp -implicitDefEqProofs only [SE, SU, SV]))
  refine diskAppend (d := d) (f := f) (a := a) (bs := b) (by first | assumption | exact St.tick (by assumption) | exact St.tick (St.tick (by assumption))) hk0 hb2 (by omega) fun W1 h => ?_
  by_cases he : (d.append f b).2 = 0
  · rw [if_neg (fun hh => hh he)] at hk
    rw [he]
    (repeat (first | (first | ((with_reducible first | refine w1 ?_ | refine w3 ?_ | refine w4 ?_ | refine w11 ?_ | refine stb_n ?_); intros) | ((with_reducible first | refine v5 ?_ | refine v6 ?_ | refine v7 ?_ | refine ve ?_ | refine vn ?_); refine ⟨_, rfl, ?_⟩) | ((with_reducible first | refine v8 ?_ ?_ | refine v9 ?_ ?_ | refine v10 ?_ ?_ | refine v12 ?_ ?_); exact rfl; intros) | ((with_reducible refine w2 ?_); try simp -implicitDefEqProofs only [SE, SU, SV]; intros) | ((with_reducible refine w5 ?_ ?_); simp; refine ⟨_, rfl, ?_⟩) | ((with_reducible refine w12 ?_ ?_ ?_ ?_); simp; simp; simp [oneC]; intros) | (refine okF_i (bldP_eq rfl) ?_; try simp only [BLS, SB, Nat.reduceAdd])) | simp -implicitDefEqProofs only [SE, SU, SV]))
    refine contI (a := da) (l := l.dirty) (by first | assumption | exact St.tick (by assumption) | exact St.tick (St.tick (by assumption))) (by omega) fun W2 h => ?_
    by_cases hc : f ∈ l.dirty
    · rw [if_pos hc] at hk
      have f1 := decide_eq_true hc
      (repeat (first | (first | ((with_reducible first | refine w1 ?_ | refine w3 ?_ | refine w4 ?_ | refine w11 ?_ | refine stb_n ?_); intros) | ((with_reducible first | refine v5 ?_ | refine v6 ?_ | refine v7 ?_ | refine ve ?_ | refine vn ?_); refine ⟨_, rfl, ?_⟩) | ((with_reducible first | refine v8 ?_ ?_ | refine v9 ?_ ?_ | refine v10 ?_ ?_ | refine v12 ?_ ?_); exact rfl; intros) | ((with_reducible refine w2 ?_); try simp -implicitDefEqProofs only [SE, SU, SV, f1]; intros) | ((with_reducible refine w5 ?_ ?_); simp; refine ⟨_, rfl, ?_⟩) | ((with_reducible refine w12 ?_ ?_ ?_ ?_); simp; simp; simp [oneC]; intros) | (refine okF_i (bldP_eq rfl) ?_; try simp only [BLS, SB, Nat.reduceAdd])) | simp -implicitDefEqProofs only [SE, SU, SV, f1]))
      rename_i h
      exact hk _ (h.ent (lg_dk (l := { l with dirty := l.dirty }) hb hrw))
    · rw [if_neg hc] at hk
      have f1 := decide_eq_false hc
      (repeat (first | (first | ((with_reducible first | refine w1 ?_ | refine w3 ?_ | refine w4 ?_ | refine w11 ?_ | refine stb_n ?_); intros) | ((with_reducible first | refine v5 ?_ | refine v6 ?_ | refine v7 ?_ | refine ve ?_ | refine vn ?_); refine ⟨_, rfl, ?_⟩) | ((with_reducible first | refine v8 ?_ ?_ | refine v9 ?_ ?_ | refine v10 ?_ ?_ | refine v12 ?_ ?_); exact rfl; intros) | ((with_reducible refine w2 ?_); try simp -implicitDefEqProofs only [SE, SU, SV, f1]; intros) | ((with_reducible refine w5 ?_ ?_); simp; refine ⟨_, rfl, ?_⟩) | ((with_reducible refine w12 ?_ ?_ ?_ ?_); simp; simp; simp [oneC]; intros) | (refine okF_i (bldP_eq rfl) ?_; try simp only [BLS, SB, Nat.reduceAdd])) | simp -implicitDefEqProofs only [SE, SU, SV, f1]))
      refine pushA (A := I64) (l := l.dirty) (a := da) f (by first | assumption | exact St.tick (by assumption) | exact St.tick (St.tick (by assumption))) rfl rfl (by omega) (by simp only [maxLen]; omega) (by decide) fun a3 c3 W3 h => ?_
      (repeat (first | (first | ((with_reducible first | refine w1 ?_ | refine w3 ?_ | refine w4 ?_ | refine w11 ?_ | refine stb_n ?_); intros) | ((with_reducible first | refine v5 ?_ | refine v6 ?_ | refine v7 ?_ | refine ve ?_ | refine vn ?_); refine ⟨_, rfl, ?_⟩) | ((with_reducible first | refine v8 ?_ ?_ | refine v9 ?_ ?_ | refine v10 ?_ ?_ | refine v12 ?_ ?_); exact rfl; intros) | ((with_reducible refine w2 ?_); try simp -implicitDefEqProofs only [SE, SU, SV]; intros) | ((with_reducible refine w5 ?_ ?_); simp; refine ⟨_, rfl, ?_⟩) | ((with_reducible refine w12 ?_ ?_ ?_ ?_); simp; simp; simp [oneC]; intros) | (refine okF_i (bldP_eq rfl) ?_; try simp only [BLS, SB, Nat.reduceAdd])) | simp -implicitDefEqProofs only [SE, SU, SV]))
      rename_i h
      (try simp only [BLS, SB, stL_a, stL_b, stL_c, List.append_nil, List.take_nil, List.drop_nil, Nat.reduceAdd] at h)
      exact hk _ ((h.ent (ent.rot4 _ _ _ _ _)).ent (lg_dk (l := { l with dirty := l.dirty ++ [f] }) hb hrw))
  · rw [if_pos he] at hk
    have f1 := decide_eq_false he
    (repeat (first | (first | ((with_reducible first | refine w1 ?_ | refine w3 ?_ | refine w4 ?_ | refine w11 ?_ | refine stb_n ?_); intros) | ((with_reducible first | refine v5 ?_ | refine v6 ?_ | refine v7 ?_ | refine ve ?_ | refine vn ?_); refine ⟨_, rfl, ?_⟩) | ((with_reducible first | refine v8 ?_ ?_ | refine v9 ?_ ?_ | refine v10 ?_ ?_ | refine v12 ?_ ?_); exact rfl; intros) | ((with_reducible refine w2 ?_); try simp -implicitDefEqProofs only [SE, SU, SV, f1]; intros) | ((with_reducible refine w5 ?_ ?_); simp; refine ⟨_, rfl, ?_⟩) | ((with_reducible refine w12 ?_ ?_ ?_ ?_); simp; simp; simp [oneC]; intros) | (refine okF_i (bldP_eq rfl) ?_; try simp only [BLS, SB, Nat.reduceAdd])) | simp -implicitDefEqProofs only [SE, SU, SV, f1]))
    rename_i h
    (try simp only [BLS, SB, stL_a, stL_b, stL_c, List.append_nil, List.take_nil, List.drop_nil, Nat.reduceAdd] at h)
    exact hk _ (h.ent (lg_dk (l := { l with full := true }) hb hrw))
end
end Go.Proofs.Ythladblmjoaeoaa
namespace Go.Proofs.Ythladblmjoaeoaa
set_option linter.unusedVariables false
set_option linter.unusedSimpArgs false
open Go Go.Eng

section
variable {W0 W : World} {L L' L1 L2 : List Asn} {q dp : Nat} {l : LS} {d : DS} {k : Value → World → Prop}
theorem walAdd1 {a : Option Addr} {c : Nat} {r : Bs} (h : St W0 L W) [hl : Tk (lg q dp) L l L1] [hd : Tk (dk dp) L1 d L2] [hr : Rd W0 L a B8 r] (hr0 : r.length ≤ 65536) {n : Nat} (hL : LOk n d l)
    (hk : ∀ W', St W0 (lg q dp (LS.add d l r).2.1 :: dk dp (LS.add d l r).1 :: L2) W' → k (.int .i64 (LS.add d l r).2.2) W') : callK PR F_wal_Log_add [.pointer (some ⟨q, 0, none⟩), .slice a r.length c] k W := by
  have hJ : ∀ (l1 : LS) (a1 : Option Addr) (c1 : Nat) (bs : Bs) (W1 : World), l1.dirty = l.dirty → 0 ≤ l1.count → l1.count < 2 ^ 62 → bs.length < 16777216 →
      (l1.cur < 0 → ∀ W', St W0 (lg q dp { l1 with full := true } :: dk dp d :: L2) W' → k (.int .i64 6) W') →
      (¬ l1.cur < 0 → ∀ W', St W0 (lg q dp (LS.write d { l1 with count := l1.count + 1 } l1.cur bs).2.1 :: dk dp (LS.write d { l1 with count := l1.count + 1 } l1.cur bs).1 :: L2) W' → k (.int .i64 (LS.write d { l1 with count := l1.count + 1 } l1.cur bs).2.2) W') →
      St W0 (lg q dp l1 :: dk dp d :: arr B8 T_uint8 a1 c1 bs :: L2) W1 → S.wal_Log_add.j1 k (.pointer (some ⟨q, 0, none⟩)) (.slice a1 bs.length c1) W1 := by
    intro l1 a1 c1 bs W1 hdi hc0 hc1 hbs h1 h2 h
    unfold S.wal_Log_add.j1
    obtain ⟨na, nc, da, dc, bb, ra, rc, rows, hb, hrw, h⟩ := lg_at h
    by_cases hc : l1.cur < 0
    · (repeat (first | (first | ((with_reducible first | refine w1 ?_ | refine w3 ?_ | refine w4 ?_ | refine w11 ?_ | refine stb_n ?_); intros) | ((with_reducible first | refine v5 ?_ | refine v6 ?_ | refine v7 ?_ | refine ve ?_ | refine vn ?_); refine ⟨_, rfl, ?_⟩) | ((with_reducible first | refine v8 ?_ ?_ | refine v9 ?_ ?_ | refine v10 ?_ ?_ | refine v12 ?_ ?_); exact rfl; intros) | ((with_reducible refine w2 ?_); try simp -implicitDefEqProofs only [SE, SU, SV, hc]; intros) | ((with_reducible refine w5 ?_ ?_); simp; refine ⟨_, rfl, ?_⟩) | ((with_reducible refine w12 ?_ ?_ ?_ ?_); simp; simp; simp [oneC]; intros) | (refine okF_i (bldP_eq rfl) ?_; try simp only [BLS, SB, Nat.reduceAdd])) | simp -implicitDefEqProofs only [SE, SU, SV, hc]))
      rename_i h
      (try simp only [BLS, SB, stL_a, stL_b, stL_c, List.append_nil, List.take_nil, List.drop_nil, Nat.reduceAdd] at h)
      have h := h.ent (lg_ent (l := { l1 with full := true }) hb hrw)
      exact h1 hc _ (St.wk h)
    · have ew : IntKind.i64.wrap (l1.count + 1) = l1.count + 1 := by rw [i64w]; omega
      (repeat (first | (first | ((with_reducible first | refine w1 ?_ | refine w3 ?_ | refine w4 ?_ | refine w11 ?_ | refine stb_n ?_); intros) | ((with_reducible first | refine v5 ?_ | refine v6 ?_ | refine v7 ?_ | refine ve ?_ | refine vn ?_); refine ⟨_, rfl, ?_⟩) | ((with_reducible first | refine v8 ?_ ?_ | refine v9 ?_ ?_ | refine v10 ?_ ?_ | refine v12 ?_ ?_); exact rfl; intros) | ((with_reducible refine w2 ?_); try simp -implicitDefEqProofs only [SE, SU, SV, hc, ew]; intros) | ((with_reducible refine w5 ?_ ?_); simp; refine ⟨_, rfl, ?_⟩) | ((with_reducible refine w12 ?_ ?_ ?_ ?_); simp; simp; simp [oneC]; intros) | (refine okF_i (bldP_eq rfl) ?_; try simp only [BLS, SB, Nat.reduceAdd])) | simp -implicitDefEqProofs only [SE, SU, SV, hc, ew]))
      rename_i h
      (try simp only [BLS, SB, stL_a, stL_b, stL_c, List.append_nil, List.take_nil, List.drop_nil, Nat.reduceAdd] at h)
      have h := h.ent (lg_ent (l := { l1 with count := l1.count + 1 }) hb hrw)
      refine walWrite (dp := dp) (d := d) (l := { l1 with count := l1.count + 1 }) (f := l1.cur) (a := a1) (b := bs) h hL.ok (by have := hL.ws; omega) (by have := hL.dirty; simp only [hdi]; omega) hbs fun W2 h => ?_
      exact h2 hc _ (St.wk h)
  apply S.wal_Log_add.call
  unfold S.wal_Log_add.body
  obtain ⟨hx0, hx1⟩ := hL.index
  obtain ⟨hc0, hc1⟩ := hL.count
  have hnl := hL.nums
  refine walUnit (a := a) (r := r) h hr0 fun a1 c1 W1 h => ?_
  have hul : (unitB r).length < 16777216 := by simp; omega
  refine joinK_i ?_
  have h := St.wk (L' := lg q dp l :: dk dp d :: arr B8 T_uint8 a1 c1 (unitB r) :: L2) ((h.ent (ent.cons _ (ent.perm hl.perm))).ent (ent.cons _ (ent.cons _ (ent.perm hd.perm))))
  unfold LS.add at hk
  have hfree : 0 ≤ l.free ∨ l.free = -1 := by
    rcases freeGo_spec l.nums 1000 0 with ⟨e, _⟩ | ⟨j, e, _⟩
    · exact .inr e
    · exact .inl (by unfold LS.free; rw [e]; omega)
  by_cases hcond : l.cur < 0 ∨ l.part ≤ l.count
  · have hw : l.cur < 0 ∨ (¬ l.cur < 0 ∧ l.part ≤ l.count) := by omega
    obtain ⟨na, nc, da, dc, bb, ra, rc, rows, hb, hrw, h⟩ := lg_at h
    rcases hw with hc | ⟨hc, hp⟩
    case' inl => (repeat (first | (first | ((with_reducible first | refine w1 ?_ | refine w3 ?_ | refine w4 ?_ | refine w11 ?_ | refine stb_n ?_); intros) | ((with_reducible first | refine v5 ?_ | refine v6 ?_ | refine v7 ?_ | refine ve ?_ | refine vn ?_); refine ⟨_, rfl, ?_⟩) | ((with_reducible first | refine v8 ?_ ?_ | refine v9 ?_ ?_ | refine v10 ?_ ?_ | refine v12 ?_ ?_); exact rfl; intros) | ((with_reducible refine w2 ?_); try simp -implicitDefEqProofs only [SE, SU, SV, hc]; intros) | ((with_reducible refine w5 ?_ ?_); simp; refine ⟨_, rfl, ?_⟩) | ((with_reducible refine w12 ?_ ?_ ?_ ?_); simp; simp; simp [oneC]; intros) | (refine okF_i (bldP_eq rfl) ?_; try simp only [BLS, SB, Nat.reduceAdd])) | simp -implicitDefEqProofs only [SE, SU, SV, hc]))
    case' inr => (repeat (first | (first | ((with_reducible first | refine w1 ?_ | refine w3 ?_ | refine w4 ?_ | refine w11 ?_ | refine stb_n ?_); intros) | ((with_reducible first | refine v5 ?_ | refine v6 ?_ | refine v7 ?_ | refine ve ?_ | refine vn ?_); refine ⟨_, rfl, ?_⟩) | ((with_reducible first | refine v8 ?_ ?_ | refine v9 ?_ ?_ | refine v10 ?_ ?_ | refine v12 ?_ ?_); exact rfl; intros) | ((with_reducible refine w2 ?_); try simp -implicitDefEqProofs only [SE, SU, SV, hc, hp]; intros) | ((with_reducible refine w5 ?_ ?_); simp; refine ⟨_, rfl, ?_⟩) | ((with_reducible refine w12 ?_ ?_ ?_ ?_); simp; simp; simp [oneC]; intros) | (refine okF_i (bldP_eq rfl) ?_; try simp only [BLS, SB, Nat.reduceAdd])) | simp -implicitDefEqProofs only [SE, SU, SV, hc, hp]))
    all_goals
      refine walFree (dp := dp) (l := l) (hl := Tk.here _ _ _) (St.ent (by first | assumption | exact St.tick (by assumption) | exact St.tick (St.tick (by assumption))) (lg_ent hb hrw)) (by omega) fun W2 h => ?_
      by_cases hfr : 0 ≤ l.free
      · rw [if_pos ⟨hcond, hfr⟩] at hk
        have f1 := decide_eq_true hfr
        obtain ⟨na, nc, da, dc, bb, ra, rc, rows, hb, hrw, h⟩ := lg_at h
        (repeat (first | (first | ((with_reducible first | refine w1 ?_ | refine w3 ?_ | refine w4 ?_ | refine w11 ?_ | refine stb_n ?_); intros) | ((with_reducible first | refine v5 ?_ | refine v6 ?_ | refine v7 ?_ | refine ve ?_ | refine vn ?_); refine ⟨_, rfl, ?_⟩) | ((with_reducible first | refine v8 ?_ ?_ | refine v9 ?_ ?_ | refine v10 ?_ ?_ | refine v12 ?_ ?_); exact rfl; intros) | ((with_reducible refine w2 ?_); try simp -implicitDefEqProofs only [SE, SU, SV, f1]; intros) | ((with_reducible refine w5 ?_ ?_); simp; refine ⟨_, rfl, ?_⟩) | ((with_reducible refine w12 ?_ ?_ ?_ ?_); simp; simp; simp [oneC]; intros) | (refine okF_i (bldP_eq rfl) ?_; try simp only [BLS, SB, Nat.reduceAdd])) | simp -implicitDefEqProofs only [SE, SU, SV, f1]))
        obtain ⟨ix, hix⟩ : ∃ ix : Nat, l.index = ix := ⟨l.index.toNat, by omega⟩
        rw [hix]
        have htu := hL.turn
        refine walTop (kd := 1) (t := l.turn) (i := ix) (by first | assumption | exact St.tick (by assumption) | exact St.tick (St.tick (by assumption))) (by decide) (by omega) (by omega) fun a2 c2 W3 h => ?_
        refine appA (a := a2) (m := unitB r) h rfl (by simp; omega) (by simp [maxLen]; omega) fun a3 c3 W4 h => ?_
        (repeat (first | (first | ((with_reducible first | refine w1 ?_ | refine w3 ?_ | refine w4 ?_ | refine w11 ?_ | refine stb_n ?_); intros) | ((with_reducible first | refine v5 ?_ | refine v6 ?_ | refine v7 ?_ | refine ve ?_ | refine vn ?_); refine ⟨_, rfl, ?_⟩) | ((with_reducible first | refine v8 ?_ ?_ | refine v9 ?_ ?_ | refine v10 ?_ ?_ | refine v12 ?_ ?_); exact rfl; intros) | ((with_reducible refine w2 ?_); try simp -implicitDefEqProofs only [SE, SU, SV]; intros) | ((with_reducible refine w5 ?_ ?_); simp; refine ⟨_, rfl, ?_⟩) | ((with_reducible refine w12 ?_ ?_ ?_ ?_); simp; simp; simp [oneC]; intros) | (refine okF_i (bldP_eq rfl) ?_; try simp only [BLS, SB, Nat.reduceAdd])) | simp -implicitDefEqProofs only [SE, SU, SV]))
        refine pushA (A := I64) (l := l.nums) (a := na) l.free (by first | assumption | exact St.tick (by assumption) | exact St.tick (St.tick (by assumption))) rfl rfl (by omega) (by simp only [maxLen]; omega) (by decide) fun a5 c5 W5 h => ?_
        have ew : IntKind.i64.wrap (l.index + 1) = l.index + 1 := by rw [i64w]; omega
        (repeat (first | (first | ((with_reducible first | refine w1 ?_ | refine w3 ?_ | refine w4 ?_ | refine w11 ?_ | refine stb_n ?_); intros) | ((with_reducible first | refine v5 ?_ | refine v6 ?_ | refine v7 ?_ | refine ve ?_ | refine vn ?_); refine ⟨_, rfl, ?_⟩) | ((with_reducible first | refine v8 ?_ ?_ | refine v9 ?_ ?_ | refine v10 ?_ ?_ | refine v12 ?_ ?_); exact rfl; intros) | ((with_reducible refine w2 ?_); try simp -implicitDefEqProofs only [SE, SU, SV, ew]; intros) | ((with_reducible refine w5 ?_ ?_); simp; refine ⟨_, rfl, ?_⟩) | ((with_reducible refine w12 ?_ ?_ ?_ ?_); simp; simp; simp [oneC]; intros) | (refine okF_i (bldP_eq rfl) ?_; try simp only [BLS, SB, Nat.reduceAdd])) | simp -implicitDefEqProofs only [SE, SU, SV, ew]))
        rename_i h
        (try simp only [BLS, SB, stL_a, stL_b, stL_c, List.append_nil, List.take_nil, List.drop_nil, Nat.reduceAdd] at h)
        have h := lg_mk q dp { l with nums := l.nums ++ [l.free], cur := l.free, count := 0, index := l.index + 1 } a5 c5 da dc bb ra rc rows h hb hrw
        have eix : l.index.toNat = ix := by omega
        rw [eix] at hk
        refine hJ { l with nums := l.nums ++ [l.free], cur := l.free, count := 0, index := l.index + 1 } a3 c3 (topB 1 l.turn ix ++ unitB r) _ rfl (Int.le_refl _) (show (0 : Int) < 2 ^ 62 by decide) (by simp only [List.length_append, topB_len, unitB_len]; omega) (fun hc => absurd hfr (by simp only at hc; omega)) (fun hc W' h => hk _ h) (St.wk h)
      · rw [if_neg fun hh => hfr hh.2] at hk
        have f1 := decide_eq_false hfr
        (repeat (first | (first | ((with_reducible first | refine w1 ?_ | refine w3 ?_ | refine w4 ?_ | refine w11 ?_ | refine stb_n ?_); intros) | ((with_reducible first | refine v5 ?_ | refine v6 ?_ | refine v7 ?_ | refine ve ?_ | refine vn ?_); refine ⟨_, rfl, ?_⟩) | ((with_reducible first | refine v8 ?_ ?_ | refine v9 ?_ ?_ | refine v10 ?_ ?_ | refine v12 ?_ ?_); exact rfl; intros) | ((with_reducible refine w2 ?_); try simp -implicitDefEqProofs only [SE, SU, SV, f1]; intros) | ((with_reducible refine w5 ?_ ?_); simp; refine ⟨_, rfl, ?_⟩) | ((with_reducible refine w12 ?_ ?_ ?_ ?_); simp; simp; simp [oneC]; intros) | (refine okF_i (bldP_eq rfl) ?_; try simp only [BLS, SB, Nat.reduceAdd])) | simp -implicitDefEqProofs only [SE, SU, SV, f1]))
        refine hJ l a1 c1 (unitB r) _ rfl hc0 (by omega) hul (fun hc W' h => ?_) (fun hc W' h => ?_) (by first | assumption | exact St.tick (by assumption) | exact St.tick (St.tick (by assumption)))
        · rw [if_pos hc] at hk; exact hk _ h
        · rw [if_neg hc] at hk; exact hk _ h
  · obtain ⟨na, nc, da, dc, bb, ra, rc, rows, hb, hrw, h⟩ := lg_at h
    have hc : ¬ l.cur < 0 := fun hh => hcond (.inl hh)
    have hp : ¬ l.part ≤ l.count := fun hh => hcond (.inr hh)
    (repeat (first | (first | ((with_reducible first | refine w1 ?_ | refine w3 ?_ | refine w4 ?_ | refine w11 ?_ | refine stb_n ?_); intros) | ((with_reducible first | refine v5 ?_ | refine v6 ?_ | refine v7 ?_ | refine ve ?_ | refine vn ?_); refine ⟨_, rfl, ?_⟩) | ((with_reducible first | refine v8 ?_ ?_ | refine v9 ?_ ?_ | refine v10 ?_ ?_ | refine v12 ?_ ?_); exact rfl; intros) | ((with_reducible refine w2 ?_); try simp -implicitDefEqProofs only [SE, SU, SV, hc, hp]; intros) | ((with_reducible refine w5 ?_ ?_); simp; refine ⟨_, rfl, ?_⟩) | ((with_reducible refine w12 ?_ ?_ ?_ ?_); simp; simp; simp [oneC]; intros) | (refine okF_i (bldP_eq rfl) ?_; try simp only [BLS, SB, Nat.reduceAdd])) | simp -implicitDefEqProofs only [SE, SU, SV, hc, hp]))
    rw [if_neg fun hh => hcond hh.1, if_neg hc] at hk
    exact hJ l a1 c1 (unitB r) _ rfl hc0 (by omega) hul (fun hh => absurd hh hc) (fun _ W' h => hk _ h) (St.ent (by first | assumption | exact St.tick (by assumption) | exact St.tick (St.tick (by assumption))) (lg_ent hb hrw))
end
end Go.Proofs.Ythladblmjoaeoaa
namespace Go.Proofs.Ythladblmjoaeoaa
set_option linter.unusedVariables false
set_option linter.unusedSimpArgs false
open Go Go.Eng

section
variable {W0 W : World} {L L' L1 L2 : List Asn} {q dp : Nat} {l : LS} {d : DS} {k : Value → World → Prop}
abbrev bsOf (rs : List BSl) : List Bs := rs.map (·.bs)
theorem walAdd {a : Option Addr} {c : Nat} {rs : List BSl} (h : St W0 L W) [hl : Tk (lg q dp) L l L1] [hd : Tk (dk dp) L1 d L2] [hr : Rd W0 L2 a BSY rs] (hrs : ∀ x ∈ rs, Rd W0 L2 x.a B8 x.bs) (hlen : rs.length < 500000) (hrl : l.recs.length < 500000) (hbl : ∀ x ∈ rs, x.bs.length < 4611686018427387904) (hL : LOk rs.length d l)
    (hk : ∀ W', St W0 (lg q dp (LS.addAll d l (bsOf rs)).2.1 :: dk dp (LS.addAll d l (bsOf rs)).1 :: L2) W' → k (.int .i64 (LS.addAll d l (bsOf rs)).2.2) W') : callK PR F_wal_Log_Add [.pointer (some ⟨q, 0, none⟩), .slice a rs.length c] k W := by
  apply S.wal_Log_Add.call
  unfold S.wal_Log_Add.body
  refine walDone (dp := dp) h fun W1 h => ?_
  unfold LS.addAll at hk
  cases hdn : l.done d with
  | true =>
    rw [hdn, if_pos rfl] at hk
    (repeat (first | (first | ((with_reducible first | refine w1 ?_ | refine w3 ?_ | refine w4 ?_ | refine w11 ?_ | refine stb_n ?_); intros) | ((with_reducible first | refine v5 ?_ | refine v6 ?_ | refine v7 ?_ | refine ve ?_ | refine vn ?_); refine ⟨_, rfl, ?_⟩) | ((with_reducible first | refine v8 ?_ ?_ | refine v9 ?_ ?_ | refine v10 ?_ ?_ | refine v12 ?_ ?_); exact rfl; intros) | ((with_reducible refine w2 ?_); try simp -implicitDefEqProofs only [SE, SU, SV]; intros) | ((with_reducible refine w5 ?_ ?_); simp; refine ⟨_, rfl, ?_⟩) | ((with_reducible refine w12 ?_ ?_ ?_ ?_); simp; simp; simp [oneC]; intros) | (refine okF_i (bldP_eq rfl) ?_; try simp only [BLS, SB, Nat.reduceAdd])) | simp -implicitDefEqProofs only [SE, SU, SV]))
    exact hk _ (by first | assumption | exact St.tick (by assumption) | exact St.tick (St.tick (by assumption)))
  | false =>
  rw [hdn] at hk
  simp only [Bool.false_eq_true, if_false] at hk
  (repeat (first | (first | ((with_reducible first | refine w1 ?_ | refine w3 ?_ | refine w4 ?_ | refine w11 ?_ | refine stb_n ?_); intros) | ((with_reducible first | refine v5 ?_ | refine v6 ?_ | refine v7 ?_ | refine ve ?_ | refine vn ?_); refine ⟨_, rfl, ?_⟩) | ((with_reducible first | refine v8 ?_ ?_ | refine v9 ?_ ?_ | refine v10 ?_ ?_ | refine v12 ?_ ?_); exact rfl; intros) | ((with_reducible refine w2 ?_); try simp -implicitDefEqProofs only [SE, SU, SV]; intros) | ((with_reducible refine w5 ?_ ?_); simp; refine ⟨_, rfl, ?_⟩) | ((with_reducible refine w12 ?_ ?_ ?_ ?_); simp; simp; simp [oneC]; intros) | (refine okF_i (bldP_eq rfl) ?_; try simp only [BLS, SB, Nat.reduceAdd])) | simp -implicitDefEqProofs only [SE, SU, SV]))
  refine joinK_i ?_
  (repeat (first | (first | ((with_reducible first | refine w1 ?_ | refine w3 ?_ | refine w4 ?_ | refine w11 ?_ | refine stb_n ?_); intros) | ((with_reducible first | refine v5 ?_ | refine v6 ?_ | refine v7 ?_ | refine ve ?_ | refine vn ?_); refine ⟨_, rfl, ?_⟩) | ((with_reducible first | refine v8 ?_ ?_ | refine v9 ?_ ?_ | refine v10 ?_ ?_ | refine v12 ?_ ?_); exact rfl; intros) | ((with_reducible refine w2 ?_); try simp -implicitDefEqProofs only [SE, SU, SV]; intros) | ((with_reducible refine w5 ?_ ?_); simp; refine ⟨_, rfl, ?_⟩) | ((with_reducible refine w12 ?_ ?_ ?_ ?_); simp; simp; simp [oneC]; intros) | (refine okF_i (bldP_eq rfl) ?_; try simp only [BLS, SB, Nat.reduceAdd])) | simp -implicitDefEqProofs only [SE, SU, SV]))
  refine loop_c (σ := Unit) rs.length (fun i _ => [.pointer (some ⟨q, 0, none⟩), .slice a rs.length c, .slice a rs.length c, .int .i64 (rs.length : Int), .int .i64 (i : Int)]) (fun i _ W1 => (∀ x ∈ rs.take i, x.bs.length ≤ 65536) ∧ St W0 (lg q dp l :: dk dp d :: L2) W1) () rfl ⟨by simp, (by first | assumption | exact St.tick (by assumption) | exact St.tick (St.tick (by assumption)))⟩ ?_
  clear h
  rintro K i _ W1 hi ⟨hok, h⟩ hK
  simp -implicitDefEqProofs only [SE, SU, SV]
  unfold S.wal_Log_Add.l3
  by_cases hlt : (i : Int) < (rs.length : Int)
  · have hib : i < rs.length := by omega
    have ew : IntKind.i64.wrap ((i : Int) + 1) = ((i + 1 : Nat) : Int) := by rw [i64w]; omega
    (repeat (first | (first | ((with_reducible first | refine w1 ?_ | refine w3 ?_ | refine w4 ?_ | refine w11 ?_ | refine stb_n ?_); intros) | ((with_reducible first | refine v5 ?_ | refine v6 ?_ | refine v7 ?_ | refine ve ?_ | refine vn ?_); refine ⟨_, rfl, ?_⟩) | ((with_reducible first | refine v8 ?_ ?_ | refine v9 ?_ ?_ | refine v10 ?_ ?_ | refine v12 ?_ ?_); exact rfl; intros) | ((with_reducible refine w2 ?_); try simp -implicitDefEqProofs only [SE, SU, SV, hlt]; intros) | ((with_reducible refine w5 ?_ ?_); simp; refine ⟨_, rfl, ?_⟩) | ((with_reducible refine w12 ?_ ?_ ?_ ?_); simp; simp; simp [oneC]; intros) | (refine okF_i (bldP_eq rfl) ?_; try simp only [BLS, SB, Nat.reduceAdd])) | simp -implicitDefEqProofs only [SE, SU, SV, hlt]))
    refine ixA (i := i) (a := a) (l := rs) (A := BSY) h rfl rfl hib fun g o ha => ?_
    cases ha
    refine ldA0 (i := i) (l := rs) (A := BSY) h rfl hib (v := rs[i].v) rfl (by simp) ?_
    by_cases hbig : rs[i].bs.length ≤ 65536
    · have f1 : decide ((65536 : Int) < (rs[i].bs.length : Int)) = false := decide_eq_false (by omega)
      (repeat (first | (first | ((with_reducible first | refine w1 ?_ | refine w3 ?_ | refine w4 ?_ | refine w11 ?_ | refine stb_n ?_); intros) | ((with_reducible first | refine v5 ?_ | refine v6 ?_ | refine v7 ?_ | refine ve ?_ | refine vn ?_); refine ⟨_, rfl, ?_⟩) | ((with_reducible first | refine v8 ?_ ?_ | refine v9 ?_ ?_ | refine v10 ?_ ?_ | refine v12 ?_ ?_); exact rfl; intros) | ((with_reducible refine w2 ?_); try simp -implicitDefEqProofs only [SE, SU, SV, f1, ew]; intros) | ((with_reducible refine w5 ?_ ?_); simp; refine ⟨_, rfl, ?_⟩) | ((with_reducible refine w12 ?_ ?_ ?_ ?_); simp; simp; simp [oneC]; intros) | (refine okF_i (bldP_eq rfl) ?_; try simp only [BLS, SB, Nat.reduceAdd])) | simp -implicitDefEqProofs only [SE, SU, SV, f1, ew]))
      refine hK () _ hib ⟨fun x hx => ?_, h⟩
      rw [take_snoc hib] at hx
      rcases List.mem_append.1 hx with hx | hx
      · exact hok x hx
      · rw [List.mem_singleton.1 hx]; exact hbig
    · have f1 : decide ((65536 : Int) < (rs[i].bs.length : Int)) = true := decide_eq_true (by omega)
      have f2 : ((bsOf rs).any fun r => decide (65536 < r.length)) = true := by
        rw [List.any_eq_true]
        exact ⟨rs[i].bs, List.mem_map_of_mem (List.getElem_mem hib), decide_eq_true (by omega)⟩
      rw [f2, if_pos rfl] at hk
      (repeat (first | (first | ((with_reducible first | refine w1 ?_ | refine w3 ?_ | refine w4 ?_ | refine w11 ?_ | refine stb_n ?_); intros) | ((with_reducible first | refine v5 ?_ | refine v6 ?_ | refine v7 ?_ | refine ve ?_ | refine vn ?_); refine ⟨_, rfl, ?_⟩) | ((with_reducible first | refine v8 ?_ ?_ | refine v9 ?_ ?_ | refine v10 ?_ ?_ | refine v12 ?_ ?_); exact rfl; intros) | ((with_reducible refine w2 ?_); try simp -implicitDefEqProofs only [SE, SU, SV, f1]; intros) | ((with_reducible refine w5 ?_ ?_); simp; refine ⟨_, rfl, ?_⟩) | ((with_reducible refine w12 ?_ ?_ ?_ ?_); simp; simp; simp [oneC]; intros) | (refine okF_i (bldP_eq rfl) ?_; try simp only [BLS, SB, Nat.reduceAdd])) | simp -implicitDefEqProofs only [SE, SU, SV, f1]))
      exact hk _ h
  have ei : rs.take i = rs := List.take_of_length_le (by omega)
  rw [ei] at hok
  have f2 : ((bsOf rs).any fun r => decide (65536 < r.length)) = false := by
    rw [List.any_eq_false]
    intro r hr2
    obtain ⟨x, hx, rfl⟩ := List.mem_map.1 hr2
    have := hok x hx
    simp; omega
  rw [f2] at hk
  simp only [Bool.false_eq_true, if_false] at hk
  (repeat (first | (first | ((with_reducible first | refine w1 ?_ | refine w3 ?_ | refine w4 ?_ | refine w11 ?_ | refine stb_n ?_); intros) | ((with_reducible first | refine v5 ?_ | refine v6 ?_ | refine v7 ?_ | refine ve ?_ | refine vn ?_); refine ⟨_, rfl, ?_⟩) | ((with_reducible first | refine v8 ?_ ?_ | refine v9 ?_ ?_ | refine v10 ?_ ?_ | refine v12 ?_ ?_); exact rfl; intros) | ((with_reducible refine w2 ?_); try simp -implicitDefEqProofs only [SE, SU, SV, hlt]; intros) | ((with_reducible refine w5 ?_ ?_); simp; refine ⟨_, rfl, ?_⟩) | ((with_reducible refine w12 ?_ ?_ ?_ ?_); simp; simp; simp [oneC]; intros) | (refine okF_i (bldP_eq rfl) ?_; try simp only [BLS, SB, Nat.reduceAdd])) | simp -implicitDefEqProofs only [SE, SU, SV, hlt]))
  clear hK hlt
  unfold S.wal_Log_Add.j1
  refine joinK_i ?_
  simp -implicitDefEqProofs only [SE, SU, SV]
  refine loop_c (σ := DS × LS) rs.length (fun i _ => [.pointer (some ⟨q, 0, none⟩), .slice a rs.length c, .slice a rs.length c, .int .i64 (rs.length : Int), .int .i64 (i : Int)])
    (fun i x W1 => addGo d l (bsOf rs) = addGo x.1 x.2 (bsOf (rs.drop i)) ∧ LOk (rs.length - i) x.1 x.2 ∧ x.2.recs = l.recs ∧ St W0 (lg q dp x.2 :: dk dp x.1 :: L2) W1) (d, l) rfl ⟨by simp, by simpa using hL, rfl, h⟩ ?_
  clear h
  rintro K i ⟨d1, l1⟩ W2 hi ⟨hgo, hL1, hre, h⟩ hK
  simp only at hgo hL1 hre h
  simp -implicitDefEqProofs only [SE, SU, SV]
  unfold S.wal_Log_Add.l2
  by_cases hlt : (i : Int) < (rs.length : Int)
  · have hib : i < rs.length := by omega
    have ew : IntKind.i64.wrap ((i : Int) + 1) = ((i + 1 : Nat) : Int) := by rw [i64w]; omega
    have hx := hrs _ (List.getElem_mem hib)
    have hxl := hok _ (List.getElem_mem hib)
    have ed : rs.drop i = rs[i] :: rs.drop (i + 1) := List.drop_eq_getElem_cons hib
    rw [ed, show bsOf (rs[i] :: rs.drop (i + 1)) = rs[i].bs :: bsOf (rs.drop (i + 1)) from rfl, addGo] at hgo
    rw [show rs.length - i = (rs.length - (i + 1)) + 1 by omega] at hL1
    (repeat (first | (first | ((with_reducible first | refine w1 ?_ | refine w3 ?_ | refine w4 ?_ | refine w11 ?_ | refine stb_n ?_); intros) | ((with_reducible first | refine v5 ?_ | refine v6 ?_ | refine v7 ?_ | refine ve ?_ | refine vn ?_); refine ⟨_, rfl, ?_⟩) | ((with_reducible first | refine v8 ?_ ?_ | refine v9 ?_ ?_ | refine v10 ?_ ?_ | refine v12 ?_ ?_); exact rfl; intros) | ((with_reducible refine w2 ?_); try simp -implicitDefEqProofs only [SE, SU, SV, hlt]; intros) | ((with_reducible refine w5 ?_ ?_); simp; refine ⟨_, rfl, ?_⟩) | ((with_reducible refine w12 ?_ ?_ ?_ ?_); simp; simp; simp [oneC]; intros) | (refine okF_i (bldP_eq rfl) ?_; try simp only [BLS, SB, Nat.reduceAdd])) | simp -implicitDefEqProofs only [SE, SU, SV, hlt]))
    refine ixA (i := i) (a := a) (l := rs) (A := BSY) h rfl rfl hib fun g o ha => ?_
    cases ha
    refine ldA0 (i := i) (l := rs) (A := BSY) h rfl hib (v := rs[i].v) rfl (by simp) ?_
    refine walAdd1 (dp := dp) (a := rs[i].a) (c := rs[i].c) (r := rs[i].bs) (d := d1) (l := l1) h hxl hL1 fun W3 h => ?_
    by_cases he : (LS.add d1 l1 rs[i].bs).2.2 = 0
    · rw [if_neg fun hh => hh he] at hgo
      have f1 := decide_eq_true he
      (repeat (first | (first | ((with_reducible first | refine w1 ?_ | refine w3 ?_ | refine w4 ?_ | refine w11 ?_ | refine stb_n ?_); intros) | ((with_reducible first | refine v5 ?_ | refine v6 ?_ | refine v7 ?_ | refine ve ?_ | refine vn ?_); refine ⟨_, rfl, ?_⟩) | ((with_reducible first | refine v8 ?_ ?_ | refine v9 ?_ ?_ | refine v10 ?_ ?_ | refine v12 ?_ ?_); exact rfl; intros) | ((with_reducible refine w2 ?_); try simp -implicitDefEqProofs only [SE, SU, SV, f1, ew]; intros) | ((with_reducible refine w5 ?_ ?_); simp; refine ⟨_, rfl, ?_⟩) | ((with_reducible refine w12 ?_ ?_ ?_ ?_); simp; simp; simp [oneC]; intros) | (refine okF_i (bldP_eq rfl) ?_; try simp only [BLS, SB, Nat.reduceAdd])) | simp -implicitDefEqProofs only [SE, SU, SV, f1, ew]))
      refine hK (_, _) _ hib ⟨hgo, hL1.add _, ?_, h⟩
      rw [← hre]
      exact add_recs _ _ _
    · rw [if_pos he] at hgo
      have f1 := decide_eq_false he
      rw [hgo, if_pos he] at hk
      (repeat (first | (first | ((with_reducible first | refine w1 ?_ | refine w3 ?_ | refine w4 ?_ | refine w11 ?_ | refine stb_n ?_); intros) | ((with_reducible first | refine v5 ?_ | refine v6 ?_ | refine v7 ?_ | refine ve ?_ | refine vn ?_); refine ⟨_, rfl, ?_⟩) | ((with_reducible first | refine v8 ?_ ?_ | refine v9 ?_ ?_ | refine v10 ?_ ?_ | refine v12 ?_ ?_); exact rfl; intros) | ((with_reducible refine w2 ?_); try simp -implicitDefEqProofs only [SE, SU, SV, f1]; intros) | ((with_reducible refine w5 ?_ ?_); simp; refine ⟨_, rfl, ?_⟩) | ((with_reducible refine w12 ?_ ?_ ?_ ?_); simp; simp; simp [oneC]; intros) | (refine okF_i (bldP_eq rfl) ?_; try simp only [BLS, SB, Nat.reduceAdd])) | simp -implicitDefEqProofs only [SE, SU, SV, f1]))
      exact hk _ h
  have ei : rs.drop i = [] := List.drop_eq_nil_of_le (by omega)
  rw [ei] at hgo
  rw [hgo, show bsOf [] = [] from rfl] at hk
  simp only [addGo, ne_eq, not_true, if_false] at hk
  (repeat (first | (first | ((with_reducible first | refine w1 ?_ | refine w3 ?_ | refine w4 ?_ | refine w11 ?_ | refine stb_n ?_); intros) | ((with_reducible first | refine v5 ?_ | refine v6 ?_ | refine v7 ?_ | refine ve ?_ | refine vn ?_); refine ⟨_, rfl, ?_⟩) | ((with_reducible first | refine v8 ?_ ?_ | refine v9 ?_ ?_ | refine v10 ?_ ?_ | refine v12 ?_ ?_); exact rfl; intros) | ((with_reducible refine w2 ?_); try simp -implicitDefEqProofs only [SE, SU, SV, hlt]; intros) | ((with_reducible refine w5 ?_ ?_); simp; refine ⟨_, rfl, ?_⟩) | ((with_reducible refine w12 ?_ ?_ ?_ ?_); simp; simp; simp [oneC]; intros) | (refine okF_i (bldP_eq rfl) ?_; try simp only [BLS, SB, Nat.reduceAdd])) | simp -implicitDefEqProofs only [SE, SU, SV, hlt]))
  clear hK hlt hgo
  unfold S.wal_Log_Add.j2
  simp -implicitDefEqProofs only [SE, SU, SV]
  refine loop_c (σ := Unit) rs.length (fun i _ => [.pointer (some ⟨q, 0, none⟩), .slice a rs.length c, .int .i64 (rs.length : Int), .int .i64 (i : Int)])
    (fun i _ W1 => St W0 (lg q dp { l1 with recs := l1.recs ++ bsOf (rs.take i) } :: dk dp d1 :: L2) W1) () rfl (by simpa using h) ?_
  clear h
  rintro K i _ W3 hi h hK
  simp -implicitDefEqProofs only [SE, SU, SV]
  unfold S.wal_Log_Add.l1
  by_cases hlt : (i : Int) < (rs.length : Int)
  · have hib : i < rs.length := by omega
    have ew : IntKind.i64.wrap ((i : Int) + 1) = ((i + 1 : Nat) : Int) := by rw [i64w]; omega
    have hx := hrs _ (List.getElem_mem hib)
    have hxl := hok _ (List.getElem_mem hib)
    (repeat (first | (first | ((with_reducible first | refine w1 ?_ | refine w3 ?_ | refine w4 ?_ | refine w11 ?_ | refine stb_n ?_); intros) | ((with_reducible first | refine v5 ?_ | refine v6 ?_ | refine v7 ?_ | refine ve ?_ | refine vn ?_); refine ⟨_, rfl, ?_⟩) | ((with_reducible first | refine v8 ?_ ?_ | refine v9 ?_ ?_ | refine v10 ?_ ?_ | refine v12 ?_ ?_); exact rfl; intros) | ((with_reducible refine w2 ?_); try simp -implicitDefEqProofs only [SE, SU, SV, hlt]; intros) | ((with_reducible refine w5 ?_ ?_); simp; refine ⟨_, rfl, ?_⟩) | ((with_reducible refine w12 ?_ ?_ ?_ ?_); simp; simp; simp [oneC]; intros) | (refine okF_i (bldP_eq rfl) ?_; try simp only [BLS, SB, Nat.reduceAdd])) | simp -implicitDefEqProofs only [SE, SU, SV, hlt]))
    refine ixA (i := i) (a := a) (l := rs) (A := BSY) h rfl rfl hib fun g o ha => ?_
    cases ha
    refine ldA0 (i := i) (l := rs) (A := BSY) h rfl hib (v := rs[i].v) rfl (by simp) ?_
    obtain ⟨na, nc, da, dc, bb, ra, rc, rows, hb, hrw, h⟩ := lg_at h
    have hrwl : rows.length = l1.recs.length + i := by
      have := congrArg List.length hrw
      simpa [Nat.min_eq_left hi] using this
    have hrl1 := congrArg List.length hre
    (repeat (first | (first | ((with_reducible first | refine w1 ?_ | refine w3 ?_ | refine w4 ?_ | refine w11 ?_ | refine stb_n ?_); intros) | ((with_reducible first | refine v5 ?_ | refine v6 ?_ | refine v7 ?_ | refine ve ?_ | refine vn ?_); refine ⟨_, rfl, ?_⟩) | ((with_reducible first | refine v8 ?_ ?_ | refine v9 ?_ ?_ | refine v10 ?_ ?_ | refine v12 ?_ ?_); exact rfl; intros) | ((with_reducible refine w2 ?_); try simp -implicitDefEqProofs only [SE, SU, SV]; intros) | ((with_reducible refine w5 ?_ ?_); simp; refine ⟨_, rfl, ?_⟩) | ((with_reducible refine w12 ?_ ?_ ?_ ?_); simp; simp; simp [oneC]; intros) | (refine okF_i (bldP_eq rfl) ?_; try simp only [BLS, SB, Nat.reduceAdd])) | simp -implicitDefEqProofs only [SE, SU, SV]))
    refine bytesClone (a := rs[i].a) (l := rs[i].bs) (by first | assumption | exact St.tick (by assumption) | exact St.tick (St.tick (by assumption))) (by omega) fun a2 c2 W4 h => ?_
    (repeat (first | (first | ((with_reducible first | refine w1 ?_ | refine w3 ?_ | refine w4 ?_ | refine w11 ?_ | refine stb_n ?_); intros) | ((with_reducible first | refine v5 ?_ | refine v6 ?_ | refine v7 ?_ | refine ve ?_ | refine vn ?_); refine ⟨_, rfl, ?_⟩) | ((with_reducible first | refine v8 ?_ ?_ | refine v9 ?_ ?_ | refine v10 ?_ ?_ | refine v12 ?_ ?_); exact rfl; intros) | ((with_reducible refine w2 ?_); try simp -implicitDefEqProofs only [SE, SU, SV]; intros) | ((with_reducible refine w5 ?_ ?_); simp; refine ⟨_, rfl, ?_⟩) | ((with_reducible refine w12 ?_ ?_ ?_ ?_); simp; simp; simp [oneC]; intros) | (refine okF_i (bldP_eq rfl) ?_; try simp only [BLS, SB, Nat.reduceAdd])) | simp -implicitDefEqProofs only [SE, SU, SV]))
    refine bsA BSY [⟨a2, c2, rs[i].bs⟩] (n := 1) (by first | assumption | exact St.tick (by assumption) | exact St.tick (St.tick (by assumption))) rfl rfl (by decide) (by decide) rfl fun a3 c3 W5 h => ?_
    (repeat (first | (first | ((with_reducible first | refine w1 ?_ | refine w3 ?_ | refine w4 ?_ | refine w11 ?_ | refine stb_n ?_); intros) | ((with_reducible first | refine v5 ?_ | refine v6 ?_ | refine v7 ?_ | refine ve ?_ | refine vn ?_); refine ⟨_, rfl, ?_⟩) | ((with_reducible first | refine v8 ?_ ?_ | refine v9 ?_ ?_ | refine v10 ?_ ?_ | refine v12 ?_ ?_); exact rfl; intros) | ((with_reducible refine w2 ?_); try simp -implicitDefEqProofs only [SE, SU, SV]; intros) | ((with_reducible refine w5 ?_ ?_); simp; refine ⟨_, rfl, ?_⟩) | ((with_reducible refine w12 ?_ ?_ ?_ ?_); simp; simp; simp [oneC]; intros) | (refine okF_i (bldP_eq rfl) ?_; try simp only [BLS, SB, Nat.reduceAdd])) | simp -implicitDefEqProofs only [SE, SU, SV]))
    refine appA (A := BSY) (a := ra) (l := rows) (m := [⟨a2, c2, rs[i].bs⟩]) (by first | assumption | exact St.tick (by assumption) | exact St.tick (St.tick (by assumption))) rfl (by simp; omega) (by simp [maxLen]; omega) fun a4 c4 W6 h => ?_
    (repeat (first | (first | ((with_reducible first | refine w1 ?_ | refine w3 ?_ | refine w4 ?_ | refine w11 ?_ | refine stb_n ?_); intros) | ((with_reducible first | refine v5 ?_ | refine v6 ?_ | refine v7 ?_ | refine ve ?_ | refine vn ?_); refine ⟨_, rfl, ?_⟩) | ((with_reducible first | refine v8 ?_ ?_ | refine v9 ?_ ?_ | refine v10 ?_ ?_ | refine v12 ?_ ?_); exact rfl; intros) | ((with_reducible refine w2 ?_); try simp -implicitDefEqProofs only [SE, SU, SV, ew]; intros) | ((with_reducible refine w5 ?_ ?_); simp; refine ⟨_, rfl, ?_⟩) | ((with_reducible refine w12 ?_ ?_ ?_ ?_); simp; simp; simp [oneC]; intros) | (refine okF_i (bldP_eq rfl) ?_; try simp only [BLS, SB, Nat.reduceAdd])) | simp -implicitDefEqProofs only [SE, SU, SV, ew]))
    rename_i h
    (try simp only [BLS, SB, stL_a, stL_b, stL_c, List.append_nil, List.take_nil, List.drop_nil, Nat.reduceAdd] at h)
    have h := St.manyPush (F := fch) ⟨a2, c2, rs[i].bs⟩ rows h
    have h := lg_mk q dp { l1 with recs := l1.recs ++ bsOf (rs.take (i + 1)) } na nc da dc bb a4 c4 (rows ++ [⟨a2, c2, rs[i].bs⟩]) h hb
      (by rw [List.map_append, hrw]; simp only [bsOf]; rw [take_snoc hib, List.map_append, List.append_assoc]; rfl)
    exact hK () _ hib (St.wk h)
  · have ei : rs.take i = rs := List.take_of_length_le (by omega)
    rw [ei, hre] at h
    rw [hre] at hk
    (repeat (first | (first | ((with_reducible first | refine w1 ?_ | refine w3 ?_ | refine w4 ?_ | refine w11 ?_ | refine stb_n ?_); intros) | ((with_reducible first | refine v5 ?_ | refine v6 ?_ | refine v7 ?_ | refine ve ?_ | refine vn ?_); refine ⟨_, rfl, ?_⟩) | ((with_reducible first | refine v8 ?_ ?_ | refine v9 ?_ ?_ | refine v10 ?_ ?_ | refine v12 ?_ ?_); exact rfl; intros) | ((with_reducible refine w2 ?_); try simp -implicitDefEqProofs only [SE, SU, SV, hlt]; intros) | ((with_reducible refine w5 ?_ ?_); simp; refine ⟨_, rfl, ?_⟩) | ((with_reducible refine w12 ?_ ?_ ?_ ?_); simp; simp; simp [oneC]; intros) | (refine okF_i (bldP_eq rfl) ?_; try simp only [BLS, SB, Nat.reduceAdd])) | simp -implicitDefEqProofs only [SE, SU, SV, hlt]))
    exact hk _ h
end
end Go.Proofs.Ythladblmjoaeoaa
namespace Go.Proofs.Ythladblmjoaeoaa
set_option linter.unusedVariables false
set_option linter.unusedSimpArgs false
open Go Go.Eng

section
variable {W0 W : World} {L L' L1 L2 : List Asn} {q dp : Nat} {l : LS} {d : DS} {k : Value → World → Prop}
theorem sync_ws (d : DS) (f : Int) : (d.sync f).1.ws.length ≤ d.ws.length := by
  unfold DS.sync DS.safe
  split
  · exact List.length_filter_le _ _
  · exact Nat.le_refl _
theorem drop_ws (d : DS) (f : Int) : (d.drop f).1.ws.length ≤ d.ws.length := by
  unfold DS.drop DS.safe
  split
  · exact List.length_filter_le _ _
  · exact Nat.le_refl _
theorem walSync (h : St W0 L W) [hl : Tk (lg q dp) L l L1] [hd : Tk (dk dp) L1 d L2] (hw : d.ws.length < 500000) (hdl : l.dirty.length < 500000)
    (hk : ∀ W', St W0 (lg q dp (LS.sync d l).2.1 :: dk dp (LS.sync d l).1 :: L2) W' → k (.int .i64 (LS.sync d l).2.2) W') : callK PR F_wal_Log_Sync [.pointer (some ⟨q, 0, none⟩)] k W := by
  apply S.wal_Log_Sync.call
  unfold S.wal_Log_Sync.body
  refine walDone (dp := dp) h fun W1 h => ?_
  unfold LS.sync at hk
  cases hdn : l.done d with
  | true =>
    rw [hdn, if_pos rfl] at hk
    (repeat (first | (first | ((with_reducible first | refine w1 ?_ | refine w3 ?_ | refine w4 ?_ | refine w11 ?_ | refine stb_n ?_); intros) | ((with_reducible first | refine v5 ?_ | refine v6 ?_ | refine v7 ?_ | refine ve ?_ | refine vn ?_); refine ⟨_, rfl, ?_⟩) | ((with_reducible first | refine v8 ?_ ?_ | refine v9 ?_ ?_ | refine v10 ?_ ?_ | refine v12 ?_ ?_); exact rfl; intros) | ((with_reducible refine w2 ?_); try simp -implicitDefEqProofs only [SE, SU, SV]; intros) | ((with_reducible refine w5 ?_ ?_); simp; refine ⟨_, rfl, ?_⟩) | ((with_reducible refine w12 ?_ ?_ ?_ ?_); simp; simp; simp [oneC]; intros) | (refine okF_i (bldP_eq rfl) ?_; try simp only [BLS, SB, Nat.reduceAdd])) | simp -implicitDefEqProofs only [SE, SU, SV]))
    exact hk _ (by first | assumption | exact St.tick (by assumption) | exact St.tick (St.tick (by assumption)))
  | false =>
  rw [hdn] at hk
  simp only [Bool.false_eq_true, if_false] at hk
  obtain ⟨na, nc, da, dc, bb, ra, rc, rows, hb, hrw, h⟩ := lg_at h
  (repeat (first | (first | ((with_reducible first | refine w1 ?_ | refine w3 ?_ | refine w4 ?_ | refine w11 ?_ | refine stb_n ?_); intros) | ((with_reducible first | refine v5 ?_ | refine v6 ?_ | refine v7 ?_ | refine ve ?_ | refine vn ?_); refine ⟨_, rfl, ?_⟩) | ((with_reducible first | refine v8 ?_ ?_ | refine v9 ?_ ?_ | refine v10 ?_ ?_ | refine v12 ?_ ?_); exact rfl; intros) | ((with_reducible refine w2 ?_); try simp -implicitDefEqProofs only [SE, SU, SV]; intros) | ((with_reducible refine w5 ?_ ?_); simp; refine ⟨_, rfl, ?_⟩) | ((with_reducible refine w12 ?_ ?_ ?_ ?_); simp; simp; simp [oneC]; intros) | (refine okF_i (bldP_eq rfl) ?_; try simp only [BLS, SB, Nat.reduceAdd])) | simp -implicitDefEqProofs only [SE, SU, SV]))
  refine joinK_i ?_
  (repeat (first | (first | ((with_reducible first | refine w1 ?_ | refine w3 ?_ | refine w4 ?_ | refine w11 ?_ | refine stb_n ?_); intros) | ((with_reducible first | refine v5 ?_ | refine v6 ?_ | refine v7 ?_ | refine ve ?_ | refine vn ?_); refine ⟨_, rfl, ?_⟩) | ((with_reducible first | refine v8 ?_ ?_ | refine v9 ?_ ?_ | refine v10 ?_ ?_ | refine v12 ?_ ?_); exact rfl; intros) | ((with_reducible refine w2 ?_); try simp -implicitDefEqProofs only [SE, SU, SV]; intros) | ((with_reducible refine w5 ?_ ?_); simp; refine ⟨_, rfl, ?_⟩) | ((with_reducible refine w12 ?_ ?_ ?_ ?_); simp; simp; simp [oneC]; intros) | (refine okF_i (bldP_eq rfl) ?_; try simp only [BLS, SB, Nat.reduceAdd])) | simp -implicitDefEqProofs only [SE, SU, SV]))
  refine loop_c (σ := DS) l.dirty.length (fun i _ => [.pointer (some ⟨q, 0, none⟩), .slice da l.dirty.length dc, .int .i64 (l.dirty.length : Int), .int .i64 (i : Int)])
    (fun i d1 W1 => syncGo d l.dirty = syncGo d1 (l.dirty.drop i) ∧ d1.ws.length < 500000 ∧ St W0 (dk dp d1 :: cells q [.pointer (some ⟨dp, 0, none⟩), .int .i64 l.part, .int .i64 l.lives, .int .u64 (l.turn : Int), .slice na l.nums.length nc, .int .i64 l.cur, .int .i64 l.count, .int .i64 l.index, .slice da l.dirty.length dc, .slice bb.a bb.bs.length bb.c, .slice ra rows.length rc, .bool l.full] T_wal_Log ::
      arr I64 T_int na nc l.nums :: arr I64 T_int da dc l.dirty :: fch bb :: arr BSY T_s_uint8 ra rc rows :: many fch rows :: L2) W1) d rfl ⟨rfl, hw, St.wk (by first | assumption | exact St.tick (by assumption) | exact St.tick (St.tick (by assumption)))⟩ ?_
  clear h
  rintro K i d1 W2 hi ⟨hgo, hw1, h⟩ hK
  simp -implicitDefEqProofs only [SE, SU, SV]
  unfold S.wal_Log_Sync.l1
  by_cases hlt : (i : Int) < (l.dirty.length : Int)
  · have hib : i < l.dirty.length := by omega
    have ew : IntKind.i64.wrap ((i : Int) + 1) = ((i + 1 : Nat) : Int) := by rw [i64w]; omega
    rw [List.drop_eq_getElem_cons hib, syncGo] at hgo
    (repeat (first | (first | ((with_reducible first | refine w1 ?_ | refine w3 ?_ | refine w4 ?_ | refine w11 ?_ | refine stb_n ?_); intros) | ((with_reducible first | refine v5 ?_ | refine v6 ?_ | refine v7 ?_ | refine ve ?_ | refine vn ?_); refine ⟨_, rfl, ?_⟩) | ((with_reducible first | refine v8 ?_ ?_ | refine v9 ?_ ?_ | refine v10 ?_ ?_ | refine v12 ?_ ?_); exact rfl; intros) | ((with_reducible refine w2 ?_); try simp -implicitDefEqProofs only [SE, SU, SV, hlt]; intros) | ((with_reducible refine w5 ?_ ?_); simp; refine ⟨_, rfl, ?_⟩) | ((with_reducible refine w12 ?_ ?_ ?_ ?_); simp; simp; simp [oneC]; intros) | (refine okF_i (bldP_eq rfl) ?_; try simp only [BLS, SB, Nat.reduceAdd])) | simp -implicitDefEqProofs only [SE, SU, SV, hlt]))
    refine ixA (i := i) (a := da) (l := l.dirty) (A := I64) h rfl rfl hib fun g o ha => ?_
    cases ha
    refine ldA0 (i := i) (l := l.dirty) (A := I64) h rfl hib (v := .int .i64 l.dirty[i]) rfl (by simp) ?_
    (repeat (first | (first | ((with_reducible first | refine w1 ?_ | refine w3 ?_ | refine w4 ?_ | refine w11 ?_ | refine stb_n ?_); intros) | ((with_reducible first | refine v5 ?_ | refine v6 ?_ | refine v7 ?_ | refine ve ?_ | refine vn ?_); refine ⟨_, rfl, ?_⟩) | ((with_reducible first | refine v8 ?_ ?_ | refine v9 ?_ ?_ | refine v10 ?_ ?_ | refine v12 ?_ ?_); exact rfl; intros) | ((with_reducible refine w2 ?_); try simp -implicitDefEqProofs only [SE, SU, SV]; intros) | ((with_reducible refine w5 ?_ ?_); simp; refine ⟨_, rfl, ?_⟩) | ((with_reducible refine w12 ?_ ?_ ?_ ?_); simp; simp; simp [oneC]; intros) | (refine okF_i (bldP_eq rfl) ?_; try simp only [BLS, SB, Nat.reduceAdd])) | simp -implicitDefEqProofs only [SE, SU, SV]))
    refine diskSync (d := d1) (f := l.dirty[i]) (by first | assumption | exact St.tick (by assumption) | exact St.tick (St.tick (by assumption))) (by omega) fun W3 h => ?_
    have := sync_ws d1 l.dirty[i]
    by_cases he : (d1.sync l.dirty[i]).2 = 0
    · rw [if_neg fun hh => hh he] at hgo
      have f1 := decide_eq_true he
      (repeat (first | (first | ((with_reducible first | refine w1 ?_ | refine w3 ?_ | refine w4 ?_ | refine w11 ?_ | refine stb_n ?_); intros) | ((with_reducible first | refine v5 ?_ | refine v6 ?_ | refine v7 ?_ | refine ve ?_ | refine vn ?_); refine ⟨_, rfl, ?_⟩) | ((with_reducible first | refine v8 ?_ ?_ | refine v9 ?_ ?_ | refine v10 ?_ ?_ | refine v12 ?_ ?_); exact rfl; intros) | ((with_reducible refine w2 ?_); try simp -implicitDefEqProofs only [SE, SU, SV, f1, ew]; intros) | ((with_reducible refine w5 ?_ ?_); simp; refine ⟨_, rfl, ?_⟩) | ((with_reducible refine w12 ?_ ?_ ?_ ?_); simp; simp; simp [oneC]; intros) | (refine okF_i (bldP_eq rfl) ?_; try simp only [BLS, SB, Nat.reduceAdd])) | simp -implicitDefEqProofs only [SE, SU, SV, f1, ew]))
      exact hK _ _ hib ⟨hgo, by omega, h⟩
    · rw [if_pos he] at hgo
      have f1 := decide_eq_false he
      rw [hgo, if_pos he] at hk
      (repeat (first | (first | ((with_reducible first | refine w1 ?_ | refine w3 ?_ | refine w4 ?_ | refine w11 ?_ | refine stb_n ?_); intros) | ((with_reducible first | refine v5 ?_ | refine v6 ?_ | refine v7 ?_ | refine ve ?_ | refine vn ?_); refine ⟨_, rfl, ?_⟩) | ((with_reducible first | refine v8 ?_ ?_ | refine v9 ?_ ?_ | refine v10 ?_ ?_ | refine v12 ?_ ?_); exact rfl; intros) | ((with_reducible refine w2 ?_); try simp -implicitDefEqProofs only [SE, SU, SV, f1]; intros) | ((with_reducible refine w5 ?_ ?_); simp; refine ⟨_, rfl, ?_⟩) | ((with_reducible refine w12 ?_ ?_ ?_ ?_); simp; simp; simp [oneC]; intros) | (refine okF_i (bldP_eq rfl) ?_; try simp only [BLS, SB, Nat.reduceAdd])) | simp -implicitDefEqProofs only [SE, SU, SV, f1]))
      exact hk _ (h.ent (lg_dk hb hrw))
  · rw [List.drop_eq_nil_of_le (by omega)] at hgo
    rw [hgo] at hk
    simp only [syncGo, ne_eq, not_true, if_false] at hk
    unfold S.wal_Log_Sync.j1
    (repeat (first | (first | ((with_reducible first | refine w1 ?_ | refine w3 ?_ | refine w4 ?_ | refine w11 ?_ | refine stb_n ?_); intros) | ((with_reducible first | refine v5 ?_ | refine v6 ?_ | refine v7 ?_ | refine ve ?_ | refine vn ?_); refine ⟨_, rfl, ?_⟩) | ((with_reducible first | refine v8 ?_ ?_ | refine v9 ?_ ?_ | refine v10 ?_ ?_ | refine v12 ?_ ?_); exact rfl; intros) | ((with_reducible refine w2 ?_); try simp -implicitDefEqProofs only [SE, SU, SV, hlt]; intros) | ((with_reducible refine w5 ?_ ?_); simp; refine ⟨_, rfl, ?_⟩) | ((with_reducible refine w12 ?_ ?_ ?_ ?_); simp; simp; simp [oneC]; intros) | (refine okF_i (bldP_eq rfl) ?_; try simp only [BLS, SB, Nat.reduceAdd])) | simp -implicitDefEqProofs only [SE, SU, SV, hlt]))
    rename_i h
    (try simp only [BLS, SB, stL_a, stL_b, stL_c, List.append_nil, List.take_nil, List.drop_nil, Nat.reduceAdd] at h)
    have h := h.ent (arr_nil I64 T_int)
    have h := lg_mk q dp { l with dirty := [] } na nc none 0 bb ra rc rows h hb hrw
    exact hk _ (St.wk h)
theorem walBase (h : St W0 L W) [hl : Tk (lg q dp) L l L1] (hb0 : l.base.length < 70368744177664) (hk : ∀ a c W', St W0 (arr B8 T_uint8 a c l.base :: lg q dp l :: L1) W' → k (.slice a l.base.length c) W') : callK PR F_wal_Log_Base [.pointer (some ⟨q, 0, none⟩)] k W := by
  apply S.wal_Log_Base.call
  unfold S.wal_Log_Base.body
  obtain ⟨na, nc, da, dc, bb, ra, rc, rows, hb, hrw, h⟩ := lg_at (h.perm hl.perm)
  rw [← hb] at hk hb0
  (repeat (first | (first | ((with_reducible first | refine w1 ?_ | refine w3 ?_ | refine w4 ?_ | refine w11 ?_ | refine stb_n ?_); intros) | ((with_reducible first | refine v5 ?_ | refine v6 ?_ | refine v7 ?_ | refine ve ?_ | refine vn ?_); refine ⟨_, rfl, ?_⟩) | ((with_reducible first | refine v8 ?_ ?_ | refine v9 ?_ ?_ | refine v10 ?_ ?_ | refine v12 ?_ ?_); exact rfl; intros) | ((with_reducible refine w2 ?_); try simp -implicitDefEqProofs only [SE, SU, SV]; intros) | ((with_reducible refine w5 ?_ ?_); simp; refine ⟨_, rfl, ?_⟩) | ((with_reducible refine w12 ?_ ?_ ?_ ?_); simp; simp; simp [oneC]; intros) | (refine okF_i (bldP_eq rfl) ?_; try simp only [BLS, SB, Nat.reduceAdd])) | simp -implicitDefEqProofs only [SE, SU, SV]))
  refine bytesClone (a := bb.a) (l := bb.bs) (by first | assumption | exact St.tick (by assumption) | exact St.tick (St.tick (by assumption))) hb0 fun a1 c1 W1 h => ?_
  exact hk a1 c1 _ (h.ent (ent.cons _ (lg_ent hb hrw)))
theorem walAll (h : St W0 L W) [hl : Tk (lg q dp) L l L1] (hn : l.recs.length < 500000) (hb0 : ∀ r ∈ l.recs, r.length < 70368744177664) (hk : ∀ a c (rs : List BSl) W', bsOf rs = l.recs → St W0 (arr BSY T_s_uint8 a c rs :: many fch rs :: lg q dp l :: L1) W' → k (.slice a rs.length c) W') :
    callK PR F_wal_Log_All [.pointer (some ⟨q, 0, none⟩)] k W := by
  apply S.wal_Log_All.call
  unfold S.wal_Log_All.body
  refine joinK_i ?_
  obtain ⟨na, nc, da, dc, bb, ra, rc, rows, hb, hrw, h⟩ := lg_at (h.perm hl.perm)
  have hrl : rows.length = l.recs.length := by rw [← hrw]; simp
  (repeat (first | (first | ((with_reducible first | refine w1 ?_ | refine w3 ?_ | refine w4 ?_ | refine w11 ?_ | refine stb_n ?_); intros) | ((with_reducible first | refine v5 ?_ | refine v6 ?_ | refine v7 ?_ | refine ve ?_ | refine vn ?_); refine ⟨_, rfl, ?_⟩) | ((with_reducible first | refine v8 ?_ ?_ | refine v9 ?_ ?_ | refine v10 ?_ ?_ | refine v12 ?_ ?_); exact rfl; intros) | ((with_reducible refine w2 ?_); try simp -implicitDefEqProofs only [SE, SU, SV]; intros) | ((with_reducible refine w5 ?_ ?_); simp; refine ⟨_, rfl, ?_⟩) | ((with_reducible refine w12 ?_ ?_ ?_ ?_); simp; simp; simp [oneC]; intros) | (refine okF_i (bldP_eq rfl) ?_; try simp only [BLS, SB, Nat.reduceAdd])) | simp -implicitDefEqProofs only [SE, SU, SV]))
  refine loop_c (σ := Option Addr × Nat × List BSl) rows.length (fun i x => [.slice x.1 x.2.2.length x.2.1, .slice ra rows.length rc, .int .i64 (rows.length : Int), .int .i64 (i : Int)])
    (fun i x W1 => bsOf x.2.2 = bsOf (rows.take i) ∧ St W0 (arr BSY T_s_uint8 x.1 x.2.1 x.2.2 :: many fch x.2.2 :: cells q [.pointer (some ⟨dp, 0, none⟩), .int .i64 l.part, .int .i64 l.lives, .int .u64 (l.turn : Int), .slice na l.nums.length nc, .int .i64 l.cur, .int .i64 l.count, .int .i64 l.index, .slice da l.dirty.length dc, .slice bb.a bb.bs.length bb.c, .slice ra rows.length rc, .bool l.full] T_wal_Log ::
      arr I64 T_int na nc l.nums :: arr I64 T_int da dc l.dirty :: fch bb :: arr BSY T_s_uint8 ra rc rows :: many fch rows :: L1) W1) (none, 0, []) rfl ⟨rfl, St.ent (by first | assumption | exact St.tick (by assumption) | exact St.tick (St.tick (by assumption))) ((many_nil (F := fch)).trans (arr_nil BSY T_s_uint8))⟩ ?_
  clear h
  rintro K i ⟨a1, c1, rs⟩ W2 hi ⟨hrs, h⟩ hK
  simp only at hrs h
  have hrsl : rs.length = i := by have := congrArg List.length hrs; simpa [Nat.min_eq_left hi] using this
  simp -implicitDefEqProofs only [SE, SU, SV]
  unfold S.wal_Log_All.l1
  by_cases hlt : (i : Int) < (rows.length : Int)
  · have hib : i < rows.length := by omega
    have ew : IntKind.i64.wrap ((i : Int) + 1) = ((i + 1 : Nat) : Int) := by rw [i64w]; omega
    have hbl : rows[i].bs.length < 70368744177664 := hb0 _ (by rw [← hrw]; exact List.mem_map_of_mem (List.getElem_mem hib))
    (repeat (first | (first | ((with_reducible first | refine w1 ?_ | refine w3 ?_ | refine w4 ?_ | refine w11 ?_ | refine stb_n ?_); intros) | ((with_reducible first | refine v5 ?_ | refine v6 ?_ | refine v7 ?_ | refine ve ?_ | refine vn ?_); refine ⟨_, rfl, ?_⟩) | ((with_reducible first | refine v8 ?_ ?_ | refine v9 ?_ ?_ | refine v10 ?_ ?_ | refine v12 ?_ ?_); exact rfl; intros) | ((with_reducible refine w2 ?_); try simp -implicitDefEqProofs only [SE, SU, SV, hlt]; intros) | ((with_reducible refine w5 ?_ ?_); simp; refine ⟨_, rfl, ?_⟩) | ((with_reducible refine w12 ?_ ?_ ?_ ?_); simp; simp; simp [oneC]; intros) | (refine okF_i (bldP_eq rfl) ?_; try simp only [BLS, SB, Nat.reduceAdd])) | simp -implicitDefEqProofs only [SE, SU, SV, hlt]))
    haveI hrd : Rd W0 (arr BSY T_s_uint8 a1 c1 rs :: many fch rs :: cells q [.pointer (some ⟨dp, 0, none⟩), .int .i64 l.part, .int .i64 l.lives, .int .u64 (l.turn : Int), .slice na l.nums.length nc, .int .i64 l.cur, .int .i64 l.count, .int .i64 l.index, .slice da l.dirty.length dc, .slice bb.a bb.bs.length bb.c, .slice ra rows.length rc, .bool l.full] T_wal_Log ::
      arr I64 T_int na nc l.nums :: arr I64 T_int da dc l.dirty :: fch bb :: arr BSY T_s_uint8 ra rc rows :: many fch rows :: L1) ra BSY rows := ⟨fun W h => by
        have h2 := St.wk (L' := arr BSY T_s_uint8 ra rc rows :: []) h
        have hr : Rd W0 (arr BSY T_s_uint8 ra rc rows :: []) ra BSY rows := inferInstance
        exact hr.ok W h2⟩
    refine ixA (i := i) (a := ra) (l := rows) (A := BSY) h rfl rfl hib fun g o ha => ?_
    refine ldA0 (i := i) (l := rows) (A := BSY) (hr := ha ▸ hrd) h rfl hib (v := rows[i].v) rfl (by simp) ?_
    haveI hrd2 : Rd W0 (arr BSY T_s_uint8 a1 c1 rs :: many fch rs :: cells q [.pointer (some ⟨dp, 0, none⟩), .int .i64 l.part, .int .i64 l.lives, .int .u64 (l.turn : Int), .slice na l.nums.length nc, .int .i64 l.cur, .int .i64 l.count, .int .i64 l.index, .slice da l.dirty.length dc, .slice bb.a bb.bs.length bb.c, .slice ra rows.length rc, .bool l.full] T_wal_Log ::
      arr I64 T_int na nc l.nums :: arr I64 T_int da dc l.dirty :: fch bb :: arr BSY T_s_uint8 ra rc rows :: many fch rows :: L1) rows[i].a B8 rows[i].bs := ⟨fun W h => by
        have h2 := St.wk (L' := many fch rows :: []) h
        exact (rdMany (W0 := W0) (L := []) (.inr (List.getElem_mem hib))).ok W h2⟩
    refine bytesClone (a := rows[i].a) (l := rows[i].bs) h hbl fun a2 c2 W3 h => ?_
    refine pushA (A := BSY) (l := rs) (a := a1) (⟨a2, c2, rows[i].bs⟩ : BSl) h rfl rfl (by omega) (by simp only [maxLen]; omega) (by decide) fun a3 c3 W4 h => ?_
    (repeat (first | (first | ((with_reducible first | refine w1 ?_ | refine w3 ?_ | refine w4 ?_ | refine w11 ?_ | refine stb_n ?_); intros) | ((with_reducible first | refine v5 ?_ | refine v6 ?_ | refine v7 ?_ | refine ve ?_ | refine vn ?_); refine ⟨_, rfl, ?_⟩) | ((with_reducible first | refine v8 ?_ ?_ | refine v9 ?_ ?_ | refine v10 ?_ ?_ | refine v12 ?_ ?_); exact rfl; intros) | ((with_reducible refine w2 ?_); try simp -implicitDefEqProofs only [SE, SU, SV, ew]; intros) | ((with_reducible refine w5 ?_ ?_); simp; refine ⟨_, rfl, ?_⟩) | ((with_reducible refine w12 ?_ ?_ ?_ ?_); simp; simp; simp [oneC]; intros) | (refine okF_i (bldP_eq rfl) ?_; try simp only [BLS, SB, Nat.reduceAdd])) | simp -implicitDefEqProofs only [SE, SU, SV, ew]))
    have h := St.manyPush (F := fch) ⟨a2, c2, rows[i].bs⟩ rs h
    exact hK (a3, c3, rs ++ [⟨a2, c2, rows[i].bs⟩]) _ hib ⟨by simp only [bsOf] at hrs ⊢; rw [List.map_append, hrs, take_snoc hib, List.map_append]; rfl, St.perm h (List.Perm.swap _ _ _)⟩
  · rw [List.take_of_length_le (by omega)] at hrs
    unfold S.wal_Log_All.j1
    (repeat (first | (first | ((with_reducible first | refine w1 ?_ | refine w3 ?_ | refine w4 ?_ | refine w11 ?_ | refine stb_n ?_); intros) | ((with_reducible first | refine v5 ?_ | refine v6 ?_ | refine v7 ?_ | refine ve ?_ | refine vn ?_); refine ⟨_, rfl, ?_⟩) | ((with_reducible first | refine v8 ?_ ?_ | refine v9 ?_ ?_ | refine v10 ?_ ?_ | refine v12 ?_ ?_); exact rfl; intros) | ((with_reducible refine w2 ?_); try simp -implicitDefEqProofs only [SE, SU, SV, hlt]; intros) | ((with_reducible refine w5 ?_ ?_); simp; refine ⟨_, rfl, ?_⟩) | ((with_reducible refine w12 ?_ ?_ ?_ ?_); simp; simp; simp [oneC]; intros) | (refine okF_i (bldP_eq rfl) ?_; try simp only [BLS, SB, Nat.reduceAdd])) | simp -implicitDefEqProofs only [SE, SU, SV, hlt]))
    exact hk a1 c1 rs _ (hrs.trans hrw) (h.ent (ent.cons _ (ent.cons _ (lg_ent hb hrw))))
theorem walKeep {a : Option Addr} {c : Nat} {b : Bs} (h : St W0 L W) [hl : Tk (lg q dp) L l L1] [hd : Tk (dk dp) L1 d L2] [hr : Rd W0 L2 a B8 b] (hL : LOk 2 d l) (hbl : b.length < 4611686018427387904)
    (hk : ∀ W', St W0 (lg q dp (LS.keep d l b).2.1 :: dk dp (LS.keep d l b).1 :: L2) W' → k (.int .i64 (LS.keep d l b).2.2) W') : callK PR F_wal_Log_Keep [.pointer (some ⟨q, 0, none⟩), .slice a b.length c] k W := by
  apply S.wal_Log_Keep.call
  unfold S.wal_Log_Keep.body
  refine walDone (dp := dp) h fun W1 h => ?_
  obtain ⟨g1, g2, g3, g4, g5, g6, g7⟩ := hL
  unfold LS.keep at hk
  cases hdn : l.done d with
  | true =>
    rw [hdn, if_pos rfl] at hk
    (repeat (first | (first | ((with_reducible first | refine w1 ?_ | refine w3 ?_ | refine w4 ?_ | refine w11 ?_ | refine stb_n ?_); intros) | ((with_reducible first | refine v5 ?_ | refine v6 ?_ | refine v7 ?_ | refine ve ?_ | refine vn ?_); refine ⟨_, rfl, ?_⟩) | ((with_reducible first | refine v8 ?_ ?_ | refine v9 ?_ ?_ | refine v10 ?_ ?_ | refine v12 ?_ ?_); exact rfl; intros) | ((with_reducible refine w2 ?_); try simp -implicitDefEqProofs only [SE, SU, SV]; intros) | ((with_reducible refine w5 ?_ ?_); simp; refine ⟨_, rfl, ?_⟩) | ((with_reducible refine w12 ?_ ?_ ?_ ?_); simp; simp; simp [oneC]; intros) | (refine okF_i (bldP_eq rfl) ?_; try simp only [BLS, SB, Nat.reduceAdd])) | simp -implicitDefEqProofs only [SE, SU, SV]))
    exact hk _ (by first | assumption | exact St.tick (by assumption) | exact St.tick (St.tick (by assumption)))
  | false =>
  rw [hdn] at hk
  simp only [Bool.false_eq_true, if_false] at hk
  by_cases hbig : 65536 < b.length
  · rw [if_pos hbig] at hk
    have f1 : decide ((65536 : Int) < (b.length : Int)) = true := decide_eq_true (by omega)
    (repeat (first | (first | ((with_reducible first | refine w1 ?_ | refine w3 ?_ | refine w4 ?_ | refine w11 ?_ | refine stb_n ?_); intros) | ((with_reducible first | refine v5 ?_ | refine v6 ?_ | refine v7 ?_ | refine ve ?_ | refine vn ?_); refine ⟨_, rfl, ?_⟩) | ((with_reducible first | refine v8 ?_ ?_ | refine v9 ?_ ?_ | refine v10 ?_ ?_ | refine v12 ?_ ?_); exact rfl; intros) | ((with_reducible refine w2 ?_); try simp -implicitDefEqProofs only [SE, SU, SV, f1]; intros) | ((with_reducible refine w5 ?_ ?_); simp; refine ⟨_, rfl, ?_⟩) | ((with_reducible refine w12 ?_ ?_ ?_ ?_); simp; simp; simp [oneC]; intros) | (refine okF_i (bldP_eq rfl) ?_; try simp only [BLS, SB, Nat.reduceAdd])) | simp -implicitDefEqProofs only [SE, SU, SV, f1]))
    exact hk _ (by first | assumption | exact St.tick (by assumption) | exact St.tick (St.tick (by assumption)))
  rw [if_neg hbig] at hk
  have f1 : decide ((65536 : Int) < (b.length : Int)) = false := decide_eq_false (by omega)
  (repeat (first | (first | ((with_reducible first | refine w1 ?_ | refine w3 ?_ | refine w4 ?_ | refine w11 ?_ | refine stb_n ?_); intros) | ((with_reducible first | refine v5 ?_ | refine v6 ?_ | refine v7 ?_ | refine ve ?_ | refine vn ?_); refine ⟨_, rfl, ?_⟩) | ((with_reducible first | refine v8 ?_ ?_ | refine v9 ?_ ?_ | refine v10 ?_ ?_ | refine v12 ?_ ?_); exact rfl; intros) | ((with_reducible refine w2 ?_); try simp -implicitDefEqProofs only [SE, SU, SV, f1]; intros) | ((with_reducible refine w5 ?_ ?_); simp; refine ⟨_, rfl, ?_⟩) | ((with_reducible refine w12 ?_ ?_ ?_ ?_); simp; simp; simp [oneC]; intros) | (refine okF_i (bldP_eq rfl) ?_; try simp only [BLS, SB, Nat.reduceAdd])) | simp -implicitDefEqProofs only [SE, SU, SV, f1]))
  refine walFree (dp := dp) (l := l) (by first | assumption | exact St.tick (by assumption) | exact St.tick (St.tick (by assumption))) (by omega) fun W2 h => ?_
  by_cases hfr : l.free < 0
  · rw [if_pos hfr] at hk
    have f2 := decide_eq_true hfr
    obtain ⟨na, nc, da, dc, bb, ra, rc, rows, hb, hrw, h⟩ := lg_at h
    (repeat (first | (first | ((with_reducible first | refine w1 ?_ | refine w3 ?_ | refine w4 ?_ | refine w11 ?_ | refine stb_n ?_); intros) | ((with_reducible first | refine v5 ?_ | refine v6 ?_ | refine v7 ?_ | refine ve ?_ | refine vn ?_); refine ⟨_, rfl, ?_⟩) | ((with_reducible first | refine v8 ?_ ?_ | refine v9 ?_ ?_ | refine v10 ?_ ?_ | refine v12 ?_ ?_); exact rfl; intros) | ((with_reducible refine w2 ?_); try simp -implicitDefEqProofs only [SE, SU, SV, f2]; intros) | ((with_reducible refine w5 ?_ ?_); simp; refine ⟨_, rfl, ?_⟩) | ((with_reducible refine w12 ?_ ?_ ?_ ?_); simp; simp; simp [oneC]; intros) | (refine okF_i (bldP_eq rfl) ?_; try simp only [BLS, SB, Nat.reduceAdd])) | simp -implicitDefEqProofs only [SE, SU, SV, f2]))
    rename_i h
    (try simp only [BLS, SB, stL_a, stL_b, stL_c, List.append_nil, List.take_nil, List.drop_nil, Nat.reduceAdd] at h)
    exact hk _ (h.ent (lg_ent (l := { l with full := true }) hb hrw))
  rw [if_neg hfr] at hk
  have f2 := decide_eq_false hfr
  have et : IntKind.u64.wrap ((l.turn : Int) + 1) = ((l.turn + 1 : Nat) : Int) := by rw [u64w]; omega
  obtain ⟨na, nc, da, dc, bb, ra, rc, rows, hb, hrw, h⟩ := lg_at h
  (repeat (first | (first | ((with_reducible first | refine w1 ?_ | refine w3 ?_ | refine w4 ?_ | refine w11 ?_ | refine stb_n ?_); intros) | ((with_reducible first | refine v5 ?_ | refine v6 ?_ | refine v7 ?_ | refine ve ?_ | refine vn ?_); refine ⟨_, rfl, ?_⟩) | ((with_reducible first | refine v8 ?_ ?_ | refine v9 ?_ ?_ | refine v10 ?_ ?_ | refine v12 ?_ ?_); exact rfl; intros) | ((with_reducible refine w2 ?_); try simp -implicitDefEqProofs only [SE, SU, SV, f2, et]; intros) | ((with_reducible refine w5 ?_ ?_); simp; refine ⟨_, rfl, ?_⟩) | ((with_reducible refine w12 ?_ ?_ ?_ ?_); simp; simp; simp [oneC]; intros) | (refine okF_i (bldP_eq rfl) ?_; try simp only [BLS, SB, Nat.reduceAdd])) | simp -implicitDefEqProofs only [SE, SU, SV, f2, et]))
  refine walTop (kd := 0) (t := l.turn + 1) (i := 0) (by first | assumption | exact St.tick (by assumption) | exact St.tick (St.tick (by assumption))) (by decide) (by omega) (by decide) fun a2 c2 W3 h => ?_
  refine walUnit (a := a) (r := b) h (by omega) fun a3 c3 W4 h => ?_
  refine appA (a := a2) (m := unitB b) h rfl (by simp; omega) (by simp [maxLen]; omega) fun a4 c4 W5 h => ?_
  have h := lg_mk q dp l na nc da dc bb ra rc rows h hb hrw
  refine walWrite (dp := dp) (d := d) (l := l) (f := l.free) (a := a4) (b := topB 0 (l.turn + 1) 0 ++ unitB b) h g1 (by omega) (by omega) (by simp; omega) fun W6 h => ?_
  by_cases he : (LS.write d l l.free (topB 0 (l.turn + 1) 0 ++ unitB b)).2.2 = 0
  · rw [if_neg fun hh => hh he] at hk
    have f3 := decide_eq_true he
    have hwd : (LS.write d l l.free (topB 0 (l.turn + 1) 0 ++ unitB b)).1.ws.length < 500000 := by
      have := append_ws d l.free (topB 0 (l.turn + 1) 0 ++ unitB b)
      unfold LS.write; split <;> (simp only; omega)
    have hl1 : (LS.write d l l.free (topB 0 (l.turn + 1) 0 ++ unitB b)).2.1 = { l with dirty := (LS.write d l l.free (topB 0 (l.turn + 1) 0 ++ unitB b)).2.1.dirty } := by
      unfold LS.write at he ⊢
      split
      · rename_i hx; rw [if_pos hx] at he; exact absurd he hx
      · rfl
    generalize (LS.write d l l.free (topB 0 (l.turn + 1) 0 ++ unitB b)).1 = d1 at *
    generalize (LS.write d l l.free (topB 0 (l.turn + 1) 0 ++ unitB b)).2.1 = l1 at *
    rw [hl1] at h
    clear hb hrw
    obtain ⟨na, nc, da, dc, bb, ra, rc, rows, hb, hrw, h⟩ := lg_at h
    (repeat (first | (first | ((with_reducible first | refine w1 ?_ | refine w3 ?_ | refine w4 ?_ | refine w11 ?_ | refine stb_n ?_); intros) | ((with_reducible first | refine v5 ?_ | refine v6 ?_ | refine v7 ?_ | refine ve ?_ | refine vn ?_); refine ⟨_, rfl, ?_⟩) | ((with_reducible first | refine v8 ?_ ?_ | refine v9 ?_ ?_ | refine v10 ?_ ?_ | refine v12 ?_ ?_); exact rfl; intros) | ((with_reducible refine w2 ?_); try simp -implicitDefEqProofs only [SE, SU, SV, f3]; intros) | ((with_reducible refine w5 ?_ ?_); simp; refine ⟨_, rfl, ?_⟩) | ((with_reducible refine w12 ?_ ?_ ?_ ?_); simp; simp; simp [oneC]; intros) | (refine okF_i (bldP_eq rfl) ?_; try simp only [BLS, SB, Nat.reduceAdd])) | simp -implicitDefEqProofs only [SE, SU, SV, f3]))
    refine diskSync (d := d1) (f := l.free) (by first | assumption | exact St.tick (by assumption) | exact St.tick (St.tick (by assumption))) (by omega) fun W7 h => ?_
    have hws := sync_ws d1 l.free
    generalize (d1.sync l.free).1 = d2 at *
    refine joinK_i ?_
    (repeat (first | (first | ((with_reducible first | refine w1 ?_ | refine w3 ?_ | refine w4 ?_ | refine w11 ?_ | refine stb_n ?_); intros) | ((with_reducible first | refine v5 ?_ | refine v6 ?_ | refine v7 ?_ | refine ve ?_ | refine vn ?_); refine ⟨_, rfl, ?_⟩) | ((with_reducible first | refine v8 ?_ ?_ | refine v9 ?_ ?_ | refine v10 ?_ ?_ | refine v12 ?_ ?_); exact rfl; intros) | ((with_reducible refine w2 ?_); try simp -implicitDefEqProofs only [SE, SU, SV]; intros) | ((with_reducible refine w5 ?_ ?_); simp; refine ⟨_, rfl, ?_⟩) | ((with_reducible refine w12 ?_ ?_ ?_ ?_); simp; simp; simp [oneC]; intros) | (refine okF_i (bldP_eq rfl) ?_; try simp only [BLS, SB, Nat.reduceAdd])) | simp -implicitDefEqProofs only [SE, SU, SV]))
    refine loop_c (σ := DS) l.nums.length (fun i _ => [.pointer (some ⟨q, 0, none⟩), .slice a b.length c, .int .i64 l.free, .slice na l.nums.length nc, .int .i64 (l.nums.length : Int), .int .i64 (i : Int)])
      (fun i d3 W1 => dropGo d2 l.nums = dropGo d3 (l.nums.drop i) ∧ d3.ws.length < 500000 ∧ St W0 (dk dp d3 :: cells q [.pointer (some ⟨dp, 0, none⟩), .int .i64 l.part, .int .i64 l.lives, .int .u64 (l.turn : Int), .slice na l.nums.length nc, .int .i64 l.cur, .int .i64 l.count, .int .i64 l.index, .slice da l1.dirty.length dc, .slice bb.a bb.bs.length bb.c, .slice ra rows.length rc, .bool l.full] T_wal_Log ::
        arr I64 T_int na nc l.nums :: fch bb :: L2) W1) d2 rfl ⟨rfl, by omega, St.wk (by first | assumption | exact St.tick (by assumption) | exact St.tick (St.tick (by assumption)))⟩ ?_
    clear h
    rintro K i d3 W8 hi ⟨hgo, hw1, h⟩ hK
    simp -implicitDefEqProofs only [SE, SU, SV]
    unfold S.wal_Log_Keep.l1
    by_cases hlt : (i : Int) < (l.nums.length : Int)
    · have hib : i < l.nums.length := by omega
      have ew : IntKind.i64.wrap ((i : Int) + 1) = ((i + 1 : Nat) : Int) := by rw [i64w]; omega
      rw [List.drop_eq_getElem_cons hib, dropGo] at hgo
      (repeat (first | (first | ((with_reducible first | refine w1 ?_ | refine w3 ?_ | refine w4 ?_ | refine w11 ?_ | refine stb_n ?_); intros) | ((with_reducible first | refine v5 ?_ | refine v6 ?_ | refine v7 ?_ | refine ve ?_ | refine vn ?_); refine ⟨_, rfl, ?_⟩) | ((with_reducible first | refine v8 ?_ ?_ | refine v9 ?_ ?_ | refine v10 ?_ ?_ | refine v12 ?_ ?_); exact rfl; intros) | ((with_reducible refine w2 ?_); try simp -implicitDefEqProofs only [SE, SU, SV, hlt]; intros) | ((with_reducible refine w5 ?_ ?_); simp; refine ⟨_, rfl, ?_⟩) | ((with_reducible refine w12 ?_ ?_ ?_ ?_); simp; simp; simp [oneC]; intros) | (refine okF_i (bldP_eq rfl) ?_; try simp only [BLS, SB, Nat.reduceAdd])) | simp -implicitDefEqProofs only [SE, SU, SV, hlt]))
      refine ixA (i := i) (a := na) (l := l.nums) (A := I64) h rfl rfl hib fun g o ha => ?_
      cases ha
      refine ldA0 (i := i) (l := l.nums) (A := I64) h rfl hib (v := .int .i64 l.nums[i]) rfl (by simp) ?_
      (repeat (first | (first | ((with_reducible first | refine w1 ?_ | refine w3 ?_ | refine w4 ?_ | refine w11 ?_ | refine stb_n ?_); intros) | ((with_reducible first | refine v5 ?_ | refine v6 ?_ | refine v7 ?_ | refine ve ?_ | refine vn ?_); refine ⟨_, rfl, ?_⟩) | ((with_reducible first | refine v8 ?_ ?_ | refine v9 ?_ ?_ | refine v10 ?_ ?_ | refine v12 ?_ ?_); exact rfl; intros) | ((with_reducible refine w2 ?_); try simp -implicitDefEqProofs only [SE, SU, SV]; intros) | ((with_reducible refine w5 ?_ ?_); simp; refine ⟨_, rfl, ?_⟩) | ((with_reducible refine w12 ?_ ?_ ?_ ?_); simp; simp; simp [oneC]; intros) | (refine okF_i (bldP_eq rfl) ?_; try simp only [BLS, SB, Nat.reduceAdd])) | simp -implicitDefEqProofs only [SE, SU, SV]))
      refine diskDrop (d := d3) (f := l.nums[i]) (by first | assumption | exact St.tick (by assumption) | exact St.tick (St.tick (by assumption))) (by omega) fun W9 h => ?_
      have := drop_ws d3 l.nums[i]
      (repeat (first | (first | ((with_reducible first | refine w1 ?_ | refine w3 ?_ | refine w4 ?_ | refine w11 ?_ | refine stb_n ?_); intros) | ((with_reducible first | refine v5 ?_ | refine v6 ?_ | refine v7 ?_ | refine ve ?_ | refine vn ?_); refine ⟨_, rfl, ?_⟩) | ((with_reducible first | refine v8 ?_ ?_ | refine v9 ?_ ?_ | refine v10 ?_ ?_ | refine v12 ?_ ?_); exact rfl; intros) | ((with_reducible refine w2 ?_); try simp -implicitDefEqProofs only [SE, SU, SV, ew]; intros) | ((with_reducible refine w5 ?_ ?_); simp; refine ⟨_, rfl, ?_⟩) | ((with_reducible refine w12 ?_ ?_ ?_ ?_); simp; simp; simp [oneC]; intros) | (refine okF_i (bldP_eq rfl) ?_; try simp only [BLS, SB, Nat.reduceAdd])) | simp -implicitDefEqProofs only [SE, SU, SV, ew]))
      exact hK _ _ hib ⟨hgo, by omega, h⟩
    · rw [List.drop_eq_nil_of_le (by omega), dropGo] at hgo
      rw [hgo] at hk
      clear hK
      unfold S.wal_Log_Keep.j1
      (repeat (first | (first | ((with_reducible first | refine w1 ?_ | refine w3 ?_ | refine w4 ?_ | refine w11 ?_ | refine stb_n ?_); intros) | ((with_reducible first | refine v5 ?_ | refine v6 ?_ | refine v7 ?_ | refine ve ?_ | refine vn ?_); refine ⟨_, rfl, ?_⟩) | ((with_reducible first | refine v8 ?_ ?_ | refine v9 ?_ ?_ | refine v10 ?_ ?_ | refine v12 ?_ ?_); exact rfl; intros) | ((with_reducible refine w2 ?_); try simp -implicitDefEqProofs only [SE, SU, SV, hlt, et]; intros) | ((with_reducible refine w5 ?_ ?_); simp; refine ⟨_, rfl, ?_⟩) | ((with_reducible refine w12 ?_ ?_ ?_ ?_); simp; simp; simp [oneC]; intros) | (refine okF_i (bldP_eq rfl) ?_; try simp only [BLS, SB, Nat.reduceAdd])) | simp -implicitDefEqProofs only [SE, SU, SV, hlt, et]))
      refine bsA I64 [l.free] (n := 1) (by first | assumption | exact St.tick (by assumption) | exact St.tick (St.tick (by assumption))) rfl rfl (by decide) (by decide) rfl fun a5 c5 W9 h => ?_
      (repeat (first | (first | ((with_reducible first | refine w1 ?_ | refine w3 ?_ | refine w4 ?_ | refine w11 ?_ | refine stb_n ?_); intros) | ((with_reducible first | refine v5 ?_ | refine v6 ?_ | refine v7 ?_ | refine ve ?_ | refine vn ?_); refine ⟨_, rfl, ?_⟩) | ((with_reducible first | refine v8 ?_ ?_ | refine v9 ?_ ?_ | refine v10 ?_ ?_ | refine v12 ?_ ?_); exact rfl; intros) | ((with_reducible refine w2 ?_); try simp -implicitDefEqProofs only [SE, SU, SV]; intros) | ((with_reducible refine w5 ?_ ?_); simp; refine ⟨_, rfl, ?_⟩) | ((with_reducible refine w12 ?_ ?_ ?_ ?_); simp; simp; simp [oneC]; intros) | (refine okF_i (bldP_eq rfl) ?_; try simp only [BLS, SB, Nat.reduceAdd])) | simp -implicitDefEqProofs only [SE, SU, SV]))
      refine bytesClone (a := a) (l := b) (by first | assumption | exact St.tick (by assumption) | exact St.tick (St.tick (by assumption))) (by omega) fun a6 c6 W10 h => ?_
      (repeat (first | (first | ((with_reducible first | refine w1 ?_ | refine w3 ?_ | refine w4 ?_ | refine w11 ?_ | refine stb_n ?_); intros) | ((with_reducible first | refine v5 ?_ | refine v6 ?_ | refine v7 ?_ | refine ve ?_ | refine vn ?_); refine ⟨_, rfl, ?_⟩) | ((with_reducible first | refine v8 ?_ ?_ | refine v9 ?_ ?_ | refine v10 ?_ ?_ | refine v12 ?_ ?_); exact rfl; intros) | ((with_reducible refine w2 ?_); try simp -implicitDefEqProofs only [SE, SU, SV]; intros) | ((with_reducible refine w5 ?_ ?_); simp; refine ⟨_, rfl, ?_⟩) | ((with_reducible refine w12 ?_ ?_ ?_ ?_); simp; simp; simp [oneC]; intros) | (refine okF_i (bldP_eq rfl) ?_; try simp only [BLS, SB, Nat.reduceAdd])) | simp -implicitDefEqProofs only [SE, SU, SV]))
      rename_i h
      (try simp only [BLS, SB, stL_a, stL_b, stL_c, List.append_nil, List.take_nil, List.drop_nil, Nat.reduceAdd] at h)
      have h := (((h.ent (many_nil (F := fch))).ent (arr_nil BSY T_s_uint8)).ent (arr_nil I64 T_int))
      have h := lg_mk q dp { l with turn := l.turn + 1, nums := [l.free], dirty := [], cur := -1, count := 0, index := 0, base := b, recs := [] } a5 c5 none 0 ⟨a6, c6, b⟩ none 0 [] h rfl rfl
      exact hk _ (St.wk h)
  · rw [if_pos he] at hk
    have f3 := decide_eq_false he
    (repeat (first | (first | ((with_reducible first | refine w1 ?_ | refine w3 ?_ | refine w4 ?_ | refine w11 ?_ | refine stb_n ?_); intros) | ((with_reducible first | refine v5 ?_ | refine v6 ?_ | refine v7 ?_ | refine ve ?_ | refine vn ?_); refine ⟨_, rfl, ?_⟩) | ((with_reducible first | refine v8 ?_ ?_ | refine v9 ?_ ?_ | refine v10 ?_ ?_ | refine v12 ?_ ?_); exact rfl; intros) | ((with_reducible refine w2 ?_); try simp -implicitDefEqProofs only [SE, SU, SV, f3]; intros) | ((with_reducible refine w5 ?_ ?_); simp; refine ⟨_, rfl, ?_⟩) | ((with_reducible refine w12 ?_ ?_ ?_ ?_); simp; simp; simp [oneC]; intros) | (refine okF_i (bldP_eq rfl) ?_; try simp only [BLS, SB, Nat.reduceAdd])) | simp -implicitDefEqProofs only [SE, SU, SV, f3]))
    exact hk _ (St.wk h)
end
end Go.Proofs.Ythladblmjoaeoaa
namespace Go.Proofs.Ythladblmjoaeoaa
set_option linter.unusedVariables false
set_option linter.unusedSimpArgs false
open Go Go.Eng

theorem pgo_nil (n : Nat) (acc : List Bs) : pgo n [] acc = some (acc, false) := by cases n <;> simp [pgo]
section
variable {W0 W : World} {L L' : List Asn}
/-- a cut that is read, and how far it may grow -/
theorem slcRc {α : Type} {A : Ly α} {l : List α} {a : Option Addr} {c : Nat} {sz n lo hi : Nat} {vlo vhi : Option Value} {K : Value → Prop} [hr : Rd W0 L a A l] (hs : A.sz = sz) (hn : n = l.length) (h1 : bnd vhi n c = some hi) (h2 : bnd vlo 0 hi = some lo) (h3 : lo ≤ hi) (h4 : hi ≤ l.length) (h5 : l.length ≤ c)
    (hk : ∀ a' c', ((l.take hi).drop lo).length ≤ c' → Rd W0 L a' A ((l.take hi).drop lo) → K (.slice a' ((l.take hi).drop lo).length c')) : okF (slcS sz (.slice a n c) vlo vhi none) K := by
  subst hs hn
  refine okF_i (slcS_eq h1 h2) ?_
  have := hk _ (c - lo) (by simp; omega) (Rd.cut (W0 := W0) (L := L) (a := a) (A := A) (l := l) lo hi c h3 h4 (by omega))
  simpa [Nat.min_eq_left h4] using this
set_option maxHeartbeats 2000000 in
theorem walParse {num : Int} {a : Option Addr} {c : Nat} {b : Bs} {k : Value → World → Prop} (h : St W0 L W) [hr : Rd W0 L a B8 b] (hc : b.length ≤ c) (hl : b.length < 16777216)
    (hn : parse num b = none → ∀ (x : FC) W', St W0 L W' → k (.tuple #[x.v, .bool false, .int .i64 3]) W')
    (hs : parse num b = some none → ∀ (x : FC) W', St W0 L W' → k (.tuple #[x.v, .bool false, .int .i64 0]) W')
    (hf : ∀ f, parse num b = some (some f) → ∀ (x : FC) W', x.fx = f → St W0 (arr BSY T_s_uint8 x.ra x.rc x.rows :: many fch x.rows :: L) W' → k (.tuple #[x.v, .bool true, .int .i64 0]) W') :
    callK PR F_wal_parse [.int .i64 num, .slice a b.length c] k W := by
  apply S.wal_parse.call
  unfold S.wal_parse.body
  unfold parse at hn hs hf
  by_cases h0 : b.length < 22
  · rw [if_pos h0] at hs
    have e0 : decide ((b.length : Int) < 22) = true := decide_eq_true (by omega)
    (repeat (first | (first | ((with_reducible first | refine w1 ?_ | refine w3 ?_ | refine w4 ?_ | refine w11 ?_ | refine stb_n ?_); intros) | ((with_reducible first | refine v5 ?_ | refine v6 ?_ | refine v7 ?_ | refine ve ?_ | refine vn ?_); refine ⟨_, rfl, ?_⟩) | ((with_reducible first | refine v8 ?_ ?_ | refine v9 ?_ ?_ | refine v10 ?_ ?_ | refine v12 ?_ ?_); exact rfl; intros) | ((with_reducible refine w2 ?_); try simp -implicitDefEqProofs only [SE, SU, SV, e0]; intros) | ((with_reducible refine w5 ?_ ?_); simp; refine ⟨_, rfl, ?_⟩) | ((with_reducible refine w12 ?_ ?_ ?_ ?_); simp; simp; simp [oneC]; intros) | (refine okF_i (bldP_eq rfl) ?_; try simp only [BLS, SB, Nat.reduceAdd])) | simp -implicitDefEqProofs only [SE, SU, SV, e0]))
    rename_i h
    exact hs rfl ⟨num, 0, 0, 0, none, 0, [], false⟩ _ h.drop.drop
  have e0 : decide ((b.length : Int) < 22) = false := decide_eq_false (by omega)
  rw [if_neg h0] at hn hs hf
  (repeat (first | (first | ((with_reducible first | refine w1 ?_ | refine w3 ?_ | refine w4 ?_ | refine w11 ?_ | refine stb_n ?_); intros) | ((with_reducible first | refine v5 ?_ | refine v6 ?_ | refine v7 ?_ | refine ve ?_ | refine vn ?_); refine ⟨_, rfl, ?_⟩) | ((with_reducible first | refine v8 ?_ ?_ | refine v9 ?_ ?_ | refine v10 ?_ ?_ | refine v12 ?_ ?_); exact rfl; intros) | ((with_reducible refine w2 ?_); try simp -implicitDefEqProofs only [SE, SU, SV, e0]; intros) | ((with_reducible refine w5 ?_ ?_); simp; refine ⟨_, rfl, ?_⟩) | ((with_reducible refine w12 ?_ ?_ ?_ ?_); simp; simp; simp [oneC]; intros) | (refine okF_i (bldP_eq rfl) ?_; try simp only [BLS, SB, Nat.reduceAdd])) | simp -implicitDefEqProofs only [SE, SU, SV, e0]))
  rename_i p4 _ _ p7 _ _ W5 h
  (try simp only [BLS, SB, stL_a, stL_b, stL_c, List.append_nil, List.take_nil, List.drop_nil, Nat.reduceAdd] at h)
  refine slcRc (W0 := W0) (L := L) (a := a) (l := b) (A := B8) (lo := 0) (hi := 22) rfl rfl (bnd_int (by decide) (by omega)) bnd_none (by omega) (by omega) hc fun a1 c1 hc1 hr1 => ?_
  rw [List.drop_zero] at hc1 hr1 ⊢
  refine walJust (a := a1) (b := b.take 22) (n := 13) h hc1 (by simp; omega) fun a2 c2 W6 h => ?_
  cases hj : just (b.take 22) 13 with
  | none =>
    rw [hj] at hn
    (repeat (first | (first | ((with_reducible first | refine w1 ?_ | refine w3 ?_ | refine w4 ?_ | refine w11 ?_ | refine stb_n ?_); intros) | ((with_reducible first | refine v5 ?_ | refine v6 ?_ | refine v7 ?_ | refine ve ?_ | refine vn ?_); refine ⟨_, rfl, ?_⟩) | ((with_reducible first | refine v8 ?_ ?_ | refine v9 ?_ ?_ | refine v10 ?_ ?_ | refine v12 ?_ ?_); exact rfl; intros) | ((with_reducible refine w2 ?_); try simp -implicitDefEqProofs only [SE, SU, SV, Option.isSome_none]; intros) | ((with_reducible refine w5 ?_ ?_); simp; refine ⟨_, rfl, ?_⟩) | ((with_reducible refine w12 ?_ ?_ ?_ ?_); simp; simp; simp [oneC]; intros) | (refine okF_i (bldP_eq rfl) ?_; try simp only [BLS, SB, Nat.reduceAdd])) | simp -implicitDefEqProofs only [SE, SU, SV, Option.isSome_none]))
    rename_i h
    exact hn rfl ⟨num, 0, 0, 0, none, 0, [], false⟩ _ h.drop.drop.drop
  | some t =>
    have htl := (just_some hj).2.1
    rw [just_fget hj] at h ⊢
    simp only [hj] at hn hs hf
    have ht0 : 0 < t.length := by omega
    have e13 : (t.drop 9).length = 4 := by simp; omega
    have e8 : ((t.take 9).drop 1).length = 8 := by simp; omega
    have u4 := unle_lt (t.drop 9)
    have u8 := unle_lt ((t.take 9).drop 1)
    rw [e13] at u4
    rw [e8] at u8
    have hf2 := h.arrFacts
    (repeat (first | (first | ((with_reducible first | refine w1 ?_ | refine w3 ?_ | refine w4 ?_ | refine w11 ?_ | refine stb_n ?_); intros) | ((with_reducible first | refine v5 ?_ | refine v6 ?_ | refine v7 ?_ | refine ve ?_ | refine vn ?_); refine ⟨_, rfl, ?_⟩) | ((with_reducible first | refine v8 ?_ ?_ | refine v9 ?_ ?_ | refine v10 ?_ ?_ | refine v12 ?_ ?_); exact rfl; intros) | ((with_reducible refine w2 ?_); try simp -implicitDefEqProofs only [SE, SU, SV, Option.isSome_some]; intros) | ((with_reducible refine w5 ?_ ?_); simp; refine ⟨_, rfl, ?_⟩) | ((with_reducible refine w12 ?_ ?_ ?_ ?_); simp; simp; simp [oneC]; intros) | (refine okF_i (bldP_eq rfl) ?_; try simp only [BLS, SB, Nat.reduceAdd])) | simp -implicitDefEqProofs only [SE, SU, SV, Option.isSome_some]))
    refine ixA (i := 0) (a := a2) (l := t) (A := B8) h rfl rfl ht0 fun g o ha => ?_
    cases ha
    refine ldA0 (i := 0) (l := t) (A := B8) (by first | assumption | exact St.tick (by assumption) | exact St.tick (St.tick (by assumption))) rfl ht0 (v := b8 t[0]) rfl (by simp) ?_
    have ehd : t.headD 0 = t[0] := by cases t with | nil => simp at ht0 | cons x l => rfl
    rw [show b8 t[0] = .int .u8 (t[0].toNat : Int) from rfl]
    have ht256 := t[0].toNat_lt
    have ew1 : IntKind.i64.wrap (t[0].toNat : Int) = (t[0].toNat : Int) := by rw [i64w]; omega
    rw [ehd] at hf
    (repeat (first | (first | ((with_reducible first | refine w1 ?_ | refine w3 ?_ | refine w4 ?_ | refine w11 ?_ | refine stb_n ?_); intros) | ((with_reducible first | refine v5 ?_ | refine v6 ?_ | refine v7 ?_ | refine ve ?_ | refine vn ?_); refine ⟨_, rfl, ?_⟩) | ((with_reducible first | refine v8 ?_ ?_ | refine v9 ?_ ?_ | refine v10 ?_ ?_ | refine v12 ?_ ?_); exact rfl; intros) | ((with_reducible refine w2 ?_); try simp -implicitDefEqProofs only [SE, SU, SV, ew1]; intros) | ((with_reducible refine w5 ?_ ?_); simp; refine ⟨_, rfl, ?_⟩) | ((with_reducible refine w12 ?_ ?_ ?_ ?_); simp; simp; simp [oneC]; intros) | (refine okF_i (bldP_eq rfl) ?_; try simp only [BLS, SB, Nat.reduceAdd])) | simp -implicitDefEqProofs only [SE, SU, SV, ew1]))
    refine slcRc (W0 := W0) (L := arr B8 T_uint8 (some ⟨g, o, none⟩) c2 t :: []) (a := some ⟨g, o, none⟩) (l := t) (A := B8) (lo := 1) (hi := 9) rfl rfl (bnd_int (by decide) (by omega)) (bnd_int (by decide) (by omega)) (by omega) (by omega) hf2.1 fun a3 c3 hc3 hr3 => ?_
    refine slcRc (W0 := W0) (L := arr B8 T_uint8 (some ⟨g, o, none⟩) c2 t :: []) (a := some ⟨g, o, none⟩) (l := t) (A := B8) (lo := 9) (hi := t.length) rfl rfl bnd_none (bnd_int (by decide) (by omega)) (by omega) (by omega) hf2.1 fun a4 c4 hc4 hr4 => ?_
    rw [List.take_length] at hr4 hc4 ⊢
    have hR3 : ∀ L1, Rd W0 (arr B8 T_uint8 (some ⟨g, o, none⟩) c2 t :: L1) a3 B8 ((t.take 9).drop 1) := fun L1 => ⟨fun W h => hr3.ok W (St.left (l := [_]) (rest := L1) h)⟩
    have hR4 : ∀ L1, Rd W0 (arr B8 T_uint8 (some ⟨g, o, none⟩) c2 t :: L1) a4 B8 (t.drop 9) := fun L1 => ⟨fun W h => hr4.ok W (St.left (l := [_]) (rest := L1) h)⟩
    haveI := hR3 (cells p7 [.int .i64 num, .int .i64 0, .int .i64 0, .int .u64 0, .slice none 0 0, .bool false] T_wal_file :: cells p4 [.int .i64 0, .int .i64 0, .int .i64 0, .int .u64 0, .slice none 0 0, .bool false] T_wal_file :: L)
    haveI := hR4 (cells p7 [.int .i64 num, .int .i64 0, .int .i64 0, .int .u64 0, .slice none 0 0, .bool false] T_wal_file :: cells p4 [.int .i64 0, .int .i64 0, .int .i64 0, .int .u64 0, .slice none 0 0, .bool false] T_wal_file :: L)
    (repeat (first | (first | ((with_reducible first | refine w1 ?_ | refine w3 ?_ | refine w4 ?_ | refine w11 ?_ | refine stb_n ?_); intros) | ((with_reducible first | refine v5 ?_ | refine v6 ?_ | refine v7 ?_ | refine ve ?_ | refine vn ?_); refine ⟨_, rfl, ?_⟩) | ((with_reducible first | refine v8 ?_ ?_ | refine v9 ?_ ?_ | refine v10 ?_ ?_ | refine v12 ?_ ?_); exact rfl; intros) | ((with_reducible refine w2 ?_); try simp -implicitDefEqProofs only [SE, SU, SV]; intros) | ((with_reducible refine w5 ?_ ?_); simp; refine ⟨_, rfl, ?_⟩) | ((with_reducible refine w12 ?_ ?_ ?_ ?_); simp; simp; simp [oneC]; intros) | (refine okF_i (bldP_eq rfl) ?_; try simp only [BLS, SB, Nat.reduceAdd])) | simp -implicitDefEqProofs only [SE, SU, SV]))
    refine walRead (a := a3) (l := (t.take 9).drop 1) (St.tick h) (by omega) fun W7 h => ?_
    refine stb_ldA0 (i := 0) (l := t) (A := B8) h rfl ht0 (v := b8 t[0]) rfl (by simp) (stb_n ?_)
    refine walRead (a := a4) (l := t.drop 9) h (by omega) fun W8 h => ?_
    refine stb_ldA0 (i := 0) (l := t) (A := B8) h rfl ht0 (v := b8 t[0]) rfl (by simp) (stb_n ?_)
    have ew2 : IntKind.i64.wrap (unle (t.drop 9) : Int) = (unle (t.drop 9) : Int) := by rw [i64w]; omega
    (repeat (first | (first | ((with_reducible first | refine w1 ?_ | refine w3 ?_ | refine w4 ?_ | refine w11 ?_ | refine stb_n ?_); intros) | ((with_reducible first | refine v5 ?_ | refine v6 ?_ | refine v7 ?_ | refine ve ?_ | refine vn ?_); refine ⟨_, rfl, ?_⟩) | ((with_reducible first | refine v8 ?_ ?_ | refine v9 ?_ ?_ | refine v10 ?_ ?_ | refine v12 ?_ ?_); exact rfl; intros) | ((with_reducible refine w2 ?_); try simp -implicitDefEqProofs only [SE, SU, SV, ew2]; intros) | ((with_reducible refine w5 ?_ ?_); simp; refine ⟨_, rfl, ?_⟩) | ((with_reducible refine w12 ?_ ?_ ?_ ?_); simp; simp; simp [oneC]; intros) | (refine okF_i (bldP_eq rfl) ?_; try simp only [BLS, SB, Nat.reduceAdd])) | simp -implicitDefEqProofs only [SE, SU, SV, ew2]))
    refine joinK_i ?_
    rename_i h
    (try simp only [BLS, SB, stL_a, stL_b, stL_c, List.append_nil, List.take_nil, List.drop_nil, Nat.reduceAdd] at h)
    have hn' : pgo b.length (b.drop 22) [] = none → ∀ (x : FC) W', St W0 L W' → k (.tuple #[x.v, .bool false, .int .i64 3]) W' := fun e => hn (by rw [e])
    have hfin : ∀ (torn : Bool) (ra : Option Addr) (rc : Nat) (rows : List BSl) W', pgo b.length (b.drop 22) [] = some (rows.map (·.bs), torn) →
        St W0 (cells p7 (FCL.row ⟨num, t[0].toNat, unle ((t.take 9).drop 1), unle (t.drop 9), ra, rc, rows, torn⟩) T_wal_file :: cells p4 [.int .i64 0, .int .i64 0, .int .i64 0, .int .u64 0, .slice none 0 0, .bool false] T_wal_file :: arr BSY T_s_uint8 ra rc rows :: many fch rows :: L) W' →
        S.wal_parse.j1 k (.pointer (some ⟨p4, 0, none⟩)) (.pointer (some ⟨p7, 0, none⟩)) W' := by
      intro torn ra rc rows W' hp h
      have h : St W0 (cells p7 [.int .i64 num, .int .i64 (t[0].toNat : Int), .int .i64 (unle (t.drop 9) : Int), .int .u64 (unle ((t.take 9).drop 1) : Int), .slice ra rows.length rc, .bool torn] T_wal_file :: cells p4 [.int .i64 0, .int .i64 0, .int .i64 0, .int .u64 0, .slice none 0 0, .bool false] T_wal_file :: arr BSY T_s_uint8 ra rc rows :: many fch rows :: L) W' := h
      unfold S.wal_parse.j1
      (repeat (first | (first | ((with_reducible first | refine w1 ?_ | refine w3 ?_ | refine w4 ?_ | refine w11 ?_ | refine stb_n ?_); intros) | ((with_reducible first | refine v5 ?_ | refine v6 ?_ | refine v7 ?_ | refine ve ?_ | refine vn ?_); refine ⟨_, rfl, ?_⟩) | ((with_reducible first | refine v8 ?_ ?_ | refine v9 ?_ ?_ | refine v10 ?_ ?_ | refine v12 ?_ ?_); exact rfl; intros) | ((with_reducible refine w2 ?_); try simp -implicitDefEqProofs only [SE, SU, SV]; intros) | ((with_reducible refine w5 ?_ ?_); simp; refine ⟨_, rfl, ?_⟩) | ((with_reducible refine w12 ?_ ?_ ?_ ?_); simp; simp; simp [oneC]; intros) | (refine okF_i (bldP_eq rfl) ?_; try simp only [BLS, SB, Nat.reduceAdd])) | simp -implicitDefEqProofs only [SE, SU, SV]))
      rename_i h
      exact hf ⟨num, t[0].toNat, unle ((t.take 9).drop 1), unle (t.drop 9), rows.map (·.bs), torn⟩ (by rw [hp]) ⟨num, t[0].toNat, unle ((t.take 9).drop 1), unle (t.drop 9), ra, rc, rows, torn⟩ _ rfl h.drop.drop
    clear hf hs hn hR3 hR4
    refine slcRc (W0 := W0) (L := L) (a := a) (l := b) (A := B8) (lo := 22) (hi := b.length) rfl rfl bnd_none (bnd_int (by decide) (by omega)) (by omega) (by omega) hc fun a5 c5 hc5 hr5 => ?_
    rw [List.take_length] at hc5 hr5 ⊢
    have h := h.drop
    refine loop_x (σ := Option Addr × Nat × Bs × Nat × Option Addr × Nat × List BSl) (fun s => [.slice s.1 s.2.2.1.length s.2.1, .pointer (some ⟨p4, 0, none⟩), .pointer (some ⟨p7, 0, none⟩)])
      (fun s W1 => Rd W0 L s.1 B8 s.2.2.1 ∧ s.2.2.1.length ≤ s.2.1 ∧ s.2.2.1.length ≤ s.2.2.2.1 ∧ s.2.2.1.length ≤ b.length ∧ s.2.2.2.2.2.2.length + s.2.2.1.length ≤ b.length ∧ pgo s.2.2.2.1 s.2.2.1 (s.2.2.2.2.2.2.map (·.bs)) = pgo b.length (b.drop 22) [] ∧
        St W0 (cells p7 (FCL.row ⟨num, t[0].toNat, unle ((t.take 9).drop 1), unle (t.drop 9), s.2.2.2.2.1, s.2.2.2.2.2.1, s.2.2.2.2.2.2, false⟩) T_wal_file :: cells p4 [.int .i64 0, .int .i64 0, .int .i64 0, .int .u64 0, .slice none 0 0, .bool false] T_wal_file :: arr BSY T_s_uint8 s.2.2.2.2.1 s.2.2.2.2.2.1 s.2.2.2.2.2.2 :: many fch s.2.2.2.2.2.2 :: L) W1)
      (fun s => s.2.2.1.length) (a5, c5, b.drop 22, b.length, none, 0, []) rfl
      ⟨hr5, hc5, by simp, by simp, by simp, rfl, h.ent (ent.cons _ (ent.cons _ ((many_nil (F := fch)).trans (arr_nil BSY T_s_uint8))))⟩ ?_
    clear h
    rintro K ⟨a6, c6, b', n, ra, rc, rows⟩ W6 ⟨hr6, hc6, hl6, hl7, hl8, hp, h⟩ hK
    simp only at hr6 hc6 hl6 hl7 hl8 hp h hK
    have h : St W0 (cells p7 [.int .i64 num, .int .i64 (t[0].toNat : Int), .int .i64 (unle (t.drop 9) : Int), .int .u64 (unle ((t.take 9).drop 1) : Int), .slice ra rows.length rc, .bool false] T_wal_file :: cells p4 [.int .i64 0, .int .i64 0, .int .i64 0, .int .u64 0, .slice none 0 0, .bool false] T_wal_file :: arr BSY T_s_uint8 ra rc rows :: many fch rows :: L) W6 := h
    simp -implicitDefEqProofs only [SE, SU, SV]
    unfold S.wal_parse.l1
    by_cases hb0 : b' = []
    · subst hb0
      rw [pgo_nil] at hp
      have e1 : decide ((0 : Int) < (([] : Bs).length : Int)) = false := rfl
      (repeat (first | (first | ((with_reducible first | refine w1 ?_ | refine w3 ?_ | refine w4 ?_ | refine w11 ?_ | refine stb_n ?_); intros) | ((with_reducible first | refine v5 ?_ | refine v6 ?_ | refine v7 ?_ | refine ve ?_ | refine vn ?_); refine ⟨_, rfl, ?_⟩) | ((with_reducible first | refine v8 ?_ ?_ | refine v9 ?_ ?_ | refine v10 ?_ ?_ | refine v12 ?_ ?_); exact rfl; intros) | ((with_reducible refine w2 ?_); try simp -implicitDefEqProofs only [SE, SU, SV, e1]; intros) | ((with_reducible refine w5 ?_ ?_); simp; refine ⟨_, rfl, ?_⟩) | ((with_reducible refine w12 ?_ ?_ ?_ ?_); simp; simp; simp [oneC]; intros) | (refine okF_i (bldP_eq rfl) ?_; try simp only [BLS, SB, Nat.reduceAdd])) | simp -implicitDefEqProofs only [SE, SU, SV, e1]))
      exact hfin false ra rc rows _ hp.symm (by first | assumption | exact St.tick (by assumption) | exact St.tick (St.tick (by assumption)))
    have hpos : 0 < b'.length := List.length_pos_iff.2 hb0
    obtain ⟨m, rfl⟩ : ∃ m, n = m + 1 := ⟨n - 1, by omega⟩
    rw [pgo, if_neg hb0] at hp
    have e1 : decide ((0 : Int) < (b'.length : Int)) = true := decide_eq_true (by omega)
    by_cases h13 : b'.length < 13
    · rw [if_pos h13] at hp
      have e2 : decide ((b'.length : Int) < 13) = true := decide_eq_true (by omega)
      (repeat (first | (first | ((with_reducible first | refine w1 ?_ | refine w3 ?_ | refine w4 ?_ | refine w11 ?_ | refine stb_n ?_); intros) | ((with_reducible first | refine v5 ?_ | refine v6 ?_ | refine v7 ?_ | refine ve ?_ | refine vn ?_); refine ⟨_, rfl, ?_⟩) | ((with_reducible first | refine v8 ?_ ?_ | refine v9 ?_ ?_ | refine v10 ?_ ?_ | refine v12 ?_ ?_); exact rfl; intros) | ((with_reducible refine w2 ?_); try simp -implicitDefEqProofs only [SE, SU, SV, e1, e2]; intros) | ((with_reducible refine w5 ?_ ?_); simp; refine ⟨_, rfl, ?_⟩) | ((with_reducible refine w12 ?_ ?_ ?_ ?_); simp; simp; simp [oneC]; intros) | (refine okF_i (bldP_eq rfl) ?_; try simp only [BLS, SB, Nat.reduceAdd])) | simp -implicitDefEqProofs only [SE, SU, SV, e1, e2]))
      rename_i h
      (try simp only [BLS, SB, stL_a, stL_b, stL_c, List.append_nil, List.take_nil, List.drop_nil, Nat.reduceAdd] at h)
      exact hfin true ra rc rows _ hp.symm h
    rw [if_neg h13] at hp
    have e2 : decide ((b'.length : Int) < 13) = false := decide_eq_false (by omega)
    (repeat (first | (first | ((with_reducible first | refine w1 ?_ | refine w3 ?_ | refine w4 ?_ | refine w11 ?_ | refine stb_n ?_); intros) | ((with_reducible first | refine v5 ?_ | refine v6 ?_ | refine v7 ?_ | refine ve ?_ | refine vn ?_); refine ⟨_, rfl, ?_⟩) | ((with_reducible first | refine v8 ?_ ?_ | refine v9 ?_ ?_ | refine v10 ?_ ?_ | refine v12 ?_ ?_); exact rfl; intros) | ((with_reducible refine w2 ?_); try simp -implicitDefEqProofs only [SE, SU, SV, e1, e2]; intros) | ((with_reducible refine w5 ?_ ?_); simp; refine ⟨_, rfl, ?_⟩) | ((with_reducible refine w12 ?_ ?_ ?_ ?_); simp; simp; simp [oneC]; intros) | (refine okF_i (bldP_eq rfl) ?_; try simp only [BLS, SB, Nat.reduceAdd])) | simp -implicitDefEqProofs only [SE, SU, SV, e1, e2]))
    refine slcRc (W0 := W0) (L := L) (a := a6) (l := b') (A := B8) (lo := 0) (hi := 13) rfl rfl (bnd_int (by decide) (by omega)) bnd_none (by omega) (by omega) hc6 fun a7 c7 hc7 hr7 => ?_
    rw [List.drop_zero] at hc7 hr7 ⊢
    refine walJust (a := a7) (b := b'.take 13) (n := 4) (by first | assumption | exact St.tick (by assumption) | exact St.tick (St.tick (by assumption))) hc7 (by simp; omega) fun a8 c8 W8 h => ?_
    cases hj2 : just (b'.take 13) 4 with
    | none =>
      rw [hj2] at hp
      (repeat (first | (first | ((with_reducible first | refine w1 ?_ | refine w3 ?_ | refine w4 ?_ | refine w11 ?_ | refine stb_n ?_); intros) | ((with_reducible first | refine v5 ?_ | refine v6 ?_ | refine v7 ?_ | refine ve ?_ | refine vn ?_); refine ⟨_, rfl, ?_⟩) | ((with_reducible first | refine v8 ?_ ?_ | refine v9 ?_ ?_ | refine v10 ?_ ?_ | refine v12 ?_ ?_); exact rfl; intros) | ((with_reducible refine w2 ?_); try simp -implicitDefEqProofs only [SE, SU, SV, Option.isSome_none]; intros) | ((with_reducible refine w5 ?_ ?_); simp; refine ⟨_, rfl, ?_⟩) | ((with_reducible refine w12 ?_ ?_ ?_ ?_); simp; simp; simp [oneC]; intros) | (refine okF_i (bldP_eq rfl) ?_; try simp only [BLS, SB, Nat.reduceAdd])) | simp -implicitDefEqProofs only [SE, SU, SV, Option.isSome_none]))
      rename_i h
      exact hn' hp.symm ⟨num, t[0].toNat, unle ((t.take 9).drop 1), unle (t.drop 9), ra, rc, rows, false⟩ _ h.drop.drop.drop.drop.drop
    | some q =>
      have hql := (just_some hj2).2.1
      rw [just_fget hj2] at h ⊢
      simp only [hj2] at hp
      have uq := unle_lt q
      rw [hql] at uq
      have ewq : IntKind.i64.wrap (unle q : Int) = (unle q : Int) := by rw [i64w]; omega
      have ewr : IntKind.i64.wrap (22 + (unle q : Int)) = ((22 + unle q : Nat) : Int) := by rw [i64w]; omega
      (repeat (first | (first | ((with_reducible first | refine w1 ?_ | refine w3 ?_ | refine w4 ?_ | refine w11 ?_ | refine stb_n ?_); intros) | ((with_reducible first | refine v5 ?_ | refine v6 ?_ | refine v7 ?_ | refine ve ?_ | refine vn ?_); refine ⟨_, rfl, ?_⟩) | ((with_reducible first | refine v8 ?_ ?_ | refine v9 ?_ ?_ | refine v10 ?_ ?_ | refine v12 ?_ ?_); exact rfl; intros) | ((with_reducible refine w2 ?_); try simp -implicitDefEqProofs only [SE, SU, SV, Option.isSome_some]; intros) | ((with_reducible refine w5 ?_ ?_); simp; refine ⟨_, rfl, ?_⟩) | ((with_reducible refine w12 ?_ ?_ ?_ ?_); simp; simp; simp [oneC]; intros) | (refine okF_i (bldP_eq rfl) ?_; try simp only [BLS, SB, Nat.reduceAdd])) | simp -implicitDefEqProofs only [SE, SU, SV, Option.isSome_some]))
      refine walRead (a := a8) (l := q) (by first | assumption | exact St.tick (by assumption) | exact St.tick (St.tick (by assumption))) (by omega) fun W9 h => ?_
      by_cases h22 : b'.length < 22 + unle q
      · rw [if_pos h22] at hp
        have e3 : decide ((b'.length : Int) < ((22 + unle q : Nat) : Int)) = true := decide_eq_true (by omega)
        (repeat (first | (first | ((with_reducible first | refine w1 ?_ | refine w3 ?_ | refine w4 ?_ | refine w11 ?_ | refine stb_n ?_); intros) | ((with_reducible first | refine v5 ?_ | refine v6 ?_ | refine v7 ?_ | refine ve ?_ | refine vn ?_); refine ⟨_, rfl, ?_⟩) | ((with_reducible first | refine v8 ?_ ?_ | refine v9 ?_ ?_ | refine v10 ?_ ?_ | refine v12 ?_ ?_); exact rfl; intros) | ((with_reducible refine w2 ?_); try simp -implicitDefEqProofs only [SE, SU, SV, ewq, ewr, e3]; intros) | ((with_reducible refine w5 ?_ ?_); simp; refine ⟨_, rfl, ?_⟩) | ((with_reducible refine w12 ?_ ?_ ?_ ?_); simp; simp; simp [oneC]; intros) | (refine okF_i (bldP_eq rfl) ?_; try simp only [BLS, SB, Nat.reduceAdd])) | simp -implicitDefEqProofs only [SE, SU, SV, ewq, ewr, e3]))
        rename_i h
        (try simp only [BLS, SB, stL_a, stL_b, stL_c, List.append_nil, List.take_nil, List.drop_nil, Nat.reduceAdd] at h)
        exact hfin true ra rc rows _ hp.symm h.drop
      rw [if_neg h22] at hp
      have e3 : decide ((b'.length : Int) < ((22 + unle q : Nat) : Int)) = false := decide_eq_false (by omega)
      (repeat (first | (first | ((with_reducible first | refine w1 ?_ | refine w3 ?_ | refine w4 ?_ | refine w11 ?_ | refine stb_n ?_); intros) | ((with_reducible first | refine v5 ?_ | refine v6 ?_ | refine v7 ?_ | refine ve ?_ | refine vn ?_); refine ⟨_, rfl, ?_⟩) | ((with_reducible first | refine v8 ?_ ?_ | refine v9 ?_ ?_ | refine v10 ?_ ?_ | refine v12 ?_ ?_); exact rfl; intros) | ((with_reducible refine w2 ?_); try simp -implicitDefEqProofs only [SE, SU, SV, ewq, ewr, e3]; intros) | ((with_reducible refine w5 ?_ ?_); simp; refine ⟨_, rfl, ?_⟩) | ((with_reducible refine w12 ?_ ?_ ?_ ?_); simp; simp; simp [oneC]; intros) | (refine okF_i (bldP_eq rfl) ?_; try simp only [BLS, SB, Nat.reduceAdd])) | simp -implicitDefEqProofs only [SE, SU, SV, ewq, ewr, e3]))
      refine slcRc (W0 := W0) (L := L) (a := a6) (l := b') (A := B8) (lo := 13) (hi := 22 + unle q) rfl rfl (bnd_nat (by omega)) (bnd_int (by decide) (by omega)) (by omega) (by omega) hc6 fun a9 c9 hc9 hr9 => ?_
      refine walRead (a := a8) (l := q) (St.tick h) (by omega) fun W10 h => ?_
      (repeat (first | (first | ((with_reducible first | refine w1 ?_ | refine w3 ?_ | refine w4 ?_ | refine w11 ?_ | refine stb_n ?_); intros) | ((with_reducible first | refine v5 ?_ | refine v6 ?_ | refine v7 ?_ | refine ve ?_ | refine vn ?_); refine ⟨_, rfl, ?_⟩) | ((with_reducible first | refine v8 ?_ ?_ | refine v9 ?_ ?_ | refine v10 ?_ ?_ | refine v12 ?_ ?_); exact rfl; intros) | ((with_reducible refine w2 ?_); try simp -implicitDefEqProofs only [SE, SU, SV, ewq]; intros) | ((with_reducible refine w5 ?_ ?_); simp; refine ⟨_, rfl, ?_⟩) | ((with_reducible refine w12 ?_ ?_ ?_ ?_); simp; simp; simp [oneC]; intros) | (refine okF_i (bldP_eq rfl) ?_; try simp only [BLS, SB, Nat.reduceAdd])) | simp -implicitDefEqProofs only [SE, SU, SV, ewq]))
      refine walJust (a := a9) (b := (b'.take (22 + unle q)).drop 13) (n := unle q) (by first | assumption | exact St.tick (by assumption) | exact St.tick (St.tick (by assumption))) hc9 (by simp; omega) fun a10 c10 W10 h => ?_
      cases hj3 : just ((b'.take (22 + unle q)).drop 13) (unle q) with
      | none =>
        rw [hj3] at hp
        (repeat (first | (first | ((with_reducible first | refine w1 ?_ | refine w3 ?_ | refine w4 ?_ | refine w11 ?_ | refine stb_n ?_); intros) | ((with_reducible first | refine v5 ?_ | refine v6 ?_ | refine v7 ?_ | refine ve ?_ | refine vn ?_); refine ⟨_, rfl, ?_⟩) | ((with_reducible first | refine v8 ?_ ?_ | refine v9 ?_ ?_ | refine v10 ?_ ?_ | refine v12 ?_ ?_); exact rfl; intros) | ((with_reducible refine w2 ?_); try simp -implicitDefEqProofs only [SE, SU, SV, Option.isSome_none]; intros) | ((with_reducible refine w5 ?_ ?_); simp; refine ⟨_, rfl, ?_⟩) | ((with_reducible refine w12 ?_ ?_ ?_ ?_); simp; simp; simp [oneC]; intros) | (refine okF_i (bldP_eq rfl) ?_; try simp only [BLS, SB, Nat.reduceAdd])) | simp -implicitDefEqProofs only [SE, SU, SV, Option.isSome_none]))
        rename_i h
        exact hn' hp.symm ⟨num, t[0].toNat, unle ((t.take 9).drop 1), unle (t.drop 9), ra, rc, rows, false⟩ _ h.drop.drop.drop.drop.drop.drop
      | some r =>
        rw [just_fget hj3] at h ⊢
        simp only [hj3] at hp
        (repeat (first | (first | ((with_reducible first | refine w1 ?_ | refine w3 ?_ | refine w4 ?_ | refine w11 ?_ | refine stb_n ?_); intros) | ((with_reducible first | refine v5 ?_ | refine v6 ?_ | refine v7 ?_ | refine ve ?_ | refine vn ?_); refine ⟨_, rfl, ?_⟩) | ((with_reducible first | refine v8 ?_ ?_ | refine v9 ?_ ?_ | refine v10 ?_ ?_ | refine v12 ?_ ?_); exact rfl; intros) | ((with_reducible refine w2 ?_); try simp -implicitDefEqProofs only [SE, SU, SV, Option.isSome_some]; intros) | ((with_reducible refine w5 ?_ ?_); simp; refine ⟨_, rfl, ?_⟩) | ((with_reducible refine w12 ?_ ?_ ?_ ?_); simp; simp; simp [oneC]; intros) | (refine okF_i (bldP_eq rfl) ?_; try simp only [BLS, SB, Nat.reduceAdd])) | simp -implicitDefEqProofs only [SE, SU, SV, Option.isSome_some]))
        refine pushA (A := BSY) (l := rows) (a := ra) (⟨a10, c10, r⟩ : BSl) (by first | assumption | exact St.tick (by assumption) | exact St.tick (St.tick (by assumption))) rfl rfl (by omega) (by simp only [maxLen]; omega) (by decide) fun a11 c11 W11 h => ?_
        (repeat (first | (first | ((with_reducible first | refine w1 ?_ | refine w3 ?_ | refine w4 ?_ | refine w11 ?_ | refine stb_n ?_); intros) | ((with_reducible first | refine v5 ?_ | refine v6 ?_ | refine v7 ?_ | refine ve ?_ | refine vn ?_); refine ⟨_, rfl, ?_⟩) | ((with_reducible first | refine v8 ?_ ?_ | refine v9 ?_ ?_ | refine v10 ?_ ?_ | refine v12 ?_ ?_); exact rfl; intros) | ((with_reducible refine w2 ?_); try simp -implicitDefEqProofs only [SE, SU, SV]; intros) | ((with_reducible refine w5 ?_ ?_); simp; refine ⟨_, rfl, ?_⟩) | ((with_reducible refine w12 ?_ ?_ ?_ ?_); simp; simp; simp [oneC]; intros) | (refine okF_i (bldP_eq rfl) ?_; try simp only [BLS, SB, Nat.reduceAdd])) | simp -implicitDefEqProofs only [SE, SU, SV]))
        rename_i h
        (try simp only [BLS, SB, stL_a, stL_b, stL_c, List.append_nil, List.take_nil, List.drop_nil, Nat.reduceAdd] at h)
        refine slcRc (W0 := W0) (L := L) (a := a6) (l := b') (A := B8) (lo := 22 + unle q) (hi := b'.length) rfl rfl bnd_none (bnd_nat (by omega)) (by omega) (Nat.le_refl _) hc6 fun a12 c12 hc12 hr12 => ?_
        rw [List.take_length] at hc12 hr12 ⊢
        have h := St.wk (L' := cells p7 [.int .i64 num, .int .i64 (t[0].toNat : Int), .int .i64 (unle (t.drop 9) : Int), .int .u64 (unle ((t.take 9).drop 1) : Int), .slice a11 (rows ++ [(⟨a10, c10, r⟩ : BSl)]).length c11, .bool false] T_wal_file :: cells p4 [.int .i64 0, .int .i64 0, .int .i64 0, .int .u64 0, .slice none 0 0, .bool false] T_wal_file ::
          arr BSY T_s_uint8 a11 c11 (rows ++ [⟨a10, c10, r⟩]) :: fch ⟨a10, c10, r⟩ :: many fch rows :: L) h
        refine hK (a12, c12, b'.drop (22 + unle q), m, a11, c11, rows ++ [⟨a10, c10, r⟩]) _ (by simp only [List.length_drop]; omega) ⟨hr12, hc12, by simp only [List.length_drop]; omega, by simp only [List.length_drop]; omega, by simp only [List.length_drop, List.length_append, List.length_singleton]; omega, ?_, ?_⟩
        · simp only [List.map_append, List.map_cons, List.map_nil]
          exact hp
        · exact h.ent (ent.cons _ (ent.cons _ (ent.cons _ ((many_uncons (F := fch) _ _).trans (many_perm (F := fch) (List.perm_append_singleton _ _).symm)))))
end
end Go.Proofs.Ythladblmjoaeoaa
namespace Go.Eng
set_option linter.unusedVariables false
set_option linter.unusedSimpArgs false
open Go Go.RowKit Go.Sort Go.Proofs
section
variable {P : Program} {W0 W W' : World} {L L' : List Asn} {e : TypeId}
/-- what a call comes to that keeps all and makes what it makes -/
theorem St.grown (h : St W [] W') : ∃ q os, W' = grow (W.drewN q) os := by
  obtain ⟨⟨⟨h1, h2, h3, h4, h5⟩, h6⟩, _⟩ := h
  refine ⟨W'.drawn - W.drawn, W'.heap.extract W.heap.size W'.heap.size, ?_⟩
  obtain ⟨hp, tp, dr, os, ou⟩ := W'
  simp only at h1 h2 h3 h4 h5 h6
  subst h1 h2 h3
  simp only [grow, World.drewN, World.mk.injEq, true_and, and_true]
  refine ⟨?_, by omega⟩
  apply Array.ext_getElem?
  intro i
  by_cases hi : i < W.heap.size
  · rw [h5 i hi, Array.getElem?_append_left hi]
  · rw [Array.getElem?_append_right (by omega), Array.getElem?_extract]
    by_cases hj : i < hp.size
    · rw [if_pos (by omega)]; congr 1; omega
    · rw [if_neg (by omega), Array.getElem?_eq_none (by omega)]
theorem St.more (h : St W0 L W) (os : Array Obj) : St W0 L (grow W os) := by
  obtain ⟨hb, p, hs, ho⟩ := h
  have hk : ∀ k, k < W.heap.size → (grow W os).heap[k]? = W.heap[k]? := fun k hk => by
    show (W.heap ++ os)[k]? = _
    rw [Array.getElem?_append_left hk]
  refine ⟨hb.trans ⟨⟨rfl, rfl, rfl, by simp, fun k hk' => hk k (Nat.lt_of_lt_of_le hk' hb.size)⟩, Nat.le_refl _⟩, p, hs, fun b o hbo => ⟨(ho b o hbo).1, ?_⟩⟩
  rw [hk b (Array.getElem?_eq_some_iff.1 (ho b o hbo).2).1]
  exact (ho b o hbo).2
theorem St.ahead (h : St W0 L W) (n : Nat) : St W0 L (Sort.ahead W n) :=
  ⟨h.bel.trans ⟨⟨rfl, rfl, rfl, Nat.le_refl _, fun _ _ => rfl⟩, Nat.le_add_right _ _⟩, h.own⟩
theorem putCells_id {F : List Value} {cur : List Value} {o : Nat} (h : o + F.length ≤ cur.length) : putCells id o F.toArray cur.toArray = (cur.take o ++ F ++ cur.drop (o + F.length)).toArray := by
  apply Array.ext_getElem?
  intro i
  simp only [putCells, Array.getElem?_mapIdx, List.getElem?_toArray, List.size_toArray, id_eq]
  by_cases h1 : i < o
  · rw [List.append_assoc, List.getElem?_append_left (by simp; omega), List.getElem?_take_of_lt h1]
    rw [List.getElem?_eq_getElem (by omega)]
    simp only [Option.map_some]
    rw [if_neg (by omega)]
  · by_cases h2 : i < o + F.length
    · rw [List.getElem?_append_left (by simp; omega), List.getElem?_append_right (by simp; omega)]
      simp only [List.length_take]
      rw [Nat.min_eq_left (by omega), List.getElem?_eq_getElem (by omega), List.getElem?_eq_getElem (by omega)]
      simp only [Option.map_some]
      rw [if_pos (by omega), getElem!_pos F.toArray _ (by simp; omega)]
      simp
    · rw [List.getElem?_append_right (by simp; omega), List.getElem?_drop]
      simp only [List.length_append, List.length_take]
      rw [Nat.min_eq_left (by omega)]
      rw [show o + F.length + (i - (o + F.length)) = i by omega]
      cases hc : cur[i]? with
      | none => rfl
      | some v => simp only [Option.map_some]; rw [if_neg (by omega)]
theorem St.putRow {g o n : Nat} {cur F : List Value} {os : Array Obj} (h : St W0 (Eng.cells g cur e :: L) W) (hF : o + F.length ≤ cur.length) :
    St W0 (Eng.cells g (cur.take o ++ F ++ cur.drop (o + F.length)) e :: L) (grow (Sort.putRow id (Sort.ahead W n) g o F.toArray) os) := by
  refine St.more ?_ os
  obtain ⟨fr, hf, hb⟩ := (h.ahead n).cells
  have hbl := hb.blk.2
  have hlt : g < W.heap.size := (Array.getElem?_eq_some_iff.1 hbl).1
  have he : Sort.putRow id (Sort.ahead W n) g o F.toArray = { (Sort.ahead W n) with heap := (Sort.ahead W n).heap.setIfInBounds g (.cells (cur.take o ++ F ++ cur.drop (o + F.length)).toArray e fr) } := by
    unfold Sort.putRow mapBlock
    congr 1
    apply Array.ext_getElem?
    intro j
    rw [Array.getElem?_modify, Array.getElem?_setIfInBounds]
    by_cases hj : g = j
    · subst hj
      rw [if_pos rfl, if_pos rfl, if_pos (show g < (Sort.ahead W n).heap.size from hlt), hbl]
      simp only [Option.map_some, onCells, putCells_id hF]
    · rw [if_neg hj, if_neg hj]
  rw [he]
  refine (hb.setBlk _).weak fun p hp => ⟨fr, ?_, hp⟩
  intro j hj
  refine hf j ?_
  simp at hj
  omega
theorem cells_hold {g o : Nat} {cur : List Value} (h : St W0 (cells g cur e :: L) W) (n : Nat) (hn : o + n ≤ cur.length) : ∀ j, j < n → W.cell? ⟨g, o + j, none⟩ = cur[o + j]? ∧ W.frozen? ⟨g, o + j, none⟩ = false := fun j hj =>
  St.cellOf (L' := L) (b := g) (cs := cur) (T := e) h (o + j) (by omega)
end
section
variable {P : Program} {ρ : Go.Shelf.Ren} {W0 W W' : World} {L L' : List Asn} {e : TypeId} {α : Type} [Inhabited α] {A : Ly α}
theorem flatK_rows {k : Nat} (hk : A.sz = k) (l : List α) : (flatK A.row k l.toArray).toList = A.rows l := by
  subst hk
  refine List.ext_getElem? fun t => ?_
  by_cases ht : t < l.length * A.sz
  · have h0 := get_flatK A.row A.sz l.toArray t (by simpa using ht)
    have hq : t / A.sz < l.length := Nat.div_lt_of_lt_mul (by rw [Nat.mul_comm]; exact ht)
    have hr : t % A.sz < A.sz := Nat.mod_lt _ A.pos
    have hs : t < (flatK A.row A.sz l.toArray).size := by simpa using ht
    rw [getElem!_pos _ t hs] at h0
    rw [Array.getElem?_toList, Array.getElem?_eq_getElem hs, h0]
    have e1 : (A.rows l)[t]? = (A.row l[t / A.sz])[t % A.sz]? := by
      rw [← Ly.rows_at hq, List.getElem?_take_of_lt hr, List.getElem?_drop, Nat.div_add_mod']
    rw [e1, getElem!_pos l.toArray _ (by simpa using hq), getElem!_pos _ _ (by rw [A.len]; exact hr), List.getElem?_eq_getElem (by rw [A.len]; exact hr)]
    simp
  · rw [List.getElem?_eq_none (by simp; omega), List.getElem?_eq_none (by rw [Ly.rows_len]; omega)]
/-- slices.SortFunc at structs, under a function value that parts any two; what it reads may lie anywhere else -/
theorem sortFX (L6 : SlLaysF0.n6 P ρ) (aE : ∀ w, (isAgg (ρ.t 24)).run P w = .ok true w) (zE : ∀ w, (Go.sizeOf (ρ.t 24)).run P w = .ok A.sz w) (cf : α → α → Int) (hO : SWO (ltOf cf)) (hT : ∀ x y, (ltOf cf) x y = false → (ltOf cf) y x = false → x = y)
    (g : Nat) (cb : List Value) {a : Option Addr} {c : Nat} {l : List α} {k : Value → World → Prop} (eg : ∀ args w, (callFunc g args).run P w = .ok (.enter g args) w)
    (h : St W0 L W) [ho : Own a L A e c l L'] (hc : ∀ x y W', St W0 L' W' → callK P g (.agg (A.row x).toArray :: .agg (A.row y).toArray :: cb) (fun v W'' => v = .int .i64 (cf x y) ∧ St W' [] W'') W')
    (hl : l.length < 4611686018427387904) (hk : ∀ W', St W0 (arr A e a c (l.mergeSort fun x y => !(ltOf cf) y x) :: L') W' → k (.tuple #[]) W') : callK P (ρ.f 6) [.slice a l.length c, .func (.func g) #[] cb.toArray] k W := by
  have h := h.took (a := a)
  have hf := h.arrFacts
  by_cases ha : a = none
  · subst ha
    have hl0 : l = [] := List.eq_nil_of_length_eq_zero (by have := hf.2.2.1 rfl; omega)
    subst hl0
    refine (AnyF.slices_SortFunc_none L6 none c (.func (.func g) #[] cb.toArray) W).mono ?_
    rintro ed w' ⟨rfl, rfl⟩
    exact hk _ (by rw [List.mergeSort_nil]; exact h)
  · obtain ⟨b, o, cur, rfl, h1, h2, h3⟩ := h.arrCells ha
    have hle : l.length * A.sz ≤ c * A.sz := Nat.mul_le_mul_right _ hf.1
    have hcell := cells_hold (o := o) h3 (l.length * A.sz) (by omega)
    have hH : HoldsK A.row A.sz W b o l.toArray := by
      intro j hj
      have hj' : j < l.length * A.sz := by simpa using hj
      refine ⟨?_, (hcell j hj').2⟩
      rw [(hcell j hj').1, getElem!_pos _ j hj]
      have e1 := flatK_rows (A := A) rfl l
      have e2 : (flatK A.row A.sz l.toArray)[j] = (flatK A.row A.sz l.toArray).toList[j]'(by simpa using hj) := by simp
      rw [e2]
      have e3 : (A.rows l)[j]? = cur[o + j]? := by rw [← h2, List.getElem?_take_of_lt hj', List.getElem?_drop]
      rw [← e3, ← e1, List.getElem?_eq_getElem (by simpa using hj)]
      rfl
    have hblk : b < W.heap.size := by
      obtain ⟨fr, _, hb⟩ := h3.cells
      exact (Array.getElem?_eq_some_iff.1 hb.blk.2).1
    have hcmp : CmpLays P g cb.toArray A.row A.sz cf b o l.toArray.size W := by
      intro m os dk hdk x y
      have hfs : (flatK A.row A.sz dk).toList.length = l.length * A.sz := by
        have := flatK_rows (A := A) rfl dk.toList
        rw [Array.toArray_toList] at this
        rw [this, Ly.rows_len, Array.length_toList, hdk, List.size_toArray]
      have hw := (St.putRow (n := m) (os := os) h3 (F := (flatK A.row A.sz dk).toList) (by rw [hfs]; exact Nat.le_trans (Nat.add_le_add_left hle o) h1)).drop
      rw [Array.toArray_toList] at hw
      have := hc x y (sortWorldK A.row A.sz W b o m dk os) hw
      refine (show Calls P g _ _ _ from ?_)
      have h5 : Calls P g (.agg (A.row x).toArray :: .agg (A.row y).toArray :: cb).toArray (sortWorldK A.row A.sz W b o m dk os) _ := this
      have e5 : (#[.agg (A.row x).toArray, .agg (A.row y).toArray] ++ cb.toArray : Array Value) = (.agg (A.row x).toArray :: .agg (A.row y).toArray :: cb).toArray := by simp
      rw [e5]
      refine h5.mono fun ed w' hq => ?_
      cases ed with
      | returned v => exact ⟨by rw [hq.1], hq.2.grown⟩
      | _ => exact hq.elim
    have hcon := AnyQ.slices_SortFunc_total L6 A.sz aE zE A.row A.len (fun x v hv => ?_) cf hO g cb.toArray b o c l.toArray W eg hcmp hH hblk (by simpa using hl) hT
    · have e0 : (#[.slice (some ⟨b, o, none⟩) l.toArray.size c, .func (.func g) #[] cb.toArray] : Array Value) = [.slice (some ⟨b, o, none⟩) l.length c, .func (.func g) #[] cb.toArray].toArray := by simp
      rw [e0] at hcon
      refine hcon.mono ?_
      rintro ed w' ⟨rfl, n, os, rfl⟩
      have hlen : (l.mergeSort fun x y => !(ltOf cf) y x).length = l.length := List.length_mergeSort _
      refine hk _ ?_
      unfold sortWorldK putRowK
      have e6 : flatK A.row A.sz (l.mergeSort fun x y => !(ltOf cf) y x).toArray = (A.rows (l.mergeSort fun x y => !(ltOf cf) y x)).toArray := by
        rw [← flatK_rows (A := A) rfl]
      rw [e6]
      have hrl : (A.rows (l.mergeSort fun x y => !(ltOf cf) y x)).length = l.length * A.sz := by rw [Ly.rows_len, hlen]
      refine (St.putRow (n := n) (os := os) h3 (F := A.rows (l.mergeSort fun x y => !(ltOf cf) y x)) (by omega)).ent (arr_of_cells (by omega) hf.2.1 ?_ ?_)
      · simp only [List.length_append, List.length_take, List.length_drop]; omega
      · rw [List.append_assoc, List.drop_append_of_le_length (by simp; omega), List.drop_take, Nat.sub_self, List.take_zero, List.nil_append, hlen, ← hrl, List.take_left]
    · have := List.all_eq_true.1 (A.one x) v hv
      cases v <;> first | rfl | (simp [oneC] at this)
end
end Go.Eng
