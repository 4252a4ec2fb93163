/- Texts of the claim DiskPlays, joined: CRef5, CRef5b, Sl7. -/
import Derived.Test.YthladblmjoaeoaaBDiskPlays6
import Derived.Test.YthladblmjoaeoaaBDiskPlays4
namespace Go.Proofs.Ythladblmjoaeoaa
set_option linter.unusedVariables false
set_option linter.unusedSimpArgs false
open Go Go.Eng

structure RB where
  file : Int
  b : BSl
  safe : Bool
instance : Inhabited RB := ⟨⟨0, ⟨none, 0, []⟩, false⟩⟩
def RBL : Ly RB := ⟨3, by omega, fun x => [.int .i64 x.file, x.b.v, .bool x.safe], fun _ => rfl, fun _ => rfl⟩
def RB.val (x : RB) : RW := ⟨x.file, x.b.bs, x.safe⟩
@[irreducible] def rdc (r : RD) (v : Value) : List Value := .int .i64 r.room :: (r.is.map Value.bool ++ [v, .bool r.off, .int .i64 r.lives])
def rk (q : Nat) (r : RD) : Asn := fun h => ∃ x : (Option Addr × Nat) × List RB, (x.2.map RB.val = r.w ∧ r.is.length = 1000) ∧
  sep [cells q (rdc r (.slice x.1.1 x.2.length x.1.2)) T_rostrumref5_Disk, arr RBL T_rostrumref5_write x.1.1 x.1.2 x.2, many fch (x.2.map (·.b))] h
theorem lget_eq : ∀ (l : List Value) (n : Nat), lget l n = l[n]?
  | [], n => by cases n <;> rfl
  | v :: l, 0 => rfl
  | v :: l, n + 1 => by rw [List.getElem?_cons_succ, ← lget_eq l n]; rfl
theorem stL_one : ∀ (l : List Value) (n : Nat) (v : Value), stL l n [v] = l.set n v
  | [], n, v => by cases n <;> rfl
  | x :: l, 0, v => by simp [stL, stL_nil]
  | x :: l, n + 1, v => by simp [stL, stL_one l n v]
section
variable {r : RD} {v v' : Value}
theorem rdc_len (hl : r.is.length = 1000) : (rdc r v).length = 1004 := by unfold rdc; simp [hl]
theorem rdc_room : getL false (rdc r v) 0 1 = some (.int .i64 r.room) := by unfold rdc; rfl
theorem rdc_is {i : Nat} (hl : r.is.length = 1000) (hi : i < 1000) : getL false (rdc r v) (1 + i) 1 = some (.bool (r.is.getD i false)) := by
  unfold rdc
  show lget _ _ = _
  rw [lget_eq, show 1 + i = i + 1 by omega, List.getElem?_cons_succ, List.getElem?_append_left (by simp [hl, hi]), List.getElem?_map, List.getElem?_eq_getElem (by omega), List.getD_eq_getElem?_getD, List.getElem?_eq_getElem (by omega)]
  rfl
theorem rdc_at {j : Nat} (hl : r.is.length = 1000) : getL false (rdc r v) (1001 + j) 1 = [v, .bool r.off, .int .i64 r.lives][j]? := by
  unfold rdc
  show lget _ _ = _
  rw [lget_eq, show 1001 + j = 1000 + j + 1 by omega, List.getElem?_cons_succ, List.getElem?_append_right (by simp [hl])]
  congr 1
  simp [hl]
theorem rdc_w (hl : r.is.length = 1000) : getL false (rdc r v) 1001 1 = some v := rdc_at (j := 0) hl
theorem rdc_off (hl : r.is.length = 1000) : getL false (rdc r v) 1002 1 = some (.bool r.off) := rdc_at (j := 1) hl
theorem rdc_lives (hl : r.is.length = 1000) : getL false (rdc r v) 1003 1 = some (.int .i64 r.lives) := rdc_at (j := 2) hl
theorem rdc_set (hl : r.is.length = 1000) (j : Nat) (u : Value) : stL (rdc r v) (1001 + j) [u] = .int .i64 r.room :: (r.is.map Value.bool ++ [v, .bool r.off, .int .i64 r.lives].set j u) := by
  unfold rdc
  rw [stL_one, show 1001 + j = 1000 + j + 1 by omega, List.set_cons_succ, List.set_append, if_neg (by simp [hl])]
  simp [hl]
theorem rdc_setw (hl : r.is.length = 1000) : stL (rdc r v) 1001 [v'] = rdc r v' := by rw [rdc_set (j := 0) hl]; unfold rdc; rfl
theorem rdc_setoff (hl : r.is.length = 1000) (b : Bool) : stL (rdc r v) 1002 [.bool b] = rdc { r with off := b } v := by rw [rdc_set (j := 1) hl]; unfold rdc; rfl
theorem rdc_setlives (hl : r.is.length = 1000) (n : Int) : stL (rdc r v) 1003 [.int .i64 n] = rdc { r with lives := n } v := by rw [rdc_set (j := 2) hl]; unfold rdc; rfl
theorem rdc_setis {i : Nat} (hl : r.is.length = 1000) (hi : i < 1000) (b : Bool) : stL (rdc r v) (1 + i) [.bool b] = rdc { r with is := r.is.set i b } v := by
  unfold rdc
  rw [stL_one, show 1 + i = i + 1 by omega, List.set_cons_succ, List.set_append, if_pos (by simp [hl, hi]), List.map_set]
end
section
variable {W0 W : World} {L L' : List Asn} {q : Nat} {r : RD}
theorem rk_at (h : St W0 (rk q r :: L) W) : ∃ a c rows, rows.map RB.val = r.w ∧ r.is.length = 1000 ∧
    St W0 (cells q (rdc r (.slice a rows.length c)) T_rostrumref5_Disk :: arr RBL T_rostrumref5_write a c rows :: many fch (rows.map (·.b)) :: L) W := by
  obtain ⟨x, h⟩ := h.ex
  obtain ⟨h1, h⟩ := h.fact
  exact ⟨x.1.1, x.1.2, x.2, h1.1, h1.2, h.flat⟩
theorem rk_ent {a : Option Addr} {c : Nat} {rows : List RB} (h : rows.map RB.val = r.w) (hl : r.is.length = 1000) :
    ent (cells q (rdc r (.slice a rows.length c)) T_rostrumref5_Disk :: arr RBL T_rostrumref5_write a c rows :: many fch (rows.map (·.b)) :: L) (rk q r :: L) :=
  (ent.pack [_, _, _] L).trans (ent.weak fun _ hp => ⟨((a, c), rows), ⟨h, hl⟩, hp⟩)
theorem refAsk {f : Int} {k : Value → World → Prop} (h : St W0 L W) [ht : Tk (rk q) L r L'] (hk : ∀ W', St W0 (rk q r :: L') W' → k (.int .i64 (r.ask f)) W') :
    callK PR F_rostrumref5_Disk_ask [.pointer (some ⟨q, 0, none⟩), .int .i64 f] k W := by
  apply S.rostrumref5_Disk_ask.call
  unfold S.rostrumref5_Disk_ask.body
  obtain ⟨a, c, rows, hw, hl, h⟩ := rk_at (h.perm ht.perm)
  unfold RD.ask at hk
  (repeat (first | (first | (with_reducible (first | refine w1 fun _ _ => ?_ | refine w3 fun _ _ _ => ?_ | refine w4 fun _ _ _ => ?_ | refine w11 fun _ _ _ => ?_ | refine stb_n ?_)) | ((with_reducible refine w2 ?_); try simp -implicitDefEqProofs only [EN, lsub, lget, stL, beq_self_eq_true, ne_eq, if_true, if_false, List.cons_append, List.nil_append, Option.isNone_some, Option.isNone_none]; intro _ _) | ((with_reducible (first | refine w5 ?_ ?_ | refine w6 ?_ ?_ | refine w7 ?_ ?_)); simp; refine ⟨_, rfl, ?_⟩) | ((with_reducible (first | refine w8 ?_ ?_ ?_ | refine w9 ?_ ?_ ?_ | refine w10 ?_ ?_ ?_)); exact rfl; simp) | ((with_reducible refine w12 ?_ ?_ ?_ fun _ _ => ?_); simp; simp; simp [oneC]) | ((with_reducible (first | refine eqs ?_ | refine nes ?_)); refine ⟨_, rfl, ?_⟩) | ((refine okF_i (bldP_eq rfl) ?_); try simp only [BLS, List.take_succ_cons, List.take_zero, List.drop_succ_cons, List.drop_zero, List.cons_append, List.nil_append, Nat.reduceAdd])) | simp -implicitDefEqProofs only [EN, lsub, lget, stL, beq_self_eq_true, ne_eq, if_true, if_false, List.cons_append, List.nil_append, Option.isNone_some, Option.isNone_none]))
  refine ld (b := q) (v := .bool r.off) (by first | assumption | exact St.tick (by assumption) | exact St.tick (St.tick (by assumption))) (rdc_off hl) (by simp) ?_
  cases ho : r.off with
  | true =>
    rw [ho] at hk
    (repeat (first | (first | (with_reducible (first | refine w1 fun _ _ => ?_ | refine w3 fun _ _ _ => ?_ | refine w4 fun _ _ _ => ?_ | refine w11 fun _ _ _ => ?_ | refine stb_n ?_)) | ((with_reducible refine w2 ?_); try simp -implicitDefEqProofs only [EN, lsub, lget, stL, beq_self_eq_true, ne_eq, if_true, if_false, List.cons_append, List.nil_append, Option.isNone_some, Option.isNone_none]; intro _ _) | ((with_reducible (first | refine w5 ?_ ?_ | refine w6 ?_ ?_ | refine w7 ?_ ?_)); simp; refine ⟨_, rfl, ?_⟩) | ((with_reducible (first | refine w8 ?_ ?_ ?_ | refine w9 ?_ ?_ ?_ | refine w10 ?_ ?_ ?_)); exact rfl; simp) | ((with_reducible refine w12 ?_ ?_ ?_ fun _ _ => ?_); simp; simp; simp [oneC]) | ((with_reducible (first | refine eqs ?_ | refine nes ?_)); refine ⟨_, rfl, ?_⟩) | ((refine okF_i (bldP_eq rfl) ?_); try simp only [BLS, List.take_succ_cons, List.take_zero, List.drop_succ_cons, List.drop_zero, List.cons_append, List.nil_append, Nat.reduceAdd])) | simp -implicitDefEqProofs only [EN, lsub, lget, stL, beq_self_eq_true, ne_eq, if_true, if_false, List.cons_append, List.nil_append, Option.isNone_some, Option.isNone_none]))
    exact hk _ (St.ent (by first | assumption | exact St.tick (by assumption) | exact St.tick (St.tick (by assumption))) (rk_ent hw hl))
  | false =>
    rw [ho] at hk
    simp only [Bool.false_eq_true, if_false] at hk
    by_cases h1 : f < 0
    · rw [if_pos (.inl h1)] at hk
      (repeat (first | (first | (with_reducible (first | refine w1 fun _ _ => ?_ | refine w3 fun _ _ _ => ?_ | refine w4 fun _ _ _ => ?_ | refine w11 fun _ _ _ => ?_ | refine stb_n ?_)) | ((with_reducible refine w2 ?_); try simp -implicitDefEqProofs only [EN, lsub, lget, stL, beq_self_eq_true, ne_eq, if_true, if_false, List.cons_append, List.nil_append, Option.isNone_some, Option.isNone_none, h1]; intro _ _) | ((with_reducible (first | refine w5 ?_ ?_ | refine w6 ?_ ?_ | refine w7 ?_ ?_)); simp; refine ⟨_, rfl, ?_⟩) | ((with_reducible (first | refine w8 ?_ ?_ ?_ | refine w9 ?_ ?_ ?_ | refine w10 ?_ ?_ ?_)); exact rfl; simp) | ((with_reducible refine w12 ?_ ?_ ?_ fun _ _ => ?_); simp; simp; simp [oneC]) | ((with_reducible (first | refine eqs ?_ | refine nes ?_)); refine ⟨_, rfl, ?_⟩) | ((refine okF_i (bldP_eq rfl) ?_); try simp only [BLS, List.take_succ_cons, List.take_zero, List.drop_succ_cons, List.drop_zero, List.cons_append, List.nil_append, Nat.reduceAdd])) | simp -implicitDefEqProofs only [EN, lsub, lget, stL, beq_self_eq_true, ne_eq, if_true, if_false, List.cons_append, List.nil_append, Option.isNone_some, Option.isNone_none, h1]))
      exact hk _ (St.ent (by first | assumption | exact St.tick (by assumption) | exact St.tick (St.tick (by assumption))) (rk_ent hw hl))
    · by_cases h2 : 999 < f
      · rw [if_pos (.inr h2)] at hk
        (repeat (first | (first | (with_reducible (first | refine w1 fun _ _ => ?_ | refine w3 fun _ _ _ => ?_ | refine w4 fun _ _ _ => ?_ | refine w11 fun _ _ _ => ?_ | refine stb_n ?_)) | ((with_reducible refine w2 ?_); try simp -implicitDefEqProofs only [EN, lsub, lget, stL, beq_self_eq_true, ne_eq, if_true, if_false, List.cons_append, List.nil_append, Option.isNone_some, Option.isNone_none, h1, h2]; intro _ _) | ((with_reducible (first | refine w5 ?_ ?_ | refine w6 ?_ ?_ | refine w7 ?_ ?_)); simp; refine ⟨_, rfl, ?_⟩) | ((with_reducible (first | refine w8 ?_ ?_ ?_ | refine w9 ?_ ?_ ?_ | refine w10 ?_ ?_ ?_)); exact rfl; simp) | ((with_reducible refine w12 ?_ ?_ ?_ fun _ _ => ?_); simp; simp; simp [oneC]) | ((with_reducible (first | refine eqs ?_ | refine nes ?_)); refine ⟨_, rfl, ?_⟩) | ((refine okF_i (bldP_eq rfl) ?_); try simp only [BLS, List.take_succ_cons, List.take_zero, List.drop_succ_cons, List.drop_zero, List.cons_append, List.nil_append, Nat.reduceAdd])) | simp -implicitDefEqProofs only [EN, lsub, lget, stL, beq_self_eq_true, ne_eq, if_true, if_false, List.cons_append, List.nil_append, Option.isNone_some, Option.isNone_none, h1, h2]))
        exact hk _ (St.ent (by first | assumption | exact St.tick (by assumption) | exact St.tick (St.tick (by assumption))) (rk_ent hw hl))
      · rw [if_neg (by omega)] at hk
        have ei := idxA_blk (len := 1000) (sz := 1) (b := q) (o := 1) (k := .i64) (i := f) (by omega) (by omega)
        rw [Nat.mul_one] at ei
        (repeat (first | (first | (with_reducible (first | refine w1 fun _ _ => ?_ | refine w3 fun _ _ _ => ?_ | refine w4 fun _ _ _ => ?_ | refine w11 fun _ _ _ => ?_ | refine stb_n ?_)) | ((with_reducible refine w2 ?_); try simp -implicitDefEqProofs only [EN, lsub, lget, stL, beq_self_eq_true, ne_eq, if_true, if_false, List.cons_append, List.nil_append, Option.isNone_some, Option.isNone_none, h1, h2, ei]; intro _ _) | ((with_reducible (first | refine w5 ?_ ?_ | refine w6 ?_ ?_ | refine w7 ?_ ?_)); simp; refine ⟨_, rfl, ?_⟩) | ((with_reducible (first | refine w8 ?_ ?_ ?_ | refine w9 ?_ ?_ ?_ | refine w10 ?_ ?_ ?_)); exact rfl; simp) | ((with_reducible refine w12 ?_ ?_ ?_ fun _ _ => ?_); simp; simp; simp [oneC]) | ((with_reducible (first | refine eqs ?_ | refine nes ?_)); refine ⟨_, rfl, ?_⟩) | ((refine okF_i (bldP_eq rfl) ?_); try simp only [BLS, List.take_succ_cons, List.take_zero, List.drop_succ_cons, List.drop_zero, List.cons_append, List.nil_append, Nat.reduceAdd])) | simp -implicitDefEqProofs only [EN, lsub, lget, stL, beq_self_eq_true, ne_eq, if_true, if_false, List.cons_append, List.nil_append, Option.isNone_some, Option.isNone_none, h1, h2, ei]))
        refine ld (b := q) (v := .bool (r.is.getD f.toNat false)) (by first | assumption | exact St.tick (by assumption) | exact St.tick (St.tick (by assumption))) (rdc_is hl (by omega)) (by simp) ?_
        unfold RD.isN at hk
        cases hi : r.is.getD f.toNat false with
        | true =>
          rw [hi] at hk
          (repeat (first | (first | (with_reducible (first | refine w1 fun _ _ => ?_ | refine w3 fun _ _ _ => ?_ | refine w4 fun _ _ _ => ?_ | refine w11 fun _ _ _ => ?_ | refine stb_n ?_)) | ((with_reducible refine w2 ?_); try simp -implicitDefEqProofs only [EN, lsub, lget, stL, beq_self_eq_true, ne_eq, if_true, if_false, List.cons_append, List.nil_append, Option.isNone_some, Option.isNone_none]; intro _ _) | ((with_reducible (first | refine w5 ?_ ?_ | refine w6 ?_ ?_ | refine w7 ?_ ?_)); simp; refine ⟨_, rfl, ?_⟩) | ((with_reducible (first | refine w8 ?_ ?_ ?_ | refine w9 ?_ ?_ ?_ | refine w10 ?_ ?_ ?_)); exact rfl; simp) | ((with_reducible refine w12 ?_ ?_ ?_ fun _ _ => ?_); simp; simp; simp [oneC]) | ((with_reducible (first | refine eqs ?_ | refine nes ?_)); refine ⟨_, rfl, ?_⟩) | ((refine okF_i (bldP_eq rfl) ?_); try simp only [BLS, List.take_succ_cons, List.take_zero, List.drop_succ_cons, List.drop_zero, List.cons_append, List.nil_append, Nat.reduceAdd])) | simp -implicitDefEqProofs only [EN, lsub, lget, stL, beq_self_eq_true, ne_eq, if_true, if_false, List.cons_append, List.nil_append, Option.isNone_some, Option.isNone_none]))
          exact hk _ (St.ent (by first | assumption | exact St.tick (by assumption) | exact St.tick (St.tick (by assumption))) (rk_ent hw hl))
        | false =>
          rw [hi] at hk
          (repeat (first | (first | (with_reducible (first | refine w1 fun _ _ => ?_ | refine w3 fun _ _ _ => ?_ | refine w4 fun _ _ _ => ?_ | refine w11 fun _ _ _ => ?_ | refine stb_n ?_)) | ((with_reducible refine w2 ?_); try simp -implicitDefEqProofs only [EN, lsub, lget, stL, beq_self_eq_true, ne_eq, if_true, if_false, List.cons_append, List.nil_append, Option.isNone_some, Option.isNone_none]; intro _ _) | ((with_reducible (first | refine w5 ?_ ?_ | refine w6 ?_ ?_ | refine w7 ?_ ?_)); simp; refine ⟨_, rfl, ?_⟩) | ((with_reducible (first | refine w8 ?_ ?_ ?_ | refine w9 ?_ ?_ ?_ | refine w10 ?_ ?_ ?_)); exact rfl; simp) | ((with_reducible refine w12 ?_ ?_ ?_ fun _ _ => ?_); simp; simp; simp [oneC]) | ((with_reducible (first | refine eqs ?_ | refine nes ?_)); refine ⟨_, rfl, ?_⟩) | ((refine okF_i (bldP_eq rfl) ?_); try simp only [BLS, List.take_succ_cons, List.take_zero, List.drop_succ_cons, List.drop_zero, List.cons_append, List.nil_append, Nat.reduceAdd])) | simp -implicitDefEqProofs only [EN, lsub, lget, stL, beq_self_eq_true, ne_eq, if_true, if_false, List.cons_append, List.nil_append, Option.isNone_some, Option.isNone_none]))
          exact hk _ (St.ent (by first | assumption | exact St.tick (by assumption) | exact St.tick (St.tick (by assumption))) (rk_ent hw hl))
theorem refOn {k : Value → World → Prop} (h : St W0 L W) [ht : Tk (rk q) L r L'] (hk : ∀ W', St W0 (rk q r.power :: L') W' → k (.tuple #[]) W') :
    callK PR F_rostrumref5_Disk_On [.pointer (some ⟨q, 0, none⟩)] k W := by
  apply S.rostrumref5_Disk_On.call
  unfold S.rostrumref5_Disk_On.body
  obtain ⟨a, c, rows, hw, hl, h⟩ := rk_at (h.perm ht.perm)
  (repeat (first | (first | (with_reducible (first | refine w1 fun _ _ => ?_ | refine w3 fun _ _ _ => ?_ | refine w4 fun _ _ _ => ?_ | refine w11 fun _ _ _ => ?_ | refine stb_n ?_)) | ((with_reducible refine w2 ?_); try simp -implicitDefEqProofs only [EN, lsub, lget, stL, beq_self_eq_true, ne_eq, if_true, if_false, List.cons_append, List.nil_append, Option.isNone_some, Option.isNone_none]; intro _ _) | ((with_reducible (first | refine w5 ?_ ?_ | refine w6 ?_ ?_ | refine w7 ?_ ?_)); simp; refine ⟨_, rfl, ?_⟩) | ((with_reducible (first | refine w8 ?_ ?_ ?_ | refine w9 ?_ ?_ ?_ | refine w10 ?_ ?_ ?_)); exact rfl; simp) | ((with_reducible refine w12 ?_ ?_ ?_ fun _ _ => ?_); simp; simp; simp [oneC]) | ((with_reducible (first | refine eqs ?_ | refine nes ?_)); refine ⟨_, rfl, ?_⟩) | ((refine okF_i (bldP_eq rfl) ?_); try simp only [BLS, List.take_succ_cons, List.take_zero, List.drop_succ_cons, List.drop_zero, List.cons_append, List.nil_append, Nat.reduceAdd])) | simp -implicitDefEqProofs only [EN, lsub, lget, stL, beq_self_eq_true, ne_eq, if_true, if_false, List.cons_append, List.nil_append, Option.isNone_some, Option.isNone_none]))
  refine sto (b := q) (cs := rdc r (.slice a rows.length c)) (by first | assumption | exact St.tick (by assumption) | exact St.tick (St.tick (by assumption))) rfl (by rw [rdc_len hl]; exact (by decide : 1002 + 1 ≤ 1004)) rfl fun W1 h => ?_
  rw [show vcells (.bool false) = [.bool false] from rfl, rdc_setoff hl] at h
  (repeat (first | (first | (with_reducible (first | refine w1 fun _ _ => ?_ | refine w3 fun _ _ _ => ?_ | refine w4 fun _ _ _ => ?_ | refine w11 fun _ _ _ => ?_ | refine stb_n ?_)) | ((with_reducible refine w2 ?_); try simp -implicitDefEqProofs only [EN, lsub, lget, stL, beq_self_eq_true, ne_eq, if_true, if_false, List.cons_append, List.nil_append, Option.isNone_some, Option.isNone_none]; intro _ _) | ((with_reducible (first | refine w5 ?_ ?_ | refine w6 ?_ ?_ | refine w7 ?_ ?_)); simp; refine ⟨_, rfl, ?_⟩) | ((with_reducible (first | refine w8 ?_ ?_ ?_ | refine w9 ?_ ?_ ?_ | refine w10 ?_ ?_ ?_)); exact rfl; simp) | ((with_reducible refine w12 ?_ ?_ ?_ fun _ _ => ?_); simp; simp; simp [oneC]) | ((with_reducible (first | refine eqs ?_ | refine nes ?_)); refine ⟨_, rfl, ?_⟩) | ((refine okF_i (bldP_eq rfl) ?_); try simp only [BLS, List.take_succ_cons, List.take_zero, List.drop_succ_cons, List.drop_zero, List.cons_append, List.nil_append, Nat.reduceAdd])) | simp -implicitDefEqProofs only [EN, lsub, lget, stL, beq_self_eq_true, ne_eq, if_true, if_false, List.cons_append, List.nil_append, Option.isNone_some, Option.isNone_none]))
  refine ld (b := q) (v := .int .i64 r.lives) (by first | assumption | exact St.tick (by assumption) | exact St.tick (St.tick (by assumption))) (rdc_lives (r := { r with off := false }) hl) (by simp) ?_
  (repeat (first | (first | (with_reducible (first | refine w1 fun _ _ => ?_ | refine w3 fun _ _ _ => ?_ | refine w4 fun _ _ _ => ?_ | refine w11 fun _ _ _ => ?_ | refine stb_n ?_)) | ((with_reducible refine w2 ?_); try simp -implicitDefEqProofs only [EN, lsub, lget, stL, beq_self_eq_true, ne_eq, if_true, if_false, List.cons_append, List.nil_append, Option.isNone_some, Option.isNone_none]; intro _ _) | ((with_reducible (first | refine w5 ?_ ?_ | refine w6 ?_ ?_ | refine w7 ?_ ?_)); simp; refine ⟨_, rfl, ?_⟩) | ((with_reducible (first | refine w8 ?_ ?_ ?_ | refine w9 ?_ ?_ ?_ | refine w10 ?_ ?_ ?_)); exact rfl; simp) | ((with_reducible refine w12 ?_ ?_ ?_ fun _ _ => ?_); simp; simp; simp [oneC]) | ((with_reducible (first | refine eqs ?_ | refine nes ?_)); refine ⟨_, rfl, ?_⟩) | ((refine okF_i (bldP_eq rfl) ?_); try simp only [BLS, List.take_succ_cons, List.take_zero, List.drop_succ_cons, List.drop_zero, List.cons_append, List.nil_append, Nat.reduceAdd])) | simp -implicitDefEqProofs only [EN, lsub, lget, stL, beq_self_eq_true, ne_eq, if_true, if_false, List.cons_append, List.nil_append, Option.isNone_some, Option.isNone_none]))
  refine sto (b := q) (cs := rdc { r with off := false } (.slice a rows.length c)) (by first | assumption | exact St.tick (by assumption) | exact St.tick (St.tick (by assumption))) rfl (by rw [rdc_len (r := { r with off := false }) hl]; exact (by decide : 1003 + 1 ≤ 1004)) rfl fun W2 h => ?_
  rw [show vcells (.int .i64 (IntKind.i64.wrap (r.lives + 1))) = [.int .i64 (IntKind.i64.wrap (r.lives + 1))] from rfl, rdc_setlives (r := { r with off := false }) hl] at h
  exact hk _ (St.ent (by first | assumption | exact St.tick (by assumption) | exact St.tick (St.tick (by assumption))) (rk_ent (r := r.power) hw hl))
theorem range_filter (p : Nat → Bool) (i : Nat) : (List.range (i + 1)).filter p = (List.range i).filter p ++ (if p i then [i] else []) := by
  rw [List.range_succ, List.filter_append]
  congr 1
  cases hp : p i <;> simp [hp]
set_option maxRecDepth 100000 in
set_option maxHeartbeats 4000000 in
theorem refFiles {k : Value → World → Prop} (h : St W0 L W) [ht : Tk (rk q) L r L'] (hk : ∀ a c W', St W0 (arr I64 T_int a c r.files :: rk q r :: L') W' → k (.slice a r.files.length c) W') :
    callK PR F_rostrumref5_Disk_Files [.pointer (some ⟨q, 0, none⟩)] k W := by
  apply S.rostrumref5_Disk_Files.call
  unfold S.rostrumref5_Disk_Files.body
  obtain ⟨a, c, rows, hw, hl, h⟩ := rk_at (h.perm ht.perm)
  refine joinK_i ?_
  (repeat (first | (first | (with_reducible (first | refine w1 fun _ _ => ?_ | refine w3 fun _ _ _ => ?_ | refine w4 fun _ _ _ => ?_ | refine w11 fun _ _ _ => ?_ | refine stb_n ?_)) | ((with_reducible refine w2 ?_); try simp -implicitDefEqProofs only [EN, lsub, lget, stL, beq_self_eq_true, ne_eq, if_true, if_false, List.cons_append, List.nil_append, Option.isNone_some, Option.isNone_none]; intro _ _) | ((with_reducible (first | refine w5 ?_ ?_ | refine w6 ?_ ?_ | refine w7 ?_ ?_)); simp; refine ⟨_, rfl, ?_⟩) | ((with_reducible (first | refine w8 ?_ ?_ ?_ | refine w9 ?_ ?_ ?_ | refine w10 ?_ ?_ ?_)); exact rfl; simp) | ((with_reducible refine w12 ?_ ?_ ?_ fun _ _ => ?_); simp; simp; simp [oneC]) | ((with_reducible (first | refine eqs ?_ | refine nes ?_)); refine ⟨_, rfl, ?_⟩) | ((refine okF_i (bldP_eq rfl) ?_); try simp only [BLS, List.take_succ_cons, List.take_zero, List.drop_succ_cons, List.drop_zero, List.cons_append, List.nil_append, Nat.reduceAdd])) | simp -implicitDefEqProofs only [EN, lsub, lget, stL, beq_self_eq_true, ne_eq, if_true, if_false, List.cons_append, List.nil_append, Option.isNone_some, Option.isNone_none]))
  have hfl : ∀ i, i ≤ 1000 → (((List.range i).filter fun i => r.is.getD i false).map (fun i : Nat => (i : Int))).length ≤ i := fun i _ => by
    rw [List.length_map]
    exact Nat.le_trans (List.length_filter_le _ _) (by simp)
  refine loop_c (σ := Option Addr × Nat) (if r.off then 0 else 1000) (fun i x => [.pointer (some ⟨q, 0, none⟩), .slice x.1 (((List.range i).filter fun i => r.is.getD i false).map (fun i : Nat => (i : Int))).length x.2, .int .i64 i])
    (fun i x W1 => St W0 (arr I64 T_int x.1 x.2 (((List.range i).filter fun i => r.is.getD i false).map (fun i : Nat => (i : Int))) :: cells q (rdc r (.slice a rows.length c)) T_rostrumref5_Disk :: arr RBL T_rostrumref5_write a c rows :: many fch (rows.map (·.b)) :: L') W1) (none, 0) rfl (h.ent (arr_nil I64 T_int)) ?_
  clear h
  rintro K i ⟨a1, c1⟩ W2 hi h hK
  simp only at h
  simp -implicitDefEqProofs only [EN, lsub, lget, stL, beq_self_eq_true, ne_eq, if_true, if_false, List.cons_append, List.nil_append, Option.isNone_some, Option.isNone_none]
  unfold S.rostrumref5_Disk_Files.l1
  have hend : ∀ W', St W0 (arr I64 T_int a1 c1 (((List.range i).filter fun i => r.is.getD i false).map (fun i : Nat => (i : Int))) :: cells q (rdc r (.slice a rows.length c)) T_rostrumref5_Disk :: arr RBL T_rostrumref5_write a c rows :: many fch (rows.map (·.b)) :: L') W' → i = (if r.off then 0 else 1000) → S.rostrumref5_Disk_Files.j1 k (.slice a1 (((List.range i).filter fun i => r.is.getD i false).map (fun i : Nat => (i : Int))).length c1) W' := fun W' h e => by
    unfold S.rostrumref5_Disk_Files.j1
    have e2 : (((List.range i).filter fun i => r.is.getD i false).map (fun i : Nat => (i : Int))) = r.files := by
      unfold RD.files
      subst e
      cases r.off <;> rfl
    rw [e2] at h ⊢
    exact hk _ _ _ (h.ent (ent.cons _ (rk_ent hw hl)))
  cases ho : r.off with
  | true =>
    rw [ho] at hi hend
    simp only [if_true] at hi hend
    have : i = 0 := by omega
    subst this
    (repeat (first | (first | (with_reducible (first | refine w1 fun _ _ => ?_ | refine w3 fun _ _ _ => ?_ | refine w4 fun _ _ _ => ?_ | refine w11 fun _ _ _ => ?_ | refine stb_n ?_)) | ((with_reducible refine w2 ?_); try simp -implicitDefEqProofs only [EN, lsub, lget, stL, beq_self_eq_true, ne_eq, if_true, if_false, List.cons_append, List.nil_append, Option.isNone_some, Option.isNone_none]; intro _ _) | ((with_reducible (first | refine w5 ?_ ?_ | refine w6 ?_ ?_ | refine w7 ?_ ?_)); simp; refine ⟨_, rfl, ?_⟩) | ((with_reducible (first | refine w8 ?_ ?_ ?_ | refine w9 ?_ ?_ ?_ | refine w10 ?_ ?_ ?_)); exact rfl; simp) | ((with_reducible refine w12 ?_ ?_ ?_ fun _ _ => ?_); simp; simp; simp [oneC]) | ((with_reducible (first | refine eqs ?_ | refine nes ?_)); refine ⟨_, rfl, ?_⟩) | ((refine okF_i (bldP_eq rfl) ?_); try simp only [BLS, List.take_succ_cons, List.take_zero, List.drop_succ_cons, List.drop_zero, List.cons_append, List.nil_append, Nat.reduceAdd])) | simp -implicitDefEqProofs only [EN, lsub, lget, stL, beq_self_eq_true, ne_eq, if_true, if_false, List.cons_append, List.nil_append, Option.isNone_some, Option.isNone_none]))
    refine ld (b := q) (v := .bool r.off) (by first | assumption | exact St.tick (by assumption) | exact St.tick (St.tick (by assumption))) (rdc_off hl) (by simp) ?_
    (repeat (first | (first | (with_reducible (first | refine w1 fun _ _ => ?_ | refine w3 fun _ _ _ => ?_ | refine w4 fun _ _ _ => ?_ | refine w11 fun _ _ _ => ?_ | refine stb_n ?_)) | ((with_reducible refine w2 ?_); try simp -implicitDefEqProofs only [EN, lsub, lget, stL, beq_self_eq_true, ne_eq, if_true, if_false, List.cons_append, List.nil_append, Option.isNone_some, Option.isNone_none, ho]; intro _ _) | ((with_reducible (first | refine w5 ?_ ?_ | refine w6 ?_ ?_ | refine w7 ?_ ?_)); simp; refine ⟨_, rfl, ?_⟩) | ((with_reducible (first | refine w8 ?_ ?_ ?_ | refine w9 ?_ ?_ ?_ | refine w10 ?_ ?_ ?_)); exact rfl; simp) | ((with_reducible refine w12 ?_ ?_ ?_ fun _ _ => ?_); simp; simp; simp [oneC]) | ((with_reducible (first | refine eqs ?_ | refine nes ?_)); refine ⟨_, rfl, ?_⟩) | ((refine okF_i (bldP_eq rfl) ?_); try simp only [BLS, List.take_succ_cons, List.take_zero, List.drop_succ_cons, List.drop_zero, List.cons_append, List.nil_append, Nat.reduceAdd])) | simp -implicitDefEqProofs only [EN, lsub, lget, stL, beq_self_eq_true, ne_eq, if_true, if_false, List.cons_append, List.nil_append, Option.isNone_some, Option.isNone_none, ho]))
    exact hend _ (by first | assumption | exact St.tick (by assumption) | exact St.tick (St.tick (by assumption))) rfl
  | false =>
    rw [ho] at hi hend hK
    simp only [Bool.false_eq_true, if_false] at hi hend hK
    by_cases hlt : (i : Int) < 1000
    · have hib : i < 1000 := by omega
      have ew : IntKind.i64.wrap ((i : Int) + 1) = ((i + 1 : Nat) : Int) := by rw [i64w]; omega
      have ei := idxA_blk (len := 1000) (sz := 1) (b := q) (o := 1) (k := .i64) (i := (i : Int)) (by omega) (by omega)
      rw [Nat.mul_one, Int.toNat_natCast] at ei
      have hJ2 : ∀ a' c' W', St W0 (arr I64 T_int a' c' (((List.range (i + 1)).filter fun i => r.is.getD i false).map (fun i : Nat => (i : Int))) :: cells q (rdc r (.slice a rows.length c)) T_rostrumref5_Disk :: arr RBL T_rostrumref5_write a c rows :: many fch (rows.map (·.b)) :: L') W' →
          S.rostrumref5_Disk_Files.j2 K (.pointer (some ⟨q, 0, none⟩)) (.slice a' (((List.range (i + 1)).filter fun i => r.is.getD i false).map (fun i : Nat => (i : Int))).length c') (.int .i64 i) W' := fun a' c' W' h => by
        unfold S.rostrumref5_Disk_Files.j2
        (repeat (first | (first | (with_reducible (first | refine w1 fun _ _ => ?_ | refine w3 fun _ _ _ => ?_ | refine w4 fun _ _ _ => ?_ | refine w11 fun _ _ _ => ?_ | refine stb_n ?_)) | ((with_reducible refine w2 ?_); try simp -implicitDefEqProofs only [EN, lsub, lget, stL, beq_self_eq_true, ne_eq, if_true, if_false, List.cons_append, List.nil_append, Option.isNone_some, Option.isNone_none, ew]; intro _ _) | ((with_reducible (first | refine w5 ?_ ?_ | refine w6 ?_ ?_ | refine w7 ?_ ?_)); simp; refine ⟨_, rfl, ?_⟩) | ((with_reducible (first | refine w8 ?_ ?_ ?_ | refine w9 ?_ ?_ ?_ | refine w10 ?_ ?_ ?_)); exact rfl; simp) | ((with_reducible refine w12 ?_ ?_ ?_ fun _ _ => ?_); simp; simp; simp [oneC]) | ((with_reducible (first | refine eqs ?_ | refine nes ?_)); refine ⟨_, rfl, ?_⟩) | ((refine okF_i (bldP_eq rfl) ?_); try simp only [BLS, List.take_succ_cons, List.take_zero, List.drop_succ_cons, List.drop_zero, List.cons_append, List.nil_append, Nat.reduceAdd])) | simp -implicitDefEqProofs only [EN, lsub, lget, stL, beq_self_eq_true, ne_eq, if_true, if_false, List.cons_append, List.nil_append, Option.isNone_some, Option.isNone_none, ew]))
        exact hK (a', c') _ hib h
      clear hK hend
      have hfi := hfl i (by omega)
      rw [range_filter] at hJ2
      generalize hacc : (((List.range i).filter fun i => r.is.getD i false).map (fun i : Nat => (i : Int))) = acc at *
      rw [List.map_append, hacc] at hJ2
      (repeat (first | (first | (with_reducible (first | refine w1 fun _ _ => ?_ | refine w3 fun _ _ _ => ?_ | refine w4 fun _ _ _ => ?_ | refine w11 fun _ _ _ => ?_ | refine stb_n ?_)) | ((with_reducible refine w2 ?_); try simp -implicitDefEqProofs only [EN, lsub, lget, stL, beq_self_eq_true, ne_eq, if_true, if_false, List.cons_append, List.nil_append, Option.isNone_some, Option.isNone_none, hlt]; intro _ _) | ((with_reducible (first | refine w5 ?_ ?_ | refine w6 ?_ ?_ | refine w7 ?_ ?_)); simp; refine ⟨_, rfl, ?_⟩) | ((with_reducible (first | refine w8 ?_ ?_ ?_ | refine w9 ?_ ?_ ?_ | refine w10 ?_ ?_ ?_)); exact rfl; simp) | ((with_reducible refine w12 ?_ ?_ ?_ fun _ _ => ?_); simp; simp; simp [oneC]) | ((with_reducible (first | refine eqs ?_ | refine nes ?_)); refine ⟨_, rfl, ?_⟩) | ((refine okF_i (bldP_eq rfl) ?_); try simp only [BLS, List.take_succ_cons, List.take_zero, List.drop_succ_cons, List.drop_zero, List.cons_append, List.nil_append, Nat.reduceAdd])) | simp -implicitDefEqProofs only [EN, lsub, lget, stL, beq_self_eq_true, ne_eq, if_true, if_false, List.cons_append, List.nil_append, Option.isNone_some, Option.isNone_none, hlt]))
      refine ld (b := q) (v := .bool r.off) (by first | assumption | exact St.tick (by assumption) | exact St.tick (St.tick (by assumption))) (rdc_off hl) (by simp) ?_
      (repeat (first | (first | (with_reducible (first | refine w1 fun _ _ => ?_ | refine w3 fun _ _ _ => ?_ | refine w4 fun _ _ _ => ?_ | refine w11 fun _ _ _ => ?_ | refine stb_n ?_)) | ((with_reducible refine w2 ?_); try simp -implicitDefEqProofs only [EN, lsub, lget, stL, beq_self_eq_true, ne_eq, if_true, if_false, List.cons_append, List.nil_append, Option.isNone_some, Option.isNone_none, ho]; intro _ _) | ((with_reducible (first | refine w5 ?_ ?_ | refine w6 ?_ ?_ | refine w7 ?_ ?_)); simp; refine ⟨_, rfl, ?_⟩) | ((with_reducible (first | refine w8 ?_ ?_ ?_ | refine w9 ?_ ?_ ?_ | refine w10 ?_ ?_ ?_)); exact rfl; simp) | ((with_reducible refine w12 ?_ ?_ ?_ fun _ _ => ?_); simp; simp; simp [oneC]) | ((with_reducible (first | refine eqs ?_ | refine nes ?_)); refine ⟨_, rfl, ?_⟩) | ((refine okF_i (bldP_eq rfl) ?_); try simp only [BLS, List.take_succ_cons, List.take_zero, List.drop_succ_cons, List.drop_zero, List.cons_append, List.nil_append, Nat.reduceAdd])) | simp -implicitDefEqProofs only [EN, lsub, lget, stL, beq_self_eq_true, ne_eq, if_true, if_false, List.cons_append, List.nil_append, Option.isNone_some, Option.isNone_none, ho]))
      refine joinK_i ?_
      (repeat (first | (first | (with_reducible (first | refine w1 fun _ _ => ?_ | refine w3 fun _ _ _ => ?_ | refine w4 fun _ _ _ => ?_ | refine w11 fun _ _ _ => ?_ | refine stb_n ?_)) | ((with_reducible refine w2 ?_); try simp -implicitDefEqProofs only [EN, lsub, lget, stL, beq_self_eq_true, ne_eq, if_true, if_false, List.cons_append, List.nil_append, Option.isNone_some, Option.isNone_none, ei]; intro _ _) | ((with_reducible (first | refine w5 ?_ ?_ | refine w6 ?_ ?_ | refine w7 ?_ ?_)); simp; refine ⟨_, rfl, ?_⟩) | ((with_reducible (first | refine w8 ?_ ?_ ?_ | refine w9 ?_ ?_ ?_ | refine w10 ?_ ?_ ?_)); exact rfl; simp) | ((with_reducible refine w12 ?_ ?_ ?_ fun _ _ => ?_); simp; simp; simp [oneC]) | ((with_reducible (first | refine eqs ?_ | refine nes ?_)); refine ⟨_, rfl, ?_⟩) | ((refine okF_i (bldP_eq rfl) ?_); try simp only [BLS, List.take_succ_cons, List.take_zero, List.drop_succ_cons, List.drop_zero, List.cons_append, List.nil_append, Nat.reduceAdd])) | simp -implicitDefEqProofs only [EN, lsub, lget, stL, beq_self_eq_true, ne_eq, if_true, if_false, List.cons_append, List.nil_append, Option.isNone_some, Option.isNone_none, ei]))
      refine ld (b := q) (v := .bool (r.is.getD i false)) (by first | assumption | exact St.tick (by assumption) | exact St.tick (St.tick (by assumption))) (rdc_is hl hib) (by simp) ?_
      cases hs : r.is.getD i false with
      | true =>
        rw [hs] at hJ2
        (repeat (first | (first | (with_reducible (first | refine w1 fun _ _ => ?_ | refine w3 fun _ _ _ => ?_ | refine w4 fun _ _ _ => ?_ | refine w11 fun _ _ _ => ?_ | refine stb_n ?_)) | ((with_reducible refine w2 ?_); try simp -implicitDefEqProofs only [EN, lsub, lget, stL, beq_self_eq_true, ne_eq, if_true, if_false, List.cons_append, List.nil_append, Option.isNone_some, Option.isNone_none]; intro _ _) | ((with_reducible (first | refine w5 ?_ ?_ | refine w6 ?_ ?_ | refine w7 ?_ ?_)); simp; refine ⟨_, rfl, ?_⟩) | ((with_reducible (first | refine w8 ?_ ?_ ?_ | refine w9 ?_ ?_ ?_ | refine w10 ?_ ?_ ?_)); exact rfl; simp) | ((with_reducible refine w12 ?_ ?_ ?_ fun _ _ => ?_); simp; simp; simp [oneC]) | ((with_reducible (first | refine eqs ?_ | refine nes ?_)); refine ⟨_, rfl, ?_⟩) | ((refine okF_i (bldP_eq rfl) ?_); try simp only [BLS, List.take_succ_cons, List.take_zero, List.drop_succ_cons, List.drop_zero, List.cons_append, List.nil_append, Nat.reduceAdd])) | simp -implicitDefEqProofs only [EN, lsub, lget, stL, beq_self_eq_true, ne_eq, if_true, if_false, List.cons_append, List.nil_append, Option.isNone_some, Option.isNone_none]))
        refine pushA (A := I64) ((i : Int)) (l := acc) (by first | assumption | exact St.tick (by assumption) | exact St.tick (St.tick (by assumption))) rfl rfl (by omega) (by simp only [maxLen]; omega) (by decide) fun a2 c2 W3 h => ?_
        exact hJ2 _ _ _ h
      | false =>
        rw [hs] at hJ2
        simp only [Bool.false_eq_true, if_false, List.map_nil, List.append_nil] at hJ2
        (repeat (first | (first | (with_reducible (first | refine w1 fun _ _ => ?_ | refine w3 fun _ _ _ => ?_ | refine w4 fun _ _ _ => ?_ | refine w11 fun _ _ _ => ?_ | refine stb_n ?_)) | ((with_reducible refine w2 ?_); try simp -implicitDefEqProofs only [EN, lsub, lget, stL, beq_self_eq_true, ne_eq, if_true, if_false, List.cons_append, List.nil_append, Option.isNone_some, Option.isNone_none]; intro _ _) | ((with_reducible (first | refine w5 ?_ ?_ | refine w6 ?_ ?_ | refine w7 ?_ ?_)); simp; refine ⟨_, rfl, ?_⟩) | ((with_reducible (first | refine w8 ?_ ?_ ?_ | refine w9 ?_ ?_ ?_ | refine w10 ?_ ?_ ?_)); exact rfl; simp) | ((with_reducible refine w12 ?_ ?_ ?_ fun _ _ => ?_); simp; simp; simp [oneC]) | ((with_reducible (first | refine eqs ?_ | refine nes ?_)); refine ⟨_, rfl, ?_⟩) | ((refine okF_i (bldP_eq rfl) ?_); try simp only [BLS, List.take_succ_cons, List.take_zero, List.drop_succ_cons, List.drop_zero, List.cons_append, List.nil_append, Nat.reduceAdd])) | simp -implicitDefEqProofs only [EN, lsub, lget, stL, beq_self_eq_true, ne_eq, if_true, if_false, List.cons_append, List.nil_append, Option.isNone_some, Option.isNone_none]))
        exact hJ2 _ _ _ (by first | assumption | exact St.tick (by assumption) | exact St.tick (St.tick (by assumption)))
    · (repeat (first | (first | (with_reducible (first | refine w1 fun _ _ => ?_ | refine w3 fun _ _ _ => ?_ | refine w4 fun _ _ _ => ?_ | refine w11 fun _ _ _ => ?_ | refine stb_n ?_)) | ((with_reducible refine w2 ?_); try simp -implicitDefEqProofs only [EN, lsub, lget, stL, beq_self_eq_true, ne_eq, if_true, if_false, List.cons_append, List.nil_append, Option.isNone_some, Option.isNone_none, hlt]; intro _ _) | ((with_reducible (first | refine w5 ?_ ?_ | refine w6 ?_ ?_ | refine w7 ?_ ?_)); simp; refine ⟨_, rfl, ?_⟩) | ((with_reducible (first | refine w8 ?_ ?_ ?_ | refine w9 ?_ ?_ ?_ | refine w10 ?_ ?_ ?_)); exact rfl; simp) | ((with_reducible refine w12 ?_ ?_ ?_ fun _ _ => ?_); simp; simp; simp [oneC]) | ((with_reducible (first | refine eqs ?_ | refine nes ?_)); refine ⟨_, rfl, ?_⟩) | ((refine okF_i (bldP_eq rfl) ?_); try simp only [BLS, List.take_succ_cons, List.take_zero, List.drop_succ_cons, List.drop_zero, List.cons_append, List.nil_append, Nat.reduceAdd])) | simp -implicitDefEqProofs only [EN, lsub, lget, stL, beq_self_eq_true, ne_eq, if_true, if_false, List.cons_append, List.nil_append, Option.isNone_some, Option.isNone_none, hlt]))
      exact hend _ (by first | assumption | exact St.tick (by assumption) | exact St.tick (St.tick (by assumption))) (by omega)
end
end Go.Proofs.Ythladblmjoaeoaa
namespace Go.Proofs.Ythladblmjoaeoaa
set_option linter.unusedVariables false
set_option linter.unusedSimpArgs false
open Go Go.Eng

theorem totR_take (rows : List RB) {i : Nat} (hi : i < rows.length) : totR ((rows.take (i + 1)).map RB.val) = totR ((rows.take i).map RB.val) + rows[i].b.bs.length := by
  rw [List.take_succ_eq_append_getElem hi, List.map_append, totR_app]; simp [totR, RB.val]
theorem totR_le (rows : List RB) (i : Nat) : totR ((rows.take i).map RB.val) ≤ totR (rows.map RB.val) := by
  conv => rhs; rw [← List.take_append_drop i rows, List.map_append, totR_app]
  omega
theorem contR_take (rows : List RB) {i : Nat} (f : Int) (hi : i < rows.length) : contR ((rows.take (i + 1)).map RB.val) f = contR ((rows.take i).map RB.val) f ++ (if rows[i].file = f then rows[i].b.bs else []) := by
  rw [List.take_succ_eq_append_getElem hi, List.map_append, contR_app]; simp [contR, RB.val]
theorem contR_le (l : List RW) (f : Int) : (contR l f).length ≤ totR l := by
  have := totR_drop f l; omega
theorem many_end {L : List Asn} (l : List BSl) (x : BSl) : ent (fch x :: many fch l :: L) (many fch (l ++ [x]) :: L) :=
  (many_uncons x l).trans (many_perm (by simpa using (List.perm_append_comm (l₁ := [x]) (l₂ := l))))
section
variable {W0 W : World} {L L' : List Asn} {q : Nat} {r : RD}
set_option maxRecDepth 100000 in
set_option maxHeartbeats 4000000 in
theorem refAppend {f : Int} {a : Option Addr} {c : Nat} {bs : List UInt8} {k : Value → World → Prop} (h : St W0 L W) [ht : Tk (rk q) L r L'] [hr : Rd W0 L' a B8 bs] (hT : totR r.w ≤ 1048576) (hn : r.w.length < 1000000) (hb : bs.length < 16777216)
    (hk : ∀ W', St W0 (rk q (r.append f bs).1 :: L') W' → k (.int .i64 (r.append f bs).2) W') : callK PR F_rostrumref5_Disk_Append [.pointer (some ⟨q, 0, none⟩), .int .i64 f, .slice a bs.length c] k W := by
  apply S.rostrumref5_Disk_Append.call
  unfold S.rostrumref5_Disk_Append.body
  refine refAsk (f := f) h fun W1 h => ?_
  unfold RD.append at hk
  by_cases ha : r.ask f ≠ 0 ∧ r.ask f ≠ 4
  · rw [if_pos ha] at hk
    have e1 : decide (r.ask f = 0) = false := decide_eq_false ha.1
    have e2 : decide (r.ask f = 4) = false := decide_eq_false ha.2
    (repeat (first | (first | (with_reducible (first | refine w1 fun _ _ => ?_ | refine w3 fun _ _ _ => ?_ | refine w4 fun _ _ _ => ?_ | refine w11 fun _ _ _ => ?_ | refine stb_n ?_)) | ((with_reducible refine w2 ?_); try simp -implicitDefEqProofs only [EN, lsub, lget, stL, beq_self_eq_true, ne_eq, if_true, if_false, List.cons_append, List.nil_append, Option.isNone_some, Option.isNone_none, e1, e2]; intro _ _) | ((with_reducible (first | refine w5 ?_ ?_ | refine w6 ?_ ?_ | refine w7 ?_ ?_)); simp; refine ⟨_, rfl, ?_⟩) | ((with_reducible (first | refine w8 ?_ ?_ ?_ | refine w9 ?_ ?_ ?_ | refine w10 ?_ ?_ ?_)); exact rfl; simp) | ((with_reducible refine w12 ?_ ?_ ?_ fun _ _ => ?_); simp; simp; simp [oneC]) | ((with_reducible (first | refine eqs ?_ | refine nes ?_)); refine ⟨_, rfl, ?_⟩) | ((refine okF_i (bldP_eq rfl) ?_); try simp only [BLS, List.take_succ_cons, List.take_zero, List.drop_succ_cons, List.drop_zero, List.cons_append, List.nil_append, Nat.reduceAdd])) | simp -implicitDefEqProofs only [EN, lsub, lget, stL, beq_self_eq_true, ne_eq, if_true, if_false, List.cons_append, List.nil_append, Option.isNone_some, Option.isNone_none, e1, e2]))
    exact hk _ h
  rw [if_neg ha] at hk
  have hf : 0 ≤ f ∧ f < 1000 := by
    unfold RD.ask at ha
    by_cases h1 : r.off = true
    · rw [if_pos h1] at ha; simp at ha
    · rw [if_neg h1] at ha
      by_cases h2 : f < 0 ∨ 999 < f
      · rw [if_pos h2] at ha; simp at ha
      · omega
  obtain ⟨wa, wc, rows, hw, hl, h⟩ := rk_at h
  have hrl : rows.length = r.w.length := by rw [← hw, List.length_map]
  have hmid : ∀ W', St W0 (cells q (rdc r (.slice wa rows.length wc)) T_rostrumref5_Disk :: arr RBL T_rostrumref5_write wa wc rows :: many fch (rows.map (·.b)) :: L') W' →
      joinK (fun s W => S.rostrumref5_Disk_Append.j1 k (nthv s 0) (nthv s 1) (nthv s 2) (nthv s 3) W) (fun J1 =>
      loopK (fun K1 s W => S.rostrumref5_Disk_Append.l1 J1 K1 (nthv s 0) (nthv s 1) (nthv s 2) (nthv s 3) (nthv s 4) W) [.pointer (some ⟨q, 0, none⟩), .int .i64 f, .slice a bs.length c, .int .i64 bs.length, (.int .i64 0)] W') := by
    intro W' h
    refine joinK_i ?_
    refine loop_c (σ := Unit) rows.length (fun i _ => [.pointer (some ⟨q, 0, none⟩), .int .i64 f, .slice a bs.length c, .int .i64 ((bs.length : Int) + (totR ((rows.take i).map RB.val) : Nat)), .int .i64 i])
      (fun i _ W1 => St W0 (cells q (rdc r (.slice wa rows.length wc)) T_rostrumref5_Disk :: arr RBL T_rostrumref5_write wa wc rows :: many fch (rows.map (·.b)) :: L') W1) () (by simp [totR]) h ?_
    clear h
    rintro K i _ W2 hi h hK
    simp -implicitDefEqProofs only [EN, lsub, lget, stL, beq_self_eq_true, ne_eq, if_true, if_false, List.cons_append, List.nil_append, Option.isNone_some, Option.isNone_none]
    unfold S.rostrumref5_Disk_Append.l1
    have hle := totR_le rows i
    rw [hw] at hle
    (repeat (first | (first | (with_reducible (first | refine w1 fun _ _ => ?_ | refine w3 fun _ _ _ => ?_ | refine w4 fun _ _ _ => ?_ | refine w11 fun _ _ _ => ?_ | refine stb_n ?_)) | ((with_reducible refine w2 ?_); try simp -implicitDefEqProofs only [EN, lsub, lget, stL, beq_self_eq_true, ne_eq, if_true, if_false, List.cons_append, List.nil_append, Option.isNone_some, Option.isNone_none]; intro _ _) | ((with_reducible (first | refine w5 ?_ ?_ | refine w6 ?_ ?_ | refine w7 ?_ ?_)); simp; refine ⟨_, rfl, ?_⟩) | ((with_reducible (first | refine w8 ?_ ?_ ?_ | refine w9 ?_ ?_ ?_ | refine w10 ?_ ?_ ?_)); exact rfl; simp) | ((with_reducible refine w12 ?_ ?_ ?_ fun _ _ => ?_); simp; simp; simp [oneC]) | ((with_reducible (first | refine eqs ?_ | refine nes ?_)); refine ⟨_, rfl, ?_⟩) | ((refine okF_i (bldP_eq rfl) ?_); try simp only [BLS, List.take_succ_cons, List.take_zero, List.drop_succ_cons, List.drop_zero, List.cons_append, List.nil_append, Nat.reduceAdd])) | simp -implicitDefEqProofs only [EN, lsub, lget, stL, beq_self_eq_true, ne_eq, if_true, if_false, List.cons_append, List.nil_append, Option.isNone_some, Option.isNone_none]))
    refine ld (b := q) (v := .slice wa rows.length wc) (by first | assumption | exact St.tick (by assumption) | exact St.tick (St.tick (by assumption))) (rdc_w hl) (by simp) ?_
    by_cases hlt : (i : Int) < (rows.length : Int)
    · have hib : i < rows.length := by omega
      have ew : IntKind.i64.wrap ((i : Int) + 1) = ((i + 1 : Nat) : Int) := by rw [i64w]; omega
      have hst := totR_take rows hib
      have hle2 := totR_le rows (i + 1)
      rw [hw] at hle2
      have es : IntKind.i64.wrap ((bs.length : Int) + (totR ((rows.take i).map RB.val) : Nat) + (rows[i].b.bs.length : Nat)) = (bs.length : Int) + (totR ((rows.take (i + 1)).map RB.val) : Nat) := by rw [i64w, hst]; omega
      (repeat (first | (first | (with_reducible (first | refine w1 fun _ _ => ?_ | refine w3 fun _ _ _ => ?_ | refine w4 fun _ _ _ => ?_ | refine w11 fun _ _ _ => ?_ | refine stb_n ?_)) | ((with_reducible refine w2 ?_); try simp -implicitDefEqProofs only [EN, lsub, lget, stL, beq_self_eq_true, ne_eq, if_true, if_false, List.cons_append, List.nil_append, Option.isNone_some, Option.isNone_none, hlt]; intro _ _) | ((with_reducible (first | refine w5 ?_ ?_ | refine w6 ?_ ?_ | refine w7 ?_ ?_)); simp; refine ⟨_, rfl, ?_⟩) | ((with_reducible (first | refine w8 ?_ ?_ ?_ | refine w9 ?_ ?_ ?_ | refine w10 ?_ ?_ ?_)); exact rfl; simp) | ((with_reducible refine w12 ?_ ?_ ?_ fun _ _ => ?_); simp; simp; simp [oneC]) | ((with_reducible (first | refine eqs ?_ | refine nes ?_)); refine ⟨_, rfl, ?_⟩) | ((refine okF_i (bldP_eq rfl) ?_); try simp only [BLS, List.take_succ_cons, List.take_zero, List.drop_succ_cons, List.drop_zero, List.cons_append, List.nil_append, Nat.reduceAdd])) | simp -implicitDefEqProofs only [EN, lsub, lget, stL, beq_self_eq_true, ne_eq, if_true, if_false, List.cons_append, List.nil_append, Option.isNone_some, Option.isNone_none, hlt]))
      refine ld (b := q) (v := .slice wa rows.length wc) (by first | assumption | exact St.tick (by assumption) | exact St.tick (St.tick (by assumption))) (rdc_w hl) (by simp) ?_
      obtain ⟨g, o, rfl, _⟩ := Rd.at (A := RBL) (l := rows) (a := wa) h (by intro e; rw [e] at hib; simp at hib)
      have ei : idxS 3 (.slice (some ⟨g, o, none⟩) rows.length wc) (.int .i64 (i : Int)) = some (.pointer (some ⟨g, o + i * 3, none⟩)) := by rw [idxS_blk (by omega) (by omega), Int.toNat_natCast]
      (repeat (first | (first | (with_reducible (first | refine w1 fun _ _ => ?_ | refine w3 fun _ _ _ => ?_ | refine w4 fun _ _ _ => ?_ | refine w11 fun _ _ _ => ?_ | refine stb_n ?_)) | ((with_reducible refine w2 ?_); try simp -implicitDefEqProofs only [EN, lsub, lget, stL, beq_self_eq_true, ne_eq, if_true, if_false, List.cons_append, List.nil_append, Option.isNone_some, Option.isNone_none, ei]; intro _ _) | ((with_reducible (first | refine w5 ?_ ?_ | refine w6 ?_ ?_ | refine w7 ?_ ?_)); simp; refine ⟨_, rfl, ?_⟩) | ((with_reducible (first | refine w8 ?_ ?_ ?_ | refine w9 ?_ ?_ ?_ | refine w10 ?_ ?_ ?_)); exact rfl; simp) | ((with_reducible refine w12 ?_ ?_ ?_ fun _ _ => ?_); simp; simp; simp [oneC]) | ((with_reducible (first | refine eqs ?_ | refine nes ?_)); refine ⟨_, rfl, ?_⟩) | ((refine okF_i (bldP_eq rfl) ?_); try simp only [BLS, List.take_succ_cons, List.take_zero, List.drop_succ_cons, List.drop_zero, List.cons_append, List.nil_append, Nat.reduceAdd])) | simp -implicitDefEqProofs only [EN, lsub, lget, stL, beq_self_eq_true, ne_eq, if_true, if_false, List.cons_append, List.nil_append, Option.isNone_some, Option.isNone_none, ei]))
      refine ldA (i := i) (j := 1) (l := rows) (A := RBL) (by first | assumption | exact St.tick (by assumption) | exact St.tick (St.tick (by assumption))) rfl hib (v := .slice rows[i].b.a rows[i].b.bs.length rows[i].b.c) rfl (by simp) ?_
      (repeat (first | (first | (with_reducible (first | refine w1 fun _ _ => ?_ | refine w3 fun _ _ _ => ?_ | refine w4 fun _ _ _ => ?_ | refine w11 fun _ _ _ => ?_ | refine stb_n ?_)) | ((with_reducible refine w2 ?_); try simp -implicitDefEqProofs only [EN, lsub, lget, stL, beq_self_eq_true, ne_eq, if_true, if_false, List.cons_append, List.nil_append, Option.isNone_some, Option.isNone_none, es, ew]; intro _ _) | ((with_reducible (first | refine w5 ?_ ?_ | refine w6 ?_ ?_ | refine w7 ?_ ?_)); simp; refine ⟨_, rfl, ?_⟩) | ((with_reducible (first | refine w8 ?_ ?_ ?_ | refine w9 ?_ ?_ ?_ | refine w10 ?_ ?_ ?_)); exact rfl; simp) | ((with_reducible refine w12 ?_ ?_ ?_ fun _ _ => ?_); simp; simp; simp [oneC]) | ((with_reducible (first | refine eqs ?_ | refine nes ?_)); refine ⟨_, rfl, ?_⟩) | ((refine okF_i (bldP_eq rfl) ?_); try simp only [BLS, List.take_succ_cons, List.take_zero, List.drop_succ_cons, List.drop_zero, List.cons_append, List.nil_append, Nat.reduceAdd])) | simp -implicitDefEqProofs only [EN, lsub, lget, stL, beq_self_eq_true, ne_eq, if_true, if_false, List.cons_append, List.nil_append, Option.isNone_some, Option.isNone_none, es, ew]))
      exact hK () _ hib (by first | assumption | exact St.tick (by assumption) | exact St.tick (St.tick (by assumption)))
    · clear hK
      have hil : i = rows.length := by omega
      subst hil
      rw [List.take_length, hw]
      (repeat (first | (first | (with_reducible (first | refine w1 fun _ _ => ?_ | refine w3 fun _ _ _ => ?_ | refine w4 fun _ _ _ => ?_ | refine w11 fun _ _ _ => ?_ | refine stb_n ?_)) | ((with_reducible refine w2 ?_); try simp -implicitDefEqProofs only [EN, lsub, lget, stL, beq_self_eq_true, ne_eq, if_true, if_false, List.cons_append, List.nil_append, Option.isNone_some, Option.isNone_none, hlt]; intro _ _) | ((with_reducible (first | refine w5 ?_ ?_ | refine w6 ?_ ?_ | refine w7 ?_ ?_)); simp; refine ⟨_, rfl, ?_⟩) | ((with_reducible (first | refine w8 ?_ ?_ ?_ | refine w9 ?_ ?_ ?_ | refine w10 ?_ ?_ ?_)); exact rfl; simp) | ((with_reducible refine w12 ?_ ?_ ?_ fun _ _ => ?_); simp; simp; simp [oneC]) | ((with_reducible (first | refine eqs ?_ | refine nes ?_)); refine ⟨_, rfl, ?_⟩) | ((refine okF_i (bldP_eq rfl) ?_); try simp only [BLS, List.take_succ_cons, List.take_zero, List.drop_succ_cons, List.drop_zero, List.cons_append, List.nil_append, Nat.reduceAdd])) | simp -implicitDefEqProofs only [EN, lsub, lget, stL, beq_self_eq_true, ne_eq, if_true, if_false, List.cons_append, List.nil_append, Option.isNone_some, Option.isNone_none, hlt]))
      unfold S.rostrumref5_Disk_Append.j1
      (repeat (first | (first | (with_reducible (first | refine w1 fun _ _ => ?_ | refine w3 fun _ _ _ => ?_ | refine w4 fun _ _ _ => ?_ | refine w11 fun _ _ _ => ?_ | refine stb_n ?_)) | ((with_reducible refine w2 ?_); try simp -implicitDefEqProofs only [EN, lsub, lget, stL, beq_self_eq_true, ne_eq, if_true, if_false, List.cons_append, List.nil_append, Option.isNone_some, Option.isNone_none]; intro _ _) | ((with_reducible (first | refine w5 ?_ ?_ | refine w6 ?_ ?_ | refine w7 ?_ ?_)); simp; refine ⟨_, rfl, ?_⟩) | ((with_reducible (first | refine w8 ?_ ?_ ?_ | refine w9 ?_ ?_ ?_ | refine w10 ?_ ?_ ?_)); exact rfl; simp) | ((with_reducible refine w12 ?_ ?_ ?_ fun _ _ => ?_); simp; simp; simp [oneC]) | ((with_reducible (first | refine eqs ?_ | refine nes ?_)); refine ⟨_, rfl, ?_⟩) | ((refine okF_i (bldP_eq rfl) ?_); try simp only [BLS, List.take_succ_cons, List.take_zero, List.drop_succ_cons, List.drop_zero, List.cons_append, List.nil_append, Nat.reduceAdd])) | simp -implicitDefEqProofs only [EN, lsub, lget, stL, beq_self_eq_true, ne_eq, if_true, if_false, List.cons_append, List.nil_append, Option.isNone_some, Option.isNone_none]))
      refine ld (b := q) (v := .int .i64 r.room) (by first | assumption | exact St.tick (by assumption) | exact St.tick (St.tick (by assumption))) rdc_room (by simp) ?_
      by_cases hfull : r.room < (bs.length : Int) + (totR r.w : Nat)
      · rw [if_pos hfull] at hk
        (repeat (first | (first | (with_reducible (first | refine w1 fun _ _ => ?_ | refine w3 fun _ _ _ => ?_ | refine w4 fun _ _ _ => ?_ | refine w11 fun _ _ _ => ?_ | refine stb_n ?_)) | ((with_reducible refine w2 ?_); try simp -implicitDefEqProofs only [EN, lsub, lget, stL, beq_self_eq_true, ne_eq, if_true, if_false, List.cons_append, List.nil_append, Option.isNone_some, Option.isNone_none, hfull]; intro _ _) | ((with_reducible (first | refine w5 ?_ ?_ | refine w6 ?_ ?_ | refine w7 ?_ ?_)); simp; refine ⟨_, rfl, ?_⟩) | ((with_reducible (first | refine w8 ?_ ?_ ?_ | refine w9 ?_ ?_ ?_ | refine w10 ?_ ?_ ?_)); exact rfl; simp) | ((with_reducible refine w12 ?_ ?_ ?_ fun _ _ => ?_); simp; simp; simp [oneC]) | ((with_reducible (first | refine eqs ?_ | refine nes ?_)); refine ⟨_, rfl, ?_⟩) | ((refine okF_i (bldP_eq rfl) ?_); try simp only [BLS, List.take_succ_cons, List.take_zero, List.drop_succ_cons, List.drop_zero, List.cons_append, List.nil_append, Nat.reduceAdd])) | simp -implicitDefEqProofs only [EN, lsub, lget, stL, beq_self_eq_true, ne_eq, if_true, if_false, List.cons_append, List.nil_append, Option.isNone_some, Option.isNone_none, hfull]))
        exact hk _ (St.ent (by first | assumption | exact St.tick (by assumption) | exact St.tick (St.tick (by assumption))) (rk_ent hw hl))
      · rw [if_neg hfull] at hk
        have eia := idxA_blk (len := 1000) (sz := 1) (b := q) (o := 1) (k := .i64) (i := f) (by omega) (by omega)
        rw [Nat.mul_one] at eia
        have hl2 : (r.is.set f.toNat true).length = 1000 := by simp [hl]
        (repeat (first | (first | (with_reducible (first | refine w1 fun _ _ => ?_ | refine w3 fun _ _ _ => ?_ | refine w4 fun _ _ _ => ?_ | refine w11 fun _ _ _ => ?_ | refine stb_n ?_)) | ((with_reducible refine w2 ?_); try simp -implicitDefEqProofs only [EN, lsub, lget, stL, beq_self_eq_true, ne_eq, if_true, if_false, List.cons_append, List.nil_append, Option.isNone_some, Option.isNone_none, hfull, eia]; intro _ _) | ((with_reducible (first | refine w5 ?_ ?_ | refine w6 ?_ ?_ | refine w7 ?_ ?_)); simp; refine ⟨_, rfl, ?_⟩) | ((with_reducible (first | refine w8 ?_ ?_ ?_ | refine w9 ?_ ?_ ?_ | refine w10 ?_ ?_ ?_)); exact rfl; simp) | ((with_reducible refine w12 ?_ ?_ ?_ fun _ _ => ?_); simp; simp; simp [oneC]) | ((with_reducible (first | refine eqs ?_ | refine nes ?_)); refine ⟨_, rfl, ?_⟩) | ((refine okF_i (bldP_eq rfl) ?_); try simp only [BLS, List.take_succ_cons, List.take_zero, List.drop_succ_cons, List.drop_zero, List.cons_append, List.nil_append, Nat.reduceAdd])) | simp -implicitDefEqProofs only [EN, lsub, lget, stL, beq_self_eq_true, ne_eq, if_true, if_false, List.cons_append, List.nil_append, Option.isNone_some, Option.isNone_none, hfull, eia]))
        refine sto (b := q) (cs := rdc r (.slice wa rows.length wc)) (by first | assumption | exact St.tick (by assumption) | exact St.tick (St.tick (by assumption))) rfl (by rw [rdc_len hl]; show 1 + f.toNat + 1 ≤ 1004; omega) rfl fun W3 h => ?_
        rw [show vcells (.bool true) = [.bool true] from rfl, rdc_setis hl (by omega)] at h
        refine bs0 RBL h fun a1 c1 W4 h => ?_
        (repeat (first | (first | (with_reducible (first | refine w1 fun _ _ => ?_ | refine w3 fun _ _ _ => ?_ | refine w4 fun _ _ _ => ?_ | refine w11 fun _ _ _ => ?_ | refine stb_n ?_)) | ((with_reducible refine w2 ?_); try simp -implicitDefEqProofs only [EN, lsub, lget, stL, beq_self_eq_true, ne_eq, if_true, if_false, List.cons_append, List.nil_append, Option.isNone_some, Option.isNone_none]; intro _ _) | ((with_reducible (first | refine w5 ?_ ?_ | refine w6 ?_ ?_ | refine w7 ?_ ?_)); simp; refine ⟨_, rfl, ?_⟩) | ((with_reducible (first | refine w8 ?_ ?_ ?_ | refine w9 ?_ ?_ ?_ | refine w10 ?_ ?_ ?_)); exact rfl; simp) | ((with_reducible refine w12 ?_ ?_ ?_ fun _ _ => ?_); simp; simp; simp [oneC]) | ((with_reducible (first | refine eqs ?_ | refine nes ?_)); refine ⟨_, rfl, ?_⟩) | ((refine okF_i (bldP_eq rfl) ?_); try simp only [BLS, List.take_succ_cons, List.take_zero, List.drop_succ_cons, List.drop_zero, List.cons_append, List.nil_append, Nat.reduceAdd])) | simp -implicitDefEqProofs only [EN, lsub, lget, stL, beq_self_eq_true, ne_eq, if_true, if_false, List.cons_append, List.nil_append, Option.isNone_some, Option.isNone_none]))
        refine ld (b := q) (v := .slice wa rows.length wc) (by first | assumption | exact St.tick (by assumption) | exact St.tick (St.tick (by assumption))) (rdc_w (r := { r with is := r.is.set f.toNat true }) hl2) (by simp) ?_
        refine appA (a := a1) (l := []) (m := rows) h rfl (by simp only [List.length_nil]; omega) (by simp only [List.length_nil, maxLen]; omega) fun a2 c2 W5 h => ?_
        rw [List.nil_append] at h ⊢
        refine bs0 B8 h fun a3 c3 W6 h => ?_
        have hr2 : Rd W0 (arr B8 T_uint8 a3 c3 [] :: arr RBL T_rostrumref5_write a2 c2 rows :: cells q (rdc { r with is := r.is.set f.toNat true } (.slice wa rows.length wc)) T_rostrumref5_Disk :: arr RBL T_rostrumref5_write wa wc rows :: many fch (rows.map (·.b)) :: L') a B8 bs := inferInstance
        refine appA (a := a3) (l := []) (m := bs) h rfl (by simp only [List.length_nil]; omega) (by simp only [List.length_nil, maxLen]; omega) fun a4 c4 W7 h => ?_
        rw [List.nil_append] at h ⊢
        (repeat (first | (first | (with_reducible (first | refine w1 fun _ _ => ?_ | refine w3 fun _ _ _ => ?_ | refine w4 fun _ _ _ => ?_ | refine w11 fun _ _ _ => ?_ | refine stb_n ?_)) | ((with_reducible refine w2 ?_); try simp -implicitDefEqProofs only [EN, lsub, lget, stL, beq_self_eq_true, ne_eq, if_true, if_false, List.cons_append, List.nil_append, Option.isNone_some, Option.isNone_none]; intro _ _) | ((with_reducible (first | refine w5 ?_ ?_ | refine w6 ?_ ?_ | refine w7 ?_ ?_)); simp; refine ⟨_, rfl, ?_⟩) | ((with_reducible (first | refine w8 ?_ ?_ ?_ | refine w9 ?_ ?_ ?_ | refine w10 ?_ ?_ ?_)); exact rfl; simp) | ((with_reducible refine w12 ?_ ?_ ?_ fun _ _ => ?_); simp; simp; simp [oneC]) | ((with_reducible (first | refine eqs ?_ | refine nes ?_)); refine ⟨_, rfl, ?_⟩) | ((refine okF_i (bldP_eq rfl) ?_); try simp only [BLS, List.take_succ_cons, List.take_zero, List.drop_succ_cons, List.drop_zero, List.cons_append, List.nil_append, Nat.reduceAdd])) | simp -implicitDefEqProofs only [EN, lsub, lget, stL, beq_self_eq_true, ne_eq, if_true, if_false, List.cons_append, List.nil_append, Option.isNone_some, Option.isNone_none]))
        refine pushA (A := RBL) (⟨f, ⟨a4, c4, bs⟩, false⟩ : RB) (l := rows) (by first | assumption | exact St.tick (by assumption) | exact St.tick (St.tick (by assumption))) rfl rfl (by omega) (by simp only [maxLen]; omega) (by decide) fun a5 c5 W8 h => ?_
        (repeat (first | (first | (with_reducible (first | refine w1 fun _ _ => ?_ | refine w3 fun _ _ _ => ?_ | refine w4 fun _ _ _ => ?_ | refine w11 fun _ _ _ => ?_ | refine stb_n ?_)) | ((with_reducible refine w2 ?_); try simp -implicitDefEqProofs only [EN, lsub, lget, stL, beq_self_eq_true, ne_eq, if_true, if_false, List.cons_append, List.nil_append, Option.isNone_some, Option.isNone_none]; intro _ _) | ((with_reducible (first | refine w5 ?_ ?_ | refine w6 ?_ ?_ | refine w7 ?_ ?_)); simp; refine ⟨_, rfl, ?_⟩) | ((with_reducible (first | refine w8 ?_ ?_ ?_ | refine w9 ?_ ?_ ?_ | refine w10 ?_ ?_ ?_)); exact rfl; simp) | ((with_reducible refine w12 ?_ ?_ ?_ fun _ _ => ?_); simp; simp; simp [oneC]) | ((with_reducible (first | refine eqs ?_ | refine nes ?_)); refine ⟨_, rfl, ?_⟩) | ((refine okF_i (bldP_eq rfl) ?_); try simp only [BLS, List.take_succ_cons, List.take_zero, List.drop_succ_cons, List.drop_zero, List.cons_append, List.nil_append, Nat.reduceAdd])) | simp -implicitDefEqProofs only [EN, lsub, lget, stL, beq_self_eq_true, ne_eq, if_true, if_false, List.cons_append, List.nil_append, Option.isNone_some, Option.isNone_none]))
        refine sto (b := q) (cs := rdc { r with is := r.is.set f.toNat true } (.slice wa rows.length wc)) (by first | assumption | exact St.tick (by assumption) | exact St.tick (St.tick (by assumption))) rfl (by rw [rdc_len (r := { r with is := r.is.set f.toNat true }) hl2]; exact (by decide : 1001 + 1 ≤ 1004)) rfl fun W9 h => ?_
        rw [show vcells (.slice a5 (rows ++ [(⟨f, ⟨a4, c4, bs⟩, false⟩ : RB)]).length c5) = [.slice a5 (rows ++ [(⟨f, ⟨a4, c4, bs⟩, false⟩ : RB)]).length c5] from rfl, rdc_setw (r := { r with is := r.is.set f.toNat true }) hl2] at h
        have h : St W0 (fch ⟨a4, c4, bs⟩ :: many fch (rows.map (fun x : RB => x.b)) :: cells q (rdc { r with is := r.is.set f.toNat true } (.slice a5 (rows ++ [(⟨f, ⟨a4, c4, bs⟩, false⟩ : RB)]).length c5)) T_rostrumref5_Disk :: arr RBL T_rostrumref5_write a5 c5 (rows ++ [⟨f, ⟨a4, c4, bs⟩, false⟩]) :: L') W9 := St.wk h
        have h := h.ent (many_end _ _)
        have e5 : rows.map (fun x : RB => x.b) ++ [⟨a4, c4, bs⟩] = (rows ++ [(⟨f, ⟨a4, c4, bs⟩, false⟩ : RB)]).map (fun x : RB => x.b) := by simp
        rw [e5] at h
        have h := St.perm h ((List.Perm.swap _ _ _).trans ((List.Perm.swap _ _ _).cons _))
        have e6 : ∀ v, rdc { r with is := r.is.set f.toNat true } v = rdc { r with is := r.is.set f.toNat true, w := r.w ++ [⟨f, bs, false⟩] } v := fun v => by unfold rdc; rfl
        rw [e6] at h
        refine hk _ (St.ent h (rk_ent (r := { r with is := r.is.set f.toNat true, w := r.w ++ [⟨f, bs, false⟩] }) ?_ hl2))
        rw [List.map_append, hw]; rfl
  have hmid := hmid _ h
  by_cases h0 : r.ask f = 0
  · have e1 := decide_eq_true h0
    (repeat (first | (first | (with_reducible (first | refine w1 fun _ _ => ?_ | refine w3 fun _ _ _ => ?_ | refine w4 fun _ _ _ => ?_ | refine w11 fun _ _ _ => ?_ | refine stb_n ?_)) | ((with_reducible refine w2 ?_); try simp -implicitDefEqProofs only [EN, lsub, lget, stL, beq_self_eq_true, ne_eq, if_true, if_false, List.cons_append, List.nil_append, Option.isNone_some, Option.isNone_none, e1]; intro _ _) | ((with_reducible (first | refine w5 ?_ ?_ | refine w6 ?_ ?_ | refine w7 ?_ ?_)); simp; refine ⟨_, rfl, ?_⟩) | ((with_reducible (first | refine w8 ?_ ?_ ?_ | refine w9 ?_ ?_ ?_ | refine w10 ?_ ?_ ?_)); exact rfl; simp) | ((with_reducible refine w12 ?_ ?_ ?_ fun _ _ => ?_); simp; simp; simp [oneC]) | ((with_reducible (first | refine eqs ?_ | refine nes ?_)); refine ⟨_, rfl, ?_⟩) | ((refine okF_i (bldP_eq rfl) ?_); try simp only [BLS, List.take_succ_cons, List.take_zero, List.drop_succ_cons, List.drop_zero, List.cons_append, List.nil_append, Nat.reduceAdd])) | simp -implicitDefEqProofs only [EN, lsub, lget, stL, beq_self_eq_true, ne_eq, if_true, if_false, List.cons_append, List.nil_append, Option.isNone_some, Option.isNone_none, e1]))
    exact hmid
  · have h4 : r.ask f = 4 := Classical.byContradiction fun e => ha ⟨h0, e⟩
    have e1 := decide_eq_false h0
    have e2 := decide_eq_true h4
    (repeat (first | (first | (with_reducible (first | refine w1 fun _ _ => ?_ | refine w3 fun _ _ _ => ?_ | refine w4 fun _ _ _ => ?_ | refine w11 fun _ _ _ => ?_ | refine stb_n ?_)) | ((with_reducible refine w2 ?_); try simp -implicitDefEqProofs only [EN, lsub, lget, stL, beq_self_eq_true, ne_eq, if_true, if_false, List.cons_append, List.nil_append, Option.isNone_some, Option.isNone_none, e1, e2]; intro _ _) | ((with_reducible (first | refine w5 ?_ ?_ | refine w6 ?_ ?_ | refine w7 ?_ ?_)); simp; refine ⟨_, rfl, ?_⟩) | ((with_reducible (first | refine w8 ?_ ?_ ?_ | refine w9 ?_ ?_ ?_ | refine w10 ?_ ?_ ?_)); exact rfl; simp) | ((with_reducible refine w12 ?_ ?_ ?_ fun _ _ => ?_); simp; simp; simp [oneC]) | ((with_reducible (first | refine eqs ?_ | refine nes ?_)); refine ⟨_, rfl, ?_⟩) | ((refine okF_i (bldP_eq rfl) ?_); try simp only [BLS, List.take_succ_cons, List.take_zero, List.drop_succ_cons, List.drop_zero, List.cons_append, List.nil_append, Nat.reduceAdd])) | simp -implicitDefEqProofs only [EN, lsub, lget, stL, beq_self_eq_true, ne_eq, if_true, if_false, List.cons_append, List.nil_append, Option.isNone_some, Option.isNone_none, e1, e2]))
    exact hmid
theorem refRead {f : Int} {k : Value → World → Prop} (h : St W0 L W) [ht : Tk (rk q) L r L'] (hT : totR r.w ≤ 1048576) (hn : r.w.length < 1000000)
    (hk : ∀ a c W', St W0 (arr B8 T_uint8 a c (r.read f).1 :: rk q r :: L') W' → k (.tuple #[.slice a (r.read f).1.length c, .int .i64 (r.read f).2]) W') : callK PR F_rostrumref5_Disk_Read [.pointer (some ⟨q, 0, none⟩), .int .i64 f] k W := by
  apply S.rostrumref5_Disk_Read.call
  unfold S.rostrumref5_Disk_Read.body
  refine refAsk (f := f) h fun W1 h => ?_
  obtain ⟨wa, wc, rows, hw, hl, h⟩ := rk_at h
  have hrl : rows.length = r.w.length := by rw [← hw, List.length_map]
  refine joinK_i ?_
  refine loop_c (σ := Option Addr × Nat) (if r.ask f = 0 then rows.length else 0) (fun i y => [.pointer (some ⟨q, 0, none⟩), .int .i64 f, .int .i64 (r.ask f), .slice y.1 (contR ((rows.take i).map RB.val) f).length y.2, .int .i64 i])
    (fun i y W1 => St W0 (arr B8 T_uint8 y.1 y.2 (contR ((rows.take i).map RB.val) f) :: cells q (rdc r (.slice wa rows.length wc)) T_rostrumref5_Disk :: arr RBL T_rostrumref5_write wa wc rows :: many fch (rows.map (·.b)) :: L') W1) (none, 0) rfl (h.ent (arr_nil B8 T_uint8)) ?_
  clear h
  rintro K i ⟨a1, c1⟩ W2 hi h hK
  simp only at h
  simp -implicitDefEqProofs only [EN, lsub, lget, stL, beq_self_eq_true, ne_eq, if_true, if_false, List.cons_append, List.nil_append, Option.isNone_some, Option.isNone_none]
  unfold S.rostrumref5_Disk_Read.l1
  have hend : ∀ W', St W0 (arr B8 T_uint8 a1 c1 (contR ((rows.take i).map RB.val) f) :: cells q (rdc r (.slice wa rows.length wc)) T_rostrumref5_Disk :: arr RBL T_rostrumref5_write wa wc rows :: many fch (rows.map (·.b)) :: L') W' → i = (if r.ask f = 0 then rows.length else 0) → S.rostrumref5_Disk_Read.j1 k (.int .i64 (r.ask f)) (.slice a1 (contR ((rows.take i).map RB.val) f).length c1) W' := fun W' h e => by
    unfold S.rostrumref5_Disk_Read.j1
    have e2 : r.read f = (contR ((rows.take i).map RB.val) f, r.ask f) := by
      unfold RD.read
      by_cases ha : r.ask f = 0
      · rw [if_pos ha] at e ⊢
        rw [e, List.take_length, hw, ha]
      · rw [if_neg ha] at e ⊢
        rw [e]; rfl
    rw [e2] at hk
    exact hk _ _ _ (h.ent (ent.cons _ (rk_ent hw hl)))
  have hle := totR_le rows i
  have hle2 := contR_le ((rows.take i).map RB.val) f
  rw [hw] at hle
  (repeat (first | (first | (with_reducible (first | refine w1 fun _ _ => ?_ | refine w3 fun _ _ _ => ?_ | refine w4 fun _ _ _ => ?_ | refine w11 fun _ _ _ => ?_ | refine stb_n ?_)) | ((with_reducible refine w2 ?_); try simp -implicitDefEqProofs only [EN, lsub, lget, stL, beq_self_eq_true, ne_eq, if_true, if_false, List.cons_append, List.nil_append, Option.isNone_some, Option.isNone_none]; intro _ _) | ((with_reducible (first | refine w5 ?_ ?_ | refine w6 ?_ ?_ | refine w7 ?_ ?_)); simp; refine ⟨_, rfl, ?_⟩) | ((with_reducible (first | refine w8 ?_ ?_ ?_ | refine w9 ?_ ?_ ?_ | refine w10 ?_ ?_ ?_)); exact rfl; simp) | ((with_reducible refine w12 ?_ ?_ ?_ fun _ _ => ?_); simp; simp; simp [oneC]) | ((with_reducible (first | refine eqs ?_ | refine nes ?_)); refine ⟨_, rfl, ?_⟩) | ((refine okF_i (bldP_eq rfl) ?_); try simp only [BLS, List.take_succ_cons, List.take_zero, List.drop_succ_cons, List.drop_zero, List.cons_append, List.nil_append, Nat.reduceAdd])) | simp -implicitDefEqProofs only [EN, lsub, lget, stL, beq_self_eq_true, ne_eq, if_true, if_false, List.cons_append, List.nil_append, Option.isNone_some, Option.isNone_none]))
  refine ld (b := q) (v := .slice wa rows.length wc) (by first | assumption | exact St.tick (by assumption) | exact St.tick (St.tick (by assumption))) (rdc_w hl) (by simp) ?_
  by_cases hlt : (i : Int) < (rows.length : Int)
  · by_cases ha : r.ask f = 0
    · rw [if_pos ha] at hi hK
      have hib : i < rows.length := by omega
      have e1 := decide_eq_true ha
      have ew : IntKind.i64.wrap ((i : Int) + 1) = ((i + 1 : Nat) : Int) := by rw [i64w]; omega
      have hst := contR_take rows f hib
      have hle3 := totR_le rows (i + 1)
      rw [hw, totR_take rows hib] at hle3
      have hJ2 : ∀ a' c' W', St W0 (arr B8 T_uint8 a' c' (contR ((rows.take (i + 1)).map RB.val) f) :: cells q (rdc r (.slice wa rows.length wc)) T_rostrumref5_Disk :: arr RBL T_rostrumref5_write wa wc rows :: many fch (rows.map (·.b)) :: L') W' →
          S.rostrumref5_Disk_Read.j2 K (.pointer (some ⟨q, 0, none⟩)) (.int .i64 f) (.int .i64 (r.ask f)) (.slice a' (contR ((rows.take (i + 1)).map RB.val) f).length c') (.int .i64 i) W' := fun a' c' W' h => by
        unfold S.rostrumref5_Disk_Read.j2
        (repeat (first | (first | (with_reducible (first | refine w1 fun _ _ => ?_ | refine w3 fun _ _ _ => ?_ | refine w4 fun _ _ _ => ?_ | refine w11 fun _ _ _ => ?_ | refine stb_n ?_)) | ((with_reducible refine w2 ?_); try simp -implicitDefEqProofs only [EN, lsub, lget, stL, beq_self_eq_true, ne_eq, if_true, if_false, List.cons_append, List.nil_append, Option.isNone_some, Option.isNone_none, ew]; intro _ _) | ((with_reducible (first | refine w5 ?_ ?_ | refine w6 ?_ ?_ | refine w7 ?_ ?_)); simp; refine ⟨_, rfl, ?_⟩) | ((with_reducible (first | refine w8 ?_ ?_ ?_ | refine w9 ?_ ?_ ?_ | refine w10 ?_ ?_ ?_)); exact rfl; simp) | ((with_reducible refine w12 ?_ ?_ ?_ fun _ _ => ?_); simp; simp; simp [oneC]) | ((with_reducible (first | refine eqs ?_ | refine nes ?_)); refine ⟨_, rfl, ?_⟩) | ((refine okF_i (bldP_eq rfl) ?_); try simp only [BLS, List.take_succ_cons, List.take_zero, List.drop_succ_cons, List.drop_zero, List.cons_append, List.nil_append, Nat.reduceAdd])) | simp -implicitDefEqProofs only [EN, lsub, lget, stL, beq_self_eq_true, ne_eq, if_true, if_false, List.cons_append, List.nil_append, Option.isNone_some, Option.isNone_none, ew]))
        exact hK (a', c') _ hib h
      clear hK hend
      rw [hst] at hJ2
      obtain ⟨g, o, rfl, _⟩ := Rd.at (A := RBL) (l := rows) (a := wa) h (by intro e; rw [e] at hib; simp at hib)
      have ei : idxS 3 (.slice (some ⟨g, o, none⟩) rows.length wc) (.int .i64 (i : Int)) = some (.pointer (some ⟨g, o + i * 3, none⟩)) := by rw [idxS_blk (by omega) (by omega), Int.toNat_natCast]
      (repeat (first | (first | (with_reducible (first | refine w1 fun _ _ => ?_ | refine w3 fun _ _ _ => ?_ | refine w4 fun _ _ _ => ?_ | refine w11 fun _ _ _ => ?_ | refine stb_n ?_)) | ((with_reducible refine w2 ?_); try simp -implicitDefEqProofs only [EN, lsub, lget, stL, beq_self_eq_true, ne_eq, if_true, if_false, List.cons_append, List.nil_append, Option.isNone_some, Option.isNone_none, hlt, e1]; intro _ _) | ((with_reducible (first | refine w5 ?_ ?_ | refine w6 ?_ ?_ | refine w7 ?_ ?_)); simp; refine ⟨_, rfl, ?_⟩) | ((with_reducible (first | refine w8 ?_ ?_ ?_ | refine w9 ?_ ?_ ?_ | refine w10 ?_ ?_ ?_)); exact rfl; simp) | ((with_reducible refine w12 ?_ ?_ ?_ fun _ _ => ?_); simp; simp; simp [oneC]) | ((with_reducible (first | refine eqs ?_ | refine nes ?_)); refine ⟨_, rfl, ?_⟩) | ((refine okF_i (bldP_eq rfl) ?_); try simp only [BLS, List.take_succ_cons, List.take_zero, List.drop_succ_cons, List.drop_zero, List.cons_append, List.nil_append, Nat.reduceAdd])) | simp -implicitDefEqProofs only [EN, lsub, lget, stL, beq_self_eq_true, ne_eq, if_true, if_false, List.cons_append, List.nil_append, Option.isNone_some, Option.isNone_none, hlt, e1]))
      refine joinK_i ?_
      (repeat (first | (first | (with_reducible (first | refine w1 fun _ _ => ?_ | refine w3 fun _ _ _ => ?_ | refine w4 fun _ _ _ => ?_ | refine w11 fun _ _ _ => ?_ | refine stb_n ?_)) | ((with_reducible refine w2 ?_); try simp -implicitDefEqProofs only [EN, lsub, lget, stL, beq_self_eq_true, ne_eq, if_true, if_false, List.cons_append, List.nil_append, Option.isNone_some, Option.isNone_none]; intro _ _) | ((with_reducible (first | refine w5 ?_ ?_ | refine w6 ?_ ?_ | refine w7 ?_ ?_)); simp; refine ⟨_, rfl, ?_⟩) | ((with_reducible (first | refine w8 ?_ ?_ ?_ | refine w9 ?_ ?_ ?_ | refine w10 ?_ ?_ ?_)); exact rfl; simp) | ((with_reducible refine w12 ?_ ?_ ?_ fun _ _ => ?_); simp; simp; simp [oneC]) | ((with_reducible (first | refine eqs ?_ | refine nes ?_)); refine ⟨_, rfl, ?_⟩) | ((refine okF_i (bldP_eq rfl) ?_); try simp only [BLS, List.take_succ_cons, List.take_zero, List.drop_succ_cons, List.drop_zero, List.cons_append, List.nil_append, Nat.reduceAdd])) | simp -implicitDefEqProofs only [EN, lsub, lget, stL, beq_self_eq_true, ne_eq, if_true, if_false, List.cons_append, List.nil_append, Option.isNone_some, Option.isNone_none]))
      refine ld (b := q) (v := .slice (some ⟨g, o, none⟩) rows.length wc) (by first | assumption | exact St.tick (by assumption) | exact St.tick (St.tick (by assumption))) (rdc_w hl) (by simp) ?_
      (repeat (first | (first | (with_reducible (first | refine w1 fun _ _ => ?_ | refine w3 fun _ _ _ => ?_ | refine w4 fun _ _ _ => ?_ | refine w11 fun _ _ _ => ?_ | refine stb_n ?_)) | ((with_reducible refine w2 ?_); try simp -implicitDefEqProofs only [EN, lsub, lget, stL, beq_self_eq_true, ne_eq, if_true, if_false, List.cons_append, List.nil_append, Option.isNone_some, Option.isNone_none, ei]; intro _ _) | ((with_reducible (first | refine w5 ?_ ?_ | refine w6 ?_ ?_ | refine w7 ?_ ?_)); simp; refine ⟨_, rfl, ?_⟩) | ((with_reducible (first | refine w8 ?_ ?_ ?_ | refine w9 ?_ ?_ ?_ | refine w10 ?_ ?_ ?_)); exact rfl; simp) | ((with_reducible refine w12 ?_ ?_ ?_ fun _ _ => ?_); simp; simp; simp [oneC]) | ((with_reducible (first | refine eqs ?_ | refine nes ?_)); refine ⟨_, rfl, ?_⟩) | ((refine okF_i (bldP_eq rfl) ?_); try simp only [BLS, List.take_succ_cons, List.take_zero, List.drop_succ_cons, List.drop_zero, List.cons_append, List.nil_append, Nat.reduceAdd])) | simp -implicitDefEqProofs only [EN, lsub, lget, stL, beq_self_eq_true, ne_eq, if_true, if_false, List.cons_append, List.nil_append, Option.isNone_some, Option.isNone_none, ei]))
      refine ldA0 (i := i) (l := rows) (A := RBL) (by first | assumption | exact St.tick (by assumption) | exact St.tick (St.tick (by assumption))) rfl hib (v := .int .i64 rows[i].file) rfl (by simp) ?_
      by_cases hf : rows[i].file = f
      · rw [if_pos hf] at hJ2
        have e2 := decide_eq_true hf
        (repeat (first | (first | (with_reducible (first | refine w1 fun _ _ => ?_ | refine w3 fun _ _ _ => ?_ | refine w4 fun _ _ _ => ?_ | refine w11 fun _ _ _ => ?_ | refine stb_n ?_)) | ((with_reducible refine w2 ?_); try simp -implicitDefEqProofs only [EN, lsub, lget, stL, beq_self_eq_true, ne_eq, if_true, if_false, List.cons_append, List.nil_append, Option.isNone_some, Option.isNone_none, e2]; intro _ _) | ((with_reducible (first | refine w5 ?_ ?_ | refine w6 ?_ ?_ | refine w7 ?_ ?_)); simp; refine ⟨_, rfl, ?_⟩) | ((with_reducible (first | refine w8 ?_ ?_ ?_ | refine w9 ?_ ?_ ?_ | refine w10 ?_ ?_ ?_)); exact rfl; simp) | ((with_reducible refine w12 ?_ ?_ ?_ fun _ _ => ?_); simp; simp; simp [oneC]) | ((with_reducible (first | refine eqs ?_ | refine nes ?_)); refine ⟨_, rfl, ?_⟩) | ((refine okF_i (bldP_eq rfl) ?_); try simp only [BLS, List.take_succ_cons, List.take_zero, List.drop_succ_cons, List.drop_zero, List.cons_append, List.nil_append, Nat.reduceAdd])) | simp -implicitDefEqProofs only [EN, lsub, lget, stL, beq_self_eq_true, ne_eq, if_true, if_false, List.cons_append, List.nil_append, Option.isNone_some, Option.isNone_none, e2]))
        refine ld (b := q) (v := .slice (some ⟨g, o, none⟩) rows.length wc) (by first | assumption | exact St.tick (by assumption) | exact St.tick (St.tick (by assumption))) (rdc_w hl) (by simp) ?_
        (repeat (first | (first | (with_reducible (first | refine w1 fun _ _ => ?_ | refine w3 fun _ _ _ => ?_ | refine w4 fun _ _ _ => ?_ | refine w11 fun _ _ _ => ?_ | refine stb_n ?_)) | ((with_reducible refine w2 ?_); try simp -implicitDefEqProofs only [EN, lsub, lget, stL, beq_self_eq_true, ne_eq, if_true, if_false, List.cons_append, List.nil_append, Option.isNone_some, Option.isNone_none, ei]; intro _ _) | ((with_reducible (first | refine w5 ?_ ?_ | refine w6 ?_ ?_ | refine w7 ?_ ?_)); simp; refine ⟨_, rfl, ?_⟩) | ((with_reducible (first | refine w8 ?_ ?_ ?_ | refine w9 ?_ ?_ ?_ | refine w10 ?_ ?_ ?_)); exact rfl; simp) | ((with_reducible refine w12 ?_ ?_ ?_ fun _ _ => ?_); simp; simp; simp [oneC]) | ((with_reducible (first | refine eqs ?_ | refine nes ?_)); refine ⟨_, rfl, ?_⟩) | ((refine okF_i (bldP_eq rfl) ?_); try simp only [BLS, List.take_succ_cons, List.take_zero, List.drop_succ_cons, List.drop_zero, List.cons_append, List.nil_append, Nat.reduceAdd])) | simp -implicitDefEqProofs only [EN, lsub, lget, stL, beq_self_eq_true, ne_eq, if_true, if_false, List.cons_append, List.nil_append, Option.isNone_some, Option.isNone_none, ei]))
        refine ldA (i := i) (j := 1) (l := rows) (A := RBL) (by first | assumption | exact St.tick (by assumption) | exact St.tick (St.tick (by assumption))) rfl hib (v := .slice rows[i].b.a rows[i].b.bs.length rows[i].b.c) rfl (by simp) ?_
        haveI : Rd W0 (many fch (rows.map (·.b)) :: L') rows[i].b.a B8 rows[i].b.bs := rdMany (.inr (List.mem_map.2 ⟨_, List.getElem_mem hib, rfl⟩))
        have hcl : (contR ((rows.take i).map RB.val) f).length + rows[i].b.bs.length ≤ 1048576 := by omega
        refine appA (A := B8) (a := a1) (l := contR ((rows.take i).map RB.val) f) (m := rows[i].b.bs) (by first | assumption | exact St.tick (by assumption) | exact St.tick (St.tick (by assumption))) rfl (by omega) (by simp only [maxLen]; omega) fun a2 c2 W3 h => ?_
        exact hJ2 _ _ _ h
      · rw [if_neg hf, List.append_nil] at hJ2
        have e2 := decide_eq_false hf
        (repeat (first | (first | (with_reducible (first | refine w1 fun _ _ => ?_ | refine w3 fun _ _ _ => ?_ | refine w4 fun _ _ _ => ?_ | refine w11 fun _ _ _ => ?_ | refine stb_n ?_)) | ((with_reducible refine w2 ?_); try simp -implicitDefEqProofs only [EN, lsub, lget, stL, beq_self_eq_true, ne_eq, if_true, if_false, List.cons_append, List.nil_append, Option.isNone_some, Option.isNone_none, e2]; intro _ _) | ((with_reducible (first | refine w5 ?_ ?_ | refine w6 ?_ ?_ | refine w7 ?_ ?_)); simp; refine ⟨_, rfl, ?_⟩) | ((with_reducible (first | refine w8 ?_ ?_ ?_ | refine w9 ?_ ?_ ?_ | refine w10 ?_ ?_ ?_)); exact rfl; simp) | ((with_reducible refine w12 ?_ ?_ ?_ fun _ _ => ?_); simp; simp; simp [oneC]) | ((with_reducible (first | refine eqs ?_ | refine nes ?_)); refine ⟨_, rfl, ?_⟩) | ((refine okF_i (bldP_eq rfl) ?_); try simp only [BLS, List.take_succ_cons, List.take_zero, List.drop_succ_cons, List.drop_zero, List.cons_append, List.nil_append, Nat.reduceAdd])) | simp -implicitDefEqProofs only [EN, lsub, lget, stL, beq_self_eq_true, ne_eq, if_true, if_false, List.cons_append, List.nil_append, Option.isNone_some, Option.isNone_none, e2]))
        exact hJ2 _ _ _ (by first | assumption | exact St.tick (by assumption) | exact St.tick (St.tick (by assumption)))
    · rw [if_neg ha] at hi hend
      have e1 := decide_eq_false ha
      (repeat (first | (first | (with_reducible (first | refine w1 fun _ _ => ?_ | refine w3 fun _ _ _ => ?_ | refine w4 fun _ _ _ => ?_ | refine w11 fun _ _ _ => ?_ | refine stb_n ?_)) | ((with_reducible refine w2 ?_); try simp -implicitDefEqProofs only [EN, lsub, lget, stL, beq_self_eq_true, ne_eq, if_true, if_false, List.cons_append, List.nil_append, Option.isNone_some, Option.isNone_none, hlt, e1]; intro _ _) | ((with_reducible (first | refine w5 ?_ ?_ | refine w6 ?_ ?_ | refine w7 ?_ ?_)); simp; refine ⟨_, rfl, ?_⟩) | ((with_reducible (first | refine w8 ?_ ?_ ?_ | refine w9 ?_ ?_ ?_ | refine w10 ?_ ?_ ?_)); exact rfl; simp) | ((with_reducible refine w12 ?_ ?_ ?_ fun _ _ => ?_); simp; simp; simp [oneC]) | ((with_reducible (first | refine eqs ?_ | refine nes ?_)); refine ⟨_, rfl, ?_⟩) | ((refine okF_i (bldP_eq rfl) ?_); try simp only [BLS, List.take_succ_cons, List.take_zero, List.drop_succ_cons, List.drop_zero, List.cons_append, List.nil_append, Nat.reduceAdd])) | simp -implicitDefEqProofs only [EN, lsub, lget, stL, beq_self_eq_true, ne_eq, if_true, if_false, List.cons_append, List.nil_append, Option.isNone_some, Option.isNone_none, hlt, e1]))
      exact hend _ (by first | assumption | exact St.tick (by assumption) | exact St.tick (St.tick (by assumption))) (by omega)
  · (repeat (first | (first | (with_reducible (first | refine w1 fun _ _ => ?_ | refine w3 fun _ _ _ => ?_ | refine w4 fun _ _ _ => ?_ | refine w11 fun _ _ _ => ?_ | refine stb_n ?_)) | ((with_reducible refine w2 ?_); try simp -implicitDefEqProofs only [EN, lsub, lget, stL, beq_self_eq_true, ne_eq, if_true, if_false, List.cons_append, List.nil_append, Option.isNone_some, Option.isNone_none, hlt]; intro _ _) | ((with_reducible (first | refine w5 ?_ ?_ | refine w6 ?_ ?_ | refine w7 ?_ ?_)); simp; refine ⟨_, rfl, ?_⟩) | ((with_reducible (first | refine w8 ?_ ?_ ?_ | refine w9 ?_ ?_ ?_ | refine w10 ?_ ?_ ?_)); exact rfl; simp) | ((with_reducible refine w12 ?_ ?_ ?_ fun _ _ => ?_); simp; simp; simp [oneC]) | ((with_reducible (first | refine eqs ?_ | refine nes ?_)); refine ⟨_, rfl, ?_⟩) | ((refine okF_i (bldP_eq rfl) ?_); try simp only [BLS, List.take_succ_cons, List.take_zero, List.drop_succ_cons, List.drop_zero, List.cons_append, List.nil_append, Nat.reduceAdd])) | simp -implicitDefEqProofs only [EN, lsub, lget, stL, beq_self_eq_true, ne_eq, if_true, if_false, List.cons_append, List.nil_append, Option.isNone_some, Option.isNone_none, hlt]))
    refine hend _ (by first | assumption | exact St.tick (by assumption) | exact St.tick (St.tick (by assumption))) ?_
    split at hi
    · rw [if_pos (by assumption)]; omega
    · rw [if_neg (by assumption)]; omega
end
end Go.Proofs.Ythladblmjoaeoaa
namespace Go.Eng
set_option linter.unusedVariables false
set_option linter.unusedSimpArgs false
open Go Go.RowKit
theorem splice {α : Type} (cur vs : List α) {o m N : Nat} (h1 : o + N ≤ cur.length) (h2 : m + vs.length ≤ N) :
    ((cur.take (o + m) ++ vs ++ cur.drop (o + m + vs.length)).drop o).take N = ((cur.drop o).take N).take m ++ vs ++ ((cur.drop o).take N).drop (m + vs.length) := by
  have hl : ((cur.drop o).take m).length = m := by simp; omega
  rw [List.append_assoc, List.drop_append_of_le_length (by simp; omega), List.drop_take, Nat.add_sub_cancel_left, List.take_take, Nat.min_eq_left (by omega), List.append_assoc]
  have e1 : N = m + (vs.length + (N - (m + vs.length))) := by omega
  conv => lhs; rw [e1]
  rw [List.take_add, List.take_left' hl, List.drop_left' hl, List.take_add, List.take_left, List.drop_left, List.drop_take, List.drop_drop, Nat.add_assoc]
section
variable {α : Type} {A : Ly α} {P : Program} {W0 W : World} {L L' : List Asn} {e : TypeId} {c : Nat} {l : List α}
theorem stAj {t : TypeId} {agg : Bool} {tsz sz g o i j : Nat} [ht : TyI P t agg tsz] {x : α} {v : Value} {k : Unit → World → Prop} (h : St W0 L W) [ho : Own (some ⟨g, o, none⟩) L A e c l L'] (hs : A.sz = sz) (hi : i < l.length)
    (hvl : (vcells v).length = tsz) (hj : j + tsz ≤ sz) (h1 : (vcells v).all oneC = true) (hx : stL (A.row l[i]) j (vcells v) = A.row x)
    (hk : ∀ W', St W0 (arr A e (some ⟨g, o, none⟩) c (l.set i x) :: L') W' → k () W') : efK P (Instr.storeAt t (.pointer (some ⟨g, o + i * sz + j, none⟩)) v) k W := by
  subst hs hvl
  have h := h.took (a := some ⟨g, o, none⟩)
  have hf := h.arrFacts
  obtain ⟨g', o', cur, he, h2, h3, h4⟩ := h.arrCells (by simp)
  cases he
  have hle : i * A.sz + A.sz ≤ l.length * A.sz := by rw [← Nat.succ_mul]; exact Nat.mul_le_mul_right _ hi
  have hlc : l.length * A.sz ≤ c * A.sz := Nat.mul_le_mul_right _ hf.1
  refine sto h4 rfl (by omega) h1 fun W' h => hk W' (h.ent (arr_of_cells (by simpa using hf.1) hf.2.1 (by rw [stL_len]; exact h2) ?_))
  rw [stL_eq _ _ _ (by omega), List.length_set, Nat.add_assoc o, splice _ _ (by omega) (by omega), h3, Ly.rows_set hi, ← hx, stL_eq _ _ _ (by rw [A.len]; omega)]
  have hr : A.row l[i] = ((A.rows l).drop (i * A.sz)).take A.sz := (Ly.rows_at hi).symm
  have hrl : (A.rows l).length = l.length * A.sz := Ly.rows_len
  rw [hr, List.take_take, Nat.min_eq_left (by omega), List.drop_take, List.drop_drop, List.take_add]
  have e1 : (A.rows l).drop (i * A.sz + j + (vcells v).length) = ((A.rows l).drop (i * A.sz + (j + (vcells v).length))).take (A.sz - (j + (vcells v).length)) ++ (A.rows l).drop (i * A.sz + A.sz) := by
    have : (A.rows l).drop (i * A.sz + A.sz) = ((A.rows l).drop (i * A.sz + (j + (vcells v).length))).drop (A.sz - (j + (vcells v).length)) := by
      rw [List.drop_drop]; congr 1; omega
    rw [this, List.take_append_drop, Nat.add_assoc]
  rw [e1]
  simp only [List.append_assoc]
end
end Go.Eng
