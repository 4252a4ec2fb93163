/- 'ExecOne' holds. Printed by an own tool (wip/tools/law.py), after the kit's shell. -/
import Derived.Test.YtkjhccpanedccaaBExecOne9
import Derived.Test.YtkjhccpanedccaaBExecOne2
import Derived.Test.YtkjhccpanedccaaBExecOne1
import Derived.Test.YtkjhccpanedccaaBExecOne8
import Derived.Test.YtkjhccpanedccaaBExecOne3
import Derived.Test.YtkjhccpanedccaaRows
import Derived.WalkKit
import Derived.ProofKit
namespace Go.Eng
set_option linter.unusedVariables false
set_option linter.unusedSimpArgs false
open Go Go.RowKit

theorem wf64 {n : Int} (h : (Lit.int .i64 n).wf = true) : -9223372036854775808 ≤ n ∧ n ≤ 9223372036854775807 := by
  simp only [Lit.wf, Bool.and_eq_true, decide_eq_true_eq] at h
  exact h
theorem wf8 {n : Int} (h : (Lit.int .u8 n).wf = true) : 0 ≤ n ∧ n ≤ 255 := by
  simp only [Lit.wf, Bool.and_eq_true, decide_eq_true_eq] at h
  exact h
theorem ro_rows {α : Type} {A : Ly α} {w : World} {b o : Nat} : ∀ (l : List α), (∀ i (hi : i < l.length), ro w b (o + i * A.sz) (A.row l[i])) → ro w b o (A.rows l) := by
  intro l h j hj
  rw [Ly.rows_len] at hj
  have hp := A.pos
  have hi : j / A.sz < l.length := Nat.div_lt_of_lt_mul (by rw [Nat.mul_comm]; exact hj)
  have hr : j % A.sz < A.sz := Nat.mod_lt _ hp
  have h1 := h _ hi (j % A.sz) (by rw [A.len]; exact hr)
  have e : o + j / A.sz * A.sz + j % A.sz = o + j := by rw [Nat.add_assoc, Nat.div_add_mod']
  rw [e] at h1
  rw [h1, ← Ly.rows_at hi, List.getElem?_take_of_lt hr, List.getElem?_drop, Nat.div_add_mod']
theorem openArr {α : Type} [Inhabited α] (A : Ly α) {e : List Cl} (p : α → Prop) {w : World} {v : Value} (h : GoodC w (.sl e) v) (he : e.length = A.sz) (hq : ∀ vs, GoodL w e vs → ∃ a, vs = A.row a ∧ p a) :
    ∃ (a : Option Addr) (c : Nat) (l : List α), v = .slice a l.length c ∧ l.length ≤ c ∧ c ≤ maxLen ∧ Rd w [] a A l ∧ ∀ x ∈ l, p x := by
  obtain ⟨a, n, c, F, rfl, hn, hc, ha, hr⟩ := h.sl' (q := fun x vs => vs = A.row x ∧ p x) hq
  refine ⟨a, c, (List.range n).map F, by simp, by simpa using hn, hc, Rd.base ?_, fun x hx => ?_⟩
  · by_cases hn0 : n = 0
    · subst hn0; exact .inl rfl
    · right
      obtain ⟨b, o, vs, rfl, _⟩ := hr 0 (by omega)
      refine ⟨b, o, rfl, ro_rows _ fun i hi => ?_⟩
      obtain ⟨b', o', vs, h1, h2, h3, _⟩ := hr i (by simpa using hi)
      cases h1
      rw [he] at h2
      subst h3
      simpa using h2
  · obtain ⟨i, hi, rfl⟩ := List.mem_map.1 hx
    obtain ⟨_, _, _, _, _, _, h⟩ := hr i (by simpa using hi)
    exact h
/-- a slice of bytes -/
theorem openBytes {w : World} {v : Value} (h : GoodC w (.sl [.int .u8]) v) : ∃ (a : Option Addr) (c : Nat) (l : List UInt8), v = .slice a l.length c ∧ l.length ≤ c ∧ c ≤ maxLen ∧ Rd w [] a B8 l := by
  obtain ⟨a, c, l, h1, h2, h3, h4, _⟩ := openArr B8 (fun _ => True) h rfl fun vs hv => by
    obtain ⟨_, _, rfl, h1, h⟩ := hv.cons'
    obtain rfl := h.nil'
    obtain ⟨n, rfl, hn⟩ := h1.int'
    have := wf8 hn
    refine ⟨UInt8.ofNat n.toNat, ?_, trivial⟩
    have e : (UInt8.ofNat n.toNat).toNat = n.toNat := by simp [UInt8.toNat_ofNat']; omega
    show _ = [b8 _]
    simp only [b8, e]
    rw [Int.toNat_of_nonneg this.1]
  exact ⟨a, c, l, h1, h2, h3, h4⟩
end Go.Eng
namespace Go.Proofs.Ytkjhccpanedccaa
set_option linter.unusedVariables false
set_option linter.unusedSimpArgs false
open Go Go.Eng Go.RowKit
structure Lo (W W' : World) : Prop where
  below : Below W.heap.size W W'
theorem St.startz (W : World) : St { W with drawn := 0 } [] W := ⟨⟨⟨rfl, rfl, rfl, Nat.le_refl _, fun _ _ => rfl⟩, Nat.zero_le _⟩, fun _ => none, fun _ => rfl, fun b o h => by cases h⟩
theorem St.lo {W W' : World} {L : List Asn} (h : St { W with drawn := 0 } L W') : Lo W W' := ⟨⟨h.bel.os, h.bel.tape, h.bel.output, h.bel.size, h.bel.block⟩⟩
mutual
theorem goodCz {W : World} {c : Cl} {v : Value} : GoodC W c v → GoodC { W with drawn := 0 } c v
  | .int h => .int h
  | .str h => .str h
  | .bool => .bool
  | .sl rows hc hm hn hr hg => .sl rows hc hm hn hr fun i hi => goodLz (hg i hi)
theorem goodLz {W : World} {l : List Cl} {v : List Value} : GoodL W l v → GoodL { W with drawn := 0 } l v
  | .nil => .nil
  | .cons h hs => .cons (goodCz h) (goodLz hs)
end
theorem goodAz {W : World} {l : List Cl} {b : Bool} {v : Value} (h : GoodA W l b v) : GoodA { W with drawn := 0 } l b v := ⟨goodLz h.1, h.2⟩
end Go.Proofs.Ytkjhccpanedccaa
namespace Go.Proofs.Ytkjhccpanedccaa
set_option linter.unusedVariables false
set_option linter.unusedSimpArgs false
open Go.Eng
/-! ### rostrum/rostrumref7.SameDots (35) -/
def S.rostrumref7_SameDots.l1 (R : Value → World → Prop) (K1 : List Value → World → Prop) (x0 x1 x5 : Value) (W : World) : Prop :=
  okF (lenP (.slice T_api_Dot) x0) fun v13 =>
  okF (binP .lss x5 v13) fun v14 =>
  ifK v14 (
  okF (idxS 2 x0 x5) fun v19 =>
  rdK PR (Instr.loadAt T_api_Dot v19) (fun v20 W =>
  okF (idxS 2 x1 x5) fun v23 =>
  rdK PR (Instr.loadAt T_api_Dot v23) (fun v24 W =>
  rdK PR (aggEq .neq T_api_Dot v20 v24) (fun v25 W =>
  ifK v25 (
  R (.bool false) W) (
  okF (binP .add x5 (.int .i64 1)) fun v16 =>
  K1 [x0, x1, v16] W)) W) W) (tick W)) (
  R (.bool true) W)
def S.rostrumref7_SameDots.body (R : Value → World → Prop) (v0 v1 : Value) (W : World) : Prop :=
  okF (lenP (.slice T_api_Dot) v0) fun v7 =>
  okF (lenP (.slice T_api_Dot) v1) fun v9 =>
  okF (binP .neq v7 v9) fun v10 =>
  ifK v10 (
  R (.bool false) W) (
  loopK (fun K1 s W => S.rostrumref7_SameDots.l1 R K1 (nthv s 0) (nthv s 1) (nthv s 2) W) [v0, v1, (.int .i64 0)] W)
def S.rostrumref7_SameDots.hint : Hint := (.two .nil (.two (.two .nil (.two (.two .nil .nil) .nil)) (.two (.two .nil (.at [0, 1, 5] (.two (.two .nil (.two .nil .nil)) (.two (.two .nil (.two (.two .nil .nil) .nil)) .nil)) .nil)) (.two .nil .nil))))
theorem S.rostrumref7_SameDots.ok (R : Value → World → Prop) (v0 v1 : Value) (W : World) : bodyK PR CB Try.f35 S.rostrumref7_SameDots.hint [v0, v1] R W = S.rostrumref7_SameDots.body R v0 v1 W := by kernel_rfl
theorem S.rostrumref7_SameDots.fn : PR.funcs[F_rostrumref7_SameDots]? = some Try.f35 := by kernel_rfl
theorem S.rostrumref7_SameDots.call {R : Value → World → Prop} {v0 v1 : Value} {W : World} (h : S.rostrumref7_SameDots.body R v0 v1 W) : callK PR F_rostrumref7_SameDots [v0, v1] R W :=
  callK_of_body (g := F_rostrumref7_SameDots) (fn := Try.f35) (args := [v0, v1]) (R := R) (w := W) mixed CBok S.rostrumref7_SameDots.fn S.rostrumref7_SameDots.hint (by rw [S.rostrumref7_SameDots.ok]; exact h)
end Go.Proofs.Ytkjhccpanedccaa
namespace Go.Proofs.Ytkjhccpanedccaa
set_option linter.unusedVariables false
set_option linter.unusedSimpArgs false
open Go Go.Eng Go.Tar Go.Sort Go.RowKit
theorem dot_eq (x y : Dot) : (decide (x.rep = y.rep) && decide (x.n = y.n)) = decide (x = y) := by
  cases x; cases y
  rw [Bool.eq_iff_iff]
  simp
theorem take_step {α : Type} {l m : List α} {i : Nat} (h : l.take i = m.take i) (hi : i < l.length) (hj : i < m.length) (he : l[i] = m[i]) : l.take (i + 1) = m.take (i + 1) := by
  rw [List.take_succ_eq_append_getElem hi, List.take_succ_eq_append_getElem hj, h, he]
section
variable {W0 W : World} {L L' : List Asn}
set_option maxRecDepth 100000 in
set_option maxHeartbeats 4000000 in
theorem refSameDots {a b : Option Addr} {c d : Nat} {l m : List Dot} {k : Value → World → Prop} (h : St W0 L W) [hr : Rd W0 L a DOT l] [hr2 : Rd W0 L b DOT m] (hl : l.length < 4611686018427387904)
    (hk : ∀ W', St W0 L W' → k (.bool (decide (l = m))) W') : callK PR F_rostrumref7_SameDots [.slice a l.length c, .slice b m.length d] k W := by
  apply S.rostrumref7_SameDots.call
  unfold S.rostrumref7_SameDots.body
  by_cases hn : l.length = m.length
  · have f1 : decide ((l.length : Int) = (m.length : Int)) = true := decide_eq_true (by omega)
    (repeat (first | (first | (with_reducible (first | refine w1 fun _ _ => ?_ | refine w3 fun _ _ _ => ?_ | refine w4 fun _ _ _ => ?_ | refine w11 fun _ _ _ => ?_ | refine stb_n ?_)) | ((with_reducible refine w2 ?_); try simp -implicitDefEqProofs only [EN, lsub, lget, stL, beq_self_eq_true, ne_eq, if_true, if_false, List.cons_append, List.nil_append, Option.isNone_some, Option.isNone_none, f1]; intro _ _) | ((with_reducible (first | refine w5 ?_ ?_ | refine w6 ?_ ?_ | refine w7 ?_ ?_)); simp; refine ⟨_, rfl, ?_⟩) | ((with_reducible (first | refine w8 ?_ ?_ ?_ | refine w9 ?_ ?_ ?_ | refine w10 ?_ ?_ ?_)); exact rfl; simp) | ((with_reducible refine w12 ?_ ?_ ?_ fun _ _ => ?_); simp; simp; simp [oneC]) | ((with_reducible (first | refine eqs ?_ | refine nes ?_)); refine ⟨_, rfl, ?_⟩) | ((refine okF_i (bldP_eq rfl) ?_); try simp only [BLS, List.take_succ_cons, List.take_zero, List.drop_succ_cons, List.drop_zero, List.cons_append, List.nil_append, Nat.reduceAdd])) | simp -implicitDefEqProofs only [EN, lsub, lget, stL, beq_self_eq_true, ne_eq, if_true, if_false, List.cons_append, List.nil_append, Option.isNone_some, Option.isNone_none, f1]))
    refine loop_c (σ := Unit) l.length (fun i _ => [.slice a l.length c, .slice b m.length d, .int .i64 i]) (fun i _ W1 => l.take i = m.take i ∧ St W0 L W1) () rfl ⟨rfl, h⟩ ?_
    clear h
    rintro K i _ W2 hi ⟨ht, h⟩ hK
    simp -implicitDefEqProofs only [EN, lsub, lget, stL, beq_self_eq_true, ne_eq, if_true, if_false, List.cons_append, List.nil_append, Option.isNone_some, Option.isNone_none]
    unfold S.rostrumref7_SameDots.l1
    by_cases hlt : (i : Int) < (l.length : Int)
    · have hib : i < l.length := by omega
      have hjb : i < m.length := by omega
      have ew : IntKind.i64.wrap ((i : Int) + 1) = ((i + 1 : Nat) : Int) := by rw [i64w]; omega
      (repeat (first | (first | (with_reducible (first | refine w1 fun _ _ => ?_ | refine w3 fun _ _ _ => ?_ | refine w4 fun _ _ _ => ?_ | refine w11 fun _ _ _ => ?_ | refine stb_n ?_)) | ((with_reducible refine w2 ?_); try simp -implicitDefEqProofs only [EN, lsub, lget, stL, beq_self_eq_true, ne_eq, if_true, if_false, List.cons_append, List.nil_append, Option.isNone_some, Option.isNone_none, hlt]; intro _ _) | ((with_reducible (first | refine w5 ?_ ?_ | refine w6 ?_ ?_ | refine w7 ?_ ?_)); simp; refine ⟨_, rfl, ?_⟩) | ((with_reducible (first | refine w8 ?_ ?_ ?_ | refine w9 ?_ ?_ ?_ | refine w10 ?_ ?_ ?_)); exact rfl; simp) | ((with_reducible refine w12 ?_ ?_ ?_ fun _ _ => ?_); simp; simp; simp [oneC]) | ((with_reducible (first | refine eqs ?_ | refine nes ?_)); refine ⟨_, rfl, ?_⟩) | ((refine okF_i (bldP_eq rfl) ?_); try simp only [BLS, List.take_succ_cons, List.take_zero, List.drop_succ_cons, List.drop_zero, List.cons_append, List.nil_append, Nat.reduceAdd])) | simp -implicitDefEqProofs only [EN, lsub, lget, stL, beq_self_eq_true, ne_eq, if_true, if_false, List.cons_append, List.nil_append, Option.isNone_some, Option.isNone_none, hlt]))
      refine ixA (i := i) (a := a) (l := l) (A := DOT) h.tick rfl rfl hib fun g o ha => ?_
      cases ha
      refine ldA0 (i := i) (l := l) (A := DOT) h.tick rfl hib (v := .agg #[.int .i64 (l[i]).rep, .int .i64 (l[i]).n]) rfl (by simp) ?_
      refine ixA (i := i) (a := b) (l := m) (A := DOT) h.tick rfl rfl hjb fun g' o' ha => ?_
      cases ha
      refine ldA0 (i := i) (l := m) (A := DOT) h.tick rfl hjb (v := .agg #[.int .i64 (m[i]).rep, .int .i64 (m[i]).n]) rfl (by simp) ?_
      generalize hx : l[i] = x at *
      generalize hy : m[i] = y at *
      by_cases he : x = y
      · have f2 : (decide (x.rep = y.rep) && decide (x.n = y.n)) = true := by rw [dot_eq]; exact decide_eq_true he
        (repeat (first | (first | (with_reducible (first | refine w1 fun _ _ => ?_ | refine w3 fun _ _ _ => ?_ | refine w4 fun _ _ _ => ?_ | refine w11 fun _ _ _ => ?_ | refine stb_n ?_)) | ((with_reducible refine w2 ?_); try simp -implicitDefEqProofs only [EN, lsub, lget, stL, beq_self_eq_true, ne_eq, if_true, if_false, List.cons_append, List.nil_append, Option.isNone_some, Option.isNone_none, f2, ew]; intro _ _) | ((with_reducible (first | refine w5 ?_ ?_ | refine w6 ?_ ?_ | refine w7 ?_ ?_)); simp; refine ⟨_, rfl, ?_⟩) | ((with_reducible (first | refine w8 ?_ ?_ ?_ | refine w9 ?_ ?_ ?_ | refine w10 ?_ ?_ ?_)); exact rfl; simp) | ((with_reducible refine w12 ?_ ?_ ?_ fun _ _ => ?_); simp; simp; simp [oneC]) | ((with_reducible (first | refine eqs ?_ | refine nes ?_)); refine ⟨_, rfl, ?_⟩) | ((refine okF_i (bldP_eq rfl) ?_); try simp only [BLS, List.take_succ_cons, List.take_zero, List.drop_succ_cons, List.drop_zero, List.cons_append, List.nil_append, Nat.reduceAdd])) | simp -implicitDefEqProofs only [EN, lsub, lget, stL, beq_self_eq_true, ne_eq, if_true, if_false, List.cons_append, List.nil_append, Option.isNone_some, Option.isNone_none, f2, ew]))
        refine hK () _ hib ⟨take_step ht hib hjb (by rw [hx, hy, he]), h.tick⟩
      · have f2 : (decide (x.rep = y.rep) && decide (x.n = y.n)) = false := by rw [dot_eq]; exact decide_eq_false he
        have hne : decide (l = m) = false := decide_eq_false fun e => he (by subst e; rw [← hx, ← hy])
        rw [hne] at hk
        (repeat (first | (first | (with_reducible (first | refine w1 fun _ _ => ?_ | refine w3 fun _ _ _ => ?_ | refine w4 fun _ _ _ => ?_ | refine w11 fun _ _ _ => ?_ | refine stb_n ?_)) | ((with_reducible refine w2 ?_); try simp -implicitDefEqProofs only [EN, lsub, lget, stL, beq_self_eq_true, ne_eq, if_true, if_false, List.cons_append, List.nil_append, Option.isNone_some, Option.isNone_none, f2]; intro _ _) | ((with_reducible (first | refine w5 ?_ ?_ | refine w6 ?_ ?_ | refine w7 ?_ ?_)); simp; refine ⟨_, rfl, ?_⟩) | ((with_reducible (first | refine w8 ?_ ?_ ?_ | refine w9 ?_ ?_ ?_ | refine w10 ?_ ?_ ?_)); exact rfl; simp) | ((with_reducible refine w12 ?_ ?_ ?_ fun _ _ => ?_); simp; simp; simp [oneC]) | ((with_reducible (first | refine eqs ?_ | refine nes ?_)); refine ⟨_, rfl, ?_⟩) | ((refine okF_i (bldP_eq rfl) ?_); try simp only [BLS, List.take_succ_cons, List.take_zero, List.drop_succ_cons, List.drop_zero, List.cons_append, List.nil_append, Nat.reduceAdd])) | simp -implicitDefEqProofs only [EN, lsub, lget, stL, beq_self_eq_true, ne_eq, if_true, if_false, List.cons_append, List.nil_append, Option.isNone_some, Option.isNone_none, f2]))
        exact hk _ h.tick
    · (repeat (first | (first | (with_reducible (first | refine w1 fun _ _ => ?_ | refine w3 fun _ _ _ => ?_ | refine w4 fun _ _ _ => ?_ | refine w11 fun _ _ _ => ?_ | refine stb_n ?_)) | ((with_reducible refine w2 ?_); try simp -implicitDefEqProofs only [EN, lsub, lget, stL, beq_self_eq_true, ne_eq, if_true, if_false, List.cons_append, List.nil_append, Option.isNone_some, Option.isNone_none, hlt]; intro _ _) | ((with_reducible (first | refine w5 ?_ ?_ | refine w6 ?_ ?_ | refine w7 ?_ ?_)); simp; refine ⟨_, rfl, ?_⟩) | ((with_reducible (first | refine w8 ?_ ?_ ?_ | refine w9 ?_ ?_ ?_ | refine w10 ?_ ?_ ?_)); exact rfl; simp) | ((with_reducible refine w12 ?_ ?_ ?_ fun _ _ => ?_); simp; simp; simp [oneC]) | ((with_reducible (first | refine eqs ?_ | refine nes ?_)); refine ⟨_, rfl, ?_⟩) | ((refine okF_i (bldP_eq rfl) ?_); try simp only [BLS, List.take_succ_cons, List.take_zero, List.drop_succ_cons, List.drop_zero, List.cons_append, List.nil_append, Nat.reduceAdd])) | simp -implicitDefEqProofs only [EN, lsub, lget, stL, beq_self_eq_true, ne_eq, if_true, if_false, List.cons_append, List.nil_append, Option.isNone_some, Option.isNone_none, hlt]))
      have hall : l = m := by
        have := ht
        rw [List.take_of_length_le (by omega), List.take_of_length_le (by omega)] at this
        exact this
      rw [decide_eq_true hall] at hk
      exact hk _ h
  · have f1 : decide ((l.length : Int) = (m.length : Int)) = false := decide_eq_false (by omega)
    have hne : decide (l = m) = false := decide_eq_false fun e => hn (by rw [e])
    rw [hne] at hk
    (repeat (first | (first | (with_reducible (first | refine w1 fun _ _ => ?_ | refine w3 fun _ _ _ => ?_ | refine w4 fun _ _ _ => ?_ | refine w11 fun _ _ _ => ?_ | refine stb_n ?_)) | ((with_reducible refine w2 ?_); try simp -implicitDefEqProofs only [EN, lsub, lget, stL, beq_self_eq_true, ne_eq, if_true, if_false, List.cons_append, List.nil_append, Option.isNone_some, Option.isNone_none, f1]; intro _ _) | ((with_reducible (first | refine w5 ?_ ?_ | refine w6 ?_ ?_ | refine w7 ?_ ?_)); simp; refine ⟨_, rfl, ?_⟩) | ((with_reducible (first | refine w8 ?_ ?_ ?_ | refine w9 ?_ ?_ ?_ | refine w10 ?_ ?_ ?_)); exact rfl; simp) | ((with_reducible refine w12 ?_ ?_ ?_ fun _ _ => ?_); simp; simp; simp [oneC]) | ((with_reducible (first | refine eqs ?_ | refine nes ?_)); refine ⟨_, rfl, ?_⟩) | ((refine okF_i (bldP_eq rfl) ?_); try simp only [BLS, List.take_succ_cons, List.take_zero, List.drop_succ_cons, List.drop_zero, List.cons_append, List.nil_append, Nat.reduceAdd])) | simp -implicitDefEqProofs only [EN, lsub, lget, stL, beq_self_eq_true, ne_eq, if_true, if_false, List.cons_append, List.nil_append, Option.isNone_some, Option.isNone_none, f1]))
    exact hk _ h
end
end Go.Proofs.Ytkjhccpanedccaa
namespace Go.Eng
set_option linter.unusedVariables false
set_option linter.unusedSimpArgs false
open Go Go.RowKit
section
variable {P : Program} {W0 W : World} {L : List Asn} {e : TypeId}
theorem bl1 (l : List UInt8) {t : TypeId} {by' n : Nat} {z : Value} [ht : TyS P t e 1 by' z] {ps : List (Nat × Value)} {k : Value → World → Prop} (h : St W0 L W) (hln : l.length = n) (hn : n ≤ 16777216) (hn0 : n ≠ 0)
    (hc : fillL (fun i => some (i * 1, 1)) ((List.range (n * 1)).map fun i => ((vcells z)[i % (vcells z).length]?).getD undef) ps = some (B8.rows l))
    (hk : ∀ b W', St W0 (blk b (.cells (B8.rows l).toArray e) :: L) W' → k (.slice (some ⟨b, 0, none⟩) l.length l.length) W') : efK P (Instr.buildSlice t n ps.toArray) k W := by
  subst hln
  exact ⟨_, _, bs_run (P := P) (t := t) (e := e) (by omega) (by omega) hc, hk _ _ (h.alloc _)⟩
theorem bl2 (l : List UInt8) {b n c : Nat} {t : TypeId} [hb : BytesT P t e] {k : Value → World → Prop} (h : St W0 (blk b (.cells (B8.rows l).toArray e) :: L) W) (hl : l.length ≤ maxLen)
    (hk : ∀ W', St W0 (arr B8 e (some ⟨b, 0, none⟩) l.length l :: L) W' → k (.slice (some ⟨b, 0, none⟩) n c) W') : efK P (convert t t (.slice (some ⟨b, 0, none⟩) n c)) k W := by
  have hbl := h.blk.2
  have hsh : W.shape? b = some (e, (B8.rows l).toArray.size) := by
    unfold World.shape?; rw [hbl]
  have hfr : W.freeze ⟨b, (B8.rows l).toArray.size, none⟩ 1 = { W with heap := W.heap.setIfInBounds b (.cells (B8.rows l).toArray e ((B8.rows l).toArray.size, (B8.rows l).toArray.size + 1)) } := by
    unfold World.freeze
    rw [if_neg (by decide)]
    congr 1
    apply Array.ext_getElem?
    intro i
    rw [Array.getElem?_modify, Array.getElem?_setIfInBounds]
    by_cases hi : b = i
    · subst hi
      rw [if_pos rfl, if_pos rfl, hbl]
      rw [if_pos (Array.getElem?_eq_some_iff.1 hbl).1]
      rfl
    · rw [if_neg hi, if_neg hi]
  refine ⟨.slice (some ⟨b, 0, none⟩) n c, W.freeze ⟨b, (B8.rows l).toArray.size, none⟩ 1, ?_, hk _ ?_⟩
  · simp [convert, run_underlying hb.ok.1, run_underlying hb.ok.2, markStringish, hsh]
  · rw [hfr]
    refine (((h.setBlk _).weak (a' := cells b (B8.rows l) e) fun p hp => ⟨((B8.rows l).toArray.size, (B8.rows l).toArray.size + 1), ?_, hp⟩).ent (arr_full (A := B8) hl))
    intro i hi
    simp; omega
end
end Go.Eng
namespace Go.Proofs.Ytkjhccpanedccaa
set_option linter.unusedVariables false
set_option linter.unusedSimpArgs false
open Go.Eng
/-! ### rostrum/rostrumlaw23.awake (14) -/
def S.rostrumlaw23_awake.body (R : Value → World → Prop) (W : World) : Prop :=
  callK PR F_exec_New [] (fun v7 W =>
  okF (eqP (.pointer T_exec_Exec) .eql v7 (.pointer none)) fun v9 =>
  ifK v9 (
  R (.bool false) W) (
  okF (bldP (fun i => ([(0, 1), (1, 1)] : List (Nat × Nat))[i]?) [.int .i64 0, .int .i64 0] [(1, (.int .i64 1))]) fun v11 =>
  okF (bldP (fun i => ([(0, 2), (2, 1), (3, 7)] : List (Nat × Nat))[i]?) [.int .i64 0, .int .i64 0, .int .i64 0, .int .i64 0, .int .i64 0, .int .i64 0, .int .i64 0, .int .i64 0, .int .i64 0, .int .i64 0] [(0, v11)]) fun v12 =>
  okF (bldP (fun i => some (i * 1, 1)) [.int .i64 0, .int .i64 0, .int .i64 0, .int .i64 0, .int .i64 0, .int .i64 0, .int .i64 0] [(0, (.int .i64 1))]) fun v13 =>
  efK PR (Instr.buildSlice T_s_uint8 1 #[(0, (.int .u8 98))]) (fun v14 W =>
  efK PR (convert T_s_uint8 T_s_uint8 v14) (fun v15 W =>
  callK PR F_exec_Exec_Commit [v7, v12, v13, v15] (fun v16 W =>
  okF (bldP (fun i => some (i * 1, 1)) [.int .i64 0, .int .i64 0, .int .i64 0, .int .i64 0, .int .i64 0, .int .i64 0, .int .i64 0] []) fun v18 =>
  callK PR F_exec_Exec_Have [v7, v18] (fun v19 W =>
  okF (bldP (fun i => some (i * 1, 1)) [.int .i64 0, .int .i64 0, .int .i64 0, .int .i64 0, .int .i64 0, .int .i64 0, .int .i64 0] [(0, (.int .i64 1))]) fun v21 =>
  callK PR F_exec_Exec_Have [v7, v21] (fun v22 W =>
  okF (bldP (fun i => ([(0, 1), (1, 1)] : List (Nat × Nat))[i]?) [.int .i64 0, .int .i64 0] [(1, (.int .i64 1))]) fun v25 =>
  callK PR F_exec_Exec_Body [v7, v25] (fun v26 W =>
  okF (extP 0 v26) fun v27 =>
  okF (extP 1 v26) fun v28 =>
  okF (binP .eql v16 (.int .i64 0)) fun v30 =>
  gdK (wantd v30 true) (fun k W => k v19 W) (fun v32 W =>
  gdK (wantd v30 true) (fun k W => okF (lenP (.slice T_api_Dot) v32) fun v => k v W) (fun v33 W =>
  gdK (wantd v30 true) (fun k W => okF (binP .eql v33 (.int .i64 0)) fun v => k v W) (fun v34 W =>
  okF (pickP v30 v34 (.bool false)) fun v35 =>
  gdK (wantd v35 true) (fun k W => k v22 W) (fun v37 W =>
  gdK (wantd v35 true) (fun k W => okF (bldP (fun i => ([(0, 1), (1, 1)] : List (Nat × Nat))[i]?) [.int .i64 0, .int .i64 0] [(1, (.int .i64 1))]) fun v => k v W) (fun v38 W =>
  gdK (wantd v35 true) (fun k W => efK PR (Instr.buildSlice T_s_api_Dot 1 #[(0, v38)]) k W) (fun v39 W =>
  gdK (wantd v35 true) (fun k W => callK PR F_rostrumlaw23_dots [v37, v39] k W) (fun v40 W =>
  okF (pickP v35 v40 (.bool false)) fun v41 =>
  gdK (wantd v41 true) (fun k W => k v28 W) (fun v43 W =>
  okF (pickP v41 v43 (.bool false)) fun v44 =>
  gdK (wantd v44 true) (fun k W => k v27 W) (fun v46 W =>
  gdK (wantd v44 true) (fun k W => rdK PR (convert T_s_uint8 T_string v46) k W) (fun v47 W =>
  gdK (wantd v44 true) (fun k W => okF (binP .eql v47 (.string ⟨#[98]⟩)) fun v => k v W) (fun v48 W =>
  okF (pickP v44 v48 (.bool false)) fun v49 =>
  gdK (wantd v49 true) (fun k W => k v7 W) (fun v51 W =>
  gdK (wantd v49 true) (fun k W => callK PR F_exec_Exec_Waits [v51] k W) (fun v52 W =>
  gdK (wantd v49 true) (fun k W => okF (binP .eql v52 (.int .i64 0)) fun v => k v W) (fun v53 W =>
  okF (pickP v49 v53 (.bool false)) fun v54 =>
  R v54 W) W) W) W) W) W) W) W) W) W) W) W) W) W) W) W) W) W) W) W) W)) W
def S.rostrumlaw23_awake.hint : Hint := (.two .nil (.two .nil (.two (.two .nil (.two (.two .nil .nil) .nil)) (.two .nil (.two .nil (.two .nil (.two .nil (.two .nil .nil))))))))
theorem S.rostrumlaw23_awake.ok (R : Value → World → Prop) (W : World) : bodyK PR CB Try.f14 S.rostrumlaw23_awake.hint [] R W = S.rostrumlaw23_awake.body R  W := by kernel_rfl
theorem S.rostrumlaw23_awake.fn : PR.funcs[F_rostrumlaw23_awake]? = some Try.f14 := by kernel_rfl
theorem S.rostrumlaw23_awake.call {R : Value → World → Prop} {W : World} (h : S.rostrumlaw23_awake.body R  W) : callK PR F_rostrumlaw23_awake [] R W :=
  callK_of_body (g := F_rostrumlaw23_awake) (fn := Try.f14) (args := []) (R := R) (w := W) mixed CBok S.rostrumlaw23_awake.fn S.rostrumlaw23_awake.hint (by rw [S.rostrumlaw23_awake.ok]; exact h)
/-! ### rostrum/rostrumlaw23.dots (20) -/
def S.rostrumlaw23_dots.body (R : Value → World → Prop) (v0 v1 : Value) (W : World) : Prop :=
  callK PR F_rostrumref7_SameDots [v0, v1] (fun v7 W =>
  R v7 W) W
def S.rostrumlaw23_dots.hint : Hint := (.two .nil (.two .nil .nil))
theorem S.rostrumlaw23_dots.ok (R : Value → World → Prop) (v0 v1 : Value) (W : World) : bodyK PR CB Try.f20 S.rostrumlaw23_dots.hint [v0, v1] R W = S.rostrumlaw23_dots.body R v0 v1 W := by kernel_rfl
theorem S.rostrumlaw23_dots.fn : PR.funcs[F_rostrumlaw23_dots]? = some Try.f20 := by kernel_rfl
theorem S.rostrumlaw23_dots.call {R : Value → World → Prop} {v0 v1 : Value} {W : World} (h : S.rostrumlaw23_dots.body R v0 v1 W) : callK PR F_rostrumlaw23_dots [v0, v1] R W :=
  callK_of_body (g := F_rostrumlaw23_dots) (fn := Try.f20) (args := [v0, v1]) (R := R) (w := W) mixed CBok S.rostrumlaw23_dots.fn S.rostrumlaw23_dots.hint (by rw [S.rostrumlaw23_dots.ok]; exact h)
end Go.Proofs.Ytkjhccpanedccaa
namespace Go.Proofs.Ytkjhccpanedccaa
set_option linter.unusedVariables false
set_option linter.unusedSimpArgs false
open Go Go.Eng Go.Tar Go.Sort Go.RowKit
def z7 : P7 Int := ⟨0, 0, 0, 0, 0, 0, 0⟩
def inN (rep n : Int) (v : P7 Int) : Ins := ⟨⟨rep, n⟩, 0, v⟩
/-- Have, as a machine computes it -/
def XS.havesC (s : XS) (v : P7 Int) : XS × List Dot := ((nowF (s.merge v) (lineC (P7.all 0) [] (s.merge v).ins)).foldl XS.mark (s.merge v), nowF (s.merge v) (lineC (P7.all 0) [] (s.merge v).ins))
theorem haves_eq (s : XS) (v : P7 Int) : s.haves v = s.havesC v := by
  unfold XS.haves XS.havesC XS.now; rw [lineTop_eq]
def xa1 : XS := ⟨z7, [⟨inN 0 1 z7, ⟨1, 0, 0, 0, 0, 0, 0⟩, [98]⟩], []⟩
def xa2 : XS := ⟨⟨1, 0, 0, 0, 0, 0, 0⟩, [⟨inN 0 1 z7, ⟨1, 0, 0, 0, 0, 0, 0⟩, [98]⟩], [⟨0, 1⟩]⟩
theorem aw1 : XS.new.commit (inN 0 1 z7) ⟨1, 0, 0, 0, 0, 0, 0⟩ [98] = (xa1, 0) := by kernel_rfl
theorem aw2 : xa1.haves z7 = (xa1, []) := by rw [haves_eq]; kernel_rfl
theorem aw3 : xa1.haves ⟨1, 0, 0, 0, 0, 0, 0⟩ = (xa2, [⟨0, 1⟩]) := by rw [haves_eq]; kernel_rfl
theorem aw4 : xa2.bodyOf ⟨0, 1⟩ = [98] ∧ (xa2.find ⟨0, 1⟩).isSome = true := ⟨by kernel_rfl, by kernel_rfl⟩
section
variable {W0 W : World} {L L' : List Asn}
theorem lawDots23 {a b : Option Addr} {c d : Nat} {l m : List Dot} {k : Value → World → Prop} (h : St W0 L W) [hr : Rd W0 L a DOT l] [hr2 : Rd W0 L b DOT m] (hl : l.length < 4611686018427387904)
    (hk : ∀ W', St W0 L W' → k (.bool (decide (l = m))) W') : callK PR F_rostrumlaw23_dots [.slice a l.length c, .slice b m.length d] k W := by
  apply S.rostrumlaw23_dots.call
  unfold S.rostrumlaw23_dots.body
  refine refSameDots (a := a) (b := b) (l := l) (m := m) h hl fun W1 h => ?_
  (repeat (first | (first | (with_reducible (first | refine w1 fun _ _ => ?_ | refine w3 fun _ _ _ => ?_ | refine w4 fun _ _ _ => ?_ | refine w11 fun _ _ _ => ?_ | refine stb_n ?_)) | ((with_reducible refine w2 ?_); try simp -implicitDefEqProofs only [EN, lsub, lget, stL, beq_self_eq_true, ne_eq, if_true, if_false, List.cons_append, List.nil_append, Option.isNone_some, Option.isNone_none]; intro _ _) | ((with_reducible (first | refine w5 ?_ ?_ | refine w6 ?_ ?_ | refine w7 ?_ ?_)); simp; refine ⟨_, rfl, ?_⟩) | ((with_reducible (first | refine w8 ?_ ?_ ?_ | refine w9 ?_ ?_ ?_ | refine w10 ?_ ?_ ?_)); exact rfl; simp) | ((with_reducible refine w12 ?_ ?_ ?_ fun _ _ => ?_); simp; simp; simp [oneC]) | ((with_reducible (first | refine eqs ?_ | refine nes ?_)); refine ⟨_, rfl, ?_⟩) | ((refine okF_i (bldP_eq rfl) ?_); try simp only [BLS, List.take_succ_cons, List.take_zero, List.drop_succ_cons, List.drop_zero, List.cons_append, List.nil_append, Nat.reduceAdd])) | simp -implicitDefEqProofs only [EN, lsub, lget, stL, beq_self_eq_true, ne_eq, if_true, if_false, List.cons_append, List.nil_append, Option.isNone_some, Option.isNone_none]))
  exact hk _ h
theorem execCommit0 {p : Nat} {s : XS} {i : Ins} {w : P7 Int} {c : Nat} {k : Value → World → Prop} (h : St W0 (exo p s :: L) W)
    (hk : ∀ W', St W0 (exo p (s.commit i w []).1 :: L) W' → k (.int .i64 (s.commit i w []).2) W') : callK PR F_exec_Exec_Commit [.pointer (some ⟨p, 0, none⟩), .agg #[.int .i64 i.d.rep, .int .i64 i.d.n, .int .i64 i.s, .int .i64 i.v.x0, .int .i64 i.v.x1, .int .i64 i.v.x2, .int .i64 i.v.x3, .int .i64 i.v.x4, .int .i64 i.v.x5, .int .i64 i.v.x6], .agg #[.int .i64 w.x0, .int .i64 w.x1, .int .i64 w.x2, .int .i64 w.x3, .int .i64 w.x4, .int .i64 w.x5, .int .i64 w.x6], .slice none 0 c] k W := by
  haveI : Rd W0 L none B8 [] := Rd.nil _ _ _ _
  exact execCommit (bs := []) h hk
set_option maxRecDepth 100000 in
set_option maxHeartbeats 8000000 in
theorem lawAwake23 (h00 : W0.drawn = 0) {k : Value → World → Prop} (h : St W0 L W) (hk : ∀ W', St W0 L W' → k (.bool true) W') : callK PR F_rostrumlaw23_awake [] k W := by
  apply S.rostrumlaw23_awake.call
  unfold S.rostrumlaw23_awake.body
  refine execNew h fun p W1 h => ?_
  (repeat (first | (first | (with_reducible (first | refine w1 fun _ _ => ?_ | refine w3 fun _ _ _ => ?_ | refine w4 fun _ _ _ => ?_ | refine w11 fun _ _ _ => ?_ | refine stb_n ?_)) | ((with_reducible refine w2 ?_); try simp -implicitDefEqProofs only [EN, lsub, lget, stL, beq_self_eq_true, ne_eq, if_true, if_false, List.cons_append, List.nil_append, Option.isNone_some, Option.isNone_none]; intro _ _) | ((with_reducible (first | refine w5 ?_ ?_ | refine w6 ?_ ?_ | refine w7 ?_ ?_)); simp; refine ⟨_, rfl, ?_⟩) | ((with_reducible (first | refine w8 ?_ ?_ ?_ | refine w9 ?_ ?_ ?_ | refine w10 ?_ ?_ ?_)); exact rfl; simp) | ((with_reducible refine w12 ?_ ?_ ?_ fun _ _ => ?_); simp; simp; simp [oneC]) | ((with_reducible (first | refine eqs ?_ | refine nes ?_)); refine ⟨_, rfl, ?_⟩) | ((refine okF_i (bldP_eq rfl) ?_); try simp only [BLS, List.take_succ_cons, List.take_zero, List.drop_succ_cons, List.drop_zero, List.cons_append, List.nil_append, Nat.reduceAdd])) | simp -implicitDefEqProofs only [EN, lsub, lget, stL, beq_self_eq_true, ne_eq, if_true, if_false, List.cons_append, List.nil_append, Option.isNone_some, Option.isNone_none]))
  refine bl1 [98] (by first | assumption | exact St.tick (by assumption) | exact St.tick (St.tick (by assumption))) rfl (by decide) (by decide) rfl fun lb _ h => ?_
  refine bl2 [98] h (by decide) fun W2 h => ?_
  refine execCommit (s := XS.new) (i := inN 0 1 z7) (w := ⟨1, 0, 0, 0, 0, 0, 0⟩) (a := some ⟨lb, 0, none⟩) (bs := [98]) (St.wk (L' := exo p XS.new :: arr B8 T_uint8 (some ⟨lb, 0, none⟩) 1 [98] :: L) h) fun W3 h => ?_
  rw [aw1] at h ⊢
  (repeat (first | (first | (with_reducible (first | refine w1 fun _ _ => ?_ | refine w3 fun _ _ _ => ?_ | refine w4 fun _ _ _ => ?_ | refine w11 fun _ _ _ => ?_ | refine stb_n ?_)) | ((with_reducible refine w2 ?_); try simp -implicitDefEqProofs only [EN, lsub, lget, stL, beq_self_eq_true, ne_eq, if_true, if_false, List.cons_append, List.nil_append, Option.isNone_some, Option.isNone_none]; intro _ _) | ((with_reducible (first | refine w5 ?_ ?_ | refine w6 ?_ ?_ | refine w7 ?_ ?_)); simp; refine ⟨_, rfl, ?_⟩) | ((with_reducible (first | refine w8 ?_ ?_ ?_ | refine w9 ?_ ?_ ?_ | refine w10 ?_ ?_ ?_)); exact rfl; simp) | ((with_reducible refine w12 ?_ ?_ ?_ fun _ _ => ?_); simp; simp; simp [oneC]) | ((with_reducible (first | refine eqs ?_ | refine nes ?_)); refine ⟨_, rfl, ?_⟩) | ((refine okF_i (bldP_eq rfl) ?_); try simp only [BLS, List.take_succ_cons, List.take_zero, List.drop_succ_cons, List.drop_zero, List.cons_append, List.nil_append, Nat.reduceAdd])) | simp -implicitDefEqProofs only [EN, lsub, lget, stL, beq_self_eq_true, ne_eq, if_true, if_false, List.cons_append, List.nil_append, Option.isNone_some, Option.isNone_none]))
  refine execHave (s := xa1) (v := z7) h00 h (by decide) (by decide) (line0_len _ _) fun a1 c1 W4 h => ?_
  rw [aw2] at h ⊢
  (repeat (first | (first | (with_reducible (first | refine w1 fun _ _ => ?_ | refine w3 fun _ _ _ => ?_ | refine w4 fun _ _ _ => ?_ | refine w11 fun _ _ _ => ?_ | refine stb_n ?_)) | ((with_reducible refine w2 ?_); try simp -implicitDefEqProofs only [EN, lsub, lget, stL, beq_self_eq_true, ne_eq, if_true, if_false, List.cons_append, List.nil_append, Option.isNone_some, Option.isNone_none]; intro _ _) | ((with_reducible (first | refine w5 ?_ ?_ | refine w6 ?_ ?_ | refine w7 ?_ ?_)); simp; refine ⟨_, rfl, ?_⟩) | ((with_reducible (first | refine w8 ?_ ?_ ?_ | refine w9 ?_ ?_ ?_ | refine w10 ?_ ?_ ?_)); exact rfl; simp) | ((with_reducible refine w12 ?_ ?_ ?_ fun _ _ => ?_); simp; simp; simp [oneC]) | ((with_reducible (first | refine eqs ?_ | refine nes ?_)); refine ⟨_, rfl, ?_⟩) | ((refine okF_i (bldP_eq rfl) ?_); try simp only [BLS, List.take_succ_cons, List.take_zero, List.drop_succ_cons, List.drop_zero, List.cons_append, List.nil_append, Nat.reduceAdd])) | simp -implicitDefEqProofs only [EN, lsub, lget, stL, beq_self_eq_true, ne_eq, if_true, if_false, List.cons_append, List.nil_append, Option.isNone_some, Option.isNone_none]))
  refine execHave (s := xa1) (v := ⟨1, 0, 0, 0, 0, 0, 0⟩) h00 (St.wk (L' := exo p xa1 :: arr DOT T_api_Dot a1 c1 [] :: L) h) (by decide) (by decide) (line0_len _ _) fun a2 c2 W5 h => ?_
  rw [aw3] at h ⊢
  (repeat (first | (first | (with_reducible (first | refine w1 fun _ _ => ?_ | refine w3 fun _ _ _ => ?_ | refine w4 fun _ _ _ => ?_ | refine w11 fun _ _ _ => ?_ | refine stb_n ?_)) | ((with_reducible refine w2 ?_); try simp -implicitDefEqProofs only [EN, lsub, lget, stL, beq_self_eq_true, ne_eq, if_true, if_false, List.cons_append, List.nil_append, Option.isNone_some, Option.isNone_none]; intro _ _) | ((with_reducible (first | refine w5 ?_ ?_ | refine w6 ?_ ?_ | refine w7 ?_ ?_)); simp; refine ⟨_, rfl, ?_⟩) | ((with_reducible (first | refine w8 ?_ ?_ ?_ | refine w9 ?_ ?_ ?_ | refine w10 ?_ ?_ ?_)); exact rfl; simp) | ((with_reducible refine w12 ?_ ?_ ?_ fun _ _ => ?_); simp; simp; simp [oneC]) | ((with_reducible (first | refine eqs ?_ | refine nes ?_)); refine ⟨_, rfl, ?_⟩) | ((refine okF_i (bldP_eq rfl) ?_); try simp only [BLS, List.take_succ_cons, List.take_zero, List.drop_succ_cons, List.drop_zero, List.cons_append, List.nil_append, Nat.reduceAdd])) | simp -implicitDefEqProofs only [EN, lsub, lget, stL, beq_self_eq_true, ne_eq, if_true, if_false, List.cons_append, List.nil_append, Option.isNone_some, Option.isNone_none]))
  refine execBody (s := xa2) (d := ⟨0, 1⟩) (St.wk (L' := exo p xa2 :: arr DOT T_api_Dot a2 c2 [⟨0, 1⟩] :: L) h) (by decide) fun a3 c3 W6 h => ?_
  rw [aw4.1] at h ⊢
  rw [aw4.2]
  (repeat (first | (first | (with_reducible (first | refine w1 fun _ _ => ?_ | refine w3 fun _ _ _ => ?_ | refine w4 fun _ _ _ => ?_ | refine w11 fun _ _ _ => ?_ | refine stb_n ?_)) | ((with_reducible refine w2 ?_); try simp -implicitDefEqProofs only [EN, lsub, lget, stL, beq_self_eq_true, ne_eq, if_true, if_false, List.cons_append, List.nil_append, Option.isNone_some, Option.isNone_none]; intro _ _) | ((with_reducible (first | refine w5 ?_ ?_ | refine w6 ?_ ?_ | refine w7 ?_ ?_)); simp; refine ⟨_, rfl, ?_⟩) | ((with_reducible (first | refine w8 ?_ ?_ ?_ | refine w9 ?_ ?_ ?_ | refine w10 ?_ ?_ ?_)); exact rfl; simp) | ((with_reducible refine w12 ?_ ?_ ?_ fun _ _ => ?_); simp; simp; simp [oneC]) | ((with_reducible (first | refine eqs ?_ | refine nes ?_)); refine ⟨_, rfl, ?_⟩) | ((refine okF_i (bldP_eq rfl) ?_); try simp only [BLS, List.take_succ_cons, List.take_zero, List.drop_succ_cons, List.drop_zero, List.cons_append, List.nil_append, Nat.reduceAdd])) | simp -implicitDefEqProofs only [EN, lsub, lget, stL, beq_self_eq_true, ne_eq, if_true, if_false, List.cons_append, List.nil_append, Option.isNone_some, Option.isNone_none]))
  refine bsA DOT [(⟨0, 1⟩ : Dot)] (n := 1) (by first | assumption | exact St.tick (by assumption) | exact St.tick (St.tick (by assumption))) rfl rfl (by decide) (by decide) rfl fun a4 c4 W7 h => ?_
  refine lawDots23 (a := a2) (b := a4) (l := [⟨0, 1⟩]) (m := [⟨0, 1⟩]) h (by decide) fun W8 h => ?_
  (repeat (first | (first | (with_reducible (first | refine w1 fun _ _ => ?_ | refine w3 fun _ _ _ => ?_ | refine w4 fun _ _ _ => ?_ | refine w11 fun _ _ _ => ?_ | refine stb_n ?_)) | ((with_reducible refine w2 ?_); try simp -implicitDefEqProofs only [EN, lsub, lget, stL, beq_self_eq_true, ne_eq, if_true, if_false, List.cons_append, List.nil_append, Option.isNone_some, Option.isNone_none]; intro _ _) | ((with_reducible (first | refine w5 ?_ ?_ | refine w6 ?_ ?_ | refine w7 ?_ ?_)); simp; refine ⟨_, rfl, ?_⟩) | ((with_reducible (first | refine w8 ?_ ?_ ?_ | refine w9 ?_ ?_ ?_ | refine w10 ?_ ?_ ?_)); exact rfl; simp) | ((with_reducible refine w12 ?_ ?_ ?_ fun _ _ => ?_); simp; simp; simp [oneC]) | ((with_reducible (first | refine eqs ?_ | refine nes ?_)); refine ⟨_, rfl, ?_⟩) | ((refine okF_i (bldP_eq rfl) ?_); try simp only [BLS, List.take_succ_cons, List.take_zero, List.drop_succ_cons, List.drop_zero, List.cons_append, List.nil_append, Nat.reduceAdd])) | simp -implicitDefEqProofs only [EN, lsub, lget, stL, beq_self_eq_true, ne_eq, if_true, if_false, List.cons_append, List.nil_append, Option.isNone_some, Option.isNone_none]))
  refine b2s (a := a3) (l := [98]) (by first | assumption | exact St.tick (by assumption) | exact St.tick (St.tick (by assumption))) ?_
  (repeat (first | (first | (with_reducible (first | refine w1 fun _ _ => ?_ | refine w3 fun _ _ _ => ?_ | refine w4 fun _ _ _ => ?_ | refine w11 fun _ _ _ => ?_ | refine stb_n ?_)) | ((with_reducible refine w2 ?_); try simp -implicitDefEqProofs only [EN, lsub, lget, stL, beq_self_eq_true, ne_eq, if_true, if_false, List.cons_append, List.nil_append, Option.isNone_some, Option.isNone_none, eq_self]; intro _ _) | ((with_reducible (first | refine w5 ?_ ?_ | refine w6 ?_ ?_ | refine w7 ?_ ?_)); simp; refine ⟨_, rfl, ?_⟩) | ((with_reducible (first | refine w8 ?_ ?_ ?_ | refine w9 ?_ ?_ ?_ | refine w10 ?_ ?_ ?_)); exact rfl; simp) | ((with_reducible refine w12 ?_ ?_ ?_ fun _ _ => ?_); simp; simp; simp [oneC]) | ((with_reducible (first | refine eqs ?_ | refine nes ?_)); refine ⟨_, rfl, ?_⟩) | ((refine okF_i (bldP_eq rfl) ?_); try simp only [BLS, List.take_succ_cons, List.take_zero, List.drop_succ_cons, List.drop_zero, List.cons_append, List.nil_append, Nat.reduceAdd])) | simp -implicitDefEqProofs only [EN, lsub, lget, stL, beq_self_eq_true, ne_eq, if_true, if_false, List.cons_append, List.nil_append, Option.isNone_some, Option.isNone_none, eq_self]))
  refine execWaits (s := xa2) (St.wk (L' := exo p xa2 :: L) (by first | assumption | exact St.tick (by assumption) | exact St.tick (St.tick (by assumption)))) (by decide) (by decide) fun W9 h => ?_
  have d0 : decide ((xa2.cs.length : Int) - (xa2.done.length : Int) = 0) = true := by decide
  (repeat (first | (first | (with_reducible (first | refine w1 fun _ _ => ?_ | refine w3 fun _ _ _ => ?_ | refine w4 fun _ _ _ => ?_ | refine w11 fun _ _ _ => ?_ | refine stb_n ?_)) | ((with_reducible refine w2 ?_); try simp -implicitDefEqProofs only [EN, lsub, lget, stL, beq_self_eq_true, ne_eq, if_true, if_false, List.cons_append, List.nil_append, Option.isNone_some, Option.isNone_none, d0]; intro _ _) | ((with_reducible (first | refine w5 ?_ ?_ | refine w6 ?_ ?_ | refine w7 ?_ ?_)); simp; refine ⟨_, rfl, ?_⟩) | ((with_reducible (first | refine w8 ?_ ?_ ?_ | refine w9 ?_ ?_ ?_ | refine w10 ?_ ?_ ?_)); exact rfl; simp) | ((with_reducible refine w12 ?_ ?_ ?_ fun _ _ => ?_); simp; simp; simp [oneC]) | ((with_reducible (first | refine eqs ?_ | refine nes ?_)); refine ⟨_, rfl, ?_⟩) | ((refine okF_i (bldP_eq rfl) ?_); try simp only [BLS, List.take_succ_cons, List.take_zero, List.drop_succ_cons, List.drop_zero, List.cons_append, List.nil_append, Nat.reduceAdd])) | simp -implicitDefEqProofs only [EN, lsub, lget, stL, beq_self_eq_true, ne_eq, if_true, if_false, List.cons_append, List.nil_append, Option.isNone_some, Option.isNone_none, d0]))
  exact hk _ (St.wk (L' := L) h)
end
end Go.Proofs.Ytkjhccpanedccaa
namespace Go.Proofs.Ytkjhccpanedccaa
set_option linter.unusedVariables false
set_option linter.unusedSimpArgs false
open Go Go.Eng Go.Tar Go.Sort Go.RowKit
structure ActX where
  op : Int
  i : Ins
  v : P7 Int
  b : BSl
instance : Inhabited ActX := ⟨⟨0, default, P7.all 0, ⟨none, 0, []⟩⟩⟩
def AXL : Ly ActX := ⟨19, by omega, fun x => [.int .i64 x.op, .int .i64 x.i.d.rep, .int .i64 x.i.d.n, .int .i64 x.i.s, .int .i64 x.i.v.x0, .int .i64 x.i.v.x1, .int .i64 x.i.v.x2, .int .i64 x.i.v.x3, .int .i64 x.i.v.x4, .int .i64 x.i.v.x5, .int .i64 x.i.v.x6, .int .i64 x.v.x0, .int .i64 x.v.x1, .int .i64 x.v.x2, .int .i64 x.v.x3, .int .i64 x.v.x4, .int .i64 x.v.x5, .int .i64 x.v.x6, x.b.v], fun _ => rfl, fun _ => rfl⟩
noncomputable def XS.act (s : XS) (a : ActX) : XS := if a.op = 0 then (s.commit a.i a.v a.b.bs).1 else (s.haves a.v).1
noncomputable def runX (l : List ActX) : XS := l.foldl XS.act XS.new
theorem runX_succ (l : List ActX) {i : Nat} (hi : i < l.length) : runX (l.take (i + 1)) = (runX (l.take i)).act l[i] := by
  unfold runX; rw [List.take_succ_eq_append_getElem hi, List.foldl_append]; rfl
section
variable {s : XS} {d e : Dot} {v : P7 Int} {l : List ActX}
theorem find_some {c : Cmd} (h : s.find d = some c) : c ∈ s.cs ∧ c.i.d = d := by
  unfold XS.find at h
  exact ⟨List.mem_of_find?_eq_some h, by simpa using List.find?_some h⟩
theorem leV_merge (a b : P7 Int) : leV a (vmerge a b) = true := (leV_iff _ _).2 fun j hj => by
  rw [vmerge, P7.get_zip]; unfold imax; split <;> omega
theorem leV_trans {a b c : P7 Int} (h1 : leV a b = true) (h2 : leV b c = true) : leV a c = true := (leV_iff _ _).2 fun j hj => by
  have := (leV_iff _ _).1 h1 j hj; have := (leV_iff _ _).1 h2 j hj; omega
/-- what is executed is there, had what it waits for, and is so once -/
structure XOk (s : XS) : Prop where
  nd : s.done.Nodup
  fd : ∀ d ∈ s.done, ∃ c, s.find d = some c ∧ leV c.w s.have_ = true
theorem nowF_sub (s : XS) : ∀ l : List Dot, ∀ d ∈ nowF s l, d ∈ l ∧ d ∉ s.done ∧ leV (s.waitOf d) s.have_ = true
  | [], d, h => by cases h
  | e :: l, d, h => by
    rw [nowF_cons] at h
    by_cases h1 : e ∈ s.done
    · rw [if_pos h1] at h
      have := nowF_sub s l d h
      exact ⟨by simp [this.1], this.2⟩
    · rw [if_neg h1] at h
      by_cases h2 : leV (s.waitOf e) s.have_ = true
      · rw [if_pos h2] at h
        rcases List.mem_cons.1 h with rfl | h
        · exact ⟨by simp, h1, h2⟩
        · have := nowF_sub s l d h
          exact ⟨by simp [this.1], this.2⟩
      · rw [if_neg h2] at h; cases h
theorem mark_ok (h : XOk s) (hw : leV (s.waitOf d) s.have_ = true) : XOk (s.mark d) := by
  unfold XS.mark
  split
  · rename_i hc
    rw [Bool.and_eq_true, Bool.not_eq_true', decide_eq_false_iff_not] at hc
    obtain ⟨hc, hn⟩ := hc
    obtain ⟨c, hc⟩ := Option.isSome_iff_exists.1 hc
    have hw2 : leV c.w s.have_ = true := by unfold XS.waitOf at hw; rw [hc] at hw; exact hw
    refine ⟨?_, fun e he => ?_⟩
    · show (s.done ++ [d]).Nodup
      rw [List.nodup_append]
      exact ⟨h.nd, by simp, fun a ha b hb e => hn (by rw [List.mem_singleton] at hb; rw [← hb, ← e]; exact ha)⟩
    · rcases List.mem_append.1 he with he | he
      · exact h.fd e he
      · rw [List.mem_singleton.1 he]; exact ⟨c, hc, hw2⟩
  · exact h
theorem marks_ok : ∀ (now : List Dot) (s : XS), XOk s → (∀ d ∈ now, leV (s.waitOf d) s.have_ = true) → XOk (now.foldl XS.mark s)
  | [], s, h, _ => h
  | d :: now, s, h, hw => by
    refine marks_ok now _ (mark_ok h (hw d (by simp))) fun e he => ?_
    have hm := mark_cs s d
    have : (s.mark d).waitOf e = s.waitOf e := by unfold XS.waitOf XS.find; rw [hm.1]
    rw [this, hm.2]; exact hw e (by simp [he])
theorem marks_pre : ∀ (now : List Dot) (s : XS), ∃ r, (now.foldl XS.mark s).done = s.done ++ r ∧ (now.foldl XS.mark s).cs = s.cs ∧ (now.foldl XS.mark s).have_ = s.have_
  | [], s => ⟨[], by simp, rfl, rfl⟩
  | d :: now, s => by
    obtain ⟨r, h1, h2, h3⟩ := marks_pre now (s.mark d)
    have hm := mark_cs s d
    have hd : ∃ q, (s.mark d).done = s.done ++ q := by unfold XS.mark; split; exact ⟨[d], rfl⟩; exact ⟨[], by simp⟩
    obtain ⟨q, hq⟩ := hd
    refine ⟨q ++ r, ?_, h2.trans hm.1, h3.trans hm.2⟩
    rw [List.foldl_cons, h1, hq, List.append_assoc]
theorem merge_ok (h : XOk s) (v : P7 Int) : XOk (s.merge v) := by
  unfold XS.merge
  split
  · refine ⟨h.nd, fun d hd => ?_⟩
    obtain ⟨c, h1, h2⟩ := h.fd d hd
    exact ⟨c, h1, leV_trans h2 (leV_merge _ _)⟩
  · exact h
theorem haves_ok (h : XOk s) (v : P7 Int) : XOk (s.haves v).1 := marks_ok _ _ (merge_ok h v) fun d hd => (nowF_sub _ _ d hd).2.2
theorem haves_pre (s : XS) (v : P7 Int) : ∃ r, (s.haves v).1.done = s.done ++ r ∧ (s.haves v).1.cs = s.cs ∧ (s.haves v).1.have_ = (s.merge v).have_ := by
  obtain ⟨r, h1, h2, h3⟩ := marks_pre (s.merge v).now (s.merge v)
  have e1 : (s.merge v).done = s.done := by unfold XS.merge; split <;> rfl
  have e2 : (s.merge v).cs = s.cs := by unfold XS.merge; split <;> rfl
  exact ⟨r, by rw [← e1]; exact h1, h2.trans e2, h3⟩
theorem commit_cases (s : XS) (i : Ins) (w : P7 Int) (bs : List UInt8) : (s.commit i w bs).1 = s ∨ ((s.commit i w bs).1 = ⟨s.have_, s.cs ++ [⟨i, w, bs⟩], s.done⟩ ∧ goodO [i] = true ∧ goodV w = true ∧ bs.length ≤ 65536 ∧ s.find i.d = none ∧ s.cs.length < 1000) := by
  unfold XS.commit
  by_cases h1 : goodO [i] = false ∨ goodV w = false ∨ 65536 < bs.length
  · rw [if_pos h1]; exact .inl rfl
  · rw [if_neg h1]
    by_cases h2 : (s.find i.d).isSome = true
    · rw [if_pos h2]; exact .inl rfl
    · rw [if_neg h2]
      by_cases h3 : 1000 ≤ s.cs.length
      · rw [if_pos h3]; exact .inl rfl
      · rw [if_neg h3]
        simp only [not_or, Bool.not_eq_false] at h1
        exact .inr ⟨rfl, h1.1, h1.2.1, by omega, by simpa using h2, by omega⟩
theorem find_app {c : Cmd} (s : XS) (h : XS.find s d = some c) (y : Cmd) : XS.find ⟨s.have_, s.cs ++ [y], s.done⟩ d = some c := by
  unfold XS.find at h ⊢
  rw [List.find?_append, h]; rfl
theorem commit_ok (h : XOk s) (i : Ins) (w : P7 Int) (bs : List UInt8) : XOk (s.commit i w bs).1 := by
  rcases commit_cases s i w bs with e | ⟨e, _⟩ <;> rw [e]
  · exact h
  · refine ⟨h.nd, fun d hd => ?_⟩
    obtain ⟨c, h1, h2⟩ := h.fd d hd
    exact ⟨c, find_app s h1 _, h2⟩
theorem commit_len (s : XS) (i : Ins) (w : P7 Int) (bs : List UInt8) : (s.commit i w bs).1.cs.length ≤ s.cs.length + 1 ∧ (s.commit i w bs).1.done = s.done ∧ (s.commit i w bs).1.have_ = s.have_ := by
  rcases commit_cases s i w bs with e | ⟨e, _⟩ <;> rw [e]
  · exact ⟨by omega, rfl, rfl⟩
  · exact ⟨by simp, rfl, rfl⟩
def mat (d : Dot) (a : ActX) : Bool := decide (a.op = 0) && decide (a.i.d = d) && goodV a.v && decide (a.b.bs.length ≤ 65536)
def firstO (a : ActX) : Bool := depsO a.i && decide (0 ≤ a.i.s) && decide (a.i.s ≤ 1099511627776)
def waitedO (l : List ActX) (d : Dot) (h : P7 Int) : Bool := match l.find? (mat d) with
  | some a => leV a.v h || !firstO a
  | none => false
theorem good1 {i : Ins} : goodO [i] = true ↔ dotO i.d = true ∧ depsO i = true ∧ 0 ≤ i.s ∧ i.s ≤ 1099511627776 := by
  rw [goodO_iff]
  constructor
  · rintro ⟨h, _, _⟩
    obtain ⟨h1, h2⟩ := h i (by simp)
    unfold insOne at h1
    simp only [Bool.and_eq_true, Bool.not_eq_true', decide_eq_false_iff_not] at h1
    exact ⟨h1.1.1, h2, by omega, by omega⟩
  · rintro ⟨h1, h2, h3, h4⟩
    refine ⟨fun x hx => ?_, by simp, by simp⟩
    rw [List.mem_singleton.1 hx]
    refine ⟨?_, h2⟩
    unfold insOne
    simp only [Bool.and_eq_true, Bool.not_eq_true', decide_eq_false_iff_not]
    exact ⟨⟨h1, by omega⟩, by omega⟩
/-- what was committed, by the acts so far -/
structure XW (l : List ActX) (s : XS) : Prop where
  ok : XOk s
  len : s.cs.length ≤ l.length
  fst : ∀ d c, s.find d = some c → ∃ a, l.find? (mat d) = some a ∧ (firstO a = true → c.w = a.v)
  all : ∀ a ∈ l, a.op = 0 → goodO [a.i] = true → goodV a.v = true → a.b.bs.length ≤ 65536 → (s.find a.i.d).isSome = true
  dot : ∀ c ∈ s.cs, goodO [c.i] = true ∧ c.bs.length ≤ 65536
theorem new_xw : XW [] XS.new := ⟨⟨List.nodup_nil, fun d h => by cases h⟩, by simp [XS.new], fun d c h => (by cases h), fun a h => (by cases h), fun c h => (by cases h)⟩
theorem find_none_app {y : Cmd} (h : s.find d = none) : XS.find ⟨s.have_, s.cs ++ [y], s.done⟩ d = if y.i.d = d then some y else none := by
  unfold XS.find at h ⊢
  rw [List.find?_append, h, Option.none_or, List.find?_singleton]
  by_cases e : y.i.d = d <;> simp [e]
theorem act_xw (h : XW l s) (a : ActX) (hl : l.length ≤ 100) : XW (l ++ [a]) (s.act a) := by
  have fapp : ∀ d x, l.find? (mat d) = some x → (l ++ [a]).find? (mat d) = some x := fun d x e => by rw [List.find?_append, e]; rfl
  unfold XS.act
  by_cases h0 : a.op = 0
  · rw [if_pos h0]
    have hlen := commit_len s a.i a.v a.b.bs
    rcases commit_cases s a.i a.v a.b.bs with e | ⟨e, g1, g2, g3, g4, _⟩
    · have hall : a.op = 0 → goodO [a.i] = true → goodV a.v = true → a.b.bs.length ≤ 65536 → (s.find a.i.d).isSome = true := fun _ g1 g2 g3 => by
        refine Classical.byContradiction fun hn => ?_
        have hll := h.len
        have : (s.commit a.i a.v a.b.bs).1 = ⟨s.have_, s.cs ++ [⟨a.i, a.v, a.b.bs⟩], s.done⟩ := by
          unfold XS.commit
          rw [if_neg (by rintro (x | x | x); rw [g1] at x; cases x; rw [g2] at x; cases x; omega), if_neg hn, if_neg (by omega)]
        rw [e] at this
        have := congrArg (fun x => x.cs.length) this
        simp at this
      rw [e]
      refine ⟨h.ok, by simp; have := h.len; omega, fun d c hf => ?_, fun b hb => ?_, h.dot⟩
      · obtain ⟨x, h1, h2⟩ := h.fst d c hf
        exact ⟨x, fapp d x h1, h2⟩
      · rcases List.mem_append.1 hb with hb | hb
        · exact h.all b hb
        · rw [List.mem_singleton.1 hb]; exact hall
    · rw [e]
      have hok : XOk ⟨s.have_, s.cs ++ [⟨a.i, a.v, a.b.bs⟩], s.done⟩ := by rw [← e]; exact commit_ok h.ok _ _ _
      refine ⟨hok, by simp; exact h.len, fun d c hf => ?_, fun b hb b0 b1 b2 b3 => ?_, fun c hc => ?_⟩
      · cases hfd : s.find d with
        | some c' =>
          rw [find_app s hfd] at hf
          obtain ⟨x, h1, h2⟩ := h.fst d c' hfd
          exact ⟨x, fapp d x h1, by cases hf; exact h2⟩
        | none =>
          rw [find_none_app hfd] at hf
          by_cases hd : a.i.d = d
          · rw [if_pos hd] at hf
            cases hf
            have hma : mat d a = true := by unfold mat; simp [h0, hd, g2, g3]
            cases hq : l.find? (mat d) with
            | none => exact ⟨a, by rw [List.find?_append, hq, Option.none_or, List.find?_singleton, hma]; rfl, fun _ => rfl⟩
            | some x =>
              refine ⟨x, fapp d x hq, fun hfx => ?_⟩
              have hxm := List.mem_of_find?_eq_some hq
              have hxp := List.find?_some hq
              unfold mat at hxp
              simp only [Bool.and_eq_true, decide_eq_true_eq] at hxp
              obtain ⟨⟨⟨x0, x1⟩, x2⟩, x3⟩ := hxp
              unfold firstO at hfx
              simp only [Bool.and_eq_true, decide_eq_true_eq] at hfx
              have hgx : goodO [x.i] = true := good1.2 ⟨by rw [x1, ← hd]; exact (good1.1 g1).1, hfx.1.1, hfx.1.2, hfx.2⟩
              have := h.all x hxm x0 hgx x2 x3
              rw [x1, hfd] at this; cases this
          · rw [if_neg hd] at hf; cases hf
      · rcases List.mem_append.1 hb with hb | hb
        · obtain ⟨c, hc⟩ := Option.isSome_iff_exists.1 (h.all b hb b0 b1 b2 b3)
          rw [find_app s hc]; rfl
        · rw [List.mem_singleton.1 hb, find_none_app g4, if_pos rfl]; rfl
      · rcases List.mem_append.1 hc with hc | hc
        · exact h.dot c hc
        · rw [List.mem_singleton.1 hc]; exact ⟨g1, g3⟩
  · rw [if_neg h0]
    obtain ⟨r, h1, h2, h3⟩ := haves_pre s a.v
    have hf : ∀ d, (s.haves a.v).1.find d = s.find d := fun d => by unfold XS.find; rw [h2]
    refine ⟨haves_ok h.ok a.v, by rw [h2]; simp; have := h.len; omega, fun d c hfd => ?_, fun b hb b0 b1 b2 b3 => ?_, fun c hc => h.dot c (by rw [← h2]; exact hc)⟩
    · rw [hf] at hfd
      obtain ⟨x, g1, g2⟩ := h.fst d c hfd
      exact ⟨x, fapp d x g1, g2⟩
    · rw [hf]
      rcases List.mem_append.1 hb with hb | hb
      · exact h.all b hb b0 b1 b2 b3
      · rw [List.mem_singleton.1 hb] at b0; exact absurd b0 h0
theorem run_xw (l : List ActX) (hl : l.length ≤ 100) : ∀ i, i ≤ l.length → XW (l.take i) (runX (l.take i))
  | 0, _ => new_xw
  | i + 1, hi => by
    have ih := run_xw l hl i (by omega)
    rw [runX_succ l (by omega), List.take_succ_eq_append_getElem (by omega)]
    exact act_xw ih _ (by simp; omega)
theorem done_waited (h : XW l s) (hd : d ∈ s.done) : waitedO l d s.have_ = true ∧ (s.find d).isSome = true := by
  obtain ⟨c, h1, h2⟩ := h.ok.fd d hd
  obtain ⟨a, h3, h4⟩ := h.fst d c h1
  refine ⟨?_, by rw [h1]; rfl⟩
  unfold waitedO
  rw [h3]
  cases hf : firstO a with
  | false => simp [hf]
  | true => simp [← h4 hf, h2]
theorem done_len (h : XW l s) (hl : l.length ≤ 100) : s.done.length ≤ 100000 := by
  have hn := h.ok.nd
  have hsub : s.done ⊆ s.cs.map (fun c => c.i.d) := fun d hd => by
    obtain ⟨c, h1, _⟩ := h.ok.fd d hd
    exact List.mem_map.2 ⟨c, (find_some h1).1, (find_some h1).2⟩
  have h1 := hn.length_le_of_subset hsub
  have h2 := h.len
  rw [List.length_map] at h1
  omega
theorem act_pre (s : XS) (a : ActX) : ∃ r, (s.act a).done = s.done ++ r := by
  unfold XS.act
  split
  · exact ⟨[], by rw [(commit_len s _ _ _).2.1]; simp⟩
  · obtain ⟨r, h, _⟩ := haves_pre s a.v; exact ⟨r, h⟩
end
end Go.Proofs.Ytkjhccpanedccaa
namespace Go.Proofs.Ytkjhccpanedccaa
set_option linter.unusedVariables false
set_option linter.unusedSimpArgs false
open Go Go.Eng Go.Tar Go.Sort Go.RowKit
section
variable {l m : List Ins} {x y : Ins} {d : Dot}
theorem depsL_mem : d ∈ depsL x ↔ (0 ≤ d.rep ∧ d.rep < 7) ∧ (1 ≤ d.n ∧ d.n ≤ x.v.get d.rep.toNat) ∧ d ≠ x.d := by
  unfold depsL depsR
  simp only [List.mem_flatMap, List.mem_range, List.mem_filter, List.mem_map, Bool.not_eq_true', decide_eq_false_iff_not]
  constructor
  · rintro ⟨r, hr, ⟨k, hk, rfl⟩, hne⟩
    refine ⟨⟨by simp only; omega, by simp only; omega⟩, ⟨by simp only; omega, ?_⟩, hne⟩
    simp only [Int.toNat_natCast]; omega
  · rintro ⟨⟨h1, h2⟩, ⟨h3, h4⟩, h5⟩
    obtain ⟨r, n⟩ := d
    simp only at h1 h2 h3 h4
    refine ⟨r.toNat, by omega, ⟨(n - 1).toNat, by omega, ?_⟩, h5⟩
    rw [Dot.mk.injEq]
    constructor <;> omega
theorem insOne_dot (h : insOne x = true) : (0 ≤ x.d.rep ∧ x.d.rep < 7) ∧ 1 ≤ x.d.n ∧ x.d.n ≤ 1000 := by
  unfold insOne dotO at h
  simp only [Bool.and_eq_true, decide_eq_true_eq] at h
  exact ⟨⟨h.1.1.1.1.1, h.1.1.1.1.2⟩, h.1.1.1.2, h.1.1.2⟩
def q0 : Dot → Bool := isO (P7.all 0) []
theorem q0_no (h : 1 ≤ d.n) : q0 d = false := by
  unfold q0 isO
  rw [P7.get_all, decide_eq_false (by omega)]; simp
theorem q0_deps (h : d ∈ depsL x) : q0 d = false := q0_no (depsL_mem.1 h).2.1.1
theorem q0_good (hg : goodO l = true) : ∀ y ∈ l, q0 y.d = false := fun y hy => q0_no (insOne_dot ((goodO_iff.1 hg).1 y hy).1).2.1
theorem q0_all (hg : goodO l = true) : (l.filter fun x => !q0 x.d) = l := by
  rw [List.filter_eq_self]
  intro y hy
  rw [q0_good hg y hy]; rfl
theorem good_sub (hg : goodO l = true) (hs : m.Sublist l) : goodO m = true := by
  obtain ⟨h1, h2, h3⟩ := goodO_iff.1 hg
  exact goodO_iff.2 ⟨fun x hx => h1 x (hs.mem hx), h2.sublist (hs.map _), Nat.le_trans hs.length_le h3⟩
/-- the line of what is done nowhere -/
theorem line0_eq (hg : goodO l = true) : lineTop (P7.all 0) [] l = (lineK (keptO q0 l)).map (·.d) := by
  unfold lineTop
  rw [if_pos hg, show isO (P7.all 0) [] = q0 from rfl, lineO_eq, q0_all hg]
theorem kept0_closed (hx : x ∈ keptO q0 l) (hd : d ∈ depsL x) : ∃ y ∈ keptO q0 l, y.d = d := by
  rcases kept_closed hx hd with h | h
  · rw [q0_deps hd] at h; cases h
  · exact h
theorem kept0_mono (hn : (l.map (·.d)).Nodup) (hg : goodO l = true) (hs : ∀ x ∈ m, x ∈ l) : ∀ x ∈ keptO q0 m, x ∈ keptO q0 l := fun x hx =>
  kept_great (C := fun x => x ∈ keptO q0 m) hn (q0_good hg) (fun x hx => hs x (kept_mem.1 hx).1) (fun x hx d hd => .inr (kept0_closed hx hd)) hx
theorem line0_prefix (hg : goodO l = true) (hgm : goodO m = true) (hs : ∀ x ∈ m, x ∈ l) (hT : ∀ x ∈ l, ∀ y ∈ l, x ≠ y → x.d ∈ depsL y ∨ y.d ∈ depsL x) :
    lineTop (P7.all 0) [] m = (lineTop (P7.all 0) [] l).take (lineTop (P7.all 0) [] m).length := by
  have hn := (goodO_iff.1 hg).2.1
  have hnm := (goodO_iff.1 hgm).2.1
  rw [line0_eq hg, line0_eq hgm, List.length_map, ← List.map_take]
  congr 1
  exact line_prefix (kept_nodup hn) (kept_nodup hnm) (kept0_mono hn hg hs) (fun x hx d hd => kept0_closed hx hd) fun x hx y hy hne => hT x (kept_mem.1 hx).1 y (kept_mem.1 hy).1 hne
/-- they hang together -/
def tog (x y : Ins) : Bool := !(decide (x.v.get y.d.rep.toNat < y.d.n) && decide (y.v.get x.d.rep.toNat < x.d.n))
theorem tog_deps (hx : insOne x = true) (hy : insOne y = true) (hne : x.d ≠ y.d) (h : tog x y = true) : x.d ∈ depsL y ∨ y.d ∈ depsL x := by
  have h1 := insOne_dot hx
  have h2 := insOne_dot hy
  unfold tog at h
  rw [Bool.not_eq_true', Bool.and_eq_false_iff, decide_eq_false_iff_not, decide_eq_false_iff_not] at h
  rcases h with h | h
  · exact .inr (depsL_mem.2 ⟨h2.1, ⟨h2.2.1, by omega⟩, fun e => hne e.symm⟩)
  · exact .inl (depsL_mem.2 ⟨h1.1, ⟨h1.2.1, by omega⟩, hne⟩)
theorem tog_all (hg : goodO l = true) (hT : ∀ i (hi : i < l.length) k (hk : k < i), tog l[i] l[k] = true) : ∀ x ∈ l, ∀ y ∈ l, x ≠ y → x.d ∈ depsL y ∨ y.d ∈ depsL x := by
  obtain ⟨h1, h2, _⟩ := goodO_iff.1 hg
  intro x hx y hy hne
  obtain ⟨i, hi, rfl⟩ := List.getElem_of_mem hx
  obtain ⟨k, hk, rfl⟩ := List.getElem_of_mem hy
  have hd : l[i].d ≠ l[k].d := fun e => hne (by have := at_inj h2 hi hk e; subst this; rfl)
  rcases Nat.lt_trichotomy i k with h | h | h
  · exact (tog_deps (h1 _ (List.getElem_mem hk)).1 (h1 _ (List.getElem_mem hi)).1 (fun e => hd e.symm) (hT k hk i h)).symm
  · subst h; exact absurd rfl hne
  · exact tog_deps (h1 _ (List.getElem_mem hi)).1 (h1 _ (List.getElem_mem hk)).1 hd (hT i hi k h)
/-- those that are taken -/
def takeM (l : List Ins) (s : List Bool) (i : Nat) : List Ins := ((l.zipIdx.take i).filter fun x => s.getD x.2 false).map (·.1)
theorem takeM_succ (s : List Bool) {i : Nat} (hi : i < l.length) : takeM l s (i + 1) = if s.getD i false = true then takeM l s i ++ [l[i]] else takeM l s i := by
  unfold takeM
  rw [List.take_succ_eq_append_getElem (by simpa using hi), List.filter_append, List.map_append]
  by_cases h : s.getD i false = true
  · rw [if_pos h]; simp at h; simp [h]
  · rw [if_neg h]; simp at h; simp [h]
theorem takeM_sub (l : List Ins) (s : List Bool) (i : Nat) : (takeM l s i).Sublist l := by
  have h1 : ((l.zipIdx.take i).filter fun x => s.getD x.2 false).Sublist l.zipIdx := List.filter_sublist.trans (List.take_sublist _ _)
  have h2 := h1.map (·.1)
  have h3 : l.zipIdx.map (·.1) = l := by apply List.ext_getElem <;> simp
  rw [h3] at h2
  exact h2
end
end Go.Proofs.Ytkjhccpanedccaa
namespace Go.Proofs.Ytkjhccpanedccaa
set_option linter.unusedVariables false
set_option linter.unusedSimpArgs false
open Go Go.Eng Go.Tar Go.Sort Go.RowKit
/-- what is executed is a beginning of the line of all -/
structure XP (l : List Ins) (s : XS) (n : Nat) : Prop where
  sub : ∀ c ∈ s.cs, c.i ∈ l
  nd : (s.cs.map fun c => c.i.d).Nodup
  len : s.cs.length ≤ n
  pre : s.done = (lineTop (P7.all 0) [] l).take s.done.length
section
variable {l : List Ins} {s : XS} {n : Nat}
theorem new_xp (l : List Ins) : XP l XS.new 0 := ⟨fun c h => (by cases h), List.nodup_nil, Nat.le_refl _, by simp [XS.new]⟩
theorem find_none {d : Dot} (h : s.find d = none) : ∀ c ∈ s.cs, c.i.d ≠ d := fun c hc e => by
  have := List.find?_eq_none.1 h c hc
  exact this (decide_eq_true e)
theorem commit_xp (h : XP l s n) {i : Ins} (hi : i ∈ l) (w : P7 Int) (bs : List UInt8) : XP l (s.commit i w bs).1 (n + 1) := by
  rcases commit_cases s i w bs with e | ⟨e, _, _, _, g, _⟩ <;> rw [e]
  · exact ⟨h.sub, h.nd, by have := h.len; omega, h.pre⟩
  · refine ⟨fun c hc => ?_, ?_, by simp; exact h.len, h.pre⟩
    · rcases List.mem_append.1 hc with hc | hc
      · exact h.sub c hc
      · rw [List.mem_singleton.1 hc]; exact hi
    · show ((s.cs ++ [_]).map fun c : Cmd => c.i.d).Nodup
      rw [List.map_append, List.nodup_append]
      refine ⟨h.nd, by simp, fun a ha b hb e => ?_⟩
      obtain ⟨c, hc, rfl⟩ := List.mem_map.1 ha
      have hb : b = i.d := by simpa using hb
      exact find_none g c hc (by rw [e, hb])
theorem xp_good (hg : goodO l = true) (h : XP l s n) (hn : n ≤ 1000) : goodO s.ins = true := by
  obtain ⟨h1, _, _⟩ := goodO_iff.1 hg
  refine goodO_iff.2 ⟨fun x hx => ?_, ?_, by have := h.len; show (s.cs.map _).length ≤ 1000; rw [List.length_map]; omega⟩
  · obtain ⟨c, hc, rfl⟩ := List.mem_map.1 hx
    exact h1 _ (h.sub c hc)
  · show ((s.cs.map fun c => c.i).map fun x => x.d).Nodup
    rw [List.map_map]; exact h.nd
theorem nowF_app (s : XS) : ∀ (A B : List Dot), (∀ d ∈ A, d ∈ s.done) → (∀ d ∈ B, d ∉ s.done) → nowF s (A ++ B) = B.takeWhile fun d => leV (s.waitOf d) s.have_
  | d :: A, B, hA, hB => by
    rw [List.cons_append, nowF_cons, if_pos (hA d (by simp))]
    exact nowF_app s A B (fun d hd => hA d (by simp [hd])) hB
  | [], [], _, _ => rfl
  | [], d :: B, hA, hB => by
    have ih := nowF_app s [] B hA fun e he => hB e (by simp [he])
    rw [List.nil_append] at ih ⊢
    rw [nowF_cons, if_neg (hB d (by simp)), List.takeWhile_cons, ih]
theorem marks_all : ∀ (now : List Dot) (s : XS), now.Nodup → (∀ d ∈ now, (s.find d).isSome = true ∧ d ∉ s.done) → (now.foldl XS.mark s).done = s.done ++ now
  | [], s, _, _ => by simp
  | d :: now, s, hn, h => by
    rw [List.nodup_cons] at hn
    have hd := h d (by simp)
    have hm : s.mark d = ⟨s.have_, s.cs, s.done ++ [d]⟩ := by unfold XS.mark; rw [if_pos (by rw [hd.1, decide_eq_false hd.2]; rfl)]
    have ih := marks_all now (s.mark d) hn.2 fun e he => by
      rw [hm]
      refine ⟨(h e (by simp [he])).1, fun hin => ?_⟩
      rcases List.mem_append.1 hin with h1 | h1
      · exact (h e (by simp [he])).2 h1
      · rw [List.mem_singleton.1 h1] at he; exact hn.1 he
    rw [List.foldl_cons, ih, hm, List.append_assoc]; rfl
theorem takeWhile_take {α : Type} (p : α → Bool) : ∀ l : List α, l.takeWhile p = l.take (l.takeWhile p).length
  | [] => rfl
  | a :: l => by
    rw [List.takeWhile_cons]
    split
    · rw [List.length_cons, List.take_succ_cons, ← takeWhile_take p l]
    · rfl
theorem line_mem_find (hg : goodO s.ins = true) {d : Dot} (h : d ∈ lineTop (P7.all 0) [] s.ins) : (s.find d).isSome = true := by
  rw [line0_eq hg] at h
  obtain ⟨x, hx, rfl⟩ := List.mem_map.1 h
  have hxm := (kept_mem.1 (lineK_mem.1 hx)).1
  obtain ⟨c, hc, e⟩ := List.mem_map.1 hxm
  unfold XS.find
  rw [List.find?_isSome]
  exact ⟨c, hc, decide_eq_true (by rw [e])⟩
theorem haves_xp (hg : goodO l = true) (hT : ∀ x ∈ l, ∀ y ∈ l, x ≠ y → x.d ∈ depsL y ∨ y.d ∈ depsL x) (h : XP l s n) (hn : n ≤ 1000) (v : P7 Int) : XP l (s.haves v).1 n := by
  obtain ⟨r, h1, h2, h3⟩ := haves_pre s v
  refine ⟨by rw [h2]; exact h.sub, by rw [h2]; exact h.nd, by rw [h2]; exact h.len, ?_⟩
  have e1 : (s.merge v).done = s.done := by unfold XS.merge; split <;> rfl
  have e2 : (s.merge v).cs = s.cs := by unfold XS.merge; split <;> rfl
  have h' : XP l (s.merge v) n := ⟨by rw [e2]; exact h.sub, by rw [e2]; exact h.nd, by rw [e2]; exact h.len, by rw [e1]; exact h.pre⟩
  have key : ∀ s : XS, XP l s n → (s.now.foldl XS.mark s).done = (lineTop (P7.all 0) [] l).take (s.now.foldl XS.mark s).done.length := by
    clear h h1 h2 h3 e1 e2 h'
    intro s h
    have hgs := xp_good hg h hn
    have hpre := line0_prefix hg hgs (fun x hx => by obtain ⟨c, hc, rfl⟩ := List.mem_map.1 hx; exact h.sub c hc) hT
    have hnd : (lineTop (P7.all 0) [] l).Nodup := by rw [line0_eq hg]; exact lineK_nodup (kept_nodup (goodO_iff.1 hg).2.1)
    have hf := fun d => line_mem_find (d := d) hgs
    have hp := h.pre
    unfold XS.now
    generalize lineTop (P7.all 0) [] s.ins = line at *
    generalize lineTop (P7.all 0) [] l = LN at *
    have hsplit : line = line.take s.done.length ++ line.drop s.done.length := (List.take_append_drop _ _).symm
    have hA : ∀ d ∈ line.take s.done.length, d ∈ s.done := fun d hd => by
      rw [hp]
      rw [hpre, List.take_take] at hd
      have : (LN.take (min s.done.length line.length)).Sublist (LN.take s.done.length) := by
        rw [← List.take_take, List.take_take, Nat.min_comm, ← List.take_take]; exact List.take_sublist _ _
      exact this.mem hd
    have hB : ∀ d ∈ line.drop s.done.length, d ∉ s.done := fun d hd hin => by
      rw [hp] at hin
      rw [hpre, List.drop_take] at hd
      have hd2 := List.mem_of_mem_take hd
      have := List.nodup_append.1 (by rw [List.take_append_drop]; exact hnd : (LN.take s.done.length ++ LN.drop s.done.length).Nodup)
      exact this.2.2 d hin d hd2 rfl
    have hnow := nowF_app s _ _ hA hB
    rw [← hsplit] at hnow
    rw [hnow]
    have htw := takeWhile_take (fun d => leV (s.waitOf d) s.have_) (line.drop s.done.length)
    generalize (line.drop s.done.length).takeWhile (fun d => leV (s.waitOf d) s.have_) = now at *
    have hmem : ∀ d ∈ now, d ∈ line.drop s.done.length := fun d hd => by rw [htw] at hd; exact List.mem_of_mem_take hd
    have hsub : now.Sublist line := by rw [htw]; exact (List.take_sublist _ _).trans (List.drop_sublist _ _)
    have hln : line.Nodup := by rw [hpre]; exact hnd.sublist (List.take_sublist _ _)
    rw [marks_all now s (hln.sublist hsub) fun d hd => ⟨hf d (hsub.mem hd), hB d (hmem d hd)⟩]
    rw [List.length_append]
    have hlen : now.length ≤ (line.drop s.done.length).length := by
      have := congrArg List.length htw; rw [List.length_take] at this; omega
    by_cases hcl : s.done.length ≤ line.length
    · have h5 : now = (LN.drop s.done.length).take now.length := by
        conv => lhs; rw [htw, hpre, List.drop_take, List.take_take]
        congr 1
        rw [List.length_drop] at hlen; omega
      conv => lhs; rw [hp, h5]
      rw [← List.take_add]
    · have : now = [] := List.eq_nil_of_length_eq_zero (by rw [List.length_drop] at hlen; omega)
      subst this
      simpa using hp
  exact key _ h'
/-- two that executed have executed alike -/
theorem xp_two {x y : XS} {m : Nat} (hx : XP l x n) (hy : XP l y m) {k : Nat} (h1 : k ≤ x.done.length) (h2 : k ≤ y.done.length) : x.done.take k = y.done.take k := by
  rw [hx.pre, hy.pre, List.take_take, List.take_take]
  congr 1; omega
end
end Go.Proofs.Ytkjhccpanedccaa
namespace Go.Proofs.Ytkjhccpanedccaa
set_option linter.unusedVariables false
set_option linter.unusedSimpArgs false
open Go.Eng
/-! ### rostrum/rostrumlaw23.ExecOne (7) -/
def S.rostrumlaw23_ExecOne.j3 (R : Value → World → Prop) (K1 : List Value → World → Prop) (x0 x1 x2 x3 x11 x12 x13 x15 x16 x17 : Value) (W : World) : Prop :=
  okF (slcS 2 x15 none (some x17) none) fun v171 =>
  okF (slcS 2 x16 none (some x17) none) fun v174 =>
  callK PR F_rostrumlaw23_dots [v171, v174] (fun v175 W =>
  okF (unP .not v175) fun v176 =>
  ifK v176 (
  R (.bool false) W) (
  okF (binP .add x13 (.int .i64 1)) fun v107 =>
  K1 [x0, x1, x2, x3, x11, x12, v107] W)) (tick W)
def S.rostrumlaw23_ExecOne.j2 (R : Value → World → Prop) (K1 : List Value → World → Prop) (x0 x1 x2 x3 x11 x12 x13 : Value) (W : World) : Prop :=
  callK PR F_exec_Exec_Done [x11] (fun v158 W =>
  callK PR F_exec_Exec_Done [x12] (fun v160 W =>
  okF (lenP (.slice T_api_Dot) v158) fun v162 =>
  joinK (fun s W => S.rostrumlaw23_ExecOne.j3 R K1 (nthv s 0) (nthv s 1) (nthv s 2) (nthv s 3) (nthv s 4) (nthv s 5) (nthv s 6) (nthv s 7) (nthv s 8) (nthv s 9) W) (fun J3 =>
  okF (lenP (.slice T_api_Dot) v160) fun v164 =>
  okF (binP .lss v164 v162) fun v166 =>
  ifK v166 (
  okF (lenP (.slice T_api_Dot) v160) fun v168 =>
  J3 [x0, x1, x2, x3, x11, x12, x13, v158, v160, v168] W) (
  J3 [x0, x1, x2, x3, x11, x12, x13, v158, v160, v162] W))) W) W
def S.rostrumlaw23_ExecOne.l1 (R : Value → World → Prop) (K1 : List Value → World → Prop) (x0 x1 x2 x3 x11 x12 x13 : Value) (W : World) : Prop :=
  okF (lenP (.slice T_order_Inst) x0) fun v104 =>
  okF (binP .lss x13 v104) fun v105 =>
  ifK v105 (
  okF (lenP (.slice T_order_Inst) x0) fun v111 =>
  okF (binP .rem x2 v111) fun v112 =>
  okF (binP .add x13 v112) fun v113 =>
  okF (lenP (.slice T_order_Inst) x0) fun v115 =>
  okF (binP .rem v113 v115) fun v116 =>
  okF (idxS 10 x0 x13) fun v120 =>
  rdK PR (Instr.loadAt T_order_Inst v120) (fun v121 W =>
  okF (idxS 7 x1 x13) fun v124 =>
  rdK PR (Instr.loadAt T_vec_Vec v124) (fun v125 W =>
  callK PR F_exec_Exec_Commit [x11, v121, v125, (.slice none 0 0)] (fun v126 W =>
  okF (idxS 10 x0 v116) fun v130 =>
  rdK PR (Instr.loadAt T_order_Inst v130) (fun v131 W =>
  okF (idxS 7 x1 v116) fun v134 =>
  rdK PR (Instr.loadAt T_vec_Vec v134) (fun v135 W =>
  callK PR F_exec_Exec_Commit [x12, v131, v135, (.slice none 0 0)] (fun v136 W =>
  joinK (fun s W => S.rostrumlaw23_ExecOne.j2 R K1 (nthv s 0) (nthv s 1) (nthv s 2) (nthv s 3) (nthv s 4) (nthv s 5) (nthv s 6) W) (fun J2 =>
  okF (lenP (.slice T_vec_Vec) x3) fun v139 =>
  okF (binP .lss x13 v139) fun v140 =>
  ifK v140 (
  okF (idxS 7 x3 x13) fun v144 =>
  rdK PR (Instr.loadAt T_vec_Vec v144) (fun v145 W =>
  callK PR F_exec_Exec_Have [x11, v145] (fun v146 W =>
  okF (lenP (.slice T_vec_Vec) x3) fun v150 =>
  okF (binP .sub v150 (.int .i64 1)) fun v151 =>
  okF (binP .sub v151 x13) fun v153 =>
  okF (idxS 7 x3 v153) fun v154 =>
  rdK PR (Instr.loadAt T_vec_Vec v154) (fun v155 W =>
  callK PR F_exec_Exec_Have [x12, v155] (fun v156 W =>
  J2 [x0, x1, x2, x3, x11, x12, x13] W) W) W) W) W) (
  J2 [x0, x1, x2, x3, x11, x12, x13] W))) W) W) (tick W)) W) W) (tick W)) (
  R (.bool true) W)
def S.rostrumlaw23_ExecOne.j1 (R : Value → World → Prop) (x0 x1 x2 x3 : Value) (W : World) : Prop :=
  callK PR F_exec_New [] (fun v100 W =>
  callK PR F_exec_New [] (fun v101 W =>
  loopK (fun K1 s W => S.rostrumlaw23_ExecOne.l1 R K1 (nthv s 0) (nthv s 1) (nthv s 2) (nthv s 3) (nthv s 4) (nthv s 5) (nthv s 6) W) [x0, x1, x2, x3, v100, v101, (.int .i64 0)] W) W) W
def S.rostrumlaw23_ExecOne.j4 (K2 : List Value → World → Prop) (x0 x1 x2 x3 x9 : Value) (W : World) : Prop :=
  okF (binP .add x9 (.int .i64 1)) fun v54 =>
  K2 [x0, x1, x2, x3, v54] W
def S.rostrumlaw23_ExecOne.l3 (R : Value → World → Prop) (J4 : List Value → World → Prop) (K3 : List Value → World → Prop) (x0 x1 x2 x3 x9 x10 : Value) (W : World) : Prop :=
  okF (binP .lss x10 x9) fun v57 =>
  ifK v57 (
  okF (idxS 10 x0 x10) fun v64 =>
  okF (addrF 0 v64) fun v65 =>
  okF (addrF 0 v65) fun v66 =>
  rdK PR (Instr.loadAt T_int v66) (fun v67 W =>
  okF (idxS 10 x0 x9) fun v68 =>
  okF (addrF 3 v68) fun v69 =>
  okF (idxA 7 1 v69 v67) fun v70 =>
  rdK PR (Instr.loadAt T_int64 v70) (fun v71 W =>
  okF (idxS 10 x0 x10) fun v74 =>
  okF (addrF 0 v74) fun v75 =>
  okF (addrF 1 v75) fun v76 =>
  rdK PR (Instr.loadAt T_int64 v76) (fun v77 W =>
  okF (binP .lss v71 v77) fun v78 =>
  gdK (wantd v78 true) (fun k W => k x0 W) (fun v80 W =>
  gdK (wantd v78 true) (fun k W => k x10 W) (fun v81 W =>
  gdK (wantd v78 true) (fun k W => k x0 W) (fun v82 W =>
  gdK (wantd v78 true) (fun k W => k x9 W) (fun v83 W =>
  gdK (wantd v78 true) (fun k W => okF (idxS 10 v82 v83) fun v => k v W) (fun v84 W =>
  gdK (wantd v78 true) (fun k W => okF (addrF 0 v84) fun v => k v W) (fun v85 W =>
  gdK (wantd v78 true) (fun k W => okF (addrF 0 v85) fun v => k v W) (fun v86 W =>
  gdK (wantd v78 true) (fun k W => rdK PR (Instr.loadAt T_int v86) k W) (fun v87 W =>
  gdK (wantd v78 true) (fun k W => okF (idxS 10 v80 v81) fun v => k v W) (fun v88 W =>
  gdK (wantd v78 true) (fun k W => okF (addrF 3 v88) fun v => k v W) (fun v89 W =>
  gdK (wantd v78 true) (fun k W => okF (idxA 7 1 v89 v87) fun v => k v W) (fun v90 W =>
  gdK (wantd v78 true) (fun k W => rdK PR (Instr.loadAt T_int64 v90) k W) (fun v91 W =>
  gdK (wantd v78 true) (fun k W => k x0 W) (fun v92 W =>
  gdK (wantd v78 true) (fun k W => k x9 W) (fun v93 W =>
  gdK (wantd v78 true) (fun k W => okF (idxS 10 v92 v93) fun v => k v W) (fun v94 W =>
  gdK (wantd v78 true) (fun k W => okF (addrF 0 v94) fun v => k v W) (fun v95 W =>
  gdK (wantd v78 true) (fun k W => okF (addrF 1 v95) fun v => k v W) (fun v96 W =>
  gdK (wantd v78 true) (fun k W => rdK PR (Instr.loadAt T_int64 v96) k W) (fun v97 W =>
  gdK (wantd v78 true) (fun k W => okF (binP .lss v91 v97) fun v => k v W) (fun v98 W =>
  okF (pickP v78 v98 (.bool false)) fun v99 =>
  ifK v99 (
  R (.bool true) W) (
  okF (binP .add x10 (.int .i64 1)) fun v59 =>
  K3 [x0, x1, x2, x3, x9, v59] W)) W) W) W) W) W) W) W) W) W) W) W) W) W) W) W) W) W) W) W) W) W) (tick W)) (
  J4 [x0, x1, x2, x3, x9] W)
def S.rostrumlaw23_ExecOne.l2 (R : Value → World → Prop) (J1 : List Value → World → Prop) (K2 : List Value → World → Prop) (x0 x1 x2 x3 x9 : Value) (W : World) : Prop :=
  okF (lenP (.slice T_order_Inst) x0) fun v51 =>
  okF (binP .lss x9 v51) fun v52 =>
  ifK v52 (
  joinK (fun s W => S.rostrumlaw23_ExecOne.j4 K2 (nthv s 0) (nthv s 1) (nthv s 2) (nthv s 3) (nthv s 4) W) (fun J4 =>
  loopK (fun K3 s W => S.rostrumlaw23_ExecOne.l3 R J4 K3 (nthv s 0) (nthv s 1) (nthv s 2) (nthv s 3) (nthv s 4) (nthv s 5) W) [x0, x1, x2, x3, x9, (.int .i64 0)] W)) (
  J1 [x0, x1, x2, x3] W)
def S.rostrumlaw23_ExecOne.body (R : Value → World → Prop) (v0 v1 v2 v3 : Value) (W : World) : Prop :=
  callK PR F_rostrumlaw23_awake [] (fun v18 W =>
  okF (unP .not v18) fun v19 =>
  ifK v19 (
  R (.bool false) W) (
  okF (lenP (.slice T_order_Inst) v0) fun v21 =>
  okF (binP .lss v21 (.int .i64 1)) fun v22 =>
  gdK (wantd v22 false) (fun k W => k v0 W) (fun v24 W =>
  gdK (wantd v22 false) (fun k W => okF (lenP (.slice T_order_Inst) v24) fun v => k v W) (fun v25 W =>
  gdK (wantd v22 false) (fun k W => okF (binP .gtr v25 (.int .i64 15)) fun v => k v W) (fun v26 W =>
  okF (pickP v22 (.bool true) v26) fun v27 =>
  gdK (wantd v27 false) (fun k W => k v1 W) (fun v29 W =>
  gdK (wantd v27 false) (fun k W => okF (lenP (.slice T_vec_Vec) v29) fun v => k v W) (fun v30 W =>
  gdK (wantd v27 false) (fun k W => k v0 W) (fun v31 W =>
  gdK (wantd v27 false) (fun k W => okF (lenP (.slice T_order_Inst) v31) fun v => k v W) (fun v32 W =>
  gdK (wantd v27 false) (fun k W => okF (binP .neq v30 v32) fun v => k v W) (fun v33 W =>
  okF (pickP v27 (.bool true) v33) fun v34 =>
  gdK (wantd v34 false) (fun k W => k v2 W) (fun v36 W =>
  gdK (wantd v34 false) (fun k W => okF (binP .lss v36 (.int .i64 0)) fun v => k v W) (fun v37 W =>
  okF (pickP v34 (.bool true) v37) fun v38 =>
  gdK (wantd v38 false) (fun k W => k v3 W) (fun v40 W =>
  gdK (wantd v38 false) (fun k W => okF (lenP (.slice T_vec_Vec) v40) fun v => k v W) (fun v41 W =>
  gdK (wantd v38 false) (fun k W => okF (binP .gtr v41 (.int .i64 20)) fun v => k v W) (fun v42 W =>
  okF (pickP v38 (.bool true) v42) fun v43 =>
  gdK (wantd v43 false) (fun k W => k v0 W) (fun v45 W =>
  gdK (wantd v43 false) (fun k W => callK PR F_order_Good [v45] k W) (fun v46 W =>
  gdK (wantd v43 false) (fun k W => okF (unP .not v46) fun v => k v W) (fun v47 W =>
  okF (pickP v43 (.bool true) v47) fun v48 =>
  ifK v48 (
  R (.bool true) W) (
  joinK (fun s W => S.rostrumlaw23_ExecOne.j1 R (nthv s 0) (nthv s 1) (nthv s 2) (nthv s 3) W) (fun J1 =>
  loopK (fun K2 s W => S.rostrumlaw23_ExecOne.l2 R J1 K2 (nthv s 0) (nthv s 1) (nthv s 2) (nthv s 3) (nthv s 4) W) [v0, v1, v2, v3, (.int .i64 0)] W))) W) W) W) W) W) W) W) W) W) W) W) W) W) W) W) W)) W
def S.rostrumlaw23_ExecOne.hint : Hint := (.two .nil (.two (.two .nil (.two (.two .nil .nil) .nil)) (.two (.two .nil (.two (.two .nil .nil) .nil)) (.at [0, 1, 2, 3] (.two .nil (.at [0, 1, 2, 3, 9] (.two (.two .nil (.two .nil .nil)) (.at [0, 1, 2, 3, 9] (.two .nil (.at [0, 1, 2, 3, 9, 10] (.two (.two .nil (.two .nil .nil)) (.two (.two .nil (.two (.two .nil .nil) .nil)) .nil)) .nil)) .nil)) .nil)) (.two .nil (.two (.two .nil (.at [0, 1, 2, 3, 11, 12, 13] (.two (.two .nil (.two .nil .nil)) (.two (.two .nil (.two .nil (.two .nil (.at [0, 1, 2, 3, 11, 12, 13] (.two .nil (.two (.two .nil .nil) .nil)) (.two .nil (.two .nil (.at [0, 1, 2, 3, 11, 12, 13, 15, 16, 17] (.two .nil (.two .nil .nil)) (.two .nil (.two (.two .nil .nil) .nil))))))))) .nil)) .nil)) (.two .nil .nil)))))))
theorem S.rostrumlaw23_ExecOne.ok (R : Value → World → Prop) (v0 v1 v2 v3 : Value) (W : World) : bodyK PR CB Try.f7 S.rostrumlaw23_ExecOne.hint [v0, v1, v2, v3] R W = S.rostrumlaw23_ExecOne.body R v0 v1 v2 v3 W := by kernel_rfl
theorem S.rostrumlaw23_ExecOne.fn : PR.funcs[F_rostrumlaw23_ExecOne]? = some Try.f7 := by kernel_rfl
theorem S.rostrumlaw23_ExecOne.call {R : Value → World → Prop} {v0 v1 v2 v3 : Value} {W : World} (h : S.rostrumlaw23_ExecOne.body R v0 v1 v2 v3 W) : callK PR F_rostrumlaw23_ExecOne [v0, v1, v2, v3] R W :=
  callK_of_body (g := F_rostrumlaw23_ExecOne) (fn := Try.f7) (args := [v0, v1, v2, v3]) (R := R) (w := W) mixed CBok S.rostrumlaw23_ExecOne.fn S.rostrumlaw23_ExecOne.hint (by rw [S.rostrumlaw23_ExecOne.ok]; exact h)
end Go.Proofs.Ytkjhccpanedccaa
namespace Go.Proofs.Ytkjhccpanedccaa
set_option linter.unusedVariables false
set_option linter.unusedSimpArgs false
open Go Go.Eng Go.Tar Go.Sort Go.RowKit
abbrev ClV : List Cl := [.int .i64, .int .i64, .int .i64, .int .i64, .int .i64, .int .i64, .int .i64]
abbrev ClI : List Cl := [.int .i64, .int .i64, .int .i64, .int .i64, .int .i64, .int .i64, .int .i64, .int .i64, .int .i64, .int .i64]
def VCL : Ly (P7 Int) := ⟨7, by omega, fun x => [.int .i64 x.x0, .int .i64 x.x1, .int .i64 x.x2, .int .i64 x.x3, .int .i64 x.x4, .int .i64 x.x5, .int .i64 x.x6], fun _ => rfl, fun _ => rfl⟩
theorem openVecs {W : World} {v : Value} (h : GoodA W [.sl ClV] false v) : ∃ (a : Option Addr) (c : Nat) (l : List (P7 Int)), v = .slice a l.length c ∧ l.length ≤ c ∧ c ≤ maxLen ∧ Rd W [] a VCL l := by
  haveI : Inhabited (P7 Int) := ⟨P7.all 0⟩
  obtain ⟨a, c, l, h1, h2, h3, h4, _⟩ := openArr VCL (fun _ => True) h.one rfl (fun vs h => by
    obtain ⟨_, _, rfl, h1, h⟩ := h.cons'
    obtain ⟨_, _, rfl, h2, h⟩ := h.cons'
    obtain ⟨_, _, rfl, h3, h⟩ := h.cons'
    obtain ⟨_, _, rfl, h4, h⟩ := h.cons'
    obtain ⟨_, _, rfl, h5, h⟩ := h.cons'
    obtain ⟨_, _, rfl, h6, h⟩ := h.cons'
    obtain ⟨_, _, rfl, h7, h⟩ := h.cons'
    obtain rfl := h.nil'
    obtain ⟨a1, rfl, _⟩ := h1.int'
    obtain ⟨a2, rfl, _⟩ := h2.int'
    obtain ⟨a3, rfl, _⟩ := h3.int'
    obtain ⟨a4, rfl, _⟩ := h4.int'
    obtain ⟨a5, rfl, _⟩ := h5.int'
    obtain ⟨a6, rfl, _⟩ := h6.int'
    obtain ⟨a7, rfl, _⟩ := h7.int'
    exact ⟨⟨a1, a2, a3, a4, a5, a6, a7⟩, rfl, trivial⟩)
  exact ⟨a, c, l, h1, h2, h3, h4⟩
theorem openInss {W : World} {v : Value} (h : GoodA W [.sl ClI] false v) : ∃ (a : Option Addr) (c : Nat) (l : List Ins), v = .slice a l.length c ∧ l.length ≤ c ∧ c ≤ maxLen ∧ Rd W [] a INS l := by
  obtain ⟨a, c, l, h1, h2, h3, h4, _⟩ := openArr INS (fun _ => True) h.one rfl (fun vs h => by
    obtain ⟨_, _, rfl, h1, h⟩ := h.cons'
    obtain ⟨_, _, rfl, h2, h⟩ := h.cons'
    obtain ⟨_, _, rfl, h3, h⟩ := h.cons'
    obtain ⟨_, _, rfl, h4, h⟩ := h.cons'
    obtain ⟨_, _, rfl, h5, h⟩ := h.cons'
    obtain ⟨_, _, rfl, h6, h⟩ := h.cons'
    obtain ⟨_, _, rfl, h7, h⟩ := h.cons'
    obtain ⟨_, _, rfl, h8, h⟩ := h.cons'
    obtain ⟨_, _, rfl, h9, h⟩ := h.cons'
    obtain ⟨_, _, rfl, h10, h⟩ := h.cons'
    obtain rfl := h.nil'
    obtain ⟨a1, rfl, _⟩ := h1.int'
    obtain ⟨a2, rfl, _⟩ := h2.int'
    obtain ⟨a3, rfl, _⟩ := h3.int'
    obtain ⟨a4, rfl, _⟩ := h4.int'
    obtain ⟨a5, rfl, _⟩ := h5.int'
    obtain ⟨a6, rfl, _⟩ := h6.int'
    obtain ⟨a7, rfl, _⟩ := h7.int'
    obtain ⟨a8, rfl, _⟩ := h8.int'
    obtain ⟨a9, rfl, _⟩ := h9.int'
    obtain ⟨a10, rfl, _⟩ := h10.int'
    exact ⟨⟨⟨a1, a2⟩, a3, ⟨a4, a5, a6, a7, a8, a9, a10⟩⟩, rfl, trivial⟩)
  exact ⟨a, c, l, h1, h2, h3, h4⟩
theorem rem_nat {a b : Nat} (hb : 0 < b) : binP .rem (.int .i64 (a : Int)) (.int .i64 (b : Int)) = some (.int .i64 ((a % b : Nat) : Int)) := by
  simp only [binP]
  rw [if_neg (show ¬ (b : Int) = 0 by omega), Int.tmod_eq_emod_of_nonneg (show (0 : Int) ≤ (a : Int) by omega), Int.natCast_emod]
  exact if_neg fun h => h rfl
set_option maxRecDepth 100000 in
set_option maxHeartbeats 8000000 in
theorem execOne_walk {W : World} {v0 v1 v2 v3 : Value} (h0 : GoodA W [.sl ClI] false v0) (h1 : GoodA W [.sl ClV] false v1) (h2 : GoodA W [.int .i64] false v2) (h3 : GoodA W [.sl ClV] false v3) : callK PR F_rostrumlaw23_ExecOne [v0, v1, v2, v3] (fun v W' => v = .bool true ∧ Lo W W') W := by
  obtain ⟨la, lc, l, rfl, hlc, hlm, hrd⟩ := openInss (goodAz h0)
  obtain ⟨wa, wc, ws, rfl, hwc, hwm, hrw⟩ := openVecs (goodAz h1)
  obtain ⟨turn, rfl, ht⟩ := h2.one.int'
  obtain ⟨va, vc, vs, rfl, hvc, hvm, hrv⟩ := openVecs (goodAz h3)
  have htb := (wf64 ht).2
  apply S.rostrumlaw23_ExecOne.call
  unfold S.rostrumlaw23_ExecOne.body
  have h00 : ({ W with drawn := 0 } : World).drawn = 0 := rfl
  have fin : ∀ (W' : World) (L : List Asn), St { W with drawn := 0 } L W' → Lo W W' := fun W' L h => St.lo h
  refine lawAwake23 h00 (St.startz W) fun W1 h => ?_
  generalize ({ W with drawn := 0 } : World) = W0 at *
  by_cases c1 : (l.length : Int) < 1
  · (repeat (first | (first | (with_reducible (first | refine w1 fun _ _ => ?_ | refine w3 fun _ _ _ => ?_ | refine w4 fun _ _ _ => ?_ | refine w11 fun _ _ _ => ?_ | refine stb_n ?_)) | ((with_reducible refine w2 ?_); try simp -implicitDefEqProofs only [EN, lsub, lget, stL, beq_self_eq_true, ne_eq, if_true, if_false, List.cons_append, List.nil_append, Option.isNone_some, Option.isNone_none, c1]; intro _ _) | ((with_reducible (first | refine w5 ?_ ?_ | refine w6 ?_ ?_ | refine w7 ?_ ?_)); simp; refine ⟨_, rfl, ?_⟩) | ((with_reducible (first | refine w8 ?_ ?_ ?_ | refine w9 ?_ ?_ ?_ | refine w10 ?_ ?_ ?_)); exact rfl; simp) | ((with_reducible refine w12 ?_ ?_ ?_ fun _ _ => ?_); simp; simp; simp [oneC]) | ((with_reducible (first | refine eqs ?_ | refine nes ?_)); refine ⟨_, rfl, ?_⟩) | ((refine okF_i (bldP_eq rfl) ?_); try simp only [BLS, List.take_succ_cons, List.take_zero, List.drop_succ_cons, List.drop_zero, List.cons_append, List.nil_append, Nat.reduceAdd])) | simp -implicitDefEqProofs only [EN, lsub, lget, stL, beq_self_eq_true, ne_eq, if_true, if_false, List.cons_append, List.nil_append, Option.isNone_some, Option.isNone_none, c1]))
    exact fin _ _ (by first | assumption | exact St.tick (by assumption) | exact St.tick (St.tick (by assumption)))
  by_cases c2 : (15 : Int) < (l.length : Int)
  · (repeat (first | (first | (with_reducible (first | refine w1 fun _ _ => ?_ | refine w3 fun _ _ _ => ?_ | refine w4 fun _ _ _ => ?_ | refine w11 fun _ _ _ => ?_ | refine stb_n ?_)) | ((with_reducible refine w2 ?_); try simp -implicitDefEqProofs only [EN, lsub, lget, stL, beq_self_eq_true, ne_eq, if_true, if_false, List.cons_append, List.nil_append, Option.isNone_some, Option.isNone_none, c1, c2]; intro _ _) | ((with_reducible (first | refine w5 ?_ ?_ | refine w6 ?_ ?_ | refine w7 ?_ ?_)); simp; refine ⟨_, rfl, ?_⟩) | ((with_reducible (first | refine w8 ?_ ?_ ?_ | refine w9 ?_ ?_ ?_ | refine w10 ?_ ?_ ?_)); exact rfl; simp) | ((with_reducible refine w12 ?_ ?_ ?_ fun _ _ => ?_); simp; simp; simp [oneC]) | ((with_reducible (first | refine eqs ?_ | refine nes ?_)); refine ⟨_, rfl, ?_⟩) | ((refine okF_i (bldP_eq rfl) ?_); try simp only [BLS, List.take_succ_cons, List.take_zero, List.drop_succ_cons, List.drop_zero, List.cons_append, List.nil_append, Nat.reduceAdd])) | simp -implicitDefEqProofs only [EN, lsub, lget, stL, beq_self_eq_true, ne_eq, if_true, if_false, List.cons_append, List.nil_append, Option.isNone_some, Option.isNone_none, c1, c2]))
    exact fin _ _ (by first | assumption | exact St.tick (by assumption) | exact St.tick (St.tick (by assumption)))
  by_cases c3 : ¬ (ws.length : Int) = (l.length : Int)
  · have e3 : decide ((ws.length : Int) = (l.length : Int)) = false := decide_eq_false c3
    (repeat (first | (first | (with_reducible (first | refine w1 fun _ _ => ?_ | refine w3 fun _ _ _ => ?_ | refine w4 fun _ _ _ => ?_ | refine w11 fun _ _ _ => ?_ | refine stb_n ?_)) | ((with_reducible refine w2 ?_); try simp -implicitDefEqProofs only [EN, lsub, lget, stL, beq_self_eq_true, ne_eq, if_true, if_false, List.cons_append, List.nil_append, Option.isNone_some, Option.isNone_none, c1, c2, e3]; intro _ _) | ((with_reducible (first | refine w5 ?_ ?_ | refine w6 ?_ ?_ | refine w7 ?_ ?_)); simp; refine ⟨_, rfl, ?_⟩) | ((with_reducible (first | refine w8 ?_ ?_ ?_ | refine w9 ?_ ?_ ?_ | refine w10 ?_ ?_ ?_)); exact rfl; simp) | ((with_reducible refine w12 ?_ ?_ ?_ fun _ _ => ?_); simp; simp; simp [oneC]) | ((with_reducible (first | refine eqs ?_ | refine nes ?_)); refine ⟨_, rfl, ?_⟩) | ((refine okF_i (bldP_eq rfl) ?_); try simp only [BLS, List.take_succ_cons, List.take_zero, List.drop_succ_cons, List.drop_zero, List.cons_append, List.nil_append, Nat.reduceAdd])) | simp -implicitDefEqProofs only [EN, lsub, lget, stL, beq_self_eq_true, ne_eq, if_true, if_false, List.cons_append, List.nil_append, Option.isNone_some, Option.isNone_none, c1, c2, e3]))
    exact fin _ _ (by first | assumption | exact St.tick (by assumption) | exact St.tick (St.tick (by assumption)))
  have c3 := Classical.not_not.1 c3
  have e3 : decide ((ws.length : Int) = (l.length : Int)) = true := decide_eq_true c3
  by_cases c4 : turn < 0
  · (repeat (first | (first | (with_reducible (first | refine w1 fun _ _ => ?_ | refine w3 fun _ _ _ => ?_ | refine w4 fun _ _ _ => ?_ | refine w11 fun _ _ _ => ?_ | refine stb_n ?_)) | ((with_reducible refine w2 ?_); try simp -implicitDefEqProofs only [EN, lsub, lget, stL, beq_self_eq_true, ne_eq, if_true, if_false, List.cons_append, List.nil_append, Option.isNone_some, Option.isNone_none, c1, c2, e3, c4]; intro _ _) | ((with_reducible (first | refine w5 ?_ ?_ | refine w6 ?_ ?_ | refine w7 ?_ ?_)); simp; refine ⟨_, rfl, ?_⟩) | ((with_reducible (first | refine w8 ?_ ?_ ?_ | refine w9 ?_ ?_ ?_ | refine w10 ?_ ?_ ?_)); exact rfl; simp) | ((with_reducible refine w12 ?_ ?_ ?_ fun _ _ => ?_); simp; simp; simp [oneC]) | ((with_reducible (first | refine eqs ?_ | refine nes ?_)); refine ⟨_, rfl, ?_⟩) | ((refine okF_i (bldP_eq rfl) ?_); try simp only [BLS, List.take_succ_cons, List.take_zero, List.drop_succ_cons, List.drop_zero, List.cons_append, List.nil_append, Nat.reduceAdd])) | simp -implicitDefEqProofs only [EN, lsub, lget, stL, beq_self_eq_true, ne_eq, if_true, if_false, List.cons_append, List.nil_append, Option.isNone_some, Option.isNone_none, c1, c2, e3, c4]))
    exact fin _ _ (by first | assumption | exact St.tick (by assumption) | exact St.tick (St.tick (by assumption)))
  by_cases c5 : (20 : Int) < (vs.length : Int)
  · (repeat (first | (first | (with_reducible (first | refine w1 fun _ _ => ?_ | refine w3 fun _ _ _ => ?_ | refine w4 fun _ _ _ => ?_ | refine w11 fun _ _ _ => ?_ | refine stb_n ?_)) | ((with_reducible refine w2 ?_); try simp -implicitDefEqProofs only [EN, lsub, lget, stL, beq_self_eq_true, ne_eq, if_true, if_false, List.cons_append, List.nil_append, Option.isNone_some, Option.isNone_none, c1, c2, e3, c4, c5]; intro _ _) | ((with_reducible (first | refine w5 ?_ ?_ | refine w6 ?_ ?_ | refine w7 ?_ ?_)); simp; refine ⟨_, rfl, ?_⟩) | ((with_reducible (first | refine w8 ?_ ?_ ?_ | refine w9 ?_ ?_ ?_ | refine w10 ?_ ?_ ?_)); exact rfl; simp) | ((with_reducible refine w12 ?_ ?_ ?_ fun _ _ => ?_); simp; simp; simp [oneC]) | ((with_reducible (first | refine eqs ?_ | refine nes ?_)); refine ⟨_, rfl, ?_⟩) | ((refine okF_i (bldP_eq rfl) ?_); try simp only [BLS, List.take_succ_cons, List.take_zero, List.drop_succ_cons, List.drop_zero, List.cons_append, List.nil_append, Nat.reduceAdd])) | simp -implicitDefEqProofs only [EN, lsub, lget, stL, beq_self_eq_true, ne_eq, if_true, if_false, List.cons_append, List.nil_append, Option.isNone_some, Option.isNone_none, c1, c2, e3, c4, c5]))
    exact fin _ _ (by first | assumption | exact St.tick (by assumption) | exact St.tick (St.tick (by assumption)))
  (repeat (first | (first | (with_reducible (first | refine w1 fun _ _ => ?_ | refine w3 fun _ _ _ => ?_ | refine w4 fun _ _ _ => ?_ | refine w11 fun _ _ _ => ?_ | refine stb_n ?_)) | ((with_reducible refine w2 ?_); try simp -implicitDefEqProofs only [EN, lsub, lget, stL, beq_self_eq_true, ne_eq, if_true, if_false, List.cons_append, List.nil_append, Option.isNone_some, Option.isNone_none, c1, c2, e3, c4, c5]; intro _ _) | ((with_reducible (first | refine w5 ?_ ?_ | refine w6 ?_ ?_ | refine w7 ?_ ?_)); simp; refine ⟨_, rfl, ?_⟩) | ((with_reducible (first | refine w8 ?_ ?_ ?_ | refine w9 ?_ ?_ ?_ | refine w10 ?_ ?_ ?_)); exact rfl; simp) | ((with_reducible refine w12 ?_ ?_ ?_ fun _ _ => ?_); simp; simp; simp [oneC]) | ((with_reducible (first | refine eqs ?_ | refine nes ?_)); refine ⟨_, rfl, ?_⟩) | ((refine okF_i (bldP_eq rfl) ?_); try simp only [BLS, List.take_succ_cons, List.take_zero, List.drop_succ_cons, List.drop_zero, List.cons_append, List.nil_append, Nat.reduceAdd])) | simp -implicitDefEqProofs only [EN, lsub, lget, stL, beq_self_eq_true, ne_eq, if_true, if_false, List.cons_append, List.nil_append, Option.isNone_some, Option.isNone_none, c1, c2, e3, c4, c5]))
  refine ordGood (a := la) (l := l) (by first | assumption | exact St.tick (by assumption) | exact St.tick (St.tick (by assumption))) (by omega) fun W2 h => ?_
  cases hg : goodO l with
  | false =>
    (repeat (first | (first | (with_reducible (first | refine w1 fun _ _ => ?_ | refine w3 fun _ _ _ => ?_ | refine w4 fun _ _ _ => ?_ | refine w11 fun _ _ _ => ?_ | refine stb_n ?_)) | ((with_reducible refine w2 ?_); try simp -implicitDefEqProofs only [EN, lsub, lget, stL, beq_self_eq_true, ne_eq, if_true, if_false, List.cons_append, List.nil_append, Option.isNone_some, Option.isNone_none]; intro _ _) | ((with_reducible (first | refine w5 ?_ ?_ | refine w6 ?_ ?_ | refine w7 ?_ ?_)); simp; refine ⟨_, rfl, ?_⟩) | ((with_reducible (first | refine w8 ?_ ?_ ?_ | refine w9 ?_ ?_ ?_ | refine w10 ?_ ?_ ?_)); exact rfl; simp) | ((with_reducible refine w12 ?_ ?_ ?_ fun _ _ => ?_); simp; simp; simp [oneC]) | ((with_reducible (first | refine eqs ?_ | refine nes ?_)); refine ⟨_, rfl, ?_⟩) | ((refine okF_i (bldP_eq rfl) ?_); try simp only [BLS, List.take_succ_cons, List.take_zero, List.drop_succ_cons, List.drop_zero, List.cons_append, List.nil_append, Nat.reduceAdd])) | simp -implicitDefEqProofs only [EN, lsub, lget, stL, beq_self_eq_true, ne_eq, if_true, if_false, List.cons_append, List.nil_append, Option.isNone_some, Option.isNone_none]))
    exact fin _ _ (by first | assumption | exact St.tick (by assumption) | exact St.tick (St.tick (by assumption)))
  | true =>
  (repeat (first | (first | (with_reducible (first | refine w1 fun _ _ => ?_ | refine w3 fun _ _ _ => ?_ | refine w4 fun _ _ _ => ?_ | refine w11 fun _ _ _ => ?_ | refine stb_n ?_)) | ((with_reducible refine w2 ?_); try simp -implicitDefEqProofs only [EN, lsub, lget, stL, beq_self_eq_true, ne_eq, if_true, if_false, List.cons_append, List.nil_append, Option.isNone_some, Option.isNone_none]; intro _ _) | ((with_reducible (first | refine w5 ?_ ?_ | refine w6 ?_ ?_ | refine w7 ?_ ?_)); simp; refine ⟨_, rfl, ?_⟩) | ((with_reducible (first | refine w8 ?_ ?_ ?_ | refine w9 ?_ ?_ ?_ | refine w10 ?_ ?_ ?_)); exact rfl; simp) | ((with_reducible refine w12 ?_ ?_ ?_ fun _ _ => ?_); simp; simp; simp [oneC]) | ((with_reducible (first | refine eqs ?_ | refine nes ?_)); refine ⟨_, rfl, ?_⟩) | ((refine okF_i (bldP_eq rfl) ?_); try simp only [BLS, List.take_succ_cons, List.take_zero, List.drop_succ_cons, List.drop_zero, List.cons_append, List.nil_append, Nat.reduceAdd])) | simp -implicitDefEqProofs only [EN, lsub, lget, stL, beq_self_eq_true, ne_eq, if_true, if_false, List.cons_append, List.nil_append, Option.isNone_some, Option.isNone_none]))
  obtain ⟨hg1, hg2, hg3⟩ := goodO_iff.1 hg
  obtain ⟨t, rfl⟩ : ∃ t : Nat, turn = (t : Int) := ⟨turn.toNat, by omega⟩
  have hl0 : 0 < l.length := by omega
  have hwl : ws.length = l.length := by omega
  obtain ⟨gl, ol, e1⟩ := posAddr (i := 0) (a := la) (A := INS) (l := l) (St.start W0) hl0
  subst e1
  have ei : ∀ i : Nat, i < l.length → idxS 10 (.slice (some ⟨gl, ol, none⟩) l.length lc) (.int .i64 (i : Int)) = some (.pointer (some ⟨gl, ol + i * 10, none⟩)) := fun i hi => by rw [idxS_blk (by omega) (by omega), Int.toNat_natCast]
  have hrow : ∀ i (hi : i < l.length), ro W0 gl (ol + i * 10) [.int .i64 (l[i].d).rep, .int .i64 (l[i].d).n, .int .i64 l[i].s, .int .i64 (l[i].v).x0, .int .i64 (l[i].v).x1, .int .i64 (l[i].v).x2, .int .i64 (l[i].v).x3, .int .i64 (l[i].v).x4, .int .i64 (l[i].v).x5, .int .i64 (l[i].v).x6] := fun i hi => Rd.row (A := INS) (l := l) (St.start W0) hi
  have gv : ∀ (x : Ins) (r : Int), 0 ≤ r → r < 7 → getL false [.int .i64 x.d.rep, .int .i64 x.d.n, .int .i64 x.s, .int .i64 x.v.x0, .int .i64 x.v.x1, .int .i64 x.v.x2, .int .i64 x.v.x3, .int .i64 x.v.x4, .int .i64 x.v.x5, .int .i64 x.v.x6] (3 + r.toNat) 1 = some (.int .i64 (x.v.get r.toNat)) := fun x r h1 h2 => by
    rcases P7.cases7 (show r.toNat < 7 by omega) with h | h | h | h | h | h | h <;> rw [h] <;> rfl
  have eA : ∀ (i : Nat) (r : Int), 0 ≤ r → r < 7 → idxA 7 1 (.pointer (some ⟨gl, ol + i * 10 + 3, none⟩)) (.int .i64 r) = some (.pointer (some ⟨gl, ol + i * 10 + (3 + r.toNat), none⟩)) := fun i r h1 h2 => by
    rw [idxA_blk h1 (by omega), Nat.mul_one, Nat.add_assoc]
  refine joinK_i ?_
  refine loop_c (σ := Unit) l.length (fun i x => [.slice (some ⟨gl, ol, none⟩) l.length lc, .slice wa ws.length wc, .int .i64 (t : Int), .slice va vs.length vc, .int .i64 (i : Int)])
    (fun i x W1 => (∀ j (hj : j < l.length), j < i → ∀ k (hk : k < j), tog l[j] l[k] = true) ∧ St W0 [] W1) () rfl ⟨fun _ _ h => by omega, St.nil h⟩ ?_
  clear h
  rintro K i _ W3 hi ⟨hT, h⟩ hK
  simp -implicitDefEqProofs only [EN, lsub, lget, stL, beq_self_eq_true, ne_eq, if_true, if_false, List.cons_append, List.nil_append, Option.isNone_some, Option.isNone_none]
  unfold S.rostrumlaw23_ExecOne.l2
  by_cases hlt : (i : Int) < (l.length : Int)
  · have hib : i < l.length := by omega
    have ew : IntKind.i64.wrap ((i : Int) + 1) = ((i + 1 : Nat) : Int) := by rw [i64w]; omega
    have eii := ei i hib
    have hri := hrow i hib
    have hdi := insOne_dot (hg1 l[i] (List.getElem_mem hib)).1
    (repeat (first | (first | (with_reducible (first | refine w1 fun _ _ => ?_ | refine w3 fun _ _ _ => ?_ | refine w4 fun _ _ _ => ?_ | refine w11 fun _ _ _ => ?_ | refine stb_n ?_)) | ((with_reducible refine w2 ?_); try simp -implicitDefEqProofs only [EN, lsub, lget, stL, beq_self_eq_true, ne_eq, if_true, if_false, List.cons_append, List.nil_append, Option.isNone_some, Option.isNone_none, hlt]; intro _ _) | ((with_reducible (first | refine w5 ?_ ?_ | refine w6 ?_ ?_ | refine w7 ?_ ?_)); simp; refine ⟨_, rfl, ?_⟩) | ((with_reducible (first | refine w8 ?_ ?_ ?_ | refine w9 ?_ ?_ ?_ | refine w10 ?_ ?_ ?_)); exact rfl; simp) | ((with_reducible refine w12 ?_ ?_ ?_ fun _ _ => ?_); simp; simp; simp [oneC]) | ((with_reducible (first | refine eqs ?_ | refine nes ?_)); refine ⟨_, rfl, ?_⟩) | ((refine okF_i (bldP_eq rfl) ?_); try simp only [BLS, List.take_succ_cons, List.take_zero, List.drop_succ_cons, List.drop_zero, List.cons_append, List.nil_append, Nat.reduceAdd])) | simp -implicitDefEqProofs only [EN, lsub, lget, stL, beq_self_eq_true, ne_eq, if_true, if_false, List.cons_append, List.nil_append, Option.isNone_some, Option.isNone_none, hlt]))
    refine joinK_i ?_
    refine loop_c (σ := Unit) i (fun k _ => [.slice (some ⟨gl, ol, none⟩) l.length lc, .slice wa ws.length wc, .int .i64 (t : Int), .slice va vs.length vc, .int .i64 (i : Int), .int .i64 (k : Int)])
      (fun k _ W1 => (∀ j (hj : j < i), j < k → tog l[i] l[j] = true) ∧ St W0 [] W1) () rfl ⟨fun _ _ h => by omega, h⟩ ?_
    clear h
    rintro K2 k _ W4 hk ⟨hT2, h⟩ hK2
    simp -implicitDefEqProofs only [EN, lsub, lget, stL, beq_self_eq_true, ne_eq, if_true, if_false, List.cons_append, List.nil_append, Option.isNone_some, Option.isNone_none]
    unfold S.rostrumlaw23_ExecOne.l3
    by_cases hlt2 : (k : Int) < (i : Int)
    · have hkb : k < l.length := by omega
      have hki : k < i := by omega
      have ew2 : IntKind.i64.wrap ((k : Int) + 1) = ((k + 1 : Nat) : Int) := by rw [i64w]; omega
      have eik := ei k hkb
      have hrk := hrow k hkb
      have hdk := insOne_dot (hg1 l[k] (List.getElem_mem hkb)).1
      have htg : tog l[i] l[k] = !(decide (l[i].v.get l[k].d.rep.toNat < l[k].d.n) && decide (l[k].v.get l[i].d.rep.toNat < l[i].d.n)) := rfl
      have gi := gv l[i] l[k].d.rep hdk.1.1 hdk.1.2
      have gk := gv l[k] l[i].d.rep hdi.1.1 hdi.1.2
      have ai := eA i l[k].d.rep hdk.1.1 hdk.1.2
      have ak := eA k l[i].d.rep hdi.1.1 hdi.1.2
      generalize l[i] = x at *
      generalize hy : l[k] = y at *
      (repeat (first | (first | (with_reducible (first | refine w1 fun _ _ => ?_ | refine w3 fun _ _ _ => ?_ | refine w4 fun _ _ _ => ?_ | refine w11 fun _ _ _ => ?_ | refine stb_n ?_)) | ((with_reducible refine w2 ?_); try simp -implicitDefEqProofs only [EN, lsub, lget, stL, beq_self_eq_true, ne_eq, if_true, if_false, List.cons_append, List.nil_append, Option.isNone_some, Option.isNone_none, hlt2, eik, eii, ai]; intro _ _) | ((with_reducible (first | refine w5 ?_ ?_ | refine w6 ?_ ?_ | refine w7 ?_ ?_)); simp; refine ⟨_, rfl, ?_⟩) | ((with_reducible (first | refine w8 ?_ ?_ ?_ | refine w9 ?_ ?_ ?_ | refine w10 ?_ ?_ ?_)); exact rfl; simp) | ((with_reducible refine w12 ?_ ?_ ?_ fun _ _ => ?_); simp; simp; simp [oneC]) | ((with_reducible (first | refine eqs ?_ | refine nes ?_)); refine ⟨_, rfl, ?_⟩) | ((refine okF_i (bldP_eq rfl) ?_); try simp only [BLS, List.take_succ_cons, List.take_zero, List.drop_succ_cons, List.drop_zero, List.cons_append, List.nil_append, Nat.reduceAdd])) | simp -implicitDefEqProofs only [EN, lsub, lget, stL, beq_self_eq_true, ne_eq, if_true, if_false, List.cons_append, List.nil_append, Option.isNone_some, Option.isNone_none, hlt2, eik, eii, ai]))
      refine w7 (by simp) ⟨_, gi, ?_⟩
      (repeat (first | (first | (with_reducible (first | refine w1 fun _ _ => ?_ | refine w3 fun _ _ _ => ?_ | refine w4 fun _ _ _ => ?_ | refine w11 fun _ _ _ => ?_ | refine stb_n ?_)) | ((with_reducible refine w2 ?_); try simp -implicitDefEqProofs only [EN, lsub, lget, stL, beq_self_eq_true, ne_eq, if_true, if_false, List.cons_append, List.nil_append, Option.isNone_some, Option.isNone_none, eik]; intro _ _) | ((with_reducible (first | refine w5 ?_ ?_ | refine w6 ?_ ?_ | refine w7 ?_ ?_)); simp; refine ⟨_, rfl, ?_⟩) | ((with_reducible (first | refine w8 ?_ ?_ ?_ | refine w9 ?_ ?_ ?_ | refine w10 ?_ ?_ ?_)); exact rfl; simp) | ((with_reducible refine w12 ?_ ?_ ?_ fun _ _ => ?_); simp; simp; simp [oneC]) | ((with_reducible (first | refine eqs ?_ | refine nes ?_)); refine ⟨_, rfl, ?_⟩) | ((refine okF_i (bldP_eq rfl) ?_); try simp only [BLS, List.take_succ_cons, List.take_zero, List.drop_succ_cons, List.drop_zero, List.cons_append, List.nil_append, Nat.reduceAdd])) | simp -implicitDefEqProofs only [EN, lsub, lget, stL, beq_self_eq_true, ne_eq, if_true, if_false, List.cons_append, List.nil_append, Option.isNone_some, Option.isNone_none, eik]))
      by_cases c3 : x.v.get y.d.rep.toNat < y.d.n
      · (repeat (first | (first | (with_reducible (first | refine w1 fun _ _ => ?_ | refine w3 fun _ _ _ => ?_ | refine w4 fun _ _ _ => ?_ | refine w11 fun _ _ _ => ?_ | refine stb_n ?_)) | ((with_reducible refine w2 ?_); try simp -implicitDefEqProofs only [EN, lsub, lget, stL, beq_self_eq_true, ne_eq, if_true, if_false, List.cons_append, List.nil_append, Option.isNone_some, Option.isNone_none, c3, eik, eii, ak]; intro _ _) | ((with_reducible (first | refine w5 ?_ ?_ | refine w6 ?_ ?_ | refine w7 ?_ ?_)); simp; refine ⟨_, rfl, ?_⟩) | ((with_reducible (first | refine w8 ?_ ?_ ?_ | refine w9 ?_ ?_ ?_ | refine w10 ?_ ?_ ?_)); exact rfl; simp) | ((with_reducible refine w12 ?_ ?_ ?_ fun _ _ => ?_); simp; simp; simp [oneC]) | ((with_reducible (first | refine eqs ?_ | refine nes ?_)); refine ⟨_, rfl, ?_⟩) | ((refine okF_i (bldP_eq rfl) ?_); try simp only [BLS, List.take_succ_cons, List.take_zero, List.drop_succ_cons, List.drop_zero, List.cons_append, List.nil_append, Nat.reduceAdd])) | simp -implicitDefEqProofs only [EN, lsub, lget, stL, beq_self_eq_true, ne_eq, if_true, if_false, List.cons_append, List.nil_append, Option.isNone_some, Option.isNone_none, c3, eik, eii, ak]))
        refine w7 (by simp) ⟨_, gk, ?_⟩
        (repeat (first | (first | (with_reducible (first | refine w1 fun _ _ => ?_ | refine w3 fun _ _ _ => ?_ | refine w4 fun _ _ _ => ?_ | refine w11 fun _ _ _ => ?_ | refine stb_n ?_)) | ((with_reducible refine w2 ?_); try simp -implicitDefEqProofs only [EN, lsub, lget, stL, beq_self_eq_true, ne_eq, if_true, if_false, List.cons_append, List.nil_append, Option.isNone_some, Option.isNone_none, eik, eii]; intro _ _) | ((with_reducible (first | refine w5 ?_ ?_ | refine w6 ?_ ?_ | refine w7 ?_ ?_)); simp; refine ⟨_, rfl, ?_⟩) | ((with_reducible (first | refine w8 ?_ ?_ ?_ | refine w9 ?_ ?_ ?_ | refine w10 ?_ ?_ ?_)); exact rfl; simp) | ((with_reducible refine w12 ?_ ?_ ?_ fun _ _ => ?_); simp; simp; simp [oneC]) | ((with_reducible (first | refine eqs ?_ | refine nes ?_)); refine ⟨_, rfl, ?_⟩) | ((refine okF_i (bldP_eq rfl) ?_); try simp only [BLS, List.take_succ_cons, List.take_zero, List.drop_succ_cons, List.drop_zero, List.cons_append, List.nil_append, Nat.reduceAdd])) | simp -implicitDefEqProofs only [EN, lsub, lget, stL, beq_self_eq_true, ne_eq, if_true, if_false, List.cons_append, List.nil_append, Option.isNone_some, Option.isNone_none, eik, eii]))
        by_cases c4 : y.v.get x.d.rep.toNat < x.d.n
        · (repeat (first | (first | (with_reducible (first | refine w1 fun _ _ => ?_ | refine w3 fun _ _ _ => ?_ | refine w4 fun _ _ _ => ?_ | refine w11 fun _ _ _ => ?_ | refine stb_n ?_)) | ((with_reducible refine w2 ?_); try simp -implicitDefEqProofs only [EN, lsub, lget, stL, beq_self_eq_true, ne_eq, if_true, if_false, List.cons_append, List.nil_append, Option.isNone_some, Option.isNone_none, c4]; intro _ _) | ((with_reducible (first | refine w5 ?_ ?_ | refine w6 ?_ ?_ | refine w7 ?_ ?_)); simp; refine ⟨_, rfl, ?_⟩) | ((with_reducible (first | refine w8 ?_ ?_ ?_ | refine w9 ?_ ?_ ?_ | refine w10 ?_ ?_ ?_)); exact rfl; simp) | ((with_reducible refine w12 ?_ ?_ ?_ fun _ _ => ?_); simp; simp; simp [oneC]) | ((with_reducible (first | refine eqs ?_ | refine nes ?_)); refine ⟨_, rfl, ?_⟩) | ((refine okF_i (bldP_eq rfl) ?_); try simp only [BLS, List.take_succ_cons, List.take_zero, List.drop_succ_cons, List.drop_zero, List.cons_append, List.nil_append, Nat.reduceAdd])) | simp -implicitDefEqProofs only [EN, lsub, lget, stL, beq_self_eq_true, ne_eq, if_true, if_false, List.cons_append, List.nil_append, Option.isNone_some, Option.isNone_none, c4]))
          exact fin _ _ (by first | assumption | exact St.tick (by assumption) | exact St.tick (St.tick (by assumption)))
        · (repeat (first | (first | (with_reducible (first | refine w1 fun _ _ => ?_ | refine w3 fun _ _ _ => ?_ | refine w4 fun _ _ _ => ?_ | refine w11 fun _ _ _ => ?_ | refine stb_n ?_)) | ((with_reducible refine w2 ?_); try simp -implicitDefEqProofs only [EN, lsub, lget, stL, beq_self_eq_true, ne_eq, if_true, if_false, List.cons_append, List.nil_append, Option.isNone_some, Option.isNone_none, c4, ew2]; intro _ _) | ((with_reducible (first | refine w5 ?_ ?_ | refine w6 ?_ ?_ | refine w7 ?_ ?_)); simp; refine ⟨_, rfl, ?_⟩) | ((with_reducible (first | refine w8 ?_ ?_ ?_ | refine w9 ?_ ?_ ?_ | refine w10 ?_ ?_ ?_)); exact rfl; simp) | ((with_reducible refine w12 ?_ ?_ ?_ fun _ _ => ?_); simp; simp; simp [oneC]) | ((with_reducible (first | refine eqs ?_ | refine nes ?_)); refine ⟨_, rfl, ?_⟩) | ((refine okF_i (bldP_eq rfl) ?_); try simp only [BLS, List.take_succ_cons, List.take_zero, List.drop_succ_cons, List.drop_zero, List.cons_append, List.nil_append, Nat.reduceAdd])) | simp -implicitDefEqProofs only [EN, lsub, lget, stL, beq_self_eq_true, ne_eq, if_true, if_false, List.cons_append, List.nil_append, Option.isNone_some, Option.isNone_none, c4, ew2]))
          refine hK2 () _ hki ⟨fun j hj hjk => ?_, (by first | assumption | exact St.tick (by assumption) | exact St.tick (St.tick (by assumption)))⟩
          by_cases e : j = k
          · subst e; rw [hy, htg, decide_eq_false c4, Bool.and_false]; rfl
          · exact hT2 j hj (by omega)
      · (repeat (first | (first | (with_reducible (first | refine w1 fun _ _ => ?_ | refine w3 fun _ _ _ => ?_ | refine w4 fun _ _ _ => ?_ | refine w11 fun _ _ _ => ?_ | refine stb_n ?_)) | ((with_reducible refine w2 ?_); try simp -implicitDefEqProofs only [EN, lsub, lget, stL, beq_self_eq_true, ne_eq, if_true, if_false, List.cons_append, List.nil_append, Option.isNone_some, Option.isNone_none, c3, ew2]; intro _ _) | ((with_reducible (first | refine w5 ?_ ?_ | refine w6 ?_ ?_ | refine w7 ?_ ?_)); simp; refine ⟨_, rfl, ?_⟩) | ((with_reducible (first | refine w8 ?_ ?_ ?_ | refine w9 ?_ ?_ ?_ | refine w10 ?_ ?_ ?_)); exact rfl; simp) | ((with_reducible refine w12 ?_ ?_ ?_ fun _ _ => ?_); simp; simp; simp [oneC]) | ((with_reducible (first | refine eqs ?_ | refine nes ?_)); refine ⟨_, rfl, ?_⟩) | ((refine okF_i (bldP_eq rfl) ?_); try simp only [BLS, List.take_succ_cons, List.take_zero, List.drop_succ_cons, List.drop_zero, List.cons_append, List.nil_append, Nat.reduceAdd])) | simp -implicitDefEqProofs only [EN, lsub, lget, stL, beq_self_eq_true, ne_eq, if_true, if_false, List.cons_append, List.nil_append, Option.isNone_some, Option.isNone_none, c3, ew2]))
        refine hK2 () _ hki ⟨fun j hj hjk => ?_, (by first | assumption | exact St.tick (by assumption) | exact St.tick (St.tick (by assumption)))⟩
        by_cases e : j = k
        · subst e; rw [hy, htg, decide_eq_false c3, Bool.false_and]; rfl
        · exact hT2 j hj (by omega)
    · have hki : k = i := by omega
      subst hki
      (repeat (first | (first | (with_reducible (first | refine w1 fun _ _ => ?_ | refine w3 fun _ _ _ => ?_ | refine w4 fun _ _ _ => ?_ | refine w11 fun _ _ _ => ?_ | refine stb_n ?_)) | ((with_reducible refine w2 ?_); try simp -implicitDefEqProofs only [EN, lsub, lget, stL, beq_self_eq_true, ne_eq, if_true, if_false, List.cons_append, List.nil_append, Option.isNone_some, Option.isNone_none, hlt2]; intro _ _) | ((with_reducible (first | refine w5 ?_ ?_ | refine w6 ?_ ?_ | refine w7 ?_ ?_)); simp; refine ⟨_, rfl, ?_⟩) | ((with_reducible (first | refine w8 ?_ ?_ ?_ | refine w9 ?_ ?_ ?_ | refine w10 ?_ ?_ ?_)); exact rfl; simp) | ((with_reducible refine w12 ?_ ?_ ?_ fun _ _ => ?_); simp; simp; simp [oneC]) | ((with_reducible (first | refine eqs ?_ | refine nes ?_)); refine ⟨_, rfl, ?_⟩) | ((refine okF_i (bldP_eq rfl) ?_); try simp only [BLS, List.take_succ_cons, List.take_zero, List.drop_succ_cons, List.drop_zero, List.cons_append, List.nil_append, Nat.reduceAdd])) | simp -implicitDefEqProofs only [EN, lsub, lget, stL, beq_self_eq_true, ne_eq, if_true, if_false, List.cons_append, List.nil_append, Option.isNone_some, Option.isNone_none, hlt2]))
      unfold S.rostrumlaw23_ExecOne.j4
      (repeat (first | (first | (with_reducible (first | refine w1 fun _ _ => ?_ | refine w3 fun _ _ _ => ?_ | refine w4 fun _ _ _ => ?_ | refine w11 fun _ _ _ => ?_ | refine stb_n ?_)) | ((with_reducible refine w2 ?_); try simp -implicitDefEqProofs only [EN, lsub, lget, stL, beq_self_eq_true, ne_eq, if_true, if_false, List.cons_append, List.nil_append, Option.isNone_some, Option.isNone_none, ew]; intro _ _) | ((with_reducible (first | refine w5 ?_ ?_ | refine w6 ?_ ?_ | refine w7 ?_ ?_)); simp; refine ⟨_, rfl, ?_⟩) | ((with_reducible (first | refine w8 ?_ ?_ ?_ | refine w9 ?_ ?_ ?_ | refine w10 ?_ ?_ ?_)); exact rfl; simp) | ((with_reducible refine w12 ?_ ?_ ?_ fun _ _ => ?_); simp; simp; simp [oneC]) | ((with_reducible (first | refine eqs ?_ | refine nes ?_)); refine ⟨_, rfl, ?_⟩) | ((refine okF_i (bldP_eq rfl) ?_); try simp only [BLS, List.take_succ_cons, List.take_zero, List.drop_succ_cons, List.drop_zero, List.cons_append, List.nil_append, Nat.reduceAdd])) | simp -implicitDefEqProofs only [EN, lsub, lget, stL, beq_self_eq_true, ne_eq, if_true, if_false, List.cons_append, List.nil_append, Option.isNone_some, Option.isNone_none, ew]))
      refine hK () _ hib ⟨fun j hj hjk q hq => ?_, (by first | assumption | exact St.tick (by assumption) | exact St.tick (St.tick (by assumption)))⟩
      by_cases e : j = k
      · subst e; exact hT2 q hq hq
      · exact hT j hj (by omega) q hq
  · have hil : i = l.length := by omega
    subst hil
    have hTA := tog_all hg fun i hi k hk => hT i hi hi k hk
    clear hT hK
    (repeat (first | (first | (with_reducible (first | refine w1 fun _ _ => ?_ | refine w3 fun _ _ _ => ?_ | refine w4 fun _ _ _ => ?_ | refine w11 fun _ _ _ => ?_ | refine stb_n ?_)) | ((with_reducible refine w2 ?_); try simp -implicitDefEqProofs only [EN, lsub, lget, stL, beq_self_eq_true, ne_eq, if_true, if_false, List.cons_append, List.nil_append, Option.isNone_some, Option.isNone_none, hlt]; intro _ _) | ((with_reducible (first | refine w5 ?_ ?_ | refine w6 ?_ ?_ | refine w7 ?_ ?_)); simp; refine ⟨_, rfl, ?_⟩) | ((with_reducible (first | refine w8 ?_ ?_ ?_ | refine w9 ?_ ?_ ?_ | refine w10 ?_ ?_ ?_)); exact rfl; simp) | ((with_reducible refine w12 ?_ ?_ ?_ fun _ _ => ?_); simp; simp; simp [oneC]) | ((with_reducible (first | refine eqs ?_ | refine nes ?_)); refine ⟨_, rfl, ?_⟩) | ((refine okF_i (bldP_eq rfl) ?_); try simp only [BLS, List.take_succ_cons, List.take_zero, List.drop_succ_cons, List.drop_zero, List.cons_append, List.nil_append, Nat.reduceAdd])) | simp -implicitDefEqProofs only [EN, lsub, lget, stL, beq_self_eq_true, ne_eq, if_true, if_false, List.cons_append, List.nil_append, Option.isNone_some, Option.isNone_none, hlt]))
    unfold S.rostrumlaw23_ExecOne.j1
    refine execNew (by first | assumption | exact St.tick (by assumption) | exact St.tick (St.tick (by assumption))) fun px W5 h => ?_
    refine execNew h fun py W6 h => ?_
    refine loop_c (σ := XS × XS) l.length (fun i x => [.slice (some ⟨gl, ol, none⟩) l.length lc, .slice wa ws.length wc, .int .i64 (t : Int), .slice va vs.length vc, .pointer (some ⟨px, 0, none⟩), .pointer (some ⟨py, 0, none⟩), .int .i64 (i : Int)])
      (fun i x W1 => (XP l x.1 i ∧ XP l x.2 i) ∧ St W0 [exo px x.1, exo py x.2] W1) (XS.new, XS.new) rfl ⟨⟨new_xp l, new_xp l⟩, St.wk h⟩ ?_
    clear h
    rintro K i ⟨x, y⟩ W7 hi ⟨⟨hx, hy⟩, h⟩ hK
    simp only at hx hy h
    simp -implicitDefEqProofs only [EN, lsub, lget, stL, beq_self_eq_true, ne_eq, if_true, if_false, List.cons_append, List.nil_append, Option.isNone_some, Option.isNone_none]
    unfold S.rostrumlaw23_ExecOne.l1
    by_cases hlt : (i : Int) < (l.length : Int)
    · have hib : i < l.length := by omega
      have hml := Nat.mod_lt t hl0
      have ew : IntKind.i64.wrap ((i : Int) + 1) = ((i + 1 : Nat) : Int) := by rw [i64w]; omega
      have ew2 : IntKind.i64.wrap ((i : Int) + ((t % l.length : Nat) : Int)) = ((i + t % l.length : Nat) : Int) := by rw [i64w]; omega
      have er1 := rem_nat (a := t) hl0
      have er2 := rem_nat (a := i + t % l.length) hl0
      have hjb : (i + t % l.length) % l.length < l.length := Nat.mod_lt _ hl0
      generalize (i + t % l.length) % l.length = j at *
      have eii := ei i hib
      have eij := ei j hjb
      have hri := hrow i hib
      have hrj := hrow j hjb
      have hmi := List.getElem_mem hib
      have hmj := List.getElem_mem hjb
      obtain ⟨gw, ow, e2⟩ := posAddr (i := 0) (a := wa) (A := VCL) (l := ws) (St.start W0) (by omega)
      subst e2
      have ewi : ∀ i : Nat, i < l.length → idxS 7 (.slice (some ⟨gw, ow, none⟩) ws.length wc) (.int .i64 (i : Int)) = some (.pointer (some ⟨gw, ow + i * 7, none⟩)) := fun i hi => by rw [idxS_blk (by omega) (by omega), Int.toNat_natCast]
      have hrw' : ∀ i (hi : i < ws.length), ro W0 gw (ow + i * 7) [.int .i64 (ws[i]).x0, .int .i64 (ws[i]).x1, .int .i64 (ws[i]).x2, .int .i64 (ws[i]).x3, .int .i64 (ws[i]).x4, .int .i64 (ws[i]).x5, .int .i64 (ws[i]).x6] := fun i hi => Rd.row (A := VCL) (l := ws) (St.start W0) hi
      have hwi := hrw' i (by omega)
      have hwj := hrw' j (by omega)
      have ewii := ewi i hib
      have ewij := ewi j hjb
      have hx1 := commit_xp hx hmi (ws[i]'(by omega)) []
      have hy1 := commit_xp hy hmj (ws[j]'(by omega)) []
      have hK9 := fun z W' => hK z W' hib
      have hJ2 : ∀ (x y : XS) W', XP l x (i + 1) → XP l y (i + 1) → St W0 [exo px x, exo py y] W' →
          S.rostrumlaw23_ExecOne.j2 (fun v W' => v = .bool true ∧ Lo W W') K (.slice (some ⟨gl, ol, none⟩) l.length lc) (.slice (some ⟨gw, ow, none⟩) ws.length wc) (.int .i64 (t : Int)) (.slice va vs.length vc) (.pointer (some ⟨px, 0, none⟩)) (.pointer (some ⟨py, 0, none⟩)) (.int .i64 (i : Int)) W' := by
        clear h
        intro x y W8 hx hy h
        have hbx : x.done.length ≤ 15 := by
          have := line0_len (P7.all 0) [] l
          have h2 := congrArg List.length hx.pre
          rw [List.length_take] at h2; omega
        have hby : y.done.length ≤ 15 := by
          have := line0_len (P7.all 0) [] l
          have h2 := congrArg List.length hy.pre
          rw [List.length_take] at h2; omega
        unfold S.rostrumlaw23_ExecOne.j2
        refine execDone h (by omega) fun ad cd W9 h => ?_
        refine execDone (p := py) (s := y) (St.wk (L' := exo py y :: arr DOT T_api_Dot ad cd x.done :: exo px x :: []) h) (by omega) fun ae ce W10 h => ?_
        have hca := (St.arrFacts (St.wk (L' := [arr DOT T_api_Dot ad cd x.done]) h)).1
        have hce := (St.arrFacts (St.wk (L' := [arr DOT T_api_Dot ae ce y.done]) h)).1
        have hJ3 : ∀ (n : Nat) W', n ≤ x.done.length → n ≤ y.done.length → St W0 [arr DOT T_api_Dot ae ce y.done, exo py y, arr DOT T_api_Dot ad cd x.done, exo px x] W' →
            S.rostrumlaw23_ExecOne.j3 (fun v W' => v = .bool true ∧ Lo W W') K (.slice (some ⟨gl, ol, none⟩) l.length lc) (.slice (some ⟨gw, ow, none⟩) ws.length wc) (.int .i64 (t : Int)) (.slice va vs.length vc) (.pointer (some ⟨px, 0, none⟩)) (.pointer (some ⟨py, 0, none⟩)) (.int .i64 (i : Int)) (.slice ad x.done.length cd) (.slice ae y.done.length ce) (.int .i64 (n : Int)) W' := by
          clear h
          intro n W11 hnx hny h
          have heq := xp_two hx hy hnx hny
          unfold S.rostrumlaw23_ExecOne.j3
          refine slcR h.tick (a := ad) (A := DOT) (l := x.done) (lo := 0) (hi := n) rfl rfl (bnd_nat (by omega)) bnd_none (Nat.zero_le _) hnx hca fun a9 c9 hr9 => ?_
          refine slcR h.tick (a := ae) (A := DOT) (l := y.done) (lo := 0) (hi := n) rfl rfl (bnd_nat (by omega)) bnd_none (Nat.zero_le _) hny hce fun a8 c8 hr8 => ?_
          rw [List.drop_zero] at hr9 hr8 ⊢
          rw [List.drop_zero]
          rw [← heq] at hr8 ⊢
          refine lawDots23 (a := a9) (b := a8) (l := x.done.take n) (m := x.done.take n) h.tick (by simp; omega) fun W12 h => ?_
          have d9 : decide (x.done.take n = x.done.take n) = true := decide_eq_true rfl
          (repeat (first | (first | (with_reducible (first | refine w1 fun _ _ => ?_ | refine w3 fun _ _ _ => ?_ | refine w4 fun _ _ _ => ?_ | refine w11 fun _ _ _ => ?_ | refine stb_n ?_)) | ((with_reducible refine w2 ?_); try simp -implicitDefEqProofs only [EN, lsub, lget, stL, beq_self_eq_true, ne_eq, if_true, if_false, List.cons_append, List.nil_append, Option.isNone_some, Option.isNone_none, d9, ew]; intro _ _) | ((with_reducible (first | refine w5 ?_ ?_ | refine w6 ?_ ?_ | refine w7 ?_ ?_)); simp; refine ⟨_, rfl, ?_⟩) | ((with_reducible (first | refine w8 ?_ ?_ ?_ | refine w9 ?_ ?_ ?_ | refine w10 ?_ ?_ ?_)); exact rfl; simp) | ((with_reducible refine w12 ?_ ?_ ?_ fun _ _ => ?_); simp; simp; simp [oneC]) | ((with_reducible (first | refine eqs ?_ | refine nes ?_)); refine ⟨_, rfl, ?_⟩) | ((refine okF_i (bldP_eq rfl) ?_); try simp only [BLS, List.take_succ_cons, List.take_zero, List.drop_succ_cons, List.drop_zero, List.cons_append, List.nil_append, Nat.reduceAdd])) | simp -implicitDefEqProofs only [EN, lsub, lget, stL, beq_self_eq_true, ne_eq, if_true, if_false, List.cons_append, List.nil_append, Option.isNone_some, Option.isNone_none, d9, ew]))
          exact hK9 (x, y) _ ⟨⟨hx, hy⟩, St.wk h⟩
        by_cases c9 : (y.done.length : Int) < (x.done.length : Int)
        · (repeat (first | (first | (with_reducible (first | refine w1 fun _ _ => ?_ | refine w3 fun _ _ _ => ?_ | refine w4 fun _ _ _ => ?_ | refine w11 fun _ _ _ => ?_ | refine stb_n ?_)) | ((with_reducible refine w2 ?_); try simp -implicitDefEqProofs only [EN, lsub, lget, stL, beq_self_eq_true, ne_eq, if_true, if_false, List.cons_append, List.nil_append, Option.isNone_some, Option.isNone_none]; intro _ _) | ((with_reducible (first | refine w5 ?_ ?_ | refine w6 ?_ ?_ | refine w7 ?_ ?_)); simp; refine ⟨_, rfl, ?_⟩) | ((with_reducible (first | refine w8 ?_ ?_ ?_ | refine w9 ?_ ?_ ?_ | refine w10 ?_ ?_ ?_)); exact rfl; simp) | ((with_reducible refine w12 ?_ ?_ ?_ fun _ _ => ?_); simp; simp; simp [oneC]) | ((with_reducible (first | refine eqs ?_ | refine nes ?_)); refine ⟨_, rfl, ?_⟩) | ((refine okF_i (bldP_eq rfl) ?_); try simp only [BLS, List.take_succ_cons, List.take_zero, List.drop_succ_cons, List.drop_zero, List.cons_append, List.nil_append, Nat.reduceAdd])) | simp -implicitDefEqProofs only [EN, lsub, lget, stL, beq_self_eq_true, ne_eq, if_true, if_false, List.cons_append, List.nil_append, Option.isNone_some, Option.isNone_none]))
          refine joinK_i ?_
          (repeat (first | (first | (with_reducible (first | refine w1 fun _ _ => ?_ | refine w3 fun _ _ _ => ?_ | refine w4 fun _ _ _ => ?_ | refine w11 fun _ _ _ => ?_ | refine stb_n ?_)) | ((with_reducible refine w2 ?_); try simp -implicitDefEqProofs only [EN, lsub, lget, stL, beq_self_eq_true, ne_eq, if_true, if_false, List.cons_append, List.nil_append, Option.isNone_some, Option.isNone_none, c9]; intro _ _) | ((with_reducible (first | refine w5 ?_ ?_ | refine w6 ?_ ?_ | refine w7 ?_ ?_)); simp; refine ⟨_, rfl, ?_⟩) | ((with_reducible (first | refine w8 ?_ ?_ ?_ | refine w9 ?_ ?_ ?_ | refine w10 ?_ ?_ ?_)); exact rfl; simp) | ((with_reducible refine w12 ?_ ?_ ?_ fun _ _ => ?_); simp; simp; simp [oneC]) | ((with_reducible (first | refine eqs ?_ | refine nes ?_)); refine ⟨_, rfl, ?_⟩) | ((refine okF_i (bldP_eq rfl) ?_); try simp only [BLS, List.take_succ_cons, List.take_zero, List.drop_succ_cons, List.drop_zero, List.cons_append, List.nil_append, Nat.reduceAdd])) | simp -implicitDefEqProofs only [EN, lsub, lget, stL, beq_self_eq_true, ne_eq, if_true, if_false, List.cons_append, List.nil_append, Option.isNone_some, Option.isNone_none, c9]))
          exact hJ3 _ _ (by omega) (by omega) (by first | assumption | exact St.tick (by assumption) | exact St.tick (St.tick (by assumption)))
        · (repeat (first | (first | (with_reducible (first | refine w1 fun _ _ => ?_ | refine w3 fun _ _ _ => ?_ | refine w4 fun _ _ _ => ?_ | refine w11 fun _ _ _ => ?_ | refine stb_n ?_)) | ((with_reducible refine w2 ?_); try simp -implicitDefEqProofs only [EN, lsub, lget, stL, beq_self_eq_true, ne_eq, if_true, if_false, List.cons_append, List.nil_append, Option.isNone_some, Option.isNone_none]; intro _ _) | ((with_reducible (first | refine w5 ?_ ?_ | refine w6 ?_ ?_ | refine w7 ?_ ?_)); simp; refine ⟨_, rfl, ?_⟩) | ((with_reducible (first | refine w8 ?_ ?_ ?_ | refine w9 ?_ ?_ ?_ | refine w10 ?_ ?_ ?_)); exact rfl; simp) | ((with_reducible refine w12 ?_ ?_ ?_ fun _ _ => ?_); simp; simp; simp [oneC]) | ((with_reducible (first | refine eqs ?_ | refine nes ?_)); refine ⟨_, rfl, ?_⟩) | ((refine okF_i (bldP_eq rfl) ?_); try simp only [BLS, List.take_succ_cons, List.take_zero, List.drop_succ_cons, List.drop_zero, List.cons_append, List.nil_append, Nat.reduceAdd])) | simp -implicitDefEqProofs only [EN, lsub, lget, stL, beq_self_eq_true, ne_eq, if_true, if_false, List.cons_append, List.nil_append, Option.isNone_some, Option.isNone_none]))
          refine joinK_i ?_
          (repeat (first | (first | (with_reducible (first | refine w1 fun _ _ => ?_ | refine w3 fun _ _ _ => ?_ | refine w4 fun _ _ _ => ?_ | refine w11 fun _ _ _ => ?_ | refine stb_n ?_)) | ((with_reducible refine w2 ?_); try simp -implicitDefEqProofs only [EN, lsub, lget, stL, beq_self_eq_true, ne_eq, if_true, if_false, List.cons_append, List.nil_append, Option.isNone_some, Option.isNone_none, c9]; intro _ _) | ((with_reducible (first | refine w5 ?_ ?_ | refine w6 ?_ ?_ | refine w7 ?_ ?_)); simp; refine ⟨_, rfl, ?_⟩) | ((with_reducible (first | refine w8 ?_ ?_ ?_ | refine w9 ?_ ?_ ?_ | refine w10 ?_ ?_ ?_)); exact rfl; simp) | ((with_reducible refine w12 ?_ ?_ ?_ fun _ _ => ?_); simp; simp; simp [oneC]) | ((with_reducible (first | refine eqs ?_ | refine nes ?_)); refine ⟨_, rfl, ?_⟩) | ((refine okF_i (bldP_eq rfl) ?_); try simp only [BLS, List.take_succ_cons, List.take_zero, List.drop_succ_cons, List.drop_zero, List.cons_append, List.nil_append, Nat.reduceAdd])) | simp -implicitDefEqProofs only [EN, lsub, lget, stL, beq_self_eq_true, ne_eq, if_true, if_false, List.cons_append, List.nil_append, Option.isNone_some, Option.isNone_none, c9]))
          exact hJ3 _ _ (by omega) (by omega) (by first | assumption | exact St.tick (by assumption) | exact St.tick (St.tick (by assumption)))
      clear hK hK9
      (repeat (first | (first | (with_reducible (first | refine w1 fun _ _ => ?_ | refine w3 fun _ _ _ => ?_ | refine w4 fun _ _ _ => ?_ | refine w11 fun _ _ _ => ?_ | refine stb_n ?_)) | ((with_reducible refine w2 ?_); try simp -implicitDefEqProofs only [EN, lsub, lget, stL, beq_self_eq_true, ne_eq, if_true, if_false, List.cons_append, List.nil_append, Option.isNone_some, Option.isNone_none, hlt, er1, ew2, er2, eii, ewii]; intro _ _) | ((with_reducible (first | refine w5 ?_ ?_ | refine w6 ?_ ?_ | refine w7 ?_ ?_)); simp; refine ⟨_, rfl, ?_⟩) | ((with_reducible (first | refine w8 ?_ ?_ ?_ | refine w9 ?_ ?_ ?_ | refine w10 ?_ ?_ ?_)); exact rfl; simp) | ((with_reducible refine w12 ?_ ?_ ?_ fun _ _ => ?_); simp; simp; simp [oneC]) | ((with_reducible (first | refine eqs ?_ | refine nes ?_)); refine ⟨_, rfl, ?_⟩) | ((refine okF_i (bldP_eq rfl) ?_); try simp only [BLS, List.take_succ_cons, List.take_zero, List.drop_succ_cons, List.drop_zero, List.cons_append, List.nil_append, Nat.reduceAdd])) | simp -implicitDefEqProofs only [EN, lsub, lget, stL, beq_self_eq_true, ne_eq, if_true, if_false, List.cons_append, List.nil_append, Option.isNone_some, Option.isNone_none, hlt, er1, ew2, er2, eii, ewii]))
      refine execCommit0 (p := px) (s := x) (i := l[i]) (w := ws[i]'(by omega)) (by first | assumption | exact St.tick (by assumption) | exact St.tick (St.tick (by assumption))) fun W8 h => ?_
      generalize (x.commit l[i] (ws[i]'(by omega)) []).1 = x1 at *
      (repeat (first | (first | (with_reducible (first | refine w1 fun _ _ => ?_ | refine w3 fun _ _ _ => ?_ | refine w4 fun _ _ _ => ?_ | refine w11 fun _ _ _ => ?_ | refine stb_n ?_)) | ((with_reducible refine w2 ?_); try simp -implicitDefEqProofs only [EN, lsub, lget, stL, beq_self_eq_true, ne_eq, if_true, if_false, List.cons_append, List.nil_append, Option.isNone_some, Option.isNone_none, eij, ewij]; intro _ _) | ((with_reducible (first | refine w5 ?_ ?_ | refine w6 ?_ ?_ | refine w7 ?_ ?_)); simp; refine ⟨_, rfl, ?_⟩) | ((with_reducible (first | refine w8 ?_ ?_ ?_ | refine w9 ?_ ?_ ?_ | refine w10 ?_ ?_ ?_)); exact rfl; simp) | ((with_reducible refine w12 ?_ ?_ ?_ fun _ _ => ?_); simp; simp; simp [oneC]) | ((with_reducible (first | refine eqs ?_ | refine nes ?_)); refine ⟨_, rfl, ?_⟩) | ((refine okF_i (bldP_eq rfl) ?_); try simp only [BLS, List.take_succ_cons, List.take_zero, List.drop_succ_cons, List.drop_zero, List.cons_append, List.nil_append, Nat.reduceAdd])) | simp -implicitDefEqProofs only [EN, lsub, lget, stL, beq_self_eq_true, ne_eq, if_true, if_false, List.cons_append, List.nil_append, Option.isNone_some, Option.isNone_none, eij, ewij]))
      refine execCommit0 (p := py) (s := y) (i := l[j]) (w := ws[j]'(by omega)) (St.wk (L' := exo py y :: exo px x1 :: []) (by first | assumption | exact St.tick (by assumption) | exact St.tick (St.tick (by assumption)))) fun W9 h => ?_
      generalize (y.commit l[j] (ws[j]'(by omega)) []).1 = y1 at *
      refine joinK_i ?_
      have hbx : x1.done.length ≤ 15 := by
        have := line0_len (P7.all 0) [] l
        have h2 := congrArg List.length hx1.pre
        rw [List.length_take] at h2; omega
      have hby : y1.done.length ≤ 15 := by
        have := line0_len (P7.all 0) [] l
        have h2 := congrArg List.length hy1.pre
        rw [List.length_take] at h2; omega
      have hcx := hx1.len
      have hcy := hy1.len
      by_cases c8 : (i : Int) < (vs.length : Int)
      · have hiv : i < vs.length := by omega
        have hjv : vs.length - 1 - i < vs.length := by omega
        obtain ⟨gq, oq, e2⟩ := posAddr (i := 0) (a := va) (A := VCL) (l := vs) (St.start W0) (by omega)
        subst e2
        have evi : ∀ i : Nat, i < vs.length → idxS 7 (.slice (some ⟨gq, oq, none⟩) vs.length vc) (.int .i64 (i : Int)) = some (.pointer (some ⟨gq, oq + i * 7, none⟩)) := fun i hi => by rw [idxS_blk (by omega) (by omega), Int.toNat_natCast]
        have hrv' : ∀ i (hi : i < vs.length), ro W0 gq (oq + i * 7) [.int .i64 (vs[i]).x0, .int .i64 (vs[i]).x1, .int .i64 (vs[i]).x2, .int .i64 (vs[i]).x3, .int .i64 (vs[i]).x4, .int .i64 (vs[i]).x5, .int .i64 (vs[i]).x6] := fun i hi => Rd.row (A := VCL) (l := vs) (St.start W0) hi
        have hvi := hrv' i hiv
        have hvj := hrv' _ hjv
        have evii := evi i hiv
        have evij := evi _ hjv
        have ew3 : IntKind.i64.wrap ((vs.length : Int) - 1) = ((vs.length - 1 : Nat) : Int) := by rw [i64w]; omega
        have ew4 : IntKind.i64.wrap (((vs.length - 1 : Nat) : Int) - i) = ((vs.length - 1 - i : Nat) : Int) := by rw [i64w]; omega
        have hx2 := haves_xp hg hTA hx1 (by omega) vs[i]
        have hy2 := haves_xp hg hTA hy1 (by omega) (vs[vs.length - 1 - i]'hjv)
        generalize hq : vs.length - 1 - i = q at *
        (repeat (first | (first | (with_reducible (first | refine w1 fun _ _ => ?_ | refine w3 fun _ _ _ => ?_ | refine w4 fun _ _ _ => ?_ | refine w11 fun _ _ _ => ?_ | refine stb_n ?_)) | ((with_reducible refine w2 ?_); try simp -implicitDefEqProofs only [EN, lsub, lget, stL, beq_self_eq_true, ne_eq, if_true, if_false, List.cons_append, List.nil_append, Option.isNone_some, Option.isNone_none, c8, evii]; intro _ _) | ((with_reducible (first | refine w5 ?_ ?_ | refine w6 ?_ ?_ | refine w7 ?_ ?_)); simp; refine ⟨_, rfl, ?_⟩) | ((with_reducible (first | refine w8 ?_ ?_ ?_ | refine w9 ?_ ?_ ?_ | refine w10 ?_ ?_ ?_)); exact rfl; simp) | ((with_reducible refine w12 ?_ ?_ ?_ fun _ _ => ?_); simp; simp; simp [oneC]) | ((with_reducible (first | refine eqs ?_ | refine nes ?_)); refine ⟨_, rfl, ?_⟩) | ((refine okF_i (bldP_eq rfl) ?_); try simp only [BLS, List.take_succ_cons, List.take_zero, List.drop_succ_cons, List.drop_zero, List.cons_append, List.nil_append, Nat.reduceAdd])) | simp -implicitDefEqProofs only [EN, lsub, lget, stL, beq_self_eq_true, ne_eq, if_true, if_false, List.cons_append, List.nil_append, Option.isNone_some, Option.isNone_none, c8, evii]))
        refine execHave (p := px) (s := x1) (v := vs[i]) h00 (St.wk (L' := exo px x1 :: exo py y1 :: []) (by first | assumption | exact St.tick (by assumption) | exact St.tick (St.tick (by assumption)))) (by omega) (by omega) (line0_len _ _) fun a5 c5 W10 h => ?_
        (repeat (first | (first | (with_reducible (first | refine w1 fun _ _ => ?_ | refine w3 fun _ _ _ => ?_ | refine w4 fun _ _ _ => ?_ | refine w11 fun _ _ _ => ?_ | refine stb_n ?_)) | ((with_reducible refine w2 ?_); try simp -implicitDefEqProofs only [EN, lsub, lget, stL, beq_self_eq_true, ne_eq, if_true, if_false, List.cons_append, List.nil_append, Option.isNone_some, Option.isNone_none, ew3, ew4, evij]; intro _ _) | ((with_reducible (first | refine w5 ?_ ?_ | refine w6 ?_ ?_ | refine w7 ?_ ?_)); simp; refine ⟨_, rfl, ?_⟩) | ((with_reducible (first | refine w8 ?_ ?_ ?_ | refine w9 ?_ ?_ ?_ | refine w10 ?_ ?_ ?_)); exact rfl; simp) | ((with_reducible refine w12 ?_ ?_ ?_ fun _ _ => ?_); simp; simp; simp [oneC]) | ((with_reducible (first | refine eqs ?_ | refine nes ?_)); refine ⟨_, rfl, ?_⟩) | ((refine okF_i (bldP_eq rfl) ?_); try simp only [BLS, List.take_succ_cons, List.take_zero, List.drop_succ_cons, List.drop_zero, List.cons_append, List.nil_append, Nat.reduceAdd])) | simp -implicitDefEqProofs only [EN, lsub, lget, stL, beq_self_eq_true, ne_eq, if_true, if_false, List.cons_append, List.nil_append, Option.isNone_some, Option.isNone_none, ew3, ew4, evij]))
        refine execHave (p := py) (s := y1) (v := vs[q]) h00 (St.wk (L' := exo py y1 :: exo px (x1.haves vs[i]).1 :: []) (by first | assumption | exact St.tick (by assumption) | exact St.tick (St.tick (by assumption)))) (by omega) (by omega) (line0_len _ _) fun a6 c6 W11 h => ?_
        exact hJ2 _ _ _ hx2 hy2 (St.wk h)
      · (repeat (first | (first | (with_reducible (first | refine w1 fun _ _ => ?_ | refine w3 fun _ _ _ => ?_ | refine w4 fun _ _ _ => ?_ | refine w11 fun _ _ _ => ?_ | refine stb_n ?_)) | ((with_reducible refine w2 ?_); try simp -implicitDefEqProofs only [EN, lsub, lget, stL, beq_self_eq_true, ne_eq, if_true, if_false, List.cons_append, List.nil_append, Option.isNone_some, Option.isNone_none, c8]; intro _ _) | ((with_reducible (first | refine w5 ?_ ?_ | refine w6 ?_ ?_ | refine w7 ?_ ?_)); simp; refine ⟨_, rfl, ?_⟩) | ((with_reducible (first | refine w8 ?_ ?_ ?_ | refine w9 ?_ ?_ ?_ | refine w10 ?_ ?_ ?_)); exact rfl; simp) | ((with_reducible refine w12 ?_ ?_ ?_ fun _ _ => ?_); simp; simp; simp [oneC]) | ((with_reducible (first | refine eqs ?_ | refine nes ?_)); refine ⟨_, rfl, ?_⟩) | ((refine okF_i (bldP_eq rfl) ?_); try simp only [BLS, List.take_succ_cons, List.take_zero, List.drop_succ_cons, List.drop_zero, List.cons_append, List.nil_append, Nat.reduceAdd])) | simp -implicitDefEqProofs only [EN, lsub, lget, stL, beq_self_eq_true, ne_eq, if_true, if_false, List.cons_append, List.nil_append, Option.isNone_some, Option.isNone_none, c8]))
        exact hJ2 _ _ _ hx1 hy1 (St.wk (by first | assumption | exact St.tick (by assumption) | exact St.tick (St.tick (by assumption))))
    · (repeat (first | (first | (with_reducible (first | refine w1 fun _ _ => ?_ | refine w3 fun _ _ _ => ?_ | refine w4 fun _ _ _ => ?_ | refine w11 fun _ _ _ => ?_ | refine stb_n ?_)) | ((with_reducible refine w2 ?_); try simp -implicitDefEqProofs only [EN, lsub, lget, stL, beq_self_eq_true, ne_eq, if_true, if_false, List.cons_append, List.nil_append, Option.isNone_some, Option.isNone_none, hlt]; intro _ _) | ((with_reducible (first | refine w5 ?_ ?_ | refine w6 ?_ ?_ | refine w7 ?_ ?_)); simp; refine ⟨_, rfl, ?_⟩) | ((with_reducible (first | refine w8 ?_ ?_ ?_ | refine w9 ?_ ?_ ?_ | refine w10 ?_ ?_ ?_)); exact rfl; simp) | ((with_reducible refine w12 ?_ ?_ ?_ fun _ _ => ?_); simp; simp; simp [oneC]) | ((with_reducible (first | refine eqs ?_ | refine nes ?_)); refine ⟨_, rfl, ?_⟩) | ((refine okF_i (bldP_eq rfl) ?_); try simp only [BLS, List.take_succ_cons, List.take_zero, List.drop_succ_cons, List.drop_zero, List.cons_append, List.nil_append, Nat.reduceAdd])) | simp -implicitDefEqProofs only [EN, lsub, lget, stL, beq_self_eq_true, ne_eq, if_true, if_false, List.cons_append, List.nil_append, Option.isNone_some, Option.isNone_none, hlt]))
      exact fin _ _ (by first | assumption | exact St.tick (by assumption) | exact St.tick (St.tick (by assumption)))
end Go.Proofs.Ytkjhccpanedccaa
namespace Go.Proofs.Ytkjhccpanedccaa.execOneDone
set_option linter.unusedVariables false
set_option linter.unusedSimpArgs false
open Go Go.Eng Go.ChangeShapes Go.WideShapes Go.ChangeAt Go.RowKit

theorem own : ownKnob Try.prog.godebug = none := by kernel_rfl
theorem laidOut : laidOutB Try.prog = true := by kernel_rfl

set_option maxRecDepth 100000 in
theorem lifted (os : Os) (started : os.Started) (H : Type) (enc : TypeId × Value → H) :
    ReturnsInHanded {} Try.checked os F_rostrumlaw23_ExecOne .any (Rows.execOneSpec.pre6 enc Try.prog Try.f7 Rows.execOneRow.domain false) (Rows.execOneSpec.post enc Try.prog Try.f7 false true false false) := by
  refine returnsInHanded_of_change (C := Try.checked) own started (by kernel_rfl) S.rostrumlaw23_ExecOne.fn
    (ChangeSpec.witness6 (enc := enc) (C := Try.checked) false ⟨#[], #[(.slice none 0 0), (.slice none 0 0), (.int .i64 0), (.slice none 0 0)], []⟩ 8 (by kernel_rfl) (by kernel_rfl) (by kernel_rfl) (by kernel_rfl)) ?_
  intro W base args ds gs before hval0 hW hcnd _
  have hval : ∀ (j : Nat) t v, Try.f7.params[j]? = some t → args[j]? = some v → Value.okWide Try.prog W .any base t v := hval0
  have hW' := hW
  obtain ⟨p, q, hA0, hV, rfl, hfz, hnd⟩ := hW
  have hA : DataW.TrodAll enc Try.prog W 0 (fun _ => true) true Try.f7.params.toList args.toList ds p := hA0
  have hpar : Try.f7.params.toList = [T_s_order_Inst, T_s_vec_Vec, T_int, T_s_vec_Vec] := by kernel_rfl
  rw [hpar] at hA
  have hA1 := hA
  obtain ⟨v0, vs0, d0, ds0, p0, q0, hargs, rfl, rfl, h0, r0⟩ := trodAll_cons hA
  obtain ⟨v1, vs1, d1, ds1, p1, q1, rfl, rfl, rfl, h1, r1⟩ := trodAll_cons r0
  obtain ⟨v2, vs2, d2, ds2, p2, q2, rfl, rfl, rfl, h2, r2⟩ := trodAll_cons r1
  obtain ⟨v3, vs3, d3, ds3, p3, q3, rfl, rfl, rfl, h3, r3⟩ := trodAll_cons r2
  obtain ⟨rfl, rfl, rfl⟩ := trodAll_nil r3
  obtain rfl : args = #[v0, v1, v2, v3] := by cases args; simp_all
  obtain ⟨rfl, rfl⟩ := trodVars_none hV
  have g0 : GoodA W [.sl [.int .i64, .int .i64, .int .i64, .int .i64, .int .i64, .int .i64, .int .i64, .int .i64, .int .i64, .int .i64]] false v0 := open_arg (m := 8) (by kernel_rfl) (by kernel_rfl) (hval 0 T_s_order_Inst v0 (by kernel_rfl) rfl) h0
  have g1 : GoodA W [.sl [.int .i64, .int .i64, .int .i64, .int .i64, .int .i64, .int .i64, .int .i64]] false v1 := open_arg (m := 8) (by kernel_rfl) (by kernel_rfl) (hval 1 T_s_vec_Vec v1 (by kernel_rfl) rfl) h1
  have g2 : GoodA W [.int .i64] false v2 := open_arg (m := 8) (by kernel_rfl) (by kernel_rfl) (hval 2 T_int v2 (by kernel_rfl) rfl) h2
  have g3 : GoodA W [.sl [.int .i64, .int .i64, .int .i64, .int .i64, .int .i64, .int .i64, .int .i64]] false v3 := open_arg (m := 8) (by kernel_rfl) (by kernel_rfl) (hval 3 T_s_vec_Vec v3 (by kernel_rfl) rfl) h3
  clear hA0 hval0
  have hc : Calls Try.prog F_rostrumlaw23_ExecOne #[v0, v1, v2, v3] W fun e W' => e = .returned (.bool true) ∧ Below W.heap.size W W' :=
    Calls.mono (execOne_walk g0 g1 g2 g3) fun e W' h => by
      cases e <;> first | exact ⟨by rw [h.1], h.2.below⟩ | exact h.elim
  refine hc.mono fun e W' ⟨he, bel⟩ => ?_
  subst he
  exact ⟨_, rfl, _, _, _, [], _, [], hW', trodAll_mk1 (shut_bool (t := T_bool) (by kernel_rfl) _), keep_all laidOut (by kernel_rfl) hA1 bel, rfl, bel.frame _, fun h => by cases h⟩

theorem proved : Rows.ExecOneSaid :=
  OpenClaim.holds_of_wide F_rostrumlaw23_ExecOne Try.f7 rfl rfl rfl rfl rfl rfl rfl ⟨rfl, rfl, rfl, rfl, rfl⟩ rfl rfl rfl rfl rfl (by kernel_rfl) S.rostrumlaw23_ExecOne.fn (by kernel_rfl)
    (of_decide_eq_true (by kernel_rfl)) (by unfold Func.isWrapper; first | (rw [if_pos (by decide +kernel)]; kernel_rfl) | (rw [if_neg (by decide +kernel)]; exact ⟨rfl, rfl⟩))
    (fun os started H enc _ => lifted os started H enc)
end Go.Proofs.Ytkjhccpanedccaa.execOneDone
