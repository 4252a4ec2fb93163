/- Texts of the claim ExecGrows, joined: Opn2, Lz, ShSD, SDots, Sl6, ShAw23, LExeA, ShG23, LExe2, LExe3. -/
import Derived.Test.YtkjhccpanedccaaBExecGrows9
import Derived.Test.YtkjhccpanedccaaBExecGrows2
import Derived.Test.YtkjhccpanedccaaBExecGrows1
import Derived.Test.YtkjhccpanedccaaBExecGrows8
import Derived.Test.YtkjhccpanedccaaBExecGrows3
namespace Go.Eng
set_option linter.unusedVariables false
set_option linter.unusedSimpArgs false
open Go Go.RowKit

theorem wf64 {n : Int} (h : (Lit.int .i64 n).wf = true) : -9223372036854775808 ≤ n ∧ n ≤ 9223372036854775807 := by
  simp only [Lit.wf, Bool.and_eq_true, decide_eq_true_eq] at h
  exact h
theorem wf8 {n : Int} (h : (Lit.int .u8 n).wf = true) : 0 ≤ n ∧ n ≤ 255 := by
  simp only [Lit.wf, Bool.and_eq_true, decide_eq_true_eq] at h
  exact h
theorem ro_rows {α : Type} {A : Ly α} {w : World} {b o : Nat} : ∀ (l : List α), (∀ i (hi : i < l.length), ro w b (o + i * A.sz) (A.row l[i])) → ro w b o (A.rows l) := by
  intro l h j hj
  rw [Ly.rows_len] at hj
  have hp := A.pos
  have hi : j / A.sz < l.length := Nat.div_lt_of_lt_mul (by rw [Nat.mul_comm]; exact hj)
  have hr : j % A.sz < A.sz := Nat.mod_lt _ hp
  have h1 := h _ hi (j % A.sz) (by rw [A.len]; exact hr)
  have e : o + j / A.sz * A.sz + j % A.sz = o + j := by rw [Nat.add_assoc, Nat.div_add_mod']
  rw [e] at h1
  rw [h1, ← Ly.rows_at hi, List.getElem?_take_of_lt hr, List.getElem?_drop, Nat.div_add_mod']
theorem openArr {α : Type} [Inhabited α] (A : Ly α) {e : List Cl} (p : α → Prop) {w : World} {v : Value} (h : GoodC w (.sl e) v) (he : e.length = A.sz) (hq : ∀ vs, GoodL w e vs → ∃ a, vs = A.row a ∧ p a) :
    ∃ (a : Option Addr) (c : Nat) (l : List α), v = .slice a l.length c ∧ l.length ≤ c ∧ c ≤ maxLen ∧ Rd w [] a A l ∧ ∀ x ∈ l, p x := by
  obtain ⟨a, n, c, F, rfl, hn, hc, ha, hr⟩ := h.sl' (q := fun x vs => vs = A.row x ∧ p x) hq
  refine ⟨a, c, (List.range n).map F, by simp, by simpa using hn, hc, Rd.base ?_, fun x hx => ?_⟩
  · by_cases hn0 : n = 0
    · subst hn0; exact .inl rfl
    · right
      obtain ⟨b, o, vs, rfl, _⟩ := hr 0 (by omega)
      refine ⟨b, o, rfl, ro_rows _ fun i hi => ?_⟩
      obtain ⟨b', o', vs, h1, h2, h3, _⟩ := hr i (by simpa using hi)
      cases h1
      rw [he] at h2
      subst h3
      simpa using h2
  · obtain ⟨i, hi, rfl⟩ := List.mem_map.1 hx
    obtain ⟨_, _, _, _, _, _, h⟩ := hr i (by simpa using hi)
    exact h
/-- a slice of bytes -/
theorem openBytes {w : World} {v : Value} (h : GoodC w (.sl [.int .u8]) v) : ∃ (a : Option Addr) (c : Nat) (l : List UInt8), v = .slice a l.length c ∧ l.length ≤ c ∧ c ≤ maxLen ∧ Rd w [] a B8 l := by
  obtain ⟨a, c, l, h1, h2, h3, h4, _⟩ := openArr B8 (fun _ => True) h rfl fun vs hv => by
    obtain ⟨_, _, rfl, h1, h⟩ := hv.cons'
    obtain rfl := h.nil'
    obtain ⟨n, rfl, hn⟩ := h1.int'
    have := wf8 hn
    refine ⟨UInt8.ofNat n.toNat, ?_, trivial⟩
    have e : (UInt8.ofNat n.toNat).toNat = n.toNat := by simp [UInt8.toNat_ofNat']; omega
    show _ = [b8 _]
    simp only [b8, e]
    rw [Int.toNat_of_nonneg this.1]
  exact ⟨a, c, l, h1, h2, h3, h4⟩
end Go.Eng
namespace Go.Proofs.Ytkjhccpanedccaa
set_option linter.unusedVariables false
set_option linter.unusedSimpArgs false
open Go Go.Eng Go.RowKit
structure Lo (W W' : World) : Prop where
  below : Below W.heap.size W W'
theorem St.startz (W : World) : St { W with drawn := 0 } [] W := ⟨⟨⟨rfl, rfl, rfl, Nat.le_refl _, fun _ _ => rfl⟩, Nat.zero_le _⟩, fun _ => none, fun _ => rfl, fun b o h => by cases h⟩
theorem St.lo {W W' : World} {L : List Asn} (h : St { W with drawn := 0 } L W') : Lo W W' := ⟨⟨h.bel.os, h.bel.tape, h.bel.output, h.bel.size, h.bel.block⟩⟩
mutual
theorem goodCz {W : World} {c : Cl} {v : Value} : GoodC W c v → GoodC { W with drawn := 0 } c v
  | .int h => .int h
  | .str h => .str h
  | .bool => .bool
  | .sl rows hc hm hn hr hg => .sl rows hc hm hn hr fun i hi => goodLz (hg i hi)
theorem goodLz {W : World} {l : List Cl} {v : List Value} : GoodL W l v → GoodL { W with drawn := 0 } l v
  | .nil => .nil
  | .cons h hs => .cons (goodCz h) (goodLz hs)
end
theorem goodAz {W : World} {l : List Cl} {b : Bool} {v : Value} (h : GoodA W l b v) : GoodA { W with drawn := 0 } l b v := ⟨goodLz h.1, h.2⟩
end Go.Proofs.Ytkjhccpanedccaa
namespace Go.Proofs.Ytkjhccpanedccaa
set_option linter.unusedVariables false
set_option linter.unusedSimpArgs false
open Go.Eng
/-! ### rostrum/rostrumref7.SameDots (35) -/
def S.rostrumref7_SameDots.l1 (R : Value → World → Prop) (K1 : List Value → World → Prop) (x0 x1 x5 : Value) (W : World) : Prop :=
  okF (lenP (.slice T_api_Dot) x0) fun v13 =>
  okF (binP .lss x5 v13) fun v14 =>
  ifK v14 (
  okF (idxS 2 x0 x5) fun v19 =>
  rdK PR (Instr.loadAt T_api_Dot v19) (fun v20 W =>
  okF (idxS 2 x1 x5) fun v23 =>
  rdK PR (Instr.loadAt T_api_Dot v23) (fun v24 W =>
  rdK PR (aggEq .neq T_api_Dot v20 v24) (fun v25 W =>
  ifK v25 (
  R (.bool false) W) (
  okF (binP .add x5 (.int .i64 1)) fun v16 =>
  K1 [x0, x1, v16] W)) W) W) (tick W)) (
  R (.bool true) W)
def S.rostrumref7_SameDots.body (R : Value → World → Prop) (v0 v1 : Value) (W : World) : Prop :=
  okF (lenP (.slice T_api_Dot) v0) fun v7 =>
  okF (lenP (.slice T_api_Dot) v1) fun v9 =>
  okF (binP .neq v7 v9) fun v10 =>
  ifK v10 (
  R (.bool false) W) (
  loopK (fun K1 s W => S.rostrumref7_SameDots.l1 R K1 (nthv s 0) (nthv s 1) (nthv s 2) W) [v0, v1, (.int .i64 0)] W)
def S.rostrumref7_SameDots.hint : Hint := (.two .nil (.two (.two .nil (.two (.two .nil .nil) .nil)) (.two (.two .nil (.at [0, 1, 5] (.two (.two .nil (.two .nil .nil)) (.two (.two .nil (.two (.two .nil .nil) .nil)) .nil)) .nil)) (.two .nil .nil))))
theorem S.rostrumref7_SameDots.ok (R : Value → World → Prop) (v0 v1 : Value) (W : World) : bodyK PR CB Try.f35 S.rostrumref7_SameDots.hint [v0, v1] R W = S.rostrumref7_SameDots.body R v0 v1 W := by kernel_rfl
theorem S.rostrumref7_SameDots.fn : PR.funcs[F_rostrumref7_SameDots]? = some Try.f35 := by kernel_rfl
theorem S.rostrumref7_SameDots.call {R : Value → World → Prop} {v0 v1 : Value} {W : World} (h : S.rostrumref7_SameDots.body R v0 v1 W) : callK PR F_rostrumref7_SameDots [v0, v1] R W :=
  callK_of_body (g := F_rostrumref7_SameDots) (fn := Try.f35) (args := [v0, v1]) (R := R) (w := W) mixed CBok S.rostrumref7_SameDots.fn S.rostrumref7_SameDots.hint (by rw [S.rostrumref7_SameDots.ok]; exact h)
end Go.Proofs.Ytkjhccpanedccaa
namespace Go.Proofs.Ytkjhccpanedccaa
set_option linter.unusedVariables false
set_option linter.unusedSimpArgs false
open Go Go.Eng Go.Tar Go.Sort Go.RowKit
theorem dot_eq (x y : Dot) : (decide (x.rep = y.rep) && decide (x.n = y.n)) = decide (x = y) := by
  cases x; cases y
  rw [Bool.eq_iff_iff]
  simp
theorem take_step {α : Type} {l m : List α} {i : Nat} (h : l.take i = m.take i) (hi : i < l.length) (hj : i < m.length) (he : l[i] = m[i]) : l.take (i + 1) = m.take (i + 1) := by
  rw [List.take_succ_eq_append_getElem hi, List.take_succ_eq_append_getElem hj, h, he]
section
variable {W0 W : World} {L L' : List Asn}
set_option maxRecDepth 100000 in
set_option maxHeartbeats 4000000 in
theorem refSameDots {a b : Option Addr} {c d : Nat} {l m : List Dot} {k : Value → World → Prop} (h : St W0 L W) [hr : Rd W0 L a DOT l] [hr2 : Rd W0 L b DOT m] (hl : l.length < 4611686018427387904)
    (hk : ∀ W', St W0 L W' → k (.bool (decide (l = m))) W') : callK PR F_rostrumref7_SameDots [.slice a l.length c, .slice b m.length d] k W := by
  apply S.rostrumref7_SameDots.call
  unfold S.rostrumref7_SameDots.body
  by_cases hn : l.length = m.length
  · have f1 : decide ((l.length : Int) = (m.length : Int)) = true := decide_eq_true (by omega)
    (repeat (first | (first | (with_reducible (first | refine w1 fun _ _ => ?_ | refine w3 fun _ _ _ => ?_ | refine w4 fun _ _ _ => ?_ | refine w11 fun _ _ _ => ?_ | refine stb_n ?_)) | ((with_reducible refine w2 ?_); try simp -implicitDefEqProofs only [EN, lsub, lget, stL, beq_self_eq_true, ne_eq, if_true, if_false, List.cons_append, List.nil_append, Option.isNone_some, Option.isNone_none, f1]; intro _ _) | ((with_reducible (first | refine w5 ?_ ?_ | refine w6 ?_ ?_ | refine w7 ?_ ?_)); simp; refine ⟨_, rfl, ?_⟩) | ((with_reducible (first | refine w8 ?_ ?_ ?_ | refine w9 ?_ ?_ ?_ | refine w10 ?_ ?_ ?_)); exact rfl; simp) | ((with_reducible refine w12 ?_ ?_ ?_ fun _ _ => ?_); simp; simp; simp [oneC]) | ((with_reducible (first | refine eqs ?_ | refine nes ?_)); refine ⟨_, rfl, ?_⟩) | ((refine okF_i (bldP_eq rfl) ?_); try simp only [BLS, List.take_succ_cons, List.take_zero, List.drop_succ_cons, List.drop_zero, List.cons_append, List.nil_append, Nat.reduceAdd])) | simp -implicitDefEqProofs only [EN, lsub, lget, stL, beq_self_eq_true, ne_eq, if_true, if_false, List.cons_append, List.nil_append, Option.isNone_some, Option.isNone_none, f1]))
    refine loop_c (σ := Unit) l.length (fun i _ => [.slice a l.length c, .slice b m.length d, .int .i64 i]) (fun i _ W1 => l.take i = m.take i ∧ St W0 L W1) () rfl ⟨rfl, h⟩ ?_
    clear h
    rintro K i _ W2 hi ⟨ht, h⟩ hK
    simp -implicitDefEqProofs only [EN, lsub, lget, stL, beq_self_eq_true, ne_eq, if_true, if_false, List.cons_append, List.nil_append, Option.isNone_some, Option.isNone_none]
    unfold S.rostrumref7_SameDots.l1
    by_cases hlt : (i : Int) < (l.length : Int)
    · have hib : i < l.length := by omega
      have hjb : i < m.length := by omega
      have ew : IntKind.i64.wrap ((i : Int) + 1) = ((i + 1 : Nat) : Int) := by rw [i64w]; omega
      (repeat (first | (first | (with_reducible (first | refine w1 fun _ _ => ?_ | refine w3 fun _ _ _ => ?_ | refine w4 fun _ _ _ => ?_ | refine w11 fun _ _ _ => ?_ | refine stb_n ?_)) | ((with_reducible refine w2 ?_); try simp -implicitDefEqProofs only [EN, lsub, lget, stL, beq_self_eq_true, ne_eq, if_true, if_false, List.cons_append, List.nil_append, Option.isNone_some, Option.isNone_none, hlt]; intro _ _) | ((with_reducible (first | refine w5 ?_ ?_ | refine w6 ?_ ?_ | refine w7 ?_ ?_)); simp; refine ⟨_, rfl, ?_⟩) | ((with_reducible (first | refine w8 ?_ ?_ ?_ | refine w9 ?_ ?_ ?_ | refine w10 ?_ ?_ ?_)); exact rfl; simp) | ((with_reducible refine w12 ?_ ?_ ?_ fun _ _ => ?_); simp; simp; simp [oneC]) | ((with_reducible (first | refine eqs ?_ | refine nes ?_)); refine ⟨_, rfl, ?_⟩) | ((refine okF_i (bldP_eq rfl) ?_); try simp only [BLS, List.take_succ_cons, List.take_zero, List.drop_succ_cons, List.drop_zero, List.cons_append, List.nil_append, Nat.reduceAdd])) | simp -implicitDefEqProofs only [EN, lsub, lget, stL, beq_self_eq_true, ne_eq, if_true, if_false, List.cons_append, List.nil_append, Option.isNone_some, Option.isNone_none, hlt]))
      refine ixA (i := i) (a := a) (l := l) (A := DOT) h.tick rfl rfl hib fun g o ha => ?_
      cases ha
      refine ldA0 (i := i) (l := l) (A := DOT) h.tick rfl hib (v := .agg #[.int .i64 (l[i]).rep, .int .i64 (l[i]).n]) rfl (by simp) ?_
      refine ixA (i := i) (a := b) (l := m) (A := DOT) h.tick rfl rfl hjb fun g' o' ha => ?_
      cases ha
      refine ldA0 (i := i) (l := m) (A := DOT) h.tick rfl hjb (v := .agg #[.int .i64 (m[i]).rep, .int .i64 (m[i]).n]) rfl (by simp) ?_
      generalize hx : l[i] = x at *
      generalize hy : m[i] = y at *
      by_cases he : x = y
      · have f2 : (decide (x.rep = y.rep) && decide (x.n = y.n)) = true := by rw [dot_eq]; exact decide_eq_true he
        (repeat (first | (first | (with_reducible (first | refine w1 fun _ _ => ?_ | refine w3 fun _ _ _ => ?_ | refine w4 fun _ _ _ => ?_ | refine w11 fun _ _ _ => ?_ | refine stb_n ?_)) | ((with_reducible refine w2 ?_); try simp -implicitDefEqProofs only [EN, lsub, lget, stL, beq_self_eq_true, ne_eq, if_true, if_false, List.cons_append, List.nil_append, Option.isNone_some, Option.isNone_none, f2, ew]; intro _ _) | ((with_reducible (first | refine w5 ?_ ?_ | refine w6 ?_ ?_ | refine w7 ?_ ?_)); simp; refine ⟨_, rfl, ?_⟩) | ((with_reducible (first | refine w8 ?_ ?_ ?_ | refine w9 ?_ ?_ ?_ | refine w10 ?_ ?_ ?_)); exact rfl; simp) | ((with_reducible refine w12 ?_ ?_ ?_ fun _ _ => ?_); simp; simp; simp [oneC]) | ((with_reducible (first | refine eqs ?_ | refine nes ?_)); refine ⟨_, rfl, ?_⟩) | ((refine okF_i (bldP_eq rfl) ?_); try simp only [BLS, List.take_succ_cons, List.take_zero, List.drop_succ_cons, List.drop_zero, List.cons_append, List.nil_append, Nat.reduceAdd])) | simp -implicitDefEqProofs only [EN, lsub, lget, stL, beq_self_eq_true, ne_eq, if_true, if_false, List.cons_append, List.nil_append, Option.isNone_some, Option.isNone_none, f2, ew]))
        refine hK () _ hib ⟨take_step ht hib hjb (by rw [hx, hy, he]), h.tick⟩
      · have f2 : (decide (x.rep = y.rep) && decide (x.n = y.n)) = false := by rw [dot_eq]; exact decide_eq_false he
        have hne : decide (l = m) = false := decide_eq_false fun e => he (by subst e; rw [← hx, ← hy])
        rw [hne] at hk
        (repeat (first | (first | (with_reducible (first | refine w1 fun _ _ => ?_ | refine w3 fun _ _ _ => ?_ | refine w4 fun _ _ _ => ?_ | refine w11 fun _ _ _ => ?_ | refine stb_n ?_)) | ((with_reducible refine w2 ?_); try simp -implicitDefEqProofs only [EN, lsub, lget, stL, beq_self_eq_true, ne_eq, if_true, if_false, List.cons_append, List.nil_append, Option.isNone_some, Option.isNone_none, f2]; intro _ _) | ((with_reducible (first | refine w5 ?_ ?_ | refine w6 ?_ ?_ | refine w7 ?_ ?_)); simp; refine ⟨_, rfl, ?_⟩) | ((with_reducible (first | refine w8 ?_ ?_ ?_ | refine w9 ?_ ?_ ?_ | refine w10 ?_ ?_ ?_)); exact rfl; simp) | ((with_reducible refine w12 ?_ ?_ ?_ fun _ _ => ?_); simp; simp; simp [oneC]) | ((with_reducible (first | refine eqs ?_ | refine nes ?_)); refine ⟨_, rfl, ?_⟩) | ((refine okF_i (bldP_eq rfl) ?_); try simp only [BLS, List.take_succ_cons, List.take_zero, List.drop_succ_cons, List.drop_zero, List.cons_append, List.nil_append, Nat.reduceAdd])) | simp -implicitDefEqProofs only [EN, lsub, lget, stL, beq_self_eq_true, ne_eq, if_true, if_false, List.cons_append, List.nil_append, Option.isNone_some, Option.isNone_none, f2]))
        exact hk _ h.tick
    · (repeat (first | (first | (with_reducible (first | refine w1 fun _ _ => ?_ | refine w3 fun _ _ _ => ?_ | refine w4 fun _ _ _ => ?_ | refine w11 fun _ _ _ => ?_ | refine stb_n ?_)) | ((with_reducible refine w2 ?_); try simp -implicitDefEqProofs only [EN, lsub, lget, stL, beq_self_eq_true, ne_eq, if_true, if_false, List.cons_append, List.nil_append, Option.isNone_some, Option.isNone_none, hlt]; intro _ _) | ((with_reducible (first | refine w5 ?_ ?_ | refine w6 ?_ ?_ | refine w7 ?_ ?_)); simp; refine ⟨_, rfl, ?_⟩) | ((with_reducible (first | refine w8 ?_ ?_ ?_ | refine w9 ?_ ?_ ?_ | refine w10 ?_ ?_ ?_)); exact rfl; simp) | ((with_reducible refine w12 ?_ ?_ ?_ fun _ _ => ?_); simp; simp; simp [oneC]) | ((with_reducible (first | refine eqs ?_ | refine nes ?_)); refine ⟨_, rfl, ?_⟩) | ((refine okF_i (bldP_eq rfl) ?_); try simp only [BLS, List.take_succ_cons, List.take_zero, List.drop_succ_cons, List.drop_zero, List.cons_append, List.nil_append, Nat.reduceAdd])) | simp -implicitDefEqProofs only [EN, lsub, lget, stL, beq_self_eq_true, ne_eq, if_true, if_false, List.cons_append, List.nil_append, Option.isNone_some, Option.isNone_none, hlt]))
      have hall : l = m := by
        have := ht
        rw [List.take_of_length_le (by omega), List.take_of_length_le (by omega)] at this
        exact this
      rw [decide_eq_true hall] at hk
      exact hk _ h
  · have f1 : decide ((l.length : Int) = (m.length : Int)) = false := decide_eq_false (by omega)
    have hne : decide (l = m) = false := decide_eq_false fun e => hn (by rw [e])
    rw [hne] at hk
    (repeat (first | (first | (with_reducible (first | refine w1 fun _ _ => ?_ | refine w3 fun _ _ _ => ?_ | refine w4 fun _ _ _ => ?_ | refine w11 fun _ _ _ => ?_ | refine stb_n ?_)) | ((with_reducible refine w2 ?_); try simp -implicitDefEqProofs only [EN, lsub, lget, stL, beq_self_eq_true, ne_eq, if_true, if_false, List.cons_append, List.nil_append, Option.isNone_some, Option.isNone_none, f1]; intro _ _) | ((with_reducible (first | refine w5 ?_ ?_ | refine w6 ?_ ?_ | refine w7 ?_ ?_)); simp; refine ⟨_, rfl, ?_⟩) | ((with_reducible (first | refine w8 ?_ ?_ ?_ | refine w9 ?_ ?_ ?_ | refine w10 ?_ ?_ ?_)); exact rfl; simp) | ((with_reducible refine w12 ?_ ?_ ?_ fun _ _ => ?_); simp; simp; simp [oneC]) | ((with_reducible (first | refine eqs ?_ | refine nes ?_)); refine ⟨_, rfl, ?_⟩) | ((refine okF_i (bldP_eq rfl) ?_); try simp only [BLS, List.take_succ_cons, List.take_zero, List.drop_succ_cons, List.drop_zero, List.cons_append, List.nil_append, Nat.reduceAdd])) | simp -implicitDefEqProofs only [EN, lsub, lget, stL, beq_self_eq_true, ne_eq, if_true, if_false, List.cons_append, List.nil_append, Option.isNone_some, Option.isNone_none, f1]))
    exact hk _ h
end
end Go.Proofs.Ytkjhccpanedccaa
namespace Go.Eng
set_option linter.unusedVariables false
set_option linter.unusedSimpArgs false
open Go Go.RowKit
section
variable {P : Program} {W0 W : World} {L : List Asn} {e : TypeId}
theorem bl1 (l : List UInt8) {t : TypeId} {by' n : Nat} {z : Value} [ht : TyS P t e 1 by' z] {ps : List (Nat × Value)} {k : Value → World → Prop} (h : St W0 L W) (hln : l.length = n) (hn : n ≤ 16777216) (hn0 : n ≠ 0)
    (hc : fillL (fun i => some (i * 1, 1)) ((List.range (n * 1)).map fun i => ((vcells z)[i % (vcells z).length]?).getD undef) ps = some (B8.rows l))
    (hk : ∀ b W', St W0 (blk b (.cells (B8.rows l).toArray e) :: L) W' → k (.slice (some ⟨b, 0, none⟩) l.length l.length) W') : efK P (Instr.buildSlice t n ps.toArray) k W := by
  subst hln
  exact ⟨_, _, bs_run (P := P) (t := t) (e := e) (by omega) (by omega) hc, hk _ _ (h.alloc _)⟩
theorem bl2 (l : List UInt8) {b n c : Nat} {t : TypeId} [hb : BytesT P t e] {k : Value → World → Prop} (h : St W0 (blk b (.cells (B8.rows l).toArray e) :: L) W) (hl : l.length ≤ maxLen)
    (hk : ∀ W', St W0 (arr B8 e (some ⟨b, 0, none⟩) l.length l :: L) W' → k (.slice (some ⟨b, 0, none⟩) n c) W') : efK P (convert t t (.slice (some ⟨b, 0, none⟩) n c)) k W := by
  have hbl := h.blk.2
  have hsh : W.shape? b = some (e, (B8.rows l).toArray.size) := by
    unfold World.shape?; rw [hbl]
  have hfr : W.freeze ⟨b, (B8.rows l).toArray.size, none⟩ 1 = { W with heap := W.heap.setIfInBounds b (.cells (B8.rows l).toArray e ((B8.rows l).toArray.size, (B8.rows l).toArray.size + 1)) } := by
    unfold World.freeze
    rw [if_neg (by decide)]
    congr 1
    apply Array.ext_getElem?
    intro i
    rw [Array.getElem?_modify, Array.getElem?_setIfInBounds]
    by_cases hi : b = i
    · subst hi
      rw [if_pos rfl, if_pos rfl, hbl]
      rw [if_pos (Array.getElem?_eq_some_iff.1 hbl).1]
      rfl
    · rw [if_neg hi, if_neg hi]
  refine ⟨.slice (some ⟨b, 0, none⟩) n c, W.freeze ⟨b, (B8.rows l).toArray.size, none⟩ 1, ?_, hk _ ?_⟩
  · simp [convert, run_underlying hb.ok.1, run_underlying hb.ok.2, markStringish, hsh]
  · rw [hfr]
    refine (((h.setBlk _).weak (a' := cells b (B8.rows l) e) fun p hp => ⟨((B8.rows l).toArray.size, (B8.rows l).toArray.size + 1), ?_, hp⟩).ent (arr_full (A := B8) hl))
    intro i hi
    simp; omega
end
end Go.Eng
namespace Go.Proofs.Ytkjhccpanedccaa
set_option linter.unusedVariables false
set_option linter.unusedSimpArgs false
open Go.Eng
/-! ### rostrum/rostrumlaw23.awake (14) -/
def S.rostrumlaw23_awake.body (R : Value → World → Prop) (W : World) : Prop :=
  callK PR F_exec_New [] (fun v7 W =>
  okF (eqP (.pointer T_exec_Exec) .eql v7 (.pointer none)) fun v9 =>
  ifK v9 (
  R (.bool false) W) (
  okF (bldP (fun i => ([(0, 1), (1, 1)] : List (Nat × Nat))[i]?) [.int .i64 0, .int .i64 0] [(1, (.int .i64 1))]) fun v11 =>
  okF (bldP (fun i => ([(0, 2), (2, 1), (3, 7)] : List (Nat × Nat))[i]?) [.int .i64 0, .int .i64 0, .int .i64 0, .int .i64 0, .int .i64 0, .int .i64 0, .int .i64 0, .int .i64 0, .int .i64 0, .int .i64 0] [(0, v11)]) fun v12 =>
  okF (bldP (fun i => some (i * 1, 1)) [.int .i64 0, .int .i64 0, .int .i64 0, .int .i64 0, .int .i64 0, .int .i64 0, .int .i64 0] [(0, (.int .i64 1))]) fun v13 =>
  efK PR (Instr.buildSlice T_s_uint8 1 #[(0, (.int .u8 98))]) (fun v14 W =>
  efK PR (convert T_s_uint8 T_s_uint8 v14) (fun v15 W =>
  callK PR F_exec_Exec_Commit [v7, v12, v13, v15] (fun v16 W =>
  okF (bldP (fun i => some (i * 1, 1)) [.int .i64 0, .int .i64 0, .int .i64 0, .int .i64 0, .int .i64 0, .int .i64 0, .int .i64 0] []) fun v18 =>
  callK PR F_exec_Exec_Have [v7, v18] (fun v19 W =>
  okF (bldP (fun i => some (i * 1, 1)) [.int .i64 0, .int .i64 0, .int .i64 0, .int .i64 0, .int .i64 0, .int .i64 0, .int .i64 0] [(0, (.int .i64 1))]) fun v21 =>
  callK PR F_exec_Exec_Have [v7, v21] (fun v22 W =>
  okF (bldP (fun i => ([(0, 1), (1, 1)] : List (Nat × Nat))[i]?) [.int .i64 0, .int .i64 0] [(1, (.int .i64 1))]) fun v25 =>
  callK PR F_exec_Exec_Body [v7, v25] (fun v26 W =>
  okF (extP 0 v26) fun v27 =>
  okF (extP 1 v26) fun v28 =>
  okF (binP .eql v16 (.int .i64 0)) fun v30 =>
  gdK (wantd v30 true) (fun k W => k v19 W) (fun v32 W =>
  gdK (wantd v30 true) (fun k W => okF (lenP (.slice T_api_Dot) v32) fun v => k v W) (fun v33 W =>
  gdK (wantd v30 true) (fun k W => okF (binP .eql v33 (.int .i64 0)) fun v => k v W) (fun v34 W =>
  okF (pickP v30 v34 (.bool false)) fun v35 =>
  gdK (wantd v35 true) (fun k W => k v22 W) (fun v37 W =>
  gdK (wantd v35 true) (fun k W => okF (bldP (fun i => ([(0, 1), (1, 1)] : List (Nat × Nat))[i]?) [.int .i64 0, .int .i64 0] [(1, (.int .i64 1))]) fun v => k v W) (fun v38 W =>
  gdK (wantd v35 true) (fun k W => efK PR (Instr.buildSlice T_s_api_Dot 1 #[(0, v38)]) k W) (fun v39 W =>
  gdK (wantd v35 true) (fun k W => callK PR F_rostrumlaw23_dots [v37, v39] k W) (fun v40 W =>
  okF (pickP v35 v40 (.bool false)) fun v41 =>
  gdK (wantd v41 true) (fun k W => k v28 W) (fun v43 W =>
  okF (pickP v41 v43 (.bool false)) fun v44 =>
  gdK (wantd v44 true) (fun k W => k v27 W) (fun v46 W =>
  gdK (wantd v44 true) (fun k W => rdK PR (convert T_s_uint8 T_string v46) k W) (fun v47 W =>
  gdK (wantd v44 true) (fun k W => okF (binP .eql v47 (.string ⟨#[98]⟩)) fun v => k v W) (fun v48 W =>
  okF (pickP v44 v48 (.bool false)) fun v49 =>
  gdK (wantd v49 true) (fun k W => k v7 W) (fun v51 W =>
  gdK (wantd v49 true) (fun k W => callK PR F_exec_Exec_Waits [v51] k W) (fun v52 W =>
  gdK (wantd v49 true) (fun k W => okF (binP .eql v52 (.int .i64 0)) fun v => k v W) (fun v53 W =>
  okF (pickP v49 v53 (.bool false)) fun v54 =>
  R v54 W) W) W) W) W) W) W) W) W) W) W) W) W) W) W) W) W) W) W) W) W)) W
def S.rostrumlaw23_awake.hint : Hint := (.two .nil (.two .nil (.two (.two .nil (.two (.two .nil .nil) .nil)) (.two .nil (.two .nil (.two .nil (.two .nil (.two .nil .nil))))))))
theorem S.rostrumlaw23_awake.ok (R : Value → World → Prop) (W : World) : bodyK PR CB Try.f14 S.rostrumlaw23_awake.hint [] R W = S.rostrumlaw23_awake.body R  W := by kernel_rfl
theorem S.rostrumlaw23_awake.fn : PR.funcs[F_rostrumlaw23_awake]? = some Try.f14 := by kernel_rfl
theorem S.rostrumlaw23_awake.call {R : Value → World → Prop} {W : World} (h : S.rostrumlaw23_awake.body R  W) : callK PR F_rostrumlaw23_awake [] R W :=
  callK_of_body (g := F_rostrumlaw23_awake) (fn := Try.f14) (args := []) (R := R) (w := W) mixed CBok S.rostrumlaw23_awake.fn S.rostrumlaw23_awake.hint (by rw [S.rostrumlaw23_awake.ok]; exact h)
/-! ### rostrum/rostrumlaw23.dots (20) -/
def S.rostrumlaw23_dots.body (R : Value → World → Prop) (v0 v1 : Value) (W : World) : Prop :=
  callK PR F_rostrumref7_SameDots [v0, v1] (fun v7 W =>
  R v7 W) W
def S.rostrumlaw23_dots.hint : Hint := (.two .nil (.two .nil .nil))
theorem S.rostrumlaw23_dots.ok (R : Value → World → Prop) (v0 v1 : Value) (W : World) : bodyK PR CB Try.f20 S.rostrumlaw23_dots.hint [v0, v1] R W = S.rostrumlaw23_dots.body R v0 v1 W := by kernel_rfl
theorem S.rostrumlaw23_dots.fn : PR.funcs[F_rostrumlaw23_dots]? = some Try.f20 := by kernel_rfl
theorem S.rostrumlaw23_dots.call {R : Value → World → Prop} {v0 v1 : Value} {W : World} (h : S.rostrumlaw23_dots.body R v0 v1 W) : callK PR F_rostrumlaw23_dots [v0, v1] R W :=
  callK_of_body (g := F_rostrumlaw23_dots) (fn := Try.f20) (args := [v0, v1]) (R := R) (w := W) mixed CBok S.rostrumlaw23_dots.fn S.rostrumlaw23_dots.hint (by rw [S.rostrumlaw23_dots.ok]; exact h)
end Go.Proofs.Ytkjhccpanedccaa
namespace Go.Proofs.Ytkjhccpanedccaa
set_option linter.unusedVariables false
set_option linter.unusedSimpArgs false
open Go Go.Eng Go.Tar Go.Sort Go.RowKit
theorem line0_len (done : P7 Int) (also : List Dot) (l : List Ins) : (lineTop done also l).length ≤ l.length := by
  unfold lineTop
  split
  · rw [lineO_eq, List.length_map]
    unfold lineK lineS
    rw [List.length_map]
    refine Nat.le_trans (lineF_len (onL_ok _)) ?_
    rw [sortO_len]
    have h1 := (kept_sub (q := isO done also) (l := l.filter fun x => !isO done also x.d)).length_le
    rw [sortO_len] at h1
    exact Nat.le_trans h1 (List.length_filter_le _ _)
  · simp
def z7 : P7 Int := ⟨0, 0, 0, 0, 0, 0, 0⟩
def inN (rep n : Int) (v : P7 Int) : Ins := ⟨⟨rep, n⟩, 0, v⟩
/-- Have, as a machine computes it -/
def XS.havesC (s : XS) (v : P7 Int) : XS × List Dot := ((nowF (s.merge v) (lineC (P7.all 0) [] (s.merge v).ins)).foldl XS.mark (s.merge v), nowF (s.merge v) (lineC (P7.all 0) [] (s.merge v).ins))
theorem haves_eq (s : XS) (v : P7 Int) : s.haves v = s.havesC v := by
  unfold XS.haves XS.havesC XS.now; rw [lineTop_eq]
def xa1 : XS := ⟨z7, [⟨inN 0 1 z7, ⟨1, 0, 0, 0, 0, 0, 0⟩, [98]⟩], []⟩
def xa2 : XS := ⟨⟨1, 0, 0, 0, 0, 0, 0⟩, [⟨inN 0 1 z7, ⟨1, 0, 0, 0, 0, 0, 0⟩, [98]⟩], [⟨0, 1⟩]⟩
theorem aw1 : XS.new.commit (inN 0 1 z7) ⟨1, 0, 0, 0, 0, 0, 0⟩ [98] = (xa1, 0) := by kernel_rfl
theorem aw2 : xa1.haves z7 = (xa1, []) := by rw [haves_eq]; kernel_rfl
theorem aw3 : xa1.haves ⟨1, 0, 0, 0, 0, 0, 0⟩ = (xa2, [⟨0, 1⟩]) := by rw [haves_eq]; kernel_rfl
theorem aw4 : xa2.bodyOf ⟨0, 1⟩ = [98] ∧ (xa2.find ⟨0, 1⟩).isSome = true := ⟨by kernel_rfl, by kernel_rfl⟩
section
variable {W0 W : World} {L L' : List Asn}
theorem lawDots23 {a b : Option Addr} {c d : Nat} {l m : List Dot} {k : Value → World → Prop} (h : St W0 L W) [hr : Rd W0 L a DOT l] [hr2 : Rd W0 L b DOT m] (hl : l.length < 4611686018427387904)
    (hk : ∀ W', St W0 L W' → k (.bool (decide (l = m))) W') : callK PR F_rostrumlaw23_dots [.slice a l.length c, .slice b m.length d] k W := by
  apply S.rostrumlaw23_dots.call
  unfold S.rostrumlaw23_dots.body
  refine refSameDots (a := a) (b := b) (l := l) (m := m) h hl fun W1 h => ?_
  (repeat (first | (first | (with_reducible (first | refine w1 fun _ _ => ?_ | refine w3 fun _ _ _ => ?_ | refine w4 fun _ _ _ => ?_ | refine w11 fun _ _ _ => ?_ | refine stb_n ?_)) | ((with_reducible refine w2 ?_); try simp -implicitDefEqProofs only [EN, lsub, lget, stL, beq_self_eq_true, ne_eq, if_true, if_false, List.cons_append, List.nil_append, Option.isNone_some, Option.isNone_none]; intro _ _) | ((with_reducible (first | refine w5 ?_ ?_ | refine w6 ?_ ?_ | refine w7 ?_ ?_)); simp; refine ⟨_, rfl, ?_⟩) | ((with_reducible (first | refine w8 ?_ ?_ ?_ | refine w9 ?_ ?_ ?_ | refine w10 ?_ ?_ ?_)); exact rfl; simp) | ((with_reducible refine w12 ?_ ?_ ?_ fun _ _ => ?_); simp; simp; simp [oneC]) | ((with_reducible (first | refine eqs ?_ | refine nes ?_)); refine ⟨_, rfl, ?_⟩) | ((refine okF_i (bldP_eq rfl) ?_); try simp only [BLS, List.take_succ_cons, List.take_zero, List.drop_succ_cons, List.drop_zero, List.cons_append, List.nil_append, Nat.reduceAdd])) | simp -implicitDefEqProofs only [EN, lsub, lget, stL, beq_self_eq_true, ne_eq, if_true, if_false, List.cons_append, List.nil_append, Option.isNone_some, Option.isNone_none]))
  exact hk _ h
theorem execCommit0 {p : Nat} {s : XS} {i : Ins} {w : P7 Int} {c : Nat} {k : Value → World → Prop} (h : St W0 (exo p s :: L) W)
    (hk : ∀ W', St W0 (exo p (s.commit i w []).1 :: L) W' → k (.int .i64 (s.commit i w []).2) W') : callK PR F_exec_Exec_Commit [.pointer (some ⟨p, 0, none⟩), .agg #[.int .i64 i.d.rep, .int .i64 i.d.n, .int .i64 i.s, .int .i64 i.v.x0, .int .i64 i.v.x1, .int .i64 i.v.x2, .int .i64 i.v.x3, .int .i64 i.v.x4, .int .i64 i.v.x5, .int .i64 i.v.x6], .agg #[.int .i64 w.x0, .int .i64 w.x1, .int .i64 w.x2, .int .i64 w.x3, .int .i64 w.x4, .int .i64 w.x5, .int .i64 w.x6], .slice none 0 c] k W := by
  haveI : Rd W0 L none B8 [] := Rd.nil _ _ _ _
  exact execCommit (bs := []) h hk
set_option maxRecDepth 100000 in
set_option maxHeartbeats 8000000 in
theorem lawAwake23 (h00 : W0.drawn = 0) {k : Value → World → Prop} (h : St W0 L W) (hk : ∀ W', St W0 L W' → k (.bool true) W') : callK PR F_rostrumlaw23_awake [] k W := by
  apply S.rostrumlaw23_awake.call
  unfold S.rostrumlaw23_awake.body
  refine execNew h fun p W1 h => ?_
  (repeat (first | (first | (with_reducible (first | refine w1 fun _ _ => ?_ | refine w3 fun _ _ _ => ?_ | refine w4 fun _ _ _ => ?_ | refine w11 fun _ _ _ => ?_ | refine stb_n ?_)) | ((with_reducible refine w2 ?_); try simp -implicitDefEqProofs only [EN, lsub, lget, stL, beq_self_eq_true, ne_eq, if_true, if_false, List.cons_append, List.nil_append, Option.isNone_some, Option.isNone_none]; intro _ _) | ((with_reducible (first | refine w5 ?_ ?_ | refine w6 ?_ ?_ | refine w7 ?_ ?_)); simp; refine ⟨_, rfl, ?_⟩) | ((with_reducible (first | refine w8 ?_ ?_ ?_ | refine w9 ?_ ?_ ?_ | refine w10 ?_ ?_ ?_)); exact rfl; simp) | ((with_reducible refine w12 ?_ ?_ ?_ fun _ _ => ?_); simp; simp; simp [oneC]) | ((with_reducible (first | refine eqs ?_ | refine nes ?_)); refine ⟨_, rfl, ?_⟩) | ((refine okF_i (bldP_eq rfl) ?_); try simp only [BLS, List.take_succ_cons, List.take_zero, List.drop_succ_cons, List.drop_zero, List.cons_append, List.nil_append, Nat.reduceAdd])) | simp -implicitDefEqProofs only [EN, lsub, lget, stL, beq_self_eq_true, ne_eq, if_true, if_false, List.cons_append, List.nil_append, Option.isNone_some, Option.isNone_none]))
  refine bl1 [98] (by first | assumption | exact St.tick (by assumption) | exact St.tick (St.tick (by assumption))) rfl (by decide) (by decide) rfl fun lb _ h => ?_
  refine bl2 [98] h (by decide) fun W2 h => ?_
  refine execCommit (s := XS.new) (i := inN 0 1 z7) (w := ⟨1, 0, 0, 0, 0, 0, 0⟩) (a := some ⟨lb, 0, none⟩) (bs := [98]) (St.wk (L' := exo p XS.new :: arr B8 T_uint8 (some ⟨lb, 0, none⟩) 1 [98] :: L) h) fun W3 h => ?_
  rw [aw1] at h ⊢
  (repeat (first | (first | (with_reducible (first | refine w1 fun _ _ => ?_ | refine w3 fun _ _ _ => ?_ | refine w4 fun _ _ _ => ?_ | refine w11 fun _ _ _ => ?_ | refine stb_n ?_)) | ((with_reducible refine w2 ?_); try simp -implicitDefEqProofs only [EN, lsub, lget, stL, beq_self_eq_true, ne_eq, if_true, if_false, List.cons_append, List.nil_append, Option.isNone_some, Option.isNone_none]; intro _ _) | ((with_reducible (first | refine w5 ?_ ?_ | refine w6 ?_ ?_ | refine w7 ?_ ?_)); simp; refine ⟨_, rfl, ?_⟩) | ((with_reducible (first | refine w8 ?_ ?_ ?_ | refine w9 ?_ ?_ ?_ | refine w10 ?_ ?_ ?_)); exact rfl; simp) | ((with_reducible refine w12 ?_ ?_ ?_ fun _ _ => ?_); simp; simp; simp [oneC]) | ((with_reducible (first | refine eqs ?_ | refine nes ?_)); refine ⟨_, rfl, ?_⟩) | ((refine okF_i (bldP_eq rfl) ?_); try simp only [BLS, List.take_succ_cons, List.take_zero, List.drop_succ_cons, List.drop_zero, List.cons_append, List.nil_append, Nat.reduceAdd])) | simp -implicitDefEqProofs only [EN, lsub, lget, stL, beq_self_eq_true, ne_eq, if_true, if_false, List.cons_append, List.nil_append, Option.isNone_some, Option.isNone_none]))
  refine execHave (s := xa1) (v := z7) h00 h (by decide) (by decide) (line0_len _ _) fun a1 c1 W4 h => ?_
  rw [aw2] at h ⊢
  (repeat (first | (first | (with_reducible (first | refine w1 fun _ _ => ?_ | refine w3 fun _ _ _ => ?_ | refine w4 fun _ _ _ => ?_ | refine w11 fun _ _ _ => ?_ | refine stb_n ?_)) | ((with_reducible refine w2 ?_); try simp -implicitDefEqProofs only [EN, lsub, lget, stL, beq_self_eq_true, ne_eq, if_true, if_false, List.cons_append, List.nil_append, Option.isNone_some, Option.isNone_none]; intro _ _) | ((with_reducible (first | refine w5 ?_ ?_ | refine w6 ?_ ?_ | refine w7 ?_ ?_)); simp; refine ⟨_, rfl, ?_⟩) | ((with_reducible (first | refine w8 ?_ ?_ ?_ | refine w9 ?_ ?_ ?_ | refine w10 ?_ ?_ ?_)); exact rfl; simp) | ((with_reducible refine w12 ?_ ?_ ?_ fun _ _ => ?_); simp; simp; simp [oneC]) | ((with_reducible (first | refine eqs ?_ | refine nes ?_)); refine ⟨_, rfl, ?_⟩) | ((refine okF_i (bldP_eq rfl) ?_); try simp only [BLS, List.take_succ_cons, List.take_zero, List.drop_succ_cons, List.drop_zero, List.cons_append, List.nil_append, Nat.reduceAdd])) | simp -implicitDefEqProofs only [EN, lsub, lget, stL, beq_self_eq_true, ne_eq, if_true, if_false, List.cons_append, List.nil_append, Option.isNone_some, Option.isNone_none]))
  refine execHave (s := xa1) (v := ⟨1, 0, 0, 0, 0, 0, 0⟩) h00 (St.wk (L' := exo p xa1 :: arr DOT T_api_Dot a1 c1 [] :: L) h) (by decide) (by decide) (line0_len _ _) fun a2 c2 W5 h => ?_
  rw [aw3] at h ⊢
  (repeat (first | (first | (with_reducible (first | refine w1 fun _ _ => ?_ | refine w3 fun _ _ _ => ?_ | refine w4 fun _ _ _ => ?_ | refine w11 fun _ _ _ => ?_ | refine stb_n ?_)) | ((with_reducible refine w2 ?_); try simp -implicitDefEqProofs only [EN, lsub, lget, stL, beq_self_eq_true, ne_eq, if_true, if_false, List.cons_append, List.nil_append, Option.isNone_some, Option.isNone_none]; intro _ _) | ((with_reducible (first | refine w5 ?_ ?_ | refine w6 ?_ ?_ | refine w7 ?_ ?_)); simp; refine ⟨_, rfl, ?_⟩) | ((with_reducible (first | refine w8 ?_ ?_ ?_ | refine w9 ?_ ?_ ?_ | refine w10 ?_ ?_ ?_)); exact rfl; simp) | ((with_reducible refine w12 ?_ ?_ ?_ fun _ _ => ?_); simp; simp; simp [oneC]) | ((with_reducible (first | refine eqs ?_ | refine nes ?_)); refine ⟨_, rfl, ?_⟩) | ((refine okF_i (bldP_eq rfl) ?_); try simp only [BLS, List.take_succ_cons, List.take_zero, List.drop_succ_cons, List.drop_zero, List.cons_append, List.nil_append, Nat.reduceAdd])) | simp -implicitDefEqProofs only [EN, lsub, lget, stL, beq_self_eq_true, ne_eq, if_true, if_false, List.cons_append, List.nil_append, Option.isNone_some, Option.isNone_none]))
  refine execBody (s := xa2) (d := ⟨0, 1⟩) (St.wk (L' := exo p xa2 :: arr DOT T_api_Dot a2 c2 [⟨0, 1⟩] :: L) h) (by decide) fun a3 c3 W6 h => ?_
  rw [aw4.1] at h ⊢
  rw [aw4.2]
  (repeat (first | (first | (with_reducible (first | refine w1 fun _ _ => ?_ | refine w3 fun _ _ _ => ?_ | refine w4 fun _ _ _ => ?_ | refine w11 fun _ _ _ => ?_ | refine stb_n ?_)) | ((with_reducible refine w2 ?_); try simp -implicitDefEqProofs only [EN, lsub, lget, stL, beq_self_eq_true, ne_eq, if_true, if_false, List.cons_append, List.nil_append, Option.isNone_some, Option.isNone_none]; intro _ _) | ((with_reducible (first | refine w5 ?_ ?_ | refine w6 ?_ ?_ | refine w7 ?_ ?_)); simp; refine ⟨_, rfl, ?_⟩) | ((with_reducible (first | refine w8 ?_ ?_ ?_ | refine w9 ?_ ?_ ?_ | refine w10 ?_ ?_ ?_)); exact rfl; simp) | ((with_reducible refine w12 ?_ ?_ ?_ fun _ _ => ?_); simp; simp; simp [oneC]) | ((with_reducible (first | refine eqs ?_ | refine nes ?_)); refine ⟨_, rfl, ?_⟩) | ((refine okF_i (bldP_eq rfl) ?_); try simp only [BLS, List.take_succ_cons, List.take_zero, List.drop_succ_cons, List.drop_zero, List.cons_append, List.nil_append, Nat.reduceAdd])) | simp -implicitDefEqProofs only [EN, lsub, lget, stL, beq_self_eq_true, ne_eq, if_true, if_false, List.cons_append, List.nil_append, Option.isNone_some, Option.isNone_none]))
  refine bsA DOT [(⟨0, 1⟩ : Dot)] (n := 1) (by first | assumption | exact St.tick (by assumption) | exact St.tick (St.tick (by assumption))) rfl rfl (by decide) (by decide) rfl fun a4 c4 W7 h => ?_
  refine lawDots23 (a := a2) (b := a4) (l := [⟨0, 1⟩]) (m := [⟨0, 1⟩]) h (by decide) fun W8 h => ?_
  (repeat (first | (first | (with_reducible (first | refine w1 fun _ _ => ?_ | refine w3 fun _ _ _ => ?_ | refine w4 fun _ _ _ => ?_ | refine w11 fun _ _ _ => ?_ | refine stb_n ?_)) | ((with_reducible refine w2 ?_); try simp -implicitDefEqProofs only [EN, lsub, lget, stL, beq_self_eq_true, ne_eq, if_true, if_false, List.cons_append, List.nil_append, Option.isNone_some, Option.isNone_none]; intro _ _) | ((with_reducible (first | refine w5 ?_ ?_ | refine w6 ?_ ?_ | refine w7 ?_ ?_)); simp; refine ⟨_, rfl, ?_⟩) | ((with_reducible (first | refine w8 ?_ ?_ ?_ | refine w9 ?_ ?_ ?_ | refine w10 ?_ ?_ ?_)); exact rfl; simp) | ((with_reducible refine w12 ?_ ?_ ?_ fun _ _ => ?_); simp; simp; simp [oneC]) | ((with_reducible (first | refine eqs ?_ | refine nes ?_)); refine ⟨_, rfl, ?_⟩) | ((refine okF_i (bldP_eq rfl) ?_); try simp only [BLS, List.take_succ_cons, List.take_zero, List.drop_succ_cons, List.drop_zero, List.cons_append, List.nil_append, Nat.reduceAdd])) | simp -implicitDefEqProofs only [EN, lsub, lget, stL, beq_self_eq_true, ne_eq, if_true, if_false, List.cons_append, List.nil_append, Option.isNone_some, Option.isNone_none]))
  refine b2s (a := a3) (l := [98]) (by first | assumption | exact St.tick (by assumption) | exact St.tick (St.tick (by assumption))) ?_
  (repeat (first | (first | (with_reducible (first | refine w1 fun _ _ => ?_ | refine w3 fun _ _ _ => ?_ | refine w4 fun _ _ _ => ?_ | refine w11 fun _ _ _ => ?_ | refine stb_n ?_)) | ((with_reducible refine w2 ?_); try simp -implicitDefEqProofs only [EN, lsub, lget, stL, beq_self_eq_true, ne_eq, if_true, if_false, List.cons_append, List.nil_append, Option.isNone_some, Option.isNone_none, eq_self]; intro _ _) | ((with_reducible (first | refine w5 ?_ ?_ | refine w6 ?_ ?_ | refine w7 ?_ ?_)); simp; refine ⟨_, rfl, ?_⟩) | ((with_reducible (first | refine w8 ?_ ?_ ?_ | refine w9 ?_ ?_ ?_ | refine w10 ?_ ?_ ?_)); exact rfl; simp) | ((with_reducible refine w12 ?_ ?_ ?_ fun _ _ => ?_); simp; simp; simp [oneC]) | ((with_reducible (first | refine eqs ?_ | refine nes ?_)); refine ⟨_, rfl, ?_⟩) | ((refine okF_i (bldP_eq rfl) ?_); try simp only [BLS, List.take_succ_cons, List.take_zero, List.drop_succ_cons, List.drop_zero, List.cons_append, List.nil_append, Nat.reduceAdd])) | simp -implicitDefEqProofs only [EN, lsub, lget, stL, beq_self_eq_true, ne_eq, if_true, if_false, List.cons_append, List.nil_append, Option.isNone_some, Option.isNone_none, eq_self]))
  refine execWaits (s := xa2) (St.wk (L' := exo p xa2 :: L) (by first | assumption | exact St.tick (by assumption) | exact St.tick (St.tick (by assumption)))) (by decide) (by decide) fun W9 h => ?_
  have d0 : decide ((xa2.cs.length : Int) - (xa2.done.length : Int) = 0) = true := by decide
  (repeat (first | (first | (with_reducible (first | refine w1 fun _ _ => ?_ | refine w3 fun _ _ _ => ?_ | refine w4 fun _ _ _ => ?_ | refine w11 fun _ _ _ => ?_ | refine stb_n ?_)) | ((with_reducible refine w2 ?_); try simp -implicitDefEqProofs only [EN, lsub, lget, stL, beq_self_eq_true, ne_eq, if_true, if_false, List.cons_append, List.nil_append, Option.isNone_some, Option.isNone_none, d0]; intro _ _) | ((with_reducible (first | refine w5 ?_ ?_ | refine w6 ?_ ?_ | refine w7 ?_ ?_)); simp; refine ⟨_, rfl, ?_⟩) | ((with_reducible (first | refine w8 ?_ ?_ ?_ | refine w9 ?_ ?_ ?_ | refine w10 ?_ ?_ ?_)); exact rfl; simp) | ((with_reducible refine w12 ?_ ?_ ?_ fun _ _ => ?_); simp; simp; simp [oneC]) | ((with_reducible (first | refine eqs ?_ | refine nes ?_)); refine ⟨_, rfl, ?_⟩) | ((refine okF_i (bldP_eq rfl) ?_); try simp only [BLS, List.take_succ_cons, List.take_zero, List.drop_succ_cons, List.drop_zero, List.cons_append, List.nil_append, Nat.reduceAdd])) | simp -implicitDefEqProofs only [EN, lsub, lget, stL, beq_self_eq_true, ne_eq, if_true, if_false, List.cons_append, List.nil_append, Option.isNone_some, Option.isNone_none, d0]))
  exact hk _ (St.wk (L' := L) h)
end
end Go.Proofs.Ytkjhccpanedccaa
namespace Go.Proofs.Ytkjhccpanedccaa
set_option linter.unusedVariables false
set_option linter.unusedSimpArgs false
open Go.Eng
/-! ### rostrum/rostrumlaw23.ExecGrows (8) -/
def S.rostrumlaw23_ExecGrows.j1 (K1 : List Value → World → Prop) (x0 x3 x4 x5 x6 : Value) (W : World) : Prop :=
  okF (binP .add x6 (.int .i64 1)) fun v24 =>
  K1 [x0, x3, x4, x5, v24] W
def S.rostrumlaw23_ExecGrows.j3 (J1 : List Value → World → Prop) (x0 x3 x5 x6 x7 : Value) (W : World) : Prop :=
  okF (lenP (.slice T_api_Dot) x7) fun v126 =>
  J1 [x0, x3, v126, x5, x6] W
def S.rostrumlaw23_ExecGrows.j4 (K2 : List Value → World → Prop) (x0 x3 x5 x6 x7 x8 : Value) (W : World) : Prop :=
  okF (binP .add x8 (.int .i64 1)) fun v80 =>
  K2 [x0, x3, x5, x6, x7, v80] W
def S.rostrumlaw23_ExecGrows.l3 (R : Value → World → Prop) (J4 : List Value → World → Prop) (K3 : List Value → World → Prop) (x0 x3 x5 x6 x7 x8 x11 : Value) (W : World) : Prop :=
  okF (binP .lss x11 x8) fun v113 =>
  ifK v113 (
  okF (idxS 2 x7 x11) fun v118 =>
  rdK PR (Instr.loadAt T_api_Dot v118) (fun v119 W =>
  okF (idxS 2 x7 x8) fun v122 =>
  rdK PR (Instr.loadAt T_api_Dot v122) (fun v123 W =>
  rdK PR (aggEq .eql T_api_Dot v119 v123) (fun v124 W =>
  ifK v124 (
  R (.bool false) W) (
  okF (binP .add x11 (.int .i64 1)) fun v115 =>
  K3 [x0, x3, x5, x6, x7, x8, v115] W)) W) W) (tick W)) (
  J4 [x0, x3, x5, x6, x7, x8] W)
def S.rostrumlaw23_ExecGrows.l2 (R : Value → World → Prop) (J3 : List Value → World → Prop) (K2 : List Value → World → Prop) (x0 x3 x5 x6 x7 x8 : Value) (W : World) : Prop :=
  okF (lenP (.slice T_api_Dot) x7) fun v77 =>
  okF (binP .lss x8 v77) fun v78 =>
  ifK v78 (
  joinK (fun s W => S.rostrumlaw23_ExecGrows.j4 K2 (nthv s 0) (nthv s 1) (nthv s 2) (nthv s 3) (nthv s 4) (nthv s 5) W) (fun J4 =>
  okF (idxS 2 x7 x8) fun v85 =>
  rdK PR (Instr.loadAt T_api_Dot v85) (fun v86 W =>
  callK PR F_exec_Exec_Body [x3, v86] (fun v87 W =>
  okF (extP 0 v87) fun v88 =>
  okF (extP 1 v87) fun v89 =>
  okF (unP .not v89) fun v91 =>
  gdK (wantd v91 false) (fun k W => k x0 W) (fun v93 W =>
  gdK (wantd v91 false) (fun k W => k x6 W) (fun v94 W =>
  gdK (wantd v91 false) (fun k W => okF (binP .add v94 (.int .i64 1)) fun v => k v W) (fun v95 W =>
  gdK (wantd v91 false) (fun k W => okF (slcS 19 v93 none (some v95) none) fun v => k v W) (fun v96 W =>
  gdK (wantd v91 false) (fun k W => k x7 W) (fun v97 W =>
  gdK (wantd v91 false) (fun k W => k x8 W) (fun v98 W =>
  gdK (wantd v91 false) (fun k W => okF (idxS 2 v97 v98) fun v => k v W) (fun v99 W =>
  gdK (wantd v91 false) (fun k W => okF (addrF 0 v99) fun v => k v W) (fun v100 W =>
  gdK (wantd v91 false) (fun k W => rdK PR (Instr.loadAt T_int v100) k W) (fun v101 W =>
  gdK (wantd v91 false) (fun k W => k x7 W) (fun v102 W =>
  gdK (wantd v91 false) (fun k W => k x8 W) (fun v103 W =>
  gdK (wantd v91 false) (fun k W => okF (idxS 2 v102 v103) fun v => k v W) (fun v104 W =>
  gdK (wantd v91 false) (fun k W => okF (addrF 1 v104) fun v => k v W) (fun v105 W =>
  gdK (wantd v91 false) (fun k W => rdK PR (Instr.loadAt T_int64 v105) k W) (fun v106 W =>
  gdK (wantd v91 false) (fun k W => rdK PR (Instr.loadAt T_vec_Vec x5) k W) (fun v107 W =>
  gdK (wantd v91 false) (fun k W => callK PR F_rostrumlaw23_waited [v96, v101, v106, v107] k W) (fun v108 W =>
  gdK (wantd v91 false) (fun k W => okF (unP .not v108) fun v => k v W) (fun v109 W =>
  okF (pickP v91 (.bool true) v109) fun v110 =>
  ifK v110 (
  R (.bool false) W) (
  loopK (fun K3 s W => S.rostrumlaw23_ExecGrows.l3 R J4 K3 (nthv s 0) (nthv s 1) (nthv s 2) (nthv s 3) (nthv s 4) (nthv s 5) (nthv s 6) W) [x0, x3, x5, x6, x7, x8, (.int .i64 0)] W)) W) W) W) W) W) W) W) W) W) W) W) W) W) W) W) W) (tick W)) W) W)) (
  J3 [x0, x3, x5, x6, x7] W)
def S.rostrumlaw23_ExecGrows.j2 (R : Value → World → Prop) (J1 : List Value → World → Prop) (x0 x3 x4 x5 x6 : Value) (W : World) : Prop :=
  callK PR F_exec_Exec_Done [x3] (fun v69 W =>
  okF (lenP (.slice T_api_Dot) v69) fun v71 =>
  okF (binP .lss v71 x4) fun v73 =>
  ifK v73 (
  R (.bool false) W) (
  joinK (fun s W => S.rostrumlaw23_ExecGrows.j3 J1 (nthv s 0) (nthv s 1) (nthv s 2) (nthv s 3) (nthv s 4) W) (fun J3 =>
  loopK (fun K2 s W => S.rostrumlaw23_ExecGrows.l2 R J3 K2 (nthv s 0) (nthv s 1) (nthv s 2) (nthv s 3) (nthv s 4) (nthv s 5) W) [x0, x3, x5, x6, v69, x4] W))) W
def S.rostrumlaw23_ExecGrows.l1 (R : Value → World → Prop) (K1 : List Value → World → Prop) (x0 x3 x4 x5 x6 : Value) (W : World) : Prop :=
  okF (lenP (.slice T_rostrumlaw23_Act) x0) fun v21 =>
  okF (binP .lss x6 v21) fun v22 =>
  ifK v22 (
  joinK (fun s W => S.rostrumlaw23_ExecGrows.j1 K1 (nthv s 0) (nthv s 1) (nthv s 2) (nthv s 3) (nthv s 4) W) (fun J1 =>
  joinK (fun s W => S.rostrumlaw23_ExecGrows.j2 R J1 (nthv s 0) (nthv s 1) (nthv s 2) (nthv s 3) (nthv s 4) W) (fun J2 =>
  okF (idxS 19 x0 x6) fun v27 =>
  okF (addrF 0 v27) fun v28 =>
  rdK PR (Instr.loadAt T_int v28) (fun v29 W =>
  okF (binP .eql v29 (.int .i64 0)) fun v30 =>
  ifK v30 (
  okF (idxS 19 x0 x6) fun v34 =>
  okF (addrF 1 v34) fun v35 =>
  rdK PR (Instr.loadAt T_order_Inst v35) (fun v36 W =>
  okF (idxS 19 x0 x6) fun v39 =>
  okF (addrF 11 v39) fun v40 =>
  rdK PR (Instr.loadAt T_vec_Vec v40) (fun v41 W =>
  okF (idxS 19 x0 x6) fun v44 =>
  okF (addrF 18 v44) fun v45 =>
  rdK PR (Instr.loadAt T_s_uint8 v45) (fun v46 W =>
  callK PR F_exec_Exec_Commit [x3, v36, v41, v46] (fun v47 W =>
  J2 [x0, x3, x4, x5, x6] W) W) W) W) (tick W)) (
  okF (idxS 19 x0 x6) fun v51 =>
  okF (addrF 11 v51) fun v52 =>
  rdK PR (Instr.loadAt T_vec_Vec v52) (fun v53 W =>
  callK PR F_exec_Exec_Have [x3, v53] (fun v54 W =>
  okF (idxS 19 x0 x6) fun v57 =>
  okF (addrF 11 v57) fun v58 =>
  rdK PR (Instr.loadAt T_vec_Vec v58) (fun v59 W =>
  callK PR F_vec_Good [v59] (fun v60 W =>
  ifK v60 (
  rdK PR (Instr.loadAt T_vec_Vec x5) (fun v61 W =>
  okF (idxS 19 x0 x6) fun v64 =>
  okF (addrF 11 v64) fun v65 =>
  rdK PR (Instr.loadAt T_vec_Vec v65) (fun v66 W =>
  callK PR F_vec_Merge [v61, v66] (fun v67 W =>
  efK PR (Instr.storeAt T_vec_Vec x5 v67) (fun _ W =>
  J2 [x0, x3, x4, x5, x6] W) W) W) W) (tick W)) (
  J2 [x0, x3, x4, x5, x6] W)) W) W) W) W)) W))) (
  R (.bool true) W)
def S.rostrumlaw23_ExecGrows.body (R : Value → World → Prop) (v0 : Value) (W : World) : Prop :=
  callK PR F_rostrumlaw23_awake [] (fun v12 W =>
  okF (unP .not v12) fun v13 =>
  ifK v13 (
  R (.bool false) W) (
  okF (lenP (.slice T_rostrumlaw23_Act) v0) fun v15 =>
  okF (binP .gtr v15 (.int .i64 30)) fun v16 =>
  ifK v16 (
  R (.bool true) W) (
  callK PR F_exec_New [] (fun v17 W =>
  okF (bldP (fun i => some (i * 1, 1)) [.int .i64 0, .int .i64 0, .int .i64 0, .int .i64 0, .int .i64 0, .int .i64 0, .int .i64 0] []) fun v18 =>
  efK PR (Instr.alloc T_vec_Vec true (.tuple #[])) (fun v5 W =>
  efK PR (Instr.storeAt T_vec_Vec v5 v18) (fun _ W =>
  loopK (fun K1 s W => S.rostrumlaw23_ExecGrows.l1 R K1 (nthv s 0) (nthv s 1) (nthv s 2) (nthv s 3) (nthv s 4) W) [v0, v17, (.int .i64 0), v5, (.int .i64 0)] W) W) W) W))) W
def S.rostrumlaw23_ExecGrows.hint : Hint := (.two .nil (.two (.two .nil (.two (.two .nil .nil) .nil)) (.two (.two .nil (.two (.two .nil .nil) .nil)) (.two .nil (.two .nil (.two .nil (.two (.two .nil (.at [0, 3, 4, 5, 6] (.two (.two .nil (.two .nil .nil)) (.at [0, 3, 4, 5, 6] (.at [0, 3, 4, 5, 6] (.two .nil (.two .nil (.two .nil (.two .nil (.two .nil .nil))))) (.two .nil (.two (.two .nil (.two (.two .nil .nil) .nil)) (.at [0, 3, 5, 6, 7] (.two .nil (.at [0, 3, 5, 6, 7, 8] (.two (.two .nil (.two .nil .nil)) (.at [0, 3, 5, 6, 7, 8] (.two .nil (.two (.two .nil (.two (.two .nil .nil) .nil)) (.two .nil (.at [0, 3, 5, 6, 7, 8, 11] (.two (.two .nil (.two .nil .nil)) (.two (.two .nil (.two (.two .nil .nil) .nil)) .nil)) .nil)))) .nil)) .nil)) .nil)))) .nil)) .nil)) (.two .nil .nil))))))))
theorem S.rostrumlaw23_ExecGrows.ok (R : Value → World → Prop) (v0 : Value) (W : World) : bodyK PR CB Try.f8 S.rostrumlaw23_ExecGrows.hint [v0] R W = S.rostrumlaw23_ExecGrows.body R v0 W := by kernel_rfl
theorem S.rostrumlaw23_ExecGrows.fn : PR.funcs[F_rostrumlaw23_ExecGrows]? = some Try.f8 := by kernel_rfl
theorem S.rostrumlaw23_ExecGrows.call {R : Value → World → Prop} {v0 : Value} {W : World} (h : S.rostrumlaw23_ExecGrows.body R v0 W) : callK PR F_rostrumlaw23_ExecGrows [v0] R W :=
  callK_of_body (g := F_rostrumlaw23_ExecGrows) (fn := Try.f8) (args := [v0]) (R := R) (w := W) mixed CBok S.rostrumlaw23_ExecGrows.fn S.rostrumlaw23_ExecGrows.hint (by rw [S.rostrumlaw23_ExecGrows.ok]; exact h)
/-! ### rostrum/rostrumlaw23.waited (24) -/
def S.rostrumlaw23_waited.l1 (R : Value → World → Prop) (K1 : List Value → World → Prop) (x0 x1 x2 x7 x9 : Value) (W : World) : Prop :=
  okF (lenP (.slice T_rostrumlaw23_Act) x0) fun v12 =>
  okF (binP .lss x9 v12) fun v13 =>
  ifK v13 (
  okF (idxS 19 x0 x9) fun v18 =>
  okF (addrF 0 v18) fun v19 =>
  rdK PR (Instr.loadAt T_int v19) (fun v20 W =>
  okF (binP .eql v20 (.int .i64 0)) fun v21 =>
  gdK (wantd v21 true) (fun k W => k x0 W) (fun v23 W =>
  gdK (wantd v21 true) (fun k W => k x9 W) (fun v24 W =>
  gdK (wantd v21 true) (fun k W => okF (idxS 19 v23 v24) fun v => k v W) (fun v25 W =>
  gdK (wantd v21 true) (fun k W => okF (addrF 1 v25) fun v => k v W) (fun v26 W =>
  gdK (wantd v21 true) (fun k W => okF (addrF 0 v26) fun v => k v W) (fun v27 W =>
  gdK (wantd v21 true) (fun k W => okF (addrF 0 v27) fun v => k v W) (fun v28 W =>
  gdK (wantd v21 true) (fun k W => rdK PR (Instr.loadAt T_int v28) k W) (fun v29 W =>
  gdK (wantd v21 true) (fun k W => k x1 W) (fun v30 W =>
  gdK (wantd v21 true) (fun k W => okF (binP .eql v29 v30) fun v => k v W) (fun v31 W =>
  okF (pickP v21 v31 (.bool false)) fun v32 =>
  gdK (wantd v32 true) (fun k W => k x0 W) (fun v34 W =>
  gdK (wantd v32 true) (fun k W => k x9 W) (fun v35 W =>
  gdK (wantd v32 true) (fun k W => okF (idxS 19 v34 v35) fun v => k v W) (fun v36 W =>
  gdK (wantd v32 true) (fun k W => okF (addrF 1 v36) fun v => k v W) (fun v37 W =>
  gdK (wantd v32 true) (fun k W => okF (addrF 0 v37) fun v => k v W) (fun v38 W =>
  gdK (wantd v32 true) (fun k W => okF (addrF 1 v38) fun v => k v W) (fun v39 W =>
  gdK (wantd v32 true) (fun k W => rdK PR (Instr.loadAt T_int64 v39) k W) (fun v40 W =>
  gdK (wantd v32 true) (fun k W => k x2 W) (fun v41 W =>
  gdK (wantd v32 true) (fun k W => okF (binP .eql v40 v41) fun v => k v W) (fun v42 W =>
  okF (pickP v32 v42 (.bool false)) fun v43 =>
  gdK (wantd v43 true) (fun k W => k x0 W) (fun v45 W =>
  gdK (wantd v43 true) (fun k W => k x9 W) (fun v46 W =>
  gdK (wantd v43 true) (fun k W => okF (idxS 19 v45 v46) fun v => k v W) (fun v47 W =>
  gdK (wantd v43 true) (fun k W => okF (addrF 11 v47) fun v => k v W) (fun v48 W =>
  gdK (wantd v43 true) (fun k W => rdK PR (Instr.loadAt T_vec_Vec v48) k W) (fun v49 W =>
  gdK (wantd v43 true) (fun k W => callK PR F_vec_Good [v49] k W) (fun v50 W =>
  okF (pickP v43 v50 (.bool false)) fun v51 =>
  gdK (wantd v51 true) (fun k W => k x0 W) (fun v53 W =>
  gdK (wantd v51 true) (fun k W => k x9 W) (fun v54 W =>
  gdK (wantd v51 true) (fun k W => okF (idxS 19 v53 v54) fun v => k v W) (fun v55 W =>
  gdK (wantd v51 true) (fun k W => okF (addrF 18 v55) fun v => k v W) (fun v56 W =>
  gdK (wantd v51 true) (fun k W => rdK PR (Instr.loadAt T_s_uint8 v56) k W) (fun v57 W =>
  gdK (wantd v51 true) (fun k W => okF (lenP (.slice T_uint8) v57) fun v => k v W) (fun v58 W =>
  gdK (wantd v51 true) (fun k W => okF (binP .leq v58 (.int .i64 65536)) fun v => k v W) (fun v59 W =>
  okF (pickP v51 v59 (.bool false)) fun v60 =>
  ifK v60 (
  okF (idxS 19 x0 x9) fun v63 =>
  okF (addrF 11 v63) fun v64 =>
  rdK PR (Instr.loadAt T_vec_Vec v64) (fun v65 W =>
  rdK PR (Instr.loadAt T_vec_Vec x7) (fun v66 W =>
  callK PR F_vec_Le [v65, v66] (fun v67 W =>
  gdK (wantd v67 false) (fun k W => k x0 W) (fun v69 W =>
  gdK (wantd v67 false) (fun k W => k x9 W) (fun v70 W =>
  gdK (wantd v67 false) (fun k W => okF (idxS 19 v69 v70) fun v => k v W) (fun v71 W =>
  gdK (wantd v67 false) (fun k W => rdK PR (Instr.loadAt T_rostrumlaw23_Act v71) k W) (fun v72 W =>
  gdK (wantd v67 false) (fun k W => callK PR F_rostrumlaw23_first [v72] k W) (fun v73 W =>
  gdK (wantd v67 false) (fun k W => okF (unP .not v73) fun v => k v W) (fun v74 W =>
  okF (pickP v67 (.bool true) v74) fun v75 =>
  R v75 W) W) W) W) W) W) W) W) W) (tick W)) (
  okF (binP .add x9 (.int .i64 1)) fun v15 =>
  K1 [x0, x1, x2, x7, v15] W)) W) W) W) W) W) W) W) W) W) W) W) W) W) W) W) W) W) W) W) W) W) W) W) W) W) W) W) W) W) W) W) W) (
  R (.bool false) W)
def S.rostrumlaw23_waited.body (R : Value → World → Prop) (v0 v1 v2 v3 : Value) (W : World) : Prop :=
  efK PR (Instr.box T_vec_Vec v3) (fun v7 W =>
  loopK (fun K1 s W => S.rostrumlaw23_waited.l1 R K1 (nthv s 0) (nthv s 1) (nthv s 2) (nthv s 3) (nthv s 4) W) [v0, v1, v2, v7, (.int .i64 0)] W) W
def S.rostrumlaw23_waited.hint : Hint := (.two .nil (.two (.two .nil (.at [0, 1, 2, 7, 9] (.two (.two .nil (.two .nil .nil)) (.two (.two .nil (.two (.two .nil .nil) .nil)) .nil)) .nil)) (.two .nil .nil)))
theorem S.rostrumlaw23_waited.ok (R : Value → World → Prop) (v0 v1 v2 v3 : Value) (W : World) : bodyK PR CB Try.f24 S.rostrumlaw23_waited.hint [v0, v1, v2, v3] R W = S.rostrumlaw23_waited.body R v0 v1 v2 v3 W := by kernel_rfl
theorem S.rostrumlaw23_waited.fn : PR.funcs[F_rostrumlaw23_waited]? = some Try.f24 := by kernel_rfl
theorem S.rostrumlaw23_waited.call {R : Value → World → Prop} {v0 v1 v2 v3 : Value} {W : World} (h : S.rostrumlaw23_waited.body R v0 v1 v2 v3 W) : callK PR F_rostrumlaw23_waited [v0, v1, v2, v3] R W :=
  callK_of_body (g := F_rostrumlaw23_waited) (fn := Try.f24) (args := [v0, v1, v2, v3]) (R := R) (w := W) mixed CBok S.rostrumlaw23_waited.fn S.rostrumlaw23_waited.hint (by rw [S.rostrumlaw23_waited.ok]; exact h)
/-! ### rostrum/rostrumlaw23.first (47) -/
def S.rostrumlaw23_first.j1 (R : Value → World → Prop) (x1 : Value) (W : World) : Prop :=
  okF (addrF 1 x1) fun v22 =>
  okF (addrF 2 v22) fun v23 =>
  rdK PR (Instr.loadAt T_int64 v23) (fun v24 W =>
  okF (binP .geq v24 (.int .i64 0)) fun v25 =>
  gdK (wantd v25 true) (fun k W => okF (addrF 1 x1) fun v => k v W) (fun v27 W =>
  gdK (wantd v25 true) (fun k W => okF (addrF 2 v27) fun v => k v W) (fun v28 W =>
  gdK (wantd v25 true) (fun k W => rdK PR (Instr.loadAt T_int64 v28) k W) (fun v29 W =>
  gdK (wantd v25 true) (fun k W => okF (binP .leq v29 (.int .i64 1099511627776)) fun v => k v W) (fun v30 W =>
  okF (pickP v25 v30 (.bool false)) fun v31 =>
  R v31 W) W) W) W) W) W
def S.rostrumlaw23_first.l1 (R : Value → World → Prop) (J1 : List Value → World → Prop) (K1 : List Value → World → Prop) (x1 x3 : Value) (W : World) : Prop :=
  okF (binP .lss x3 (.int .i64 7)) fun v5 =>
  ifK v5 (
  okF (addrF 1 x1) fun v9 =>
  okF (addrF 3 v9) fun v10 =>
  okF (idxA 7 1 v10 x3) fun v11 =>
  rdK PR (Instr.loadAt T_int64 v11) (fun v12 W =>
  okF (binP .lss v12 (.int .i64 0)) fun v13 =>
  gdK (wantd v13 false) (fun k W => k x3 W) (fun v15 W =>
  gdK (wantd v13 false) (fun k W => okF (addrF 1 x1) fun v => k v W) (fun v16 W =>
  gdK (wantd v13 false) (fun k W => okF (addrF 3 v16) fun v => k v W) (fun v17 W =>
  gdK (wantd v13 false) (fun k W => okF (idxA 7 1 v17 v15) fun v => k v W) (fun v18 W =>
  gdK (wantd v13 false) (fun k W => rdK PR (Instr.loadAt T_int64 v18) k W) (fun v19 W =>
  gdK (wantd v13 false) (fun k W => okF (binP .gtr v19 (.int .i64 1000)) fun v => k v W) (fun v20 W =>
  okF (pickP v13 (.bool true) v20) fun v21 =>
  ifK v21 (
  R (.bool false) W) (
  okF (binP .add x3 (.int .i64 1)) fun v7 =>
  K1 [x1, v7] W)) W) W) W) W) W) W) W) (
  J1 [x1] W)
def S.rostrumlaw23_first.body (R : Value → World → Prop) (v0 : Value) (W : World) : Prop :=
  efK PR (Instr.box T_rostrumlaw23_Act v0) (fun v1 W =>
  joinK (fun s W => S.rostrumlaw23_first.j1 R (nthv s 0) W) (fun J1 =>
  loopK (fun K1 s W => S.rostrumlaw23_first.l1 R J1 K1 (nthv s 0) (nthv s 1) W) [v1, (.int .i64 0)] W)) W
def S.rostrumlaw23_first.hint : Hint := (.two .nil (.at [1] (.two .nil (.at [1, 3] (.two (.two .nil (.two .nil .nil)) (.two (.two .nil (.two (.two .nil .nil) .nil)) .nil)) .nil)) (.two .nil .nil)))
theorem S.rostrumlaw23_first.ok (R : Value → World → Prop) (v0 : Value) (W : World) : bodyK PR CB Try.f47 S.rostrumlaw23_first.hint [v0] R W = S.rostrumlaw23_first.body R v0 W := by kernel_rfl
theorem S.rostrumlaw23_first.fn : PR.funcs[F_rostrumlaw23_first]? = some Try.f47 := by kernel_rfl
theorem S.rostrumlaw23_first.call {R : Value → World → Prop} {v0 : Value} {W : World} (h : S.rostrumlaw23_first.body R v0 W) : callK PR F_rostrumlaw23_first [v0] R W :=
  callK_of_body (g := F_rostrumlaw23_first) (fn := Try.f47) (args := [v0]) (R := R) (w := W) mixed CBok S.rostrumlaw23_first.fn S.rostrumlaw23_first.hint (by rw [S.rostrumlaw23_first.ok]; exact h)
end Go.Proofs.Ytkjhccpanedccaa
namespace Go.Proofs.Ytkjhccpanedccaa
set_option linter.unusedVariables false
set_option linter.unusedSimpArgs false
open Go Go.Eng Go.Tar Go.Sort Go.RowKit
structure ActX where
  op : Int
  i : Ins
  v : P7 Int
  b : BSl
instance : Inhabited ActX := ⟨⟨0, default, P7.all 0, ⟨none, 0, []⟩⟩⟩
def AXL : Ly ActX := ⟨19, by omega, fun x => [.int .i64 x.op, .int .i64 x.i.d.rep, .int .i64 x.i.d.n, .int .i64 x.i.s, .int .i64 x.i.v.x0, .int .i64 x.i.v.x1, .int .i64 x.i.v.x2, .int .i64 x.i.v.x3, .int .i64 x.i.v.x4, .int .i64 x.i.v.x5, .int .i64 x.i.v.x6, .int .i64 x.v.x0, .int .i64 x.v.x1, .int .i64 x.v.x2, .int .i64 x.v.x3, .int .i64 x.v.x4, .int .i64 x.v.x5, .int .i64 x.v.x6, x.b.v], fun _ => rfl, fun _ => rfl⟩
noncomputable def XS.act (s : XS) (a : ActX) : XS := if a.op = 0 then (s.commit a.i a.v a.b.bs).1 else (s.haves a.v).1
noncomputable def runX (l : List ActX) : XS := l.foldl XS.act XS.new
theorem runX_succ (l : List ActX) {i : Nat} (hi : i < l.length) : runX (l.take (i + 1)) = (runX (l.take i)).act l[i] := by
  unfold runX; rw [List.take_succ_eq_append_getElem hi, List.foldl_append]; rfl
section
variable {s : XS} {d e : Dot} {v : P7 Int} {l : List ActX}
theorem find_some {c : Cmd} (h : s.find d = some c) : c ∈ s.cs ∧ c.i.d = d := by
  unfold XS.find at h
  exact ⟨List.mem_of_find?_eq_some h, by simpa using List.find?_some h⟩
theorem leV_merge (a b : P7 Int) : leV a (vmerge a b) = true := (leV_iff _ _).2 fun j hj => by
  rw [vmerge, P7.get_zip]; unfold imax; split <;> omega
theorem leV_trans {a b c : P7 Int} (h1 : leV a b = true) (h2 : leV b c = true) : leV a c = true := (leV_iff _ _).2 fun j hj => by
  have := (leV_iff _ _).1 h1 j hj; have := (leV_iff _ _).1 h2 j hj; omega
/-- what is executed is there, had what it waits for, and is so once -/
structure XOk (s : XS) : Prop where
  nd : s.done.Nodup
  fd : ∀ d ∈ s.done, ∃ c, s.find d = some c ∧ leV c.w s.have_ = true
theorem nowF_sub (s : XS) : ∀ l : List Dot, ∀ d ∈ nowF s l, d ∈ l ∧ d ∉ s.done ∧ leV (s.waitOf d) s.have_ = true
  | [], d, h => by cases h
  | e :: l, d, h => by
    rw [nowF_cons] at h
    by_cases h1 : e ∈ s.done
    · rw [if_pos h1] at h
      have := nowF_sub s l d h
      exact ⟨by simp [this.1], this.2⟩
    · rw [if_neg h1] at h
      by_cases h2 : leV (s.waitOf e) s.have_ = true
      · rw [if_pos h2] at h
        rcases List.mem_cons.1 h with rfl | h
        · exact ⟨by simp, h1, h2⟩
        · have := nowF_sub s l d h
          exact ⟨by simp [this.1], this.2⟩
      · rw [if_neg h2] at h; cases h
theorem mark_ok (h : XOk s) (hw : leV (s.waitOf d) s.have_ = true) : XOk (s.mark d) := by
  unfold XS.mark
  split
  · rename_i hc
    rw [Bool.and_eq_true, Bool.not_eq_true', decide_eq_false_iff_not] at hc
    obtain ⟨hc, hn⟩ := hc
    obtain ⟨c, hc⟩ := Option.isSome_iff_exists.1 hc
    have hw2 : leV c.w s.have_ = true := by unfold XS.waitOf at hw; rw [hc] at hw; exact hw
    refine ⟨?_, fun e he => ?_⟩
    · show (s.done ++ [d]).Nodup
      rw [List.nodup_append]
      exact ⟨h.nd, by simp, fun a ha b hb e => hn (by rw [List.mem_singleton] at hb; rw [← hb, ← e]; exact ha)⟩
    · rcases List.mem_append.1 he with he | he
      · exact h.fd e he
      · rw [List.mem_singleton.1 he]; exact ⟨c, hc, hw2⟩
  · exact h
theorem marks_ok : ∀ (now : List Dot) (s : XS), XOk s → (∀ d ∈ now, leV (s.waitOf d) s.have_ = true) → XOk (now.foldl XS.mark s)
  | [], s, h, _ => h
  | d :: now, s, h, hw => by
    refine marks_ok now _ (mark_ok h (hw d (by simp))) fun e he => ?_
    have hm := mark_cs s d
    have : (s.mark d).waitOf e = s.waitOf e := by unfold XS.waitOf XS.find; rw [hm.1]
    rw [this, hm.2]; exact hw e (by simp [he])
theorem marks_pre : ∀ (now : List Dot) (s : XS), ∃ r, (now.foldl XS.mark s).done = s.done ++ r ∧ (now.foldl XS.mark s).cs = s.cs ∧ (now.foldl XS.mark s).have_ = s.have_
  | [], s => ⟨[], by simp, rfl, rfl⟩
  | d :: now, s => by
    obtain ⟨r, h1, h2, h3⟩ := marks_pre now (s.mark d)
    have hm := mark_cs s d
    have hd : ∃ q, (s.mark d).done = s.done ++ q := by unfold XS.mark; split; exact ⟨[d], rfl⟩; exact ⟨[], by simp⟩
    obtain ⟨q, hq⟩ := hd
    refine ⟨q ++ r, ?_, h2.trans hm.1, h3.trans hm.2⟩
    rw [List.foldl_cons, h1, hq, List.append_assoc]
theorem merge_ok (h : XOk s) (v : P7 Int) : XOk (s.merge v) := by
  unfold XS.merge
  split
  · refine ⟨h.nd, fun d hd => ?_⟩
    obtain ⟨c, h1, h2⟩ := h.fd d hd
    exact ⟨c, h1, leV_trans h2 (leV_merge _ _)⟩
  · exact h
theorem haves_ok (h : XOk s) (v : P7 Int) : XOk (s.haves v).1 := marks_ok _ _ (merge_ok h v) fun d hd => (nowF_sub _ _ d hd).2.2
theorem haves_pre (s : XS) (v : P7 Int) : ∃ r, (s.haves v).1.done = s.done ++ r ∧ (s.haves v).1.cs = s.cs ∧ (s.haves v).1.have_ = (s.merge v).have_ := by
  obtain ⟨r, h1, h2, h3⟩ := marks_pre (s.merge v).now (s.merge v)
  have e1 : (s.merge v).done = s.done := by unfold XS.merge; split <;> rfl
  have e2 : (s.merge v).cs = s.cs := by unfold XS.merge; split <;> rfl
  exact ⟨r, by rw [← e1]; exact h1, h2.trans e2, h3⟩
theorem commit_cases (s : XS) (i : Ins) (w : P7 Int) (bs : List UInt8) : (s.commit i w bs).1 = s ∨ ((s.commit i w bs).1 = ⟨s.have_, s.cs ++ [⟨i, w, bs⟩], s.done⟩ ∧ goodO [i] = true ∧ goodV w = true ∧ bs.length ≤ 65536 ∧ s.find i.d = none ∧ s.cs.length < 1000) := by
  unfold XS.commit
  by_cases h1 : goodO [i] = false ∨ goodV w = false ∨ 65536 < bs.length
  · rw [if_pos h1]; exact .inl rfl
  · rw [if_neg h1]
    by_cases h2 : (s.find i.d).isSome = true
    · rw [if_pos h2]; exact .inl rfl
    · rw [if_neg h2]
      by_cases h3 : 1000 ≤ s.cs.length
      · rw [if_pos h3]; exact .inl rfl
      · rw [if_neg h3]
        simp only [not_or, Bool.not_eq_false] at h1
        exact .inr ⟨rfl, h1.1, h1.2.1, by omega, by simpa using h2, by omega⟩
theorem find_app {c : Cmd} (s : XS) (h : XS.find s d = some c) (y : Cmd) : XS.find ⟨s.have_, s.cs ++ [y], s.done⟩ d = some c := by
  unfold XS.find at h ⊢
  rw [List.find?_append, h]; rfl
theorem commit_ok (h : XOk s) (i : Ins) (w : P7 Int) (bs : List UInt8) : XOk (s.commit i w bs).1 := by
  rcases commit_cases s i w bs with e | ⟨e, _⟩ <;> rw [e]
  · exact h
  · refine ⟨h.nd, fun d hd => ?_⟩
    obtain ⟨c, h1, h2⟩ := h.fd d hd
    exact ⟨c, find_app s h1 _, h2⟩
theorem commit_len (s : XS) (i : Ins) (w : P7 Int) (bs : List UInt8) : (s.commit i w bs).1.cs.length ≤ s.cs.length + 1 ∧ (s.commit i w bs).1.done = s.done ∧ (s.commit i w bs).1.have_ = s.have_ := by
  rcases commit_cases s i w bs with e | ⟨e, _⟩ <;> rw [e]
  · exact ⟨by omega, rfl, rfl⟩
  · exact ⟨by simp, rfl, rfl⟩
def mat (d : Dot) (a : ActX) : Bool := decide (a.op = 0) && decide (a.i.d = d) && goodV a.v && decide (a.b.bs.length ≤ 65536)
def firstO (a : ActX) : Bool := depsO a.i && decide (0 ≤ a.i.s) && decide (a.i.s ≤ 1099511627776)
def waitedO (l : List ActX) (d : Dot) (h : P7 Int) : Bool := match l.find? (mat d) with
  | some a => leV a.v h || !firstO a
  | none => false
theorem good1 {i : Ins} : goodO [i] = true ↔ dotO i.d = true ∧ depsO i = true ∧ 0 ≤ i.s ∧ i.s ≤ 1099511627776 := by
  rw [goodO_iff]
  constructor
  · rintro ⟨h, _, _⟩
    obtain ⟨h1, h2⟩ := h i (by simp)
    unfold insOne at h1
    simp only [Bool.and_eq_true, Bool.not_eq_true', decide_eq_false_iff_not] at h1
    exact ⟨h1.1.1, h2, by omega, by omega⟩
  · rintro ⟨h1, h2, h3, h4⟩
    refine ⟨fun x hx => ?_, by simp, by simp⟩
    rw [List.mem_singleton.1 hx]
    refine ⟨?_, h2⟩
    unfold insOne
    simp only [Bool.and_eq_true, Bool.not_eq_true', decide_eq_false_iff_not]
    exact ⟨⟨h1, by omega⟩, by omega⟩
/-- what was committed, by the acts so far -/
structure XW (l : List ActX) (s : XS) : Prop where
  ok : XOk s
  len : s.cs.length ≤ l.length
  fst : ∀ d c, s.find d = some c → ∃ a, l.find? (mat d) = some a ∧ (firstO a = true → c.w = a.v)
  all : ∀ a ∈ l, a.op = 0 → goodO [a.i] = true → goodV a.v = true → a.b.bs.length ≤ 65536 → (s.find a.i.d).isSome = true
  dot : ∀ c ∈ s.cs, goodO [c.i] = true ∧ c.bs.length ≤ 65536
theorem new_xw : XW [] XS.new := ⟨⟨List.nodup_nil, fun d h => by cases h⟩, by simp [XS.new], fun d c h => (by cases h), fun a h => (by cases h), fun c h => (by cases h)⟩
theorem find_none_app {y : Cmd} (h : s.find d = none) : XS.find ⟨s.have_, s.cs ++ [y], s.done⟩ d = if y.i.d = d then some y else none := by
  unfold XS.find at h ⊢
  rw [List.find?_append, h, Option.none_or, List.find?_singleton]
  by_cases e : y.i.d = d <;> simp [e]
theorem act_xw (h : XW l s) (a : ActX) (hl : l.length ≤ 100) : XW (l ++ [a]) (s.act a) := by
  have fapp : ∀ d x, l.find? (mat d) = some x → (l ++ [a]).find? (mat d) = some x := fun d x e => by rw [List.find?_append, e]; rfl
  unfold XS.act
  by_cases h0 : a.op = 0
  · rw [if_pos h0]
    have hlen := commit_len s a.i a.v a.b.bs
    rcases commit_cases s a.i a.v a.b.bs with e | ⟨e, g1, g2, g3, g4, _⟩
    · have hall : a.op = 0 → goodO [a.i] = true → goodV a.v = true → a.b.bs.length ≤ 65536 → (s.find a.i.d).isSome = true := fun _ g1 g2 g3 => by
        refine Classical.byContradiction fun hn => ?_
        have hll := h.len
        have : (s.commit a.i a.v a.b.bs).1 = ⟨s.have_, s.cs ++ [⟨a.i, a.v, a.b.bs⟩], s.done⟩ := by
          unfold XS.commit
          rw [if_neg (by rintro (x | x | x); rw [g1] at x; cases x; rw [g2] at x; cases x; omega), if_neg hn, if_neg (by omega)]
        rw [e] at this
        have := congrArg (fun x => x.cs.length) this
        simp at this
      rw [e]
      refine ⟨h.ok, by simp; have := h.len; omega, fun d c hf => ?_, fun b hb => ?_, h.dot⟩
      · obtain ⟨x, h1, h2⟩ := h.fst d c hf
        exact ⟨x, fapp d x h1, h2⟩
      · rcases List.mem_append.1 hb with hb | hb
        · exact h.all b hb
        · rw [List.mem_singleton.1 hb]; exact hall
    · rw [e]
      have hok : XOk ⟨s.have_, s.cs ++ [⟨a.i, a.v, a.b.bs⟩], s.done⟩ := by rw [← e]; exact commit_ok h.ok _ _ _
      refine ⟨hok, by simp; exact h.len, fun d c hf => ?_, fun b hb b0 b1 b2 b3 => ?_, fun c hc => ?_⟩
      · cases hfd : s.find d with
        | some c' =>
          rw [find_app s hfd] at hf
          obtain ⟨x, h1, h2⟩ := h.fst d c' hfd
          exact ⟨x, fapp d x h1, by cases hf; exact h2⟩
        | none =>
          rw [find_none_app hfd] at hf
          by_cases hd : a.i.d = d
          · rw [if_pos hd] at hf
            cases hf
            have hma : mat d a = true := by unfold mat; simp [h0, hd, g2, g3]
            cases hq : l.find? (mat d) with
            | none => exact ⟨a, by rw [List.find?_append, hq, Option.none_or, List.find?_singleton, hma]; rfl, fun _ => rfl⟩
            | some x =>
              refine ⟨x, fapp d x hq, fun hfx => ?_⟩
              have hxm := List.mem_of_find?_eq_some hq
              have hxp := List.find?_some hq
              unfold mat at hxp
              simp only [Bool.and_eq_true, decide_eq_true_eq] at hxp
              obtain ⟨⟨⟨x0, x1⟩, x2⟩, x3⟩ := hxp
              unfold firstO at hfx
              simp only [Bool.and_eq_true, decide_eq_true_eq] at hfx
              have hgx : goodO [x.i] = true := good1.2 ⟨by rw [x1, ← hd]; exact (good1.1 g1).1, hfx.1.1, hfx.1.2, hfx.2⟩
              have := h.all x hxm x0 hgx x2 x3
              rw [x1, hfd] at this; cases this
          · rw [if_neg hd] at hf; cases hf
      · rcases List.mem_append.1 hb with hb | hb
        · obtain ⟨c, hc⟩ := Option.isSome_iff_exists.1 (h.all b hb b0 b1 b2 b3)
          rw [find_app s hc]; rfl
        · rw [List.mem_singleton.1 hb, find_none_app g4, if_pos rfl]; rfl
      · rcases List.mem_append.1 hc with hc | hc
        · exact h.dot c hc
        · rw [List.mem_singleton.1 hc]; exact ⟨g1, g3⟩
  · rw [if_neg h0]
    obtain ⟨r, h1, h2, h3⟩ := haves_pre s a.v
    have hf : ∀ d, (s.haves a.v).1.find d = s.find d := fun d => by unfold XS.find; rw [h2]
    refine ⟨haves_ok h.ok a.v, by rw [h2]; simp; have := h.len; omega, fun d c hfd => ?_, fun b hb b0 b1 b2 b3 => ?_, fun c hc => h.dot c (by rw [← h2]; exact hc)⟩
    · rw [hf] at hfd
      obtain ⟨x, g1, g2⟩ := h.fst d c hfd
      exact ⟨x, fapp d x g1, g2⟩
    · rw [hf]
      rcases List.mem_append.1 hb with hb | hb
      · exact h.all b hb b0 b1 b2 b3
      · rw [List.mem_singleton.1 hb] at b0; exact absurd b0 h0
theorem run_xw (l : List ActX) (hl : l.length ≤ 100) : ∀ i, i ≤ l.length → XW (l.take i) (runX (l.take i))
  | 0, _ => new_xw
  | i + 1, hi => by
    have ih := run_xw l hl i (by omega)
    rw [runX_succ l (by omega), List.take_succ_eq_append_getElem (by omega)]
    exact act_xw ih _ (by simp; omega)
theorem done_waited (h : XW l s) (hd : d ∈ s.done) : waitedO l d s.have_ = true ∧ (s.find d).isSome = true := by
  obtain ⟨c, h1, h2⟩ := h.ok.fd d hd
  obtain ⟨a, h3, h4⟩ := h.fst d c h1
  refine ⟨?_, by rw [h1]; rfl⟩
  unfold waitedO
  rw [h3]
  cases hf : firstO a with
  | false => simp [hf]
  | true => simp [← h4 hf, h2]
theorem done_len (h : XW l s) (hl : l.length ≤ 100) : s.done.length ≤ 100000 := by
  have hn := h.ok.nd
  have hsub : s.done ⊆ s.cs.map (fun c => c.i.d) := fun d hd => by
    obtain ⟨c, h1, _⟩ := h.ok.fd d hd
    exact List.mem_map.2 ⟨c, (find_some h1).1, (find_some h1).2⟩
  have h1 := hn.length_le_of_subset hsub
  have h2 := h.len
  rw [List.length_map] at h1
  omega
theorem act_pre (s : XS) (a : ActX) : ∃ r, (s.act a).done = s.done ++ r := by
  unfold XS.act
  split
  · exact ⟨[], by rw [(commit_len s _ _ _).2.1]; simp⟩
  · obtain ⟨r, h, _⟩ := haves_pre s a.v; exact ⟨r, h⟩
end
end Go.Proofs.Ytkjhccpanedccaa
namespace Go.Proofs.Ytkjhccpanedccaa
set_option linter.unusedVariables false
set_option linter.unusedSimpArgs false
open Go Go.Eng Go.Tar Go.Sort Go.RowKit
abbrev ClA : List Cl := [.int .i64, .int .i64, .int .i64, .int .i64, .int .i64, .int .i64, .int .i64, .int .i64, .int .i64, .int .i64, .int .i64, .int .i64, .int .i64, .int .i64, .int .i64, .int .i64, .int .i64, .int .i64, .sl [.int .u8]]
def rgA (W : World) (x : ActX) : Prop := x.b.bs.length ≤ x.b.c ∧ x.b.c ≤ maxLen ∧ Rd W [] x.b.a B8 x.b.bs
theorem openActRow {W : World} (vs : List Value) (h : GoodL W ClA vs) : ∃ a : ActX, vs = AXL.row a ∧ rgA W a := by
  obtain ⟨_, _, rfl, h1, h⟩ := h.cons'
  obtain ⟨_, _, rfl, h2, h⟩ := h.cons'
  obtain ⟨_, _, rfl, h3, h⟩ := h.cons'
  obtain ⟨_, _, rfl, h4, h⟩ := h.cons'
  obtain ⟨_, _, rfl, h5, h⟩ := h.cons'
  obtain ⟨_, _, rfl, h6, h⟩ := h.cons'
  obtain ⟨_, _, rfl, h7, h⟩ := h.cons'
  obtain ⟨_, _, rfl, h8, h⟩ := h.cons'
  obtain ⟨_, _, rfl, h9, h⟩ := h.cons'
  obtain ⟨_, _, rfl, h10, h⟩ := h.cons'
  obtain ⟨_, _, rfl, h11, h⟩ := h.cons'
  obtain ⟨_, _, rfl, h12, h⟩ := h.cons'
  obtain ⟨_, _, rfl, h13, h⟩ := h.cons'
  obtain ⟨_, _, rfl, h14, h⟩ := h.cons'
  obtain ⟨_, _, rfl, h15, h⟩ := h.cons'
  obtain ⟨_, _, rfl, h16, h⟩ := h.cons'
  obtain ⟨_, _, rfl, h17, h⟩ := h.cons'
  obtain ⟨_, _, rfl, h18, h⟩ := h.cons'
  obtain ⟨_, _, rfl, h19, h⟩ := h.cons'
  obtain rfl := h.nil'
  obtain ⟨a1, rfl, _⟩ := h1.int'
  obtain ⟨a2, rfl, _⟩ := h2.int'
  obtain ⟨a3, rfl, _⟩ := h3.int'
  obtain ⟨a4, rfl, _⟩ := h4.int'
  obtain ⟨a5, rfl, _⟩ := h5.int'
  obtain ⟨a6, rfl, _⟩ := h6.int'
  obtain ⟨a7, rfl, _⟩ := h7.int'
  obtain ⟨a8, rfl, _⟩ := h8.int'
  obtain ⟨a9, rfl, _⟩ := h9.int'
  obtain ⟨a10, rfl, _⟩ := h10.int'
  obtain ⟨a11, rfl, _⟩ := h11.int'
  obtain ⟨a12, rfl, _⟩ := h12.int'
  obtain ⟨a13, rfl, _⟩ := h13.int'
  obtain ⟨a14, rfl, _⟩ := h14.int'
  obtain ⟨a15, rfl, _⟩ := h15.int'
  obtain ⟨a16, rfl, _⟩ := h16.int'
  obtain ⟨a17, rfl, _⟩ := h17.int'
  obtain ⟨a18, rfl, _⟩ := h18.int'
  obtain ⟨a, c, l, rfl, hl, hc, hr⟩ := openBytes h19
  exact ⟨⟨a1, ⟨⟨a2, a3⟩, a4, ⟨a5, a6, a7, a8, a9, a10, a11⟩⟩, ⟨a12, a13, a14, a15, a16, a17, a18⟩, ⟨a, c, l⟩⟩, rfl, hl, hc, hr⟩
theorem openActs {W : World} {v : Value} (h : GoodA W [.sl ClA] false v) : ∃ (a : Option Addr) (c : Nat) (l : List ActX), v = .slice a l.length c ∧ l.length ≤ c ∧ c ≤ maxLen ∧ Rd W [] a AXL l ∧ ∀ x ∈ l, rgA W x := openArr AXL (rgA W) h.one rfl openActRow
section
variable {W0 W : World} {L L' : List Asn}
set_option maxRecDepth 100000 in
set_option maxHeartbeats 8000000 in
theorem lawFirst {x : ActX} {k : Value → World → Prop} (h : St W0 L W) (hk : ∀ W', St W0 L W' → k (.bool (firstO x)) W') : callK PR F_rostrumlaw23_first [.agg #[.int .i64 x.op, .int .i64 x.i.d.rep, .int .i64 x.i.d.n, .int .i64 x.i.s, .int .i64 x.i.v.x0, .int .i64 x.i.v.x1, .int .i64 x.i.v.x2, .int .i64 x.i.v.x3, .int .i64 x.i.v.x4, .int .i64 x.i.v.x5, .int .i64 x.i.v.x6, .int .i64 x.v.x0, .int .i64 x.v.x1, .int .i64 x.v.x2, .int .i64 x.v.x3, .int .i64 x.v.x4, .int .i64 x.v.x5, .int .i64 x.v.x6, x.b.v]] k W := by
  apply S.rostrumlaw23_first.call
  unfold S.rostrumlaw23_first.body
  refine bxa h fun b W1 h => ?_
  have h : St W0 (cells b [.int .i64 x.op, .int .i64 x.i.d.rep, .int .i64 x.i.d.n, .int .i64 x.i.s, .int .i64 x.i.v.x0, .int .i64 x.i.v.x1, .int .i64 x.i.v.x2, .int .i64 x.i.v.x3, .int .i64 x.i.v.x4, .int .i64 x.i.v.x5, .int .i64 x.i.v.x6, .int .i64 x.v.x0, .int .i64 x.v.x1, .int .i64 x.v.x2, .int .i64 x.v.x3, .int .i64 x.v.x4, .int .i64 x.v.x5, .int .i64 x.v.x6, x.b.v] T_rostrumlaw23_Act :: L) W1 := h
  refine joinK_i ?_
  refine loop_c (σ := Unit) 7 (fun i _ => [.pointer (some ⟨b, 0, none⟩), .int .i64 (i : Int)])
    (fun i _ W1 => (∀ j, j < i → 0 ≤ x.i.v.get j ∧ x.i.v.get j ≤ 1000) ∧ St W0 (cells b [.int .i64 x.op, .int .i64 x.i.d.rep, .int .i64 x.i.d.n, .int .i64 x.i.s, .int .i64 x.i.v.x0, .int .i64 x.i.v.x1, .int .i64 x.i.v.x2, .int .i64 x.i.v.x3, .int .i64 x.i.v.x4, .int .i64 x.i.v.x5, .int .i64 x.i.v.x6, .int .i64 x.v.x0, .int .i64 x.v.x1, .int .i64 x.v.x2, .int .i64 x.v.x3, .int .i64 x.v.x4, .int .i64 x.v.x5, .int .i64 x.v.x6, x.b.v] T_rostrumlaw23_Act :: L) W1) () rfl ⟨fun _ h => by omega, h⟩ ?_
  clear h
  rintro K i _ W2 hi ⟨hd, h⟩ hK
  simp -implicitDefEqProofs only [EN, lsub, lget, stL, beq_self_eq_true, ne_eq, if_true, if_false, List.cons_append, List.nil_append, Option.isNone_some, Option.isNone_none]
  unfold S.rostrumlaw23_first.l1
  by_cases hlt : (i : Int) < 7
  · have hib : i < 7 := by omega
    have ew : IntKind.i64.wrap ((i : Int) + 1) = ((i + 1 : Nat) : Int) := by rw [i64w]; omega
    have eA : idxA 7 1 (.pointer (some ⟨b, 4, none⟩)) (.int .i64 (i : Int)) = some (.pointer (some ⟨b, 4 + i, none⟩)) := by rw [idxA_blk (by omega) (by omega), Int.toNat_natCast, Nat.mul_one]
    have eg : getL false [.int .i64 x.op, .int .i64 x.i.d.rep, .int .i64 x.i.d.n, .int .i64 x.i.s, .int .i64 x.i.v.x0, .int .i64 x.i.v.x1, .int .i64 x.i.v.x2, .int .i64 x.i.v.x3, .int .i64 x.i.v.x4, .int .i64 x.i.v.x5, .int .i64 x.i.v.x6, .int .i64 x.v.x0, .int .i64 x.v.x1, .int .i64 x.v.x2, .int .i64 x.v.x3, .int .i64 x.v.x4, .int .i64 x.v.x5, .int .i64 x.v.x6, x.b.v] (4 + i) 1 = some (.int .i64 (x.i.v.get i)) := by
      rcases P7.cases7 hib with h | h | h | h | h | h | h <;> rw [h] <;> rfl
    have hno : ¬ (0 ≤ x.i.v.get i ∧ x.i.v.get i ≤ 1000) → firstO x = false := fun hn => by
      unfold firstO
      have : depsO x.i = false := Bool.eq_false_iff.2 fun hd => hn ((depsO_iff _).1 hd i hib)
      rw [this]; rfl
    (repeat (first | (first | (with_reducible (first | refine w1 fun _ _ => ?_ | refine w3 fun _ _ _ => ?_ | refine w4 fun _ _ _ => ?_ | refine w11 fun _ _ _ => ?_ | refine stb_n ?_)) | ((with_reducible refine w2 ?_); try simp -implicitDefEqProofs only [EN, lsub, lget, stL, beq_self_eq_true, ne_eq, if_true, if_false, List.cons_append, List.nil_append, Option.isNone_some, Option.isNone_none, hlt, eA]; intro _ _) | ((with_reducible (first | refine w5 ?_ ?_ | refine w6 ?_ ?_ | refine w7 ?_ ?_)); simp; refine ⟨_, rfl, ?_⟩) | ((with_reducible (first | refine w8 ?_ ?_ ?_ | refine w9 ?_ ?_ ?_ | refine w10 ?_ ?_ ?_)); exact rfl; simp) | ((with_reducible refine w12 ?_ ?_ ?_ fun _ _ => ?_); simp; simp; simp [oneC]) | ((with_reducible (first | refine eqs ?_ | refine nes ?_)); refine ⟨_, rfl, ?_⟩) | ((refine okF_i (bldP_eq rfl) ?_); try simp only [BLS, List.take_succ_cons, List.take_zero, List.drop_succ_cons, List.drop_zero, List.cons_append, List.nil_append, Nat.reduceAdd])) | simp -implicitDefEqProofs only [EN, lsub, lget, stL, beq_self_eq_true, ne_eq, if_true, if_false, List.cons_append, List.nil_append, Option.isNone_some, Option.isNone_none, hlt, eA]))
    refine w5 (by simp) ⟨_, eg, ?_⟩
    by_cases c1 : x.i.v.get i < 0
    · rw [hno (by omega)] at hk
      (repeat (first | (first | (with_reducible (first | refine w1 fun _ _ => ?_ | refine w3 fun _ _ _ => ?_ | refine w4 fun _ _ _ => ?_ | refine w11 fun _ _ _ => ?_ | refine stb_n ?_)) | ((with_reducible refine w2 ?_); try simp -implicitDefEqProofs only [EN, lsub, lget, stL, beq_self_eq_true, ne_eq, if_true, if_false, List.cons_append, List.nil_append, Option.isNone_some, Option.isNone_none, c1]; intro _ _) | ((with_reducible (first | refine w5 ?_ ?_ | refine w6 ?_ ?_ | refine w7 ?_ ?_)); simp; refine ⟨_, rfl, ?_⟩) | ((with_reducible (first | refine w8 ?_ ?_ ?_ | refine w9 ?_ ?_ ?_ | refine w10 ?_ ?_ ?_)); exact rfl; simp) | ((with_reducible refine w12 ?_ ?_ ?_ fun _ _ => ?_); simp; simp; simp [oneC]) | ((with_reducible (first | refine eqs ?_ | refine nes ?_)); refine ⟨_, rfl, ?_⟩) | ((refine okF_i (bldP_eq rfl) ?_); try simp only [BLS, List.take_succ_cons, List.take_zero, List.drop_succ_cons, List.drop_zero, List.cons_append, List.nil_append, Nat.reduceAdd])) | simp -implicitDefEqProofs only [EN, lsub, lget, stL, beq_self_eq_true, ne_eq, if_true, if_false, List.cons_append, List.nil_append, Option.isNone_some, Option.isNone_none, c1]))
      exact hk _ (St.drop (by first | assumption | exact St.tick (by assumption) | exact St.tick (St.tick (by assumption))))
    (repeat (first | (first | (with_reducible (first | refine w1 fun _ _ => ?_ | refine w3 fun _ _ _ => ?_ | refine w4 fun _ _ _ => ?_ | refine w11 fun _ _ _ => ?_ | refine stb_n ?_)) | ((with_reducible refine w2 ?_); try simp -implicitDefEqProofs only [EN, lsub, lget, stL, beq_self_eq_true, ne_eq, if_true, if_false, List.cons_append, List.nil_append, Option.isNone_some, Option.isNone_none, c1, eA]; intro _ _) | ((with_reducible (first | refine w5 ?_ ?_ | refine w6 ?_ ?_ | refine w7 ?_ ?_)); simp; refine ⟨_, rfl, ?_⟩) | ((with_reducible (first | refine w8 ?_ ?_ ?_ | refine w9 ?_ ?_ ?_ | refine w10 ?_ ?_ ?_)); exact rfl; simp) | ((with_reducible refine w12 ?_ ?_ ?_ fun _ _ => ?_); simp; simp; simp [oneC]) | ((with_reducible (first | refine eqs ?_ | refine nes ?_)); refine ⟨_, rfl, ?_⟩) | ((refine okF_i (bldP_eq rfl) ?_); try simp only [BLS, List.take_succ_cons, List.take_zero, List.drop_succ_cons, List.drop_zero, List.cons_append, List.nil_append, Nat.reduceAdd])) | simp -implicitDefEqProofs only [EN, lsub, lget, stL, beq_self_eq_true, ne_eq, if_true, if_false, List.cons_append, List.nil_append, Option.isNone_some, Option.isNone_none, c1, eA]))
    refine w5 (by simp) ⟨_, eg, ?_⟩
    by_cases c2 : (1000 : Int) < x.i.v.get i
    · rw [hno (by omega)] at hk
      (repeat (first | (first | (with_reducible (first | refine w1 fun _ _ => ?_ | refine w3 fun _ _ _ => ?_ | refine w4 fun _ _ _ => ?_ | refine w11 fun _ _ _ => ?_ | refine stb_n ?_)) | ((with_reducible refine w2 ?_); try simp -implicitDefEqProofs only [EN, lsub, lget, stL, beq_self_eq_true, ne_eq, if_true, if_false, List.cons_append, List.nil_append, Option.isNone_some, Option.isNone_none, c2]; intro _ _) | ((with_reducible (first | refine w5 ?_ ?_ | refine w6 ?_ ?_ | refine w7 ?_ ?_)); simp; refine ⟨_, rfl, ?_⟩) | ((with_reducible (first | refine w8 ?_ ?_ ?_ | refine w9 ?_ ?_ ?_ | refine w10 ?_ ?_ ?_)); exact rfl; simp) | ((with_reducible refine w12 ?_ ?_ ?_ fun _ _ => ?_); simp; simp; simp [oneC]) | ((with_reducible (first | refine eqs ?_ | refine nes ?_)); refine ⟨_, rfl, ?_⟩) | ((refine okF_i (bldP_eq rfl) ?_); try simp only [BLS, List.take_succ_cons, List.take_zero, List.drop_succ_cons, List.drop_zero, List.cons_append, List.nil_append, Nat.reduceAdd])) | simp -implicitDefEqProofs only [EN, lsub, lget, stL, beq_self_eq_true, ne_eq, if_true, if_false, List.cons_append, List.nil_append, Option.isNone_some, Option.isNone_none, c2]))
      exact hk _ (St.drop (by first | assumption | exact St.tick (by assumption) | exact St.tick (St.tick (by assumption))))
    (repeat (first | (first | (with_reducible (first | refine w1 fun _ _ => ?_ | refine w3 fun _ _ _ => ?_ | refine w4 fun _ _ _ => ?_ | refine w11 fun _ _ _ => ?_ | refine stb_n ?_)) | ((with_reducible refine w2 ?_); try simp -implicitDefEqProofs only [EN, lsub, lget, stL, beq_self_eq_true, ne_eq, if_true, if_false, List.cons_append, List.nil_append, Option.isNone_some, Option.isNone_none, c2, ew]; intro _ _) | ((with_reducible (first | refine w5 ?_ ?_ | refine w6 ?_ ?_ | refine w7 ?_ ?_)); simp; refine ⟨_, rfl, ?_⟩) | ((with_reducible (first | refine w8 ?_ ?_ ?_ | refine w9 ?_ ?_ ?_ | refine w10 ?_ ?_ ?_)); exact rfl; simp) | ((with_reducible refine w12 ?_ ?_ ?_ fun _ _ => ?_); simp; simp; simp [oneC]) | ((with_reducible (first | refine eqs ?_ | refine nes ?_)); refine ⟨_, rfl, ?_⟩) | ((refine okF_i (bldP_eq rfl) ?_); try simp only [BLS, List.take_succ_cons, List.take_zero, List.drop_succ_cons, List.drop_zero, List.cons_append, List.nil_append, Nat.reduceAdd])) | simp -implicitDefEqProofs only [EN, lsub, lget, stL, beq_self_eq_true, ne_eq, if_true, if_false, List.cons_append, List.nil_append, Option.isNone_some, Option.isNone_none, c2, ew]))
    refine hK () _ hib ⟨fun j hj => ?_, (by first | assumption | exact St.tick (by assumption) | exact St.tick (St.tick (by assumption)))⟩
    by_cases e : j = i
    · subst e; omega
    · exact hd j (by omega)
  · have hi7 : i = 7 := by omega
    subst hi7
    have hdo : depsO x.i = true := (depsO_iff _).2 fun j hj => hd j hj
    unfold firstO at hk
    rw [hdo, Bool.true_and] at hk
    (repeat (first | (first | (with_reducible (first | refine w1 fun _ _ => ?_ | refine w3 fun _ _ _ => ?_ | refine w4 fun _ _ _ => ?_ | refine w11 fun _ _ _ => ?_ | refine stb_n ?_)) | ((with_reducible refine w2 ?_); try simp -implicitDefEqProofs only [EN, lsub, lget, stL, beq_self_eq_true, ne_eq, if_true, if_false, List.cons_append, List.nil_append, Option.isNone_some, Option.isNone_none, hlt]; intro _ _) | ((with_reducible (first | refine w5 ?_ ?_ | refine w6 ?_ ?_ | refine w7 ?_ ?_)); simp; refine ⟨_, rfl, ?_⟩) | ((with_reducible (first | refine w8 ?_ ?_ ?_ | refine w9 ?_ ?_ ?_ | refine w10 ?_ ?_ ?_)); exact rfl; simp) | ((with_reducible refine w12 ?_ ?_ ?_ fun _ _ => ?_); simp; simp; simp [oneC]) | ((with_reducible (first | refine eqs ?_ | refine nes ?_)); refine ⟨_, rfl, ?_⟩) | ((refine okF_i (bldP_eq rfl) ?_); try simp only [BLS, List.take_succ_cons, List.take_zero, List.drop_succ_cons, List.drop_zero, List.cons_append, List.nil_append, Nat.reduceAdd])) | simp -implicitDefEqProofs only [EN, lsub, lget, stL, beq_self_eq_true, ne_eq, if_true, if_false, List.cons_append, List.nil_append, Option.isNone_some, Option.isNone_none, hlt]))
    unfold S.rostrumlaw23_first.j1
    by_cases c1 : (0 : Int) ≤ x.i.s
    · by_cases c2 : x.i.s ≤ (1099511627776 : Int)
      · rw [decide_eq_true c1, decide_eq_true c2] at hk
        (repeat (first | (first | (with_reducible (first | refine w1 fun _ _ => ?_ | refine w3 fun _ _ _ => ?_ | refine w4 fun _ _ _ => ?_ | refine w11 fun _ _ _ => ?_ | refine stb_n ?_)) | ((with_reducible refine w2 ?_); try simp -implicitDefEqProofs only [EN, lsub, lget, stL, beq_self_eq_true, ne_eq, if_true, if_false, List.cons_append, List.nil_append, Option.isNone_some, Option.isNone_none, c1, c2]; intro _ _) | ((with_reducible (first | refine w5 ?_ ?_ | refine w6 ?_ ?_ | refine w7 ?_ ?_)); simp; refine ⟨_, rfl, ?_⟩) | ((with_reducible (first | refine w8 ?_ ?_ ?_ | refine w9 ?_ ?_ ?_ | refine w10 ?_ ?_ ?_)); exact rfl; simp) | ((with_reducible refine w12 ?_ ?_ ?_ fun _ _ => ?_); simp; simp; simp [oneC]) | ((with_reducible (first | refine eqs ?_ | refine nes ?_)); refine ⟨_, rfl, ?_⟩) | ((refine okF_i (bldP_eq rfl) ?_); try simp only [BLS, List.take_succ_cons, List.take_zero, List.drop_succ_cons, List.drop_zero, List.cons_append, List.nil_append, Nat.reduceAdd])) | simp -implicitDefEqProofs only [EN, lsub, lget, stL, beq_self_eq_true, ne_eq, if_true, if_false, List.cons_append, List.nil_append, Option.isNone_some, Option.isNone_none, c1, c2]))
        exact hk _ (St.drop (by first | assumption | exact St.tick (by assumption) | exact St.tick (St.tick (by assumption))))
      · rw [decide_eq_true c1, decide_eq_false c2] at hk
        (repeat (first | (first | (with_reducible (first | refine w1 fun _ _ => ?_ | refine w3 fun _ _ _ => ?_ | refine w4 fun _ _ _ => ?_ | refine w11 fun _ _ _ => ?_ | refine stb_n ?_)) | ((with_reducible refine w2 ?_); try simp -implicitDefEqProofs only [EN, lsub, lget, stL, beq_self_eq_true, ne_eq, if_true, if_false, List.cons_append, List.nil_append, Option.isNone_some, Option.isNone_none, c1, c2]; intro _ _) | ((with_reducible (first | refine w5 ?_ ?_ | refine w6 ?_ ?_ | refine w7 ?_ ?_)); simp; refine ⟨_, rfl, ?_⟩) | ((with_reducible (first | refine w8 ?_ ?_ ?_ | refine w9 ?_ ?_ ?_ | refine w10 ?_ ?_ ?_)); exact rfl; simp) | ((with_reducible refine w12 ?_ ?_ ?_ fun _ _ => ?_); simp; simp; simp [oneC]) | ((with_reducible (first | refine eqs ?_ | refine nes ?_)); refine ⟨_, rfl, ?_⟩) | ((refine okF_i (bldP_eq rfl) ?_); try simp only [BLS, List.take_succ_cons, List.take_zero, List.drop_succ_cons, List.drop_zero, List.cons_append, List.nil_append, Nat.reduceAdd])) | simp -implicitDefEqProofs only [EN, lsub, lget, stL, beq_self_eq_true, ne_eq, if_true, if_false, List.cons_append, List.nil_append, Option.isNone_some, Option.isNone_none, c1, c2]))
        exact hk _ (St.drop (by first | assumption | exact St.tick (by assumption) | exact St.tick (St.tick (by assumption))))
    · rw [decide_eq_false c1, Bool.false_and] at hk
      (repeat (first | (first | (with_reducible (first | refine w1 fun _ _ => ?_ | refine w3 fun _ _ _ => ?_ | refine w4 fun _ _ _ => ?_ | refine w11 fun _ _ _ => ?_ | refine stb_n ?_)) | ((with_reducible refine w2 ?_); try simp -implicitDefEqProofs only [EN, lsub, lget, stL, beq_self_eq_true, ne_eq, if_true, if_false, List.cons_append, List.nil_append, Option.isNone_some, Option.isNone_none, c1]; intro _ _) | ((with_reducible (first | refine w5 ?_ ?_ | refine w6 ?_ ?_ | refine w7 ?_ ?_)); simp; refine ⟨_, rfl, ?_⟩) | ((with_reducible (first | refine w8 ?_ ?_ ?_ | refine w9 ?_ ?_ ?_ | refine w10 ?_ ?_ ?_)); exact rfl; simp) | ((with_reducible refine w12 ?_ ?_ ?_ fun _ _ => ?_); simp; simp; simp [oneC]) | ((with_reducible (first | refine eqs ?_ | refine nes ?_)); refine ⟨_, rfl, ?_⟩) | ((refine okF_i (bldP_eq rfl) ?_); try simp only [BLS, List.take_succ_cons, List.take_zero, List.drop_succ_cons, List.drop_zero, List.cons_append, List.nil_append, Nat.reduceAdd])) | simp -implicitDefEqProofs only [EN, lsub, lget, stL, beq_self_eq_true, ne_eq, if_true, if_false, List.cons_append, List.nil_append, Option.isNone_some, Option.isNone_none, c1]))
      exact hk _ (St.drop (by first | assumption | exact St.tick (by assumption) | exact St.tick (St.tick (by assumption))))
set_option maxRecDepth 100000 in
set_option maxHeartbeats 8000000 in
theorem lawWaited {a : Option Addr} {c : Nat} {l : List ActX} {d : Dot} {v : P7 Int} {k : Value → World → Prop} (h : St W0 L W) [hr : Rd W0 [] a AXL l] (hl : l.length < 1000000)
    (hk : ∀ W', St W0 L W' → k (.bool (waitedO l d v)) W') : callK PR F_rostrumlaw23_waited [.slice a l.length c, .int .i64 d.rep, .int .i64 d.n, .agg #[.int .i64 v.x0, .int .i64 v.x1, .int .i64 v.x2, .int .i64 v.x3, .int .i64 v.x4, .int .i64 v.x5, .int .i64 v.x6]] k W := by
  apply S.rostrumlaw23_waited.call
  unfold S.rostrumlaw23_waited.body
  refine bxa h fun b W1 h => ?_
  have h : St W0 (cells b [.int .i64 v.x0, .int .i64 v.x1, .int .i64 v.x2, .int .i64 v.x3, .int .i64 v.x4, .int .i64 v.x5, .int .i64 v.x6] T_vec_Vec :: L) W1 := h
  refine loop_c (σ := Unit) l.length (fun i _ => [.slice a l.length c, .int .i64 d.rep, .int .i64 d.n, .pointer (some ⟨b, 0, none⟩), .int .i64 (i : Int)])
    (fun i _ W1 => (∀ j (hj : j < l.length), j < i → mat d l[j] = false) ∧ St W0 (cells b [.int .i64 v.x0, .int .i64 v.x1, .int .i64 v.x2, .int .i64 v.x3, .int .i64 v.x4, .int .i64 v.x5, .int .i64 v.x6] T_vec_Vec :: L) W1) () rfl ⟨fun _ _ h => by omega, h⟩ ?_
  clear h
  rintro K i _ W2 hi ⟨hno, h⟩ hK
  simp -implicitDefEqProofs only [EN, lsub, lget, stL, beq_self_eq_true, ne_eq, if_true, if_false, List.cons_append, List.nil_append, Option.isNone_some, Option.isNone_none]
  unfold S.rostrumlaw23_waited.l1
  by_cases hlt : (i : Int) < (l.length : Int)
  · have hib : i < l.length := by omega
    have ew : IntKind.i64.wrap ((i : Int) + 1) = ((i + 1 : Nat) : Int) := by rw [i64w]; omega
    obtain ⟨g, o, e1⟩ := posAddr (i := i) (a := a) (A := AXL) (l := l) (St.start W0) hib
    subst e1
    have ei : idxS 19 (.slice (some ⟨g, o, none⟩) l.length c) (.int .i64 (i : Int)) = some (.pointer (some ⟨g, o + i * 19, none⟩)) := by rw [idxS_blk (by omega) (by omega), Int.toNat_natCast]
    have hri : ro W0 g (o + i * 19) [.int .i64 l[i].op, .int .i64 (l[i].i.d).rep, .int .i64 (l[i].i.d).n, .int .i64 l[i].i.s, .int .i64 (l[i].i.v).x0, .int .i64 (l[i].i.v).x1, .int .i64 (l[i].i.v).x2, .int .i64 (l[i].i.v).x3, .int .i64 (l[i].i.v).x4, .int .i64 (l[i].i.v).x5, .int .i64 (l[i].i.v).x6, .int .i64 (l[i].v).x0, .int .i64 (l[i].v).x1, .int .i64 (l[i].v).x2, .int .i64 (l[i].v).x3, .int .i64 (l[i].v).x4, .int .i64 (l[i].v).x5, .int .i64 (l[i].v).x6, l[i].b.v] := Rd.row (A := AXL) (l := l) (St.start W0) hib
    have hnext : mat d l[i] = false → ∀ j (hj : j < l.length), j < i + 1 → mat d l[j] = false := fun hm j hj hji => by
      by_cases e : j = i
      · subst e; exact hm
      · exact hno j hj (by omega)
    have hfound : mat d l[i] = true → waitedO l d v = (leV l[i].v v || !firstO l[i]) := fun hm => by
      have : l.find? (mat d) = some l[i] := by
        rw [List.find?_eq_some_iff_getElem]
        exact ⟨hm, i, hib, rfl, fun j hj => by rw [hno j (by omega) hj]; rfl⟩
      unfold waitedO; rw [this]
    have hK3 := fun W' (hm : mat d l[i] = false) (h : St W0 (cells b [.int .i64 v.x0, .int .i64 v.x1, .int .i64 v.x2, .int .i64 v.x3, .int .i64 v.x4, .int .i64 v.x5, .int .i64 v.x6] T_vec_Vec :: L) W') => hK () W' hib ⟨hnext hm, h⟩
    have hri1 : ro W0 g (o + i * 19 + 1) [.int .i64 (l[i].i.d).rep, .int .i64 (l[i].i.d).n, .int .i64 l[i].i.s, .int .i64 (l[i].i.v).x0, .int .i64 (l[i].i.v).x1, .int .i64 (l[i].i.v).x2, .int .i64 (l[i].i.v).x3, .int .i64 (l[i].i.v).x4, .int .i64 (l[i].i.v).x5, .int .i64 (l[i].i.v).x6, .int .i64 (l[i].v).x0, .int .i64 (l[i].v).x1, .int .i64 (l[i].v).x2, .int .i64 (l[i].v).x3, .int .i64 (l[i].v).x4, .int .i64 (l[i].v).x5, .int .i64 (l[i].v).x6, l[i].b.v] := ro_drop hri 1
    generalize l[i] = x at *
    by_cases c1 : x.op = 0
    · by_cases c2 : x.i.d.rep = d.rep
      · by_cases c3 : x.i.d.n = d.n
        · have hde : x.i.d = d := by
            show (⟨x.i.d.rep, x.i.d.n⟩ : Dot) = ⟨d.rep, d.n⟩
            rw [c2, c3]
          cases c4 : goodV x.v with
          | true =>
            have c4' := goodV_eta c4
            by_cases c5 : (x.b.bs.length : Int) ≤ 65536
            · have hm : mat d x = true := by unfold mat; rw [decide_eq_true c1, decide_eq_true hde, c4, decide_eq_true (by omega)]; rfl
              rw [hfound hm] at hk
              (repeat (first | (first | (with_reducible (first | refine w1 fun _ _ => ?_ | refine w3 fun _ _ _ => ?_ | refine w4 fun _ _ _ => ?_ | refine w11 fun _ _ _ => ?_ | refine stb_n ?_)) | ((with_reducible refine w2 ?_); try simp -implicitDefEqProofs only [EN, lsub, lget, stL, beq_self_eq_true, ne_eq, if_true, if_false, List.cons_append, List.nil_append, Option.isNone_some, Option.isNone_none, hlt, ei, c1, c2, c3, c4', c5]; intro _ _) | ((with_reducible (first | refine w5 ?_ ?_ | refine w6 ?_ ?_ | refine w7 ?_ ?_)); simp; refine ⟨_, rfl, ?_⟩) | ((with_reducible (first | refine w8 ?_ ?_ ?_ | refine w9 ?_ ?_ ?_ | refine w10 ?_ ?_ ?_)); exact rfl; simp) | ((with_reducible refine w12 ?_ ?_ ?_ fun _ _ => ?_); simp; simp; simp [oneC]) | ((with_reducible (first | refine eqs ?_ | refine nes ?_)); refine ⟨_, rfl, ?_⟩) | ((refine okF_i (bldP_eq rfl) ?_); try simp only [BLS, List.take_succ_cons, List.take_zero, List.drop_succ_cons, List.drop_zero, List.cons_append, List.nil_append, Nat.reduceAdd])) | simp -implicitDefEqProofs only [EN, lsub, lget, stL, beq_self_eq_true, ne_eq, if_true, if_false, List.cons_append, List.nil_append, Option.isNone_some, Option.isNone_none, hlt, ei, c1, c2, c3, c4', c5]))
              cases hle : leV x.v v with
              | true =>
                have hle' := leV_eta hle
                rw [hle, Bool.true_or] at hk
                (repeat (first | (first | (with_reducible (first | refine w1 fun _ _ => ?_ | refine w3 fun _ _ _ => ?_ | refine w4 fun _ _ _ => ?_ | refine w11 fun _ _ _ => ?_ | refine stb_n ?_)) | ((with_reducible refine w2 ?_); try simp -implicitDefEqProofs only [EN, lsub, lget, stL, beq_self_eq_true, ne_eq, if_true, if_false, List.cons_append, List.nil_append, Option.isNone_some, Option.isNone_none, hle']; intro _ _) | ((with_reducible (first | refine w5 ?_ ?_ | refine w6 ?_ ?_ | refine w7 ?_ ?_)); simp; refine ⟨_, rfl, ?_⟩) | ((with_reducible (first | refine w8 ?_ ?_ ?_ | refine w9 ?_ ?_ ?_ | refine w10 ?_ ?_ ?_)); exact rfl; simp) | ((with_reducible refine w12 ?_ ?_ ?_ fun _ _ => ?_); simp; simp; simp [oneC]) | ((with_reducible (first | refine eqs ?_ | refine nes ?_)); refine ⟨_, rfl, ?_⟩) | ((refine okF_i (bldP_eq rfl) ?_); try simp only [BLS, List.take_succ_cons, List.take_zero, List.drop_succ_cons, List.drop_zero, List.cons_append, List.nil_append, Nat.reduceAdd])) | simp -implicitDefEqProofs only [EN, lsub, lget, stL, beq_self_eq_true, ne_eq, if_true, if_false, List.cons_append, List.nil_append, Option.isNone_some, Option.isNone_none, hle']))
                exact hk _ (St.drop (by first | assumption | exact St.tick (by assumption) | exact St.tick (St.tick (by assumption))))
              | false =>
                have hle' := leV_eta hle
                rw [hle, Bool.false_or] at hk
                (repeat (first | (first | (with_reducible (first | refine w1 fun _ _ => ?_ | refine w3 fun _ _ _ => ?_ | refine w4 fun _ _ _ => ?_ | refine w11 fun _ _ _ => ?_ | refine stb_n ?_)) | ((with_reducible refine w2 ?_); try simp -implicitDefEqProofs only [EN, lsub, lget, stL, beq_self_eq_true, ne_eq, if_true, if_false, List.cons_append, List.nil_append, Option.isNone_some, Option.isNone_none, hle', ei]; intro _ _) | ((with_reducible (first | refine w5 ?_ ?_ | refine w6 ?_ ?_ | refine w7 ?_ ?_)); simp; refine ⟨_, rfl, ?_⟩) | ((with_reducible (first | refine w8 ?_ ?_ ?_ | refine w9 ?_ ?_ ?_ | refine w10 ?_ ?_ ?_)); exact rfl; simp) | ((with_reducible refine w12 ?_ ?_ ?_ fun _ _ => ?_); simp; simp; simp [oneC]) | ((with_reducible (first | refine eqs ?_ | refine nes ?_)); refine ⟨_, rfl, ?_⟩) | ((refine okF_i (bldP_eq rfl) ?_); try simp only [BLS, List.take_succ_cons, List.take_zero, List.drop_succ_cons, List.drop_zero, List.cons_append, List.nil_append, Nat.reduceAdd])) | simp -implicitDefEqProofs only [EN, lsub, lget, stL, beq_self_eq_true, ne_eq, if_true, if_false, List.cons_append, List.nil_append, Option.isNone_some, Option.isNone_none, hle', ei]))
                refine lawFirst (x := x) (by first | assumption | exact St.tick (by assumption) | exact St.tick (St.tick (by assumption))) fun W5 h => ?_
                (repeat (first | (first | (with_reducible (first | refine w1 fun _ _ => ?_ | refine w3 fun _ _ _ => ?_ | refine w4 fun _ _ _ => ?_ | refine w11 fun _ _ _ => ?_ | refine stb_n ?_)) | ((with_reducible refine w2 ?_); try simp -implicitDefEqProofs only [EN, lsub, lget, stL, beq_self_eq_true, ne_eq, if_true, if_false, List.cons_append, List.nil_append, Option.isNone_some, Option.isNone_none]; intro _ _) | ((with_reducible (first | refine w5 ?_ ?_ | refine w6 ?_ ?_ | refine w7 ?_ ?_)); simp; refine ⟨_, rfl, ?_⟩) | ((with_reducible (first | refine w8 ?_ ?_ ?_ | refine w9 ?_ ?_ ?_ | refine w10 ?_ ?_ ?_)); exact rfl; simp) | ((with_reducible refine w12 ?_ ?_ ?_ fun _ _ => ?_); simp; simp; simp [oneC]) | ((with_reducible (first | refine eqs ?_ | refine nes ?_)); refine ⟨_, rfl, ?_⟩) | ((refine okF_i (bldP_eq rfl) ?_); try simp only [BLS, List.take_succ_cons, List.take_zero, List.drop_succ_cons, List.drop_zero, List.cons_append, List.nil_append, Nat.reduceAdd])) | simp -implicitDefEqProofs only [EN, lsub, lget, stL, beq_self_eq_true, ne_eq, if_true, if_false, List.cons_append, List.nil_append, Option.isNone_some, Option.isNone_none]))
                exact hk _ (St.drop (by first | assumption | exact St.tick (by assumption) | exact St.tick (St.tick (by assumption))))
            · have hm : mat d x = false := by unfold mat; rw [decide_eq_false (show ¬ x.b.bs.length ≤ 65536 by omega), Bool.and_false]
              (repeat (first | (first | (with_reducible (first | refine w1 fun _ _ => ?_ | refine w3 fun _ _ _ => ?_ | refine w4 fun _ _ _ => ?_ | refine w11 fun _ _ _ => ?_ | refine stb_n ?_)) | ((with_reducible refine w2 ?_); try simp -implicitDefEqProofs only [EN, lsub, lget, stL, beq_self_eq_true, ne_eq, if_true, if_false, List.cons_append, List.nil_append, Option.isNone_some, Option.isNone_none, hlt, ei, c1, c2, c3, c4', c5, ew]; intro _ _) | ((with_reducible (first | refine w5 ?_ ?_ | refine w6 ?_ ?_ | refine w7 ?_ ?_)); simp; refine ⟨_, rfl, ?_⟩) | ((with_reducible (first | refine w8 ?_ ?_ ?_ | refine w9 ?_ ?_ ?_ | refine w10 ?_ ?_ ?_)); exact rfl; simp) | ((with_reducible refine w12 ?_ ?_ ?_ fun _ _ => ?_); simp; simp; simp [oneC]) | ((with_reducible (first | refine eqs ?_ | refine nes ?_)); refine ⟨_, rfl, ?_⟩) | ((refine okF_i (bldP_eq rfl) ?_); try simp only [BLS, List.take_succ_cons, List.take_zero, List.drop_succ_cons, List.drop_zero, List.cons_append, List.nil_append, Nat.reduceAdd])) | simp -implicitDefEqProofs only [EN, lsub, lget, stL, beq_self_eq_true, ne_eq, if_true, if_false, List.cons_append, List.nil_append, Option.isNone_some, Option.isNone_none, hlt, ei, c1, c2, c3, c4', c5, ew]))
              exact hK3 _ hm (by first | assumption | exact St.tick (by assumption) | exact St.tick (St.tick (by assumption)))
          | false =>
            have c4' := goodV_eta c4
            have hm : mat d x = false := by unfold mat; rw [c4, Bool.and_false, Bool.false_and]
            (repeat (first | (first | (with_reducible (first | refine w1 fun _ _ => ?_ | refine w3 fun _ _ _ => ?_ | refine w4 fun _ _ _ => ?_ | refine w11 fun _ _ _ => ?_ | refine stb_n ?_)) | ((with_reducible refine w2 ?_); try simp -implicitDefEqProofs only [EN, lsub, lget, stL, beq_self_eq_true, ne_eq, if_true, if_false, List.cons_append, List.nil_append, Option.isNone_some, Option.isNone_none, hlt, ei, c1, c2, c3, c4', ew]; intro _ _) | ((with_reducible (first | refine w5 ?_ ?_ | refine w6 ?_ ?_ | refine w7 ?_ ?_)); simp; refine ⟨_, rfl, ?_⟩) | ((with_reducible (first | refine w8 ?_ ?_ ?_ | refine w9 ?_ ?_ ?_ | refine w10 ?_ ?_ ?_)); exact rfl; simp) | ((with_reducible refine w12 ?_ ?_ ?_ fun _ _ => ?_); simp; simp; simp [oneC]) | ((with_reducible (first | refine eqs ?_ | refine nes ?_)); refine ⟨_, rfl, ?_⟩) | ((refine okF_i (bldP_eq rfl) ?_); try simp only [BLS, List.take_succ_cons, List.take_zero, List.drop_succ_cons, List.drop_zero, List.cons_append, List.nil_append, Nat.reduceAdd])) | simp -implicitDefEqProofs only [EN, lsub, lget, stL, beq_self_eq_true, ne_eq, if_true, if_false, List.cons_append, List.nil_append, Option.isNone_some, Option.isNone_none, hlt, ei, c1, c2, c3, c4', ew]))
            exact hK3 _ hm (by first | assumption | exact St.tick (by assumption) | exact St.tick (St.tick (by assumption)))
        · have hm : mat d x = false := by unfold mat; rw [decide_eq_false (show ¬ x.i.d = d by intro e; rw [e] at c3; exact c3 rfl), Bool.and_false, Bool.false_and, Bool.false_and]
          (repeat (first | (first | (with_reducible (first | refine w1 fun _ _ => ?_ | refine w3 fun _ _ _ => ?_ | refine w4 fun _ _ _ => ?_ | refine w11 fun _ _ _ => ?_ | refine stb_n ?_)) | ((with_reducible refine w2 ?_); try simp -implicitDefEqProofs only [EN, lsub, lget, stL, beq_self_eq_true, ne_eq, if_true, if_false, List.cons_append, List.nil_append, Option.isNone_some, Option.isNone_none, hlt, ei, c1, c2, c3, ew]; intro _ _) | ((with_reducible (first | refine w5 ?_ ?_ | refine w6 ?_ ?_ | refine w7 ?_ ?_)); simp; refine ⟨_, rfl, ?_⟩) | ((with_reducible (first | refine w8 ?_ ?_ ?_ | refine w9 ?_ ?_ ?_ | refine w10 ?_ ?_ ?_)); exact rfl; simp) | ((with_reducible refine w12 ?_ ?_ ?_ fun _ _ => ?_); simp; simp; simp [oneC]) | ((with_reducible (first | refine eqs ?_ | refine nes ?_)); refine ⟨_, rfl, ?_⟩) | ((refine okF_i (bldP_eq rfl) ?_); try simp only [BLS, List.take_succ_cons, List.take_zero, List.drop_succ_cons, List.drop_zero, List.cons_append, List.nil_append, Nat.reduceAdd])) | simp -implicitDefEqProofs only [EN, lsub, lget, stL, beq_self_eq_true, ne_eq, if_true, if_false, List.cons_append, List.nil_append, Option.isNone_some, Option.isNone_none, hlt, ei, c1, c2, c3, ew]))
          exact hK3 _ hm (by first | assumption | exact St.tick (by assumption) | exact St.tick (St.tick (by assumption)))
      · have hm : mat d x = false := by unfold mat; rw [decide_eq_false (show ¬ x.i.d = d by intro e; rw [e] at c2; exact c2 rfl), Bool.and_false, Bool.false_and, Bool.false_and]
        (repeat (first | (first | (with_reducible (first | refine w1 fun _ _ => ?_ | refine w3 fun _ _ _ => ?_ | refine w4 fun _ _ _ => ?_ | refine w11 fun _ _ _ => ?_ | refine stb_n ?_)) | ((with_reducible refine w2 ?_); try simp -implicitDefEqProofs only [EN, lsub, lget, stL, beq_self_eq_true, ne_eq, if_true, if_false, List.cons_append, List.nil_append, Option.isNone_some, Option.isNone_none, hlt, ei, c1, c2, ew]; intro _ _) | ((with_reducible (first | refine w5 ?_ ?_ | refine w6 ?_ ?_ | refine w7 ?_ ?_)); simp; refine ⟨_, rfl, ?_⟩) | ((with_reducible (first | refine w8 ?_ ?_ ?_ | refine w9 ?_ ?_ ?_ | refine w10 ?_ ?_ ?_)); exact rfl; simp) | ((with_reducible refine w12 ?_ ?_ ?_ fun _ _ => ?_); simp; simp; simp [oneC]) | ((with_reducible (first | refine eqs ?_ | refine nes ?_)); refine ⟨_, rfl, ?_⟩) | ((refine okF_i (bldP_eq rfl) ?_); try simp only [BLS, List.take_succ_cons, List.take_zero, List.drop_succ_cons, List.drop_zero, List.cons_append, List.nil_append, Nat.reduceAdd])) | simp -implicitDefEqProofs only [EN, lsub, lget, stL, beq_self_eq_true, ne_eq, if_true, if_false, List.cons_append, List.nil_append, Option.isNone_some, Option.isNone_none, hlt, ei, c1, c2, ew]))
        exact hK3 _ hm (by first | assumption | exact St.tick (by assumption) | exact St.tick (St.tick (by assumption)))
    · have hm : mat d x = false := by unfold mat; rw [decide_eq_false c1]; rfl
      (repeat (first | (first | (with_reducible (first | refine w1 fun _ _ => ?_ | refine w3 fun _ _ _ => ?_ | refine w4 fun _ _ _ => ?_ | refine w11 fun _ _ _ => ?_ | refine stb_n ?_)) | ((with_reducible refine w2 ?_); try simp -implicitDefEqProofs only [EN, lsub, lget, stL, beq_self_eq_true, ne_eq, if_true, if_false, List.cons_append, List.nil_append, Option.isNone_some, Option.isNone_none, hlt, ei, c1, ew]; intro _ _) | ((with_reducible (first | refine w5 ?_ ?_ | refine w6 ?_ ?_ | refine w7 ?_ ?_)); simp; refine ⟨_, rfl, ?_⟩) | ((with_reducible (first | refine w8 ?_ ?_ ?_ | refine w9 ?_ ?_ ?_ | refine w10 ?_ ?_ ?_)); exact rfl; simp) | ((with_reducible refine w12 ?_ ?_ ?_ fun _ _ => ?_); simp; simp; simp [oneC]) | ((with_reducible (first | refine eqs ?_ | refine nes ?_)); refine ⟨_, rfl, ?_⟩) | ((refine okF_i (bldP_eq rfl) ?_); try simp only [BLS, List.take_succ_cons, List.take_zero, List.drop_succ_cons, List.drop_zero, List.cons_append, List.nil_append, Nat.reduceAdd])) | simp -implicitDefEqProofs only [EN, lsub, lget, stL, beq_self_eq_true, ne_eq, if_true, if_false, List.cons_append, List.nil_append, Option.isNone_some, Option.isNone_none, hlt, ei, c1, ew]))
      exact hK3 _ hm (by first | assumption | exact St.tick (by assumption) | exact St.tick (St.tick (by assumption)))
  · have hf : waitedO l d v = false := by
      have : l.find? (mat d) = none := List.find?_eq_none.2 fun x hx => by
        obtain ⟨j, hj, rfl⟩ := List.getElem_of_mem hx
        rw [hno j hj (by omega)]; simp
      unfold waitedO; rw [this]
    rw [hf] at hk
    (repeat (first | (first | (with_reducible (first | refine w1 fun _ _ => ?_ | refine w3 fun _ _ _ => ?_ | refine w4 fun _ _ _ => ?_ | refine w11 fun _ _ _ => ?_ | refine stb_n ?_)) | ((with_reducible refine w2 ?_); try simp -implicitDefEqProofs only [EN, lsub, lget, stL, beq_self_eq_true, ne_eq, if_true, if_false, List.cons_append, List.nil_append, Option.isNone_some, Option.isNone_none, hlt]; intro _ _) | ((with_reducible (first | refine w5 ?_ ?_ | refine w6 ?_ ?_ | refine w7 ?_ ?_)); simp; refine ⟨_, rfl, ?_⟩) | ((with_reducible (first | refine w8 ?_ ?_ ?_ | refine w9 ?_ ?_ ?_ | refine w10 ?_ ?_ ?_)); exact rfl; simp) | ((with_reducible refine w12 ?_ ?_ ?_ fun _ _ => ?_); simp; simp; simp [oneC]) | ((with_reducible (first | refine eqs ?_ | refine nes ?_)); refine ⟨_, rfl, ?_⟩) | ((refine okF_i (bldP_eq rfl) ?_); try simp only [BLS, List.take_succ_cons, List.take_zero, List.drop_succ_cons, List.drop_zero, List.cons_append, List.nil_append, Nat.reduceAdd])) | simp -implicitDefEqProofs only [EN, lsub, lget, stL, beq_self_eq_true, ne_eq, if_true, if_false, List.cons_append, List.nil_append, Option.isNone_some, Option.isNone_none, hlt]))
    exact hk _ (St.drop (by first | assumption | exact St.tick (by assumption) | exact St.tick (St.tick (by assumption))))
end
end Go.Proofs.Ytkjhccpanedccaa
