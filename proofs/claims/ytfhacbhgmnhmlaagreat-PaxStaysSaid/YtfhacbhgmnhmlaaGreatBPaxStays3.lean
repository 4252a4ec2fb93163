/- Texts of the claim PaxStays, joined: CBal, Mp, Mp2, Mp3, PInst, TypM, ShVec, ShInst, ShPack, CBytes, CInst, V70, Srt, ShSlI, DelFI. -/
import Derived.Test.YtfhacbhgmnhmlaaGreatBPaxStays2
import Derived.Maps.Keyed
import Derived.Maps.RangeRun
import Derived.Carry
import Derived.Test.YtfhacbhgmnhmlaaGreatBPaxStays1
import Derived.Shelf.SlSortCmp.NoneTotal
namespace Go.Proofs.YtfhacbhgmnhmlaaGreat
set_option linter.unusedVariables false
set_option linter.unusedSimpArgs false
open Go Go.Eng
def goodB (n r : Int) : Bool := decide (0 ≤ n ∧ n ≤ 1099511627776 ∧ 0 ≤ r ∧ r < 7)
def cmpB (n r n' r' : Int) : Int := orI [cmpI n n', cmpI r r']
@[reducible] def bv (n r : Int) : Value := .agg #[.int .i64 n, .int .i64 r]
def nextB (n r w : Int) : (Int × Int) × Int := if goodB n r = true ∧ 0 ≤ w ∧ w < 7 then (if n = 1099511627776 then ((0, 0), 2) else ((n + 1, w), 0)) else ((0, 0), 1)
section
variable {W0 W : World} {L L' : List Asn}
instance balRep (a : Int) : Pure0 PR F_ballot_rep [.int .i64 a] (.bool (decide (0 ≤ a ∧ a < 7))) := ⟨fun W => by
 apply S.ballot_rep.call
 delta S.ballot_rep.body oK oA rD lD eF eU sT cL vC gD gX gP gA gR gL gE gU gC gV hL sB nI
 have h := St.start W
 (repeat' (first | (first | ((with_reducible first | refine w1 ?_ | refine w3 ?_ | refine w4 ?_ | refine w11 ?_ | refine stb_n ?_); intros) | ((with_reducible first | refine v5 ?_ | refine v6 ?_ | refine v7 ?_ | refine ve ?_ | refine vn ?_); refine ⟨_, rfl, ?_⟩) | ((with_reducible first | refine v8 ?_ ?_ | refine v9 ?_ ?_ | refine v10 ?_ ?_ | refine v12 ?_ ?_); exact rfl; intros) | ((with_reducible refine w2 ?_); try simp -implicitDefEqProofs only [SE, SU, SV]; intros) | ((with_reducible refine w5 ?_ ?_); simp; refine ⟨_, rfl, ?_⟩) | ((with_reducible refine w8 ?_ ?_ ?_); exact rfl; simp; intros) | ((with_reducible refine w12 ?_ ?_ ?_ ?_); simp; simp; simp [oneC]; intros) | (refine okF_i (bldP_eq rfl) ?_; try simp only [BLS, SB, Nat.reduceAdd])) | simp -implicitDefEqProofs only [SE, SU, SV] | ((first | refine ifK_b (fun hb => ?_) (fun hb => ?_) | refine gdK_b (fun hb => ?_) (fun hb => ?_)) <;> (try simp only [Bool.not_eq_true', Bool.not_eq_false'] at hb) <;> (try rw [hb]) <;> (first | replace hb := of_decide_eq_true hb | replace hb := of_decide_eq_false hb | (simp only [Bool.and_eq_true, Bool.and_eq_false_iff, Bool.or_eq_true, Bool.or_eq_false_iff, decide_eq_true_eq, decide_eq_false_iff_not, Bool.not_eq_true', Bool.not_eq_false'] at hb) | skip))))
 all_goals (refine ⟨?_, h⟩; congr 1; (first | rfl | (rw [decide_eq_decide]; omega) | (symm; rw [decide_eq_true_eq]; omega) | (symm; rw [decide_eq_false_iff_not]; omega) | (simp; omega)))⟩
instance balGood (n r : Int) : Pure0 PR F_ballot_Good [bv n r] (.bool (goodB n r)) := ⟨fun W => by
 apply S.ballot_Good.call
 delta S.ballot_Good.body oK oA rD lD eF eU sT cL vC gD gX gP gA gR gL gE gU gC gV hL sB nI
 have h := St.start W
 unfold bv
 (repeat' (first | (first | ((with_reducible first | refine w1 ?_ | refine w3 ?_ | refine w4 ?_ | refine w11 ?_ | refine stb_n ?_); intros) | ((with_reducible first | refine v5 ?_ | refine v6 ?_ | refine v7 ?_ | refine ve ?_ | refine vn ?_); refine ⟨_, rfl, ?_⟩) | ((with_reducible first | refine v8 ?_ ?_ | refine v9 ?_ ?_ | refine v10 ?_ ?_ | refine v12 ?_ ?_); exact rfl; intros) | ((with_reducible refine w2 ?_); try simp -implicitDefEqProofs only [SE, SU, SV]; intros) | ((with_reducible refine w5 ?_ ?_); simp; refine ⟨_, rfl, ?_⟩) | ((with_reducible refine w8 ?_ ?_ ?_); exact rfl; simp; intros) | ((with_reducible refine w12 ?_ ?_ ?_ ?_); simp; simp; simp [oneC]; intros) | (refine okF_i (bldP_eq rfl) ?_; try simp only [BLS, SB, Nat.reduceAdd])) | simp -implicitDefEqProofs only [SE, SU, SV] | ((first | refine ifK_b (fun hb => ?_) (fun hb => ?_) | refine gdK_b (fun hb => ?_) (fun hb => ?_)) <;> (try simp only [Bool.not_eq_true', Bool.not_eq_false'] at hb) <;> (try rw [hb]) <;> (first | replace hb := of_decide_eq_true hb | replace hb := of_decide_eq_false hb | (simp only [Bool.and_eq_true, Bool.and_eq_false_iff, Bool.or_eq_true, Bool.or_eq_false_iff, decide_eq_true_eq, decide_eq_false_iff_not, Bool.not_eq_true', Bool.not_eq_false'] at hb) | skip))))
 all_goals (refine ⟨?_, St.nil (by assumption)⟩; congr 1; unfold goodB; (first | rfl | (rw [decide_eq_decide]; omega) | (symm; rw [decide_eq_true_eq]; omega) | (symm; rw [decide_eq_false_iff_not]; omega) | (simp; omega)))⟩
instance balCmp (n r n' r' : Int) : Pure0 PR F_ballot_Cmp [bv n r, bv n' r'] (.int .i64 (cmpB n r n' r')) := ⟨fun W => by
 apply S.ballot_Cmp.call
 delta S.ballot_Cmp.body oK oA rD lD eF eU sT cL vC gD gX gP gA gR gL gE gU gC gV hL sB nI
 have h := St.start W
 unfold bv
 (repeat (first | ((with_reducible first | refine w1 ?_ | refine w3 ?_ | refine stb_n ?_); intros) | ((with_reducible refine v5 ?_); refine ⟨_, rfl, ?_⟩) | ((with_reducible refine v8 ?_ ?_); exact rfl; intros) | simp -implicitDefEqProofs only [SE, SU, SV]))
 refine or2 (by assumption) fun _ _ => ⟨rfl, St.nil (by assumption)⟩⟩
instance balFirst (r : Int) : Pure0 PR F_ballot_First [.int .i64 r] (bv 0 r) := ⟨fun W => by
 apply S.ballot_First.call
 delta S.ballot_First.body oK oA rD lD eF eU sT cL vC gD gX gP gA gR gL gE gU gC gV hL sB nI
 have h := St.start W
 (repeat (first | ((with_reducible refine w11 ?_); intros) | ((with_reducible refine v5 ?_); refine ⟨_, rfl, ?_⟩) | ((with_reducible refine v12 ?_ ?_); exact rfl; intros) | ((with_reducible refine w5 ?_ ?_); simp; refine ⟨_, rfl, ?_⟩) | ((with_reducible refine w12 ?_ ?_ ?_ ?_); simp; simp; simp [oneC]; intros) | (refine okF_i (bldP_eq rfl) ?_; try simp only [BLS, SB, Nat.reduceAdd]) | simp -implicitDefEqProofs only [SE, SU, SV]))
 exact St.nil (by assumption)⟩
instance balNext (n r w : Int) : Pure0 PR F_ballot_Next [bv n r, .int .i64 w] (.tuple #[bv (nextB n r w).1.1 (nextB n r w).1.2, .int .i64 (nextB n r w).2]) := ⟨fun W => by
 apply S.ballot_Next.call
 delta S.ballot_Next.body oK oA rD lD eF eU sT cL vC gD gX gP gA gR gL gE gU gC gV hL sB nI
 have h := St.start W
 cases hg : goodB n r with
 | false =>
  have er : nextB n r w = ((0, 0), 1) := by unfold nextB; rw [hg, if_neg (by simp)]
  (repeat' (first | (first | ((with_reducible first | refine w1 ?_ | refine w3 ?_ | refine w4 ?_ | refine w11 ?_ | refine stb_n ?_); intros) | ((with_reducible first | refine v5 ?_ | refine v6 ?_ | refine v7 ?_ | refine ve ?_ | refine vn ?_); refine ⟨_, rfl, ?_⟩) | ((with_reducible first | refine v8 ?_ ?_ | refine v9 ?_ ?_ | refine v10 ?_ ?_ | refine v12 ?_ ?_); exact rfl; intros) | ((with_reducible refine w2 ?_); try simp -implicitDefEqProofs only [SE, SU, SV, hg, bv, er]; intros) | ((with_reducible refine w5 ?_ ?_); simp; refine ⟨_, rfl, ?_⟩) | ((with_reducible refine w8 ?_ ?_ ?_); exact rfl; simp; intros) | ((with_reducible refine w12 ?_ ?_ ?_ ?_); simp; simp; simp [oneC]; intros) | (refine okF_i (bldP_eq rfl) ?_; try simp only [BLS, SB, Nat.reduceAdd])) | simp -implicitDefEqProofs only [SE, SU, SV, hg, bv, er] | ((first | refine ifK_b (fun hb => ?_) (fun hb => ?_) | refine gdK_b (fun hb => ?_) (fun hb => ?_)) <;> (try simp only [Bool.not_eq_true', Bool.not_eq_false'] at hb) <;> (try rw [hb]) <;> (first | replace hb := of_decide_eq_true hb | replace hb := of_decide_eq_false hb | (simp only [Bool.and_eq_true, Bool.and_eq_false_iff, Bool.or_eq_true, Bool.or_eq_false_iff, decide_eq_true_eq, decide_eq_false_iff_not, Bool.not_eq_true', Bool.not_eq_false'] at hb) | skip))))
  all_goals exact St.nil (by assumption)
 | true =>
  by_cases hw : 0 ≤ w ∧ w < 7
  ·have e0 := decide_eq_true hw
   by_cases hn2 : n = 1099511627776
   ·have e1 := decide_eq_true hn2
    have er : nextB n r w = ((0, 0), 2) := by unfold nextB; rw [hg, if_pos ⟨rfl, hw⟩, if_pos hn2]
    (repeat' (first | (first | ((with_reducible first | refine w1 ?_ | refine w3 ?_ | refine w4 ?_ | refine w11 ?_ | refine stb_n ?_); intros) | ((with_reducible first | refine v5 ?_ | refine v6 ?_ | refine v7 ?_ | refine ve ?_ | refine vn ?_); refine ⟨_, rfl, ?_⟩) | ((with_reducible first | refine v8 ?_ ?_ | refine v9 ?_ ?_ | refine v10 ?_ ?_ | refine v12 ?_ ?_); exact rfl; intros) | ((with_reducible refine w2 ?_); try simp -implicitDefEqProofs only [SE, SU, SV, hg, bv, e0, e1, er]; intros) | ((with_reducible refine w5 ?_ ?_); simp; refine ⟨_, rfl, ?_⟩) | ((with_reducible refine w8 ?_ ?_ ?_); exact rfl; simp; intros) | ((with_reducible refine w12 ?_ ?_ ?_ ?_); simp; simp; simp [oneC]; intros) | (refine okF_i (bldP_eq rfl) ?_; try simp only [BLS, SB, Nat.reduceAdd])) | simp -implicitDefEqProofs only [SE, SU, SV, hg, bv, e0, e1, er] | ((first | refine ifK_b (fun hb => ?_) (fun hb => ?_) | refine gdK_b (fun hb => ?_) (fun hb => ?_)) <;> (try simp only [Bool.not_eq_true', Bool.not_eq_false'] at hb) <;> (try rw [hb]) <;> (first | replace hb := of_decide_eq_true hb | replace hb := of_decide_eq_false hb | (simp only [Bool.and_eq_true, Bool.and_eq_false_iff, Bool.or_eq_true, Bool.or_eq_false_iff, decide_eq_true_eq, decide_eq_false_iff_not, Bool.not_eq_true', Bool.not_eq_false'] at hb) | skip))))
    all_goals exact St.nil (by assumption)
   ·have e1 := decide_eq_false hn2
    have er : nextB n r w = ((n + 1, w), 0) := by unfold nextB; rw [hg, if_pos ⟨rfl, hw⟩, if_neg hn2]
    have e2 : IntKind.i64.wrap (n + 1) = n + 1 := by unfold goodB at hg; simp at hg; rw [i64w]; omega
    (repeat' (first | (first | ((with_reducible first | refine w1 ?_ | refine w3 ?_ | refine w4 ?_ | refine w11 ?_ | refine stb_n ?_); intros) | ((with_reducible first | refine v5 ?_ | refine v6 ?_ | refine v7 ?_ | refine ve ?_ | refine vn ?_); refine ⟨_, rfl, ?_⟩) | ((with_reducible first | refine v8 ?_ ?_ | refine v9 ?_ ?_ | refine v10 ?_ ?_ | refine v12 ?_ ?_); exact rfl; intros) | ((with_reducible refine w2 ?_); try simp -implicitDefEqProofs only [SE, SU, SV, hg, bv, e0, e1, e2, er]; intros) | ((with_reducible refine w5 ?_ ?_); simp; refine ⟨_, rfl, ?_⟩) | ((with_reducible refine w8 ?_ ?_ ?_); exact rfl; simp; intros) | ((with_reducible refine w12 ?_ ?_ ?_ ?_); simp; simp; simp [oneC]; intros) | (refine okF_i (bldP_eq rfl) ?_; try simp only [BLS, SB, Nat.reduceAdd])) | simp -implicitDefEqProofs only [SE, SU, SV, hg, bv, e0, e1, e2, er] | ((first | refine ifK_b (fun hb => ?_) (fun hb => ?_) | refine gdK_b (fun hb => ?_) (fun hb => ?_)) <;> (try simp only [Bool.not_eq_true', Bool.not_eq_false'] at hb) <;> (try rw [hb]) <;> (first | replace hb := of_decide_eq_true hb | replace hb := of_decide_eq_false hb | (simp only [Bool.and_eq_true, Bool.and_eq_false_iff, Bool.or_eq_true, Bool.or_eq_false_iff, decide_eq_true_eq, decide_eq_false_iff_not, Bool.not_eq_true', Bool.not_eq_false'] at hb) | skip))))
    all_goals exact St.nil (by assumption)
  ·have e0 := decide_eq_false hw
   have er : nextB n r w = ((0, 0), 1) := by unfold nextB; rw [if_neg fun h => hw h.2]
   (repeat' (first | (first | ((with_reducible first | refine w1 ?_ | refine w3 ?_ | refine w4 ?_ | refine w11 ?_ | refine stb_n ?_); intros) | ((with_reducible first | refine v5 ?_ | refine v6 ?_ | refine v7 ?_ | refine ve ?_ | refine vn ?_); refine ⟨_, rfl, ?_⟩) | ((with_reducible first | refine v8 ?_ ?_ | refine v9 ?_ ?_ | refine v10 ?_ ?_ | refine v12 ?_ ?_); exact rfl; intros) | ((with_reducible refine w2 ?_); try simp -implicitDefEqProofs only [SE, SU, SV, hg, bv, e0, er]; intros) | ((with_reducible refine w5 ?_ ?_); simp; refine ⟨_, rfl, ?_⟩) | ((with_reducible refine w8 ?_ ?_ ?_); exact rfl; simp; intros) | ((with_reducible refine w12 ?_ ?_ ?_ ?_); simp; simp; simp [oneC]; intros) | (refine okF_i (bldP_eq rfl) ?_; try simp only [BLS, SB, Nat.reduceAdd])) | simp -implicitDefEqProofs only [SE, SU, SV, hg, bv, e0, er] | ((first | refine ifK_b (fun hb => ?_) (fun hb => ?_) | refine gdK_b (fun hb => ?_) (fun hb => ?_)) <;> (try simp only [Bool.not_eq_true', Bool.not_eq_false'] at hb) <;> (try rw [hb]) <;> (first | replace hb := of_decide_eq_true hb | replace hb := of_decide_eq_false hb | (simp only [Bool.and_eq_true, Bool.and_eq_false_iff, Bool.or_eq_true, Bool.or_eq_false_iff, decide_eq_true_eq, decide_eq_false_iff_not, Bool.not_eq_true', Bool.not_eq_false'] at hb) | skip))))
   all_goals exact St.nil (by assumption)⟩
def mostB (l : List (Int × Int)) : Int × Int := match l with
 | [] => (0, 0)
 | b :: r => r.foldl (fun o b => if cmpB b.1 b.2 o.1 o.2 > 0 then b else o) b
def BAL : Ly (Int × Int) := ⟨2, by omega, fun b => [.int .i64 b.1, .int .i64 b.2], fun _ => rfl, fun _ => rfl⟩
theorem balGet (b : Int × Int) : getL true (BAL.row b) 0 2 = some (bv b.1 b.2) := rfl
theorem balMost {a : Option Addr} {c : Nat} {l : List (Int × Int)} {k : Value → World → Prop} (h : St W0 L W) [hr : Rd W0 L a BAL l] (hl : l.length < 9223372036854775807) (hk : ∀ W', St W0 L W' → k (bv (mostB l).1 (mostB l).2) W') :
  callK PR F_ballot_Most [.slice a l.length c] k W := by
 apply S.ballot_Most.call
 delta S.ballot_Most.body oK oA rD lD eF eU sT cL vC gD gX gP gA gR gL gE gU gC gV hL sB nI
 (repeat (first | ((with_reducible refine w11 ?_); intros) | simp -implicitDefEqProofs only [SE, SU, SV]))
 cases l with
 | nil =>
  have e0 : decide (((([] : List (Int × Int)).length : Nat) : Int) = 0) = true := rfl
  (repeat (first | ((with_reducible refine v5 ?_); refine ⟨_, rfl, ?_⟩) | ((with_reducible refine v12 ?_ ?_); exact rfl; intros) | ((with_reducible refine w5 ?_ ?_); simp; refine ⟨_, rfl, ?_⟩) | ((with_reducible refine w12 ?_ ?_ ?_ ?_); simp; simp; simp [oneC]; intros) | (refine okF_i (bldP_eq rfl) ?_; try simp only [BLS, SB, Nat.reduceAdd]) | simp -implicitDefEqProofs only [SE, SU, SV, e0]))
  exact hk _ (St.drop (by assumption))
 | cons b r =>
  have e0 : decide ((((b :: r).length : Nat) : Int) = 0) = false := by simp only [List.length_cons, decide_eq_false_iff_not]; omega
  (repeat simp -implicitDefEqProofs only [SE, SU, SV, e0])
  refine ixA (i := 0) (l := b :: r) (A := BAL) (by assumption) rfl rfl (by simp) fun g o ha => ?_
  cases ha
  refine ldA0 (i := 0) (l := b :: r) (by assumption) rfl (by simp) (balGet _) (by simp) ?_
  simp only [List.getElem_cons_zero, bv]
  (repeat (first | ((with_reducible refine w11 ?_); intros) | ((with_reducible refine v12 ?_ ?_); exact rfl; intros) | ((with_reducible refine w12 ?_ ?_ ?_ ?_); simp; simp; simp [oneC]; intros)))
  rename_i p _ _ q W1 _ W2 h
  refine joinK_i ?_
  refine loop_c (σ := Int × Int) (b :: r).length (fun i _ => [.pointer (some ⟨p, 0, none⟩), .pointer (some ⟨q, 0, none⟩), .slice (some ⟨g, o, none⟩) (b :: r).length c, .int .i64 (b :: r).length, .int .i64 i])
   (fun i o' W => o' = ((b :: r).take i).foldl (fun o b => if cmpB b.1 b.2 o.1 o.2 > 0 then b else o) b ∧ St W0 (cells q [.int .i64 o'.1, .int .i64 o'.2] T_ballot_Ballot :: cells p [.int .i64 0, .int .i64 0] T_ballot_Ballot :: L) W)
   b rfl ⟨rfl, by assumption⟩ ?_
  rintro K i o' W3 hi ⟨ho, h⟩ hK
  simp -implicitDefEqProofs only [SE, SU, SV]
  delta S.ballot_Most.l1 oK oA rD lD eF eU sT cL vC gD gX gP gA gR gL gE gU gC gV hL sB nI
  simp -implicitDefEqProofs only [SE, SU, SV]
  refine ifK_d (fun hlt => ?_) (fun hge => ?_)
  ·have hib : i < (b :: r).length := by omega
   have hK2 : ∀ o2 W1, o2 = (if cmpB (b :: r)[i].1 (b :: r)[i].2 o'.1 o'.2 > 0 then (b :: r)[i] else o') → St W0 (cells q [.int .i64 o2.1, .int .i64 o2.2] T_ballot_Ballot :: cells p [.int .i64 0, .int .i64 0] T_ballot_Ballot :: L) W1 →
     S.ballot_Most.j2 K (.pointer (some ⟨p, 0, none⟩)) (.pointer (some ⟨q, 0, none⟩)) (.slice (some ⟨g, o, none⟩) (b :: r).length c) (.int .i64 (b :: r).length) (.int .i64 i) W1 := by
    intro o2 W1 h2 h
    delta S.ballot_Most.j2 oK oA rD lD eF eU sT cL vC gD gX gP gA gR gL gE gU gC gV hL sB nI
    simp -implicitDefEqProofs only [SE, SU, SV]
    rw [show IntKind.i64.wrap ((i : Int) + 1) = ((i + 1 : Nat) : Int) by rw [i64w]; omega]
    refine hK o2 W1 hib ⟨?_, h⟩
    rw [h2, List.take_succ_eq_append_getElem hib, List.foldl_append, ← ho]
    rfl
   refine joinK_i ?_
   simp -implicitDefEqProofs only [SE, SU, SV]
   refine ixA (i := i) (l := b :: r) (A := BAL) (by assumption) rfl rfl hib fun g' o'' ha => ?_
   cases ha
   refine ldA0 (l := b :: r) (by assumption) rfl hib (balGet _) (by simp) ?_
   generalize (b :: r)[i] = x at *
   simp only [bv]
   (repeat' (first | (first | ((with_reducible first | refine w1 ?_ | refine w3 ?_ | refine w4 ?_ | refine w11 ?_ | refine stb_n ?_); intros) | ((with_reducible first | refine v5 ?_ | refine v6 ?_ | refine v7 ?_ | refine ve ?_ | refine vn ?_); refine ⟨_, rfl, ?_⟩) | ((with_reducible first | refine v8 ?_ ?_ | refine v9 ?_ ?_ | refine v10 ?_ ?_ | refine v12 ?_ ?_); exact rfl; intros) | ((with_reducible refine w2 ?_); try simp -implicitDefEqProofs only [SE, SU, SV]; intros) | ((with_reducible refine w5 ?_ ?_); simp; refine ⟨_, rfl, ?_⟩) | ((with_reducible refine w8 ?_ ?_ ?_); exact rfl; simp; intros) | ((with_reducible refine w12 ?_ ?_ ?_ ?_); simp; simp; simp [oneC]; intros) | (refine okF_i (bldP_eq rfl) ?_; try simp only [BLS, SB, Nat.reduceAdd])) | simp -implicitDefEqProofs only [SE, SU, SV] | ((first | refine ifK_b (fun hb => ?_) (fun hb => ?_) | refine gdK_b (fun hb => ?_) (fun hb => ?_)) <;> (try simp only [Bool.not_eq_true', Bool.not_eq_false'] at hb) <;> (try rw [hb]) <;> (first | replace hb := of_decide_eq_true hb | replace hb := of_decide_eq_false hb | (simp only [Bool.and_eq_true, Bool.and_eq_false_iff, Bool.or_eq_true, Bool.or_eq_false_iff, decide_eq_true_eq, decide_eq_false_iff_not, Bool.not_eq_true', Bool.not_eq_false'] at hb) | skip))))
   ·exact hK2 x _ (by rw [if_pos (by assumption)]) (St.drop (by assumption))
   ·exact hK2 o' _ (by rw [if_neg (by assumption)]) (St.drop (by assumption))
  ·have hin : i = (b :: r).length := by omega
   subst hin
   delta S.ballot_Most.j1 oK oA rD lD eF eU sT cL vC gD gX gP gA gR gL gE gU gC gV hL sB nI
   (repeat (first | ((with_reducible refine v5 ?_); refine ⟨_, rfl, ?_⟩) | ((with_reducible refine v12 ?_ ?_); exact rfl; intros) | ((with_reducible refine w5 ?_ ?_); simp; refine ⟨_, rfl, ?_⟩) | simp -implicitDefEqProofs only [SE, SU, SV]))
   rw [List.take_length] at ho
   have e : mostB (b :: r) = o' := by
    rw [ho]
    simp only [mostB, List.foldl_cons]
    congr 1
    split <;> rfl
   rw [e] at hk
   exact hk _ (St.drop (St.drop (by assumption)))
end
end Go.Proofs.YtfhacbhgmnhmlaaGreat
namespace Go.Eng
set_option linter.unusedVariables false
set_option linter.unusedSimpArgs false
open Go Go.RowKit Go.MapKept Go.ChangeMaps
section
variable {κ β : Type} [DecidableEq κ]
def mget : List (κ × β) → κ → Option β
 | [], _ => none
 | (a, b) :: l, k => if a = k then some b else mget l k
def mput : List (κ × β) → κ → β → List (κ × β)
 | [], k, v => [(k, v)]
 | (a, b) :: l, k, v => if a = k then (k, v) :: l else (a, b) :: mput l k v
theorem mget_none {l : List (κ × β)} {k : κ} : mget l k = none ↔ ∀ p ∈ l, p.1 ≠ k := by
 induction l with
 | nil => simp [mget]
 | cons p l ih =>
  obtain ⟨a, b⟩ := p
  by_cases h : a = k
  ·simp [mget, h]
  ·simp [mget, h, ih]
theorem mput_new {l : List (κ × β)} {k : κ} {v : β} (h : ∀ p ∈ l, p.1 ≠ k) : mput l k v = l ++ [(k, v)] := by
 induction l with
 | nil => rfl
 | cons p l ih =>
  obtain ⟨a, b⟩ := p
  have h1 : a ≠ k := h (a, b) (by simp)
  simp only [mput, if_neg h1, List.cons_append, ih fun p hp => h p (by simp [hp])]
theorem mget_at {l : List (κ × β)} (hn : (l.map (·.1)).Nodup) {j : Nat} {k : κ} {v : β} (h : l[j]? = some (k, v)) : mget l k = some v := by
 induction l generalizing j with
 | nil => simp at h
 | cons p l ih =>
  obtain ⟨a, b⟩ := p
  cases j with
  | zero => simp at h; obtain ⟨rfl, rfl⟩ := h; simp [mget]
  | succ j =>
   simp only [List.getElem?_cons_succ] at h
   simp only [List.map_cons, List.nodup_cons] at hn
   have : a ≠ k := fun e => hn.1 (List.mem_map.2 ⟨(k, v), List.mem_of_getElem? h, e.symm⟩)
   simp only [mget, if_neg this]
   exact ih hn.2 h
theorem mput_at {l : List (κ × β)} (hn : (l.map (·.1)).Nodup) {j : Nat} {k : κ} {v w : β} (h : l[j]? = some (k, v)) : mput l k w = l.set j (k, w) := by
 induction l generalizing j with
 | nil => simp at h
 | cons p l ih =>
  obtain ⟨a, b⟩ := p
  cases j with
  | zero => simp at h; obtain ⟨rfl, rfl⟩ := h; simp [mput]
  | succ j =>
   simp only [List.getElem?_cons_succ] at h
   simp only [List.map_cons, List.nodup_cons] at hn
   have : a ≠ k := fun e => hn.1 (List.mem_map.2 ⟨(k, v), List.mem_of_getElem? h, e.symm⟩)
   simp only [mput, if_neg this, List.set_cons_succ, ih hn.2 h]
end
class KeyT (P : Program) (t : TypeId) {κ : Type} (K : κ → Value) : Prop where
 inj : ∀ {a b : κ}, K a = K b → a = b
 check : ∀ (w : World) (em : Bool) (k : κ), (Instr.checkKey em 10000 t (K k)).run P w = .ok () w
 find : ∀ (w : World) (k : κ) (es : List MapEntry), (∀ e ∈ es, ∃ k', e.key = K k') →
  ((Instr.findKey t (K k) es).run P w = .ok none w ∧ ∀ e ∈ es, e.key ≠ K k) ∨ ∃ j e, (Instr.findKey t (K k) es).run P w = .ok (some (j, e.val)) w ∧ es[j]? = some e ∧ e.key = K k
 stays : ∀ (w : World) (k : κ), (Instr.keyThatStays (K k) (K k)).run P w = .ok (K k) w
class MapT (P : Program) (t : TypeId) (kt : outParam TypeId) (et : outParam TypeId) : Prop where
 ok : P.underlying t = some (.map kt et)
theorem KeyT.plain {P : Program} {t : TypeId} {d : TypeDesc} {κ : Type} {K : κ → Value} (hd : P.underlying t = some d) (hk : ∀ k, IsKey d (K k)) (hi : ∀ {a b : κ}, K a = K b → a = b) : KeyT P t K where
 inj := hi
 check w em k := run_checkKey hd (hk k) em 9999
 find w k es hes := by
  have hks : ∀ y ∈ es, IsKey d y.key := fun y hy => by
   obtain ⟨l, hl⟩ := hes y hy
   rw [hl]; exact hk l
  rcases findNow_spec (hk k) es 0 hks with ⟨h1, h2⟩ | ⟨j, e0, h1, h2, h3⟩
  ·exact Or.inl ⟨run_findKey hd h1, h2⟩
  ·exact Or.inr ⟨j, e0, by simpa using run_findKey hd h1, h2, h3⟩
 stays w k := run_keyThatStays (hk k)
abbrev KI : Int → Value := fun i => .int .i64 i
abbrev KS : ByteArray → Value := .string
theorem KeyT.int {P : Program} {t : TypeId} (hd : P.underlying t = some (.int .i64)) : KeyT P t KI := .plain hd (fun _ => rfl) (fun h => by cases h; rfl)
theorem KeyT.str {P : Program} {t : TypeId} (hd : P.underlying t = some .string) : KeyT P t KS := .plain hd (fun _ => trivial) (fun h => by cases h; rfl)
def mpL {κ : Type} (K : κ → Value) (l : List (κ × Value)) (es : Array MapEntry) : Prop := es.toList.map (fun e => (e.key, e.val)) = l.map (fun p => (K p.1, p.2))
def mp {κ : Type} (K : κ → Value) (r : Nat) (l : List (κ × Value)) : Asn := fun h => ∃ x : Array MapEntry × Nat, (mpL K l x.1 ∧ Stamped x.1 x.2) ∧ blk r (.map x.1 x.2) h
section
variable {κ : Type} {K : κ → Value} {P : Program} {W0 W W' : World} {L L' : List Asn} {t kt et : TypeId} {r : Nat} {l : List (κ × Value)}
theorem St.mp (h : St W0 (mp K r l :: L) W) : ∃ es clock, mpL K l es ∧ Stamped es clock ∧ St W0 (Eng.blk r (.map es clock) :: L) W := by
 obtain ⟨⟨es, clock⟩, h⟩ := h.ex
 obtain ⟨⟨h1, h2⟩, h⟩ := h.fact
 exact ⟨es, clock, h1, h2, h⟩
theorem mp_ent {es : Array MapEntry} {clock : Nat} (h1 : mpL K l es) (h2 : Stamped es clock) : ent (blk r (.map es clock) :: L) (mp K r l :: L) := ent.weak fun _ hp => ⟨(es, clock), ⟨h1, h2⟩, hp⟩
theorem mpL_keys {es : Array MapEntry} (h : mpL K l es) : ∀ e ∈ es.toList, ∃ k', e.key = K k' := by
 intro e he
 have : (e.key, e.val) ∈ l.map (fun p => (K p.1, p.2)) := by rw [← h]; exact List.mem_map.2 ⟨e, he, rfl⟩
 obtain ⟨p, _, hp⟩ := List.mem_map.1 this
 exact ⟨p.1, (congrArg Prod.fst hp).symm⟩
theorem mpL_at {es : Array MapEntry} (h : mpL K l es) {j : Nat} {e : MapEntry} (he : es.toList[j]? = some e) : ∃ p, l[j]? = some p ∧ e.key = K p.1 ∧ e.val = p.2 := by
 have h1 := congrArg (fun x => x[j]?) h
 simp only [List.getElem?_map, he, Option.map_some] at h1
 cases hl : l[j]? with
 | none => rw [hl] at h1; cases h1
 | some p =>
  rw [hl] at h1
  simp only [Option.map_some, Option.some.injEq, Prod.mk.injEq] at h1
  exact ⟨p, rfl, h1.1, h1.2⟩
theorem mpL_nodup {es : Array MapEntry} {clock : Nat} (h : mpL K l es) (hs : Stamped es clock) : (l.map (·.1)).Nodup := by
 have h1 : es.toList.map (·.key) = l.map (fun p => K p.1) := by
  have := congrArg (List.map Prod.fst) h
  simpa [List.map_map, Function.comp_def] using this
 have h2 := hs.2.2
 rw [h1] at h2
 have h3 : ((l.map (·.1)).map K).Nodup := by simpa [List.map_map, Function.comp_def] using h2
 simp only [List.Nodup, List.pairwise_map] at h3 ⊢
 exact h3.imp fun h e => h (by rw [e])
theorem mkMap {k : Value → World → Prop} (h : St W0 L W) (hk : ∀ r W', St W0 (Eng.mp K r [] :: L) W' → k (.map (some r)) W') : efK P (Instr.makeMap t none) k W := by
 refine ⟨.map (some W.heap.size), W.alloc (.map #[] 0), run_makeMap t W, hk _ _ ?_⟩
 exact (h.alloc (.map #[] 0)).ent (mp_ent (by simp [mpL]) (stamped_empty 0))
variable [DecidableEq κ]
theorem lookup_run [hT : MapT P t kt et] [hK : KeyT P kt K] {z : Value} [hz : TyZ P et z] {a : κ} (c : Bool) (h : St W0 (Eng.mp K r l :: L) W) :
  (Instr.lookup t (.map (some r)) (K a) c).run P W = .ok (if c then .tuple #[(mget l a).getD z, .bool (mget l a).isSome] else (mget l a).getD z) W := by
 obtain ⟨es, clock, h1, h2, h3⟩ := h.mp
 have hb := h3.blk.2
 have hn := mpL_nodup h1 h2
 obtain ⟨i, hi, hz⟩ := hz.ok
 have hzr : (zeroValue et).run P W = .ok z W := by simp [zeroValue, typeInfo, hi, hz]
 rcases hK.find W a es.toList (mpL_keys h1) with ⟨h4, h5⟩ | ⟨j, e0, h4, h5, h6⟩
 ·have e1 : mget l a = none := mget_none.2 fun p hp e => by
   have : (K p.1, p.2) ∈ es.toList.map (fun e => (e.key, e.val)) := by rw [h1]; exact List.mem_map.2 ⟨p, hp, rfl⟩
   obtain ⟨x, hx, he⟩ := List.mem_map.1 this
   exact h5 x hx (by rw [← e]; exact congrArg Prod.fst he)
  rw [e1]
  simp [Instr.lookup, run_underlying hT.ok, MapKept.run_getObj_map hb, hK.check W _ a, h4, hzr, Result.andThen]
 ·obtain ⟨p, hp, hp1, hp2⟩ := mpL_at h1 h5
  have : p.1 = a := hK.inj (by rw [← hp1, h6])
  have e1 : mget l a = some e0.val := by rw [hp2]; subst this; exact mget_at hn hp
  rw [e1]
  simp [Instr.lookup, run_underlying hT.ok, MapKept.run_getObj_map hb, hK.check W _ a, h4, Result.andThen]
theorem lkp [hT : MapT P t kt et] [hK : KeyT P kt K] {z : Value} [hz : TyZ P et z] (a : κ) {k : Value → World → Prop} (h : St W0 L W) [hm : Tk (Eng.mp K r) L l L'] (hk : k ((mget l a).getD z) W) : rdK P (Instr.lookup t (.map (some r)) (K a) false) k W :=
 ⟨_, by rw [lookup_run (a := a) false (h.perm hm.perm)]; rfl, hk⟩
theorem lkpOk [hT : MapT P t kt et] [hK : KeyT P kt K] {z : Value} [hz : TyZ P et z] (a : κ) {k : Value → World → Prop} (h : St W0 L W) [hm : Tk (Eng.mp K r) L l L'] (hk : k (.tuple #[(mget l a).getD z, .bool (mget l a).isSome]) W) : rdK P (Instr.lookup t (.map (some r)) (K a) true) k W :=
 ⟨_, by rw [lookup_run (a := a) true (h.perm hm.perm)]; rfl, hk⟩
theorem stb_lkp [hT : MapT P t kt et] [hK : KeyT P kt K] {z : Value} [hz : TyZ P et z] (a : κ) {ii : Nat} {bb : Bool} {hl : List HoldV} {R : World → Prop} (h : St W0 L W) [hm : Tk (Eng.mp K r) L l L'] (hk : stb P hl R W) :
  stb P ((ii, bb, Instr.lookup t (.map (some r)) (K a) false, (mget l a).getD z) :: hl) R W := ⟨fun _ => by rw [lookup_run (a := a) false (h.perm hm.perm)]; rfl, hk⟩
theorem mset [hT : MapT P t kt et] [hK : KeyT P kt K] (a : κ) {v : Value} {k : Unit → World → Prop} (h : St W0 L W) [hm : Tk (Eng.mp K r) L l L'] (hk : ∀ W', St W0 (Eng.mp K r (mput l a v) :: L') W' → k () W') : efK P (Instr.mapUpdate t (.map (some r)) (K a) v) k W := by
 obtain ⟨es, clock, h1, h2, h3⟩ := (h.perm hm.perm).mp
 have hb := h3.blk.2
 have hn := mpL_nodup h1 h2
 rcases hK.find W a es.toList (mpL_keys h1) with ⟨h4, h5⟩ | ⟨j, e0, h4, h5, h6⟩
 ·have hne : ∀ p ∈ l, p.1 ≠ a := fun p hp e => by
   have : (K p.1, p.2) ∈ es.toList.map (fun e => (e.key, e.val)) := by rw [h1]; exact List.mem_map.2 ⟨p, hp, rfl⟩
   obtain ⟨x, hx, he⟩ := List.mem_map.1 this
   exact h5 x hx (by rw [← e]; exact congrArg Prod.fst he)
  refine ⟨(), { W with heap := W.heap.setIfInBounds r (.map (es.push ⟨K a, v, clock⟩) (clock + 1)) }, by simp [Instr.mapUpdate, run_underlying hT.ok, MapKept.run_getObj_map hb, hK.check W false a, h4, MapKept.run_setObj_map _ hb, Result.andThen], hk _ ?_⟩
  refine (h3.setBlk (.map (es.push ⟨K a, v, clock⟩) (clock + 1))).ent (mp_ent ?_ (stamped_push h2 h5))
  rw [mput_new hne]
  have h1' : _ = _ := h1
  simp only [mpL, Array.toList_push, List.map_append, h1']
  rfl
 ·obtain ⟨p, hp, hp1, hp2⟩ := mpL_at h1 h5
  have hpa : p.1 = a := hK.inj (by rw [← hp1, h6])
  have hj : es[j]? = some e0 := by simpa using h5
  refine ⟨(), { W with heap := W.heap.setIfInBounds r (.map (es.modify j fun e => { e with key := K a, val := v }) clock) }, by simp [Instr.mapUpdate, run_underlying hT.ok, MapKept.run_getObj_map hb, hK.check W false a, h4, hj, h6, hK.stays W a, MapKept.run_setObj_map _ hb, Result.andThen], hk _ ?_⟩
  refine (h3.setBlk (.map (es.modify j fun e => { e with key := K a, val := v }) clock)).ent (mp_ent ?_ (stamped_modify h2 _ _ (fun _ _ => rfl) (fun e' _ he' => by rw [hj] at he'; cases he'; exact h6.symm)))
  subst hpa
  rw [mput_at hn hp]
  have h1' : _ = _ := h1
  simp only [mpL, Array.toList_modify, modify_eq_set _ _ _ _ h5, List.map_set, h1']
end
def mpiF {κ : Type} (K : κ → Value) (l rem : List (κ × Value)) (cur : Option (κ × Value)) (es : Array MapEntry) (clock : Nat) (seen : Array Nat) : Prop :=
 mpL K l es ∧ Stamped es clock ∧ (leftOf es seen).toList.map (fun e => (e.key, e.val)) = rem.map (fun p => (K p.1, p.2)) ∧ ∀ p, cur = some p → ∃ e ∈ es.toList, ∃ seen' : Array Nat, seen = seen'.push e.born ∧ e.key = K p.1 ∧ e.val = p.2
def mpi {κ : Type} (K : κ → Value) (r b : Nat) (l rem : List (κ × Value)) (cur : Option (κ × Value)) : Asn := fun h => ∃ x : Array MapEntry × Nat × Array Nat,
 mpiF K l rem cur x.1 x.2.1 x.2.2 ∧ sep [blk r (.map x.1 x.2.1), blk b (.mapIter (some r) x.2.1 x.2.2 x.2.1)] h
class Mi (b : Nat) (L : List Asn) {κ : outParam Type} (K : outParam (κ → Value)) (r : outParam Nat) (l rem : outParam (List (κ × Value))) (cur : outParam (Option (κ × Value))) (L' : outParam (List Asn)) : Prop where
 perm : L.Perm (mpi K r b l rem cur :: L')
instance (priority := high) Mi.here (b : Nat) {κ : Type} (K : κ → Value) (r : Nat) (l rem : List (κ × Value)) (cur : Option (κ × Value)) (L : List Asn) : Mi b (mpi K r b l rem cur :: L) K r l rem cur L := ⟨.refl _⟩
instance Mi.there (b : Nat) (x : Asn) {κ : Type} (K : κ → Value) (r : Nat) (l rem : List (κ × Value)) (cur : Option (κ × Value)) (L L' : List Asn) [h : Mi b L K r l rem cur L'] : Mi b (x :: L) K r l rem cur (x :: L') := ⟨(h.perm.cons x).trans (List.Perm.swap _ _ _)⟩
section
variable {κ : Type} {K : κ → Value} {P : Program} {W0 W W' : World} {L L' : List Asn} {t kt et : TypeId} {r b : Nat} {l rem : List (κ × Value)} {cur : Option (κ × Value)}
theorem St.mpi (h : St W0 (Eng.mpi K r b l rem cur :: L) W) : ∃ es clock seen, mpiF K l rem cur es clock seen ∧ St W0 (Eng.blk r (.map es clock) :: Eng.blk b (.mapIter (some r) clock seen clock) :: L) W := by
 obtain ⟨⟨es, clock, seen⟩, h⟩ := h.ex
 obtain ⟨h1, h⟩ := h.fact
 exact ⟨es, clock, seen, h1, h.flat⟩
theorem mpi_ent {es : Array MapEntry} {clock : Nat} {seen : Array Nat} (h : mpiF K l rem cur es clock seen) : ent (Eng.blk r (.map es clock) :: Eng.blk b (.mapIter (some r) clock seen clock) :: L) (Eng.mpi K r b l rem cur :: L) :=
 (ent.pack [_, _] L).trans (ent.weak fun _ hp => ⟨(es, clock, seen), h, hp⟩)
theorem St.mpiEnd (h : St W0 (Eng.mpi K r b l rem cur :: L) W) : St W0 (Eng.mp K r l :: L) W := by
 obtain ⟨es, clock, seen, ⟨h1, h2, _⟩, h⟩ := h.mpi
 exact h.drop2.ent (mp_ent h1 h2)
theorem rangeM [hT : MapT P t kt et] {k : Value → World → Prop} (h : St W0 L W) [hm : Tk (Eng.mp K r) L l L'] (hk : ∀ b W', St W0 (Eng.mpi K r b l l none :: L') W' → k (.pointer (some ⟨b, 0, none⟩)) W') : efK P (Instr.range t (.map (some r))) k W := by
 obtain ⟨es, clock, h1, h2, h3⟩ := (h.perm hm.perm).mp
 have hb := h3.blk.2
 refine ⟨.pointer (some ⟨W.heap.size, 0, none⟩), W.alloc (.mapIter (some r) clock #[] clock), ?_, hk _ _ ?_⟩
 ·simp [Instr.range, run_underlying hT.ok, MapKept.run_getObj_map hb, Result.andThen]
 ·refine ((h3.alloc (.mapIter (some r) clock #[] clock)).ent (ent.swap _ _ _)).ent (mpi_ent ⟨h1, h2, ?_, fun p hp => by cases hp⟩)
  rw [← h1]
  simp only [leftOf, Array.toList_filter]
  rw [List.filter_eq_self.2 (by simp)]
theorem nextM {ty : TypeId} {k : Value → World → Prop} (h : St W0 L W) [hm : Mi b L K r l rem cur L'] (h0 : rem = [] → k (.tuple #[.bool false]) W)
  (h1 : ∀ pre a v post W', rem = pre ++ (a, v) :: post → St W0 (Eng.mpi K r b l (pre ++ post) (some (a, v)) :: L') W' → k (.tuple #[.bool true, K a, v]) W') : efK P (Instr.next (.pointer (some ⟨b, 0, none⟩)) false ty) k W := by
 obtain ⟨es, clock, seen, ⟨e1, e2, e3, e4⟩, h3⟩ := (h.perm hm.perm).mpi
 have hb := h3.blk.2
 have hr := (h3.ent (ent.swap _ _ _)).blk.2
 rcases run_next_at (P := P) W ty b r clock clock seen es clock hr hb e2.1 (Nat.le_refl _) with ⟨h4, h5⟩ | ⟨e, he, w1, hw1, h5⟩
 ·refine ⟨_, _, h5, h0 ?_⟩
  have : (leftOf es seen).toList = [] := by rw [Array.eq_empty_of_size_eq_zero h4]
  rw [this] at e3
  simpa using e3.symm
 ·obtain ⟨A, B, hAB⟩ := List.append_of_mem he
  rw [hAB, List.map_append, List.map_cons] at e3
  obtain ⟨pre, tl, e5, e6, e7⟩ := List.append_eq_map_iff.1 e3
  obtain ⟨p, post, e8, e9, e10⟩ := List.map_eq_cons_iff.1 e7
  subst e8
  obtain ⟨a, v⟩ := p
  simp only [Prod.mk.injEq] at e9
  refine ⟨_, _, h5, ?_⟩
  rw [← e9.1, ← e9.2]
  refine h1 pre a v post _ e5 ?_
  have h3' : St W0 (Eng.blk r (.map es clock) :: Eng.blk b (.mapIter (some r) clock seen clock) :: L') w1 := by
   rcases hw1 with rfl | rfl
   ·exact h3
   ·exact tape_drew h3
  have h6 := ((h3'.ent (ent.swap _ _ _)).setBlk (.mapIter (some r) clock (seen.push e.born) clock)).ent (ent.swap _ _ _)
  refine h6.ent (mpi_ent ⟨e1, e2, ?_, ?_⟩)
  ·rw [List.map_append, e6, e10, ← List.map_append]
   congr 1
   have hn : ((leftOf es seen).toList.map (·.born)).Nodup := by
    simp only [leftOf, Array.toList_filter]
    exact (List.Sublist.map _ (List.filter_sublist)).nodup e2.2.1
   rw [hAB] at hn
   have hl : (leftOf es (seen.push e.born)).toList = (leftOf es seen).toList.filter fun x => x.born != e.born := by
    simp only [leftOf, Array.toList_filter, List.filter_filter]
    congr 1
    funext x
    by_cases hx : x.born = e.born
    ·simp [hx]
    ·simp [hx, Ne.symm hx]
   rw [hl, hAB, List.filter_append, List.filter_cons]
   simp only [bne_self_eq_false, Bool.false_eq_true, if_false]
   simp only [List.map_append, List.map_cons, List.nodup_append, List.nodup_cons] at hn
   rw [List.filter_eq_self.2, List.filter_eq_self.2]
   ·intro x hx
    have : x.born ≠ e.born := fun h => hn.2.1.1 (List.mem_map.2 ⟨x, hx, h⟩)
    simp [this]
   ·intro x hx
    have : x.born ≠ e.born := hn.2.2 x.born (List.mem_map.2 ⟨x, hx, rfl⟩) e.born (by simp)
    simp [this]
  ·rintro p hp
   cases hp
   refine ⟨e, ?_, seen, rfl, e9.1.symm, e9.2.symm⟩
   have : e ∈ (leftOf es seen).toList := he
   simp only [leftOf, Array.toList_filter, List.mem_filter] at this
   exact this.1
theorem entryM {a : κ} {v : Value} {k : Value → World → Prop} (h : St W0 L W) [hm : Mi b L K r l rem (some (a, v)) L'] (hk : k (.tuple #[K a, v]) W) : efK P (Instr.entry (.pointer (some ⟨b, 0, none⟩))) k W := by
 obtain ⟨es, clock, seen, ⟨e1, e2, e3, e4⟩, h3⟩ := (h.perm hm.perm).mpi
 obtain ⟨e, he, seen', rfl, e5, e6⟩ := e4 _ rfl
 have hb := h3.blk.2
 have hr := (h3.ent (ent.swap _ _ _)).blk.2
 refine ⟨_, _, run_entry_at W b r clock seen' es clock e hr hb he e2.2.1, ?_⟩
 rw [e5, e6]; exact hk
end
end Go.Eng
namespace Go.Eng
set_option linter.unusedVariables false
set_option linter.unusedSimpArgs false
open Go Go.RowKit
def many {β : Type} (F : β → Asn) (l : List β) : Asn := sep (l.map F)
section
variable {κ β γ : Type} [DecidableEq κ] {F : β → Asn} {L : List Asn}
theorem mget_map (g : β → γ) (l : List (κ × β)) (a : κ) : mget (l.map fun p => (p.1, g p.2)) a = (mget l a).map g := by
 induction l with
 | nil => rfl
 | cons p l ih =>
  by_cases h : p.1 = a
  ·simp [mget, h]
  ·simp [mget, h, ih]
theorem mput_map (g : β → γ) (l : List (κ × β)) (a : κ) (b : β) : mput (l.map fun p => (p.1, g p.2)) a (g b) = (mput l a b).map fun p => (p.1, g p.2) := by
 induction l with
 | nil => rfl
 | cons p l ih =>
  by_cases h : p.1 = a
  ·simp [mput, h]
  ·simp [mput, h, ih]
theorem mget_mput (l : List (κ × β)) (a b : κ) (v : β) : mget (mput l a v) b = if a = b then some v else mget l b := by
 induction l with
 | nil => simp [mput, mget]
 | cons p l ih =>
  by_cases h : p.1 = a
  ·subst h
   by_cases hb : p.1 = b
   ·simp [mput, mget, hb]
   ·simp [mput, mget, hb]
  ·by_cases hb : p.1 = b
   ·subst hb
    simp [mput, mget, h, Ne.symm h]
   ·simp [mput, mget, h, hb, ih]
theorem many_cons (b : β) (l : List β) : ent (many F (b :: l) :: L) (F b :: many F l :: L) := (ent.flat (F b :: l.map F) L).trans (ent.cons _ (ent.pack _ _))
theorem many_uncons (b : β) (l : List β) : ent (F b :: many F l :: L) (many F (b :: l) :: L) := (ent.cons _ (ent.flat (l.map F) L)).trans (ent.pack (F b :: l.map F) L)
theorem many_nil : ent L (many F ([] : List β) :: L) := ent.emp fun _ => rfl
theorem many_perm {l l' : List β} (h : l.Perm l') : ent (many F l :: L) (many F l' :: L) := ent.weak fun _ hp => sep_perm (h.map F) hp
end
structure BSl where
 a : Option Addr
 c : Nat
 bs : List UInt8
abbrev BSl.v (x : BSl) : Value := .slice x.a x.bs.length x.c
end Go.Eng
namespace Go.Eng
set_option linter.unusedVariables false
set_option linter.unusedSimpArgs false
open Go Go.RowKit
section
variable {P : Program} {W0 W : World} {L L' : List Asn}
theorem KeyT.agg {t : TypeId} {d : TypeDesc} {κ : Type} {K : κ → Value} [DecidableEq κ] (cs : κ → List Value) {ks : List Leaf} [EqS P t ks] (hK : ∀ k, K k = .agg (cs k).toArray) (hd : P.underlying t = some d)
  (hs : ∀ a b, Instr.sameNow d a b = none) (heq : ∀ a b, eqC ks (cs a) (cs b) = some (decide (a = b))) (hst : ∀ k, Instr.sameBits 10000 (K k) (K k) = true)
  (hchk : ∀ (w : World) (em : Bool) (k : κ), (Instr.checkKey em 10000 t (K k)).run P w = .ok () w) : KeyT P t K where
 inj {a b} h := by
  rw [hK, hK] at h
  have h1 : cs a = cs b := by simpa using h
  have h2 := heq a b
  rw [h1, heq b b] at h2
  simpa using h2
 check := hchk
 find w k es hes := by
  have hasking : ∀ (es : List MapEntry) (i : Nat), (∀ e ∈ es, ∃ k', e.key = K k') →
    ((Instr.findAsking t (K k) es i).run P w = .ok none w ∧ ∀ e ∈ es, e.key ≠ K k) ∨ ∃ j e, (Instr.findAsking t (K k) es i).run P w = .ok (some (i + j, e.val)) w ∧ es[j]? = some e ∧ e.key = K k := by
   intro es
   induction es with
   | nil => intro i _; exact .inl ⟨rfl, by simp⟩
   | cons e es ih =>
    intro i hes
    obtain ⟨k', hk'⟩ := hes e (by simp)
    have he := (equal_run (P := P) (w := w))
    have hq : (Op.equal t (K k) e.key).run P w = .ok (decide (k = k')) w := by
     have h1 := (aggEq_run (P := P) (w := w) (t := t) (heq k k')).1
     rw [hk', hK k, hK k']
     obtain ⟨u, g1, g0, g2, g3⟩ := (inferInstance : EqS P t ks).ok
     exact equal_run (P := P) (w := w) 8 9992 t ks _ _ _ _ g2 g1 (heq k k') (.agg (cs k).toArray) (.agg (cs k').toArray) (fun _ => ⟨rfl, rfl⟩) (fun h => by rw [g0] at h; cases h)
    simp only [Instr.findAsking, Sem.run_bind, hq, Result.andThen_ok]
    by_cases hkk : k = k'
    ·subst hkk
     rw [decide_eq_true rfl]
     exact .inr ⟨0, e, rfl, rfl, hk'⟩
    ·rw [decide_eq_false hkk]
     rcases ih (i + 1) (fun x hx => hes x (by simp [hx])) with ⟨h1, h2⟩ | ⟨j, e', h1, h2, h3⟩
     ·refine .inl ⟨h1, fun x hx => ?_⟩
      rcases List.mem_cons.1 hx with rfl | hx
      ·rw [hk']
       intro h
       rw [hK, hK] at h
       have h1 : cs k' = cs k := by simpa using h
       have h2 := heq k k'
       rw [h1, heq k k] at h2
       exact hkk (by simpa using h2)
      ·exact h2 x hx
     ·refine .inr ⟨j + 1, e', ?_, by simpa using h2, h3⟩
      simpa [Nat.add_assoc, Nat.add_comm 1 j] using h1
  have hrun : ∀ es : List MapEntry, (Instr.findKey t (K k) es).run P w = (Instr.findAsking t (K k) es).run P w := by
   intro es
   simp only [Instr.findKey, Sem.run_bind, run_underlying hd, Result.andThen_ok]
   cases es with
   | nil => rfl
   | cons e es => simp only [Instr.findNow, hs]
  rw [hrun]
  rcases hasking es 0 hes with h | ⟨j, e, h1, h2, h3⟩
  ·exact .inl h
  ·exact .inr ⟨j, e, by simpa using h1, h2, h3⟩
 stays w k := by simp only [Instr.keyThatStays, hst, if_true, Sem.run_pure]
def PH.le (a b : PH) : Prop := ∀ x o, a x = some o → b x = some o
def entd (L L' : List Asn) : Prop := ∀ p, sep L p → ∃ p', PH.le p' p ∧ sep L' p'
theorem entd.refl (L : List Asn) : entd L L := fun p h => ⟨p, fun _ _ h => h, h⟩
theorem entd.trans {L L' L'' : List Asn} (h : entd L L') (h' : entd L' L'') : entd L L'' := fun p hp => by
 obtain ⟨q, h1, h2⟩ := h p hp
 obtain ⟨r, h3, h4⟩ := h' q h2
 exact ⟨r, fun x o hx => h1 x o (h3 x o hx), h4⟩
theorem ent.d {L L' : List Asn} (h : ent L L') : entd L L' := fun p hp => ⟨p, fun _ _ h => h, h p hp⟩
theorem entd.drop (x : Asn) (L : List Asn) : entd (x :: L) L := by
 rintro p ⟨h1, h2, hd, rfl, ha, hl⟩
 refine ⟨h2, fun y o hy => ?_, hl⟩
 rcases hd y with h | h
 ·simp [PH.join, h, hy]
 ·rw [h] at hy; cases hy
theorem entd.cons (x : Asn) {L L' : List Asn} (h : entd L L') : entd (x :: L) (x :: L') := by
 rintro p ⟨h1, h2, hd, rfl, ha, hl⟩
 obtain ⟨q, hq, hs⟩ := h h2 hl
 refine ⟨PH.join h1 q, fun y o hy => ?_, h1, q, fun y => ?_, rfl, ha, hs⟩
 ·simp only [PH.join] at hy ⊢
  cases h1y : h1 y with
  | some u => rw [h1y] at hy; simpa using hy
  | none => rw [h1y] at hy; simp only [Option.none_or] at hy ⊢; exact hq y o hy
 ·rcases hd y with h | h
  ·exact .inl h
  ·cases hqy : q y with
   | none => exact .inr rfl
   | some u => rw [hq y u hqy] at h; cases h
theorem St.entd {L L' : List Asn} (h : St W0 L W) (he : Eng.entd L L') : St W0 L' W := by
 obtain ⟨hb, p, hs, ho⟩ := h
 obtain ⟨q, hq, hs'⟩ := he p hs
 exact ⟨hb, q, hs', fun b o hbo => ho b o (hq b o hbo)⟩
class Pk (x : Asn) (L : List Asn) (L' : outParam (List Asn)) : Prop where
 perm : L.Perm (x :: L')
instance (priority := high) Pk.here (x : Asn) (L : List Asn) : Pk x (x :: L) L := ⟨.refl _⟩
instance Pk.there (x y : Asn) (L L' : List Asn) [h : Pk x L L'] : Pk x (y :: L) (y :: L') := ⟨(h.perm.cons y).trans (List.Perm.swap _ _ _)⟩
class Wk (L L' : List Asn) : Prop where
 ok : Eng.entd L L'
instance (priority := high) Wk.refl (L : List Asn) : Wk L L := ⟨entd.refl L⟩
instance (priority := 900) Wk.pick (x : Asn) (L L1 L' : List Asn) [h : Pk x L L1] [h' : Wk L1 L'] : Wk L (x :: L') := ⟨(ent.perm h.perm).d.trans (h'.ok.cons x)⟩
instance (priority := low) Wk.drop (x : Asn) (L L' : List Asn) [h : Wk L L'] : Wk (x :: L) L' := ⟨(entd.drop x L).trans h.ok⟩
instance (priority := 950) Wk.nil (L : List Asn) : Wk L [] := ⟨fun p _ => ⟨fun _ => none, ⟨fun _ _ h => (nomatch h), fun _ => rfl⟩⟩⟩
theorem St.wk {L L' : List Asn} (h : St W0 L W) [hw : Wk L L'] : St W0 L' W := h.entd hw.ok
end
structure P7 (α : Type) where
 x0 : α
 x1 : α
 x2 : α
 x3 : α
 x4 : α
 x5 : α
 x6 : α
 deriving DecidableEq
namespace P7
variable {α β γ : Type}
abbrev of (f : Nat → α) : P7 α := ⟨f 0, f 1, f 2, f 3, f 4, f 5, f 6⟩
@[reducible] def get (p : P7 α) : Nat → α
 | 0 => p.x0
 | 1 => p.x1
 | 2 => p.x2
 | 3 => p.x3
 | 4 => p.x4
 | 5 => p.x5
 | _ => p.x6
def map (f : α → β) (p : P7 α) : P7 β := ⟨f p.x0, f p.x1, f p.x2, f p.x3, f p.x4, f p.x5, f p.x6⟩
def zip (f : α → β → γ) (p : P7 α) (q : P7 β) : P7 γ := ⟨f p.x0 q.x0, f p.x1 q.x1, f p.x2 q.x2, f p.x3 q.x3, f p.x4 q.x4, f p.x5 q.x5, f p.x6 q.x6⟩
def list (p : P7 α) : List α := [p.x0, p.x1, p.x2, p.x3, p.x4, p.x5, p.x6]
abbrev set (p : P7 α) (i : Nat) (x : α) : P7 α := of fun j => if j = i then x else p.get j
abbrev all (a : α) : P7 α := ⟨a, a, a, a, a, a, a⟩
theorem cases7 {i : Nat} (h : i < 7) : i = 0 ∨ i = 1 ∨ i = 2 ∨ i = 3 ∨ i = 4 ∨ i = 5 ∨ i = 6 := by omega
theorem get_of (f : Nat → α) {i : Nat} (h : i < 7) : (of f).get i = f i := by rcases cases7 h with rfl | rfl | rfl | rfl | rfl | rfl | rfl <;> rfl
theorem of_get (p : P7 α) : of p.get = p := rfl
theorem ext7 {p q : P7 α} (h : ∀ i, i < 7 → p.get i = q.get i) : p = q := by
 rw [← of_get p, ← of_get q]
 simp only [of, h 0 (by omega), h 1 (by omega), h 2 (by omega), h 3 (by omega), h 4 (by omega), h 5 (by omega), h 6 (by omega)]
theorem get_map (f : α → β) (p : P7 α) (i : Nat) : (p.map f).get i = f (p.get i) := by
 unfold get; split <;> rfl
theorem get_zip (f : α → β → γ) (p : P7 α) (q : P7 β) (i : Nat) : (p.zip f q).get i = f (p.get i) (q.get i) := by
 unfold get; split <;> rfl
theorem get_set (p : P7 α) (i j : Nat) (x : α) (hj : j < 7) : (p.set i x).get j = if j = i then x else p.get j := by rw [set, get_of _ hj]
theorem get_all (a : α) (i : Nat) : (all a).get i = a := by unfold get; split <;> rfl
theorem map_set (f : α → β) (p : P7 α) (i : Nat) (x : α) : (p.set i x).map f = (p.map f).set i (f x) := by
 refine ext7 fun j hj => ?_
 rw [get_map, get_set _ _ _ _ hj, get_set _ _ _ _ hj, get_map]
 split <;> rfl
theorem list_len (p : P7 α) : p.list.length = 7 := rfl
theorem list_get (p : P7 α) {i : Nat} (h : i < 7) : p.list[i]? = some (p.get i) := by rcases cases7 h with rfl | rfl | rfl | rfl | rfl | rfl | rfl <;> rfl
theorem map_map (f : α → β) (g : β → γ) (p : P7 α) : (p.map f).map g = p.map (fun x => g (f x)) := rfl
end P7
end Go.Eng
namespace Go.Proofs.YtfhacbhgmnhmlaaGreat
set_option linter.unusedVariables false
set_option linter.unusedSimpArgs false
open Go Go.Eng
structure Rec (β : Type) where
 st : Int
 cmd : β
 seq : Int
 deps : P7 Int
 bal : Int × Int
 ab : Int × Int
structure Msg (β : Type) where
 kind : Int
 dot : Dot
 bal : Int × Int
 cmd : β
 seq : Int
 deps : P7 Int
structure Ans (β : Type) where
 ok : Bool
 bal : Int × Int
 rc : Rec β
abbrev Bs := List UInt8
section
variable {β γ : Type}
def Rec.map (f : β → γ) (r : Rec β) : Rec γ := ⟨r.st, f r.cmd, r.seq, r.deps, r.bal, r.ab⟩
def Ans.map (f : β → γ) (a : Ans β) : Ans γ := ⟨a.ok, a.bal, a.rc.map f⟩
def Msg.map (f : β → γ) (r : Msg β) : Msg γ := ⟨r.kind, r.dot, r.bal, f r.cmd, r.seq, r.deps⟩
end
abbrev nilS : BSl := ⟨none, 0, []⟩
def recZ : Rec Bs := ⟨0, [], 0, P7.all 0, (0, 0), (0, 0)⟩
def ansZ : Ans Bs := ⟨false, (0, 0), recZ⟩
def Dot.okI (d : Dot) : Bool := decide (0 ≤ d.rep ∧ d.rep < 7 ∧ 1 ≤ d.n ∧ d.n ≤ 1000)
def depsOk (v : P7 Int) : Bool := v.list.all fun n => decide (0 ≤ n ∧ n ≤ 1000)
def contentOk (len : Nat) (seq : Int) (deps : P7 Int) : Bool := depsOk deps && decide (0 ≤ seq ∧ seq ≤ 1099511627776 ∧ (len : Int) ≤ 300)
def Msg.may (m : Msg Bs) : Bool := decide (1 ≤ m.kind ∧ m.kind ≤ 4) && m.dot.okI && goodB m.bal.1 m.bal.2 && contentOk m.cmd.length m.seq m.deps && (decide (m.kind ≠ 4) || (decide (m.cmd.length = 0) && decide (m.seq = 0) && decide (m.deps = P7.all 0)))
theorem Msg.may_iff {m : Msg Bs} (h : m.may = true) : (1 ≤ m.kind ∧ m.kind ≤ 4) ∧ m.dot.okI = true ∧ goodB m.bal.1 m.bal.2 = true ∧ depsOk m.deps = true ∧ 0 ≤ m.seq ∧ m.seq ≤ 1099511627776 ∧ m.cmd.length ≤ 300 := by
 unfold Msg.may contentOk at h
 simp only [Bool.and_eq_true, decide_eq_true_eq] at h
 obtain ⟨⟨⟨⟨h1, h2⟩, h3⟩, h4, h5, h6, h7⟩, _⟩ := h
 exact ⟨h1, h2, h3, h4, h5, h6, by omega⟩
def imax (a b : Int) : Int := if a < b then b else a
theorem max2m {k : IntKind} {a b : Int} : foldP max2P [.int k a, .int k b] = some (.int k (imax a b)) := rfl
abbrev Tbl := List (Dot × Rec Bs)
def wouldStep (d : Dot) (acc : Int × P7 Int) (q : Dot × Rec Bs) : Int × P7 Int :=
 if q.1 = d ∨ q.2.st = 0 then acc else (imax acc.1 (IntKind.i64.wrap (q.2.seq + 1)), acc.2.set q.1.rep.toNat (imax (acc.2.get q.1.rep.toNat) q.1.n))
def would (T : Tbl) (d : Dot) : Int × P7 Int := T.foldl (wouldStep d) (0, P7.all 0)
def vmerge (a b : P7 Int) : P7 Int := a.zip imax b
def most2 (a b : Int × Int) : Int × Int := mostB [a, b]
def old (m : Msg Bs) (r : Rec Bs) : Option Bool :=
 if r.st = 3 then some (decide (m.kind = 3))
 else if m.kind = 3 then none
 else if cmpB m.bal.1 m.bal.2 r.bal.1 r.bal.2 < 0 ∨ (m.kind = 1 ∧ r.st = 2) then some false
 else if m.kind = 1 ∧ r.st = 1 ∧ r.ab = m.bal then some true
 else none
section
variable {m : Msg Bs} {r : Rec Bs}
theorem old_3 (h : r.st = 3) : old m r = some (decide (m.kind = 3)) := if_pos h
theorem old_c (h : ¬ r.st = 3) (h1 : m.kind = 3) : old m r = none := by unfold old; rw [if_neg h, if_pos h1]
theorem old_f (h : ¬ r.st = 3) (h1 : ¬ m.kind = 3) (h2 : cmpB m.bal.1 m.bal.2 r.bal.1 r.bal.2 < 0 ∨ (m.kind = 1 ∧ r.st = 2)) : old m r = some false := by unfold old; rw [if_neg h, if_neg h1, if_pos h2]
theorem old_t (h : ¬ r.st = 3) (h1 : ¬ m.kind = 3) (h2 : ¬ (cmpB m.bal.1 m.bal.2 r.bal.1 r.bal.2 < 0 ∨ (m.kind = 1 ∧ r.st = 2))) (h3 : m.kind = 1 ∧ r.st = 1 ∧ r.ab = m.bal) : old m r = some true := by
 unfold old; rw [if_neg h, if_neg h1, if_neg h2, if_pos h3]
theorem old_n (h : ¬ r.st = 3) (h1 : ¬ m.kind = 3) (h2 : ¬ (cmpB m.bal.1 m.bal.2 r.bal.1 r.bal.2 < 0 ∨ (m.kind = 1 ∧ r.st = 2))) (h3 : ¬ (m.kind = 1 ∧ r.st = 1 ∧ r.ab = m.bal)) : old m r = none := by
 unfold old; rw [if_neg h, if_neg h1, if_neg h2, if_neg h3]
end
def putRec (T : Tbl) (m : Msg Bs) (r : Rec Bs) : Rec Bs :=
 if m.kind = 1 then ⟨1, m.cmd, imax m.seq (would T m.dot).1, vmerge m.deps (would T m.dot).2, m.bal, m.bal⟩
 else if m.kind = 2 then ⟨2, m.cmd, m.seq, m.deps, m.bal, m.bal⟩
 else if m.kind = 3 then ⟨3, m.cmd, m.seq, m.deps, most2 m.bal r.bal, most2 m.bal r.ab⟩
 else { r with bal := m.bal }
def trec (T : Tbl) (d : Dot) : Rec Bs := (mget T d).getD recZ
def tdo (T : Tbl) (m : Msg Bs) : Tbl × Ans Bs × Int :=
 if m.may = false then (T, ansZ, 1)
 else match old m (trec T m.dot) with
  | some ok => (T, ⟨ok, (trec T m.dot).bal, trec T m.dot⟩, 0)
  | none => (mput T m.dot (putRec T m (trec T m.dot)), ⟨true, (putRec T m (trec T m.dot)).bal, putRec T m (trec T m.dot)⟩, 0)
def Tok (T : Tbl) : Prop := ∀ q ∈ T, q.1.okI = true ∧ q.2.cmd.length ≤ 300
theorem mgetT {T : Tbl} {d : Dot} {r : Rec Bs} (h : mget T d = some r) : (d, r) ∈ T := by
 induction T with
 | nil => cases h
 | cons p T ih =>
  by_cases e : p.1 = d
  ·simp only [mget, if_pos e, Option.some.injEq] at h
   subst h e
   simp
  ·simp only [mget, if_neg e] at h
   exact List.mem_cons_of_mem _ (ih h)
theorem Tok.trec {T : Tbl} (h : Tok T) (d : Dot) : (Go.Proofs.YtfhacbhgmnhmlaaGreat.trec T d).cmd.length ≤ 300 := by
 unfold Go.Proofs.YtfhacbhgmnhmlaaGreat.trec
 cases hm : mget T d with
 | none => exact Nat.zero_le _
 | some r => exact (h _ (mgetT hm)).2
theorem tdo_len {T : Tbl} (h : Tok T) (m : Msg Bs) : (tdo T m).2.1.rc.cmd.length ≤ 300 := by
 unfold tdo
 by_cases hm : m.may = false
 ·rw [if_pos hm]; exact Nat.zero_le _
 ·rw [if_neg hm]
  have hm : m.may = true := by simpa using hm
  cases old m (trec T m.dot) with
  | some ok => exact h.trec _
  | none =>
   have h1 := (Msg.may_iff hm).2.2.2.2.2.2
   have h2 := h.trec m.dot
   simp only [putRec]
   repeat' split
   all_goals assumption
theorem wouldStep_comm (d : Dot) (acc : Int × P7 Int) (p q : Dot × Rec Bs) : wouldStep d (wouldStep d acc p) q = wouldStep d (wouldStep d acc q) p := by
 unfold wouldStep
 by_cases hp : p.1 = d ∨ p.2.st = 0
 ·by_cases hq : q.1 = d ∨ q.2.st = 0
  ·simp only [if_pos hp, if_pos hq]
  ·simp only [if_pos hp, if_neg hq]
 ·by_cases hq : q.1 = d ∨ q.2.st = 0
  ·simp only [if_neg hp, if_pos hq]
  ·simp only [if_neg hp, if_neg hq]
   generalize p.1.rep.toNat = i
   generalize q.1.rep.toNat = j
   refine Prod.ext ?_ (P7.ext7 fun k hk => ?_)
   ·simp only [imax]; repeat' split
    all_goals omega
   ·by_cases hi : i < 7
    ·by_cases hj : j < 7
     ·simp only [P7.get_set _ _ _ _ hk, P7.get_set _ _ _ _ hi, P7.get_set _ _ _ _ hj]
      by_cases h1 : k = i
      ·subst h1
       by_cases h2 : k = j
       ·subst h2
        simp only [if_true, imax]
        repeat' split
        all_goals omega
       ·simp [h2]
      ·by_cases h2 : k = j
       ·subst h2; simp [h1, Ne.symm h1]
       ·simp [h1, h2]
     ·have e : ∀ (v : P7 Int) x, v.set j x = v := fun v x => P7.ext7 fun k hk => by rw [P7.get_set _ _ _ _ hk, if_neg (by omega)]
      simp only [e]
    ·have e : ∀ (v : P7 Int) x, v.set i x = v := fun v x => P7.ext7 fun k hk => by rw [P7.get_set _ _ _ _ hk, if_neg (by omega)]
     simp only [e]
theorem would_pick (d : Dot) (acc : Int × P7 Int) (A B : Tbl) (x : Dot × Rec Bs) : (A ++ x :: B).foldl (wouldStep d) acc = (A ++ B).foldl (wouldStep d) (wouldStep d acc x) := by
 induction A generalizing acc with
 | nil => rfl
 | cons a A ih => simp only [List.cons_append, List.foldl_cons, ih, wouldStep_comm d acc a x]
end Go.Proofs.YtfhacbhgmnhmlaaGreat
namespace Go.Proofs.YtfhacbhgmnhmlaaGreat
set_option linter.unusedVariables false
set_option linter.unusedSimpArgs false
open Go.Eng
instance : MapT PR T_m_api_Dot_inst_Rec T_api_Dot T_inst_Rec := ⟨by kernel_rfl⟩
instance : MapT PR T_m_api_Dot_bool T_api_Dot T_bool := ⟨by kernel_rfl⟩
instance : MapT PR T_m_api_Dot_int T_api_Dot T_int := ⟨by kernel_rfl⟩
end Go.Proofs.YtfhacbhgmnhmlaaGreat
namespace Go.Proofs.YtfhacbhgmnhmlaaGreat
set_option linter.unusedVariables false
set_option linter.unusedSimpArgs false
open Go.Eng
def S.vec_Merge.j1 (R : VK) (x2 x4 : Value) (W : World) : Prop :=
lD W T_vec_Vec x2 fun v19 W=>
sT W T_vec_Vec x4 v19 fun _ W=>
rdK PR (Instr.loadAt T_vec_Vec x4) (fun r0 W =>
R r0 W) W
def S.vec_Merge.l1 (J1 : LK) (K1 : LK) (x2 x3 x4 x6 : Value) (W : World) : Prop :=
oK (binP .lss x6 (nI 7)) fun v7=>
ifK v7 (
oK (idxA 7 1 x2 x6) fun v11=>
lD (tick W) T_int64 v11 fun v12 W=>
oK (idxA 7 1 x3 x6) fun v14=>
lD W T_int64 v14 fun v15 W=>
oK (foldP max2P [v12, v15]) fun v16=>
oK (idxA 7 1 x2 x6) fun v17=>
sT W T_int64 v17 v16 fun _ W=>
oK (binP .add x6 (nI 1)) fun v18=>
K1 [x2, x3, x4, v18] W) (
J1 [x2, x4] W)
def S.vec_Merge.body (R : VK) (v0 v1 : Value) (W : World) : Prop :=
eF W (Instr.box T_vec_Vec v0) fun v2 W=>
eF W (Instr.box T_vec_Vec v1) fun v3 W=>
eF W (Instr.alloc T_vec_Vec true (.tuple #[])) fun v4 W=>
joinK (fun s W => S.vec_Merge.j1 R (nthv s 0) (nthv s 1) W) (fun J1 =>
loopK (fun K1 s W => S.vec_Merge.l1 J1 K1 (nthv s 0) (nthv s 1) (nthv s 2) (nthv s 3) W) [v2, v3, v4, (nI 0)] W)
theorem S.vec_Merge.call {R : VK} {v0 v1 : Value} {W : World} (h : S.vec_Merge.body R v0 v1 W) : callK PR F_vec_Merge [v0, v1] R W :=
callS (fn := Tryz.f63) (h := (.t (.at [2, 4] (.t (.at [2, 3, 4, 6] (.t (.two (.t .n) (.two (.t .n) .n))) .n)) (.t .n)))) h
end Go.Proofs.YtfhacbhgmnhmlaaGreat
namespace Go.Proofs.YtfhacbhgmnhmlaaGreat
set_option linter.unusedVariables false
set_option linter.unusedSimpArgs false
open Go.Eng
def S.inst_New.body (R : VK) (W : World) : Prop :=
eF W (Instr.makeMap T_m_api_Dot_inst_Rec none) fun v1 W=>
oK (bldP (fun i => ([(0, 1)] : List (Nat × Nat))[i]?) [.map none] [(0, v1)]) fun v2=>
eF W (Instr.box T_inst_Table v2) fun v3 W=>
R v3 W
theorem S.inst_New.call {R : VK} {W : World} (h : S.inst_New.body R  W) : callK PR F_inst_New [] R W :=
callS (fn := Tryz.f17) (h := (.t (.t .n))) h
def S.inst_Table_Rec.body (R : VK) (v0 v1 : Value) (W : World) : Prop :=
eF W (Instr.box T_api_Dot v1) fun v3 W=>
eF W (Instr.alloc T_inst_Rec true (.tuple #[])) fun v4 W=>
oK (nilP v0) fun v6=>
oA 0 v6 fun v7=>
lD (tick W) T_m_api_Dot_inst_Rec v7 fun v8 W=>
lD W T_api_Dot v3 fun v9 W=>
rD W (Instr.lookup T_m_api_Dot_inst_Rec v8 v9 false) fun v10 W=>
cL W F_inst_copied [v10] fun v11 W=>
sT W T_inst_Rec v4 v11 fun _ W=>
rdK PR (Instr.loadAt T_inst_Rec v4) (fun r0 W =>
R r0 W) W
theorem S.inst_Table_Rec.call {R : VK} {v0 v1 : Value} {W : World} (h : S.inst_Table_Rec.body R v0 v1 W) : callK PR F_inst_Table_Rec [v0, v1] R W :=
callS (fn := Tryz.f26) (h := (.t (.t .n))) h
def S.inst_Table_Do.j1 (R : VK) (x0 x3 x4 x6 : Value) (W : World) : Prop :=
oK (nilP x0) fun v96=>
oA 0 v96 fun v97=>
lD (tick W) T_m_api_Dot_inst_Rec v97 fun v98 W=>
oA 1 x3 fun v99=>
lD W T_api_Dot v99 fun v100 W=>
lD W T_inst_Rec x6 fun v101 W=>
eU W (Instr.mapUpdate T_m_api_Dot_inst_Rec v98 v100 v101) fun _ W=>
oA 10 x6 fun v102=>
lD (tick W) T_ballot_Ballot v102 fun v103 W=>
lD W T_inst_Rec x6 fun v104 W=>
cL W F_inst_copied [v104] fun v105 W=>
sB W [hL 1 T_ballot_Ballot v102 v103] fun W=>
oK (bldP (fun i => ([(0, 1), (1, 2), (3, 14)] : List (Nat × Nat))[i]?) [.bool false, .int .i64 0, .int .i64 0, .int .i64 0, .slice none 0 0, .int .i64 0, .int .i64 0, .int .i64 0, .int .i64 0, .int .i64 0, .int .i64 0, .int .i64 0, .int .i64 0, .int .i64 0, .int .i64 0, .int .i64 0, .int .i64 0] [(0, (.bool true)), (1, v103), (2, v105)]) fun v106=>
sT W T_inst_Answer x4 v106 fun _ W=>
rdK PR (Instr.loadAt T_inst_Answer x4) (fun r0 W =>
R (.tuple #[r0, (nI 0)]) W) W
def S.inst_Table_Do.body (R : VK) (v0 v1 : Value) (W : World) : Prop :=
eF W (Instr.box T_inst_Msg v1) fun v3 W=>
eF W (Instr.alloc T_inst_Answer true (.tuple #[])) fun v4 W=>
lD W T_inst_Msg v3 fun v12 W=>
cL W F_inst_May [v12] fun v13 W=>
oK (unP .not v13) fun v14=>
ifK v14 (
oK (bldP (fun i => ([(0, 1), (1, 2), (3, 14)] : List (Nat × Nat))[i]?) [.bool false, .int .i64 0, .int .i64 0, .int .i64 0, .slice none 0 0, .int .i64 0, .int .i64 0, .int .i64 0, .int .i64 0, .int .i64 0, .int .i64 0, .int .i64 0, .int .i64 0, .int .i64 0, .int .i64 0, .int .i64 0, .int .i64 0] []) fun v15=>
sT W T_inst_Answer v4 v15 fun _ W=>
rdK PR (Instr.loadAt T_inst_Answer v4) (fun r0 W =>
R (.tuple #[r0, (nI 1)]) W) W) (
oK (nilP v0) fun v17=>
oA 0 v17 fun v18=>
lD (tick W) T_m_api_Dot_inst_Rec v18 fun v19 W=>
oA 1 v3 fun v20=>
lD W T_api_Dot v20 fun v21 W=>
rD W (Instr.lookup T_m_api_Dot_inst_Rec v19 v21 false) fun v22 W=>
eF W (Instr.alloc T_inst_Rec true (.tuple #[])) fun v6 W=>
sB W [(6, true, (Instr.lookup T_m_api_Dot_inst_Rec v19 v21 false), v22), hL 5 T_api_Dot v20 v21, hL 3 T_m_api_Dot_inst_Rec v18 v19] fun W=>
sT W T_inst_Rec v6 v22 fun _ W=>
lD W T_inst_Msg v3 fun v25 W=>
lD W T_inst_Rec v6 fun v26 W=>
cL W F_inst_Table_old [v0, v25, v26] fun v27 W=>
oK (extP 0 v27) fun v28=>
oK (extP 1 v27) fun v29=>
eF W (Instr.alloc T_inst_Answer true (.tuple #[])) fun v7 W=>
sT W T_inst_Answer v7 v28 fun _ W=>
ifK v29 (
lD W T_inst_Answer v7 fun v31 W=>
sT W T_inst_Answer v4 v31 fun _ W=>
rdK PR (Instr.loadAt T_inst_Answer v4) (fun r0 W =>
R (.tuple #[r0, (nI 0)]) W) W) (
oA 5 v3 fun v32=>
lD W T_s_uint8 v32 fun v33 W=>
cL W F_bytes_Clone [v33] fun v34 W=>
joinK (fun s W => S.inst_Table_Do.j1 R (nthv s 0) (nthv s 1) (nthv s 2) (nthv s 3) W) (fun J1 =>
oA 0 v3 fun v35=>
lD W T_int v35 fun v36 W=>
oK (binP .eql v36 (nI 1)) fun v41=>
ifK v41 (
oA 1 v3 fun v44=>
lD W T_api_Dot v44 fun v45 W=>
cL W F_inst_Table_Would [v0, v45] fun v46 W=>
oK (extP 0 v46) fun v47=>
oK (extP 1 v46) fun v48=>
eF W (Instr.alloc T_vec_Vec true (.tuple #[])) fun v11 W=>
sT W T_vec_Vec v11 v48 fun _ W=>
oA 6 v3 fun v50=>
lD (tick W) T_int64 v50 fun v51 W=>
oK (foldP max2P [v51, v47]) fun v53=>
oA 7 v3 fun v54=>
lD W T_vec_Vec v54 fun v55 W=>
lD W T_vec_Vec v11 fun v56 W=>
oA 3 v3 fun v58=>
lD W T_ballot_Ballot v58 fun v59 W=>
oA 3 v3 fun v60=>
lD W T_ballot_Ballot v60 fun v61 W=>
cL W F_vec_Merge [v55, v56] fun v57 W=>
sB W [hL 12 T_ballot_Ballot v60 v61, hL 10 T_ballot_Ballot v58 v59, hL 2 T_int64 v50 v51] fun W=>
oK (bldP (fun i => ([(0, 1), (1, 1), (2, 1), (3, 7), (10, 2), (12, 2)] : List (Nat × Nat))[i]?) [.int .i64 0, .slice none 0 0, .int .i64 0, .int .i64 0, .int .i64 0, .int .i64 0, .int .i64 0, .int .i64 0, .int .i64 0, .int .i64 0, .int .i64 0, .int .i64 0, .int .i64 0, .int .i64 0] [(0, (nI 1)), (1, v34), (2, v53), (3, v57), (4, v59), (5, v61)]) fun v62=>
sT W T_inst_Rec v6 v62 fun _ W=>
J1 [v0, v3, v4, v6] W) (
oK (binP .eql v36 (nI 2)) fun v64=>
ifK v64 (
oA 6 v3 fun v66=>
lD W T_int64 v66 fun v67 W=>
oA 7 v3 fun v68=>
lD W T_vec_Vec v68 fun v69 W=>
oA 3 v3 fun v70=>
lD W T_ballot_Ballot v70 fun v71 W=>
oA 3 v3 fun v72=>
lD W T_ballot_Ballot v72 fun v73 W=>
oK (bldP (fun i => ([(0, 1), (1, 1), (2, 1), (3, 7), (10, 2), (12, 2)] : List (Nat × Nat))[i]?) [.int .i64 0, .slice none 0 0, .int .i64 0, .int .i64 0, .int .i64 0, .int .i64 0, .int .i64 0, .int .i64 0, .int .i64 0, .int .i64 0, .int .i64 0, .int .i64 0, .int .i64 0, .int .i64 0] [(0, (nI 2)), (1, v34), (2, v67), (3, v69), (4, v71), (5, v73)]) fun v74=>
sT W T_inst_Rec v6 v74 fun _ W=>
J1 [v0, v3, v4, v6] W) (
oK (binP .eql v36 (nI 3)) fun v76=>
ifK v76 (
oA 6 v3 fun v78=>
lD (tick W) T_int64 v78 fun v79 W=>
oA 7 v3 fun v80=>
lD W T_vec_Vec v80 fun v81 W=>
oA 3 v3 fun v82=>
lD W T_ballot_Ballot v82 fun v83 W=>
oA 10 v6 fun v84=>
lD W T_ballot_Ballot v84 fun v85 W=>
oA 3 v3 fun v88=>
lD W T_ballot_Ballot v88 fun v89 W=>
oA 12 v6 fun v90=>
lD W T_ballot_Ballot v90 fun v91 W=>
(eF W (Instr.buildSlice T_s_ballot_Ballot 2 #[(0, v83), (1, v85)]) fun v86 W=>
sB W [hL 14 T_ballot_Ballot v90 v91, hL 12 T_ballot_Ballot v88 v89, hL 4 T_vec_Vec v80 v81, hL 2 T_int64 v78 v79] fun W=>
(cL W F_ballot_Most [v86] fun v87 W=>
sB W [hL 14 T_ballot_Ballot v90 v91, hL 12 T_ballot_Ballot v88 v89, hL 4 T_vec_Vec v80 v81, hL 2 T_int64 v78 v79] fun W=>
eF W (Instr.buildSlice T_s_ballot_Ballot 2 #[(0, v89), (1, v91)]) fun v92 W=>
sB W [hL 4 T_vec_Vec v80 v81, hL 2 T_int64 v78 v79] fun W=>
cL W F_ballot_Most [v92] fun v93 W=>
sB W [hL 4 T_vec_Vec v80 v81, hL 2 T_int64 v78 v79] fun W=>
oK (bldP (fun i => ([(0, 1), (1, 1), (2, 1), (3, 7), (10, 2), (12, 2)] : List (Nat × Nat))[i]?) [.int .i64 0, .slice none 0 0, .int .i64 0, .int .i64 0, .int .i64 0, .int .i64 0, .int .i64 0, .int .i64 0, .int .i64 0, .int .i64 0, .int .i64 0, .int .i64 0, .int .i64 0, .int .i64 0] [(0, (nI 3)), (1, v34), (2, v79), (3, v81), (4, v87), (5, v93)]) fun v94=>
sT W T_inst_Rec v6 v94 fun _ W=>
J1 [v0, v3, v4, v6] W) ∧ (eF W (Instr.buildSlice T_s_ballot_Ballot 2 #[(0, v89), (1, v91)]) fun v92_1 W=>
sB W [hL 4 T_vec_Vec v80 v81, hL 2 T_int64 v78 v79] fun W=>
cL W F_ballot_Most [v86] fun v87_1 W=>
sB W [hL 4 T_vec_Vec v80 v81, hL 2 T_int64 v78 v79] fun W=>
cL W F_ballot_Most [v92_1] fun v93_1 W=>
sB W [hL 4 T_vec_Vec v80 v81, hL 2 T_int64 v78 v79] fun W=>
oK (bldP (fun i => ([(0, 1), (1, 1), (2, 1), (3, 7), (10, 2), (12, 2)] : List (Nat × Nat))[i]?) [.int .i64 0, .slice none 0 0, .int .i64 0, .int .i64 0, .int .i64 0, .int .i64 0, .int .i64 0, .int .i64 0, .int .i64 0, .int .i64 0, .int .i64 0, .int .i64 0, .int .i64 0, .int .i64 0] [(0, (nI 3)), (1, v34), (2, v79), (3, v81), (4, v87_1), (5, v93_1)]) fun v94_1=>
sT W T_inst_Rec v6 v94_1 fun _ W=>
J1 [v0, v3, v4, v6] W)) ∧ (eF W (Instr.buildSlice T_s_ballot_Ballot 2 #[(0, v89), (1, v91)]) fun v92_2 W=>
sB W [hL 8 T_ballot_Ballot v84 v85, hL 6 T_ballot_Ballot v82 v83, hL 4 T_vec_Vec v80 v81, hL 2 T_int64 v78 v79] fun W=>
eF W (Instr.buildSlice T_s_ballot_Ballot 2 #[(0, v83), (1, v85)]) fun v86_1 W=>
sB W [hL 4 T_vec_Vec v80 v81, hL 2 T_int64 v78 v79] fun W=>
cL W F_ballot_Most [v86_1] fun v87_2 W=>
sB W [hL 4 T_vec_Vec v80 v81, hL 2 T_int64 v78 v79] fun W=>
cL W F_ballot_Most [v92_2] fun v93_2 W=>
sB W [hL 4 T_vec_Vec v80 v81, hL 2 T_int64 v78 v79] fun W=>
oK (bldP (fun i => ([(0, 1), (1, 1), (2, 1), (3, 7), (10, 2), (12, 2)] : List (Nat × Nat))[i]?) [.int .i64 0, .slice none 0 0, .int .i64 0, .int .i64 0, .int .i64 0, .int .i64 0, .int .i64 0, .int .i64 0, .int .i64 0, .int .i64 0, .int .i64 0, .int .i64 0, .int .i64 0, .int .i64 0] [(0, (nI 3)), (1, v34), (2, v79), (3, v81), (4, v87_2), (5, v93_2)]) fun v94_2=>
sT W T_inst_Rec v6 v94_2 fun _ W=>
J1 [v0, v3, v4, v6] W)) (
oA 3 v3 fun v37=>
lD W T_ballot_Ballot v37 fun v38 W=>
oA 10 v6 fun v39=>
sT W T_ballot_Ballot v39 v38 fun _ W=>
J1 [v0, v3, v4, v6] W))))))
theorem S.inst_Table_Do.call {R : VK} {v0 v1 : Value} {W : World} (h : S.inst_Table_Do.body R v0 v1 W) : callK PR F_inst_Table_Do [v0, v1] R W :=
callS (fn := Tryz.f38) (h := (.t (.two (.t (.two (.t .n) .n)) (.t (.two (.t (.t (.two (.t .n) .n))) (.t (.at [0, 3, 4, 6] (.t (.t (.two (.t .n) (.t (.t (.t (.t .n))))))) (.t (.t .n))))))))) h
def S.inst_copied.body (R : VK) (v0 : Value) (W : World) : Prop :=
eF W (Instr.box T_inst_Rec v0) fun v1 W=>
eF W (Instr.alloc T_inst_Rec true (.tuple #[])) fun v2 W=>
oA 1 v1 fun v3=>
lD W T_s_uint8 v3 fun v4 W=>
cL W F_bytes_Clone [v4] fun v5 W=>
oA 1 v1 fun v6=>
sT W T_s_uint8 v6 v5 fun _ W=>
lD W T_inst_Rec v1 fun v7 W=>
sT W T_inst_Rec v2 v7 fun _ W=>
rdK PR (Instr.loadAt T_inst_Rec v2) (fun r0 W =>
R r0 W) W
theorem S.inst_copied.call {R : VK} {v0 : Value} {W : World} (h : S.inst_copied.body R v0 W) : callK PR F_inst_copied [v0] R W :=
callS (fn := Tryz.f39) (h := (.t (.t (.t .n)))) h
def S.inst_May.body (R : VK) (v0 : Value) (W : World) : Prop :=
eF W (Instr.box T_inst_Msg v0) fun v1 W=>
oA 0 v1 fun v3=>
lD W T_int v3 fun v4 W=>
oK (binP .lss v4 (nI 1)) fun v5=>
gA W v5 false 0 v1 fun v7 W=>
gL W v5 false T_int v7 fun v8 W=>
gP W v5 false (binP .gtr v8 (nI 4)) fun v9 W=>
oK (pickP v5 (.bool true) v9) fun v10=>
gA W v10 false 1 v1 fun v12 W=>
gL W v10 false T_api_Dot v12 fun v13 W=>
gC W v10 false F_inst_Dot [v13] fun v14 W=>
gP W v10 false (unP .not v14) fun v15 W=>
oK (pickP v10 (.bool true) v15) fun v16=>
gA W v16 false 3 v1 fun v18 W=>
gL W v16 false T_ballot_Ballot v18 fun v19 W=>
gC W v16 false F_ballot_Good [v19] fun v20 W=>
gP W v16 false (unP .not v20) fun v21 W=>
oK (pickP v16 (.bool true) v21) fun v22=>
gA W v22 false 5 v1 fun v24 W=>
gL W v22 false T_s_uint8 v24 fun v25 W=>
gA W v22 false 6 v1 fun v26 W=>
gL W v22 false T_int64 v26 fun v27 W=>
gA W v22 false 7 v1 fun v28 W=>
gL W v22 false T_vec_Vec v28 fun v29 W=>
gC W v22 false F_inst_content [v25, v27, v29] fun v30 W=>
gP W v22 false (unP .not v30) fun v31 W=>
oK (pickP v22 (.bool true) v31) fun v32=>
ifK v32 (
R (.bool false) W) (
oA 0 v1 fun v33=>
lD W T_int v33 fun v34 W=>
oK (binP .neq v34 (nI 4)) fun v35=>
gA W v35 false 5 v1 fun v37 W=>
gL W v35 false T_s_uint8 v37 fun v38 W=>
gP W v35 false (lenP (.slice T_uint8) v38) fun v39 W=>
gP W v35 false (binP .eql v39 (nI 0)) fun v40 W=>
gX W v35 false v40 fun v41 W=>
gA W v41 true 6 v1 fun v42 W=>
gL W v41 true T_int64 v42 fun v43 W=>
gP W v41 true (binP .eql v43 (nI 0)) fun v44 W=>
gP W v35 false (pickP v41 v44 (.bool false)) fun v45 W=>
gX W v35 false v45 fun v46 W=>
gA W v46 true 7 v1 fun v47 W=>
gL W v46 true T_vec_Vec v47 fun v48 W=>
gP W v46 true (bldP (fun i => some (i * 1, 1)) [.int .i64 0, .int .i64 0, .int .i64 0, .int .i64 0, .int .i64 0, .int .i64 0, .int .i64 0] []) fun v49 W=>
gR W v46 true (aggEq .eql T_vec_Vec v48 v49) fun v50 W=>
gP W v35 false (pickP v46 v50 (.bool false)) fun v51 W=>
oK (pickP v35 (.bool true) v51) fun v52=>
R v52 W)
theorem S.inst_May.call {R : VK} {v0 : Value} {W : World} (h : S.inst_May.body R v0 W) : callK PR F_inst_May [v0] R W :=
callS (fn := Tryz.f58) (h := (.t (.two (.t (.two (.t .n) .n)) (.t .n)))) h
def S.inst_Table_old.j1 (R : VK) (x4 x5 x6 x25 : Value) (W : World) : Prop :=
ifK x25 (
oA 10 x5 fun v40=>
lD (tick W) T_ballot_Ballot v40 fun v41 W=>
lD W T_inst_Rec x5 fun v42 W=>
cL W F_inst_copied [v42] fun v43 W=>
sB W [hL 1 T_ballot_Ballot v40 v41] fun W=>
oK (bldP (fun i => ([(0, 1), (1, 2), (3, 14)] : List (Nat × Nat))[i]?) [.bool false, .int .i64 0, .int .i64 0, .int .i64 0, .slice none 0 0, .int .i64 0, .int .i64 0, .int .i64 0, .int .i64 0, .int .i64 0, .int .i64 0, .int .i64 0, .int .i64 0, .int .i64 0, .int .i64 0, .int .i64 0, .int .i64 0] [(0, (.bool false)), (1, v41), (2, v43)]) fun v44=>
sT W T_inst_Answer x6 v44 fun _ W=>
rdK PR (Instr.loadAt T_inst_Answer x6) (fun r0 W =>
R (.tuple #[r0, (.bool true)]) W) W) (
oA 0 x4 fun v46=>
lD W T_int v46 fun v47 W=>
oK (binP .eql v47 (nI 1)) fun v48=>
gA W v48 true 0 x5 fun v50 W=>
gL W v48 true T_int v50 fun v51 W=>
gP W v48 true (binP .eql v51 (nI 1)) fun v52 W=>
oK (pickP v48 v52 (.bool false)) fun v53=>
gA W v53 true 12 x5 fun v55 W=>
gL W v53 true T_ballot_Ballot v55 fun v56 W=>
gA W v53 true 3 x4 fun v57 W=>
gL W v53 true T_ballot_Ballot v57 fun v58 W=>
gR W v53 true (aggEq .eql T_ballot_Ballot v56 v58) fun v59 W=>
oK (pickP v53 v59 (.bool false)) fun v60=>
ifK v60 (
oA 10 x5 fun v61=>
lD (tick W) T_ballot_Ballot v61 fun v62 W=>
lD W T_inst_Rec x5 fun v63 W=>
cL W F_inst_copied [v63] fun v64 W=>
sB W [hL 1 T_ballot_Ballot v61 v62] fun W=>
oK (bldP (fun i => ([(0, 1), (1, 2), (3, 14)] : List (Nat × Nat))[i]?) [.bool false, .int .i64 0, .int .i64 0, .int .i64 0, .slice none 0 0, .int .i64 0, .int .i64 0, .int .i64 0, .int .i64 0, .int .i64 0, .int .i64 0, .int .i64 0, .int .i64 0, .int .i64 0, .int .i64 0, .int .i64 0, .int .i64 0] [(0, (.bool true)), (1, v62), (2, v64)]) fun v65=>
sT W T_inst_Answer x6 v65 fun _ W=>
rdK PR (Instr.loadAt T_inst_Answer x6) (fun r0 W =>
R (.tuple #[r0, (.bool true)]) W) W) (
oK (bldP (fun i => ([(0, 1), (1, 2), (3, 14)] : List (Nat × Nat))[i]?) [.bool false, .int .i64 0, .int .i64 0, .int .i64 0, .slice none 0 0, .int .i64 0, .int .i64 0, .int .i64 0, .int .i64 0, .int .i64 0, .int .i64 0, .int .i64 0, .int .i64 0, .int .i64 0, .int .i64 0, .int .i64 0, .int .i64 0] []) fun v66=>
sT W T_inst_Answer x6 v66 fun _ W=>
rdK PR (Instr.loadAt T_inst_Answer x6) (fun r0 W =>
R (.tuple #[r0, (.bool false)]) W) W))
def S.inst_Table_old.body (R : VK) (v0 v1 v2 : Value) (W : World) : Prop :=
eF W (Instr.box T_inst_Msg v1) fun v4 W=>
eF W (Instr.box T_inst_Rec v2) fun v5 W=>
eF W (Instr.alloc T_inst_Answer true (.tuple #[])) fun v6 W=>
oA 0 v5 fun v9=>
lD W T_int v9 fun v10 W=>
oK (binP .eql v10 (nI 3)) fun v11=>
ifK v11 (
oA 0 v4 fun v12=>
lD (tick W) T_int v12 fun v13 W=>
oK (binP .eql v13 (nI 3)) fun v14=>
oA 10 v5 fun v15=>
lD W T_ballot_Ballot v15 fun v16 W=>
lD W T_inst_Rec v5 fun v17 W=>
cL W F_inst_copied [v17] fun v18 W=>
sB W [hL 4 T_ballot_Ballot v15 v16, hL 1 T_int v12 v13] fun W=>
oK (bldP (fun i => ([(0, 1), (1, 2), (3, 14)] : List (Nat × Nat))[i]?) [.bool false, .int .i64 0, .int .i64 0, .int .i64 0, .slice none 0 0, .int .i64 0, .int .i64 0, .int .i64 0, .int .i64 0, .int .i64 0, .int .i64 0, .int .i64 0, .int .i64 0, .int .i64 0, .int .i64 0, .int .i64 0, .int .i64 0] [(0, v14), (1, v16), (2, v18)]) fun v19=>
sT W T_inst_Answer v6 v19 fun _ W=>
rdK PR (Instr.loadAt T_inst_Answer v6) (fun r0 W =>
R (.tuple #[r0, (.bool true)]) W) W) (
oA 0 v4 fun v21=>
lD W T_int v21 fun v22 W=>
oK (binP .eql v22 (nI 3)) fun v23=>
ifK v23 (
oK (bldP (fun i => ([(0, 1), (1, 2), (3, 14)] : List (Nat × Nat))[i]?) [.bool false, .int .i64 0, .int .i64 0, .int .i64 0, .slice none 0 0, .int .i64 0, .int .i64 0, .int .i64 0, .int .i64 0, .int .i64 0, .int .i64 0, .int .i64 0, .int .i64 0, .int .i64 0, .int .i64 0, .int .i64 0, .int .i64 0] []) fun v24=>
sT W T_inst_Answer v6 v24 fun _ W=>
rdK PR (Instr.loadAt T_inst_Answer v6) (fun r0 W =>
R (.tuple #[r0, (.bool false)]) W) W) (
joinK (fun s W => S.inst_Table_old.j1 R (nthv s 0) (nthv s 1) (nthv s 2) (nthv s 3) W) (fun J1 =>
oA 3 v4 fun v26=>
lD W T_ballot_Ballot v26 fun v27 W=>
oA 10 v5 fun v28=>
lD W T_ballot_Ballot v28 fun v29 W=>
cL W F_ballot_Cmp [v27, v29] fun v30 W=>
oK (binP .lss v30 (nI 0)) fun v31=>
ifK v31 (
J1 [v4, v5, v6, v31] W) (
oA 0 v4 fun v32=>
lD W T_int v32 fun v33 W=>
oK (binP .eql v33 (nI 1)) fun v34=>
gA W v34 true 0 v5 fun v36 W=>
gL W v34 true T_int v36 fun v37 W=>
gP W v34 true (binP .eql v37 (nI 2)) fun v38 W=>
oK (pickP v34 v38 (.bool false)) fun v39=>
J1 [v4, v5, v6, v39] W))))
theorem S.inst_Table_old.call {R : VK} {v0 v1 v2 : Value} {W : World} (h : S.inst_Table_old.body R v0 v1 v2 W) : callK PR F_inst_Table_old [v0, v1, v2] R W :=
callS (fn := Tryz.f70) (h := (.t (.two (.t (.two (.t .n) (.t (.two (.t .n) (.at [4, 5, 6, 25] (.t (.t .n)) (.two (.t .n) (.t (.two (.t .n) .n)))))))) (.t .n)))) h
def S.inst_Table_Would.j1 (R : VK) (x5 x6 x7 : Value) (W : World) : Prop :=
lD (tick W) T_vec_Vec x7 fun v45 W=>
sT W T_vec_Vec x5 v45 fun _ W=>
rdK PR (Instr.loadAt T_vec_Vec x5) (fun r1 W =>
R (.tuple #[x6, r1]) W) W
def S.inst_Table_Would.l1 (J1 : LK) (K1 : LK) (x3 x5 x6 x7 x15 : Value) (W : World) : Prop :=
eF W (Instr.next x15 false T_t0) fun v16 W=>
oK (extP 0 v16) fun v17=>
ifK v17 (
eF W (Instr.entry x15) fun v18 W=>
oK (extP 0 v18) fun v19=>
oK (extP 1 v18) fun v20=>
eF W (Instr.alloc T_api_Dot true (.tuple #[])) fun v8 W=>
eF W (Instr.alloc T_inst_Rec true (.tuple #[])) fun v9 W=>
sT W T_api_Dot v8 v19 fun _ W=>
sT W T_inst_Rec v9 v20 fun _ W=>
lD W T_api_Dot v8 fun v21 W=>
lD W T_api_Dot x3 fun v22 W=>
rD W (aggEq .eql T_api_Dot v21 v22) fun v23 W=>
gA W v23 false 0 v9 fun v25 W=>
gL W v23 false T_int v25 fun v26 W=>
gP W v23 false (binP .eql v26 (nI 0)) fun v27 W=>
oK (pickP v23 (.bool true) v27) fun v28=>
ifK v28 (
K1 [x3, x5, x6, x7, x15] W) (
oA 2 v9 fun v30=>
lD W T_int64 v30 fun v31 W=>
oK (binP .add v31 (nI 1)) fun v32=>
oK (foldP max2P [x6, v32]) fun v33=>
oA 0 v8 fun v34=>
lD (tick W) T_int v34 fun v35 W=>
oA 0 v8 fun v36=>
lD W T_int v36 fun v37 W=>
oK (idxA 7 1 x7 v37) fun v38=>
lD W T_int64 v38 fun v39 W=>
oA 1 v8 fun v40=>
lD W T_int64 v40 fun v41 W=>
oK (foldP max2P [v39, v41]) fun v42=>
oK (idxA 7 1 x7 v35) fun v43=>
sT W T_int64 v43 v42 fun _ W=>
K1 [x3, x5, v33, x7, x15] W)) (
J1 [x5, x6, x7] W)
def S.inst_Table_Would.body (R : VK) (v0 v1 : Value) (W : World) : Prop :=
eF W (Instr.box T_api_Dot v1) fun v3 W=>
eF W (Instr.alloc T_vec_Vec true (.tuple #[])) fun v5 W=>
oK (bldP (fun i => some (i * 1, 1)) [.int .i64 0, .int .i64 0, .int .i64 0, .int .i64 0, .int .i64 0, .int .i64 0, .int .i64 0] []) fun v10=>
eF W (Instr.alloc T_vec_Vec true (.tuple #[])) fun v7 W=>
sT W T_vec_Vec v7 v10 fun _ W=>
joinK (fun s W => S.inst_Table_Would.j1 R (nthv s 0) (nthv s 1) (nthv s 2) W) (fun J1 =>
oK (nilP v0) fun v12=>
oA 0 v12 fun v13=>
lD W T_m_api_Dot_inst_Rec v13 fun v14 W=>
eF W (Instr.range T_m_api_Dot_inst_Rec v14) fun v15 W=>
loopK (fun K1 s W => S.inst_Table_Would.l1 J1 K1 (nthv s 0) (nthv s 1) (nthv s 2) (nthv s 3) (nthv s 4) W) [v3, v5, (nI 0), v7, v15] W)
theorem S.inst_Table_Would.call {R : VK} {v0 v1 : Value} {W : World} (h : S.inst_Table_Would.body R v0 v1 W) : callK PR F_inst_Table_Would [v0, v1] R W :=
callS (fn := Tryz.f71) (h := (.t (.t (.at [5, 6, 7] (.t (.at [3, 5, 6, 7, 15] (.t (.two (.t .n) (.t (.two (.t (.t .n)) (.t .n))))) .n)) (.t .n))))) h
def S.inst_Dot.body (R : VK) (v0 : Value) (W : World) : Prop :=
eF W (Instr.box T_api_Dot v0) fun v1 W=>
oA 0 v1 fun v3=>
lD W T_int v3 fun v4 W=>
cL W F_vec_Rep [v4] fun v5 W=>
gA W v5 true 1 v1 fun v7 W=>
gL W v5 true T_int64 v7 fun v8 W=>
gP W v5 true (binP .geq v8 (nI 1)) fun v9 W=>
oK (pickP v5 v9 (.bool false)) fun v10=>
gA W v10 true 1 v1 fun v12 W=>
gL W v10 true T_int64 v12 fun v13 W=>
gP W v10 true (binP .leq v13 (nI 1000)) fun v14 W=>
oK (pickP v10 v14 (.bool false)) fun v15=>
R v15 W
theorem S.inst_Dot.call {R : VK} {v0 : Value} {W : World} (h : S.inst_Dot.body R v0 W) : callK PR F_inst_Dot [v0] R W :=
callS (fn := Tryz.f89) (h := (.t (.t .n))) h
def S.inst_content.j1 (R : VK) (x0 x1 : Value) (W : World) : Prop :=
oK (binP .geq x1 (nI 0)) fun v21=>
gX W v21 true x1 fun v23 W=>
gP W v21 true (binP .leq v23 (nI 1099511627776)) fun v24 W=>
oK (pickP v21 v24 (.bool false)) fun v25=>
gX W v25 true x0 fun v27 W=>
gP W v25 true (lenP (.slice T_uint8) v27) fun v28 W=>
gP W v25 true (binP .leq v28 (nI 300)) fun v29 W=>
oK (pickP v25 v29 (.bool false)) fun v30=>
R v30 W
def S.inst_content.l1 (R : VK) (J1 : LK) (K1 : LK) (x0 x1 x9 x10 : Value) (W : World) : Prop :=
oK (binP .lss x10 (nI 7)) fun v11=>
ifK v11 (
oK (idxV 7 false 1 x9 x10) fun v12=>
oK (binP .lss v12 (nI 0)) fun v14=>
gX W v14 false v12 fun v16 W=>
gP W v14 false (binP .gtr v16 (nI 1000)) fun v17 W=>
oK (pickP v14 (.bool true) v17) fun v18=>
ifK v18 (
R (.bool false) W) (
oK (binP .add x10 (nI 1)) fun v19=>
K1 [x0, x1, x9, v19] W)) (
J1 [x0, x1] W)
def S.inst_content.body (R : VK) (v0 v1 v2 : Value) (W : World) : Prop :=
eF W (Instr.box T_vec_Vec v2) fun v5 W=>
joinK (fun s W => S.inst_content.j1 R (nthv s 0) (nthv s 1) W) (fun J1 =>
lD W T_vec_Vec v5 fun v9 W=>
loopK (fun K1 s W => S.inst_content.l1 R J1 K1 (nthv s 0) (nthv s 1) (nthv s 2) (nthv s 3) W) [v0, v1, v9, (nI 0)] W)
theorem S.inst_content.call {R : VK} {v0 v1 v2 : Value} {W : World} (h : S.inst_content.body R v0 v1 v2 W) : callK PR F_inst_content [v0, v1, v2] R W :=
callS (fn := Tryz.f91) (h := (.t (.at [0, 1] (.t (.at [0, 1, 9, 10] (.t (.two (.t .n) (.two (.t (.t (.two (.t .n) .n))) .n))) .n)) (.t .n)))) h
def S.inst_Table_All.body (R : VK) (v0 : Value) (W : World) : Prop :=
eF W (Instr.box T_p_inst_Table v0) fun v1 W=>
lD W T_p_inst_Table v1 fun v4 W=>
oK (nilP v4) fun v5=>
oA 0 v5 fun v6=>
lD W T_m_api_Dot_inst_Rec v6 fun v7 W=>
cL W F_maps_Keys_map_api_Dot_inst_Rec_api_Dot_inst_Rec [v7] fun v8 W=>
cL W F_slices_SortedFunc_api_Dot [v8, (.func (.func F_dots_Order) #[] #[])] fun v9 W=>
cL W F_slices_DeleteFunc_api_Dot_api_Dot [v9, (.func (.func F_inst_Table_All_1) #[] #[v1])] fun v12 W=>
R v12 W
theorem S.inst_Table_All.call {R : VK} {v0 : Value} {W : World} (h : S.inst_Table_All.body R v0 W) : callK PR F_inst_Table_All [v0] R W :=
callS (fn := Tryz.f27) (h := (.t (.t (.t .n)))) h
def S.inst_Table_Promised.body (R : VK) (v0 : Value) (W : World) : Prop :=
oK (nilP v0) fun v4=>
oA 0 v4 fun v5=>
lD W T_m_api_Dot_inst_Rec v5 fun v6 W=>
cL W F_maps_Keys_map_api_Dot_inst_Rec_api_Dot_inst_Rec [v6] fun v7 W=>
cL W F_slices_SortedFunc_api_Dot [v7, (.func (.func F_dots_Order) #[] #[])] fun v8 W=>
R v8 W
theorem S.inst_Table_Promised.call {R : VK} {v0 : Value} {W : World} (h : S.inst_Table_Promised.body R v0 W) : callK PR F_inst_Table_Promised [v0] R W :=
callS (fn := Tryz.f36) (h := (.t (.t .n))) h
def S.inst_Table_All_1.body (R : VK) (v0 v1 : Value) (W : World) : Prop :=
eF W (Instr.box T_api_Dot v0) fun v2 W=>
lD (tick W) T_p_inst_Table v1 fun v4 W=>
oK (nilP v4) fun v5=>
oA 0 v5 fun v6=>
lD W T_m_api_Dot_inst_Rec v6 fun v7 W=>
lD W T_api_Dot v2 fun v8 W=>
rD W (Instr.lookup T_m_api_Dot_inst_Rec v7 v8 false) fun v9 W=>
oK (fldV false 0 1 v9) fun v10=>
oK (binP .eql v10 (nI 0)) fun v11=>
R v11 W
theorem S.inst_Table_All_1.call {R : VK} {v0 v1 : Value} {W : World} (h : S.inst_Table_All_1.body R v0 v1 W) : callK PR F_inst_Table_All_1 [v0, v1] R W :=
callS (fn := Tryz.f44) (h := (.t (.t .n))) h
def S.slices_SortedFunc_api_Dot.body (R : VK) (v0 v1 : Value) (W : World) : Prop :=
cL W F_slices_Collect_api_Dot [v0] fun v7 W=>
cL W F_slices_SortFunc_api_Dot_api_Dot [v7, v1] fun v10 W=>
R v7 W
theorem S.slices_SortedFunc_api_Dot.call {R : VK} {v0 v1 : Value} {W : World} (h : S.slices_SortedFunc_api_Dot.body R v0 v1 W) : callK PR F_slices_SortedFunc_api_Dot [v0, v1] R W :=
callS (fn := Tryz.f40) (h := (.t (.t (.t (.t .n))))) h
end Go.Proofs.YtfhacbhgmnhmlaaGreat
namespace Go.Proofs.YtfhacbhgmnhmlaaGreat
set_option linter.unusedVariables false
set_option linter.unusedSimpArgs false
open Go.Eng
def S.bytes_Clone.body (R : VK) (v0 : Value) (W : World) : Prop :=
oK (eqP (.slice T_uint8) .eql v0 (.slice none 0 0)) fun v4=>
ifK v4 (
R (.slice none 0 0) W) (
eF W (Instr.buildSlice T_s_uint8 0 #[]) fun v5 W=>
eF W (Builtin.append_ #[T_s_uint8, T_s_uint8] T_s_uint8 #[v5, v0]) fun v7 W=>
R v7 W)
theorem S.bytes_Clone.call {R : VK} {v0 : Value} {W : World} (h : S.bytes_Clone.body R v0 W) : callK PR F_bytes_Clone [v0] R W :=
callS (fn := Tryz.f56) (h := (.t (.two (.t (.two (.t .n) .n)) (.t .n)))) h
end Go.Proofs.YtfhacbhgmnhmlaaGreat
namespace Go.Proofs.YtfhacbhgmnhmlaaGreat
set_option linter.unusedVariables false
set_option linter.unusedSimpArgs false
open Go Go.Eng
section
variable {W0 W : World} {L L' : List Asn}
theorem bytesClone {a : Option Addr} {l : List UInt8} {c : Nat} {k : Value → World → Prop} (h : St W0 L W) [hr : Rd W0 L a B8 l] (hl : l.length < 70368744177664)
  (hk : ∀ a' c' W', St W0 (arr B8 T_uint8 a' c' l :: L) W' → k (.slice a' l.length c') W') : callK PR F_bytes_Clone [.slice a l.length c] k W := by
 apply S.bytes_Clone.call
 delta S.bytes_Clone.body oK oA rD lD eF eU sT cL vC gD gX gP gA gR gL gE gU gC gV hL sB nI
 cases a with
 | none =>
  have hl0 : l = [] := by
   rcases Classical.em (l = []) with h0 | h0
   ·exact h0
   ·obtain ⟨g, o, h1, _⟩ := Rd.at (A := B8) (l := l) (a := none) h h0
    cases h1
  subst hl0
  simp -implicitDefEqProofs only [SE, SU, SV]
  exact hk none 0 W (h.ent (arr_nil _ _))
 | some ad =>
  simp -implicitDefEqProofs only [SE, SU, SV]
  refine bs0 B8 h fun a1 c1 W1 h1 => ?_
  refine appA (a := a1) (l := []) (m := l) h1 rfl (by simp; omega) (by simp [maxLen]; omega) fun a2 c2 W2 h2 => ?_
  exact hk a2 c2 W2 h2
@[reducible] def fch (x : BSl) : Asn := arr B8 T_uint8 x.a x.c x.bs
theorem fch0 (L : List Asn) : ent L (fch ⟨none, 0, []⟩ :: L) := arr_nil _ _
def InB (x : BSl) (B : List BSl) : Prop := x.bs = [] ∨ x ∈ B
theorem InB.cons {x y : BSl} {B : List BSl} (h : InB x B) : InB x (y :: B) := h.imp id fun h => List.mem_cons_of_mem _ h
theorem InB.head (x : BSl) (B : List BSl) : InB x (x :: B) := .inr (by simp)
theorem InB.nil (x : BSl) (B : List BSl) (h : x.bs = []) : InB x B := .inl h
theorem rdMany {x : BSl} {B : List BSl} (hx : InB x B) : Rd W0 (many fch B :: L) x.a B8 x.bs := ⟨fun W h => by
 rcases hx with hx | hx
 ·rw [hx]; exact .inl rfl
 ·obtain ⟨A, C, rfl⟩ := List.append_of_mem hx
  have h1 := h.ent ((many_perm (F := fch) (List.perm_middle (a := x) (l₁ := A) (l₂ := C))).trans (many_cons _ _))
  have hr : Rd W0 (arr B8 T_uint8 x.a x.c x.bs :: many fch (A ++ C) :: L) x.a B8 x.bs := inferInstance
  exact hr.ok W h1⟩
end
end Go.Proofs.YtfhacbhgmnhmlaaGreat
namespace Go.Proofs.YtfhacbhgmnhmlaaGreat
set_option linter.unusedVariables false
set_option linter.unusedSimpArgs false
open Go Go.Eng
abbrev KD : Dot → Value := fun d => .agg #[.int .i64 d.rep, .int .i64 d.n]
set_option maxRecDepth 100000 in
instance keyDot : KeyT PR T_api_Dot KD := KeyT.agg (cs := fun d => [.int .i64 d.rep, .int .i64 d.n]) (fun _ => rfl) (d := (PR.underlying T_api_Dot).getD .bool) (by kernel_rfl) (fun a b => rfl) (fun a b => by
  cases a; cases b
  simp only [eqC, eq1, if_true, Bool.and_true, Dot.mk.injEq]
  congr 1
  rw [Bool.eq_iff_iff]
  simp) (fun k => by simp [KD, Instr.sameBits]) (fun w em k => by kernel_rfl)
section
variable {W0 W : World} {L L' : List Asn}
instance instDot (d e : Int) : Pure0 PR F_inst_Dot [.agg #[.int .i64 d, .int .i64 e]] (.bool (Dot.okI ⟨d, e⟩)) := ⟨fun W => by
 apply S.inst_Dot.call
 delta S.inst_Dot.body oK oA rD lD eF eU sT cL vC gD gX gP gA gR gL gE gU gC gV hL sB nI
 have h := St.start W
 (repeat' (first | (first | ((with_reducible first | refine w1 ?_ | refine w3 ?_ | refine w4 ?_ | refine w11 ?_ | refine stb_n ?_); intros) | ((with_reducible first | refine v5 ?_ | refine v6 ?_ | refine v7 ?_ | refine ve ?_ | refine vn ?_); refine ⟨_, rfl, ?_⟩) | ((with_reducible first | refine v8 ?_ ?_ | refine v9 ?_ ?_ | refine v10 ?_ ?_ | refine v12 ?_ ?_); exact rfl; intros) | ((with_reducible refine w2 ?_); try simp -implicitDefEqProofs only [SE, SU, SV]; intros) | ((with_reducible refine w5 ?_ ?_); simp; refine ⟨_, rfl, ?_⟩) | ((with_reducible refine w8 ?_ ?_ ?_); exact rfl; simp; intros) | ((with_reducible refine w12 ?_ ?_ ?_ ?_); simp; simp; simp [oneC]; intros) | (refine okF_i (bldP_eq rfl) ?_; try simp only [BLS, SB, Nat.reduceAdd])) | simp -implicitDefEqProofs only [SE, SU, SV] | ((first | refine ifK_b (fun hb => ?_) (fun hb => ?_) | refine gdK_b (fun hb => ?_) (fun hb => ?_)) <;> (try simp only [Bool.not_eq_true', Bool.not_eq_false'] at hb) <;> (try rw [hb]) <;> (first | replace hb := of_decide_eq_true hb | replace hb := of_decide_eq_false hb | (simp only [Bool.and_eq_true, Bool.and_eq_false_iff, Bool.or_eq_true, Bool.or_eq_false_iff, decide_eq_true_eq, decide_eq_false_iff_not, Bool.not_eq_true', Bool.not_eq_false'] at hb) | skip))))
 all_goals (refine ⟨?_, St.nil (by assumption)⟩; congr 1; unfold Dot.okI; simp only; (first | rfl | (rw [decide_eq_decide]; omega) | (symm; rw [decide_eq_true_eq]; omega) | (symm; rw [decide_eq_false_iff_not]; omega) | (simp; omega)))⟩
theorem idxV7i {x : P7 Int} {i : Nat} (hi : i < 7) : idxV 7 false 1 (.agg #[.int .i64 x.x0, .int .i64 x.x1, .int .i64 x.x2, .int .i64 x.x3, .int .i64 x.x4, .int .i64 x.x5, .int .i64 x.x6]) (.int .i64 (i : Int)) = some (.int .i64 (x.get i)) := by
 rcases P7.cases7 hi with rfl | rfl | rfl | rfl | rfl | rfl | rfl <;> rfl
theorem depsOk_iff (v : P7 Int) : depsOk v = true ↔ ∀ i, i < 7 → 0 ≤ v.get i ∧ v.get i ≤ 1000 := by
 simp only [depsOk, P7.list, List.all_cons, List.all_nil, Bool.and_true, Bool.and_eq_true, decide_eq_true_eq]
 constructor
 ·rintro ⟨h0, h1, h2, h3, h4, h5, h6⟩ i hi
  rcases P7.cases7 hi with rfl | rfl | rfl | rfl | rfl | rfl | rfl <;> assumption
 ·intro h
  exact ⟨h 0 (by omega), h 1 (by omega), h 2 (by omega), h 3 (by omega), h 4 (by omega), h 5 (by omega), h 6 (by omega)⟩
theorem instContent {a : Option Addr} {n c : Nat} {q : Int} {v : P7 Int} {k : Value → World → Prop} (h : St W0 L W) (hk : ∀ W', St W0 L W' → k (.bool (contentOk n q v)) W') :
  callK PR F_inst_content [.slice a n c, .int .i64 q, .agg #[.int .i64 v.x0, .int .i64 v.x1, .int .i64 v.x2, .int .i64 v.x3, .int .i64 v.x4, .int .i64 v.x5, .int .i64 v.x6]] k W := by
 apply S.inst_content.call
 delta S.inst_content.body oK oA rD lD eF eU sT cL vC gD gX gP gA gR gL gE gU gC gV hL sB nI
 refine bxa h fun b W1 h => ?_
 refine joinK_i ?_
 (repeat (first | ((with_reducible refine v5 ?_); refine ⟨_, rfl, ?_⟩) | simp -implicitDefEqProofs only [SE, SU, SV]))
 refine loop_c (σ := Unit) 7 (fun i _ => [.slice a n c, .int .i64 q, .agg #[.int .i64 v.x0, .int .i64 v.x1, .int .i64 v.x2, .int .i64 v.x3, .int .i64 v.x4, .int .i64 v.x5, .int .i64 v.x6], .int .i64 i]) (fun i _ W1 => (∀ j, j < i → 0 ≤ v.get j ∧ v.get j ≤ 1000) ∧ St W0 (cells b [.int .i64 v.x0, .int .i64 v.x1, .int .i64 v.x2, .int .i64 v.x3, .int .i64 v.x4, .int .i64 v.x5, .int .i64 v.x6] T_vec_Vec :: L) W1) () rfl ⟨fun j h => by omega, h⟩ ?_
 clear h
 rintro K i _ W2 hi ⟨hv, h⟩ hK
 simp -implicitDefEqProofs only [SE, SU, SV]
 delta S.inst_content.l1 oK oA rD lD eF eU sT cL vC gD gX gP gA gR gL gE gU gC gV hL sB nI
 by_cases hlt : (i : Int) < 7
 ·have e := idxV7i (x := v) (i := i) (by omega)
  by_cases h1 : v.get i < 0
  ·have hc : contentOk n q v = false := by
    unfold contentOk
    rw [Bool.and_eq_false_iff]; left
    rw [Bool.eq_false_iff]
    intro hd
    have := (depsOk_iff v).1 hd i (by omega)
    omega
   rw [hc] at hk
   (repeat simp -implicitDefEqProofs only [SE, SU, SV, hlt, e, h1])
   exact hk _ (St.drop h)
  ·by_cases h2 : 1000 < v.get i
   ·have hc : contentOk n q v = false := by
     unfold contentOk
     rw [Bool.and_eq_false_iff]; left
     rw [Bool.eq_false_iff]
     intro hd
     have := (depsOk_iff v).1 hd i (by omega)
     omega
    rw [hc] at hk
    (repeat simp -implicitDefEqProofs only [SE, SU, SV, hlt, e, h1, h2])
    exact hk _ (St.drop h)
   ·have ew : IntKind.i64.wrap ((i : Int) + 1) = ((i + 1 : Nat) : Int) := by rw [i64w]; omega
    (repeat simp -implicitDefEqProofs only [SE, SU, SV, hlt, e, h1, h2, ew])
    refine hK () _ (by omega) ⟨fun j hj => ?_, h⟩
    by_cases hji : j = i
    ·subst hji; omega
    ·exact hv j (by omega)
 ·(repeat simp -implicitDefEqProofs only [SE, SU, SV, hlt])
  have hd : depsOk v = true := (depsOk_iff v).2 fun j hj => hv j (by omega)
  delta S.inst_content.j1 oK oA rD lD eF eU sT cL vC gD gX gP gA gR gL gE gU gC gV hL sB nI
  unfold contentOk at hk
  rw [hd, Bool.true_and] at hk
  clear hK
  (repeat' (first | (first | ((with_reducible first | refine w1 ?_ | refine w3 ?_ | refine w4 ?_ | refine w11 ?_ | refine stb_n ?_); intros) | ((with_reducible first | refine v5 ?_ | refine v6 ?_ | refine v7 ?_ | refine ve ?_ | refine vn ?_); refine ⟨_, rfl, ?_⟩) | ((with_reducible first | refine v8 ?_ ?_ | refine v9 ?_ ?_ | refine v10 ?_ ?_ | refine v12 ?_ ?_); exact rfl; intros) | ((with_reducible refine w2 ?_); try simp -implicitDefEqProofs only [SE, SU, SV]; intros) | ((with_reducible refine w5 ?_ ?_); simp; refine ⟨_, rfl, ?_⟩) | ((with_reducible refine w8 ?_ ?_ ?_); exact rfl; simp; intros) | ((with_reducible refine w12 ?_ ?_ ?_ ?_); simp; simp; simp [oneC]; intros) | (refine okF_i (bldP_eq rfl) ?_; try simp only [BLS, SB, Nat.reduceAdd])) | simp -implicitDefEqProofs only [SE, SU, SV] | ((first | refine ifK_b (fun hb => ?_) (fun hb => ?_) | refine gdK_b (fun hb => ?_) (fun hb => ?_)) <;> (try simp only [Bool.not_eq_true', Bool.not_eq_false'] at hb) <;> (try rw [hb]) <;> (first | replace hb := of_decide_eq_true hb | replace hb := of_decide_eq_false hb | (simp only [Bool.and_eq_true, Bool.and_eq_false_iff, Bool.or_eq_true, Bool.or_eq_false_iff, decide_eq_true_eq, decide_eq_false_iff_not, Bool.not_eq_true', Bool.not_eq_false'] at hb) | skip))))
  all_goals
   refine cast (congrArg (fun b => k (.bool b) W2) ?_) (hk W2 (St.drop h))
   (first | rfl | (rw [decide_eq_decide]; omega) | (symm; rw [decide_eq_true_eq]; omega) | (symm; rw [decide_eq_false_iff_not]; omega) | (simp; omega))
theorem vecMerge {a b : P7 Int} {k : Value → World → Prop} (h : St W0 L W) (hk : ∀ W', St W0 L W' → k (.agg #[.int .i64 (vmerge a b).x0, .int .i64 (vmerge a b).x1, .int .i64 (vmerge a b).x2, .int .i64 (vmerge a b).x3, .int .i64 (vmerge a b).x4, .int .i64 (vmerge a b).x5, .int .i64 (vmerge a b).x6]) W') : callK PR F_vec_Merge [.agg #[.int .i64 a.x0, .int .i64 a.x1, .int .i64 a.x2, .int .i64 a.x3, .int .i64 a.x4, .int .i64 a.x5, .int .i64 a.x6], .agg #[.int .i64 b.x0, .int .i64 b.x1, .int .i64 b.x2, .int .i64 b.x3, .int .i64 b.x4, .int .i64 b.x5, .int .i64 b.x6]] k W := by
 apply S.vec_Merge.call
 delta S.vec_Merge.body oK oA rD lD eF eU sT cL vC gD gX gP gA gR gL gE gU gC gV hL sB nI
 refine bxa h fun p W1 h => ?_
 refine bxa h fun q W1 h => ?_
 refine al h fun r W1 h => ?_
 refine joinK_i ?_
 refine loop_c (σ := P7 Int) 7 (fun i _ => [.pointer (some ⟨p, 0, none⟩), .pointer (some ⟨q, 0, none⟩), .pointer (some ⟨r, 0, none⟩), .int .i64 i])
  (fun i s W1 => (∀ j, j < 7 → s.get j = if j < i then imax (a.get j) (b.get j) else a.get j) ∧ St W0 (cells r [.int .i64 (P7.all 0).x0, .int .i64 (P7.all 0).x1, .int .i64 (P7.all 0).x2, .int .i64 (P7.all 0).x3, .int .i64 (P7.all 0).x4, .int .i64 (P7.all 0).x5, .int .i64 (P7.all 0).x6] T_vec_Vec :: cells q [.int .i64 b.x0, .int .i64 b.x1, .int .i64 b.x2, .int .i64 b.x3, .int .i64 b.x4, .int .i64 b.x5, .int .i64 b.x6] T_vec_Vec :: cells p [.int .i64 s.x0, .int .i64 s.x1, .int .i64 s.x2, .int .i64 s.x3, .int .i64 s.x4, .int .i64 s.x5, .int .i64 s.x6] T_vec_Vec :: L) W1)
  a rfl ⟨fun j h => by simp, h⟩ ?_
 clear h
 rintro K i s W2 hi ⟨hs, h⟩ hK
 simp -implicitDefEqProofs only [SE, SU, SV]
 delta S.vec_Merge.l1 oK oA rD lD eF eU sT cL vC gD gX gP gA gR gL gE gU gC gV hL sB nI
 have ew : IntKind.i64.wrap ((i : Int) + 1) = ((i + 1 : Nat) : Int) := by rw [i64w]; omega
 by_cases hlt : i < 7
 ·have hK' : ∀ W', St W0 (cells r [.int .i64 (P7.all 0).x0, .int .i64 (P7.all 0).x1, .int .i64 (P7.all 0).x2, .int .i64 (P7.all 0).x3, .int .i64 (P7.all 0).x4, .int .i64 (P7.all 0).x5, .int .i64 (P7.all 0).x6] T_vec_Vec :: cells q [.int .i64 b.x0, .int .i64 b.x1, .int .i64 b.x2, .int .i64 b.x3, .int .i64 b.x4, .int .i64 b.x5, .int .i64 b.x6] T_vec_Vec :: cells p [.int .i64 (s.set i (imax (s.get i) (b.get i))).x0, .int .i64 (s.set i (imax (s.get i) (b.get i))).x1, .int .i64 (s.set i (imax (s.get i) (b.get i))).x2, .int .i64 (s.set i (imax (s.get i) (b.get i))).x3, .int .i64 (s.set i (imax (s.get i) (b.get i))).x4, .int .i64 (s.set i (imax (s.get i) (b.get i))).x5, .int .i64 (s.set i (imax (s.get i) (b.get i))).x6] T_vec_Vec :: L) W' → K [.pointer (some ⟨p, 0, none⟩), .pointer (some ⟨q, 0, none⟩), .pointer (some ⟨r, 0, none⟩), .int .i64 ((i + 1 : Nat) : Int)] W' :=
   fun W' h => hK _ W' hlt ⟨fun j hj => by
    rw [P7.get_set _ _ _ _ hj]
    by_cases hji : j = i
    ·subst hji; rw [if_pos rfl, if_pos (by omega), hs j hj, if_neg (by omega)]
    ·rw [if_neg hji, hs j hj]
     by_cases h1 : j < i
     ·rw [if_pos h1, if_pos (by omega)]
     ·rw [if_neg h1, if_neg (by omega)], h⟩
  clear hK hs
  have ia : ∀ z, idxA 7 1 (.pointer (some ⟨z, 0, none⟩)) (.int .i64 (i : Int)) = some (.pointer (some ⟨z, i, none⟩)) := fun z => by rw [idxA_blk (by omega) (by omega)]; simp
  have e1 : decide ((i : Int) < 7) = true := decide_eq_true (by omega)
  rcases P7.cases7 hlt with rfl | rfl | rfl | rfl | rfl | rfl | rfl
  all_goals
   (repeat (first | ((with_reducible refine v5 ?_); refine ⟨_, rfl, ?_⟩) | ((with_reducible refine v12 ?_ ?_); exact rfl; intros) | simp -implicitDefEqProofs only [SE, SU, SV, e1, ia, max2i, ew]))
   exact hK' _ (by assumption)
 ·have e1 : decide ((i : Int) < 7) = false := decide_eq_false (by omega)
  (repeat simp -implicitDefEqProofs only [SE, SU, SV, e1])
  delta S.vec_Merge.j1 oK oA rD lD eF eU sT cL vC gD gX gP gA gR gL gE gU gC gV hL sB nI
  (repeat (first | ((with_reducible refine v5 ?_); refine ⟨_, rfl, ?_⟩) | ((with_reducible refine v12 ?_ ?_); exact rfl; intros) | ((with_reducible refine w5 ?_ ?_); simp; refine ⟨_, rfl, ?_⟩) | simp -implicitDefEqProofs only [SE, SU, SV]))
  have hi7 : i = 7 := by omega
  subst hi7
  have : s = vmerge a b := P7.ext7 fun j hj => by rw [hs j hj, if_pos hj, vmerge, P7.get_zip]
  rw [this] at *
  exact hk _ (St.wk (by assumption))
end
end Go.Proofs.YtfhacbhgmnhmlaaGreat
namespace Go.Proofs.YtfhacbhgmnhmlaaGreat
set_option linter.unusedVariables false
set_option linter.unusedSimpArgs false
open Go Go.Eng
theorem idxA7 {z i : Nat} (hi : i < 7) : idxA 7 1 (.pointer (some ⟨z, 0, none⟩)) (.int .i64 (i : Int)) = some (.pointer (some ⟨z, i, none⟩)) := by
 rw [idxA_blk (by omega) (by omega)]; simp
theorem idxA7i {z : Nat} {i : Int} (h0 : 0 ≤ i) (hi : i < 7) : idxA 7 1 (.pointer (some ⟨z, 0, none⟩)) (.int .i64 i) = some (.pointer (some ⟨z, i.toNat, none⟩)) := by
 have := idxA7 (z := z) (i := i.toNat) (by omega)
 rwa [Int.toNat_of_nonneg h0] at this
end Go.Proofs.YtfhacbhgmnhmlaaGreat
namespace Go.Eng
set_option linter.unusedVariables false
set_option linter.unusedSimpArgs false
open Go Go.RowKit Go.Sort Go.Proofs
section
variable {P : Program} {W0 W W' : World} {L L' : List Asn} {e : TypeId}
theorem St.grown (h : St W [] W') : ∃ q os, W' = grow (W.drewN q) os := by
 obtain ⟨⟨⟨h1, h2, h3, h4, h5⟩, h6⟩, _⟩ := h
 refine ⟨W'.drawn - W.drawn, W'.heap.extract W.heap.size W'.heap.size, ?_⟩
 obtain ⟨hp, tp, dr, os, ou⟩ := W'
 simp only at h1 h2 h3 h4 h5 h6
 subst h1 h2 h3
 simp only [grow, World.drewN, World.mk.injEq, true_and, and_true]
 refine ⟨?_, by omega⟩
 apply Array.ext_getElem?
 intro i
 by_cases hi : i < W.heap.size
 ·rw [h5 i hi, Array.getElem?_append_left hi]
 ·rw [Array.getElem?_append_right (by omega), Array.getElem?_extract]
  by_cases hj : i < hp.size
  ·rw [if_pos (by omega)]; congr 1; omega
  ·rw [if_neg (by omega), Array.getElem?_eq_none (by omega)]
theorem St.more (h : St W0 L W) (os : Array Obj) : St W0 L (grow W os) := by
 obtain ⟨hb, p, hs, ho⟩ := h
 have hk : ∀ k, k < W.heap.size → (grow W os).heap[k]? = W.heap[k]? := fun k hk => by
  show (W.heap ++ os)[k]? = _
  rw [Array.getElem?_append_left hk]
 refine ⟨hb.trans ⟨⟨rfl, rfl, rfl, by simp, fun k hk' => hk k (Nat.lt_of_lt_of_le hk' hb.size)⟩, Nat.le_refl _⟩, p, hs, fun b o hbo => ⟨(ho b o hbo).1, ?_⟩⟩
 rw [hk b (Array.getElem?_eq_some_iff.1 (ho b o hbo).2).1]
 exact (ho b o hbo).2
theorem St.ahead (h : St W0 L W) (n : Nat) : St W0 L (Sort.ahead W n) :=
 ⟨h.bel.trans ⟨⟨rfl, rfl, rfl, Nat.le_refl _, fun _ _ => rfl⟩, Nat.le_add_right _ _⟩, h.own⟩
theorem putCells_id {F : List Value} {cur : List Value} {o : Nat} (h : o + F.length ≤ cur.length) : putCells id o F.toArray cur.toArray = (cur.take o ++ F ++ cur.drop (o + F.length)).toArray := by
 apply Array.ext_getElem?
 intro i
 simp only [putCells, Array.getElem?_mapIdx, List.getElem?_toArray, List.size_toArray, id_eq]
 by_cases h1 : i < o
 ·rw [List.append_assoc, List.getElem?_append_left (by simp; omega), List.getElem?_take_of_lt h1]
  rw [List.getElem?_eq_getElem (by omega)]
  simp only [Option.map_some]
  rw [if_neg (by omega)]
 ·by_cases h2 : i < o + F.length
  ·rw [List.getElem?_append_left (by simp; omega), List.getElem?_append_right (by simp; omega)]
   simp only [List.length_take]
   rw [Nat.min_eq_left (by omega), List.getElem?_eq_getElem (by omega), List.getElem?_eq_getElem (by omega)]
   simp only [Option.map_some]
   rw [if_pos (by omega), getElem!_pos F.toArray _ (by simp; omega)]
   simp
  ·rw [List.getElem?_append_right (by simp; omega), List.getElem?_drop]
   simp only [List.length_append, List.length_take]
   rw [Nat.min_eq_left (by omega)]
   rw [show o + F.length + (i - (o + F.length)) = i by omega]
   cases hc : cur[i]? with
   | none => rfl
   | some v => simp only [Option.map_some]; rw [if_neg (by omega)]
theorem St.putRow {g o n : Nat} {cur F : List Value} {os : Array Obj} (h : St W0 (Eng.cells g cur e :: L) W) (hF : o + F.length ≤ cur.length) :
  St W0 (Eng.cells g (cur.take o ++ F ++ cur.drop (o + F.length)) e :: L) (grow (Sort.putRow id (Sort.ahead W n) g o F.toArray) os) := by
 refine St.more ?_ os
 obtain ⟨fr, hf, hb⟩ := (h.ahead n).cells
 have hbl := hb.blk.2
 have hlt : g < W.heap.size := (Array.getElem?_eq_some_iff.1 hbl).1
 have he : Sort.putRow id (Sort.ahead W n) g o F.toArray = { (Sort.ahead W n) with heap := (Sort.ahead W n).heap.setIfInBounds g (.cells (cur.take o ++ F ++ cur.drop (o + F.length)).toArray e fr) } := by
  unfold Sort.putRow mapBlock
  congr 1
  apply Array.ext_getElem?
  intro j
  rw [Array.getElem?_modify, Array.getElem?_setIfInBounds]
  by_cases hj : g = j
  ·subst hj
   rw [if_pos rfl, if_pos rfl, if_pos (show g < (Sort.ahead W n).heap.size from hlt), hbl]
   simp only [Option.map_some, onCells, putCells_id hF]
  ·rw [if_neg hj, if_neg hj]
 rw [he]
 refine (hb.setBlk _).weak fun p hp => ⟨fr, ?_, hp⟩
 intro j hj
 refine hf j ?_
 simp at hj
 omega
theorem cells_hold {g o : Nat} {cur : List Value} (h : St W0 (cells g cur e :: L) W) (n : Nat) (hn : o + n ≤ cur.length) : ∀ j, j < n → W.cell? ⟨g, o + j, none⟩ = cur[o + j]? ∧ W.frozen? ⟨g, o + j, none⟩ = false := fun j hj =>
 St.cellOf (L' := L) (b := g) (cs := cur) (T := e) h (o + j) (by omega)
end
section
variable {P : Program} {ρ : Go.Shelf.Ren} {W0 W W' : World} {L L' : List Asn} {e : TypeId} {α : Type} [Inhabited α] {A : Ly α}
theorem flatK_rows {k : Nat} (hk : A.sz = k) (l : List α) : (flatK A.row k l.toArray).toList = A.rows l := by
 subst hk
 refine List.ext_getElem? fun t => ?_
 by_cases ht : t < l.length * A.sz
 ·have h0 := get_flatK A.row A.sz l.toArray t (by simpa using ht)
  have hq : t / A.sz < l.length := Nat.div_lt_of_lt_mul (by rw [Nat.mul_comm]; exact ht)
  have hr : t % A.sz < A.sz := Nat.mod_lt _ A.pos
  have hs : t < (flatK A.row A.sz l.toArray).size := by simpa using ht
  rw [getElem!_pos _ t hs] at h0
  rw [Array.getElem?_toList, Array.getElem?_eq_getElem hs, h0]
  have e1 : (A.rows l)[t]? = (A.row l[t / A.sz])[t % A.sz]? := by
   rw [← Ly.rows_at hq, List.getElem?_take_of_lt hr, List.getElem?_drop, Nat.div_add_mod']
  rw [e1, getElem!_pos l.toArray _ (by simpa using hq), getElem!_pos _ _ (by rw [A.len]; exact hr), List.getElem?_eq_getElem (by rw [A.len]; exact hr)]
  simp
 ·rw [List.getElem?_eq_none (by simp; omega), List.getElem?_eq_none (by rw [Ly.rows_len]; omega)]
theorem sortFX (L6 : SlLaysF0.n6 P ρ) (aE : ∀ w, (isAgg (ρ.t 24)).run P w = .ok true w) (zE : ∀ w, (Go.sizeOf (ρ.t 24)).run P w = .ok A.sz w) (cf : α → α → Int) (hO : SWO (ltOf cf)) (hT : ∀ x y, (ltOf cf) x y = false → (ltOf cf) y x = false → x = y)
  (g : Nat) (cb : List Value) {a : Option Addr} {c : Nat} {l : List α} {k : Value → World → Prop} (eg : ∀ args w, (callFunc g args).run P w = .ok (.enter g args) w)
  (h : St W0 L W) [ho : Go.Eng.Own a L A e c l L'] (hc : ∀ x y W', St W0 L' W' → callK P g (.agg (A.row x).toArray :: .agg (A.row y).toArray :: cb) (fun v W'' => v = .int .i64 (cf x y) ∧ St W' [] W'') W')
  (hl : l.length < 4611686018427387904) (hk : ∀ W', St W0 (arr A e a c (l.mergeSort fun x y => !(ltOf cf) y x) :: L') W' → k (.tuple #[]) W') : callK P (ρ.f 6) [.slice a l.length c, .func (.func g) #[] cb.toArray] k W := by
 have h := h.took (a := a)
 have hf := h.arrFacts
 by_cases ha : a = none
 ·subst ha
  have hl0 : l = [] := List.eq_nil_of_length_eq_zero (by have := hf.2.2.1 rfl; omega)
  subst hl0
  refine (AnyF.slices_SortFunc_none L6 none c (.func (.func g) #[] cb.toArray) W).mono ?_
  rintro ed w' ⟨rfl, rfl⟩
  exact hk _ (by rw [List.mergeSort_nil]; exact h)
 ·obtain ⟨b, o, cur, rfl, h1, h2, h3⟩ := h.arrCells ha
  have hle : l.length * A.sz ≤ c * A.sz := Nat.mul_le_mul_right _ hf.1
  have hcell := cells_hold (o := o) h3 (l.length * A.sz) (by omega)
  have hH : HoldsK A.row A.sz W b o l.toArray := by
   intro j hj
   have hj' : j < l.length * A.sz := by simpa using hj
   refine ⟨?_, (hcell j hj').2⟩
   rw [(hcell j hj').1, getElem!_pos _ j hj]
   have e1 := flatK_rows (A := A) rfl l
   have e2 : (flatK A.row A.sz l.toArray)[j] = (flatK A.row A.sz l.toArray).toList[j]'(by simpa using hj) := by simp
   rw [e2]
   have e3 : (A.rows l)[j]? = cur[o + j]? := by rw [← h2, List.getElem?_take_of_lt hj', List.getElem?_drop]
   rw [← e3, ← e1, List.getElem?_eq_getElem (by simpa using hj)]
   rfl
  have hblk : b < W.heap.size := by
   obtain ⟨fr, _, hb⟩ := h3.cells
   exact (Array.getElem?_eq_some_iff.1 hb.blk.2).1
  have hcmp : CmpLays P g cb.toArray A.row A.sz cf b o l.toArray.size W := by
   intro m os dk hdk x y
   have hfs : (flatK A.row A.sz dk).toList.length = l.length * A.sz := by
    have := flatK_rows (A := A) rfl dk.toList
    rw [Array.toArray_toList] at this
    rw [this, Ly.rows_len, Array.length_toList, hdk, List.size_toArray]
   have hw := (St.putRow (n := m) (os := os) h3 (F := (flatK A.row A.sz dk).toList) (by rw [hfs]; exact Nat.le_trans (Nat.add_le_add_left hle o) h1)).drop
   rw [Array.toArray_toList] at hw
   have := hc x y (sortWorldK A.row A.sz W b o m dk os) hw
   refine (show Calls P g _ _ _ from ?_)
   have h5 : Calls P g (.agg (A.row x).toArray :: .agg (A.row y).toArray :: cb).toArray (sortWorldK A.row A.sz W b o m dk os) _ := this
   have e5 : (#[.agg (A.row x).toArray, .agg (A.row y).toArray] ++ cb.toArray : Array Value) = (.agg (A.row x).toArray :: .agg (A.row y).toArray :: cb).toArray := by simp
   rw [e5]
   refine h5.mono fun ed w' hq => ?_
   cases ed with
   | returned v => exact ⟨by rw [hq.1], hq.2.grown⟩
   | _ => exact hq.elim
  have hcon := AnyQ.slices_SortFunc_total L6 A.sz aE zE A.row A.len (fun x v hv => ?_) cf hO g cb.toArray b o c l.toArray W eg hcmp hH hblk (by simpa using hl) hT
  ·have e0 : (#[.slice (some ⟨b, o, none⟩) l.toArray.size c, .func (.func g) #[] cb.toArray] : Array Value) = [.slice (some ⟨b, o, none⟩) l.length c, .func (.func g) #[] cb.toArray].toArray := by simp
   rw [e0] at hcon
   refine hcon.mono ?_
   rintro ed w' ⟨rfl, n, os, rfl⟩
   have hlen : (l.mergeSort fun x y => !(ltOf cf) y x).length = l.length := List.length_mergeSort _
   refine hk _ ?_
   unfold sortWorldK putRowK
   have e6 : flatK A.row A.sz (l.mergeSort fun x y => !(ltOf cf) y x).toArray = (A.rows (l.mergeSort fun x y => !(ltOf cf) y x)).toArray := by
    rw [← flatK_rows (A := A) rfl]
   rw [e6]
   have hrl : (A.rows (l.mergeSort fun x y => !(ltOf cf) y x)).length = l.length * A.sz := by rw [Ly.rows_len, hlen]
   refine (St.putRow (n := n) (os := os) h3 (F := A.rows (l.mergeSort fun x y => !(ltOf cf) y x)) (by omega)).ent (arr_of_cells (by omega) hf.2.1 ?_ ?_)
   ·simp only [List.length_append, List.length_take, List.length_drop]; omega
   ·rw [List.append_assoc, List.drop_append_of_le_length (by simp; omega), List.drop_take, Nat.sub_self, List.take_zero, List.nil_append, hlen, ← hrl, List.take_left]
  ·have := List.all_eq_true.1 (A.one x) v hv
   cases v <;> first | rfl | (simp [oneC] at this)
end
end Go.Eng
namespace Go.Proofs.YtfhacbhgmnhmlaaGreat
set_option linter.unusedVariables false
set_option linter.unusedSimpArgs false
open Go.Eng
def S.slices_DeleteFunc_order_Inst_order_Inst.j1 (R : VK) (x0 x5 : Value) (W : World) : Prop :=
oK (slcS 10 x0 (some x5) none none) fun v38=>
eF W (Builtin.clear_ #[T_s_order_Inst] T_t0 #[v38]) fun _ W=>
oK (slcS 10 x0 none (some x5) none) fun v41=>
R v41 W
def S.slices_DeleteFunc_order_Inst_order_Inst.j2 (K1 : LK) (x0 x1 x5 x6 : Value) (W : World) : Prop :=
oK (binP .add x6 (nI 1)) fun v21=>
K1 [x0, x1, x5, v21] W
def S.slices_DeleteFunc_order_Inst_order_Inst.l1 (J1 : LK) (K1 : LK) (x0 x1 x5 x6 : Value) (W : World) : Prop :=
oK (lenP (.slice T_order_Inst) x0) fun v18=>
oK (binP .lss x6 v18) fun v19=>
ifK v19 (
joinK (fun s W => S.slices_DeleteFunc_order_Inst_order_Inst.j2 K1 (nthv s 0) (nthv s 1) (nthv s 2) (nthv s 3) W) (fun J2 =>
oK (idxS 10 x0 x6) fun v24=>
lD W T_order_Inst v24 fun v25 W=>
eF W (Instr.alloc T_order_Inst true (.tuple #[])) fun v7 W=>
sT W T_order_Inst v7 v25 fun _ W=>
lD W T_order_Inst v7 fun v27 W=>
vC W x1 [v27] fun v28 W=>
oK (unP .not v28) fun v29=>
ifK v29 (
lD W T_order_Inst v7 fun v32 W=>
oK (idxS 10 x0 x5) fun v33=>
sT W T_order_Inst v33 v32 fun _ W=>
oK (binP .add x5 (nI 1)) fun v35=>
J2 [x0, x1, v35, x6] W) (
J2 [x0, x1, x5, x6] W))) (
J1 [x0, x5] W)
def S.slices_DeleteFunc_order_Inst_order_Inst.body (R : VK) (v0 v1 : Value) (W : World) : Prop :=
cL W F_slices_IndexFunc_order_Inst_order_Inst [v0, v1] fun v10 W=>
oK (binP .eql v10 (nI (-1))) fun v12=>
ifK v12 (
R v0 W) (
joinK (fun s W => S.slices_DeleteFunc_order_Inst_order_Inst.j1 R (nthv s 0) (nthv s 1) W) (fun J1 =>
oK (binP .add v10 (nI 1)) fun v15=>
loopK (fun K1 s W => S.slices_DeleteFunc_order_Inst_order_Inst.l1 J1 K1 (nthv s 0) (nthv s 1) (nthv s 2) (nthv s 3) W) [v0, v1, v10, v15] W))
theorem S.slices_DeleteFunc_order_Inst_order_Inst.call {R : VK} {v0 v1 : Value} {W : World} (h : S.slices_DeleteFunc_order_Inst_order_Inst.body R v0 v1 W) : callK PR F_slices_DeleteFunc_order_Inst_order_Inst [v0, v1] R W :=
callS (fn := Tryz.f47) (h := (.t (.t (.two (.t (.two (.t .n) .n)) (.at [0, 5] (.t (.at [0, 1, 5, 6] (.two (.t (.t .n)) (.at [0, 1, 5, 6] (.t (.t (.two (.t .n) .n))) .n)) .n)) (.t (.t .n))))))) h
def S.slices_Clone_order_Inst_order_Inst.body (R : VK) (v0 : Value) (W : World) : Prop :=
oK (eqP (.slice T_order_Inst) .eql v0 (.slice none 0 0)) fun v4=>
ifK v4 (
R (.slice none 0 0) W) (
eF W (Instr.buildSlice T_s_order_Inst 0 #[]) fun v5 W=>
eF W (Builtin.append_ #[T_s_order_Inst, T_s_order_Inst] T_s_order_Inst #[v5, v0]) fun v7 W=>
R v7 W)
theorem S.slices_Clone_order_Inst_order_Inst.call {R : VK} {v0 : Value} {W : World} (h : S.slices_Clone_order_Inst_order_Inst.body R v0 W) : callK PR F_slices_Clone_order_Inst_order_Inst [v0] R W :=
callS (fn := Tryz.f48) (h := (.t (.two (.t (.two (.t .n) .n)) (.t .n)))) h
def S.slices_IndexFunc_order_Inst_order_Inst.l1 (R : VK) (K1 : LK) (x0 x1 x7 x8 : Value) (W : World) : Prop :=
oK (binP .lss x8 x7) fun v9=>
ifK v9 (
oK (idxS 10 x0 x8) fun v14=>
lD W T_order_Inst v14 fun v15 W=>
vC W x1 [v15] fun v16 W=>
ifK v16 (
R x8 W) (
oK (binP .add x8 (nI 1)) fun v18=>
K1 [x0, x1, x7, v18] W)) (
R (nI (-1)) W)
def S.slices_IndexFunc_order_Inst_order_Inst.body (R : VK) (v0 v1 : Value) (W : World) : Prop :=
oK (lenP (.slice T_order_Inst) v0) fun v7=>
loopK (fun K1 s W => S.slices_IndexFunc_order_Inst_order_Inst.l1 R K1 (nthv s 0) (nthv s 1) (nthv s 2) (nthv s 3) W) [v0, v1, v7, (nI 0)] W
theorem S.slices_IndexFunc_order_Inst_order_Inst.call {R : VK} {v0 v1 : Value} {W : World} (h : S.slices_IndexFunc_order_Inst_order_Inst.body R v0 v1 W) : callK PR F_slices_IndexFunc_order_Inst_order_Inst [v0, v1] R W :=
callS (fn := Tryz.f81) (h := (.t (.two (.t (.at [0, 1, 7, 8] (.t (.two (.t .n) (.two (.t (.t (.two (.t .n) .n))) .n))) .n)) (.t .n)))) h
def S.slices_Index_int_int.l1 (R : VK) (K1 : LK) (x0 x1 x7 x8 : Value) (W : World) : Prop :=
oK (binP .lss x8 x7) fun v9=>
ifK v9 (
oK (idxS 1 x0 x8) fun v14=>
lD W T_int v14 fun v15 W=>
oK (binP .eql x1 v15) fun v16=>
ifK v16 (
R x8 W) (
oK (binP .add x8 (nI 1)) fun v18=>
K1 [x0, x1, x7, v18] W)) (
R (nI (-1)) W)
def S.slices_Index_int_int.body (R : VK) (v0 v1 : Value) (W : World) : Prop :=
oK (lenP (.slice T_int) v0) fun v7=>
loopK (fun K1 s W => S.slices_Index_int_int.l1 R K1 (nthv s 0) (nthv s 1) (nthv s 2) (nthv s 3) W) [v0, v1, v7, (nI 0)] W
theorem S.slices_Index_int_int.call {R : VK} {v0 v1 : Value} {W : World} (h : S.slices_Index_int_int.body R v0 v1 W) : callK PR F_slices_Index_int_int [v0, v1] R W :=
callS (fn := Tryz.f87) (h := (.t (.two (.t (.at [0, 1, 7, 8] (.t (.two (.t .n) (.two (.t (.t (.two (.t .n) .n))) .n))) .n)) (.t .n)))) h
def S.slices_Values_int_int.body (R : VK) (v0 : Value) (W : World) : Prop :=
eF W (Instr.box T_s_int v0) fun v1 W=>
R (.func (.func F_slices_Values_int_int_1) #[] #[v1]) W
theorem S.slices_Values_int_int.call {R : VK} {v0 : Value} {W : World} (h : S.slices_Values_int_int.body R v0 W) : callK PR F_slices_Values_int_int [v0] R W :=
callS (fn := Tryz.f136) (h := (.t (.t .n))) h
end Go.Proofs.YtfhacbhgmnhmlaaGreat
namespace Go.Proofs.YtfhacbhgmnhmlaaGreat
set_option linter.unusedVariables false
set_option linter.unusedSimpArgs false
open Go Go.Eng
def PredL {α : Type} (P : Program) (A : Ly α) (agg : Bool) (C : Asn) (fv : Value) (p : α → Bool) (l : List α) : Prop :=
 ∀ x ∈ l, ∀ (W0 : World) (L : List Asn) (W : World) (k : Value → World → Prop), St W0 (C :: L) W → (∀ W', St W0 (C :: L) W' → k (.bool (p x)) W') → vcK P fv [A.val agg x] k W
section
variable {W0 W : World} {L L' : List Asn} {α : Type} {A : Ly α} {C : Asn} {fv : Value} {p : α → Bool}
theorem indexFunc_order_Inst_order_Inst {a : Option Addr} {c : Nat} {l : List α} {k : Value → World → Prop} (hs : A.sz = 10) (h : St W0 (C :: L) W) [hr : Rd W0 L a A l] (hp : PredL PR A true C fv p l) (hl : l.length < 4611686018427387904)
  (hk : ∀ W', St W0 (C :: L) W' → k (.int .i64 (match l.findIdx? p with | some i => (i : Int) | none => -1)) W') : callK PR F_slices_IndexFunc_order_Inst_order_Inst [.slice a l.length c, fv] k W := by
 apply S.slices_IndexFunc_order_Inst_order_Inst.call
 delta S.slices_IndexFunc_order_Inst_order_Inst.body oK oA rD lD eF eU sT cL vC gD gX gP gA gR gL gE gU gC gV hL sB nI
 simp -implicitDefEqProofs only [SE, SU, SV]
 refine loop_c (σ := Unit) l.length (fun i _ => [.slice a l.length c, fv, .int .i64 l.length, .int .i64 i]) (fun i _ W1 => (∀ j, (hj : j < l.length) → j < i → p l[j] = false) ∧ St W0 (C :: L) W1) () rfl ⟨fun j _ h => by omega, h⟩ ?_
 clear h
 rintro K i _ W1 hi ⟨hno, h⟩ hK
 simp -implicitDefEqProofs only [SE, SU, SV]
 delta S.slices_IndexFunc_order_Inst_order_Inst.l1 oK oA rD lD eF eU sT cL vC gD gX gP gA gR gL gE gU gC gV hL sB nI
 simp -implicitDefEqProofs only [SE, SU, SV]
 refine ifK_d (fun hlt => ?_) (fun hge => ?_)
 ·have hib : i < l.length := by omega
  refine ixA (i := i) (a := a) (l := l) (A := A) (by assumption) hs rfl hib fun g o ha => ?_
  cases ha
  refine ldA0 (l := l) (A := A) (by assumption) hs hib (getL_val hs (by decide) _) (by simp) ?_
  refine hp l[i] (List.getElem_mem hib) W0 L W1 _ h fun W2 h => ?_
  cases hpx : p l[i] with
  | true =>
   simp -implicitDefEqProofs only [SE, SU, SV]
   have : l.findIdx? p = some i := by
    rw [List.findIdx?_eq_some_iff_getElem]
    exact ⟨hib, hpx, fun j hj => by rw [hno j (by omega) hj]; simp⟩
   rw [this] at hk
   exact hk _ h
  | false =>
   have ew : IntKind.i64.wrap ((i : Int) + 1) = ((i + 1 : Nat) : Int) := by rw [i64w]; omega
   simp -implicitDefEqProofs only [SE, SU, SV, ew]
   refine hK () _ hib ⟨fun j hj hji => ?_, h⟩
   by_cases e : j = i
   ·subst e; exact hpx
   ·exact hno j hj (by omega)
 ·have : l.findIdx? p = none := by
   rw [List.findIdx?_eq_none_iff]
   intro x hx
   obtain ⟨j, hj, rfl⟩ := List.getElem_of_mem hx
   exact hno j hj (by omega)
  rw [this] at hk
  exact hk _ h
theorem deleteFunc_order_Inst_order_Inst {a : Option Addr} {c : Nat} {l : List α} {k : Value → World → Prop} (hs : A.sz = 10) (h : St W0 (C :: arr A T_order_Inst a c l :: L) W) (hp : PredL PR A true C fv p l) (hl : l.length < 4611686018427387904)
  (hk : ∀ W', St W0 (C :: arr A T_order_Inst a c (l.filter (!p ·)) :: L) W' → k (.slice a (l.filter (!p ·)).length c) W') : callK PR F_slices_DeleteFunc_order_Inst_order_Inst [.slice a l.length c, fv] k W := by
 apply S.slices_DeleteFunc_order_Inst_order_Inst.call
 delta S.slices_DeleteFunc_order_Inst_order_Inst.body oK oA rD lD eF eU sT cL vC gD gX gP gA gR gL gE gU gC gV hL sB nI
 refine indexFunc_order_Inst_order_Inst (a := a) (l := l) hs h hp hl fun W1 h => ?_
 cases hf : l.findIdx? p with
 | none =>
  have : l.filter (!p ·) = l := by
   rw [List.filter_eq_self]
   intro x hx
   rw [List.findIdx?_eq_none_iff] at hf
   simp [hf x hx]
  rw [this] at hk
  (repeat simp -implicitDefEqProofs only [SE, SU, SV])
  exact hk _ h
 | some i =>
  rw [List.findIdx?_eq_some_iff_getElem] at hf
  obtain ⟨hil, hpi, hno⟩ := hf
  have e1 : decide ((i : Int) = -1) = false := decide_eq_false (by omega)
  have ew : IntKind.i64.wrap ((i : Int) + 1) = ((i + 1 : Nat) : Int) := by rw [i64w]; omega
  simp only []
  simp -implicitDefEqProofs only [SE, SU, SV, e1]
  refine joinK_i ?_
  simp -implicitDefEqProofs only [SE, SU, SV, ew]
  have hpre : (l.take (i + 1)).filter (!p ·) = l.take i := by
   rw [List.take_succ_eq_append_getElem hil, List.filter_append]
   rw [show (l.take i).filter (!p ·) = l.take i by
    rw [List.filter_eq_self]
    intro x hx
    obtain ⟨j, hj, rfl⟩ := List.getElem_of_mem hx
    simp only [List.length_take] at hj
    rw [List.getElem_take]
    have := hno j (by omega)
    simpa using this]
   simp [hpi]
  refine loop_x (σ := Nat × Nat × List α) (fun x => [.slice a l.length c, fv, .int .i64 x.1, .int .i64 x.2.1])
   (fun x W1 => x.1 < x.2.1 ∧ x.2.1 ≤ l.length ∧ x.2.2.length = l.length ∧ x.2.2.take x.1 = (l.take x.2.1).filter (!p ·) ∧ (∀ j, x.2.1 ≤ j → x.2.2[j]? = l[j]?) ∧ St W0 (C :: arr A T_order_Inst a c x.2.2 :: L) W1)
   (fun x => l.length - x.2.1) (i, i + 1, l) rfl ⟨by simp, by simp only; omega, rfl, hpre.symm, fun _ _ => rfl, h⟩ ?_
  clear h hpre
  rintro K ⟨q, j, m⟩ W2 ⟨hqj, hjl, hml, hpre, hsuf, h⟩ hK
  simp only at hqj hjl hml hpre hsuf h hK ⊢
  simp -implicitDefEqProofs only [SE, SU, SV]
  delta S.slices_DeleteFunc_order_Inst_order_Inst.l1 oK oA rD lD eF eU sT cL vC gD gX gP gA gR gL gE gU gC gV hL sB nI
  simp -implicitDefEqProofs only [SE, SU, SV]
  refine ifK_d (fun hlt => ?_) (fun hge => ?_)
  ·have hjm : j < m.length := by omega
   have hjb : j < l.length := by omega
   have hmj : m[j] = l[j] := by
    have := hsuf j (Nat.le_refl _)
    rw [List.getElem?_eq_getElem hjm, List.getElem?_eq_getElem hjb] at this
    exact Option.some.inj this
   refine joinK_i ?_
   rw [← hml]
   refine ixA (i := j) (a := a) (l := m) (A := A) (by assumption) hs rfl hjm fun g o ha => ?_
   cases ha
   refine ldA0 (l := m) (A := A) (by assumption) hs hjm (getL_val hs (by decide) _) (by simp) ?_
   rw [hmj]
   have ew : IntKind.i64.wrap ((j : Int) + 1) = ((j + 1 : Nat) : Int) := by rw [i64w]; omega
   have ew2 : IntKind.i64.wrap ((q : Int) + 1) = ((q + 1 : Nat) : Int) := by rw [i64w]; omega
   refine newV (A := A) l[j] h hs (by decide) rfl fun b W3 h => ?_
   refine ldV (A := A) l[j] h hs (by decide) ?_
   refine hp l[j] (List.getElem_mem hjb) W0 _ _ _ (h.ent (ent.swap _ _ _)) fun W4 h => ?_
   cases hpx : p l[j] with
   | true =>
    simp -implicitDefEqProofs only [SE, SU, SV]
    delta S.slices_DeleteFunc_order_Inst_order_Inst.j2 oK oA rD lD eF eU sT cL vC gD gX gP gA gR gL gE gU gC gV hL sB nI
    simp -implicitDefEqProofs only [SE, SU, SV, ew]
    rw [hml]
    refine hK (q, j + 1, m) _ (by simp only; omega) ⟨by simp only; omega, by simp only; omega, hml, ?_, fun j' hj' => hsuf j' (by simp only at hj'; omega), h.drop2⟩
    simp only
    rw [hpre, List.take_succ_eq_append_getElem hjb, List.filter_append]
    simp [hpx]
   | false =>
    simp -implicitDefEqProofs only [SE, SU, SV]
    refine ldV (A := A) l[j] h hs (by decide) ?_
    refine ixA (i := q) (a := some ⟨g, o, none⟩) (l := m) (A := A) (by assumption) hs rfl (by omega) fun g' o' ha => ?_
    cases ha
    refine stA (g := g) (o := o) (agg := true) (l := m) (A := A) (x := l[j]) (by assumption) hs (by omega) (val_cells hs (by decide) _) fun W3 h => ?_
    simp -implicitDefEqProofs only [SE, SU, SV, ew2]
    delta S.slices_DeleteFunc_order_Inst_order_Inst.j2 oK oA rD lD eF eU sT cL vC gD gX gP gA gR gL gE gU gC gV hL sB nI
    simp -implicitDefEqProofs only [SE, SU, SV, ew]
    rw [hml]
    refine hK (q + 1, j + 1, m.set q l[j]) _ (by simp only; omega) ⟨by simp only; omega, by simp only; omega, by simp [hml], ?_, fun j' hj' => ?_, ?_⟩
    ·simp only
     rw [List.take_succ_eq_append_getElem (by rw [List.length_set]; omega), List.take_set_of_le (Nat.le_refl _), hpre, List.take_succ_eq_append_getElem hjb, List.filter_append]
     simp [hpx]
    ·simp only at hj' ⊢
     rw [List.getElem?_set_ne (by omega)]
     exact hsuf j' (by omega)
    ·exact (h.ent (ent.rot3 _ _ _ _)).drop2
  ·delta S.slices_DeleteFunc_order_Inst_order_Inst.j1 oK oA rD lD eF eU sT cL vC gD gX gP gA gR gL gE gU gC gV hL sB nI
   have hjn : j = l.length := by omega
   subst hjn
   rw [List.take_length] at hpre
   have hqc : q ≤ c := by have := (h.ent (ent.swap _ _ _)).arrFacts; omega
   refine okF_i (slcS_eq (n := l.length) (c := c) (l := q) (h := l.length) bnd_none (bnd_nat (by omega))) ?_
   refine clrA (a := a) (l := m) (L' := C :: L) (i := q) (A := A) (by assumption) hs rfl (by omega) rfl (by rw [hml]) fun W3 h => ?_
   rw [hpre] at h
   have hql : q = (l.filter (!p ·)).length := by rw [← hpre, List.length_take]; omega
   refine slc_pre (L := C :: L) (A := A) (e := T_order_Inst) h hqc ?_
   rw [hql]
   exact hk _ (h.ent (ent.swap _ _ _))
end
end Go.Proofs.YtfhacbhgmnhmlaaGreat
