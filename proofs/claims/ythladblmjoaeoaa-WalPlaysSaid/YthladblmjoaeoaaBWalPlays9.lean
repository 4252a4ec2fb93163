/- 'WalPlays' holds. Printed by an own tool (wip/tools/law.py), after the kit's shell. -/
import Derived.Test.YthladblmjoaeoaaBWalPlays8
import Derived.Test.YthladblmjoaeoaaRows
import Derived.WalkKit
import Derived.ProofKit
namespace Go.Proofs.Ythladblmjoaeoaa
set_option linter.unusedVariables false
set_option linter.unusedSimpArgs false
open Go Go.Eng Go.RowKit

structure WA where
  op : Int
  n : Int
  m : Int
  b : BSl
  la : Option Addr
  lc : Nat
  l : List BSl
instance : Inhabited WA := ⟨⟨0, 0, 0, ⟨none, 0, []⟩, none, 0, []⟩⟩
def WAL : Ly WA := ⟨5, by omega, fun x => [.int .i64 x.op, .int .i64 x.n, .int .i64 x.m, .slice x.b.a x.b.bs.length x.b.c, .slice x.la x.l.length x.lc], fun _ => rfl, fun _ => rfl⟩
abbrev ClWA : List Cl := [.int .i64, .int .i64, .int .i64, .sl [.int .u8], .sl [.sl [.int .u8]]]
def rgWA (W : World) (x : WA) : Prop := rgBs W x.b ∧ Rd W [] x.la BSY x.l ∧ ∀ y ∈ x.l, rgBs W y
theorem goodWA {W : World} (vs : List Value) (h : GoodL W ClWA vs) : ∃ a : WA, vs = WAL.row a ∧ rgWA W a := by
  obtain ⟨_, _, rfl, h1, h⟩ := h.cons'
  obtain ⟨_, _, rfl, h2, h⟩ := h.cons'
  obtain ⟨_, _, rfl, h3, h⟩ := h.cons'
  obtain ⟨_, _, rfl, h4, h⟩ := h.cons'
  obtain ⟨_, _, rfl, h5, h⟩ := h.cons'
  obtain rfl := h.nil'
  obtain ⟨op, rfl, _⟩ := h1.int'
  obtain ⟨n, rfl, _⟩ := h2.int'
  obtain ⟨m, rfl, _⟩ := h3.int'
  obtain ⟨a, c, l, rfl, hl, hc, hr⟩ := openBytes h4
  obtain ⟨a2, c2, l2, rfl, hl2, hc2, hr2, hg2⟩ := openBsC h5
  exact ⟨⟨op, n, m, ⟨a, c, l⟩, a2, c2, l2⟩, rfl, ⟨hl, hc, hr⟩, hr2, hg2⟩
theorem openWAs {W : World} {v : Value} (h : GoodA W [.sl ClWA] false v) : ∃ (a : Option Addr) (c : Nat) (l : List WA), v = .slice a l.length c ∧ l.length ≤ c ∧ c ≤ maxLen ∧ Rd W [] a WAL l ∧ ∀ x ∈ l, rgWA W x := openArr WAL (rgWA W) h.one rfl goodWA
def litA (x : WA) : Prop := x.b.bs.length ≤ 300 ∧ x.l.length ≤ 6 ∧ ∀ r ∈ x.l, r.bs.length ≤ 200
section
variable {W0 W : World} {L L' : List Asn}
theorem slcM {α : Type} {A : Ly α} {e : TypeId} {a : Option Addr} {c : Nat} {l : List α} {sz m : Nat} {K : Value → Prop} (h : St W0 L W) [ho : Own a L A e c l L'] (hs : A.sz = sz) (hm : m ≤ l.length)
    (hk : ∀ a', ent L (arr A e a' m (l.take m) :: L') → K (.slice a' (l.take m).length m)) : okF (slcS sz (.slice a l.length c) none (some (.int .i64 (m : Int))) (some (.int .i64 (m : Int)))) K := by
  subst hs
  have hf := (h.took (a := a)).arrFacts
  have e1 : slcB l.length c none (some (.int .i64 (m : Int))) (some (.int .i64 (m : Int))) = some (0, m, m) := by
    simp only [slcB, bnd_nat (k := .i64) (d := c) (Nat.le_trans hm hf.1), bnd_nat (k := .i64) (d := l.length) (Nat.le_refl m), bnd_none]
  refine okF_i (v := .slice (if m = 0 then a else a.map (·.add (0 * A.sz))) (m - 0) (m - 0)) (by simp only [slcS, e1]) ?_
  have := hk _ (ho.ent.trans (ent.weak (arr_cut 0 m m (Nat.zero_le _) hm (Nat.le_refl _) (Nat.le_trans hm hf.1))))
  simpa [Nat.min_eq_left hm] using this
theorem lawLight {a : Option Addr} {c : Nat} {l : List WA} {k : Value → World → Prop} (h : St W0 L W) (hr : Rd W0 [] a WAL l) (hg : ∀ x ∈ l, rgWA W0 x) (hk : ∀ (b : Bool) W', (b = true → l.length ≤ 40 ∧ ∀ x ∈ l, litA x) → St W0 L W' → k (.bool b) W') : callK PR F_rostrumlaw6_light [.slice a l.length c] k W := by
  apply S.rostrumlaw6_light.call
  unfold S.rostrumlaw6_light.body
  by_cases q1 : (40 : Int) < (l.length : Int)
  · (repeat (first | (first | ((with_reducible first | refine w1 ?_ | refine w3 ?_ | refine w4 ?_ | refine w11 ?_ | refine stb_n ?_); intros) | ((with_reducible first | refine v5 ?_ | refine v6 ?_ | refine v7 ?_ | refine ve ?_ | refine vn ?_); refine ⟨_, rfl, ?_⟩) | ((with_reducible first | refine v8 ?_ ?_ | refine v9 ?_ ?_ | refine v10 ?_ ?_ | refine v12 ?_ ?_); exact rfl; intros) | ((with_reducible refine w2 ?_); try simp -implicitDefEqProofs only [SE, SU, SV, q1]; intros) | ((with_reducible refine w5 ?_ ?_); simp; refine ⟨_, rfl, ?_⟩) | ((with_reducible refine w12 ?_ ?_ ?_ ?_); simp; simp; simp [oneC]; intros) | (refine okF_i (bldP_eq rfl) ?_; try simp only [BLS, SB, Nat.reduceAdd])) | simp -implicitDefEqProofs only [SE, SU, SV, q1]))
    exact hk false _ (fun h => nomatch h) (by first | assumption | exact St.tick (by assumption) | exact St.tick (St.tick (by assumption)))
  (repeat (first | (first | ((with_reducible first | refine w1 ?_ | refine w3 ?_ | refine w4 ?_ | refine w11 ?_ | refine stb_n ?_); intros) | ((with_reducible first | refine v5 ?_ | refine v6 ?_ | refine v7 ?_ | refine ve ?_ | refine vn ?_); refine ⟨_, rfl, ?_⟩) | ((with_reducible first | refine v8 ?_ ?_ | refine v9 ?_ ?_ | refine v10 ?_ ?_ | refine v12 ?_ ?_); exact rfl; intros) | ((with_reducible refine w2 ?_); try simp -implicitDefEqProofs only [SE, SU, SV, q1]; intros) | ((with_reducible refine w5 ?_ ?_); simp; refine ⟨_, rfl, ?_⟩) | ((with_reducible refine w12 ?_ ?_ ?_ ?_); simp; simp; simp [oneC]; intros) | (refine okF_i (bldP_eq rfl) ?_; try simp only [BLS, SB, Nat.reduceAdd])) | simp -implicitDefEqProofs only [SE, SU, SV, q1]))
  refine loop_c (σ := Unit) l.length (fun i _ => [.slice a l.length c, .int .i64 (i : Int)]) (fun i _ W1 => (∀ x ∈ l.take i, litA x) ∧ St W0 L W1) () rfl ⟨by simp, (by first | assumption | exact St.tick (by assumption) | exact St.tick (St.tick (by assumption)))⟩ ?_
  clear h
  rintro K i _ W2 hi ⟨hok, h⟩ hK
  simp -implicitDefEqProofs only [SE, SU, SV]
  unfold S.rostrumlaw6_light.l1
  by_cases hlt : (i : Int) < (l.length : Int)
  · have hib : i < l.length := by omega
    have ew : IntKind.i64.wrap ((i : Int) + 1) = ((i + 1 : Nat) : Int) := by rw [i64w]; omega
    obtain ⟨⟨hb1, hb2, hb3⟩, hlr, hlg⟩ := hg _ (List.getElem_mem hib)
    have e1 : l.take (i + 1) = l.take i ++ [l[i]] := take_snoc hib
    haveI hr1 : Rd W0 L a WAL l := Rd.any hr
    (repeat (first | (first | ((with_reducible first | refine w1 ?_ | refine w3 ?_ | refine w4 ?_ | refine w11 ?_ | refine stb_n ?_); intros) | ((with_reducible first | refine v5 ?_ | refine v6 ?_ | refine v7 ?_ | refine ve ?_ | refine vn ?_); refine ⟨_, rfl, ?_⟩) | ((with_reducible first | refine v8 ?_ ?_ | refine v9 ?_ ?_ | refine v10 ?_ ?_ | refine v12 ?_ ?_); exact rfl; intros) | ((with_reducible refine w2 ?_); try simp -implicitDefEqProofs only [SE, SU, SV, hlt]; intros) | ((with_reducible refine w5 ?_ ?_); simp; refine ⟨_, rfl, ?_⟩) | ((with_reducible refine w12 ?_ ?_ ?_ ?_); simp; simp; simp [oneC]; intros) | (refine okF_i (bldP_eq rfl) ?_; try simp only [BLS, SB, Nat.reduceAdd])) | simp -implicitDefEqProofs only [SE, SU, SV, hlt]))
    refine joinK_i ?_
    refine ixA (i := i) (a := a) (l := l) (A := WAL) h rfl rfl hib fun g o ha => ?_
    cases ha
    (repeat (first | (first | ((with_reducible first | refine w1 ?_ | refine w3 ?_ | refine w4 ?_ | refine w11 ?_ | refine stb_n ?_); intros) | ((with_reducible first | refine v5 ?_ | refine v6 ?_ | refine v7 ?_ | refine ve ?_ | refine vn ?_); refine ⟨_, rfl, ?_⟩) | ((with_reducible first | refine v8 ?_ ?_ | refine v9 ?_ ?_ | refine v10 ?_ ?_ | refine v12 ?_ ?_); exact rfl; intros) | ((with_reducible refine w2 ?_); try simp -implicitDefEqProofs only [SE, SU, SV]; intros) | ((with_reducible refine w5 ?_ ?_); simp; refine ⟨_, rfl, ?_⟩) | ((with_reducible refine w12 ?_ ?_ ?_ ?_); simp; simp; simp [oneC]; intros) | (refine okF_i (bldP_eq rfl) ?_; try simp only [BLS, SB, Nat.reduceAdd])) | simp -implicitDefEqProofs only [SE, SU, SV]))
    refine ldA (i := i) (l := l) (A := WAL) (by first | assumption | exact St.tick (by assumption) | exact St.tick (St.tick (by assumption))) rfl hib (v := l[i].b.v) rfl (by simp) ?_
    by_cases q2 : (300 : Int) < (l[i].b.bs.length : Int)
    · (repeat (first | (first | ((with_reducible first | refine w1 ?_ | refine w3 ?_ | refine w4 ?_ | refine w11 ?_ | refine stb_n ?_); intros) | ((with_reducible first | refine v5 ?_ | refine v6 ?_ | refine v7 ?_ | refine ve ?_ | refine vn ?_); refine ⟨_, rfl, ?_⟩) | ((with_reducible first | refine v8 ?_ ?_ | refine v9 ?_ ?_ | refine v10 ?_ ?_ | refine v12 ?_ ?_); exact rfl; intros) | ((with_reducible refine w2 ?_); try simp -implicitDefEqProofs only [SE, SU, SV, q2]; intros) | ((with_reducible refine w5 ?_ ?_); simp; refine ⟨_, rfl, ?_⟩) | ((with_reducible refine w12 ?_ ?_ ?_ ?_); simp; simp; simp [oneC]; intros) | (refine okF_i (bldP_eq rfl) ?_; try simp only [BLS, SB, Nat.reduceAdd])) | simp -implicitDefEqProofs only [SE, SU, SV, q2]))
      exact hk false _ (fun h => nomatch h) (by first | assumption | exact St.tick (by assumption) | exact St.tick (St.tick (by assumption)))
    (repeat (first | (first | ((with_reducible first | refine w1 ?_ | refine w3 ?_ | refine w4 ?_ | refine w11 ?_ | refine stb_n ?_); intros) | ((with_reducible first | refine v5 ?_ | refine v6 ?_ | refine v7 ?_ | refine ve ?_ | refine vn ?_); refine ⟨_, rfl, ?_⟩) | ((with_reducible first | refine v8 ?_ ?_ | refine v9 ?_ ?_ | refine v10 ?_ ?_ | refine v12 ?_ ?_); exact rfl; intros) | ((with_reducible refine w2 ?_); try simp -implicitDefEqProofs only [SE, SU, SV, q2]; intros) | ((with_reducible refine w5 ?_ ?_); simp; refine ⟨_, rfl, ?_⟩) | ((with_reducible refine w12 ?_ ?_ ?_ ?_); simp; simp; simp [oneC]; intros) | (refine okF_i (bldP_eq rfl) ?_; try simp only [BLS, SB, Nat.reduceAdd])) | simp -implicitDefEqProofs only [SE, SU, SV, q2]))
    refine ixA (i := i) (a := some ⟨g, o, none⟩) (l := l) (A := WAL) (by first | assumption | exact St.tick (by assumption) | exact St.tick (St.tick (by assumption))) rfl rfl hib fun g o ha => ?_
    cases ha
    (repeat (first | (first | ((with_reducible first | refine w1 ?_ | refine w3 ?_ | refine w4 ?_ | refine w11 ?_ | refine stb_n ?_); intros) | ((with_reducible first | refine v5 ?_ | refine v6 ?_ | refine v7 ?_ | refine ve ?_ | refine vn ?_); refine ⟨_, rfl, ?_⟩) | ((with_reducible first | refine v8 ?_ ?_ | refine v9 ?_ ?_ | refine v10 ?_ ?_ | refine v12 ?_ ?_); exact rfl; intros) | ((with_reducible refine w2 ?_); try simp -implicitDefEqProofs only [SE, SU, SV]; intros) | ((with_reducible refine w5 ?_ ?_); simp; refine ⟨_, rfl, ?_⟩) | ((with_reducible refine w12 ?_ ?_ ?_ ?_); simp; simp; simp [oneC]; intros) | (refine okF_i (bldP_eq rfl) ?_; try simp only [BLS, SB, Nat.reduceAdd])) | simp -implicitDefEqProofs only [SE, SU, SV]))
    refine ldA (i := i) (l := l) (A := WAL) (by first | assumption | exact St.tick (by assumption) | exact St.tick (St.tick (by assumption))) rfl hib (v := .slice l[i].la l[i].l.length l[i].lc) rfl (by simp) ?_
    by_cases q3 : (6 : Int) < (l[i].l.length : Int)
    · (repeat (first | (first | ((with_reducible first | refine w1 ?_ | refine w3 ?_ | refine w4 ?_ | refine w11 ?_ | refine stb_n ?_); intros) | ((with_reducible first | refine v5 ?_ | refine v6 ?_ | refine v7 ?_ | refine ve ?_ | refine vn ?_); refine ⟨_, rfl, ?_⟩) | ((with_reducible first | refine v8 ?_ ?_ | refine v9 ?_ ?_ | refine v10 ?_ ?_ | refine v12 ?_ ?_); exact rfl; intros) | ((with_reducible refine w2 ?_); try simp -implicitDefEqProofs only [SE, SU, SV, q3]; intros) | ((with_reducible refine w5 ?_ ?_); simp; refine ⟨_, rfl, ?_⟩) | ((with_reducible refine w12 ?_ ?_ ?_ ?_); simp; simp; simp [oneC]; intros) | (refine okF_i (bldP_eq rfl) ?_; try simp only [BLS, SB, Nat.reduceAdd])) | simp -implicitDefEqProofs only [SE, SU, SV, q3]))
      exact hk false _ (fun h => nomatch h) (by first | assumption | exact St.tick (by assumption) | exact St.tick (St.tick (by assumption)))
    (repeat (first | (first | ((with_reducible first | refine w1 ?_ | refine w3 ?_ | refine w4 ?_ | refine w11 ?_ | refine stb_n ?_); intros) | ((with_reducible first | refine v5 ?_ | refine v6 ?_ | refine v7 ?_ | refine ve ?_ | refine vn ?_); refine ⟨_, rfl, ?_⟩) | ((with_reducible first | refine v8 ?_ ?_ | refine v9 ?_ ?_ | refine v10 ?_ ?_ | refine v12 ?_ ?_); exact rfl; intros) | ((with_reducible refine w2 ?_); try simp -implicitDefEqProofs only [SE, SU, SV, q3]; intros) | ((with_reducible refine w5 ?_ ?_); simp; refine ⟨_, rfl, ?_⟩) | ((with_reducible refine w12 ?_ ?_ ?_ ?_); simp; simp; simp [oneC]; intros) | (refine okF_i (bldP_eq rfl) ?_; try simp only [BLS, SB, Nat.reduceAdd])) | simp -implicitDefEqProofs only [SE, SU, SV, q3]))
    refine loop_c (σ := Unit) l[i].l.length (fun j _ => [.slice (some ⟨g, o, none⟩) l.length c, .int .i64 (i : Int), .int .i64 (j : Int)]) (fun j _ W1 => (∀ x ∈ l[i].l.take j, x.bs.length ≤ 200) ∧ St W0 L W1) () rfl ⟨by simp, (by first | assumption | exact St.tick (by assumption) | exact St.tick (St.tick (by assumption)))⟩ ?_
    clear h
    rintro K2 j _ W3 hj ⟨hok2, h⟩ hK2
    simp -implicitDefEqProofs only [SE, SU, SV]
    unfold S.rostrumlaw6_light.l2
    refine ixA (i := i) (a := some ⟨g, o, none⟩) (l := l) (A := WAL) (by first | assumption | exact St.tick (by assumption) | exact St.tick (St.tick (by assumption))) rfl rfl hib fun g o ha => ?_
    cases ha
    (repeat (first | (first | ((with_reducible first | refine w1 ?_ | refine w3 ?_ | refine w4 ?_ | refine w11 ?_ | refine stb_n ?_); intros) | ((with_reducible first | refine v5 ?_ | refine v6 ?_ | refine v7 ?_ | refine ve ?_ | refine vn ?_); refine ⟨_, rfl, ?_⟩) | ((with_reducible first | refine v8 ?_ ?_ | refine v9 ?_ ?_ | refine v10 ?_ ?_ | refine v12 ?_ ?_); exact rfl; intros) | ((with_reducible refine w2 ?_); try simp -implicitDefEqProofs only [SE, SU, SV]; intros) | ((with_reducible refine w5 ?_ ?_); simp; refine ⟨_, rfl, ?_⟩) | ((with_reducible refine w12 ?_ ?_ ?_ ?_); simp; simp; simp [oneC]; intros) | (refine okF_i (bldP_eq rfl) ?_; try simp only [BLS, SB, Nat.reduceAdd])) | simp -implicitDefEqProofs only [SE, SU, SV]))
    refine ldA (i := i) (l := l) (A := WAL) (by first | assumption | exact St.tick (by assumption) | exact St.tick (St.tick (by assumption))) rfl hib (v := .slice l[i].la l[i].l.length l[i].lc) rfl (by simp) ?_
    by_cases hjl : (j : Int) < (l[i].l.length : Int)
    · have hjb : j < l[i].l.length := by omega
      have ew2 : IntKind.i64.wrap ((j : Int) + 1) = ((j + 1 : Nat) : Int) := by rw [i64w]; omega
      haveI hr2 : Rd W0 L l[i].la BSY l[i].l := Rd.any hlr
      (repeat (first | (first | ((with_reducible first | refine w1 ?_ | refine w3 ?_ | refine w4 ?_ | refine w11 ?_ | refine stb_n ?_); intros) | ((with_reducible first | refine v5 ?_ | refine v6 ?_ | refine v7 ?_ | refine ve ?_ | refine vn ?_); refine ⟨_, rfl, ?_⟩) | ((with_reducible first | refine v8 ?_ ?_ | refine v9 ?_ ?_ | refine v10 ?_ ?_ | refine v12 ?_ ?_); exact rfl; intros) | ((with_reducible refine w2 ?_); try simp -implicitDefEqProofs only [SE, SU, SV, hjl]; intros) | ((with_reducible refine w5 ?_ ?_); simp; refine ⟨_, rfl, ?_⟩) | ((with_reducible refine w12 ?_ ?_ ?_ ?_); simp; simp; simp [oneC]; intros) | (refine okF_i (bldP_eq rfl) ?_; try simp only [BLS, SB, Nat.reduceAdd])) | simp -implicitDefEqProofs only [SE, SU, SV, hjl]))
      refine ixA (i := i) (a := some ⟨g, o, none⟩) (l := l) (A := WAL) (by first | assumption | exact St.tick (by assumption) | exact St.tick (St.tick (by assumption))) rfl rfl hib fun g o ha => ?_
      cases ha
      (repeat (first | (first | ((with_reducible first | refine w1 ?_ | refine w3 ?_ | refine w4 ?_ | refine w11 ?_ | refine stb_n ?_); intros) | ((with_reducible first | refine v5 ?_ | refine v6 ?_ | refine v7 ?_ | refine ve ?_ | refine vn ?_); refine ⟨_, rfl, ?_⟩) | ((with_reducible first | refine v8 ?_ ?_ | refine v9 ?_ ?_ | refine v10 ?_ ?_ | refine v12 ?_ ?_); exact rfl; intros) | ((with_reducible refine w2 ?_); try simp -implicitDefEqProofs only [SE, SU, SV]; intros) | ((with_reducible refine w5 ?_ ?_); simp; refine ⟨_, rfl, ?_⟩) | ((with_reducible refine w12 ?_ ?_ ?_ ?_); simp; simp; simp [oneC]; intros) | (refine okF_i (bldP_eq rfl) ?_; try simp only [BLS, SB, Nat.reduceAdd])) | simp -implicitDefEqProofs only [SE, SU, SV]))
      refine ldA (i := i) (l := l) (A := WAL) (by first | assumption | exact St.tick (by assumption) | exact St.tick (St.tick (by assumption))) rfl hib (v := .slice l[i].la l[i].l.length l[i].lc) rfl (by simp) ?_
      refine ixA (i := j) (a := l[i].la) (l := l[i].l) (A := BSY) (by first | assumption | exact St.tick (by assumption) | exact St.tick (St.tick (by assumption))) rfl rfl hjb fun g2 o2 ha => ?_
      refine ldA0 (i := j) (l := l[i].l) (A := BSY) (hr := ha ▸ hr2) (by first | assumption | exact St.tick (by assumption) | exact St.tick (St.tick (by assumption))) rfl hjb (v := l[i].l[j].v) rfl (by simp) ?_
      by_cases q4 : (200 : Int) < (l[i].l[j].bs.length : Int)
      · (repeat (first | (first | ((with_reducible first | refine w1 ?_ | refine w3 ?_ | refine w4 ?_ | refine w11 ?_ | refine stb_n ?_); intros) | ((with_reducible first | refine v5 ?_ | refine v6 ?_ | refine v7 ?_ | refine ve ?_ | refine vn ?_); refine ⟨_, rfl, ?_⟩) | ((with_reducible first | refine v8 ?_ ?_ | refine v9 ?_ ?_ | refine v10 ?_ ?_ | refine v12 ?_ ?_); exact rfl; intros) | ((with_reducible refine w2 ?_); try simp -implicitDefEqProofs only [SE, SU, SV, q4]; intros) | ((with_reducible refine w5 ?_ ?_); simp; refine ⟨_, rfl, ?_⟩) | ((with_reducible refine w12 ?_ ?_ ?_ ?_); simp; simp; simp [oneC]; intros) | (refine okF_i (bldP_eq rfl) ?_; try simp only [BLS, SB, Nat.reduceAdd])) | simp -implicitDefEqProofs only [SE, SU, SV, q4]))
        exact hk false _ (fun h => nomatch h) (by first | assumption | exact St.tick (by assumption) | exact St.tick (St.tick (by assumption)))
      (repeat (first | (first | ((with_reducible first | refine w1 ?_ | refine w3 ?_ | refine w4 ?_ | refine w11 ?_ | refine stb_n ?_); intros) | ((with_reducible first | refine v5 ?_ | refine v6 ?_ | refine v7 ?_ | refine ve ?_ | refine vn ?_); refine ⟨_, rfl, ?_⟩) | ((with_reducible first | refine v8 ?_ ?_ | refine v9 ?_ ?_ | refine v10 ?_ ?_ | refine v12 ?_ ?_); exact rfl; intros) | ((with_reducible refine w2 ?_); try simp -implicitDefEqProofs only [SE, SU, SV, q4, ew2]; intros) | ((with_reducible refine w5 ?_ ?_); simp; refine ⟨_, rfl, ?_⟩) | ((with_reducible refine w12 ?_ ?_ ?_ ?_); simp; simp; simp [oneC]; intros) | (refine okF_i (bldP_eq rfl) ?_; try simp only [BLS, SB, Nat.reduceAdd])) | simp -implicitDefEqProofs only [SE, SU, SV, q4, ew2]))
      refine hK2 () _ hjb ⟨fun x hx => ?_, (by first | assumption | exact St.tick (by assumption) | exact St.tick (St.tick (by assumption)))⟩
      rw [take_snoc hjb] at hx
      rcases List.mem_append.1 hx with hx | hx
      · exact hok2 x hx
      · rw [List.mem_singleton.1 hx]; omega
    · rw [List.take_of_length_le (by omega)] at hok2
      unfold S.rostrumlaw6_light.j1
      (repeat (first | (first | ((with_reducible first | refine w1 ?_ | refine w3 ?_ | refine w4 ?_ | refine w11 ?_ | refine stb_n ?_); intros) | ((with_reducible first | refine v5 ?_ | refine v6 ?_ | refine v7 ?_ | refine ve ?_ | refine vn ?_); refine ⟨_, rfl, ?_⟩) | ((with_reducible first | refine v8 ?_ ?_ | refine v9 ?_ ?_ | refine v10 ?_ ?_ | refine v12 ?_ ?_); exact rfl; intros) | ((with_reducible refine w2 ?_); try simp -implicitDefEqProofs only [SE, SU, SV, hjl, ew]; intros) | ((with_reducible refine w5 ?_ ?_); simp; refine ⟨_, rfl, ?_⟩) | ((with_reducible refine w12 ?_ ?_ ?_ ?_); simp; simp; simp [oneC]; intros) | (refine okF_i (bldP_eq rfl) ?_; try simp only [BLS, SB, Nat.reduceAdd])) | simp -implicitDefEqProofs only [SE, SU, SV, hjl, ew]))
      refine hK () _ hib ⟨fun x hx => ?_, (by first | assumption | exact St.tick (by assumption) | exact St.tick (St.tick (by assumption)))⟩
      rw [e1] at hx
      rcases List.mem_append.1 hx with hx | hx
      · exact hok x hx
      · rw [List.mem_singleton.1 hx]; exact ⟨by omega, by omega, hok2⟩
  · rw [List.take_of_length_le (by omega)] at hok
    (repeat (first | (first | ((with_reducible first | refine w1 ?_ | refine w3 ?_ | refine w4 ?_ | refine w11 ?_ | refine stb_n ?_); intros) | ((with_reducible first | refine v5 ?_ | refine v6 ?_ | refine v7 ?_ | refine ve ?_ | refine vn ?_); refine ⟨_, rfl, ?_⟩) | ((with_reducible first | refine v8 ?_ ?_ | refine v9 ?_ ?_ | refine v10 ?_ ?_ | refine v12 ?_ ?_); exact rfl; intros) | ((with_reducible refine w2 ?_); try simp -implicitDefEqProofs only [SE, SU, SV, hlt]; intros) | ((with_reducible refine w5 ?_ ?_); simp; refine ⟨_, rfl, ?_⟩) | ((with_reducible refine w12 ?_ ?_ ?_ ?_); simp; simp; simp [oneC]; intros) | (refine okF_i (bldP_eq rfl) ?_; try simp only [BLS, SB, Nat.reduceAdd])) | simp -implicitDefEqProofs only [SE, SU, SV, hlt]))
    exact hk true _ (fun _ => ⟨by omega, hok⟩) (by first | assumption | exact St.tick (by assumption) | exact St.tick (St.tick (by assumption)))
end
set_option maxRecDepth 100000 in
set_option maxHeartbeats 4000000 in
theorem walPlays_walk {W : World} {v0 v1 : Value} (h0 : GoodA W [.int .i64] false v0) (h1 : GoodA W [.sl ClWA] false v1) :
    callK PR F_rostrumlaw6_WalPlays [v0, v1] (fun v W' => v = .bool true ∧ Lo W W') W := by
  obtain ⟨part, rfl, _⟩ := h0.one.int'
  obtain ⟨a1, c1, l, rfl, hlc, hlm, hlr, hlg⟩ := openWAs (goodAz h1)
  apply S.rostrumlaw6_WalPlays.call
  unfold S.rostrumlaw6_WalPlays.body
  have h := St.startz W
  refine lawAwake6 h rfl fun W1 h => ?_
  by_cases q1 : part < 1
  · (repeat (first | (first | ((with_reducible first | refine w1 ?_ | refine w3 ?_ | refine w4 ?_ | refine w11 ?_ | refine stb_n ?_); intros) | ((with_reducible first | refine v5 ?_ | refine v6 ?_ | refine v7 ?_ | refine ve ?_ | refine vn ?_); refine ⟨_, rfl, ?_⟩) | ((with_reducible first | refine v8 ?_ ?_ | refine v9 ?_ ?_ | refine v10 ?_ ?_ | refine v12 ?_ ?_); exact rfl; intros) | ((with_reducible refine w2 ?_); try simp -implicitDefEqProofs only [SE, SU, SV, q1]; intros) | ((with_reducible refine w5 ?_ ?_); simp; refine ⟨_, rfl, ?_⟩) | ((with_reducible refine w12 ?_ ?_ ?_ ?_); simp; simp; simp [oneC]; intros) | (refine okF_i (bldP_eq rfl) ?_; try simp only [BLS, SB, Nat.reduceAdd])) | simp -implicitDefEqProofs only [SE, SU, SV, q1])); exact St.lo h
  by_cases q2' : 1000 < part
  · (repeat (first | (first | ((with_reducible first | refine w1 ?_ | refine w3 ?_ | refine w4 ?_ | refine w11 ?_ | refine stb_n ?_); intros) | ((with_reducible first | refine v5 ?_ | refine v6 ?_ | refine v7 ?_ | refine ve ?_ | refine vn ?_); refine ⟨_, rfl, ?_⟩) | ((with_reducible first | refine v8 ?_ ?_ | refine v9 ?_ ?_ | refine v10 ?_ ?_ | refine v12 ?_ ?_); exact rfl; intros) | ((with_reducible refine w2 ?_); try simp -implicitDefEqProofs only [SE, SU, SV, q1, q2']; intros) | ((with_reducible refine w5 ?_ ?_); simp; refine ⟨_, rfl, ?_⟩) | ((with_reducible refine w12 ?_ ?_ ?_ ?_); simp; simp; simp [oneC]; intros) | (refine okF_i (bldP_eq rfl) ?_; try simp only [BLS, SB, Nat.reduceAdd])) | simp -implicitDefEqProofs only [SE, SU, SV, q1, q2'])); exact St.lo h
  (repeat (first | (first | ((with_reducible first | refine w1 ?_ | refine w3 ?_ | refine w4 ?_ | refine w11 ?_ | refine stb_n ?_); intros) | ((with_reducible first | refine v5 ?_ | refine v6 ?_ | refine v7 ?_ | refine ve ?_ | refine vn ?_); refine ⟨_, rfl, ?_⟩) | ((with_reducible first | refine v8 ?_ ?_ | refine v9 ?_ ?_ | refine v10 ?_ ?_ | refine v12 ?_ ?_); exact rfl; intros) | ((with_reducible refine w2 ?_); try simp -implicitDefEqProofs only [SE, SU, SV, q1, q2']; intros) | ((with_reducible refine w5 ?_ ?_); simp; refine ⟨_, rfl, ?_⟩) | ((with_reducible refine w12 ?_ ?_ ?_ ?_); simp; simp; simp [oneC]; intros) | (refine okF_i (bldP_eq rfl) ?_; try simp only [BLS, SB, Nat.reduceAdd])) | simp -implicitDefEqProofs only [SE, SU, SV, q1, q2']))
  refine lawLight (a := a1) (l := l) (by first | assumption | exact St.tick (by assumption) | exact St.tick (St.tick (by assumption))) hlr hlg fun b W2 hb h => ?_
  cases b with
  | false => (repeat (first | (first | ((with_reducible first | refine w1 ?_ | refine w3 ?_ | refine w4 ?_ | refine w11 ?_ | refine stb_n ?_); intros) | ((with_reducible first | refine v5 ?_ | refine v6 ?_ | refine v7 ?_ | refine ve ?_ | refine vn ?_); refine ⟨_, rfl, ?_⟩) | ((with_reducible first | refine v8 ?_ ?_ | refine v9 ?_ ?_ | refine v10 ?_ ?_ | refine v12 ?_ ?_); exact rfl; intros) | ((with_reducible refine w2 ?_); try simp -implicitDefEqProofs only [SE, SU, SV]; intros) | ((with_reducible refine w5 ?_ ?_); simp; refine ⟨_, rfl, ?_⟩) | ((with_reducible refine w12 ?_ ?_ ?_ ?_); simp; simp; simp [oneC]; intros) | (refine okF_i (bldP_eq rfl) ?_; try simp only [BLS, SB, Nat.reduceAdd])) | simp -implicitDefEqProofs only [SE, SU, SV])); exact St.lo h
  | true =>
  obtain ⟨hl40, hlit⟩ := hb rfl
  (repeat (first | (first | ((with_reducible first | refine w1 ?_ | refine w3 ?_ | refine w4 ?_ | refine w11 ?_ | refine stb_n ?_); intros) | ((with_reducible first | refine v5 ?_ | refine v6 ?_ | refine v7 ?_ | refine ve ?_ | refine vn ?_); refine ⟨_, rfl, ?_⟩) | ((with_reducible first | refine v8 ?_ ?_ | refine v9 ?_ ?_ | refine v10 ?_ ?_ | refine v12 ?_ ?_); exact rfl; intros) | ((with_reducible refine w2 ?_); try simp -implicitDefEqProofs only [SE, SU, SV]; intros) | ((with_reducible refine w5 ?_ ?_); simp; refine ⟨_, rfl, ?_⟩) | ((with_reducible refine w12 ?_ ?_ ?_ ?_); simp; simp; simp [oneC]; intros) | (refine okF_i (bldP_eq rfl) ?_; try simp only [BLS, SB, Nat.reduceAdd])) | simp -implicitDefEqProofs only [SE, SU, SV]))
  refine diskNew (by first | assumption | exact St.tick (by assumption) | exact St.tick (St.tick (by assumption))) (by omega) (by omega) fun p W3 h => ?_
  (repeat (first | (first | ((with_reducible first | refine w1 ?_ | refine w3 ?_ | refine w4 ?_ | refine w11 ?_ | refine stb_n ?_); intros) | ((with_reducible first | refine v5 ?_ | refine v6 ?_ | refine v7 ?_ | refine ve ?_ | refine vn ?_); refine ⟨_, rfl, ?_⟩) | ((with_reducible first | refine v8 ?_ ?_ | refine v9 ?_ ?_ | refine v10 ?_ ?_ | refine v12 ?_ ?_); exact rfl; intros) | ((with_reducible refine w2 ?_); try simp -implicitDefEqProofs only [SE, SU, SV]; intros) | ((with_reducible refine w5 ?_ ?_); simp; refine ⟨_, rfl, ?_⟩) | ((with_reducible refine w12 ?_ ?_ ?_ ?_); simp; simp; simp [oneC]; intros) | (refine okF_i (bldP_eq rfl) ?_; try simp only [BLS, SB, Nat.reduceAdd])) | simp -implicitDefEqProofs only [SE, SU, SV]))
  refine walOpenV (dp := p) (d := ⟨262144, [], [], true, 1⟩) (part := part) (n := 700) (room := 262144) (used := 0) (turns := 0) (files := 0) (by first | assumption | exact St.tick (by assumption) | exact St.tick (St.tick (by assumption))) rfl q1 q2' rfl ⟨by decide, by decide, by decide⟩ rfl (nt := false) GD.fresh rfl (Int.le_refl _) (Nat.le_refl _) (Nat.le_refl _) (by decide) (by decide) (fun h => nomatch h) fun q d1 l1 W4 hv _ h => ?_
  have hv : WV 700 d1 l1 part [] [] 0 262144 0 0 0 false := hv
  have hv : WV (700 - 10 * 0) d1 l1 part [] (bsOf []) 0 262144 (1500 * ((0 : Nat) : Int)) 0 (6 * 0) false := by simpa using hv
  (repeat (first | (first | ((with_reducible first | refine w1 ?_ | refine w3 ?_ | refine w4 ?_ | refine w11 ?_ | refine stb_n ?_); intros) | ((with_reducible first | refine v5 ?_ | refine v6 ?_ | refine v7 ?_ | refine ve ?_ | refine vn ?_); refine ⟨_, rfl, ?_⟩) | ((with_reducible first | refine v8 ?_ ?_ | refine v9 ?_ ?_ | refine v10 ?_ ?_ | refine v12 ?_ ?_); exact rfl; intros) | ((with_reducible refine w2 ?_); try simp -implicitDefEqProofs only [SE, SU, SV]; intros) | ((with_reducible refine w5 ?_ ?_); simp; refine ⟨_, rfl, ?_⟩) | ((with_reducible refine w12 ?_ ?_ ?_ ?_); simp; simp; simp [oneC]; intros) | (refine okF_i (bldP_eq rfl) ?_; try simp only [BLS, SB, Nat.reduceAdd])) | simp -implicitDefEqProofs only [SE, SU, SV]))
  refine loop_c (σ := DS × LS × Nat × Bs × Option Addr × Nat × List BSl × Nat) l.length (fun i x => [.int .i64 part, .slice a1 l.length c1, .pointer (some ⟨p, 0, none⟩), .pointer (some ⟨x.2.2.1, 0, none⟩), .string ⟨x.2.2.2.1.toArray⟩, .slice x.2.2.2.2.1 x.2.2.2.2.2.2.1.length x.2.2.2.2.2.1, .int .i64 (x.2.2.2.2.2.2.2 : Int), .int .i64 (i : Int)])
    (fun i x W1 => WV (700 - 10 * i) x.1 x.2.1 part x.2.2.2.1 (bsOf x.2.2.2.2.2.2.1) x.2.2.2.2.2.2.2 262144 (1500 * (i : Int)) i (6 * i) false ∧ x.2.2.2.2.2.2.1.length ≤ 6 * i ∧ (∀ y ∈ x.2.2.2.2.2.2.1, rgBs { W with drawn := 0 } y) ∧
      St { W with drawn := 0 } [lg x.2.2.1 p x.2.1, dk p x.1, arr BSY T_s_uint8 x.2.2.2.2.1 x.2.2.2.2.2.1 x.2.2.2.2.2.2.1] W1) (d1, l1, q, [], none, 0, [], 0) rfl ⟨hv, Nat.le_refl _, (fun y hy => nomatch hy), St.wk (St.ent (by first | assumption | exact St.tick (by assumption) | exact St.tick (St.tick (by assumption))) (arr_nil BSY T_s_uint8))⟩ ?_
  clear h hv
  rintro K i ⟨d2, l2, q2, base, a, c, rows, safe⟩ W5 hi ⟨hv, hrl, hrg, h⟩ hK
  simp only at hv hrl hrg h
  simp -implicitDefEqProofs only [SE, SU, SV]
  unfold S.rostrumlaw6_WalPlays.l1
  by_cases hlt : (i : Int) < (l.length : Int)
  · have hib : i < l.length := by omega
    have ew : IntKind.i64.wrap ((i : Int) + 1) = ((i + 1 : Nat) : Int) := by rw [i64w]; omega
    obtain ⟨hy1, hy2, hy3⟩ := hlit _ (List.getElem_mem hib)
    obtain ⟨⟨hb1, hb2, hb3⟩, hxr, hxg⟩ := hlg _ (List.getElem_mem hib)
    have hcl := cost_le (B := 200) hy3
    have hJ1 : ∀ (d3 : DS) (l3 : LS) (q3 : Nat) (base3 : Bs) (a3 : Option Addr) (c3 : Nat) (rows3 : List BSl) (safe3 : Nat) (W6 : World), WV (700 - 10 * (i + 1)) d3 l3 part base3 (bsOf rows3) safe3 262144 (1500 * ((i + 1 : Nat) : Int)) (i + 1) (6 * (i + 1)) false → rows3.length ≤ 6 * (i + 1) → (∀ y ∈ rows3, rgBs { W with drawn := 0 } y) →
        St { W with drawn := 0 } [lg q3 p l3, dk p d3, arr BSY T_s_uint8 a3 c3 rows3] W6 → S.rostrumlaw6_WalPlays.j1 (fun v W' => v = .bool true ∧ Lo W W') K (.int .i64 part) (.slice a1 l.length c1) (.pointer (some ⟨p, 0, none⟩)) (.pointer (some ⟨q3, 0, none⟩)) (.string ⟨base3.toArray⟩) (.slice a3 rows3.length c3) (.int .i64 (safe3 : Int)) (.int .i64 (i : Int)) W6 := by
      intro d3 l3 q3 base3 a3 c3 rows3 safe3 W6 hv hrl hrg h
      have hbb := hv.bl0
      unfold S.rostrumlaw6_WalPlays.j1
      refine walBase (dp := p) (l := l3) h (by rw [hv.base]; omega) fun a5 c5 W7 h => ?_
      rw [hv.base] at h ⊢
      refine b2s (a := a5) (l := base3) h ?_
      (repeat (first | (first | ((with_reducible first | refine w1 ?_ | refine w3 ?_ | refine w4 ?_ | refine w11 ?_ | refine stb_n ?_); intros) | ((with_reducible first | refine v5 ?_ | refine v6 ?_ | refine v7 ?_ | refine ve ?_ | refine vn ?_); refine ⟨_, rfl, ?_⟩) | ((with_reducible first | refine v8 ?_ ?_ | refine v9 ?_ ?_ | refine v10 ?_ ?_ | refine v12 ?_ ?_); exact rfl; intros) | ((with_reducible refine w2 ?_); try simp -implicitDefEqProofs only [SE, SU, SV, eq_self]; intros) | ((with_reducible refine w5 ?_ ?_); simp; refine ⟨_, rfl, ?_⟩) | ((with_reducible refine w12 ?_ ?_ ?_ ?_); simp; simp; simp [oneC]; intros) | (refine okF_i (bldP_eq rfl) ?_; try simp only [BLS, SB, Nat.reduceAdd])) | simp -implicitDefEqProofs only [SE, SU, SV, eq_self]))
      refine walAll (dp := p) (l := l3) (by first | assumption | exact St.tick (by assumption) | exact St.tick (St.tick (by assumption))) (by rw [hv.recs]; simp; omega) hv.small fun a6 c6 rs6 W8 hrs6 h => ?_
      rw [hv.recs] at hrs6
      (repeat (first | (first | ((with_reducible first | refine w1 ?_ | refine w3 ?_ | refine w4 ?_ | refine w11 ?_ | refine stb_n ?_); intros) | ((with_reducible first | refine v5 ?_ | refine v6 ?_ | refine v7 ?_ | refine ve ?_ | refine vn ?_); refine ⟨_, rfl, ?_⟩) | ((with_reducible first | refine v8 ?_ ?_ | refine v9 ?_ ?_ | refine v10 ?_ ?_ | refine v12 ?_ ?_); exact rfl; intros) | ((with_reducible refine w2 ?_); try simp -implicitDefEqProofs only [SE, SU, SV]; intros) | ((with_reducible refine w5 ?_ ?_); simp; refine ⟨_, rfl, ?_⟩) | ((with_reducible refine w12 ?_ ?_ ?_ ?_); simp; simp; simp [oneC]; intros) | (refine okF_i (bldP_eq rfl) ?_; try simp only [BLS, SB, Nat.reduceAdd])) | simp -implicitDefEqProofs only [SE, SU, SV]))
      have h := St.wk (L' := [arr BSY T_s_uint8 a6 c6 rs6, many fch rs6, lg q3 p l3, dk p d3, arr BSY T_s_uint8 a3 c3 rows3]) (by first | assumption | exact St.tick (by assumption) | exact St.tick (St.tick (by assumption)))
      refine refSame (a := a6) (b := a3) (r1 := rs6) (r2 := rows3) h (rdUp rdIn) (fun x hx => Rd.any (hrg x hx).2.2) (by have := congrArg List.length hrs6; simp at this; omega) fun W9 h => ?_
      rw [hrs6]
      (repeat (first | (first | ((with_reducible first | refine w1 ?_ | refine w3 ?_ | refine w4 ?_ | refine w11 ?_ | refine stb_n ?_); intros) | ((with_reducible first | refine v5 ?_ | refine v6 ?_ | refine v7 ?_ | refine ve ?_ | refine vn ?_); refine ⟨_, rfl, ?_⟩) | ((with_reducible first | refine v8 ?_ ?_ | refine v9 ?_ ?_ | refine v10 ?_ ?_ | refine v12 ?_ ?_); exact rfl; intros) | ((with_reducible refine w2 ?_); try simp -implicitDefEqProofs only [SE, SU, SV, eq_self]; intros) | ((with_reducible refine w5 ?_ ?_); simp; refine ⟨_, rfl, ?_⟩) | ((with_reducible refine w12 ?_ ?_ ?_ ?_); simp; simp; simp [oneC]; intros) | (refine okF_i (bldP_eq rfl) ?_; try simp only [BLS, SB, Nat.reduceAdd])) | simp -implicitDefEqProofs only [SE, SU, SV, eq_self]))
      refine walDone (dp := p) (q := q3) (l := l3) (d := d3) (by first | assumption | exact St.tick (by assumption) | exact St.tick (St.tick (by assumption))) fun W10 h => ?_
      rw [hv.done]
      (repeat (first | (first | ((with_reducible first | refine w1 ?_ | refine w3 ?_ | refine w4 ?_ | refine w11 ?_ | refine stb_n ?_); intros) | ((with_reducible first | refine v5 ?_ | refine v6 ?_ | refine v7 ?_ | refine ve ?_ | refine vn ?_); refine ⟨_, rfl, ?_⟩) | ((with_reducible first | refine v8 ?_ ?_ | refine v9 ?_ ?_ | refine v10 ?_ ?_ | refine v12 ?_ ?_); exact rfl; intros) | ((with_reducible refine w2 ?_); try simp -implicitDefEqProofs only [SE, SU, SV, ew]; intros) | ((with_reducible refine w5 ?_ ?_); simp; refine ⟨_, rfl, ?_⟩) | ((with_reducible refine w12 ?_ ?_ ?_ ?_); simp; simp; simp [oneC]; intros) | (refine okF_i (bldP_eq rfl) ?_; try simp only [BLS, SB, Nat.reduceAdd])) | simp -implicitDefEqProofs only [SE, SU, SV, ew]))
      exact hK (d3, l3, q3, base3, a3, c3, rows3, safe3) _ hib ⟨hv, hrl, hrg, St.wk (by first | assumption | exact St.tick (by assumption) | exact St.tick (St.tick (by assumption)))⟩
    have hcap : rows.length ≤ c := (St.wk (L' := [arr BSY T_s_uint8 a c rows]) h).arrFacts.1
    clear hK
    (repeat (first | (first | ((with_reducible first | refine w1 ?_ | refine w3 ?_ | refine w4 ?_ | refine w11 ?_ | refine stb_n ?_); intros) | ((with_reducible first | refine v5 ?_ | refine v6 ?_ | refine v7 ?_ | refine ve ?_ | refine vn ?_); refine ⟨_, rfl, ?_⟩) | ((with_reducible first | refine v8 ?_ ?_ | refine v9 ?_ ?_ | refine v10 ?_ ?_ | refine v12 ?_ ?_); exact rfl; intros) | ((with_reducible refine w2 ?_); try simp -implicitDefEqProofs only [SE, SU, SV, hlt]; intros) | ((with_reducible refine w5 ?_ ?_); simp; refine ⟨_, rfl, ?_⟩) | ((with_reducible refine w12 ?_ ?_ ?_ ?_); simp; simp; simp [oneC]; intros) | (refine okF_i (bldP_eq rfl) ?_; try simp only [BLS, SB, Nat.reduceAdd])) | simp -implicitDefEqProofs only [SE, SU, SV, hlt]))
    refine ixA (i := i) (a := a1) (l := l) (A := WAL) h rfl rfl hib fun g o ha => ?_
    refine ldA0 (i := i) (l := l) (A := WAL) (hr := ha ▸ Rd.any hlr) h rfl hib (v := .agg #[.int .i64 l[i].op, .int .i64 l[i].n, .int .i64 l[i].m, .slice l[i].b.a l[i].b.bs.length l[i].b.c, .slice l[i].la l[i].l.length l[i].lc]) rfl (by simp) ?_
    generalize l[i] = y at *
    (repeat (first | (first | ((with_reducible first | refine w1 ?_ | refine w3 ?_ | refine w4 ?_ | refine w11 ?_ | refine stb_n ?_); intros) | ((with_reducible first | refine v5 ?_ | refine v6 ?_ | refine v7 ?_ | refine ve ?_ | refine vn ?_); refine ⟨_, rfl, ?_⟩) | ((with_reducible first | refine v8 ?_ ?_ | refine v9 ?_ ?_ | refine v10 ?_ ?_ | refine v12 ?_ ?_); exact rfl; intros) | ((with_reducible refine w2 ?_); try simp -implicitDefEqProofs only [SE, SU, SV]; intros) | ((with_reducible refine w5 ?_ ?_); simp; refine ⟨_, rfl, ?_⟩) | ((with_reducible refine w12 ?_ ?_ ?_ ?_); simp; simp; simp [oneC]; intros) | (refine okF_i (bldP_eq rfl) ?_; try simp only [BLS, SB, Nat.reduceAdd])) | simp -implicitDefEqProofs only [SE, SU, SV]))
    rename_i pb _ _ W6 h
    (try simp only [BLS, SB, stL_a, stL_b, stL_c, List.append_nil, List.take_nil, List.drop_nil, Nat.reduceAdd] at h)
    refine joinK_i ?_
    (repeat (first | (first | ((with_reducible first | refine w1 ?_ | refine w3 ?_ | refine w4 ?_ | refine w11 ?_ | refine stb_n ?_); intros) | ((with_reducible first | refine v5 ?_ | refine v6 ?_ | refine v7 ?_ | refine ve ?_ | refine vn ?_); refine ⟨_, rfl, ?_⟩) | ((with_reducible first | refine v8 ?_ ?_ | refine v9 ?_ ?_ | refine v10 ?_ ?_ | refine v12 ?_ ?_); exact rfl; intros) | ((with_reducible refine w2 ?_); try simp -implicitDefEqProofs only [SE, SU, SV]; intros) | ((with_reducible refine w5 ?_ ?_); simp; refine ⟨_, rfl, ?_⟩) | ((with_reducible refine w12 ?_ ?_ ?_ ?_); simp; simp; simp [oneC]; intros) | (refine okF_i (bldP_eq rfl) ?_; try simp only [BLS, SB, Nat.reduceAdd])) | simp -implicitDefEqProofs only [SE, SU, SV]))
    by_cases o0 : y.op = 0
    · have f1 := decide_eq_true o0
      haveI hxr2 : ∀ L, Rd { W with drawn := 0 } L y.la BSY y.l := fun L => Rd.any hxr
      (repeat (first | (first | ((with_reducible first | refine w1 ?_ | refine w3 ?_ | refine w4 ?_ | refine w11 ?_ | refine stb_n ?_); intros) | ((with_reducible first | refine v5 ?_ | refine v6 ?_ | refine v7 ?_ | refine ve ?_ | refine vn ?_); refine ⟨_, rfl, ?_⟩) | ((with_reducible first | refine v8 ?_ ?_ | refine v9 ?_ ?_ | refine v10 ?_ ?_ | refine v12 ?_ ?_); exact rfl; intros) | ((with_reducible refine w2 ?_); try simp -implicitDefEqProofs only [SE, SU, SV, f1]; intros) | ((with_reducible refine w5 ?_ ?_); simp; refine ⟨_, rfl, ?_⟩) | ((with_reducible refine w12 ?_ ?_ ?_ ?_); simp; simp; simp [oneC]; intros) | (refine okF_i (bldP_eq rfl) ?_; try simp only [BLS, SB, Nat.reduceAdd])) | simp -implicitDefEqProofs only [SE, SU, SV, f1]))
      refine walAddV (dp := p) (q := q2) (a := y.la) (c := y.lc) (rs := y.l) (n := 690 - 10 * i) (by first | assumption | exact St.tick (by assumption) | exact St.tick (St.tick (by assumption))) (rdAnyL hxg) (hv.mono (by omega) (Int.le_refl _) (Nat.le_refl _)) (by simp; omega) (fun r hr => by obtain ⟨z, hz, rfl⟩ := List.mem_map.1 hr; have := hy3 z hz; omega) (by omega) (by omega) (by omega) fun d3 l3 W7 _ hv h => ?_
      (repeat (first | (first | ((with_reducible first | refine w1 ?_ | refine w3 ?_ | refine w4 ?_ | refine w11 ?_ | refine stb_n ?_); intros) | ((with_reducible first | refine v5 ?_ | refine v6 ?_ | refine v7 ?_ | refine ve ?_ | refine vn ?_); refine ⟨_, rfl, ?_⟩) | ((with_reducible first | refine v8 ?_ ?_ | refine v9 ?_ ?_ | refine v10 ?_ ?_ | refine v12 ?_ ?_); exact rfl; intros) | ((with_reducible refine w2 ?_); try simp -implicitDefEqProofs only [SE, SU, SV]; intros) | ((with_reducible refine w5 ?_ ?_); simp; refine ⟨_, rfl, ?_⟩) | ((with_reducible refine w12 ?_ ?_ ?_ ?_); simp; simp; simp [oneC]; intros) | (refine okF_i (bldP_eq rfl) ?_; try simp only [BLS, SB, Nat.reduceAdd])) | simp -implicitDefEqProofs only [SE, SU, SV]))
      refine bs0 BSY (by first | assumption | exact St.tick (by assumption) | exact St.tick (St.tick (by assumption))) fun a7 c7 W8 h => ?_
      (repeat (first | (first | ((with_reducible first | refine w1 ?_ | refine w3 ?_ | refine w4 ?_ | refine w11 ?_ | refine stb_n ?_); intros) | ((with_reducible first | refine v5 ?_ | refine v6 ?_ | refine v7 ?_ | refine ve ?_ | refine vn ?_); refine ⟨_, rfl, ?_⟩) | ((with_reducible first | refine v8 ?_ ?_ | refine v9 ?_ ?_ | refine v10 ?_ ?_ | refine v12 ?_ ?_); exact rfl; intros) | ((with_reducible refine w2 ?_); try simp -implicitDefEqProofs only [SE, SU, SV]; intros) | ((with_reducible refine w5 ?_ ?_); simp; refine ⟨_, rfl, ?_⟩) | ((with_reducible refine w12 ?_ ?_ ?_ ?_); simp; simp; simp [oneC]; intros) | (refine okF_i (bldP_eq rfl) ?_; try simp only [BLS, SB, Nat.reduceAdd])) | simp -implicitDefEqProofs only [SE, SU, SV]))
      refine appA (A := BSY) (a := a7) (l := []) (m := rows) h rfl (by simp; omega) (by simp [maxLen]; omega) fun a8 c8 W9 h => ?_
      rw [List.nil_append] at h ⊢
      (repeat (first | (first | ((with_reducible first | refine w1 ?_ | refine w3 ?_ | refine w4 ?_ | refine w11 ?_ | refine stb_n ?_); intros) | ((with_reducible first | refine v5 ?_ | refine v6 ?_ | refine v7 ?_ | refine ve ?_ | refine vn ?_); refine ⟨_, rfl, ?_⟩) | ((with_reducible first | refine v8 ?_ ?_ | refine v9 ?_ ?_ | refine v10 ?_ ?_ | refine v12 ?_ ?_); exact rfl; intros) | ((with_reducible refine w2 ?_); try simp -implicitDefEqProofs only [SE, SU, SV]; intros) | ((with_reducible refine w5 ?_ ?_); simp; refine ⟨_, rfl, ?_⟩) | ((with_reducible refine w12 ?_ ?_ ?_ ?_); simp; simp; simp [oneC]; intros) | (refine okF_i (bldP_eq rfl) ?_; try simp only [BLS, SB, Nat.reduceAdd])) | simp -implicitDefEqProofs only [SE, SU, SV]))
      refine appA (A := BSY) (a := a8) (l := rows) (m := y.l) h rfl (by omega) (by simp only [maxLen]; omega) fun a9 c9 W10 h => ?_
      refine hJ1 d3 l3 q2 base a9 c9 (rows ++ y.l) safe _ ?_ (by simp; omega) (fun z hz => (List.mem_append.1 hz).elim (hrg z) (hxg z)) (St.wk h)
      rw [show bsOf (rows ++ y.l) = bsOf rows ++ bsOf y.l from List.map_append]
      exact (hv.mono (by omega) (by omega) (by omega)).turns (by omega)
    have f0 := decide_eq_false o0
    by_cases o1 : y.op = 1
    · have f1 := decide_eq_true o1
      (repeat (first | (first | ((with_reducible first | refine w1 ?_ | refine w3 ?_ | refine w4 ?_ | refine w11 ?_ | refine stb_n ?_); intros) | ((with_reducible first | refine v5 ?_ | refine v6 ?_ | refine v7 ?_ | refine ve ?_ | refine vn ?_); refine ⟨_, rfl, ?_⟩) | ((with_reducible first | refine v8 ?_ ?_ | refine v9 ?_ ?_ | refine v10 ?_ ?_ | refine v12 ?_ ?_); exact rfl; intros) | ((with_reducible refine w2 ?_); try simp -implicitDefEqProofs only [SE, SU, SV, f0, f1]; intros) | ((with_reducible refine w5 ?_ ?_); simp; refine ⟨_, rfl, ?_⟩) | ((with_reducible refine w12 ?_ ?_ ?_ ?_); simp; simp; simp [oneC]; intros) | (refine okF_i (bldP_eq rfl) ?_; try simp only [BLS, SB, Nat.reduceAdd])) | simp -implicitDefEqProofs only [SE, SU, SV, f0, f1]))
      refine walSyncV (dp := p) (q := q2) (by first | assumption | exact St.tick (by assumption) | exact St.tick (St.tick (by assumption))) hv fun d3 l3 W7 _ hv h => ?_
      (repeat (first | (first | ((with_reducible first | refine w1 ?_ | refine w3 ?_ | refine w4 ?_ | refine w11 ?_ | refine stb_n ?_); intros) | ((with_reducible first | refine v5 ?_ | refine v6 ?_ | refine v7 ?_ | refine ve ?_ | refine vn ?_); refine ⟨_, rfl, ?_⟩) | ((with_reducible first | refine v8 ?_ ?_ | refine v9 ?_ ?_ | refine v10 ?_ ?_ | refine v12 ?_ ?_); exact rfl; intros) | ((with_reducible refine w2 ?_); try simp -implicitDefEqProofs only [SE, SU, SV]; intros) | ((with_reducible refine w5 ?_ ?_); simp; refine ⟨_, rfl, ?_⟩) | ((with_reducible refine w12 ?_ ?_ ?_ ?_); simp; simp; simp [oneC]; intros) | (refine okF_i (bldP_eq rfl) ?_; try simp only [BLS, SB, Nat.reduceAdd])) | simp -implicitDefEqProofs only [SE, SU, SV]))
      refine hJ1 d3 l3 q2 base a c rows rows.length _ ?_ (by omega) hrg (St.wk (by first | assumption | exact St.tick (by assumption) | exact St.tick (St.tick (by assumption))))
      rw [show (bsOf rows).length = rows.length by simp] at hv
      exact (hv.mono (by omega) (by omega) (by omega)).turns (by omega)
    have f1 := decide_eq_false o1
    by_cases o2 : y.op = 2
    · have f2 := decide_eq_true o2
      (repeat (first | (first | ((with_reducible first | refine w1 ?_ | refine w3 ?_ | refine w4 ?_ | refine w11 ?_ | refine stb_n ?_); intros) | ((with_reducible first | refine v5 ?_ | refine v6 ?_ | refine v7 ?_ | refine ve ?_ | refine vn ?_); refine ⟨_, rfl, ?_⟩) | ((with_reducible first | refine v8 ?_ ?_ | refine v9 ?_ ?_ | refine v10 ?_ ?_ | refine v12 ?_ ?_); exact rfl; intros) | ((with_reducible refine w2 ?_); try simp -implicitDefEqProofs only [SE, SU, SV, f0, f1, f2]; intros) | ((with_reducible refine w5 ?_ ?_); simp; refine ⟨_, rfl, ?_⟩) | ((with_reducible refine w12 ?_ ?_ ?_ ?_); simp; simp; simp [oneC]; intros) | (refine okF_i (bldP_eq rfl) ?_; try simp only [BLS, SB, Nat.reduceAdd])) | simp -implicitDefEqProofs only [SE, SU, SV, f0, f1, f2]))
      refine walKeepV (hr := Rd.any hb3) (dp := p) (q := q2) (a := y.b.a) (c := y.b.c) (b := y.b.bs) (n := 698 - 10 * i) (by first | assumption | exact St.tick (by assumption) | exact St.tick (St.tick (by assumption))) (hv.mono (by omega) (Int.le_refl _) (Nat.le_refl _)) (by omega) (by omega) (by omega) (by omega) fun d3 l3 W7 _ hv h => ?_
      (repeat (first | (first | ((with_reducible first | refine w1 ?_ | refine w3 ?_ | refine w4 ?_ | refine w11 ?_ | refine stb_n ?_); intros) | ((with_reducible first | refine v5 ?_ | refine v6 ?_ | refine v7 ?_ | refine ve ?_ | refine vn ?_); refine ⟨_, rfl, ?_⟩) | ((with_reducible first | refine v8 ?_ ?_ | refine v9 ?_ ?_ | refine v10 ?_ ?_ | refine v12 ?_ ?_); exact rfl; intros) | ((with_reducible refine w2 ?_); try simp -implicitDefEqProofs only [SE, SU, SV]; intros) | ((with_reducible refine w5 ?_ ?_); simp; refine ⟨_, rfl, ?_⟩) | ((with_reducible refine w12 ?_ ?_ ?_ ?_); simp; simp; simp [oneC]; intros) | (refine okF_i (bldP_eq rfl) ?_; try simp only [BLS, SB, Nat.reduceAdd])) | simp -implicitDefEqProofs only [SE, SU, SV]))
      refine b2s (hr := Rd.any hb3) (a := y.b.a) (l := y.b.bs) (by first | assumption | exact St.tick (by assumption) | exact St.tick (St.tick (by assumption))) ?_
      refine hJ1 d3 l3 q2 y.b.bs none 0 [] 0 _ ?_ (by simp) (fun z hz => nomatch hz) (St.wk (St.ent (by first | assumption | exact St.tick (by assumption) | exact St.tick (St.tick (by assumption))) (arr_nil BSY T_s_uint8)))
      exact (hv.mono (by omega) (by omega) (by omega)).turns (by omega)
    have f2 := decide_eq_false o2
    obtain ⟨t, bn, P, J, m, g1, g2, g3, g4, g5, g6, g7, g8, g9, g10, g11⟩ := hv.crash y.n y.m
    have hml : m ≤ rows.length := by simpa using g5
    have hbb := hv.bl0
    have hr3 : (recsOf P).length = m := by rw [g3]; simp; omega
    (repeat (first | (first | ((with_reducible first | refine w1 ?_ | refine w3 ?_ | refine w4 ?_ | refine w11 ?_ | refine stb_n ?_); intros) | ((with_reducible first | refine v5 ?_ | refine v6 ?_ | refine v7 ?_ | refine ve ?_ | refine vn ?_); refine ⟨_, rfl, ?_⟩) | ((with_reducible first | refine v8 ?_ ?_ | refine v9 ?_ ?_ | refine v10 ?_ ?_ | refine v12 ?_ ?_); exact rfl; intros) | ((with_reducible refine w2 ?_); try simp -implicitDefEqProofs only [SE, SU, SV, f0, f1, f2]; intros) | ((with_reducible refine w5 ?_ ?_); simp; refine ⟨_, rfl, ?_⟩) | ((with_reducible refine w12 ?_ ?_ ?_ ?_); simp; simp; simp [oneC]; intros) | (refine okF_i (bldP_eq rfl) ?_; try simp only [BLS, SB, Nat.reduceAdd])) | simp -implicitDefEqProofs only [SE, SU, SV, f0, f1, f2]))
    refine diskCrash (d := d2) (keep := y.n) (torn := y.m) (by first | assumption | exact St.tick (by assumption) | exact St.tick (St.tick (by assumption))) hv.lok.ok g11 (by have := hv.lok.ws; omega) fun W11 h => ?_
    refine diskOn (d := d2.crash y.n y.m) h fun W12 h => ?_
    refine walOpenV (dp := p) (d := (d2.crash y.n y.m).power) (part := part) (n := 700) h rfl q1 q2' rfl g9 rfl g1 g10 g7 g8 g2 (by omega) (by omega) (nt := false) (fun h => nomatch h) fun q3 d3 l3 W13 hv3 _ h => ?_
    (repeat (first | (first | ((with_reducible first | refine w1 ?_ | refine w3 ?_ | refine w4 ?_ | refine w11 ?_ | refine stb_n ?_); intros) | ((with_reducible first | refine v5 ?_ | refine v6 ?_ | refine v7 ?_ | refine ve ?_ | refine vn ?_); refine ⟨_, rfl, ?_⟩) | ((with_reducible first | refine v8 ?_ ?_ | refine v9 ?_ ?_ | refine v10 ?_ ?_ | refine v12 ?_ ?_); exact rfl; intros) | ((with_reducible refine w2 ?_); try simp -implicitDefEqProofs only [SE, SU, SV]; intros) | ((with_reducible refine w5 ?_ ?_); simp; refine ⟨_, rfl, ?_⟩) | ((with_reducible refine w12 ?_ ?_ ?_ ?_); simp; simp; simp [oneC]; intros) | (refine okF_i (bldP_eq rfl) ?_; try simp only [BLS, SB, Nat.reduceAdd])) | simp -implicitDefEqProofs only [SE, SU, SV]))
    have hsm := hv3.small
    refine walAll (dp := p) (l := l3) (by first | assumption | exact St.tick (by assumption) | exact St.tick (St.tick (by assumption))) (by rw [hv3.recs, hr3]; omega) hsm fun a6 c6 rs6 W14 hrs6 h => ?_
    have hl6 : rs6.length = m := by have := congrArg List.length hrs6; rw [hv3.recs, hr3] at this; simpa using this
    rw [hl6]
    have f3 : decide ((m : Int) < (safe : Int)) = false := decide_eq_false (by omega)
    have f4 : decide ((rows.length : Int) < (m : Int)) = false := decide_eq_false (by omega)
    (repeat (first | (first | ((with_reducible first | refine w1 ?_ | refine w3 ?_ | refine w4 ?_ | refine w11 ?_ | refine stb_n ?_); intros) | ((with_reducible first | refine v5 ?_ | refine v6 ?_ | refine v7 ?_ | refine ve ?_ | refine vn ?_); refine ⟨_, rfl, ?_⟩) | ((with_reducible first | refine v8 ?_ ?_ | refine v9 ?_ ?_ | refine v10 ?_ ?_ | refine v12 ?_ ?_); exact rfl; intros) | ((with_reducible refine w2 ?_); try simp -implicitDefEqProofs only [SE, SU, SV, f3, f4]; intros) | ((with_reducible refine w5 ?_ ?_); simp; refine ⟨_, rfl, ?_⟩) | ((with_reducible refine w12 ?_ ?_ ?_ ?_); simp; simp; simp [oneC]; intros) | (refine okF_i (bldP_eq rfl) ?_; try simp only [BLS, SB, Nat.reduceAdd])) | simp -implicitDefEqProofs only [SE, SU, SV, f3, f4]))
    refine slcRc (W0 := { W with drawn := 0 }) (L := [arr BSY T_s_uint8 a c rows]) (a := a) (l := rows) (A := BSY) (lo := 0) (hi := m) rfl rfl (bnd_nat (by omega)) bnd_none (Nat.zero_le _) hml hcap fun a12 c12 _ hr12 => ?_
    rw [List.drop_zero] at hr12 ⊢
    (repeat (first | (first | ((with_reducible first | refine w1 ?_ | refine w3 ?_ | refine w4 ?_ | refine w11 ?_ | refine stb_n ?_); intros) | ((with_reducible first | refine v5 ?_ | refine v6 ?_ | refine v7 ?_ | refine ve ?_ | refine vn ?_); refine ⟨_, rfl, ?_⟩) | ((with_reducible first | refine v8 ?_ ?_ | refine v9 ?_ ?_ | refine v10 ?_ ?_ | refine v12 ?_ ?_); exact rfl; intros) | ((with_reducible refine w2 ?_); try simp -implicitDefEqProofs only [SE, SU, SV]; intros) | ((with_reducible refine w5 ?_ ?_); simp; refine ⟨_, rfl, ?_⟩) | ((with_reducible refine w12 ?_ ?_ ?_ ?_); simp; simp; simp [oneC]; intros) | (refine okF_i (bldP_eq rfl) ?_; try simp only [BLS, SB, Nat.reduceAdd])) | simp -implicitDefEqProofs only [SE, SU, SV]))
    refine walAll (dp := p) (l := l3) (by first | assumption | exact St.tick (by assumption) | exact St.tick (St.tick (by assumption))) (by rw [hv3.recs, hr3]; omega) hsm fun a13 c13 rs13 W15 hrs13 h => ?_
    have hmt : (bsOf rows).take m = bsOf (rows.take m) := List.map_take.symm
    rw [hv3.recs, g3, hmt] at hrs13
    (repeat (first | (first | ((with_reducible first | refine w1 ?_ | refine w3 ?_ | refine w4 ?_ | refine w11 ?_ | refine stb_n ?_); intros) | ((with_reducible first | refine v5 ?_ | refine v6 ?_ | refine v7 ?_ | refine ve ?_ | refine vn ?_); refine ⟨_, rfl, ?_⟩) | ((with_reducible first | refine v8 ?_ ?_ | refine v9 ?_ ?_ | refine v10 ?_ ?_ | refine v12 ?_ ?_); exact rfl; intros) | ((with_reducible refine w2 ?_); try simp -implicitDefEqProofs only [SE, SU, SV]; intros) | ((with_reducible refine w5 ?_ ?_); simp; refine ⟨_, rfl, ?_⟩) | ((with_reducible refine w12 ?_ ?_ ?_ ?_); simp; simp; simp [oneC]; intros) | (refine okF_i (bldP_eq rfl) ?_; try simp only [BLS, SB, Nat.reduceAdd])) | simp -implicitDefEqProofs only [SE, SU, SV]))
    have h := St.wk (L' := [arr BSY T_s_uint8 a13 c13 rs13, many fch rs13, lg q3 p l3, dk p d3, arr BSY T_s_uint8 a c rows]) (by first | assumption | exact St.tick (by assumption) | exact St.tick (St.tick (by assumption)))
    refine refSame (hr2 := Rd.wk hr12) (a := a13) (b := a12) (r1 := rs13) (r2 := rows.take m) h (rdUp rdIn) (rdAnyL fun x hx => hrg x (List.mem_of_mem_take hx)) (by have := congrArg List.length hrs13; simp at this; omega) fun W16 h => ?_
    rw [hrs13]
    (repeat (first | (first | ((with_reducible first | refine w1 ?_ | refine w3 ?_ | refine w4 ?_ | refine w11 ?_ | refine stb_n ?_); intros) | ((with_reducible first | refine v5 ?_ | refine v6 ?_ | refine v7 ?_ | refine ve ?_ | refine vn ?_); refine ⟨_, rfl, ?_⟩) | ((with_reducible first | refine v8 ?_ ?_ | refine v9 ?_ ?_ | refine v10 ?_ ?_ | refine v12 ?_ ?_); exact rfl; intros) | ((with_reducible refine w2 ?_); try simp -implicitDefEqProofs only [SE, SU, SV, eq_self]; intros) | ((with_reducible refine w5 ?_ ?_); simp; refine ⟨_, rfl, ?_⟩) | ((with_reducible refine w12 ?_ ?_ ?_ ?_); simp; simp; simp [oneC]; intros) | (refine okF_i (bldP_eq rfl) ?_; try simp only [BLS, SB, Nat.reduceAdd])) | simp -implicitDefEqProofs only [SE, SU, SV, eq_self]))
    refine slcM (a := a) (l := rows) (m := m) (by first | assumption | exact St.tick (by assumption) | exact St.tick (St.tick (by assumption))) rfl hml fun a14 he => ?_
    refine hJ1 d3 l3 q3 base a14 m (rows.take m) m _ ?_ (by simp; omega) (fun z hz => hrg z (List.mem_of_mem_take hz)) (St.wk (St.ent (by first | assumption | exact St.tick (by assumption) | exact St.tick (St.tick (by assumption))) he))
    rw [hr3, g3, hmt] at hv3
    exact (hv3.mono (by omega) (by omega) (by omega)).turns (by omega)
  · (repeat (first | (first | ((with_reducible first | refine w1 ?_ | refine w3 ?_ | refine w4 ?_ | refine w11 ?_ | refine stb_n ?_); intros) | ((with_reducible first | refine v5 ?_ | refine v6 ?_ | refine v7 ?_ | refine ve ?_ | refine vn ?_); refine ⟨_, rfl, ?_⟩) | ((with_reducible first | refine v8 ?_ ?_ | refine v9 ?_ ?_ | refine v10 ?_ ?_ | refine v12 ?_ ?_); exact rfl; intros) | ((with_reducible refine w2 ?_); try simp -implicitDefEqProofs only [SE, SU, SV, hlt]; intros) | ((with_reducible refine w5 ?_ ?_); simp; refine ⟨_, rfl, ?_⟩) | ((with_reducible refine w12 ?_ ?_ ?_ ?_); simp; simp; simp [oneC]; intros) | (refine okF_i (bldP_eq rfl) ?_; try simp only [BLS, SB, Nat.reduceAdd])) | simp -implicitDefEqProofs only [SE, SU, SV, hlt]))
    exact St.lo h
end Go.Proofs.Ythladblmjoaeoaa
namespace Go.Proofs.Ythladblmjoaeoaa.walPlaysDone
set_option linter.unusedVariables false
set_option linter.unusedSimpArgs false
open Go Go.Eng Go.ChangeShapes Go.WideShapes Go.ChangeAt Go.RowKit

theorem own : ownKnob Try.prog.godebug = none := by kernel_rfl
theorem laidOut : laidOutB Try.prog = true := by kernel_rfl

set_option maxRecDepth 100000 in
theorem lifted (os : Os) (started : os.Started) (H : Type) (enc : TypeId × Value → H) :
    ReturnsInHanded {} Try.checked os F_rostrumlaw6_WalPlays .any (Rows.walPlaysSpec.pre6 enc Try.prog Try.f10 Rows.walPlaysRow.domain false) (Rows.walPlaysSpec.post enc Try.prog Try.f10 false true false false) := by
  refine returnsInHanded_of_change (C := Try.checked) own started (by kernel_rfl) S.rostrumlaw6_WalPlays.fn
    (ChangeSpec.witness6 (enc := enc) (C := Try.checked) false ⟨#[], #[(.int .i64 0), (.slice none 0 0)], []⟩ 8 (by kernel_rfl) (by kernel_rfl) (by kernel_rfl) (by kernel_rfl)) ?_
  intro W base args ds gs before hval0 hW hcnd _
  have hval : ∀ (j : Nat) t v, Try.f10.params[j]? = some t → args[j]? = some v → Value.okWide Try.prog W .any base t v := hval0
  have hW' := hW
  obtain ⟨p, q, hA0, hV, rfl, hfz, hnd⟩ := hW
  have hA : DataW.TrodAll enc Try.prog W 0 (fun _ => true) true Try.f10.params.toList args.toList ds p := hA0
  have hpar : Try.f10.params.toList = [T_int, T_s_rostrumlaw6_Act] := by kernel_rfl
  rw [hpar] at hA
  have hA1 := hA
  obtain ⟨v0, vs0, d0, ds0, p0, q0, hargs, rfl, rfl, h0, r0⟩ := trodAll_cons hA
  obtain ⟨v1, vs1, d1, ds1, p1, q1, rfl, rfl, rfl, h1, r1⟩ := trodAll_cons r0
  obtain ⟨rfl, rfl, rfl⟩ := trodAll_nil r1
  obtain rfl : args = #[v0, v1] := by cases args; simp_all
  obtain ⟨rfl, rfl⟩ := trodVars_none hV
  have g0 : GoodA W [.int .i64] false v0 := open_arg (m := 8) (by kernel_rfl) (by kernel_rfl) (hval 0 T_int v0 (by kernel_rfl) rfl) h0
  have g1 : GoodA W [.sl [.int .i64, .int .i64, .int .i64, .sl [.int .u8], .sl [.sl [.int .u8]]]] false v1 := open_arg (m := 8) (by kernel_rfl) (by kernel_rfl) (hval 1 T_s_rostrumlaw6_Act v1 (by kernel_rfl) rfl) h1
  clear hA0 hval0
  have hc : Calls Try.prog F_rostrumlaw6_WalPlays #[v0, v1] W fun e W' => e = .returned (.bool true) ∧ Below W.heap.size W W' :=
    Calls.mono (walPlays_walk g0 g1) fun e W' h => by
      cases e <;> first | exact ⟨by rw [h.1], h.2.below⟩ | exact h.elim
  refine hc.mono fun e W' ⟨he, bel⟩ => ?_
  subst he
  exact ⟨_, rfl, _, _, _, [], _, [], hW', trodAll_mk1 (shut_bool (t := T_bool) (by kernel_rfl) _), keep_all laidOut (by kernel_rfl) hA1 bel, rfl, bel.frame _, fun h => by cases h⟩

theorem proved : Rows.WalPlaysSaid :=
  OpenClaim.holds_of_wide F_rostrumlaw6_WalPlays Try.f10 rfl rfl rfl rfl rfl rfl rfl ⟨rfl, rfl, rfl, rfl, rfl⟩ rfl rfl rfl rfl rfl (by kernel_rfl) S.rostrumlaw6_WalPlays.fn (by kernel_rfl)
    (of_decide_eq_true (by kernel_rfl)) (by unfold Func.isWrapper; first | (rw [if_pos (by decide +kernel)]; kernel_rfl) | (rw [if_neg (by decide +kernel)]; exact ⟨rfl, rfl⟩))
    (fun os started H enc _ => lifted os started H enc)
end Go.Proofs.Ythladblmjoaeoaa.walPlaysDone
