/- 'OrderChain' holds. Printed by an own tool (wip/tools/law.py), after the kit's shell. -/
import Derived.Test.YtkjhccpanedccaaBOrderChain9
import Derived.Test.YtkjhccpanedccaaRows
import Derived.WalkKit
import Derived.ProofKit
namespace Go.Proofs.Ytkjhccpanedccaa
set_option linter.unusedVariables false
set_option linter.unusedSimpArgs false
open Go Go.Eng Go.Tar Go.Sort Go.RowKit
section
variable {l m : List Ins} {x y : Ins} {d : Dot}
theorem depsL_mem : d ∈ depsL x ↔ (0 ≤ d.rep ∧ d.rep < 7) ∧ (1 ≤ d.n ∧ d.n ≤ x.v.get d.rep.toNat) ∧ d ≠ x.d := by
  unfold depsL depsR
  simp only [List.mem_flatMap, List.mem_range, List.mem_filter, List.mem_map, Bool.not_eq_true', decide_eq_false_iff_not]
  constructor
  · rintro ⟨r, hr, ⟨k, hk, rfl⟩, hne⟩
    refine ⟨⟨by simp only; omega, by simp only; omega⟩, ⟨by simp only; omega, ?_⟩, hne⟩
    simp only [Int.toNat_natCast]; omega
  · rintro ⟨⟨h1, h2⟩, ⟨h3, h4⟩, h5⟩
    obtain ⟨r, n⟩ := d
    simp only at h1 h2 h3 h4
    refine ⟨r.toNat, by omega, ⟨(n - 1).toNat, by omega, ?_⟩, h5⟩
    rw [Dot.mk.injEq]
    constructor <;> omega
theorem insOne_dot (h : insOne x = true) : (0 ≤ x.d.rep ∧ x.d.rep < 7) ∧ 1 ≤ x.d.n ∧ x.d.n ≤ 1000 := by
  unfold insOne dotO at h
  simp only [Bool.and_eq_true, decide_eq_true_eq] at h
  exact ⟨⟨h.1.1.1.1.1, h.1.1.1.1.2⟩, h.1.1.1.2, h.1.1.2⟩
def q0 : Dot → Bool := isO (P7.all 0) []
theorem q0_no (h : 1 ≤ d.n) : q0 d = false := by
  unfold q0 isO
  rw [P7.get_all, decide_eq_false (by omega)]; simp
theorem q0_deps (h : d ∈ depsL x) : q0 d = false := q0_no (depsL_mem.1 h).2.1.1
theorem q0_good (hg : goodO l = true) : ∀ y ∈ l, q0 y.d = false := fun y hy => q0_no (insOne_dot ((goodO_iff.1 hg).1 y hy).1).2.1
theorem q0_all (hg : goodO l = true) : (l.filter fun x => !q0 x.d) = l := by
  rw [List.filter_eq_self]
  intro y hy
  rw [q0_good hg y hy]; rfl
theorem good_sub (hg : goodO l = true) (hs : m.Sublist l) : goodO m = true := by
  obtain ⟨h1, h2, h3⟩ := goodO_iff.1 hg
  exact goodO_iff.2 ⟨fun x hx => h1 x (hs.mem hx), h2.sublist (hs.map _), Nat.le_trans hs.length_le h3⟩
/-- the line of what is done nowhere -/
theorem line0_eq (hg : goodO l = true) : lineTop (P7.all 0) [] l = (lineK (keptO q0 l)).map (·.d) := by
  unfold lineTop
  rw [if_pos hg, show isO (P7.all 0) [] = q0 from rfl, lineO_eq, q0_all hg]
theorem kept0_closed (hx : x ∈ keptO q0 l) (hd : d ∈ depsL x) : ∃ y ∈ keptO q0 l, y.d = d := by
  rcases kept_closed hx hd with h | h
  · rw [q0_deps hd] at h; cases h
  · exact h
theorem kept0_mono (hn : (l.map (·.d)).Nodup) (hg : goodO l = true) (hs : ∀ x ∈ m, x ∈ l) : ∀ x ∈ keptO q0 m, x ∈ keptO q0 l := fun x hx =>
  kept_great (C := fun x => x ∈ keptO q0 m) hn (q0_good hg) (fun x hx => hs x (kept_mem.1 hx).1) (fun x hx d hd => .inr (kept0_closed hx hd)) hx
theorem line0_len (done : P7 Int) (also : List Dot) (l : List Ins) : (lineTop done also l).length ≤ l.length := by
  unfold lineTop
  split
  · rw [lineO_eq, List.length_map]
    unfold lineK lineS
    rw [List.length_map]
    refine Nat.le_trans (lineF_len (onL_ok _)) ?_
    rw [sortO_len]
    have h1 := (kept_sub (q := isO done also) (l := l.filter fun x => !isO done also x.d)).length_le
    rw [sortO_len] at h1
    exact Nat.le_trans h1 (List.length_filter_le _ _)
  · simp
theorem line0_prefix (hg : goodO l = true) (hgm : goodO m = true) (hs : ∀ x ∈ m, x ∈ l) (hT : ∀ x ∈ l, ∀ y ∈ l, x ≠ y → x.d ∈ depsL y ∨ y.d ∈ depsL x) :
    lineTop (P7.all 0) [] m = (lineTop (P7.all 0) [] l).take (lineTop (P7.all 0) [] m).length := by
  have hn := (goodO_iff.1 hg).2.1
  have hnm := (goodO_iff.1 hgm).2.1
  rw [line0_eq hg, line0_eq hgm, List.length_map, ← List.map_take]
  congr 1
  exact line_prefix (kept_nodup hn) (kept_nodup hnm) (kept0_mono hn hg hs) (fun x hx d hd => kept0_closed hx hd) fun x hx y hy hne => hT x (kept_mem.1 hx).1 y (kept_mem.1 hy).1 hne
/-- they hang together -/
def tog (x y : Ins) : Bool := !(decide (x.v.get y.d.rep.toNat < y.d.n) && decide (y.v.get x.d.rep.toNat < x.d.n))
theorem tog_deps (hx : insOne x = true) (hy : insOne y = true) (hne : x.d ≠ y.d) (h : tog x y = true) : x.d ∈ depsL y ∨ y.d ∈ depsL x := by
  have h1 := insOne_dot hx
  have h2 := insOne_dot hy
  unfold tog at h
  rw [Bool.not_eq_true', Bool.and_eq_false_iff, decide_eq_false_iff_not, decide_eq_false_iff_not] at h
  rcases h with h | h
  · exact .inr (depsL_mem.2 ⟨h2.1, ⟨h2.2.1, by omega⟩, fun e => hne e.symm⟩)
  · exact .inl (depsL_mem.2 ⟨h1.1, ⟨h1.2.1, by omega⟩, hne⟩)
theorem tog_all (hg : goodO l = true) (hT : ∀ i (hi : i < l.length) k (hk : k < i), tog l[i] l[k] = true) : ∀ x ∈ l, ∀ y ∈ l, x ≠ y → x.d ∈ depsL y ∨ y.d ∈ depsL x := by
  obtain ⟨h1, h2, _⟩ := goodO_iff.1 hg
  intro x hx y hy hne
  obtain ⟨i, hi, rfl⟩ := List.getElem_of_mem hx
  obtain ⟨k, hk, rfl⟩ := List.getElem_of_mem hy
  have hd : l[i].d ≠ l[k].d := fun e => hne (by have := at_inj h2 hi hk e; subst this; rfl)
  rcases Nat.lt_trichotomy i k with h | h | h
  · exact (tog_deps (h1 _ (List.getElem_mem hk)).1 (h1 _ (List.getElem_mem hi)).1 (fun e => hd e.symm) (hT k hk i h)).symm
  · subst h; exact absurd rfl hne
  · exact tog_deps (h1 _ (List.getElem_mem hi)).1 (h1 _ (List.getElem_mem hk)).1 hd (hT i hi k h)
/-- those that are taken -/
def takeM (l : List Ins) (s : List Bool) (i : Nat) : List Ins := ((l.zipIdx.take i).filter fun x => s.getD x.2 false).map (·.1)
theorem takeM_succ (s : List Bool) {i : Nat} (hi : i < l.length) : takeM l s (i + 1) = if s.getD i false = true then takeM l s i ++ [l[i]] else takeM l s i := by
  unfold takeM
  rw [List.take_succ_eq_append_getElem (by simpa using hi), List.filter_append, List.map_append]
  by_cases h : s.getD i false = true
  · rw [if_pos h]; simp at h; simp [h]
  · rw [if_neg h]; simp at h; simp [h]
theorem takeM_sub (l : List Ins) (s : List Bool) (i : Nat) : (takeM l s i).Sublist l := by
  have h1 : ((l.zipIdx.take i).filter fun x => s.getD x.2 false).Sublist l.zipIdx := List.filter_sublist.trans (List.take_sublist _ _)
  have h2 := h1.map (·.1)
  have h3 : l.zipIdx.map (·.1) = l := by apply List.ext_getElem <;> simp
  rw [h3] at h2
  exact h2
end
theorem openBools {W : World} {v : Value} (h : GoodA W [.sl [.bool]] false v) : ∃ (a : Option Addr) (c : Nat) (l : List Bool), v = .slice a l.length c ∧ l.length ≤ c ∧ c ≤ maxLen ∧ Rd W [] a BOO l := by
  obtain ⟨a, c, l, h1, h2, h3, h4, _⟩ := openArr BOO (fun _ => True) h.one rfl (fun vs h => by
    obtain ⟨_, _, rfl, h1, h⟩ := h.cons'
    obtain rfl := h.nil'
    obtain ⟨b, rfl⟩ := h1.bool'
    exact ⟨b, rfl, trivial⟩)
  exact ⟨a, c, l, h1, h2, h3, h4⟩
set_option maxRecDepth 100000 in
set_option maxHeartbeats 8000000 in
theorem orderAll_walk {W : World} {v0 v1 : Value} (h0 : GoodA W [.sl ClI] false v0) (h1 : GoodA W [.sl [.bool]] false v1) : callK PR F_rostrumlaw18_OrderAll [v0, v1] (fun v W' => v = .bool true ∧ Lo W W') W := by
  obtain ⟨la, lc, l, rfl, hlc, hlm, hrd, -⟩ := openInss (goodAz h0)
  obtain ⟨sa, sc, s, rfl, hsc, hsm, hrs⟩ := openBools (goodAz h1)
  apply S.rostrumlaw18_OrderAll.call
  unfold S.rostrumlaw18_OrderAll.body
  have h00 : ({ W with drawn := 0 } : World).drawn = 0 := rfl
  have fin : ∀ (W' : World) (L : List Asn), St { W with drawn := 0 } L W' → Lo W W' := fun W' L h => St.lo h
  refine lawAwake h00 (St.startz W) fun W1 h => ?_
  generalize ({ W with drawn := 0 } : World) = W0 at *
  by_cases c1 : (20 : Int) < (l.length : Int)
  · (repeat (first | (first | (with_reducible (first | refine w1 fun _ _ => ?_ | refine w3 fun _ _ _ => ?_ | refine w4 fun _ _ _ => ?_ | refine w11 fun _ _ _ => ?_ | refine stb_n ?_)) | ((with_reducible refine w2 ?_); try simp -implicitDefEqProofs only [EN, lsub, lget, stL, beq_self_eq_true, ne_eq, if_true, if_false, List.cons_append, List.nil_append, Option.isNone_some, Option.isNone_none, c1]; intro _ _) | ((with_reducible (first | refine w5 ?_ ?_ | refine w6 ?_ ?_ | refine w7 ?_ ?_)); simp; refine ⟨_, rfl, ?_⟩) | ((with_reducible (first | refine w8 ?_ ?_ ?_ | refine w9 ?_ ?_ ?_ | refine w10 ?_ ?_ ?_)); exact rfl; simp) | ((with_reducible refine w12 ?_ ?_ ?_ fun _ _ => ?_); simp; simp; simp [oneC]) | ((with_reducible (first | refine eqs ?_ | refine nes ?_)); refine ⟨_, rfl, ?_⟩) | ((refine okF_i (bldP_eq rfl) ?_); try simp only [BLS, List.take_succ_cons, List.take_zero, List.drop_succ_cons, List.drop_zero, List.cons_append, List.nil_append, Nat.reduceAdd])) | simp -implicitDefEqProofs only [EN, lsub, lget, stL, beq_self_eq_true, ne_eq, if_true, if_false, List.cons_append, List.nil_append, Option.isNone_some, Option.isNone_none, c1]))
    exact fin _ _ (by first | assumption | exact St.tick (by assumption) | exact St.tick (St.tick (by assumption)))
  by_cases c2 : (s.length : Int) < (l.length : Int)
  · (repeat (first | (first | (with_reducible (first | refine w1 fun _ _ => ?_ | refine w3 fun _ _ _ => ?_ | refine w4 fun _ _ _ => ?_ | refine w11 fun _ _ _ => ?_ | refine stb_n ?_)) | ((with_reducible refine w2 ?_); try simp -implicitDefEqProofs only [EN, lsub, lget, stL, beq_self_eq_true, ne_eq, if_true, if_false, List.cons_append, List.nil_append, Option.isNone_some, Option.isNone_none, c1, c2]; intro _ _) | ((with_reducible (first | refine w5 ?_ ?_ | refine w6 ?_ ?_ | refine w7 ?_ ?_)); simp; refine ⟨_, rfl, ?_⟩) | ((with_reducible (first | refine w8 ?_ ?_ ?_ | refine w9 ?_ ?_ ?_ | refine w10 ?_ ?_ ?_)); exact rfl; simp) | ((with_reducible refine w12 ?_ ?_ ?_ fun _ _ => ?_); simp; simp; simp [oneC]) | ((with_reducible (first | refine eqs ?_ | refine nes ?_)); refine ⟨_, rfl, ?_⟩) | ((refine okF_i (bldP_eq rfl) ?_); try simp only [BLS, List.take_succ_cons, List.take_zero, List.drop_succ_cons, List.drop_zero, List.cons_append, List.nil_append, Nat.reduceAdd])) | simp -implicitDefEqProofs only [EN, lsub, lget, stL, beq_self_eq_true, ne_eq, if_true, if_false, List.cons_append, List.nil_append, Option.isNone_some, Option.isNone_none, c1, c2]))
    exact fin _ _ (by first | assumption | exact St.tick (by assumption) | exact St.tick (St.tick (by assumption)))
  (repeat (first | (first | (with_reducible (first | refine w1 fun _ _ => ?_ | refine w3 fun _ _ _ => ?_ | refine w4 fun _ _ _ => ?_ | refine w11 fun _ _ _ => ?_ | refine stb_n ?_)) | ((with_reducible refine w2 ?_); try simp -implicitDefEqProofs only [EN, lsub, lget, stL, beq_self_eq_true, ne_eq, if_true, if_false, List.cons_append, List.nil_append, Option.isNone_some, Option.isNone_none, c1, c2]; intro _ _) | ((with_reducible (first | refine w5 ?_ ?_ | refine w6 ?_ ?_ | refine w7 ?_ ?_)); simp; refine ⟨_, rfl, ?_⟩) | ((with_reducible (first | refine w8 ?_ ?_ ?_ | refine w9 ?_ ?_ ?_ | refine w10 ?_ ?_ ?_)); exact rfl; simp) | ((with_reducible refine w12 ?_ ?_ ?_ fun _ _ => ?_); simp; simp; simp [oneC]) | ((with_reducible (first | refine eqs ?_ | refine nes ?_)); refine ⟨_, rfl, ?_⟩) | ((refine okF_i (bldP_eq rfl) ?_); try simp only [BLS, List.take_succ_cons, List.take_zero, List.drop_succ_cons, List.drop_zero, List.cons_append, List.nil_append, Nat.reduceAdd])) | simp -implicitDefEqProofs only [EN, lsub, lget, stL, beq_self_eq_true, ne_eq, if_true, if_false, List.cons_append, List.nil_append, Option.isNone_some, Option.isNone_none, c1, c2]))
  refine ordGood (a := la) (l := l) (by first | assumption | exact St.tick (by assumption) | exact St.tick (St.tick (by assumption))) (by omega) fun W2 h => ?_
  cases hg : goodO l with
  | false =>
    (repeat (first | (first | (with_reducible (first | refine w1 fun _ _ => ?_ | refine w3 fun _ _ _ => ?_ | refine w4 fun _ _ _ => ?_ | refine w11 fun _ _ _ => ?_ | refine stb_n ?_)) | ((with_reducible refine w2 ?_); try simp -implicitDefEqProofs only [EN, lsub, lget, stL, beq_self_eq_true, ne_eq, if_true, if_false, List.cons_append, List.nil_append, Option.isNone_some, Option.isNone_none]; intro _ _) | ((with_reducible (first | refine w5 ?_ ?_ | refine w6 ?_ ?_ | refine w7 ?_ ?_)); simp; refine ⟨_, rfl, ?_⟩) | ((with_reducible (first | refine w8 ?_ ?_ ?_ | refine w9 ?_ ?_ ?_ | refine w10 ?_ ?_ ?_)); exact rfl; simp) | ((with_reducible refine w12 ?_ ?_ ?_ fun _ _ => ?_); simp; simp; simp [oneC]) | ((with_reducible (first | refine eqs ?_ | refine nes ?_)); refine ⟨_, rfl, ?_⟩) | ((refine okF_i (bldP_eq rfl) ?_); try simp only [BLS, List.take_succ_cons, List.take_zero, List.drop_succ_cons, List.drop_zero, List.cons_append, List.nil_append, Nat.reduceAdd])) | simp -implicitDefEqProofs only [EN, lsub, lget, stL, beq_self_eq_true, ne_eq, if_true, if_false, List.cons_append, List.nil_append, Option.isNone_some, Option.isNone_none]))
    exact fin _ _ (by first | assumption | exact St.tick (by assumption) | exact St.tick (St.tick (by assumption)))
  | true =>
  (repeat (first | (first | (with_reducible (first | refine w1 fun _ _ => ?_ | refine w3 fun _ _ _ => ?_ | refine w4 fun _ _ _ => ?_ | refine w11 fun _ _ _ => ?_ | refine stb_n ?_)) | ((with_reducible refine w2 ?_); try simp -implicitDefEqProofs only [EN, lsub, lget, stL, beq_self_eq_true, ne_eq, if_true, if_false, List.cons_append, List.nil_append, Option.isNone_some, Option.isNone_none]; intro _ _) | ((with_reducible (first | refine w5 ?_ ?_ | refine w6 ?_ ?_ | refine w7 ?_ ?_)); simp; refine ⟨_, rfl, ?_⟩) | ((with_reducible (first | refine w8 ?_ ?_ ?_ | refine w9 ?_ ?_ ?_ | refine w10 ?_ ?_ ?_)); exact rfl; simp) | ((with_reducible refine w12 ?_ ?_ ?_ fun _ _ => ?_); simp; simp; simp [oneC]) | ((with_reducible (first | refine eqs ?_ | refine nes ?_)); refine ⟨_, rfl, ?_⟩) | ((refine okF_i (bldP_eq rfl) ?_); try simp only [BLS, List.take_succ_cons, List.take_zero, List.drop_succ_cons, List.drop_zero, List.cons_append, List.nil_append, Nat.reduceAdd])) | simp -implicitDefEqProofs only [EN, lsub, lget, stL, beq_self_eq_true, ne_eq, if_true, if_false, List.cons_append, List.nil_append, Option.isNone_some, Option.isNone_none]))
  have hl20 : l.length ≤ 20 := by omega
  have hsl : l.length ≤ s.length := by omega
  obtain ⟨hg1, hg2, hg3⟩ := goodO_iff.1 hg
  refine joinK_i ?_
  have h := h.ent (arr_nil INS T_order_Inst)
  refine loop_c (σ := Option Addr × Nat) l.length (fun i x => [.slice la l.length lc, .slice sa s.length sc, .slice x.1 (takeM l s i).length x.2, .int .i64 (i : Int)])
    (fun i x W1 => (∀ j (hj : j < l.length), j < i → ∀ k (hk : k < j), tog l[j] l[k] = true) ∧ St W0 [arr INS T_order_Inst x.1 x.2 (takeM l s i)] W1) (none, 0) rfl ⟨fun _ _ h => by omega, h⟩ ?_
  clear h
  rintro K i ⟨ax, cx⟩ W3 hi ⟨hT, h⟩ hK
  simp only at h
  simp -implicitDefEqProofs only [EN, lsub, lget, stL, beq_self_eq_true, ne_eq, if_true, if_false, List.cons_append, List.nil_append, Option.isNone_some, Option.isNone_none]
  unfold S.rostrumlaw18_OrderAll.l1
  have hml := (takeM_sub l s i).length_le
  by_cases hlt : (i : Int) < (l.length : Int)
  · have hib : i < l.length := by omega
    have ew : IntKind.i64.wrap ((i : Int) + 1) = ((i + 1 : Nat) : Int) := by rw [i64w]; omega
    have hts := takeM_succ (l := l) s hib
    obtain ⟨gl, ol, e1⟩ := posAddr (i := i) (a := la) (A := INS) (l := l) (St.start W0) hib
    obtain ⟨gs, os, e2⟩ := posAddr (i := i) (a := sa) (A := BOO) (l := s) (St.start W0) (by omega)
    subst e1 e2
    have ei : ∀ i : Nat, i < l.length → idxS 10 (.slice (some ⟨gl, ol, none⟩) l.length lc) (.int .i64 (i : Int)) = some (.pointer (some ⟨gl, ol + i * 10, none⟩)) := fun i hi => by rw [idxS_blk (by omega) (by omega), Int.toNat_natCast]
    have hrow : ∀ i (hi : i < l.length), ro W0 gl (ol + i * 10) [.int .i64 (l[i].d).rep, .int .i64 (l[i].d).n, .int .i64 l[i].s, .int .i64 (l[i].v).x0, .int .i64 (l[i].v).x1, .int .i64 (l[i].v).x2, .int .i64 (l[i].v).x3, .int .i64 (l[i].v).x4, .int .i64 (l[i].v).x5, .int .i64 (l[i].v).x6] := fun i hi => Rd.row (A := INS) (l := l) (St.start W0) hi
    have eii := ei i hib
    have hri := hrow i hib
    have hdi := insOne_dot (hg1 l[i] (List.getElem_mem hib)).1
    have hst : ix2 (n := s.length) (i := i) (by omega) gs os sc = ix2 (n := s.length) (i := i) (by omega) gs os sc := rfl
    have eis := ix2 (n := s.length) (i := i) (by omega) gs os sc
    clear hst
    have gv : ∀ (x : Ins) (r : Int), 0 ≤ r → r < 7 → getL false [.int .i64 x.d.rep, .int .i64 x.d.n, .int .i64 x.s, .int .i64 x.v.x0, .int .i64 x.v.x1, .int .i64 x.v.x2, .int .i64 x.v.x3, .int .i64 x.v.x4, .int .i64 x.v.x5, .int .i64 x.v.x6] (3 + r.toNat) 1 = some (.int .i64 (x.v.get r.toNat)) := fun x r h1 h2 => by
      rcases P7.cases7 (show r.toNat < 7 by omega) with h | h | h | h | h | h | h <;> rw [h] <;> rfl
    have eA : ∀ (i : Nat) (r : Int), 0 ≤ r → r < 7 → idxA 7 1 (.pointer (some ⟨gl, ol + i * 10 + 3, none⟩)) (.int .i64 r) = some (.pointer (some ⟨gl, ol + i * 10 + (3 + r.toNat), none⟩)) := fun i r h1 h2 => by
      rw [idxA_blk h1 (by omega), Nat.mul_one, Nat.add_assoc]
    (repeat (first | (first | (with_reducible (first | refine w1 fun _ _ => ?_ | refine w3 fun _ _ _ => ?_ | refine w4 fun _ _ _ => ?_ | refine w11 fun _ _ _ => ?_ | refine stb_n ?_)) | ((with_reducible refine w2 ?_); try simp -implicitDefEqProofs only [EN, lsub, lget, stL, beq_self_eq_true, ne_eq, if_true, if_false, List.cons_append, List.nil_append, Option.isNone_some, Option.isNone_none, hlt]; intro _ _) | ((with_reducible (first | refine w5 ?_ ?_ | refine w6 ?_ ?_ | refine w7 ?_ ?_)); simp; refine ⟨_, rfl, ?_⟩) | ((with_reducible (first | refine w8 ?_ ?_ ?_ | refine w9 ?_ ?_ ?_ | refine w10 ?_ ?_ ?_)); exact rfl; simp) | ((with_reducible refine w12 ?_ ?_ ?_ fun _ _ => ?_); simp; simp; simp [oneC]) | ((with_reducible (first | refine eqs ?_ | refine nes ?_)); refine ⟨_, rfl, ?_⟩) | ((refine okF_i (bldP_eq rfl) ?_); try simp only [BLS, List.take_succ_cons, List.take_zero, List.drop_succ_cons, List.drop_zero, List.cons_append, List.nil_append, Nat.reduceAdd])) | simp -implicitDefEqProofs only [EN, lsub, lget, stL, beq_self_eq_true, ne_eq, if_true, if_false, List.cons_append, List.nil_append, Option.isNone_some, Option.isNone_none, hlt]))
    refine joinK_i ?_
    refine joinK_i ?_
    refine loop_c (σ := Unit) i (fun k _ => [.slice (some ⟨gl, ol, none⟩) l.length lc, .slice (some ⟨gs, os, none⟩) s.length sc, .slice ax (takeM l s i).length cx, .int .i64 (i : Int), .int .i64 (k : Int)])
      (fun k _ W1 => (∀ j (hj : j < i), j < k → tog l[i] l[j] = true) ∧ St W0 [arr INS T_order_Inst ax cx (takeM l s i)] W1) () rfl ⟨fun _ _ h => by omega, h⟩ ?_
    clear h
    rintro K2 k _ W4 hk ⟨hT2, h⟩ hK2
    simp -implicitDefEqProofs only [EN, lsub, lget, stL, beq_self_eq_true, ne_eq, if_true, if_false, List.cons_append, List.nil_append, Option.isNone_some, Option.isNone_none]
    unfold S.rostrumlaw18_OrderAll.l2
    by_cases hlt2 : (k : Int) < (i : Int)
    · have hkb : k < l.length := by omega
      have hki : k < i := by omega
      have ew2 : IntKind.i64.wrap ((k : Int) + 1) = ((k + 1 : Nat) : Int) := by rw [i64w]; omega
      have eik := ei k hkb
      have hrk := hrow k hkb
      have hdk := insOne_dot (hg1 l[k] (List.getElem_mem hkb)).1
      have htg : tog l[i] l[k] = !(decide (l[i].v.get l[k].d.rep.toNat < l[k].d.n) && decide (l[k].v.get l[i].d.rep.toNat < l[i].d.n)) := rfl
      have gi := gv l[i] l[k].d.rep hdk.1.1 hdk.1.2
      have gk := gv l[k] l[i].d.rep hdi.1.1 hdi.1.2
      have ai := eA i l[k].d.rep hdk.1.1 hdk.1.2
      have ak := eA k l[i].d.rep hdi.1.1 hdi.1.2
      generalize l[i] = x at *
      generalize hy : l[k] = y at *
      (repeat (first | (first | (with_reducible (first | refine w1 fun _ _ => ?_ | refine w3 fun _ _ _ => ?_ | refine w4 fun _ _ _ => ?_ | refine w11 fun _ _ _ => ?_ | refine stb_n ?_)) | ((with_reducible refine w2 ?_); try simp -implicitDefEqProofs only [EN, lsub, lget, stL, beq_self_eq_true, ne_eq, if_true, if_false, List.cons_append, List.nil_append, Option.isNone_some, Option.isNone_none, hlt2, eik, eii, ai]; intro _ _) | ((with_reducible (first | refine w5 ?_ ?_ | refine w6 ?_ ?_ | refine w7 ?_ ?_)); simp; refine ⟨_, rfl, ?_⟩) | ((with_reducible (first | refine w8 ?_ ?_ ?_ | refine w9 ?_ ?_ ?_ | refine w10 ?_ ?_ ?_)); exact rfl; simp) | ((with_reducible refine w12 ?_ ?_ ?_ fun _ _ => ?_); simp; simp; simp [oneC]) | ((with_reducible (first | refine eqs ?_ | refine nes ?_)); refine ⟨_, rfl, ?_⟩) | ((refine okF_i (bldP_eq rfl) ?_); try simp only [BLS, List.take_succ_cons, List.take_zero, List.drop_succ_cons, List.drop_zero, List.cons_append, List.nil_append, Nat.reduceAdd])) | simp -implicitDefEqProofs only [EN, lsub, lget, stL, beq_self_eq_true, ne_eq, if_true, if_false, List.cons_append, List.nil_append, Option.isNone_some, Option.isNone_none, hlt2, eik, eii, ai]))
      refine w7 (by simp) ⟨_, gi, ?_⟩
      (repeat (first | (first | (with_reducible (first | refine w1 fun _ _ => ?_ | refine w3 fun _ _ _ => ?_ | refine w4 fun _ _ _ => ?_ | refine w11 fun _ _ _ => ?_ | refine stb_n ?_)) | ((with_reducible refine w2 ?_); try simp -implicitDefEqProofs only [EN, lsub, lget, stL, beq_self_eq_true, ne_eq, if_true, if_false, List.cons_append, List.nil_append, Option.isNone_some, Option.isNone_none, eik]; intro _ _) | ((with_reducible (first | refine w5 ?_ ?_ | refine w6 ?_ ?_ | refine w7 ?_ ?_)); simp; refine ⟨_, rfl, ?_⟩) | ((with_reducible (first | refine w8 ?_ ?_ ?_ | refine w9 ?_ ?_ ?_ | refine w10 ?_ ?_ ?_)); exact rfl; simp) | ((with_reducible refine w12 ?_ ?_ ?_ fun _ _ => ?_); simp; simp; simp [oneC]) | ((with_reducible (first | refine eqs ?_ | refine nes ?_)); refine ⟨_, rfl, ?_⟩) | ((refine okF_i (bldP_eq rfl) ?_); try simp only [BLS, List.take_succ_cons, List.take_zero, List.drop_succ_cons, List.drop_zero, List.cons_append, List.nil_append, Nat.reduceAdd])) | simp -implicitDefEqProofs only [EN, lsub, lget, stL, beq_self_eq_true, ne_eq, if_true, if_false, List.cons_append, List.nil_append, Option.isNone_some, Option.isNone_none, eik]))
      by_cases c3 : x.v.get y.d.rep.toNat < y.d.n
      · (repeat (first | (first | (with_reducible (first | refine w1 fun _ _ => ?_ | refine w3 fun _ _ _ => ?_ | refine w4 fun _ _ _ => ?_ | refine w11 fun _ _ _ => ?_ | refine stb_n ?_)) | ((with_reducible refine w2 ?_); try simp -implicitDefEqProofs only [EN, lsub, lget, stL, beq_self_eq_true, ne_eq, if_true, if_false, List.cons_append, List.nil_append, Option.isNone_some, Option.isNone_none, c3, eik, eii, ak]; intro _ _) | ((with_reducible (first | refine w5 ?_ ?_ | refine w6 ?_ ?_ | refine w7 ?_ ?_)); simp; refine ⟨_, rfl, ?_⟩) | ((with_reducible (first | refine w8 ?_ ?_ ?_ | refine w9 ?_ ?_ ?_ | refine w10 ?_ ?_ ?_)); exact rfl; simp) | ((with_reducible refine w12 ?_ ?_ ?_ fun _ _ => ?_); simp; simp; simp [oneC]) | ((with_reducible (first | refine eqs ?_ | refine nes ?_)); refine ⟨_, rfl, ?_⟩) | ((refine okF_i (bldP_eq rfl) ?_); try simp only [BLS, List.take_succ_cons, List.take_zero, List.drop_succ_cons, List.drop_zero, List.cons_append, List.nil_append, Nat.reduceAdd])) | simp -implicitDefEqProofs only [EN, lsub, lget, stL, beq_self_eq_true, ne_eq, if_true, if_false, List.cons_append, List.nil_append, Option.isNone_some, Option.isNone_none, c3, eik, eii, ak]))
        refine w7 (by simp) ⟨_, gk, ?_⟩
        (repeat (first | (first | (with_reducible (first | refine w1 fun _ _ => ?_ | refine w3 fun _ _ _ => ?_ | refine w4 fun _ _ _ => ?_ | refine w11 fun _ _ _ => ?_ | refine stb_n ?_)) | ((with_reducible refine w2 ?_); try simp -implicitDefEqProofs only [EN, lsub, lget, stL, beq_self_eq_true, ne_eq, if_true, if_false, List.cons_append, List.nil_append, Option.isNone_some, Option.isNone_none, eik, eii]; intro _ _) | ((with_reducible (first | refine w5 ?_ ?_ | refine w6 ?_ ?_ | refine w7 ?_ ?_)); simp; refine ⟨_, rfl, ?_⟩) | ((with_reducible (first | refine w8 ?_ ?_ ?_ | refine w9 ?_ ?_ ?_ | refine w10 ?_ ?_ ?_)); exact rfl; simp) | ((with_reducible refine w12 ?_ ?_ ?_ fun _ _ => ?_); simp; simp; simp [oneC]) | ((with_reducible (first | refine eqs ?_ | refine nes ?_)); refine ⟨_, rfl, ?_⟩) | ((refine okF_i (bldP_eq rfl) ?_); try simp only [BLS, List.take_succ_cons, List.take_zero, List.drop_succ_cons, List.drop_zero, List.cons_append, List.nil_append, Nat.reduceAdd])) | simp -implicitDefEqProofs only [EN, lsub, lget, stL, beq_self_eq_true, ne_eq, if_true, if_false, List.cons_append, List.nil_append, Option.isNone_some, Option.isNone_none, eik, eii]))
        by_cases c4 : y.v.get x.d.rep.toNat < x.d.n
        · (repeat (first | (first | (with_reducible (first | refine w1 fun _ _ => ?_ | refine w3 fun _ _ _ => ?_ | refine w4 fun _ _ _ => ?_ | refine w11 fun _ _ _ => ?_ | refine stb_n ?_)) | ((with_reducible refine w2 ?_); try simp -implicitDefEqProofs only [EN, lsub, lget, stL, beq_self_eq_true, ne_eq, if_true, if_false, List.cons_append, List.nil_append, Option.isNone_some, Option.isNone_none, c4]; intro _ _) | ((with_reducible (first | refine w5 ?_ ?_ | refine w6 ?_ ?_ | refine w7 ?_ ?_)); simp; refine ⟨_, rfl, ?_⟩) | ((with_reducible (first | refine w8 ?_ ?_ ?_ | refine w9 ?_ ?_ ?_ | refine w10 ?_ ?_ ?_)); exact rfl; simp) | ((with_reducible refine w12 ?_ ?_ ?_ fun _ _ => ?_); simp; simp; simp [oneC]) | ((with_reducible (first | refine eqs ?_ | refine nes ?_)); refine ⟨_, rfl, ?_⟩) | ((refine okF_i (bldP_eq rfl) ?_); try simp only [BLS, List.take_succ_cons, List.take_zero, List.drop_succ_cons, List.drop_zero, List.cons_append, List.nil_append, Nat.reduceAdd])) | simp -implicitDefEqProofs only [EN, lsub, lget, stL, beq_self_eq_true, ne_eq, if_true, if_false, List.cons_append, List.nil_append, Option.isNone_some, Option.isNone_none, c4]))
          exact fin _ _ (by first | assumption | exact St.tick (by assumption) | exact St.tick (St.tick (by assumption)))
        · (repeat (first | (first | (with_reducible (first | refine w1 fun _ _ => ?_ | refine w3 fun _ _ _ => ?_ | refine w4 fun _ _ _ => ?_ | refine w11 fun _ _ _ => ?_ | refine stb_n ?_)) | ((with_reducible refine w2 ?_); try simp -implicitDefEqProofs only [EN, lsub, lget, stL, beq_self_eq_true, ne_eq, if_true, if_false, List.cons_append, List.nil_append, Option.isNone_some, Option.isNone_none, c4, ew2]; intro _ _) | ((with_reducible (first | refine w5 ?_ ?_ | refine w6 ?_ ?_ | refine w7 ?_ ?_)); simp; refine ⟨_, rfl, ?_⟩) | ((with_reducible (first | refine w8 ?_ ?_ ?_ | refine w9 ?_ ?_ ?_ | refine w10 ?_ ?_ ?_)); exact rfl; simp) | ((with_reducible refine w12 ?_ ?_ ?_ fun _ _ => ?_); simp; simp; simp [oneC]) | ((with_reducible (first | refine eqs ?_ | refine nes ?_)); refine ⟨_, rfl, ?_⟩) | ((refine okF_i (bldP_eq rfl) ?_); try simp only [BLS, List.take_succ_cons, List.take_zero, List.drop_succ_cons, List.drop_zero, List.cons_append, List.nil_append, Nat.reduceAdd])) | simp -implicitDefEqProofs only [EN, lsub, lget, stL, beq_self_eq_true, ne_eq, if_true, if_false, List.cons_append, List.nil_append, Option.isNone_some, Option.isNone_none, c4, ew2]))
          refine hK2 () _ hki ⟨fun j hj hjk => ?_, (by first | assumption | exact St.tick (by assumption) | exact St.tick (St.tick (by assumption)))⟩
          by_cases e : j = k
          · subst e; rw [hy, htg, decide_eq_false c4, Bool.and_false]; rfl
          · exact hT2 j hj (by omega)
      · (repeat (first | (first | (with_reducible (first | refine w1 fun _ _ => ?_ | refine w3 fun _ _ _ => ?_ | refine w4 fun _ _ _ => ?_ | refine w11 fun _ _ _ => ?_ | refine stb_n ?_)) | ((with_reducible refine w2 ?_); try simp -implicitDefEqProofs only [EN, lsub, lget, stL, beq_self_eq_true, ne_eq, if_true, if_false, List.cons_append, List.nil_append, Option.isNone_some, Option.isNone_none, c3, ew2]; intro _ _) | ((with_reducible (first | refine w5 ?_ ?_ | refine w6 ?_ ?_ | refine w7 ?_ ?_)); simp; refine ⟨_, rfl, ?_⟩) | ((with_reducible (first | refine w8 ?_ ?_ ?_ | refine w9 ?_ ?_ ?_ | refine w10 ?_ ?_ ?_)); exact rfl; simp) | ((with_reducible refine w12 ?_ ?_ ?_ fun _ _ => ?_); simp; simp; simp [oneC]) | ((with_reducible (first | refine eqs ?_ | refine nes ?_)); refine ⟨_, rfl, ?_⟩) | ((refine okF_i (bldP_eq rfl) ?_); try simp only [BLS, List.take_succ_cons, List.take_zero, List.drop_succ_cons, List.drop_zero, List.cons_append, List.nil_append, Nat.reduceAdd])) | simp -implicitDefEqProofs only [EN, lsub, lget, stL, beq_self_eq_true, ne_eq, if_true, if_false, List.cons_append, List.nil_append, Option.isNone_some, Option.isNone_none, c3, ew2]))
        refine hK2 () _ hki ⟨fun j hj hjk => ?_, (by first | assumption | exact St.tick (by assumption) | exact St.tick (St.tick (by assumption)))⟩
        by_cases e : j = k
        · subst e; rw [hy, htg, decide_eq_false c3, Bool.false_and]; rfl
        · exact hT2 j hj (by omega)
    · have hki : k = i := by omega
      subst hki
      have hT3 : ∀ j (hj : j < l.length), j < k + 1 → ∀ q (hq : q < j), tog l[j] l[q] = true := fun j hj hjk q hq => by
        by_cases e : j = k
        · subst e; exact hT2 q hq hq
        · exact hT j hj (by omega) q hq
      have hks : k < s.length := by omega
      (repeat (first | (first | (with_reducible (first | refine w1 fun _ _ => ?_ | refine w3 fun _ _ _ => ?_ | refine w4 fun _ _ _ => ?_ | refine w11 fun _ _ _ => ?_ | refine stb_n ?_)) | ((with_reducible refine w2 ?_); try simp -implicitDefEqProofs only [EN, lsub, lget, stL, beq_self_eq_true, ne_eq, if_true, if_false, List.cons_append, List.nil_append, Option.isNone_some, Option.isNone_none, hlt2]; intro _ _) | ((with_reducible (first | refine w5 ?_ ?_ | refine w6 ?_ ?_ | refine w7 ?_ ?_)); simp; refine ⟨_, rfl, ?_⟩) | ((with_reducible (first | refine w8 ?_ ?_ ?_ | refine w9 ?_ ?_ ?_ | refine w10 ?_ ?_ ?_)); exact rfl; simp) | ((with_reducible refine w12 ?_ ?_ ?_ fun _ _ => ?_); simp; simp; simp [oneC]) | ((with_reducible (first | refine eqs ?_ | refine nes ?_)); refine ⟨_, rfl, ?_⟩) | ((refine okF_i (bldP_eq rfl) ?_); try simp only [BLS, List.take_succ_cons, List.take_zero, List.drop_succ_cons, List.drop_zero, List.cons_append, List.nil_append, Nat.reduceAdd])) | simp -implicitDefEqProofs only [EN, lsub, lget, stL, beq_self_eq_true, ne_eq, if_true, if_false, List.cons_append, List.nil_append, Option.isNone_some, Option.isNone_none, hlt2]))
      unfold S.rostrumlaw18_OrderAll.j3
      (repeat (first | (first | (with_reducible (first | refine w1 fun _ _ => ?_ | refine w3 fun _ _ _ => ?_ | refine w4 fun _ _ _ => ?_ | refine w11 fun _ _ _ => ?_ | refine stb_n ?_)) | ((with_reducible refine w2 ?_); try simp -implicitDefEqProofs only [EN, lsub, lget, stL, beq_self_eq_true, ne_eq, if_true, if_false, List.cons_append, List.nil_append, Option.isNone_some, Option.isNone_none, eis]; intro _ _) | ((with_reducible (first | refine w5 ?_ ?_ | refine w6 ?_ ?_ | refine w7 ?_ ?_)); simp; refine ⟨_, rfl, ?_⟩) | ((with_reducible (first | refine w8 ?_ ?_ ?_ | refine w9 ?_ ?_ ?_ | refine w10 ?_ ?_ ?_)); exact rfl; simp) | ((with_reducible refine w12 ?_ ?_ ?_ fun _ _ => ?_); simp; simp; simp [oneC]) | ((with_reducible (first | refine eqs ?_ | refine nes ?_)); refine ⟨_, rfl, ?_⟩) | ((refine okF_i (bldP_eq rfl) ?_); try simp only [BLS, List.take_succ_cons, List.take_zero, List.drop_succ_cons, List.drop_zero, List.cons_append, List.nil_append, Nat.reduceAdd])) | simp -implicitDefEqProofs only [EN, lsub, lget, stL, beq_self_eq_true, ne_eq, if_true, if_false, List.cons_append, List.nil_append, Option.isNone_some, Option.isNone_none, eis]))
      refine ldGb (i := k) (m := s) hks (by first | assumption | exact St.tick (by assumption) | exact St.tick (St.tick (by assumption))) ?_
      cases hsk : s.getD k false with
      | true =>
        rw [if_pos hsk] at hts
        (repeat (first | (first | (with_reducible (first | refine w1 fun _ _ => ?_ | refine w3 fun _ _ _ => ?_ | refine w4 fun _ _ _ => ?_ | refine w11 fun _ _ _ => ?_ | refine stb_n ?_)) | ((with_reducible refine w2 ?_); try simp -implicitDefEqProofs only [EN, lsub, lget, stL, beq_self_eq_true, ne_eq, if_true, if_false, List.cons_append, List.nil_append, Option.isNone_some, Option.isNone_none, eii]; intro _ _) | ((with_reducible (first | refine w5 ?_ ?_ | refine w6 ?_ ?_ | refine w7 ?_ ?_)); simp; refine ⟨_, rfl, ?_⟩) | ((with_reducible (first | refine w8 ?_ ?_ ?_ | refine w9 ?_ ?_ ?_ | refine w10 ?_ ?_ ?_)); exact rfl; simp) | ((with_reducible refine w12 ?_ ?_ ?_ fun _ _ => ?_); simp; simp; simp [oneC]) | ((with_reducible (first | refine eqs ?_ | refine nes ?_)); refine ⟨_, rfl, ?_⟩) | ((refine okF_i (bldP_eq rfl) ?_); try simp only [BLS, List.take_succ_cons, List.take_zero, List.drop_succ_cons, List.drop_zero, List.cons_append, List.nil_append, Nat.reduceAdd])) | simp -implicitDefEqProofs only [EN, lsub, lget, stL, beq_self_eq_true, ne_eq, if_true, if_false, List.cons_append, List.nil_append, Option.isNone_some, Option.isNone_none, eii]))
        refine bsA INS [l[k]] (n := 1) (by first | assumption | exact St.tick (by assumption) | exact St.tick (St.tick (by assumption))) rfl rfl (by decide) (by decide) rfl fun a5 c5 W12 h => ?_
        refine appA (A := INS) (a := ax) (l := takeM l s k) (m := [l[k]]) (by first | assumption | exact St.tick (by assumption) | exact St.tick (St.tick (by assumption))) rfl (by simp only [List.length_cons, List.length_nil]; omega) (by simp only [List.length_cons, List.length_nil, maxLen]; omega) fun a6 c6 W13 h => ?_
        unfold S.rostrumlaw18_OrderAll.j2
        (repeat (first | (first | (with_reducible (first | refine w1 fun _ _ => ?_ | refine w3 fun _ _ _ => ?_ | refine w4 fun _ _ _ => ?_ | refine w11 fun _ _ _ => ?_ | refine stb_n ?_)) | ((with_reducible refine w2 ?_); try simp -implicitDefEqProofs only [EN, lsub, lget, stL, beq_self_eq_true, ne_eq, if_true, if_false, List.cons_append, List.nil_append, Option.isNone_some, Option.isNone_none, ew]; intro _ _) | ((with_reducible (first | refine w5 ?_ ?_ | refine w6 ?_ ?_ | refine w7 ?_ ?_)); simp; refine ⟨_, rfl, ?_⟩) | ((with_reducible (first | refine w8 ?_ ?_ ?_ | refine w9 ?_ ?_ ?_ | refine w10 ?_ ?_ ?_)); exact rfl; simp) | ((with_reducible refine w12 ?_ ?_ ?_ fun _ _ => ?_); simp; simp; simp [oneC]) | ((with_reducible (first | refine eqs ?_ | refine nes ?_)); refine ⟨_, rfl, ?_⟩) | ((refine okF_i (bldP_eq rfl) ?_); try simp only [BLS, List.take_succ_cons, List.take_zero, List.drop_succ_cons, List.drop_zero, List.cons_append, List.nil_append, Nat.reduceAdd])) | simp -implicitDefEqProofs only [EN, lsub, lget, stL, beq_self_eq_true, ne_eq, if_true, if_false, List.cons_append, List.nil_append, Option.isNone_some, Option.isNone_none, ew]))
        rw [← hts] at h ⊢
        exact hK (a6, c6) _ hib ⟨hT3, St.wk h⟩
      | false =>
        rw [if_neg (by rw [hsk]; simp)] at hts
        (repeat (first | (first | (with_reducible (first | refine w1 fun _ _ => ?_ | refine w3 fun _ _ _ => ?_ | refine w4 fun _ _ _ => ?_ | refine w11 fun _ _ _ => ?_ | refine stb_n ?_)) | ((with_reducible refine w2 ?_); try simp -implicitDefEqProofs only [EN, lsub, lget, stL, beq_self_eq_true, ne_eq, if_true, if_false, List.cons_append, List.nil_append, Option.isNone_some, Option.isNone_none]; intro _ _) | ((with_reducible (first | refine w5 ?_ ?_ | refine w6 ?_ ?_ | refine w7 ?_ ?_)); simp; refine ⟨_, rfl, ?_⟩) | ((with_reducible (first | refine w8 ?_ ?_ ?_ | refine w9 ?_ ?_ ?_ | refine w10 ?_ ?_ ?_)); exact rfl; simp) | ((with_reducible refine w12 ?_ ?_ ?_ fun _ _ => ?_); simp; simp; simp [oneC]) | ((with_reducible (first | refine eqs ?_ | refine nes ?_)); refine ⟨_, rfl, ?_⟩) | ((refine okF_i (bldP_eq rfl) ?_); try simp only [BLS, List.take_succ_cons, List.take_zero, List.drop_succ_cons, List.drop_zero, List.cons_append, List.nil_append, Nat.reduceAdd])) | simp -implicitDefEqProofs only [EN, lsub, lget, stL, beq_self_eq_true, ne_eq, if_true, if_false, List.cons_append, List.nil_append, Option.isNone_some, Option.isNone_none]))
        unfold S.rostrumlaw18_OrderAll.j2
        (repeat (first | (first | (with_reducible (first | refine w1 fun _ _ => ?_ | refine w3 fun _ _ _ => ?_ | refine w4 fun _ _ _ => ?_ | refine w11 fun _ _ _ => ?_ | refine stb_n ?_)) | ((with_reducible refine w2 ?_); try simp -implicitDefEqProofs only [EN, lsub, lget, stL, beq_self_eq_true, ne_eq, if_true, if_false, List.cons_append, List.nil_append, Option.isNone_some, Option.isNone_none, ew]; intro _ _) | ((with_reducible (first | refine w5 ?_ ?_ | refine w6 ?_ ?_ | refine w7 ?_ ?_)); simp; refine ⟨_, rfl, ?_⟩) | ((with_reducible (first | refine w8 ?_ ?_ ?_ | refine w9 ?_ ?_ ?_ | refine w10 ?_ ?_ ?_)); exact rfl; simp) | ((with_reducible refine w12 ?_ ?_ ?_ fun _ _ => ?_); simp; simp; simp [oneC]) | ((with_reducible (first | refine eqs ?_ | refine nes ?_)); refine ⟨_, rfl, ?_⟩) | ((refine okF_i (bldP_eq rfl) ?_); try simp only [BLS, List.take_succ_cons, List.take_zero, List.drop_succ_cons, List.drop_zero, List.cons_append, List.nil_append, Nat.reduceAdd])) | simp -implicitDefEqProofs only [EN, lsub, lget, stL, beq_self_eq_true, ne_eq, if_true, if_false, List.cons_append, List.nil_append, Option.isNone_some, Option.isNone_none, ew]))
        rw [← hts] at h ⊢
        exact hK (ax, cx) _ hib ⟨hT3, h⟩
  · have hil : i = l.length := by omega
    subst hil
    have hgm := good_sub hg (takeM_sub l s l.length)
    have hpre := line0_prefix hg hgm (fun x hx => (takeM_sub l s l.length).mem hx) (tog_all hg fun i hi k hk => hT i hi hi k hk)
    generalize takeM l s l.length = m at *
    (repeat (first | (first | (with_reducible (first | refine w1 fun _ _ => ?_ | refine w3 fun _ _ _ => ?_ | refine w4 fun _ _ _ => ?_ | refine w11 fun _ _ _ => ?_ | refine stb_n ?_)) | ((with_reducible refine w2 ?_); try simp -implicitDefEqProofs only [EN, lsub, lget, stL, beq_self_eq_true, ne_eq, if_true, if_false, List.cons_append, List.nil_append, Option.isNone_some, Option.isNone_none, hlt]; intro _ _) | ((with_reducible (first | refine w5 ?_ ?_ | refine w6 ?_ ?_ | refine w7 ?_ ?_)); simp; refine ⟨_, rfl, ?_⟩) | ((with_reducible (first | refine w8 ?_ ?_ ?_ | refine w9 ?_ ?_ ?_ | refine w10 ?_ ?_ ?_)); exact rfl; simp) | ((with_reducible refine w12 ?_ ?_ ?_ fun _ _ => ?_); simp; simp; simp [oneC]) | ((with_reducible (first | refine eqs ?_ | refine nes ?_)); refine ⟨_, rfl, ?_⟩) | ((refine okF_i (bldP_eq rfl) ?_); try simp only [BLS, List.take_succ_cons, List.take_zero, List.drop_succ_cons, List.drop_zero, List.cons_append, List.nil_append, Nat.reduceAdd])) | simp -implicitDefEqProofs only [EN, lsub, lget, stL, beq_self_eq_true, ne_eq, if_true, if_false, List.cons_append, List.nil_append, Option.isNone_some, Option.isNone_none, hlt]))
    refine ordLine0 (l := l) (a := la) (P7.all 0) h00 (by first | assumption | exact St.tick (by assumption) | exact St.tick (St.tick (by assumption))) (by omega) fun aa ca W5 h => ?_
    (repeat (first | (first | (with_reducible (first | refine w1 fun _ _ => ?_ | refine w3 fun _ _ _ => ?_ | refine w4 fun _ _ _ => ?_ | refine w11 fun _ _ _ => ?_ | refine stb_n ?_)) | ((with_reducible refine w2 ?_); try simp -implicitDefEqProofs only [EN, lsub, lget, stL, beq_self_eq_true, ne_eq, if_true, if_false, List.cons_append, List.nil_append, Option.isNone_some, Option.isNone_none]; intro _ _) | ((with_reducible (first | refine w5 ?_ ?_ | refine w6 ?_ ?_ | refine w7 ?_ ?_)); simp; refine ⟨_, rfl, ?_⟩) | ((with_reducible (first | refine w8 ?_ ?_ ?_ | refine w9 ?_ ?_ ?_ | refine w10 ?_ ?_ ?_)); exact rfl; simp) | ((with_reducible refine w12 ?_ ?_ ?_ fun _ _ => ?_); simp; simp; simp [oneC]) | ((with_reducible (first | refine eqs ?_ | refine nes ?_)); refine ⟨_, rfl, ?_⟩) | ((refine okF_i (bldP_eq rfl) ?_); try simp only [BLS, List.take_succ_cons, List.take_zero, List.drop_succ_cons, List.drop_zero, List.cons_append, List.nil_append, Nat.reduceAdd])) | simp -implicitDefEqProofs only [EN, lsub, lget, stL, beq_self_eq_true, ne_eq, if_true, if_false, List.cons_append, List.nil_append, Option.isNone_some, Option.isNone_none]))
    refine ordLine0 (l := m) (a := ax) (P7.all 0) h00 (by first | assumption | exact St.tick (by assumption) | exact St.tick (St.tick (by assumption))) (by omega) fun ab cb W6 h => ?_
    have hlb := line0_len (P7.all 0) [] m
    generalize lineTop (P7.all 0) [] l = a at *
    generalize lineTop (P7.all 0) [] m = b at *
    have hba : b.length ≤ a.length := by have := congrArg List.length hpre; rw [List.length_take] at this; omega
    have e1 : decide ((b.length : Int) ≤ (a.length : Int)) = true := decide_eq_true (by omega)
    have hcf := St.arrFacts (St.wk (L' := [arr DOT T_api_Dot aa ca a]) h)
    have hca : a.length ≤ ca := hcf.1
    have hcm := hcf.2.1
    simp only [maxLen] at hcm
    (repeat (first | (first | (with_reducible (first | refine w1 fun _ _ => ?_ | refine w3 fun _ _ _ => ?_ | refine w4 fun _ _ _ => ?_ | refine w11 fun _ _ _ => ?_ | refine stb_n ?_)) | ((with_reducible refine w2 ?_); try simp -implicitDefEqProofs only [EN, lsub, lget, stL, beq_self_eq_true, ne_eq, if_true, if_false, List.cons_append, List.nil_append, Option.isNone_some, Option.isNone_none, e1]; intro _ _) | ((with_reducible (first | refine w5 ?_ ?_ | refine w6 ?_ ?_ | refine w7 ?_ ?_)); simp; refine ⟨_, rfl, ?_⟩) | ((with_reducible (first | refine w8 ?_ ?_ ?_ | refine w9 ?_ ?_ ?_ | refine w10 ?_ ?_ ?_)); exact rfl; simp) | ((with_reducible refine w12 ?_ ?_ ?_ fun _ _ => ?_); simp; simp; simp [oneC]) | ((with_reducible (first | refine eqs ?_ | refine nes ?_)); refine ⟨_, rfl, ?_⟩) | ((refine okF_i (bldP_eq rfl) ?_); try simp only [BLS, List.take_succ_cons, List.take_zero, List.drop_succ_cons, List.drop_zero, List.cons_append, List.nil_append, Nat.reduceAdd])) | simp -implicitDefEqProofs only [EN, lsub, lget, stL, beq_self_eq_true, ne_eq, if_true, if_false, List.cons_append, List.nil_append, Option.isNone_some, Option.isNone_none, e1]))
    refine slcR h (a := aa) (A := DOT) (l := a) (lo := 0) (hi := b.length) rfl rfl (bnd_nat (by omega)) bnd_none (Nat.zero_le _) hba hca fun a9 c9 hr9 => ?_
    rw [List.drop_zero, ← hpre] at hr9 ⊢
    (repeat (first | (first | (with_reducible (first | refine w1 fun _ _ => ?_ | refine w3 fun _ _ _ => ?_ | refine w4 fun _ _ _ => ?_ | refine w11 fun _ _ _ => ?_ | refine stb_n ?_)) | ((with_reducible refine w2 ?_); try simp -implicitDefEqProofs only [EN, lsub, lget, stL, beq_self_eq_true, ne_eq, if_true, if_false, List.cons_append, List.nil_append, Option.isNone_some, Option.isNone_none]; intro _ _) | ((with_reducible (first | refine w5 ?_ ?_ | refine w6 ?_ ?_ | refine w7 ?_ ?_)); simp; refine ⟨_, rfl, ?_⟩) | ((with_reducible (first | refine w8 ?_ ?_ ?_ | refine w9 ?_ ?_ ?_ | refine w10 ?_ ?_ ?_)); exact rfl; simp) | ((with_reducible refine w12 ?_ ?_ ?_ fun _ _ => ?_); simp; simp; simp [oneC]) | ((with_reducible (first | refine eqs ?_ | refine nes ?_)); refine ⟨_, rfl, ?_⟩) | ((refine okF_i (bldP_eq rfl) ?_); try simp only [BLS, List.take_succ_cons, List.take_zero, List.drop_succ_cons, List.drop_zero, List.cons_append, List.nil_append, Nat.reduceAdd])) | simp -implicitDefEqProofs only [EN, lsub, lget, stL, beq_self_eq_true, ne_eq, if_true, if_false, List.cons_append, List.nil_append, Option.isNone_some, Option.isNone_none]))
    refine lawDots (a := a9) (b := ab) (l := b) (m := b) h (by omega) fun W7 h => ?_
    (repeat (first | (first | (with_reducible (first | refine w1 fun _ _ => ?_ | refine w3 fun _ _ _ => ?_ | refine w4 fun _ _ _ => ?_ | refine w11 fun _ _ _ => ?_ | refine stb_n ?_)) | ((with_reducible refine w2 ?_); try simp -implicitDefEqProofs only [EN, lsub, lget, stL, beq_self_eq_true, ne_eq, if_true, if_false, List.cons_append, List.nil_append, Option.isNone_some, Option.isNone_none]; intro _ _) | ((with_reducible (first | refine w5 ?_ ?_ | refine w6 ?_ ?_ | refine w7 ?_ ?_)); simp; refine ⟨_, rfl, ?_⟩) | ((with_reducible (first | refine w8 ?_ ?_ ?_ | refine w9 ?_ ?_ ?_ | refine w10 ?_ ?_ ?_)); exact rfl; simp) | ((with_reducible refine w12 ?_ ?_ ?_ fun _ _ => ?_); simp; simp; simp [oneC]) | ((with_reducible (first | refine eqs ?_ | refine nes ?_)); refine ⟨_, rfl, ?_⟩) | ((refine okF_i (bldP_eq rfl) ?_); try simp only [BLS, List.take_succ_cons, List.take_zero, List.drop_succ_cons, List.drop_zero, List.cons_append, List.nil_append, Nat.reduceAdd])) | simp -implicitDefEqProofs only [EN, lsub, lget, stL, beq_self_eq_true, ne_eq, if_true, if_false, List.cons_append, List.nil_append, Option.isNone_some, Option.isNone_none]))
    exact fin _ _ (by first | assumption | exact St.tick (by assumption) | exact St.tick (St.tick (by assumption)))
end Go.Proofs.Ytkjhccpanedccaa
namespace Go.Proofs.Ytkjhccpanedccaa
set_option linter.unusedVariables false
set_option linter.unusedSimpArgs false
open Go Go.Eng Go.Tar Go.Sort Go.RowKit
def chainI (rep : Nat) (s : Int) (i : Int) : Ins := ⟨⟨rep, i⟩, s, (P7.all 0).set rep (i - 1)⟩
def chL (seqs : List Int) (rep n j : Nat) : List Ins := (List.range j).map fun t => chainI rep (seqs.getD (n - 1 - t) 0) ((n - t : Nat) : Int)
section
variable {rep n : Nat} {seqs : List Int} {x y : Ins} {d : Dot} {K : List Ins}
theorem chL_succ (j : Nat) : chL seqs rep n (j + 1) = chL seqs rep n j ++ [chainI rep (seqs.getD (n - 1 - j) 0) ((n - j : Nat) : Int)] := by
  unfold chL; rw [List.range_succ, List.map_append]; rfl
theorem chain_get (hr : rep < 7) (s i : Int) (r : Nat) (h : r < 7) : (chainI rep s i).v.get r = if r = rep then i - 1 else 0 := by
  show ((P7.all 0).set rep (i - 1)).get r = _
  rw [P7.get_set _ _ _ _ h, P7.get_all]
theorem chain_deps (hr : rep < 7) {s i : Int} : d ∈ depsL (chainI rep s i) ↔ d.rep = rep ∧ 1 ≤ d.n ∧ d.n ≤ i - 1 := by
  rw [depsL_mem]
  constructor
  · rintro ⟨⟨h1, h2⟩, ⟨h3, h4⟩, _⟩
    rw [chain_get hr s i _ (by omega)] at h4
    by_cases e : d.rep.toNat = rep
    · rw [if_pos e] at h4; omega
    · rw [if_neg e] at h4; omega
  · rintro ⟨h1, h2, h3⟩
    have e : d.rep.toNat = rep := by omega
    refine ⟨by omega, ⟨h2, ?_⟩, fun e2 => ?_⟩
    · rw [chain_get hr s i _ (by omega), if_pos e]; omega
    · have : d.n = i := by rw [e2]; rfl
      omega
theorem chL_mem : x ∈ chL seqs rep n n ↔ ∃ i : Nat, 1 ≤ i ∧ i ≤ n ∧ x = chainI rep (seqs.getD (i - 1) 0) i := by
  unfold chL
  simp only [List.mem_map, List.mem_range]
  constructor
  · rintro ⟨t, ht, rfl⟩
    exact ⟨n - t, by omega, by omega, by rw [show n - 1 - t = n - t - 1 by omega]⟩
  · rintro ⟨i, h1, h2, rfl⟩
    exact ⟨n - i, by omega, by rw [show n - 1 - (n - i) = i - 1 by omega, show n - (n - i) = i by omega]⟩
theorem chL_dots : (chL seqs rep n n).map (·.d) = (List.range n).map fun t => (⟨rep, ((n - t : Nat) : Int)⟩ : Dot) := by
  unfold chL; rw [List.map_map]; rfl
theorem chL_nodup : ((chL seqs rep n n).map (·.d)).Nodup := by
  rw [chL_dots, List.nodup_iff_pairwise_ne, List.pairwise_map]
  refine List.Pairwise.imp_of_mem (fun {a b} ha hb hab e => ?_) (List.nodup_iff_pairwise_ne.1 (List.nodup_range (n := n)))
  have ha := List.mem_range.1 ha
  have hb := List.mem_range.1 hb
  rw [Dot.mk.injEq] at e
  have := e.2; omega
theorem chL_good (hr : rep < 7) (hn : n ≤ 30) (hs : ∀ i, i < n → 0 ≤ seqs.getD i 0 ∧ seqs.getD i 0 ≤ 1099511627776) : goodO (chL seqs rep n n) = true := by
  refine goodO_iff.2 ⟨fun x hx => ?_, chL_nodup, by simp [chL]; omega⟩
  obtain ⟨i, h1, h2, rfl⟩ := chL_mem.1 hx
  have h3 := hs (i - 1) (by omega)
  refine ⟨?_, (depsO_iff _).2 fun r h => ?_⟩
  · unfold insOne dotO chainI
    simp only [Bool.and_eq_true, decide_eq_true_eq, Bool.not_eq_true', decide_eq_false_iff_not]
    omega
  · rw [chain_get hr _ _ r h]
    split <;> omega
theorem chain_dr (hr : rep < 7) (hK : ∀ x ∈ K, x ∈ chL seqs rep n n) (hx : x ∈ K) (h : DR K x y) : y ∈ K ∧ y.d.n ≤ x.d.n := by
  induction h with
  | refl => exact ⟨hx, Int.le_refl _⟩
  | @step y z _ hz hd ih =>
    obtain ⟨i, _, _, rfl⟩ := chL_mem.1 (hK y ih.1)
    have := (chain_deps hr).1 hd
    have h5 : (chainI rep (seqs.getD (i - 1) 0) i).d.n = i := rfl
    exact ⟨hz, by omega⟩
theorem chain_eq (hK : ∀ x ∈ K, x ∈ chL seqs rep n n) (hx : x ∈ K) (hy : y ∈ K) (e : x.d.n = y.d.n) : x = y := by
  obtain ⟨i, _, _, rfl⟩ := chL_mem.1 (hK x hx)
  obtain ⟨j, _, _, rfl⟩ := chL_mem.1 (hK y hy)
  have : (i : Int) = j := e
  have : i = j := by omega
  subst this; rfl
theorem chain_mut (hr : rep < 7) (hK : ∀ x ∈ K, x ∈ chL seqs rep n n) (hx : x ∈ K) (hy : y ∈ K) (h : Mut K x y) : x = y :=
  chain_eq hK hx hy (by have := (chain_dr hr hK hx h.1).2; have := (chain_dr hr hK hy h.2).2; omega)
theorem chain_line (hr : rep < 7) (hn : n ≤ 30) (hs : ∀ i, i < n → 0 ≤ seqs.getD i 0 ∧ seqs.getD i 0 ≤ 1099511627776) : lineTop (P7.all 0) [] (chL seqs rep n n) = (List.range n).map fun i : Nat => (⟨rep, (i : Int) + 1⟩ : Dot) := by
  have hg := chL_good (seqs := seqs) hr hn hs
  rw [line0_eq hg]
  have hnd := chL_nodup (seqs := seqs) (rep := rep) (n := n)
  have hc : ∀ x ∈ chL seqs rep n n, ∀ d ∈ depsL x, q0 d = true ∨ ∃ y ∈ chL seqs rep n n, y.d = d := fun x hx d hd => by
    obtain ⟨i, h1, h2, rfl⟩ := chL_mem.1 hx
    obtain ⟨h3, h4, h5⟩ := (chain_deps hr).1 hd
    refine .inr ⟨_, chL_mem.2 ⟨d.n.toNat, by omega, by omega, rfl⟩, ?_⟩
    obtain ⟨r, m⟩ := d
    simp only at h3 h4 h5
    unfold chainI
    simp only
    rw [Dot.mk.injEq]
    constructor <;> omega
  have hkm : ∀ x, x ∈ keptO q0 (chL seqs rep n n) ↔ x ∈ chL seqs rep n n := fun x => kept_all hc hnd (q0_good hg)
  have hkn := kept_nodup (q := q0) hnd
  generalize keptO q0 (chL seqs rep n n) = K at *
  have hK : ∀ x ∈ K, x ∈ chL seqs rep n n := fun x hx => (hkm x).1 hx
  have hpw : ((lineK K).map (·.d)).Pairwise fun a b => a.n ≤ b.n := by
    rw [List.pairwise_map]
    refine List.Pairwise.imp_of_mem (fun {x y} hx hy hxy => ?_) (lineK_pw hkn)
    have hx := lineK_mem.1 hx
    have hy := lineK_mem.1 hy
    rcases hxy with ⟨h1, h2⟩ | ⟨h1, h2⟩
    · have := chain_mut hr hK hx hy h1
      subst this; exact Int.le_refl _
    · obtain ⟨i, _, _, rfl⟩ := chL_mem.1 (hK x hx)
      obtain ⟨j, h3, _, rfl⟩ := chL_mem.1 (hK y hy)
      rw [chain_deps hr] at h2
      have h4 : ¬ ((j : Int) ≤ i - 1) := fun h => h2 ⟨rfl, by show (1 : Int) ≤ j; omega, h⟩
      show (i : Int) ≤ j
      omega
  refine List.Perm.eq_of_pairwise (le := fun a b : Dot => a.n ≤ b.n) (fun a b ha hb g1 g2 => ?_) hpw (List.pairwise_map.2 (List.Pairwise.imp_of_mem (fun {a b} _ _ hab => by simp only; omega) (List.pairwise_lt_range (n := n)))) ?_
  · obtain ⟨x, hx, rfl⟩ := List.mem_map.1 ha
    obtain ⟨i, _, rfl⟩ := List.mem_map.1 hb
    obtain ⟨j, _, _, rfl⟩ := chL_mem.1 (hK x (lineK_mem.1 hx))
    have g1 : (j : Int) ≤ (i : Int) + 1 := g1
    have g2 : (i : Int) + 1 ≤ (j : Int) := g2
    show (⟨rep, j⟩ : Dot) = ⟨rep, i + 1⟩
    rw [Dot.mk.injEq]
    exact ⟨rfl, by omega⟩
  · refine (List.perm_ext_iff_of_nodup (lineK_nodup hkn) ?_).2 fun a => ?_
    · rw [List.nodup_iff_pairwise_ne, List.pairwise_map]
      refine (List.nodup_iff_pairwise_ne.1 (List.nodup_range (n := n))).imp fun {a b} hab e => ?_
      rw [Dot.mk.injEq] at e
      have := e.2; omega
    · rw [List.mem_map, List.mem_map]
      constructor
      · rintro ⟨x, hx, rfl⟩
        obtain ⟨j, h1, h2, rfl⟩ := chL_mem.1 (hK x (lineK_mem.1 hx))
        exact ⟨j - 1, List.mem_range.2 (by omega), by show (⟨rep, ((j - 1 : Nat) : Int) + 1⟩ : Dot) = ⟨rep, j⟩; rw [Dot.mk.injEq]; exact ⟨rfl, by omega⟩⟩
      · rintro ⟨i, hi, rfl⟩
        have hi := List.mem_range.1 hi
        refine ⟨chainI rep (seqs.getD (i + 1 - 1) 0) ((i + 1 : Nat) : Int), lineK_mem.2 ((hkm _).2 (chL_mem.2 ⟨i + 1, by omega, by omega, rfl⟩)), rfl⟩
theorem flat_ones : ∀ gs : List (List Int), (∀ g ∈ gs, g.length = 1) → gs.flatten.length = gs.length
  | [], _ => rfl
  | g :: gs, h => by
    rw [List.flatten_cons, List.length_append, h g (by simp), flat_ones gs fun x hx => h x (by simp [hx]), List.length_cons]; omega
theorem grp_count {on gs : List (List Int)} (hG : Grp on n gs) : gs.flatten.length = n := by
  have h1 := nodup_len hG.nd fun x hx => (hG.all x).1 hx
  have h2 : ((List.range n).map fun i : Nat => (i : Int)).Nodup := by
    rw [List.nodup_iff_pairwise_ne, List.pairwise_map]
    exact (List.nodup_iff_pairwise_ne.1 List.nodup_range).imp fun {a b} hab => by omega
  have h3 := h2.length_le_of_subset (l₂ := gs.flatten) fun x hx => by
    obtain ⟨i, hi, rfl⟩ := List.mem_map.1 hx
    exact (hG.all _).2 ⟨by omega, by have := List.mem_range.1 hi; omega⟩
  rw [List.length_map, List.length_range] at h3
  omega
theorem chain_groups (hr : rep < 7) (hn : n ≤ 30) (hs : ∀ i, i < n → 0 ≤ seqs.getD i 0 ∧ seqs.getD i 0 ≤ 1099511627776) : (groupsTop (chL seqs rep n n)).length = n := by
  have hg := chL_good (seqs := seqs) hr hn hs
  have hnd := chL_nodup (seqs := seqs) (rep := rep) (n := n)
  unfold groupsTop groupsO
  rw [if_pos hg, (sortD_perm _).length_eq, List.length_map]
  have hsn := sortO_nodup hnd
  have hsl : (sortO (chL seqs rep n n)).length = n := by rw [sortO_len]; simp [chL]
  have hK : ∀ x ∈ sortO (chL seqs rep n n), x ∈ chL seqs rep n n := fun x hx => sortO_mem.1 hx
  generalize sortO (chL seqs rep n n) = sl at *
  have hG := groups_grp (onL_ok sl)
  have hone : ∀ g ∈ groupsF (onL sl), g.length = 1 := fun g hgm => by
    have hne := (hG.gok g hgm).1
    have hgn : g.Nodup := hG.nd.sublist (List.sublist_flatten_of_mem hgm)
    cases g with
    | nil => exact absurd rfl hne
    | cons a g =>
      cases g with
      | nil => rfl
      | cons b g =>
        have ha := (hG.all a).1 (List.mem_flatten.2 ⟨_, hgm, by simp⟩)
        have hb := (hG.all b).1 (List.mem_flatten.2 ⟨_, hgm, by simp⟩)
        have hsm := (hG.same hgm (x := a) (y := b) (by simp) hb).1 (by simp)
        obtain ⟨i, rfl⟩ : ∃ i : Nat, a = i := ⟨a.toNat, by unfold Vx at ha; omega⟩
        obtain ⟨j, rfl⟩ : ∃ j : Nat, b = j := ⟨b.toNat, by unfold Vx at hb; omega⟩
        have hi : i < sl.length := by unfold Vx at ha; omega
        have hj : j < sl.length := by unfold Vx at hb; omega
        have := chain_mut hr hK (List.getElem_mem hi) (List.getElem_mem hj) ⟨(rch_dr hsn hi hj).1 hsm.1, (rch_dr hsn hj hi).1 hsm.2⟩
        have := at_inj hsn hi hj (by rw [this])
        subst this
        simp at hgn
  rw [← flat_ones _ hone, grp_count hG]; exact hsl
end
end Go.Proofs.Ytkjhccpanedccaa
namespace Go.Proofs.Ytkjhccpanedccaa
set_option linter.unusedVariables false
set_option linter.unusedSimpArgs false
open Go Go.Eng Go.Tar Go.Sort Go.RowKit
theorem openI64s {W : World} {v : Value} (h : GoodA W [.sl [.int .i64]] false v) : ∃ (a : Option Addr) (c : Nat) (l : List Int), v = .slice a l.length c ∧ l.length ≤ c ∧ c ≤ maxLen ∧ Rd W [] a I64 l := by
  obtain ⟨a, c, l, h1, h2, h3, h4, _⟩ := openArr I64 (fun _ => True) h.one rfl (fun vs h => by
    obtain ⟨_, _, rfl, h1, h⟩ := h.cons'
    obtain rfl := h.nil'
    obtain ⟨b, rfl, _⟩ := h1.int'
    exact ⟨b, rfl, trivial⟩)
  exact ⟨a, c, l, h1, h2, h3, h4⟩
theorem chain_row (rep : Nat) (hr : rep < 7) (s i : Int) : stL [.int .i64 (rep : Int), .int .i64 i, .int .i64 s, .int .i64 0, .int .i64 0, .int .i64 0, .int .i64 0, .int .i64 0, .int .i64 0, .int .i64 0] (3 + rep) [.int .i64 (i - 1)] = INS.row (chainI rep s i) := by
  rcases P7.cases7 hr with rfl | rfl | rfl | rfl | rfl | rfl | rfl <;> rfl
set_option maxRecDepth 100000 in
set_option maxHeartbeats 8000000 in
theorem orderChain_walk {W : World} {v0 v1 v2 : Value} (h0 : GoodA W [.int .i64] false v0) (h1 : GoodA W [.sl [.int .i64]] false v1) (h2 : GoodA W [.int .i64] false v2) : callK PR F_rostrumlaw18_OrderChain [v0, v1, v2] (fun v W' => v = .bool true ∧ Lo W W') W := by
  obtain ⟨n, rfl, hnw⟩ := h0.one.int'
  obtain ⟨sa, sc, s, rfl, hsc, hsm, hrs⟩ := openI64s (goodAz h1)
  obtain ⟨rep, rfl, hrw⟩ := h2.one.int'
  apply S.rostrumlaw18_OrderChain.call
  unfold S.rostrumlaw18_OrderChain.body
  have h00 : ({ W with drawn := 0 } : World).drawn = 0 := rfl
  have fin : ∀ (W' : World) (L : List Asn), St { W with drawn := 0 } L W' → Lo W W' := fun W' L h => St.lo h
  refine lawAwake h00 (St.startz W) fun W1 h => ?_
  generalize ({ W with drawn := 0 } : World) = W0 at *
  by_cases c1 : n < 0
  · (repeat (first | (first | (with_reducible (first | refine w1 fun _ _ => ?_ | refine w3 fun _ _ _ => ?_ | refine w4 fun _ _ _ => ?_ | refine w11 fun _ _ _ => ?_ | refine stb_n ?_)) | ((with_reducible refine w2 ?_); try simp -implicitDefEqProofs only [EN, lsub, lget, stL, beq_self_eq_true, ne_eq, if_true, if_false, List.cons_append, List.nil_append, Option.isNone_some, Option.isNone_none, c1]; intro _ _) | ((with_reducible (first | refine w5 ?_ ?_ | refine w6 ?_ ?_ | refine w7 ?_ ?_)); simp; refine ⟨_, rfl, ?_⟩) | ((with_reducible (first | refine w8 ?_ ?_ ?_ | refine w9 ?_ ?_ ?_ | refine w10 ?_ ?_ ?_)); exact rfl; simp) | ((with_reducible refine w12 ?_ ?_ ?_ fun _ _ => ?_); simp; simp; simp [oneC]) | ((with_reducible (first | refine eqs ?_ | refine nes ?_)); refine ⟨_, rfl, ?_⟩) | ((refine okF_i (bldP_eq rfl) ?_); try simp only [BLS, List.take_succ_cons, List.take_zero, List.drop_succ_cons, List.drop_zero, List.cons_append, List.nil_append, Nat.reduceAdd])) | simp -implicitDefEqProofs only [EN, lsub, lget, stL, beq_self_eq_true, ne_eq, if_true, if_false, List.cons_append, List.nil_append, Option.isNone_some, Option.isNone_none, c1]))
    exact fin _ _ (by first | assumption | exact St.tick (by assumption) | exact St.tick (St.tick (by assumption)))
  by_cases c2 : (30 : Int) < n
  · (repeat (first | (first | (with_reducible (first | refine w1 fun _ _ => ?_ | refine w3 fun _ _ _ => ?_ | refine w4 fun _ _ _ => ?_ | refine w11 fun _ _ _ => ?_ | refine stb_n ?_)) | ((with_reducible refine w2 ?_); try simp -implicitDefEqProofs only [EN, lsub, lget, stL, beq_self_eq_true, ne_eq, if_true, if_false, List.cons_append, List.nil_append, Option.isNone_some, Option.isNone_none, c1, c2]; intro _ _) | ((with_reducible (first | refine w5 ?_ ?_ | refine w6 ?_ ?_ | refine w7 ?_ ?_)); simp; refine ⟨_, rfl, ?_⟩) | ((with_reducible (first | refine w8 ?_ ?_ ?_ | refine w9 ?_ ?_ ?_ | refine w10 ?_ ?_ ?_)); exact rfl; simp) | ((with_reducible refine w12 ?_ ?_ ?_ fun _ _ => ?_); simp; simp; simp [oneC]) | ((with_reducible (first | refine eqs ?_ | refine nes ?_)); refine ⟨_, rfl, ?_⟩) | ((refine okF_i (bldP_eq rfl) ?_); try simp only [BLS, List.take_succ_cons, List.take_zero, List.drop_succ_cons, List.drop_zero, List.cons_append, List.nil_append, Nat.reduceAdd])) | simp -implicitDefEqProofs only [EN, lsub, lget, stL, beq_self_eq_true, ne_eq, if_true, if_false, List.cons_append, List.nil_append, Option.isNone_some, Option.isNone_none, c1, c2]))
    exact fin _ _ (by first | assumption | exact St.tick (by assumption) | exact St.tick (St.tick (by assumption)))
  by_cases c3 : (s.length : Int) < n
  · (repeat (first | (first | (with_reducible (first | refine w1 fun _ _ => ?_ | refine w3 fun _ _ _ => ?_ | refine w4 fun _ _ _ => ?_ | refine w11 fun _ _ _ => ?_ | refine stb_n ?_)) | ((with_reducible refine w2 ?_); try simp -implicitDefEqProofs only [EN, lsub, lget, stL, beq_self_eq_true, ne_eq, if_true, if_false, List.cons_append, List.nil_append, Option.isNone_some, Option.isNone_none, c1, c2, c3]; intro _ _) | ((with_reducible (first | refine w5 ?_ ?_ | refine w6 ?_ ?_ | refine w7 ?_ ?_)); simp; refine ⟨_, rfl, ?_⟩) | ((with_reducible (first | refine w8 ?_ ?_ ?_ | refine w9 ?_ ?_ ?_ | refine w10 ?_ ?_ ?_)); exact rfl; simp) | ((with_reducible refine w12 ?_ ?_ ?_ fun _ _ => ?_); simp; simp; simp [oneC]) | ((with_reducible (first | refine eqs ?_ | refine nes ?_)); refine ⟨_, rfl, ?_⟩) | ((refine okF_i (bldP_eq rfl) ?_); try simp only [BLS, List.take_succ_cons, List.take_zero, List.drop_succ_cons, List.drop_zero, List.cons_append, List.nil_append, Nat.reduceAdd])) | simp -implicitDefEqProofs only [EN, lsub, lget, stL, beq_self_eq_true, ne_eq, if_true, if_false, List.cons_append, List.nil_append, Option.isNone_some, Option.isNone_none, c1, c2, c3]))
    exact fin _ _ (by first | assumption | exact St.tick (by assumption) | exact St.tick (St.tick (by assumption)))
  by_cases c4 : rep < 0
  · (repeat (first | (first | (with_reducible (first | refine w1 fun _ _ => ?_ | refine w3 fun _ _ _ => ?_ | refine w4 fun _ _ _ => ?_ | refine w11 fun _ _ _ => ?_ | refine stb_n ?_)) | ((with_reducible refine w2 ?_); try simp -implicitDefEqProofs only [EN, lsub, lget, stL, beq_self_eq_true, ne_eq, if_true, if_false, List.cons_append, List.nil_append, Option.isNone_some, Option.isNone_none, c1, c2, c3, c4]; intro _ _) | ((with_reducible (first | refine w5 ?_ ?_ | refine w6 ?_ ?_ | refine w7 ?_ ?_)); simp; refine ⟨_, rfl, ?_⟩) | ((with_reducible (first | refine w8 ?_ ?_ ?_ | refine w9 ?_ ?_ ?_ | refine w10 ?_ ?_ ?_)); exact rfl; simp) | ((with_reducible refine w12 ?_ ?_ ?_ fun _ _ => ?_); simp; simp; simp [oneC]) | ((with_reducible (first | refine eqs ?_ | refine nes ?_)); refine ⟨_, rfl, ?_⟩) | ((refine okF_i (bldP_eq rfl) ?_); try simp only [BLS, List.take_succ_cons, List.take_zero, List.drop_succ_cons, List.drop_zero, List.cons_append, List.nil_append, Nat.reduceAdd])) | simp -implicitDefEqProofs only [EN, lsub, lget, stL, beq_self_eq_true, ne_eq, if_true, if_false, List.cons_append, List.nil_append, Option.isNone_some, Option.isNone_none, c1, c2, c3, c4]))
    exact fin _ _ (by first | assumption | exact St.tick (by assumption) | exact St.tick (St.tick (by assumption)))
  by_cases c5 : (6 : Int) < rep
  · (repeat (first | (first | (with_reducible (first | refine w1 fun _ _ => ?_ | refine w3 fun _ _ _ => ?_ | refine w4 fun _ _ _ => ?_ | refine w11 fun _ _ _ => ?_ | refine stb_n ?_)) | ((with_reducible refine w2 ?_); try simp -implicitDefEqProofs only [EN, lsub, lget, stL, beq_self_eq_true, ne_eq, if_true, if_false, List.cons_append, List.nil_append, Option.isNone_some, Option.isNone_none, c1, c2, c3, c4, c5]; intro _ _) | ((with_reducible (first | refine w5 ?_ ?_ | refine w6 ?_ ?_ | refine w7 ?_ ?_)); simp; refine ⟨_, rfl, ?_⟩) | ((with_reducible (first | refine w8 ?_ ?_ ?_ | refine w9 ?_ ?_ ?_ | refine w10 ?_ ?_ ?_)); exact rfl; simp) | ((with_reducible refine w12 ?_ ?_ ?_ fun _ _ => ?_); simp; simp; simp [oneC]) | ((with_reducible (first | refine eqs ?_ | refine nes ?_)); refine ⟨_, rfl, ?_⟩) | ((refine okF_i (bldP_eq rfl) ?_); try simp only [BLS, List.take_succ_cons, List.take_zero, List.drop_succ_cons, List.drop_zero, List.cons_append, List.nil_append, Nat.reduceAdd])) | simp -implicitDefEqProofs only [EN, lsub, lget, stL, beq_self_eq_true, ne_eq, if_true, if_false, List.cons_append, List.nil_append, Option.isNone_some, Option.isNone_none, c1, c2, c3, c4, c5]))
    exact fin _ _ (by first | assumption | exact St.tick (by assumption) | exact St.tick (St.tick (by assumption)))
  (repeat (first | (first | (with_reducible (first | refine w1 fun _ _ => ?_ | refine w3 fun _ _ _ => ?_ | refine w4 fun _ _ _ => ?_ | refine w11 fun _ _ _ => ?_ | refine stb_n ?_)) | ((with_reducible refine w2 ?_); try simp -implicitDefEqProofs only [EN, lsub, lget, stL, beq_self_eq_true, ne_eq, if_true, if_false, List.cons_append, List.nil_append, Option.isNone_some, Option.isNone_none, c1, c2, c3, c4, c5]; intro _ _) | ((with_reducible (first | refine w5 ?_ ?_ | refine w6 ?_ ?_ | refine w7 ?_ ?_)); simp; refine ⟨_, rfl, ?_⟩) | ((with_reducible (first | refine w8 ?_ ?_ ?_ | refine w9 ?_ ?_ ?_ | refine w10 ?_ ?_ ?_)); exact rfl; simp) | ((with_reducible refine w12 ?_ ?_ ?_ fun _ _ => ?_); simp; simp; simp [oneC]) | ((with_reducible (first | refine eqs ?_ | refine nes ?_)); refine ⟨_, rfl, ?_⟩) | ((refine okF_i (bldP_eq rfl) ?_); try simp only [BLS, List.take_succ_cons, List.take_zero, List.drop_succ_cons, List.drop_zero, List.cons_append, List.nil_append, Nat.reduceAdd])) | simp -implicitDefEqProofs only [EN, lsub, lget, stL, beq_self_eq_true, ne_eq, if_true, if_false, List.cons_append, List.nil_append, Option.isNone_some, Option.isNone_none, c1, c2, c3, c4, c5]))
  obtain ⟨n, rfl⟩ : ∃ m : Nat, n = (m : Int) := ⟨n.toNat, by omega⟩
  obtain ⟨rep, rfl⟩ : ∃ m : Nat, rep = (m : Int) := ⟨rep.toNat, by omega⟩
  have hr : rep < 7 := by omega
  have hn : n ≤ 30 := by omega
  have hsl : n ≤ s.length := by omega
  refine joinK_i ?_
  have h := h.ent (arr_nil INS T_order_Inst)
  refine loop_c (σ := Option Addr × Nat) n (fun j x => [.int .i64 (n : Int), .slice sa s.length sc, .int .i64 (rep : Int), .slice x.1 (chL s rep n j).length x.2, .int .i64 ((n : Int) - j)])
    (fun j x W1 => (∀ t, t < j → 0 ≤ s.getD (n - 1 - t) 0 ∧ s.getD (n - 1 - t) 0 ≤ 1099511627776) ∧ St W0 [arr INS T_order_Inst x.1 x.2 (chL s rep n j)] W1) (none, 0) (by simp [chL]) ⟨fun _ h => by omega, h⟩ ?_
  clear h
  rintro K j ⟨ax, cx⟩ W3 hj ⟨hs, h⟩ hK
  simp only at h
  simp -implicitDefEqProofs only [EN, lsub, lget, stL, beq_self_eq_true, ne_eq, if_true, if_false, List.cons_append, List.nil_append, Option.isNone_some, Option.isNone_none]
  unfold S.rostrumlaw18_OrderChain.l2
  have hcl : (chL s rep n j).length = j := by simp [chL]
  by_cases hlt : (1 : Int) ≤ (n : Int) - j
  · have hjb : j < n := by omega
    have ew : IntKind.i64.wrap ((n : Int) - j - 1) = ((n - 1 - j : Nat) : Int) := by rw [i64w]; omega
    have ew2 : ((n - 1 - j : Nat) : Int) = (n : Int) - ((j + 1 : Nat) : Int) := by omega
    have hib : n - 1 - j < s.length := by omega
    have hts := chL_succ (seqs := s) (rep := rep) (n := n) j
    obtain ⟨gs, os, e2⟩ := posAddr (i := n - 1 - j) (a := sa) (A := I64) (l := s) (St.start W0) hib
    subst e2
    have eis := ix2 (n := s.length) (i := n - 1 - j) hib gs os sc
    (repeat (first | (first | (with_reducible (first | refine w1 fun _ _ => ?_ | refine w3 fun _ _ _ => ?_ | refine w4 fun _ _ _ => ?_ | refine w11 fun _ _ _ => ?_ | refine stb_n ?_)) | ((with_reducible refine w2 ?_); try simp -implicitDefEqProofs only [EN, lsub, lget, stL, beq_self_eq_true, ne_eq, if_true, if_false, List.cons_append, List.nil_append, Option.isNone_some, Option.isNone_none, hlt, ew, eis]; intro _ _) | ((with_reducible (first | refine w5 ?_ ?_ | refine w6 ?_ ?_ | refine w7 ?_ ?_)); simp; refine ⟨_, rfl, ?_⟩) | ((with_reducible (first | refine w8 ?_ ?_ ?_ | refine w9 ?_ ?_ ?_ | refine w10 ?_ ?_ ?_)); exact rfl; simp) | ((with_reducible refine w12 ?_ ?_ ?_ fun _ _ => ?_); simp; simp; simp [oneC]) | ((with_reducible (first | refine eqs ?_ | refine nes ?_)); refine ⟨_, rfl, ?_⟩) | ((refine okF_i (bldP_eq rfl) ?_); try simp only [BLS, List.take_succ_cons, List.take_zero, List.drop_succ_cons, List.drop_zero, List.cons_append, List.nil_append, Nat.reduceAdd])) | simp -implicitDefEqProofs only [EN, lsub, lget, stL, beq_self_eq_true, ne_eq, if_true, if_false, List.cons_append, List.nil_append, Option.isNone_some, Option.isNone_none, hlt, ew, eis]))
    refine ldA0 (i := n - 1 - j) (l := s) (A := I64) (by first | assumption | exact St.tick (by assumption) | exact St.tick (St.tick (by assumption))) rfl hib (v := .int .i64 (s.getD (n - 1 - j) 0)) (by rw [← getD_at hib]; rfl) (by simp) ?_
    generalize hsv : s.getD (n - 1 - j) 0 = sv at *
    by_cases c6 : sv < 0
    · (repeat (first | (first | (with_reducible (first | refine w1 fun _ _ => ?_ | refine w3 fun _ _ _ => ?_ | refine w4 fun _ _ _ => ?_ | refine w11 fun _ _ _ => ?_ | refine stb_n ?_)) | ((with_reducible refine w2 ?_); try simp -implicitDefEqProofs only [EN, lsub, lget, stL, beq_self_eq_true, ne_eq, if_true, if_false, List.cons_append, List.nil_append, Option.isNone_some, Option.isNone_none, c6]; intro _ _) | ((with_reducible (first | refine w5 ?_ ?_ | refine w6 ?_ ?_ | refine w7 ?_ ?_)); simp; refine ⟨_, rfl, ?_⟩) | ((with_reducible (first | refine w8 ?_ ?_ ?_ | refine w9 ?_ ?_ ?_ | refine w10 ?_ ?_ ?_)); exact rfl; simp) | ((with_reducible refine w12 ?_ ?_ ?_ fun _ _ => ?_); simp; simp; simp [oneC]) | ((with_reducible (first | refine eqs ?_ | refine nes ?_)); refine ⟨_, rfl, ?_⟩) | ((refine okF_i (bldP_eq rfl) ?_); try simp only [BLS, List.take_succ_cons, List.take_zero, List.drop_succ_cons, List.drop_zero, List.cons_append, List.nil_append, Nat.reduceAdd])) | simp -implicitDefEqProofs only [EN, lsub, lget, stL, beq_self_eq_true, ne_eq, if_true, if_false, List.cons_append, List.nil_append, Option.isNone_some, Option.isNone_none, c6]))
      exact fin _ _ (by first | assumption | exact St.tick (by assumption) | exact St.tick (St.tick (by assumption)))
    (repeat (first | (first | (with_reducible (first | refine w1 fun _ _ => ?_ | refine w3 fun _ _ _ => ?_ | refine w4 fun _ _ _ => ?_ | refine w11 fun _ _ _ => ?_ | refine stb_n ?_)) | ((with_reducible refine w2 ?_); try simp -implicitDefEqProofs only [EN, lsub, lget, stL, beq_self_eq_true, ne_eq, if_true, if_false, List.cons_append, List.nil_append, Option.isNone_some, Option.isNone_none, c6, ew, eis]; intro _ _) | ((with_reducible (first | refine w5 ?_ ?_ | refine w6 ?_ ?_ | refine w7 ?_ ?_)); simp; refine ⟨_, rfl, ?_⟩) | ((with_reducible (first | refine w8 ?_ ?_ ?_ | refine w9 ?_ ?_ ?_ | refine w10 ?_ ?_ ?_)); exact rfl; simp) | ((with_reducible refine w12 ?_ ?_ ?_ fun _ _ => ?_); simp; simp; simp [oneC]) | ((with_reducible (first | refine eqs ?_ | refine nes ?_)); refine ⟨_, rfl, ?_⟩) | ((refine okF_i (bldP_eq rfl) ?_); try simp only [BLS, List.take_succ_cons, List.take_zero, List.drop_succ_cons, List.drop_zero, List.cons_append, List.nil_append, Nat.reduceAdd])) | simp -implicitDefEqProofs only [EN, lsub, lget, stL, beq_self_eq_true, ne_eq, if_true, if_false, List.cons_append, List.nil_append, Option.isNone_some, Option.isNone_none, c6, ew, eis]))
    have egl : getL false (I64.row s[n - 1 - j]) 0 1 = some (.int .i64 sv) := by rw [← hsv, ← getD_at hib]; rfl
    refine ldA0 (i := n - 1 - j) (l := s) (A := I64) (by first | assumption | exact St.tick (by assumption) | exact St.tick (St.tick (by assumption))) rfl hib egl (by simp) ?_
    by_cases c7 : (1099511627776 : Int) < sv
    · (repeat (first | (first | (with_reducible (first | refine w1 fun _ _ => ?_ | refine w3 fun _ _ _ => ?_ | refine w4 fun _ _ _ => ?_ | refine w11 fun _ _ _ => ?_ | refine stb_n ?_)) | ((with_reducible refine w2 ?_); try simp -implicitDefEqProofs only [EN, lsub, lget, stL, beq_self_eq_true, ne_eq, if_true, if_false, List.cons_append, List.nil_append, Option.isNone_some, Option.isNone_none, c7]; intro _ _) | ((with_reducible (first | refine w5 ?_ ?_ | refine w6 ?_ ?_ | refine w7 ?_ ?_)); simp; refine ⟨_, rfl, ?_⟩) | ((with_reducible (first | refine w8 ?_ ?_ ?_ | refine w9 ?_ ?_ ?_ | refine w10 ?_ ?_ ?_)); exact rfl; simp) | ((with_reducible refine w12 ?_ ?_ ?_ fun _ _ => ?_); simp; simp; simp [oneC]) | ((with_reducible (first | refine eqs ?_ | refine nes ?_)); refine ⟨_, rfl, ?_⟩) | ((refine okF_i (bldP_eq rfl) ?_); try simp only [BLS, List.take_succ_cons, List.take_zero, List.drop_succ_cons, List.drop_zero, List.cons_append, List.nil_append, Nat.reduceAdd])) | simp -implicitDefEqProofs only [EN, lsub, lget, stL, beq_self_eq_true, ne_eq, if_true, if_false, List.cons_append, List.nil_append, Option.isNone_some, Option.isNone_none, c7]))
      exact fin _ _ (by first | assumption | exact St.tick (by assumption) | exact St.tick (St.tick (by assumption)))
    (repeat (first | (first | (with_reducible (first | refine w1 fun _ _ => ?_ | refine w3 fun _ _ _ => ?_ | refine w4 fun _ _ _ => ?_ | refine w11 fun _ _ _ => ?_ | refine stb_n ?_)) | ((with_reducible refine w2 ?_); try simp -implicitDefEqProofs only [EN, lsub, lget, stL, beq_self_eq_true, ne_eq, if_true, if_false, List.cons_append, List.nil_append, Option.isNone_some, Option.isNone_none, c7, ew, eis]; intro _ _) | ((with_reducible (first | refine w5 ?_ ?_ | refine w6 ?_ ?_ | refine w7 ?_ ?_)); simp; refine ⟨_, rfl, ?_⟩) | ((with_reducible (first | refine w8 ?_ ?_ ?_ | refine w9 ?_ ?_ ?_ | refine w10 ?_ ?_ ?_)); exact rfl; simp) | ((with_reducible refine w12 ?_ ?_ ?_ fun _ _ => ?_); simp; simp; simp [oneC]) | ((with_reducible (first | refine eqs ?_ | refine nes ?_)); refine ⟨_, rfl, ?_⟩) | ((refine okF_i (bldP_eq rfl) ?_); try simp only [BLS, List.take_succ_cons, List.take_zero, List.drop_succ_cons, List.drop_zero, List.cons_append, List.nil_append, Nat.reduceAdd])) | simp -implicitDefEqProofs only [EN, lsub, lget, stL, beq_self_eq_true, ne_eq, if_true, if_false, List.cons_append, List.nil_append, Option.isNone_some, Option.isNone_none, c7, ew, eis]))
    refine ldA0 (i := n - 1 - j) (l := s) (A := I64) (by first | assumption | exact St.tick (by assumption) | exact St.tick (St.tick (by assumption))) rfl hib egl (by simp) ?_
    (repeat (first | (first | (with_reducible (first | refine w1 fun _ _ => ?_ | refine w3 fun _ _ _ => ?_ | refine w4 fun _ _ _ => ?_ | refine w11 fun _ _ _ => ?_ | refine stb_n ?_)) | ((with_reducible refine w2 ?_); try simp -implicitDefEqProofs only [EN, lsub, lget, stL, beq_self_eq_true, ne_eq, if_true, if_false, List.cons_append, List.nil_append, Option.isNone_some, Option.isNone_none, ew]; intro _ _) | ((with_reducible (first | refine w5 ?_ ?_ | refine w6 ?_ ?_ | refine w7 ?_ ?_)); simp; refine ⟨_, rfl, ?_⟩) | ((with_reducible (first | refine w8 ?_ ?_ ?_ | refine w9 ?_ ?_ ?_ | refine w10 ?_ ?_ ?_)); exact rfl; simp) | ((with_reducible refine w12 ?_ ?_ ?_ fun _ _ => ?_); simp; simp; simp [oneC]) | ((with_reducible (first | refine eqs ?_ | refine nes ?_)); refine ⟨_, rfl, ?_⟩) | ((refine okF_i (bldP_eq rfl) ?_); try simp only [BLS, List.take_succ_cons, List.take_zero, List.drop_succ_cons, List.drop_zero, List.cons_append, List.nil_append, Nat.reduceAdd])) | simp -implicitDefEqProofs only [EN, lsub, lget, stL, beq_self_eq_true, ne_eq, if_true, if_false, List.cons_append, List.nil_append, Option.isNone_some, Option.isNone_none, ew]))
    rename_i pb _ _ W5 h
    have eA : idxA 7 1 (.pointer (some ⟨pb, 3, none⟩)) (.int .i64 (rep : Int)) = some (.pointer (some ⟨pb, 3 + rep, none⟩)) := by rw [idxA_blk (by omega) (by omega), Int.toNat_natCast, Nat.mul_one]
    (try simp only [BLS, List.take_succ_cons, List.take_zero, List.drop_succ_cons, List.drop_zero, List.cons_append, List.nil_append, List.append_nil, List.take_nil, List.drop_nil, stL, Nat.reduceAdd] at h)
    (repeat (first | (first | (with_reducible (first | refine w1 fun _ _ => ?_ | refine w3 fun _ _ _ => ?_ | refine w4 fun _ _ _ => ?_ | refine w11 fun _ _ _ => ?_ | refine stb_n ?_)) | ((with_reducible refine w2 ?_); try simp -implicitDefEqProofs only [EN, lsub, lget, stL, beq_self_eq_true, ne_eq, if_true, if_false, List.cons_append, List.nil_append, Option.isNone_some, Option.isNone_none, eA]; intro _ _) | ((with_reducible (first | refine w5 ?_ ?_ | refine w6 ?_ ?_ | refine w7 ?_ ?_)); simp; refine ⟨_, rfl, ?_⟩) | ((with_reducible (first | refine w8 ?_ ?_ ?_ | refine w9 ?_ ?_ ?_ | refine w10 ?_ ?_ ?_)); exact rfl; simp) | ((with_reducible refine w12 ?_ ?_ ?_ fun _ _ => ?_); simp; simp; simp [oneC]) | ((with_reducible (first | refine eqs ?_ | refine nes ?_)); refine ⟨_, rfl, ?_⟩) | ((refine okF_i (bldP_eq rfl) ?_); try simp only [BLS, List.take_succ_cons, List.take_zero, List.drop_succ_cons, List.drop_zero, List.cons_append, List.nil_append, Nat.reduceAdd])) | simp -implicitDefEqProofs only [EN, lsub, lget, stL, beq_self_eq_true, ne_eq, if_true, if_false, List.cons_append, List.nil_append, Option.isNone_some, Option.isNone_none, eA]))
    refine w12 ?_ ?_ ?_ (fun W6 h => ?_) h
    · rfl
    · simp; omega
    · rfl
    rw [ew2, show (n : Int) - ((j + 1 : Nat) : Int) = ((n - j : Nat) : Int) - 1 by omega, show (n : Int) - (j : Int) = ((n - j : Nat) : Int) by omega] at h
    rw [vcells_int, chain_row rep hr] at h
    refine ldV (A := INS) (chainI rep sv ((n - j : Nat) : Int)) h rfl (by decide) ?_
    refine bsA INS [chainI rep sv ((n - j : Nat) : Int)] (n := 1) (by first | assumption | exact St.tick (by assumption) | exact St.tick (St.tick (by assumption))) rfl rfl (by decide) (by decide) rfl fun a5 c5 W12 h => ?_
    refine appA (A := INS) (a := ax) (l := chL s rep n j) (m := [chainI rep sv ((n - j : Nat) : Int)]) (by first | assumption | exact St.tick (by assumption) | exact St.tick (St.tick (by assumption))) rfl (by simp only [List.length_cons, List.length_nil]; omega) (by simp only [List.length_cons, List.length_nil, maxLen]; omega) fun a6 c6 W13 h => ?_
    rw [← hts] at h ⊢
    rw [ew2]
    refine hK (a6, c6) _ hjb ⟨fun t ht => ?_, St.wk h⟩
    by_cases e : t = j
    · subst e; rw [hsv]; omega
    · exact hs t (by omega)
  · have hjn : j = n := by omega
    subst hjn
    have hs' : ∀ i, i < j → 0 ≤ s.getD i 0 ∧ s.getD i 0 ≤ 1099511627776 := fun i hi => by
      have := hs (j - 1 - i) (by omega)
      rwa [show j - 1 - (j - 1 - i) = i by omega] at this
    have hline := chain_line hr hn hs'
    have hgrp := chain_groups hr hn hs'
    have hlm : ((List.range j).map fun i : Nat => (⟨rep, (i : Int) + 1⟩ : Dot)).length = j := by simp
    generalize chL s rep j j = l at *
    (repeat (first | (first | (with_reducible (first | refine w1 fun _ _ => ?_ | refine w3 fun _ _ _ => ?_ | refine w4 fun _ _ _ => ?_ | refine w11 fun _ _ _ => ?_ | refine stb_n ?_)) | ((with_reducible refine w2 ?_); try simp -implicitDefEqProofs only [EN, lsub, lget, stL, beq_self_eq_true, ne_eq, if_true, if_false, List.cons_append, List.nil_append, Option.isNone_some, Option.isNone_none, hlt]; intro _ _) | ((with_reducible (first | refine w5 ?_ ?_ | refine w6 ?_ ?_ | refine w7 ?_ ?_)); simp; refine ⟨_, rfl, ?_⟩) | ((with_reducible (first | refine w8 ?_ ?_ ?_ | refine w9 ?_ ?_ ?_ | refine w10 ?_ ?_ ?_)); exact rfl; simp) | ((with_reducible refine w12 ?_ ?_ ?_ fun _ _ => ?_); simp; simp; simp [oneC]) | ((with_reducible (first | refine eqs ?_ | refine nes ?_)); refine ⟨_, rfl, ?_⟩) | ((refine okF_i (bldP_eq rfl) ?_); try simp only [BLS, List.take_succ_cons, List.take_zero, List.drop_succ_cons, List.drop_zero, List.cons_append, List.nil_append, Nat.reduceAdd])) | simp -implicitDefEqProofs only [EN, lsub, lget, stL, beq_self_eq_true, ne_eq, if_true, if_false, List.cons_append, List.nil_append, Option.isNone_some, Option.isNone_none, hlt]))
    refine ordLine0 (l := l) (a := ax) (P7.all 0) h00 (by first | assumption | exact St.tick (by assumption) | exact St.tick (St.tick (by assumption))) (by omega) fun aa ca W5 h => ?_
    rw [hline] at h ⊢
    refine joinK_i ?_
    refine loop_c (σ := Unit) j (fun i _ => [.int .i64 (j : Int), .int .i64 (rep : Int), .slice ax l.length cx, .slice aa ((List.range j).map fun i : Nat => (⟨rep, (i : Int) + 1⟩ : Dot)).length ca, .int .i64 (i : Int)])
      (fun i _ W1 => St W0 [arr DOT T_api_Dot aa ca ((List.range j).map fun i : Nat => (⟨rep, (i : Int) + 1⟩ : Dot)), arr INS T_order_Inst ax cx l] W1) () rfl h ?_
    clear h
    rintro K2 i _ W6 hi h hK2
    simp -implicitDefEqProofs only [EN, lsub, lget, stL, beq_self_eq_true, ne_eq, if_true, if_false, List.cons_append, List.nil_append, Option.isNone_some, Option.isNone_none]
    unfold S.rostrumlaw18_OrderChain.l1
    rw [hlm]
    by_cases hlt2 : (i : Int) < (j : Int)
    · have hib : i < j := by omega
      have ew : IntKind.i64.wrap ((i : Int) + 1) = ((i : Int) + 1) := by rw [i64w]; omega
      (repeat (first | (first | (with_reducible (first | refine w1 fun _ _ => ?_ | refine w3 fun _ _ _ => ?_ | refine w4 fun _ _ _ => ?_ | refine w11 fun _ _ _ => ?_ | refine stb_n ?_)) | ((with_reducible refine w2 ?_); try simp -implicitDefEqProofs only [EN, lsub, lget, stL, beq_self_eq_true, ne_eq, if_true, if_false, List.cons_append, List.nil_append, Option.isNone_some, Option.isNone_none, hlt2]; intro _ _) | ((with_reducible (first | refine w5 ?_ ?_ | refine w6 ?_ ?_ | refine w7 ?_ ?_)); simp; refine ⟨_, rfl, ?_⟩) | ((with_reducible (first | refine w8 ?_ ?_ ?_ | refine w9 ?_ ?_ ?_ | refine w10 ?_ ?_ ?_)); exact rfl; simp) | ((with_reducible refine w12 ?_ ?_ ?_ fun _ _ => ?_); simp; simp; simp [oneC]) | ((with_reducible (first | refine eqs ?_ | refine nes ?_)); refine ⟨_, rfl, ?_⟩) | ((refine okF_i (bldP_eq rfl) ?_); try simp only [BLS, List.take_succ_cons, List.take_zero, List.drop_succ_cons, List.drop_zero, List.cons_append, List.nil_append, Nat.reduceAdd])) | simp -implicitDefEqProofs only [EN, lsub, lget, stL, beq_self_eq_true, ne_eq, if_true, if_false, List.cons_append, List.nil_append, Option.isNone_some, Option.isNone_none, hlt2]))
      refine ixA (i := i) (a := aa) (l := (List.range j).map fun i : Nat => (⟨rep, (i : Int) + 1⟩ : Dot)) (A := DOT) (by first | assumption | exact St.tick (by assumption) | exact St.tick (St.tick (by assumption))) rfl hlm.symm (by omega) fun g1 o1 ha => ?_
      cases ha
      refine ldA0 (i := i) (l := (List.range j).map fun i : Nat => (⟨rep, (i : Int) + 1⟩ : Dot)) (A := DOT) (by first | assumption | exact St.tick (by assumption) | exact St.tick (St.tick (by assumption))) rfl (by omega) (v := .agg #[.int .i64 (rep : Int), .int .i64 ((i : Int) + 1)]) (by simp only [List.getElem_map, List.getElem_range]; rfl) (by simp) ?_
      have f2 : (decide ((rep : Int) = rep) && decide ((i : Int) + 1 = (i : Int) + 1)) = true := by simp
      (repeat (first | (first | (with_reducible (first | refine w1 fun _ _ => ?_ | refine w3 fun _ _ _ => ?_ | refine w4 fun _ _ _ => ?_ | refine w11 fun _ _ _ => ?_ | refine stb_n ?_)) | ((with_reducible refine w2 ?_); try simp -implicitDefEqProofs only [EN, lsub, lget, stL, beq_self_eq_true, ne_eq, if_true, if_false, List.cons_append, List.nil_append, Option.isNone_some, Option.isNone_none, ew, f2]; intro _ _) | ((with_reducible (first | refine w5 ?_ ?_ | refine w6 ?_ ?_ | refine w7 ?_ ?_)); simp; refine ⟨_, rfl, ?_⟩) | ((with_reducible (first | refine w8 ?_ ?_ ?_ | refine w9 ?_ ?_ ?_ | refine w10 ?_ ?_ ?_)); exact rfl; simp) | ((with_reducible refine w12 ?_ ?_ ?_ fun _ _ => ?_); simp; simp; simp [oneC]) | ((with_reducible (first | refine eqs ?_ | refine nes ?_)); refine ⟨_, rfl, ?_⟩) | ((refine okF_i (bldP_eq rfl) ?_); try simp only [BLS, List.take_succ_cons, List.take_zero, List.drop_succ_cons, List.drop_zero, List.cons_append, List.nil_append, Nat.reduceAdd])) | simp -implicitDefEqProofs only [EN, lsub, lget, stL, beq_self_eq_true, ne_eq, if_true, if_false, List.cons_append, List.nil_append, Option.isNone_some, Option.isNone_none, ew, f2]))
      have := hK2 () _ hib h
      rw [hlm, show ((i + 1 : Nat) : Int) = (i : Int) + 1 by omega] at this
      exact this
    · have hij : i = j := by omega
      subst hij
      (repeat (first | (first | (with_reducible (first | refine w1 fun _ _ => ?_ | refine w3 fun _ _ _ => ?_ | refine w4 fun _ _ _ => ?_ | refine w11 fun _ _ _ => ?_ | refine stb_n ?_)) | ((with_reducible refine w2 ?_); try simp -implicitDefEqProofs only [EN, lsub, lget, stL, beq_self_eq_true, ne_eq, if_true, if_false, List.cons_append, List.nil_append, Option.isNone_some, Option.isNone_none, hlt2]; intro _ _) | ((with_reducible (first | refine w5 ?_ ?_ | refine w6 ?_ ?_ | refine w7 ?_ ?_)); simp; refine ⟨_, rfl, ?_⟩) | ((with_reducible (first | refine w8 ?_ ?_ ?_ | refine w9 ?_ ?_ ?_ | refine w10 ?_ ?_ ?_)); exact rfl; simp) | ((with_reducible refine w12 ?_ ?_ ?_ fun _ _ => ?_); simp; simp; simp [oneC]) | ((with_reducible (first | refine eqs ?_ | refine nes ?_)); refine ⟨_, rfl, ?_⟩) | ((refine okF_i (bldP_eq rfl) ?_); try simp only [BLS, List.take_succ_cons, List.take_zero, List.drop_succ_cons, List.drop_zero, List.cons_append, List.nil_append, Nat.reduceAdd])) | simp -implicitDefEqProofs only [EN, lsub, lget, stL, beq_self_eq_true, ne_eq, if_true, if_false, List.cons_append, List.nil_append, Option.isNone_some, Option.isNone_none, hlt2]))
      unfold S.rostrumlaw18_OrderChain.j2
      (repeat (first | (first | (with_reducible (first | refine w1 fun _ _ => ?_ | refine w3 fun _ _ _ => ?_ | refine w4 fun _ _ _ => ?_ | refine w11 fun _ _ _ => ?_ | refine stb_n ?_)) | ((with_reducible refine w2 ?_); try simp -implicitDefEqProofs only [EN, lsub, lget, stL, beq_self_eq_true, ne_eq, if_true, if_false, List.cons_append, List.nil_append, Option.isNone_some, Option.isNone_none]; intro _ _) | ((with_reducible (first | refine w5 ?_ ?_ | refine w6 ?_ ?_ | refine w7 ?_ ?_)); simp; refine ⟨_, rfl, ?_⟩) | ((with_reducible (first | refine w8 ?_ ?_ ?_ | refine w9 ?_ ?_ ?_ | refine w10 ?_ ?_ ?_)); exact rfl; simp) | ((with_reducible refine w12 ?_ ?_ ?_ fun _ _ => ?_); simp; simp; simp [oneC]) | ((with_reducible (first | refine eqs ?_ | refine nes ?_)); refine ⟨_, rfl, ?_⟩) | ((refine okF_i (bldP_eq rfl) ?_); try simp only [BLS, List.take_succ_cons, List.take_zero, List.drop_succ_cons, List.drop_zero, List.cons_append, List.nil_append, Nat.reduceAdd])) | simp -implicitDefEqProofs only [EN, lsub, lget, stL, beq_self_eq_true, ne_eq, if_true, if_false, List.cons_append, List.nil_append, Option.isNone_some, Option.isNone_none]))
      refine ordGroupsTop (l := l) (a := ax) h00 h (by omega) fun ag cg W7 h => ?_
      have d1 : decide (((groupsTop l).length : Int) = (i : Int)) = true := decide_eq_true (by omega)
      (repeat (first | (first | (with_reducible (first | refine w1 fun _ _ => ?_ | refine w3 fun _ _ _ => ?_ | refine w4 fun _ _ _ => ?_ | refine w11 fun _ _ _ => ?_ | refine stb_n ?_)) | ((with_reducible refine w2 ?_); try simp -implicitDefEqProofs only [EN, lsub, lget, stL, beq_self_eq_true, ne_eq, if_true, if_false, List.cons_append, List.nil_append, Option.isNone_some, Option.isNone_none, d1]; intro _ _) | ((with_reducible (first | refine w5 ?_ ?_ | refine w6 ?_ ?_ | refine w7 ?_ ?_)); simp; refine ⟨_, rfl, ?_⟩) | ((with_reducible (first | refine w8 ?_ ?_ ?_ | refine w9 ?_ ?_ ?_ | refine w10 ?_ ?_ ?_)); exact rfl; simp) | ((with_reducible refine w12 ?_ ?_ ?_ fun _ _ => ?_); simp; simp; simp [oneC]) | ((with_reducible (first | refine eqs ?_ | refine nes ?_)); refine ⟨_, rfl, ?_⟩) | ((refine okF_i (bldP_eq rfl) ?_); try simp only [BLS, List.take_succ_cons, List.take_zero, List.drop_succ_cons, List.drop_zero, List.cons_append, List.nil_append, Nat.reduceAdd])) | simp -implicitDefEqProofs only [EN, lsub, lget, stL, beq_self_eq_true, ne_eq, if_true, if_false, List.cons_append, List.nil_append, Option.isNone_some, Option.isNone_none, d1]))
      exact fin _ _ (by first | assumption | exact St.tick (by assumption) | exact St.tick (St.tick (by assumption)))
end Go.Proofs.Ytkjhccpanedccaa
namespace Go.Proofs.Ytkjhccpanedccaa.orderChainDone
set_option linter.unusedVariables false
set_option linter.unusedSimpArgs false
open Go Go.Eng Go.ChangeShapes Go.WideShapes Go.ChangeAt Go.RowKit

theorem own : ownKnob Try.prog.godebug = none := by kernel_rfl
theorem laidOut : laidOutB Try.prog = true := by kernel_rfl

set_option maxRecDepth 100000 in
theorem lifted (os : Os) (started : os.Started) (H : Type) (enc : TypeId × Value → H) :
    ReturnsInHanded {} Try.checked os F_rostrumlaw18_OrderChain .any (Rows.orderChainSpec.pre6 enc Try.prog Try.f5 Rows.orderChainRow.domain false) (Rows.orderChainSpec.post enc Try.prog Try.f5 false true false false) := by
  refine returnsInHanded_of_change (C := Try.checked) own started (by kernel_rfl) S.rostrumlaw18_OrderChain.fn
    (ChangeSpec.witness6 (enc := enc) (C := Try.checked) false ⟨#[], #[(.int .i64 0), (.slice none 0 0), (.int .i64 0)], []⟩ 8 (by kernel_rfl) (by kernel_rfl) (by kernel_rfl) (by kernel_rfl)) ?_
  intro W base args ds gs before hval0 hW hcnd _
  have hval : ∀ (j : Nat) t v, Try.f5.params[j]? = some t → args[j]? = some v → Value.okWide Try.prog W .any base t v := hval0
  have hW' := hW
  obtain ⟨p, q, hA0, hV, rfl, hfz, hnd⟩ := hW
  have hA : DataW.TrodAll enc Try.prog W 0 (fun _ => true) true Try.f5.params.toList args.toList ds p := hA0
  have hpar : Try.f5.params.toList = [T_int, T_s_int64, T_int] := by kernel_rfl
  rw [hpar] at hA
  have hA1 := hA
  obtain ⟨v0, vs0, d0, ds0, p0, q0, hargs, rfl, rfl, h0, r0⟩ := trodAll_cons hA
  obtain ⟨v1, vs1, d1, ds1, p1, q1, rfl, rfl, rfl, h1, r1⟩ := trodAll_cons r0
  obtain ⟨v2, vs2, d2, ds2, p2, q2, rfl, rfl, rfl, h2, r2⟩ := trodAll_cons r1
  obtain ⟨rfl, rfl, rfl⟩ := trodAll_nil r2
  obtain rfl : args = #[v0, v1, v2] := by cases args; simp_all
  obtain ⟨rfl, rfl⟩ := trodVars_none hV
  have g0 : GoodA W [.int .i64] false v0 := open_arg (m := 8) (by kernel_rfl) (by kernel_rfl) (hval 0 T_int v0 (by kernel_rfl) rfl) h0
  have g1 : GoodA W [.sl [.int .i64]] false v1 := open_arg (m := 8) (by kernel_rfl) (by kernel_rfl) (hval 1 T_s_int64 v1 (by kernel_rfl) rfl) h1
  have g2 : GoodA W [.int .i64] false v2 := open_arg (m := 8) (by kernel_rfl) (by kernel_rfl) (hval 2 T_int v2 (by kernel_rfl) rfl) h2
  clear hA0 hval0
  have hc : Calls Try.prog F_rostrumlaw18_OrderChain #[v0, v1, v2] W fun e W' => e = .returned (.bool true) ∧ Below W.heap.size W W' :=
    Calls.mono (orderChain_walk g0 g1 g2) fun e W' h => by
      cases e <;> first | exact ⟨by rw [h.1], h.2.below⟩ | exact h.elim
  refine hc.mono fun e W' ⟨he, bel⟩ => ?_
  subst he
  exact ⟨_, rfl, _, _, _, [], _, [], hW', trodAll_mk1 (shut_bool (t := T_bool) (by kernel_rfl) _), keep_all laidOut (by kernel_rfl) hA1 bel, rfl, bel.frame _, fun h => by cases h⟩

theorem proved : Rows.OrderChainSaid :=
  OpenClaim.holds_of_wide F_rostrumlaw18_OrderChain Try.f5 rfl rfl rfl rfl rfl rfl rfl ⟨rfl, rfl, rfl, rfl, rfl⟩ rfl rfl rfl rfl rfl (by kernel_rfl) S.rostrumlaw18_OrderChain.fn (by kernel_rfl)
    (of_decide_eq_true (by kernel_rfl)) (by unfold Func.isWrapper; first | (rw [if_pos (by decide +kernel)]; kernel_rfl) | (rw [if_neg (by decide +kernel)]; exact ⟨rfl, rfl⟩))
    (fun os started H enc _ => lifted os started H enc)
end Go.Proofs.Ytkjhccpanedccaa.orderChainDone
