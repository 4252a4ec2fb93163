/- 'OrderAll' holds. Printed by an own tool (wip/tools/law.py), after the kit's shell. -/
import Derived.Test.YtkjhccpanedccaaBOrderAll9
import Derived.Test.YtkjhccpanedccaaRows
import Derived.WalkKit
import Derived.ProofKit
namespace Go.Proofs.Ytkjhccpanedccaa
set_option linter.unusedVariables false
set_option linter.unusedSimpArgs false
open Go Go.Eng Go.Tar Go.Sort Go.RowKit
section
variable {l m : List Ins} {x y : Ins} {d : Dot}
theorem depsL_mem : d ∈ depsL x ↔ (0 ≤ d.rep ∧ d.rep < 7) ∧ (1 ≤ d.n ∧ d.n ≤ x.v.get d.rep.toNat) ∧ d ≠ x.d := by
  unfold depsL depsR
  simp only [List.mem_flatMap, List.mem_range, List.mem_filter, List.mem_map, Bool.not_eq_true', decide_eq_false_iff_not]
  constructor
  · rintro ⟨r, hr, ⟨k, hk, rfl⟩, hne⟩
    refine ⟨⟨by simp only; omega, by simp only; omega⟩, ⟨by simp only; omega, ?_⟩, hne⟩
    simp only [Int.toNat_natCast]; omega
  · rintro ⟨⟨h1, h2⟩, ⟨h3, h4⟩, h5⟩
    obtain ⟨r, n⟩ := d
    simp only at h1 h2 h3 h4
    refine ⟨r.toNat, by omega, ⟨(n - 1).toNat, by omega, ?_⟩, h5⟩
    rw [Dot.mk.injEq]
    constructor <;> omega
theorem insOne_dot (h : insOne x = true) : (0 ≤ x.d.rep ∧ x.d.rep < 7) ∧ 1 ≤ x.d.n ∧ x.d.n ≤ 1000 := by
  unfold insOne dotO at h
  simp only [Bool.and_eq_true, decide_eq_true_eq] at h
  exact ⟨⟨h.1.1.1.1.1, h.1.1.1.1.2⟩, h.1.1.1.2, h.1.1.2⟩
def q0 : Dot → Bool := isO (P7.all 0) []
theorem q0_no (h : 1 ≤ d.n) : q0 d = false := by
  unfold q0 isO
  rw [P7.get_all, decide_eq_false (by omega)]; simp
theorem q0_deps (h : d ∈ depsL x) : q0 d = false := q0_no (depsL_mem.1 h).2.1.1
theorem q0_good (hg : goodO l = true) : ∀ y ∈ l, q0 y.d = false := fun y hy => q0_no (insOne_dot ((goodO_iff.1 hg).1 y hy).1).2.1
theorem q0_all (hg : goodO l = true) : (l.filter fun x => !q0 x.d) = l := by
  rw [List.filter_eq_self]
  intro y hy
  rw [q0_good hg y hy]; rfl
theorem good_sub (hg : goodO l = true) (hs : m.Sublist l) : goodO m = true := by
  obtain ⟨h1, h2, h3⟩ := goodO_iff.1 hg
  exact goodO_iff.2 ⟨fun x hx => h1 x (hs.mem hx), h2.sublist (hs.map _), Nat.le_trans hs.length_le h3⟩
/-- the line of what is done nowhere -/
theorem line0_eq (hg : goodO l = true) : lineTop (P7.all 0) [] l = (lineK (keptO q0 l)).map (·.d) := by
  unfold lineTop
  rw [if_pos hg, show isO (P7.all 0) [] = q0 from rfl, lineO_eq, q0_all hg]
theorem kept0_closed (hx : x ∈ keptO q0 l) (hd : d ∈ depsL x) : ∃ y ∈ keptO q0 l, y.d = d := by
  rcases kept_closed hx hd with h | h
  · rw [q0_deps hd] at h; cases h
  · exact h
theorem kept0_mono (hn : (l.map (·.d)).Nodup) (hg : goodO l = true) (hs : ∀ x ∈ m, x ∈ l) : ∀ x ∈ keptO q0 m, x ∈ keptO q0 l := fun x hx =>
  kept_great (C := fun x => x ∈ keptO q0 m) hn (q0_good hg) (fun x hx => hs x (kept_mem.1 hx).1) (fun x hx d hd => .inr (kept0_closed hx hd)) hx
theorem line0_len (done : P7 Int) (also : List Dot) (l : List Ins) : (lineTop done also l).length ≤ l.length := by
  unfold lineTop
  split
  · rw [lineO_eq, List.length_map]
    unfold lineK lineS
    rw [List.length_map]
    refine Nat.le_trans (lineF_len (onL_ok _)) ?_
    rw [sortO_len]
    have h1 := (kept_sub (q := isO done also) (l := l.filter fun x => !isO done also x.d)).length_le
    rw [sortO_len] at h1
    exact Nat.le_trans h1 (List.length_filter_le _ _)
  · simp
theorem line0_prefix (hg : goodO l = true) (hgm : goodO m = true) (hs : ∀ x ∈ m, x ∈ l) (hT : ∀ x ∈ l, ∀ y ∈ l, x ≠ y → x.d ∈ depsL y ∨ y.d ∈ depsL x) :
    lineTop (P7.all 0) [] m = (lineTop (P7.all 0) [] l).take (lineTop (P7.all 0) [] m).length := by
  have hn := (goodO_iff.1 hg).2.1
  have hnm := (goodO_iff.1 hgm).2.1
  rw [line0_eq hg, line0_eq hgm, List.length_map, ← List.map_take]
  congr 1
  exact line_prefix (kept_nodup hn) (kept_nodup hnm) (kept0_mono hn hg hs) (fun x hx d hd => kept0_closed hx hd) fun x hx y hy hne => hT x (kept_mem.1 hx).1 y (kept_mem.1 hy).1 hne
/-- they hang together -/
def tog (x y : Ins) : Bool := !(decide (x.v.get y.d.rep.toNat < y.d.n) && decide (y.v.get x.d.rep.toNat < x.d.n))
theorem tog_deps (hx : insOne x = true) (hy : insOne y = true) (hne : x.d ≠ y.d) (h : tog x y = true) : x.d ∈ depsL y ∨ y.d ∈ depsL x := by
  have h1 := insOne_dot hx
  have h2 := insOne_dot hy
  unfold tog at h
  rw [Bool.not_eq_true', Bool.and_eq_false_iff, decide_eq_false_iff_not, decide_eq_false_iff_not] at h
  rcases h with h | h
  · exact .inr (depsL_mem.2 ⟨h2.1, ⟨h2.2.1, by omega⟩, fun e => hne e.symm⟩)
  · exact .inl (depsL_mem.2 ⟨h1.1, ⟨h1.2.1, by omega⟩, hne⟩)
theorem tog_all (hg : goodO l = true) (hT : ∀ i (hi : i < l.length) k (hk : k < i), tog l[i] l[k] = true) : ∀ x ∈ l, ∀ y ∈ l, x ≠ y → x.d ∈ depsL y ∨ y.d ∈ depsL x := by
  obtain ⟨h1, h2, _⟩ := goodO_iff.1 hg
  intro x hx y hy hne
  obtain ⟨i, hi, rfl⟩ := List.getElem_of_mem hx
  obtain ⟨k, hk, rfl⟩ := List.getElem_of_mem hy
  have hd : l[i].d ≠ l[k].d := fun e => hne (by have := at_inj h2 hi hk e; subst this; rfl)
  rcases Nat.lt_trichotomy i k with h | h | h
  · exact (tog_deps (h1 _ (List.getElem_mem hk)).1 (h1 _ (List.getElem_mem hi)).1 (fun e => hd e.symm) (hT k hk i h)).symm
  · subst h; exact absurd rfl hne
  · exact tog_deps (h1 _ (List.getElem_mem hi)).1 (h1 _ (List.getElem_mem hk)).1 hd (hT i hi k h)
/-- those that are taken -/
def takeM (l : List Ins) (s : List Bool) (i : Nat) : List Ins := ((l.zipIdx.take i).filter fun x => s.getD x.2 false).map (·.1)
theorem takeM_succ (s : List Bool) {i : Nat} (hi : i < l.length) : takeM l s (i + 1) = if s.getD i false = true then takeM l s i ++ [l[i]] else takeM l s i := by
  unfold takeM
  rw [List.take_succ_eq_append_getElem (by simpa using hi), List.filter_append, List.map_append]
  by_cases h : s.getD i false = true
  · rw [if_pos h]; simp at h; simp [h]
  · rw [if_neg h]; simp at h; simp [h]
theorem takeM_sub (l : List Ins) (s : List Bool) (i : Nat) : (takeM l s i).Sublist l := by
  have h1 : ((l.zipIdx.take i).filter fun x => s.getD x.2 false).Sublist l.zipIdx := List.filter_sublist.trans (List.take_sublist _ _)
  have h2 := h1.map (·.1)
  have h3 : l.zipIdx.map (·.1) = l := by apply List.ext_getElem <;> simp
  rw [h3] at h2
  exact h2
end
theorem openBools {W : World} {v : Value} (h : GoodA W [.sl [.bool]] false v) : ∃ (a : Option Addr) (c : Nat) (l : List Bool), v = .slice a l.length c ∧ l.length ≤ c ∧ c ≤ maxLen ∧ Rd W [] a BOO l := by
  obtain ⟨a, c, l, h1, h2, h3, h4, _⟩ := openArr BOO (fun _ => True) h.one rfl (fun vs h => by
    obtain ⟨_, _, rfl, h1, h⟩ := h.cons'
    obtain rfl := h.nil'
    obtain ⟨b, rfl⟩ := h1.bool'
    exact ⟨b, rfl, trivial⟩)
  exact ⟨a, c, l, h1, h2, h3, h4⟩
set_option maxRecDepth 100000 in
set_option maxHeartbeats 8000000 in
theorem orderAll_walk {W : World} {v0 v1 : Value} (h0 : GoodA W [.sl ClI] false v0) (h1 : GoodA W [.sl [.bool]] false v1) : callK PR F_rostrumlaw18_OrderAll [v0, v1] (fun v W' => v = .bool true ∧ Lo W W') W := by
  obtain ⟨la, lc, l, rfl, hlc, hlm, hrd, -⟩ := openInss (goodAz h0)
  obtain ⟨sa, sc, s, rfl, hsc, hsm, hrs⟩ := openBools (goodAz h1)
  apply S.rostrumlaw18_OrderAll.call
  unfold S.rostrumlaw18_OrderAll.body
  have h00 : ({ W with drawn := 0 } : World).drawn = 0 := rfl
  have fin : ∀ (W' : World) (L : List Asn), St { W with drawn := 0 } L W' → Lo W W' := fun W' L h => St.lo h
  refine lawAwake h00 (St.startz W) fun W1 h => ?_
  generalize ({ W with drawn := 0 } : World) = W0 at *
  by_cases c1 : (20 : Int) < (l.length : Int)
  · (repeat (first | (first | (with_reducible (first | refine w1 fun _ _ => ?_ | refine w3 fun _ _ _ => ?_ | refine w4 fun _ _ _ => ?_ | refine w11 fun _ _ _ => ?_ | refine stb_n ?_)) | ((with_reducible refine w2 ?_); try simp -implicitDefEqProofs only [EN, lsub, lget, stL, beq_self_eq_true, ne_eq, if_true, if_false, List.cons_append, List.nil_append, Option.isNone_some, Option.isNone_none, c1]; intro _ _) | ((with_reducible (first | refine w5 ?_ ?_ | refine w6 ?_ ?_ | refine w7 ?_ ?_)); simp; refine ⟨_, rfl, ?_⟩) | ((with_reducible (first | refine w8 ?_ ?_ ?_ | refine w9 ?_ ?_ ?_ | refine w10 ?_ ?_ ?_)); exact rfl; simp) | ((with_reducible refine w12 ?_ ?_ ?_ fun _ _ => ?_); simp; simp; simp [oneC]) | ((with_reducible (first | refine eqs ?_ | refine nes ?_)); refine ⟨_, rfl, ?_⟩) | ((refine okF_i (bldP_eq rfl) ?_); try simp only [BLS, List.take_succ_cons, List.take_zero, List.drop_succ_cons, List.drop_zero, List.cons_append, List.nil_append, Nat.reduceAdd])) | simp -implicitDefEqProofs only [EN, lsub, lget, stL, beq_self_eq_true, ne_eq, if_true, if_false, List.cons_append, List.nil_append, Option.isNone_some, Option.isNone_none, c1]))
    exact fin _ _ (by first | assumption | exact St.tick (by assumption) | exact St.tick (St.tick (by assumption)))
  by_cases c2 : (s.length : Int) < (l.length : Int)
  · (repeat (first | (first | (with_reducible (first | refine w1 fun _ _ => ?_ | refine w3 fun _ _ _ => ?_ | refine w4 fun _ _ _ => ?_ | refine w11 fun _ _ _ => ?_ | refine stb_n ?_)) | ((with_reducible refine w2 ?_); try simp -implicitDefEqProofs only [EN, lsub, lget, stL, beq_self_eq_true, ne_eq, if_true, if_false, List.cons_append, List.nil_append, Option.isNone_some, Option.isNone_none, c1, c2]; intro _ _) | ((with_reducible (first | refine w5 ?_ ?_ | refine w6 ?_ ?_ | refine w7 ?_ ?_)); simp; refine ⟨_, rfl, ?_⟩) | ((with_reducible (first | refine w8 ?_ ?_ ?_ | refine w9 ?_ ?_ ?_ | refine w10 ?_ ?_ ?_)); exact rfl; simp) | ((with_reducible refine w12 ?_ ?_ ?_ fun _ _ => ?_); simp; simp; simp [oneC]) | ((with_reducible (first | refine eqs ?_ | refine nes ?_)); refine ⟨_, rfl, ?_⟩) | ((refine okF_i (bldP_eq rfl) ?_); try simp only [BLS, List.take_succ_cons, List.take_zero, List.drop_succ_cons, List.drop_zero, List.cons_append, List.nil_append, Nat.reduceAdd])) | simp -implicitDefEqProofs only [EN, lsub, lget, stL, beq_self_eq_true, ne_eq, if_true, if_false, List.cons_append, List.nil_append, Option.isNone_some, Option.isNone_none, c1, c2]))
    exact fin _ _ (by first | assumption | exact St.tick (by assumption) | exact St.tick (St.tick (by assumption)))
  (repeat (first | (first | (with_reducible (first | refine w1 fun _ _ => ?_ | refine w3 fun _ _ _ => ?_ | refine w4 fun _ _ _ => ?_ | refine w11 fun _ _ _ => ?_ | refine stb_n ?_)) | ((with_reducible refine w2 ?_); try simp -implicitDefEqProofs only [EN, lsub, lget, stL, beq_self_eq_true, ne_eq, if_true, if_false, List.cons_append, List.nil_append, Option.isNone_some, Option.isNone_none, c1, c2]; intro _ _) | ((with_reducible (first | refine w5 ?_ ?_ | refine w6 ?_ ?_ | refine w7 ?_ ?_)); simp; refine ⟨_, rfl, ?_⟩) | ((with_reducible (first | refine w8 ?_ ?_ ?_ | refine w9 ?_ ?_ ?_ | refine w10 ?_ ?_ ?_)); exact rfl; simp) | ((with_reducible refine w12 ?_ ?_ ?_ fun _ _ => ?_); simp; simp; simp [oneC]) | ((with_reducible (first | refine eqs ?_ | refine nes ?_)); refine ⟨_, rfl, ?_⟩) | ((refine okF_i (bldP_eq rfl) ?_); try simp only [BLS, List.take_succ_cons, List.take_zero, List.drop_succ_cons, List.drop_zero, List.cons_append, List.nil_append, Nat.reduceAdd])) | simp -implicitDefEqProofs only [EN, lsub, lget, stL, beq_self_eq_true, ne_eq, if_true, if_false, List.cons_append, List.nil_append, Option.isNone_some, Option.isNone_none, c1, c2]))
  refine ordGood (a := la) (l := l) (by first | assumption | exact St.tick (by assumption) | exact St.tick (St.tick (by assumption))) (by omega) fun W2 h => ?_
  cases hg : goodO l with
  | false =>
    (repeat (first | (first | (with_reducible (first | refine w1 fun _ _ => ?_ | refine w3 fun _ _ _ => ?_ | refine w4 fun _ _ _ => ?_ | refine w11 fun _ _ _ => ?_ | refine stb_n ?_)) | ((with_reducible refine w2 ?_); try simp -implicitDefEqProofs only [EN, lsub, lget, stL, beq_self_eq_true, ne_eq, if_true, if_false, List.cons_append, List.nil_append, Option.isNone_some, Option.isNone_none]; intro _ _) | ((with_reducible (first | refine w5 ?_ ?_ | refine w6 ?_ ?_ | refine w7 ?_ ?_)); simp; refine ⟨_, rfl, ?_⟩) | ((with_reducible (first | refine w8 ?_ ?_ ?_ | refine w9 ?_ ?_ ?_ | refine w10 ?_ ?_ ?_)); exact rfl; simp) | ((with_reducible refine w12 ?_ ?_ ?_ fun _ _ => ?_); simp; simp; simp [oneC]) | ((with_reducible (first | refine eqs ?_ | refine nes ?_)); refine ⟨_, rfl, ?_⟩) | ((refine okF_i (bldP_eq rfl) ?_); try simp only [BLS, List.take_succ_cons, List.take_zero, List.drop_succ_cons, List.drop_zero, List.cons_append, List.nil_append, Nat.reduceAdd])) | simp -implicitDefEqProofs only [EN, lsub, lget, stL, beq_self_eq_true, ne_eq, if_true, if_false, List.cons_append, List.nil_append, Option.isNone_some, Option.isNone_none]))
    exact fin _ _ (by first | assumption | exact St.tick (by assumption) | exact St.tick (St.tick (by assumption)))
  | true =>
  (repeat (first | (first | (with_reducible (first | refine w1 fun _ _ => ?_ | refine w3 fun _ _ _ => ?_ | refine w4 fun _ _ _ => ?_ | refine w11 fun _ _ _ => ?_ | refine stb_n ?_)) | ((with_reducible refine w2 ?_); try simp -implicitDefEqProofs only [EN, lsub, lget, stL, beq_self_eq_true, ne_eq, if_true, if_false, List.cons_append, List.nil_append, Option.isNone_some, Option.isNone_none]; intro _ _) | ((with_reducible (first | refine w5 ?_ ?_ | refine w6 ?_ ?_ | refine w7 ?_ ?_)); simp; refine ⟨_, rfl, ?_⟩) | ((with_reducible (first | refine w8 ?_ ?_ ?_ | refine w9 ?_ ?_ ?_ | refine w10 ?_ ?_ ?_)); exact rfl; simp) | ((with_reducible refine w12 ?_ ?_ ?_ fun _ _ => ?_); simp; simp; simp [oneC]) | ((with_reducible (first | refine eqs ?_ | refine nes ?_)); refine ⟨_, rfl, ?_⟩) | ((refine okF_i (bldP_eq rfl) ?_); try simp only [BLS, List.take_succ_cons, List.take_zero, List.drop_succ_cons, List.drop_zero, List.cons_append, List.nil_append, Nat.reduceAdd])) | simp -implicitDefEqProofs only [EN, lsub, lget, stL, beq_self_eq_true, ne_eq, if_true, if_false, List.cons_append, List.nil_append, Option.isNone_some, Option.isNone_none]))
  have hl20 : l.length ≤ 20 := by omega
  have hsl : l.length ≤ s.length := by omega
  obtain ⟨hg1, hg2, hg3⟩ := goodO_iff.1 hg
  refine joinK_i ?_
  have h := h.ent (arr_nil INS T_order_Inst)
  refine loop_c (σ := Option Addr × Nat) l.length (fun i x => [.slice la l.length lc, .slice sa s.length sc, .slice x.1 (takeM l s i).length x.2, .int .i64 (i : Int)])
    (fun i x W1 => (∀ j (hj : j < l.length), j < i → ∀ k (hk : k < j), tog l[j] l[k] = true) ∧ St W0 [arr INS T_order_Inst x.1 x.2 (takeM l s i)] W1) (none, 0) rfl ⟨fun _ _ h => by omega, h⟩ ?_
  clear h
  rintro K i ⟨ax, cx⟩ W3 hi ⟨hT, h⟩ hK
  simp only at h
  simp -implicitDefEqProofs only [EN, lsub, lget, stL, beq_self_eq_true, ne_eq, if_true, if_false, List.cons_append, List.nil_append, Option.isNone_some, Option.isNone_none]
  unfold S.rostrumlaw18_OrderAll.l1
  have hml := (takeM_sub l s i).length_le
  by_cases hlt : (i : Int) < (l.length : Int)
  · have hib : i < l.length := by omega
    have ew : IntKind.i64.wrap ((i : Int) + 1) = ((i + 1 : Nat) : Int) := by rw [i64w]; omega
    have hts := takeM_succ (l := l) s hib
    obtain ⟨gl, ol, e1⟩ := posAddr (i := i) (a := la) (A := INS) (l := l) (St.start W0) hib
    obtain ⟨gs, os, e2⟩ := posAddr (i := i) (a := sa) (A := BOO) (l := s) (St.start W0) (by omega)
    subst e1 e2
    have ei : ∀ i : Nat, i < l.length → idxS 10 (.slice (some ⟨gl, ol, none⟩) l.length lc) (.int .i64 (i : Int)) = some (.pointer (some ⟨gl, ol + i * 10, none⟩)) := fun i hi => by rw [idxS_blk (by omega) (by omega), Int.toNat_natCast]
    have hrow : ∀ i (hi : i < l.length), ro W0 gl (ol + i * 10) [.int .i64 (l[i].d).rep, .int .i64 (l[i].d).n, .int .i64 l[i].s, .int .i64 (l[i].v).x0, .int .i64 (l[i].v).x1, .int .i64 (l[i].v).x2, .int .i64 (l[i].v).x3, .int .i64 (l[i].v).x4, .int .i64 (l[i].v).x5, .int .i64 (l[i].v).x6] := fun i hi => Rd.row (A := INS) (l := l) (St.start W0) hi
    have eii := ei i hib
    have hri := hrow i hib
    have hdi := insOne_dot (hg1 l[i] (List.getElem_mem hib)).1
    have hst : ix2 (n := s.length) (i := i) (by omega) gs os sc = ix2 (n := s.length) (i := i) (by omega) gs os sc := rfl
    have eis := ix2 (n := s.length) (i := i) (by omega) gs os sc
    clear hst
    have gv : ∀ (x : Ins) (r : Int), 0 ≤ r → r < 7 → getL false [.int .i64 x.d.rep, .int .i64 x.d.n, .int .i64 x.s, .int .i64 x.v.x0, .int .i64 x.v.x1, .int .i64 x.v.x2, .int .i64 x.v.x3, .int .i64 x.v.x4, .int .i64 x.v.x5, .int .i64 x.v.x6] (3 + r.toNat) 1 = some (.int .i64 (x.v.get r.toNat)) := fun x r h1 h2 => by
      rcases P7.cases7 (show r.toNat < 7 by omega) with h | h | h | h | h | h | h <;> rw [h] <;> rfl
    have eA : ∀ (i : Nat) (r : Int), 0 ≤ r → r < 7 → idxA 7 1 (.pointer (some ⟨gl, ol + i * 10 + 3, none⟩)) (.int .i64 r) = some (.pointer (some ⟨gl, ol + i * 10 + (3 + r.toNat), none⟩)) := fun i r h1 h2 => by
      rw [idxA_blk h1 (by omega), Nat.mul_one, Nat.add_assoc]
    (repeat (first | (first | (with_reducible (first | refine w1 fun _ _ => ?_ | refine w3 fun _ _ _ => ?_ | refine w4 fun _ _ _ => ?_ | refine w11 fun _ _ _ => ?_ | refine stb_n ?_)) | ((with_reducible refine w2 ?_); try simp -implicitDefEqProofs only [EN, lsub, lget, stL, beq_self_eq_true, ne_eq, if_true, if_false, List.cons_append, List.nil_append, Option.isNone_some, Option.isNone_none, hlt]; intro _ _) | ((with_reducible (first | refine w5 ?_ ?_ | refine w6 ?_ ?_ | refine w7 ?_ ?_)); simp; refine ⟨_, rfl, ?_⟩) | ((with_reducible (first | refine w8 ?_ ?_ ?_ | refine w9 ?_ ?_ ?_ | refine w10 ?_ ?_ ?_)); exact rfl; simp) | ((with_reducible refine w12 ?_ ?_ ?_ fun _ _ => ?_); simp; simp; simp [oneC]) | ((with_reducible (first | refine eqs ?_ | refine nes ?_)); refine ⟨_, rfl, ?_⟩) | ((refine okF_i (bldP_eq rfl) ?_); try simp only [BLS, List.take_succ_cons, List.take_zero, List.drop_succ_cons, List.drop_zero, List.cons_append, List.nil_append, Nat.reduceAdd])) | simp -implicitDefEqProofs only [EN, lsub, lget, stL, beq_self_eq_true, ne_eq, if_true, if_false, List.cons_append, List.nil_append, Option.isNone_some, Option.isNone_none, hlt]))
    refine joinK_i ?_
    refine joinK_i ?_
    refine loop_c (σ := Unit) i (fun k _ => [.slice (some ⟨gl, ol, none⟩) l.length lc, .slice (some ⟨gs, os, none⟩) s.length sc, .slice ax (takeM l s i).length cx, .int .i64 (i : Int), .int .i64 (k : Int)])
      (fun k _ W1 => (∀ j (hj : j < i), j < k → tog l[i] l[j] = true) ∧ St W0 [arr INS T_order_Inst ax cx (takeM l s i)] W1) () rfl ⟨fun _ _ h => by omega, h⟩ ?_
    clear h
    rintro K2 k _ W4 hk ⟨hT2, h⟩ hK2
    simp -implicitDefEqProofs only [EN, lsub, lget, stL, beq_self_eq_true, ne_eq, if_true, if_false, List.cons_append, List.nil_append, Option.isNone_some, Option.isNone_none]
    unfold S.rostrumlaw18_OrderAll.l2
    by_cases hlt2 : (k : Int) < (i : Int)
    · have hkb : k < l.length := by omega
      have hki : k < i := by omega
      have ew2 : IntKind.i64.wrap ((k : Int) + 1) = ((k + 1 : Nat) : Int) := by rw [i64w]; omega
      have eik := ei k hkb
      have hrk := hrow k hkb
      have hdk := insOne_dot (hg1 l[k] (List.getElem_mem hkb)).1
      have htg : tog l[i] l[k] = !(decide (l[i].v.get l[k].d.rep.toNat < l[k].d.n) && decide (l[k].v.get l[i].d.rep.toNat < l[i].d.n)) := rfl
      have gi := gv l[i] l[k].d.rep hdk.1.1 hdk.1.2
      have gk := gv l[k] l[i].d.rep hdi.1.1 hdi.1.2
      have ai := eA i l[k].d.rep hdk.1.1 hdk.1.2
      have ak := eA k l[i].d.rep hdi.1.1 hdi.1.2
      generalize l[i] = x at *
      generalize hy : l[k] = y at *
      (repeat (first | (first | (with_reducible (first | refine w1 fun _ _ => ?_ | refine w3 fun _ _ _ => ?_ | refine w4 fun _ _ _ => ?_ | refine w11 fun _ _ _ => ?_ | refine stb_n ?_)) | ((with_reducible refine w2 ?_); try simp -implicitDefEqProofs only [EN, lsub, lget, stL, beq_self_eq_true, ne_eq, if_true, if_false, List.cons_append, List.nil_append, Option.isNone_some, Option.isNone_none, hlt2, eik, eii, ai]; intro _ _) | ((with_reducible (first | refine w5 ?_ ?_ | refine w6 ?_ ?_ | refine w7 ?_ ?_)); simp; refine ⟨_, rfl, ?_⟩) | ((with_reducible (first | refine w8 ?_ ?_ ?_ | refine w9 ?_ ?_ ?_ | refine w10 ?_ ?_ ?_)); exact rfl; simp) | ((with_reducible refine w12 ?_ ?_ ?_ fun _ _ => ?_); simp; simp; simp [oneC]) | ((with_reducible (first | refine eqs ?_ | refine nes ?_)); refine ⟨_, rfl, ?_⟩) | ((refine okF_i (bldP_eq rfl) ?_); try simp only [BLS, List.take_succ_cons, List.take_zero, List.drop_succ_cons, List.drop_zero, List.cons_append, List.nil_append, Nat.reduceAdd])) | simp -implicitDefEqProofs only [EN, lsub, lget, stL, beq_self_eq_true, ne_eq, if_true, if_false, List.cons_append, List.nil_append, Option.isNone_some, Option.isNone_none, hlt2, eik, eii, ai]))
      refine w7 (by simp) ⟨_, gi, ?_⟩
      (repeat (first | (first | (with_reducible (first | refine w1 fun _ _ => ?_ | refine w3 fun _ _ _ => ?_ | refine w4 fun _ _ _ => ?_ | refine w11 fun _ _ _ => ?_ | refine stb_n ?_)) | ((with_reducible refine w2 ?_); try simp -implicitDefEqProofs only [EN, lsub, lget, stL, beq_self_eq_true, ne_eq, if_true, if_false, List.cons_append, List.nil_append, Option.isNone_some, Option.isNone_none, eik]; intro _ _) | ((with_reducible (first | refine w5 ?_ ?_ | refine w6 ?_ ?_ | refine w7 ?_ ?_)); simp; refine ⟨_, rfl, ?_⟩) | ((with_reducible (first | refine w8 ?_ ?_ ?_ | refine w9 ?_ ?_ ?_ | refine w10 ?_ ?_ ?_)); exact rfl; simp) | ((with_reducible refine w12 ?_ ?_ ?_ fun _ _ => ?_); simp; simp; simp [oneC]) | ((with_reducible (first | refine eqs ?_ | refine nes ?_)); refine ⟨_, rfl, ?_⟩) | ((refine okF_i (bldP_eq rfl) ?_); try simp only [BLS, List.take_succ_cons, List.take_zero, List.drop_succ_cons, List.drop_zero, List.cons_append, List.nil_append, Nat.reduceAdd])) | simp -implicitDefEqProofs only [EN, lsub, lget, stL, beq_self_eq_true, ne_eq, if_true, if_false, List.cons_append, List.nil_append, Option.isNone_some, Option.isNone_none, eik]))
      by_cases c3 : x.v.get y.d.rep.toNat < y.d.n
      · (repeat (first | (first | (with_reducible (first | refine w1 fun _ _ => ?_ | refine w3 fun _ _ _ => ?_ | refine w4 fun _ _ _ => ?_ | refine w11 fun _ _ _ => ?_ | refine stb_n ?_)) | ((with_reducible refine w2 ?_); try simp -implicitDefEqProofs only [EN, lsub, lget, stL, beq_self_eq_true, ne_eq, if_true, if_false, List.cons_append, List.nil_append, Option.isNone_some, Option.isNone_none, c3, eik, eii, ak]; intro _ _) | ((with_reducible (first | refine w5 ?_ ?_ | refine w6 ?_ ?_ | refine w7 ?_ ?_)); simp; refine ⟨_, rfl, ?_⟩) | ((with_reducible (first | refine w8 ?_ ?_ ?_ | refine w9 ?_ ?_ ?_ | refine w10 ?_ ?_ ?_)); exact rfl; simp) | ((with_reducible refine w12 ?_ ?_ ?_ fun _ _ => ?_); simp; simp; simp [oneC]) | ((with_reducible (first | refine eqs ?_ | refine nes ?_)); refine ⟨_, rfl, ?_⟩) | ((refine okF_i (bldP_eq rfl) ?_); try simp only [BLS, List.take_succ_cons, List.take_zero, List.drop_succ_cons, List.drop_zero, List.cons_append, List.nil_append, Nat.reduceAdd])) | simp -implicitDefEqProofs only [EN, lsub, lget, stL, beq_self_eq_true, ne_eq, if_true, if_false, List.cons_append, List.nil_append, Option.isNone_some, Option.isNone_none, c3, eik, eii, ak]))
        refine w7 (by simp) ⟨_, gk, ?_⟩
        (repeat (first | (first | (with_reducible (first | refine w1 fun _ _ => ?_ | refine w3 fun _ _ _ => ?_ | refine w4 fun _ _ _ => ?_ | refine w11 fun _ _ _ => ?_ | refine stb_n ?_)) | ((with_reducible refine w2 ?_); try simp -implicitDefEqProofs only [EN, lsub, lget, stL, beq_self_eq_true, ne_eq, if_true, if_false, List.cons_append, List.nil_append, Option.isNone_some, Option.isNone_none, eik, eii]; intro _ _) | ((with_reducible (first | refine w5 ?_ ?_ | refine w6 ?_ ?_ | refine w7 ?_ ?_)); simp; refine ⟨_, rfl, ?_⟩) | ((with_reducible (first | refine w8 ?_ ?_ ?_ | refine w9 ?_ ?_ ?_ | refine w10 ?_ ?_ ?_)); exact rfl; simp) | ((with_reducible refine w12 ?_ ?_ ?_ fun _ _ => ?_); simp; simp; simp [oneC]) | ((with_reducible (first | refine eqs ?_ | refine nes ?_)); refine ⟨_, rfl, ?_⟩) | ((refine okF_i (bldP_eq rfl) ?_); try simp only [BLS, List.take_succ_cons, List.take_zero, List.drop_succ_cons, List.drop_zero, List.cons_append, List.nil_append, Nat.reduceAdd])) | simp -implicitDefEqProofs only [EN, lsub, lget, stL, beq_self_eq_true, ne_eq, if_true, if_false, List.cons_append, List.nil_append, Option.isNone_some, Option.isNone_none, eik, eii]))
        by_cases c4 : y.v.get x.d.rep.toNat < x.d.n
        · (repeat (first | (first | (with_reducible (first | refine w1 fun _ _ => ?_ | refine w3 fun _ _ _ => ?_ | refine w4 fun _ _ _ => ?_ | refine w11 fun _ _ _ => ?_ | refine stb_n ?_)) | ((with_reducible refine w2 ?_); try simp -implicitDefEqProofs only [EN, lsub, lget, stL, beq_self_eq_true, ne_eq, if_true, if_false, List.cons_append, List.nil_append, Option.isNone_some, Option.isNone_none, c4]; intro _ _) | ((with_reducible (first | refine w5 ?_ ?_ | refine w6 ?_ ?_ | refine w7 ?_ ?_)); simp; refine ⟨_, rfl, ?_⟩) | ((with_reducible (first | refine w8 ?_ ?_ ?_ | refine w9 ?_ ?_ ?_ | refine w10 ?_ ?_ ?_)); exact rfl; simp) | ((with_reducible refine w12 ?_ ?_ ?_ fun _ _ => ?_); simp; simp; simp [oneC]) | ((with_reducible (first | refine eqs ?_ | refine nes ?_)); refine ⟨_, rfl, ?_⟩) | ((refine okF_i (bldP_eq rfl) ?_); try simp only [BLS, List.take_succ_cons, List.take_zero, List.drop_succ_cons, List.drop_zero, List.cons_append, List.nil_append, Nat.reduceAdd])) | simp -implicitDefEqProofs only [EN, lsub, lget, stL, beq_self_eq_true, ne_eq, if_true, if_false, List.cons_append, List.nil_append, Option.isNone_some, Option.isNone_none, c4]))
          exact fin _ _ (by first | assumption | exact St.tick (by assumption) | exact St.tick (St.tick (by assumption)))
        · (repeat (first | (first | (with_reducible (first | refine w1 fun _ _ => ?_ | refine w3 fun _ _ _ => ?_ | refine w4 fun _ _ _ => ?_ | refine w11 fun _ _ _ => ?_ | refine stb_n ?_)) | ((with_reducible refine w2 ?_); try simp -implicitDefEqProofs only [EN, lsub, lget, stL, beq_self_eq_true, ne_eq, if_true, if_false, List.cons_append, List.nil_append, Option.isNone_some, Option.isNone_none, c4, ew2]; intro _ _) | ((with_reducible (first | refine w5 ?_ ?_ | refine w6 ?_ ?_ | refine w7 ?_ ?_)); simp; refine ⟨_, rfl, ?_⟩) | ((with_reducible (first | refine w8 ?_ ?_ ?_ | refine w9 ?_ ?_ ?_ | refine w10 ?_ ?_ ?_)); exact rfl; simp) | ((with_reducible refine w12 ?_ ?_ ?_ fun _ _ => ?_); simp; simp; simp [oneC]) | ((with_reducible (first | refine eqs ?_ | refine nes ?_)); refine ⟨_, rfl, ?_⟩) | ((refine okF_i (bldP_eq rfl) ?_); try simp only [BLS, List.take_succ_cons, List.take_zero, List.drop_succ_cons, List.drop_zero, List.cons_append, List.nil_append, Nat.reduceAdd])) | simp -implicitDefEqProofs only [EN, lsub, lget, stL, beq_self_eq_true, ne_eq, if_true, if_false, List.cons_append, List.nil_append, Option.isNone_some, Option.isNone_none, c4, ew2]))
          refine hK2 () _ hki ⟨fun j hj hjk => ?_, (by first | assumption | exact St.tick (by assumption) | exact St.tick (St.tick (by assumption)))⟩
          by_cases e : j = k
          · subst e; rw [hy, htg, decide_eq_false c4, Bool.and_false]; rfl
          · exact hT2 j hj (by omega)
      · (repeat (first | (first | (with_reducible (first | refine w1 fun _ _ => ?_ | refine w3 fun _ _ _ => ?_ | refine w4 fun _ _ _ => ?_ | refine w11 fun _ _ _ => ?_ | refine stb_n ?_)) | ((with_reducible refine w2 ?_); try simp -implicitDefEqProofs only [EN, lsub, lget, stL, beq_self_eq_true, ne_eq, if_true, if_false, List.cons_append, List.nil_append, Option.isNone_some, Option.isNone_none, c3, ew2]; intro _ _) | ((with_reducible (first | refine w5 ?_ ?_ | refine w6 ?_ ?_ | refine w7 ?_ ?_)); simp; refine ⟨_, rfl, ?_⟩) | ((with_reducible (first | refine w8 ?_ ?_ ?_ | refine w9 ?_ ?_ ?_ | refine w10 ?_ ?_ ?_)); exact rfl; simp) | ((with_reducible refine w12 ?_ ?_ ?_ fun _ _ => ?_); simp; simp; simp [oneC]) | ((with_reducible (first | refine eqs ?_ | refine nes ?_)); refine ⟨_, rfl, ?_⟩) | ((refine okF_i (bldP_eq rfl) ?_); try simp only [BLS, List.take_succ_cons, List.take_zero, List.drop_succ_cons, List.drop_zero, List.cons_append, List.nil_append, Nat.reduceAdd])) | simp -implicitDefEqProofs only [EN, lsub, lget, stL, beq_self_eq_true, ne_eq, if_true, if_false, List.cons_append, List.nil_append, Option.isNone_some, Option.isNone_none, c3, ew2]))
        refine hK2 () _ hki ⟨fun j hj hjk => ?_, (by first | assumption | exact St.tick (by assumption) | exact St.tick (St.tick (by assumption)))⟩
        by_cases e : j = k
        · subst e; rw [hy, htg, decide_eq_false c3, Bool.false_and]; rfl
        · exact hT2 j hj (by omega)
    · have hki : k = i := by omega
      subst hki
      have hT3 : ∀ j (hj : j < l.length), j < k + 1 → ∀ q (hq : q < j), tog l[j] l[q] = true := fun j hj hjk q hq => by
        by_cases e : j = k
        · subst e; exact hT2 q hq hq
        · exact hT j hj (by omega) q hq
      have hks : k < s.length := by omega
      (repeat (first | (first | (with_reducible (first | refine w1 fun _ _ => ?_ | refine w3 fun _ _ _ => ?_ | refine w4 fun _ _ _ => ?_ | refine w11 fun _ _ _ => ?_ | refine stb_n ?_)) | ((with_reducible refine w2 ?_); try simp -implicitDefEqProofs only [EN, lsub, lget, stL, beq_self_eq_true, ne_eq, if_true, if_false, List.cons_append, List.nil_append, Option.isNone_some, Option.isNone_none, hlt2]; intro _ _) | ((with_reducible (first | refine w5 ?_ ?_ | refine w6 ?_ ?_ | refine w7 ?_ ?_)); simp; refine ⟨_, rfl, ?_⟩) | ((with_reducible (first | refine w8 ?_ ?_ ?_ | refine w9 ?_ ?_ ?_ | refine w10 ?_ ?_ ?_)); exact rfl; simp) | ((with_reducible refine w12 ?_ ?_ ?_ fun _ _ => ?_); simp; simp; simp [oneC]) | ((with_reducible (first | refine eqs ?_ | refine nes ?_)); refine ⟨_, rfl, ?_⟩) | ((refine okF_i (bldP_eq rfl) ?_); try simp only [BLS, List.take_succ_cons, List.take_zero, List.drop_succ_cons, List.drop_zero, List.cons_append, List.nil_append, Nat.reduceAdd])) | simp -implicitDefEqProofs only [EN, lsub, lget, stL, beq_self_eq_true, ne_eq, if_true, if_false, List.cons_append, List.nil_append, Option.isNone_some, Option.isNone_none, hlt2]))
      unfold S.rostrumlaw18_OrderAll.j3
      (repeat (first | (first | (with_reducible (first | refine w1 fun _ _ => ?_ | refine w3 fun _ _ _ => ?_ | refine w4 fun _ _ _ => ?_ | refine w11 fun _ _ _ => ?_ | refine stb_n ?_)) | ((with_reducible refine w2 ?_); try simp -implicitDefEqProofs only [EN, lsub, lget, stL, beq_self_eq_true, ne_eq, if_true, if_false, List.cons_append, List.nil_append, Option.isNone_some, Option.isNone_none, eis]; intro _ _) | ((with_reducible (first | refine w5 ?_ ?_ | refine w6 ?_ ?_ | refine w7 ?_ ?_)); simp; refine ⟨_, rfl, ?_⟩) | ((with_reducible (first | refine w8 ?_ ?_ ?_ | refine w9 ?_ ?_ ?_ | refine w10 ?_ ?_ ?_)); exact rfl; simp) | ((with_reducible refine w12 ?_ ?_ ?_ fun _ _ => ?_); simp; simp; simp [oneC]) | ((with_reducible (first | refine eqs ?_ | refine nes ?_)); refine ⟨_, rfl, ?_⟩) | ((refine okF_i (bldP_eq rfl) ?_); try simp only [BLS, List.take_succ_cons, List.take_zero, List.drop_succ_cons, List.drop_zero, List.cons_append, List.nil_append, Nat.reduceAdd])) | simp -implicitDefEqProofs only [EN, lsub, lget, stL, beq_self_eq_true, ne_eq, if_true, if_false, List.cons_append, List.nil_append, Option.isNone_some, Option.isNone_none, eis]))
      refine ldGb (i := k) (m := s) hks (by first | assumption | exact St.tick (by assumption) | exact St.tick (St.tick (by assumption))) ?_
      cases hsk : s.getD k false with
      | true =>
        rw [if_pos hsk] at hts
        (repeat (first | (first | (with_reducible (first | refine w1 fun _ _ => ?_ | refine w3 fun _ _ _ => ?_ | refine w4 fun _ _ _ => ?_ | refine w11 fun _ _ _ => ?_ | refine stb_n ?_)) | ((with_reducible refine w2 ?_); try simp -implicitDefEqProofs only [EN, lsub, lget, stL, beq_self_eq_true, ne_eq, if_true, if_false, List.cons_append, List.nil_append, Option.isNone_some, Option.isNone_none, eii]; intro _ _) | ((with_reducible (first | refine w5 ?_ ?_ | refine w6 ?_ ?_ | refine w7 ?_ ?_)); simp; refine ⟨_, rfl, ?_⟩) | ((with_reducible (first | refine w8 ?_ ?_ ?_ | refine w9 ?_ ?_ ?_ | refine w10 ?_ ?_ ?_)); exact rfl; simp) | ((with_reducible refine w12 ?_ ?_ ?_ fun _ _ => ?_); simp; simp; simp [oneC]) | ((with_reducible (first | refine eqs ?_ | refine nes ?_)); refine ⟨_, rfl, ?_⟩) | ((refine okF_i (bldP_eq rfl) ?_); try simp only [BLS, List.take_succ_cons, List.take_zero, List.drop_succ_cons, List.drop_zero, List.cons_append, List.nil_append, Nat.reduceAdd])) | simp -implicitDefEqProofs only [EN, lsub, lget, stL, beq_self_eq_true, ne_eq, if_true, if_false, List.cons_append, List.nil_append, Option.isNone_some, Option.isNone_none, eii]))
        refine bsA INS [l[k]] (n := 1) (by first | assumption | exact St.tick (by assumption) | exact St.tick (St.tick (by assumption))) rfl rfl (by decide) (by decide) rfl fun a5 c5 W12 h => ?_
        refine appA (A := INS) (a := ax) (l := takeM l s k) (m := [l[k]]) (by first | assumption | exact St.tick (by assumption) | exact St.tick (St.tick (by assumption))) rfl (by simp only [List.length_cons, List.length_nil]; omega) (by simp only [List.length_cons, List.length_nil, maxLen]; omega) fun a6 c6 W13 h => ?_
        unfold S.rostrumlaw18_OrderAll.j2
        (repeat (first | (first | (with_reducible (first | refine w1 fun _ _ => ?_ | refine w3 fun _ _ _ => ?_ | refine w4 fun _ _ _ => ?_ | refine w11 fun _ _ _ => ?_ | refine stb_n ?_)) | ((with_reducible refine w2 ?_); try simp -implicitDefEqProofs only [EN, lsub, lget, stL, beq_self_eq_true, ne_eq, if_true, if_false, List.cons_append, List.nil_append, Option.isNone_some, Option.isNone_none, ew]; intro _ _) | ((with_reducible (first | refine w5 ?_ ?_ | refine w6 ?_ ?_ | refine w7 ?_ ?_)); simp; refine ⟨_, rfl, ?_⟩) | ((with_reducible (first | refine w8 ?_ ?_ ?_ | refine w9 ?_ ?_ ?_ | refine w10 ?_ ?_ ?_)); exact rfl; simp) | ((with_reducible refine w12 ?_ ?_ ?_ fun _ _ => ?_); simp; simp; simp [oneC]) | ((with_reducible (first | refine eqs ?_ | refine nes ?_)); refine ⟨_, rfl, ?_⟩) | ((refine okF_i (bldP_eq rfl) ?_); try simp only [BLS, List.take_succ_cons, List.take_zero, List.drop_succ_cons, List.drop_zero, List.cons_append, List.nil_append, Nat.reduceAdd])) | simp -implicitDefEqProofs only [EN, lsub, lget, stL, beq_self_eq_true, ne_eq, if_true, if_false, List.cons_append, List.nil_append, Option.isNone_some, Option.isNone_none, ew]))
        rw [← hts] at h ⊢
        exact hK (a6, c6) _ hib ⟨hT3, St.wk h⟩
      | false =>
        rw [if_neg (by rw [hsk]; simp)] at hts
        (repeat (first | (first | (with_reducible (first | refine w1 fun _ _ => ?_ | refine w3 fun _ _ _ => ?_ | refine w4 fun _ _ _ => ?_ | refine w11 fun _ _ _ => ?_ | refine stb_n ?_)) | ((with_reducible refine w2 ?_); try simp -implicitDefEqProofs only [EN, lsub, lget, stL, beq_self_eq_true, ne_eq, if_true, if_false, List.cons_append, List.nil_append, Option.isNone_some, Option.isNone_none]; intro _ _) | ((with_reducible (first | refine w5 ?_ ?_ | refine w6 ?_ ?_ | refine w7 ?_ ?_)); simp; refine ⟨_, rfl, ?_⟩) | ((with_reducible (first | refine w8 ?_ ?_ ?_ | refine w9 ?_ ?_ ?_ | refine w10 ?_ ?_ ?_)); exact rfl; simp) | ((with_reducible refine w12 ?_ ?_ ?_ fun _ _ => ?_); simp; simp; simp [oneC]) | ((with_reducible (first | refine eqs ?_ | refine nes ?_)); refine ⟨_, rfl, ?_⟩) | ((refine okF_i (bldP_eq rfl) ?_); try simp only [BLS, List.take_succ_cons, List.take_zero, List.drop_succ_cons, List.drop_zero, List.cons_append, List.nil_append, Nat.reduceAdd])) | simp -implicitDefEqProofs only [EN, lsub, lget, stL, beq_self_eq_true, ne_eq, if_true, if_false, List.cons_append, List.nil_append, Option.isNone_some, Option.isNone_none]))
        unfold S.rostrumlaw18_OrderAll.j2
        (repeat (first | (first | (with_reducible (first | refine w1 fun _ _ => ?_ | refine w3 fun _ _ _ => ?_ | refine w4 fun _ _ _ => ?_ | refine w11 fun _ _ _ => ?_ | refine stb_n ?_)) | ((with_reducible refine w2 ?_); try simp -implicitDefEqProofs only [EN, lsub, lget, stL, beq_self_eq_true, ne_eq, if_true, if_false, List.cons_append, List.nil_append, Option.isNone_some, Option.isNone_none, ew]; intro _ _) | ((with_reducible (first | refine w5 ?_ ?_ | refine w6 ?_ ?_ | refine w7 ?_ ?_)); simp; refine ⟨_, rfl, ?_⟩) | ((with_reducible (first | refine w8 ?_ ?_ ?_ | refine w9 ?_ ?_ ?_ | refine w10 ?_ ?_ ?_)); exact rfl; simp) | ((with_reducible refine w12 ?_ ?_ ?_ fun _ _ => ?_); simp; simp; simp [oneC]) | ((with_reducible (first | refine eqs ?_ | refine nes ?_)); refine ⟨_, rfl, ?_⟩) | ((refine okF_i (bldP_eq rfl) ?_); try simp only [BLS, List.take_succ_cons, List.take_zero, List.drop_succ_cons, List.drop_zero, List.cons_append, List.nil_append, Nat.reduceAdd])) | simp -implicitDefEqProofs only [EN, lsub, lget, stL, beq_self_eq_true, ne_eq, if_true, if_false, List.cons_append, List.nil_append, Option.isNone_some, Option.isNone_none, ew]))
        rw [← hts] at h ⊢
        exact hK (ax, cx) _ hib ⟨hT3, h⟩
  · have hil : i = l.length := by omega
    subst hil
    have hgm := good_sub hg (takeM_sub l s l.length)
    have hpre := line0_prefix hg hgm (fun x hx => (takeM_sub l s l.length).mem hx) (tog_all hg fun i hi k hk => hT i hi hi k hk)
    generalize takeM l s l.length = m at *
    (repeat (first | (first | (with_reducible (first | refine w1 fun _ _ => ?_ | refine w3 fun _ _ _ => ?_ | refine w4 fun _ _ _ => ?_ | refine w11 fun _ _ _ => ?_ | refine stb_n ?_)) | ((with_reducible refine w2 ?_); try simp -implicitDefEqProofs only [EN, lsub, lget, stL, beq_self_eq_true, ne_eq, if_true, if_false, List.cons_append, List.nil_append, Option.isNone_some, Option.isNone_none, hlt]; intro _ _) | ((with_reducible (first | refine w5 ?_ ?_ | refine w6 ?_ ?_ | refine w7 ?_ ?_)); simp; refine ⟨_, rfl, ?_⟩) | ((with_reducible (first | refine w8 ?_ ?_ ?_ | refine w9 ?_ ?_ ?_ | refine w10 ?_ ?_ ?_)); exact rfl; simp) | ((with_reducible refine w12 ?_ ?_ ?_ fun _ _ => ?_); simp; simp; simp [oneC]) | ((with_reducible (first | refine eqs ?_ | refine nes ?_)); refine ⟨_, rfl, ?_⟩) | ((refine okF_i (bldP_eq rfl) ?_); try simp only [BLS, List.take_succ_cons, List.take_zero, List.drop_succ_cons, List.drop_zero, List.cons_append, List.nil_append, Nat.reduceAdd])) | simp -implicitDefEqProofs only [EN, lsub, lget, stL, beq_self_eq_true, ne_eq, if_true, if_false, List.cons_append, List.nil_append, Option.isNone_some, Option.isNone_none, hlt]))
    refine ordLine0 (l := l) (a := la) (P7.all 0) h00 (by first | assumption | exact St.tick (by assumption) | exact St.tick (St.tick (by assumption))) (by omega) fun aa ca W5 h => ?_
    (repeat (first | (first | (with_reducible (first | refine w1 fun _ _ => ?_ | refine w3 fun _ _ _ => ?_ | refine w4 fun _ _ _ => ?_ | refine w11 fun _ _ _ => ?_ | refine stb_n ?_)) | ((with_reducible refine w2 ?_); try simp -implicitDefEqProofs only [EN, lsub, lget, stL, beq_self_eq_true, ne_eq, if_true, if_false, List.cons_append, List.nil_append, Option.isNone_some, Option.isNone_none]; intro _ _) | ((with_reducible (first | refine w5 ?_ ?_ | refine w6 ?_ ?_ | refine w7 ?_ ?_)); simp; refine ⟨_, rfl, ?_⟩) | ((with_reducible (first | refine w8 ?_ ?_ ?_ | refine w9 ?_ ?_ ?_ | refine w10 ?_ ?_ ?_)); exact rfl; simp) | ((with_reducible refine w12 ?_ ?_ ?_ fun _ _ => ?_); simp; simp; simp [oneC]) | ((with_reducible (first | refine eqs ?_ | refine nes ?_)); refine ⟨_, rfl, ?_⟩) | ((refine okF_i (bldP_eq rfl) ?_); try simp only [BLS, List.take_succ_cons, List.take_zero, List.drop_succ_cons, List.drop_zero, List.cons_append, List.nil_append, Nat.reduceAdd])) | simp -implicitDefEqProofs only [EN, lsub, lget, stL, beq_self_eq_true, ne_eq, if_true, if_false, List.cons_append, List.nil_append, Option.isNone_some, Option.isNone_none]))
    refine ordLine0 (l := m) (a := ax) (P7.all 0) h00 (by first | assumption | exact St.tick (by assumption) | exact St.tick (St.tick (by assumption))) (by omega) fun ab cb W6 h => ?_
    have hlb := line0_len (P7.all 0) [] m
    generalize lineTop (P7.all 0) [] l = a at *
    generalize lineTop (P7.all 0) [] m = b at *
    have hba : b.length ≤ a.length := by have := congrArg List.length hpre; rw [List.length_take] at this; omega
    have e1 : decide ((b.length : Int) ≤ (a.length : Int)) = true := decide_eq_true (by omega)
    have hcf := St.arrFacts (St.wk (L' := [arr DOT T_api_Dot aa ca a]) h)
    have hca : a.length ≤ ca := hcf.1
    have hcm := hcf.2.1
    simp only [maxLen] at hcm
    (repeat (first | (first | (with_reducible (first | refine w1 fun _ _ => ?_ | refine w3 fun _ _ _ => ?_ | refine w4 fun _ _ _ => ?_ | refine w11 fun _ _ _ => ?_ | refine stb_n ?_)) | ((with_reducible refine w2 ?_); try simp -implicitDefEqProofs only [EN, lsub, lget, stL, beq_self_eq_true, ne_eq, if_true, if_false, List.cons_append, List.nil_append, Option.isNone_some, Option.isNone_none, e1]; intro _ _) | ((with_reducible (first | refine w5 ?_ ?_ | refine w6 ?_ ?_ | refine w7 ?_ ?_)); simp; refine ⟨_, rfl, ?_⟩) | ((with_reducible (first | refine w8 ?_ ?_ ?_ | refine w9 ?_ ?_ ?_ | refine w10 ?_ ?_ ?_)); exact rfl; simp) | ((with_reducible refine w12 ?_ ?_ ?_ fun _ _ => ?_); simp; simp; simp [oneC]) | ((with_reducible (first | refine eqs ?_ | refine nes ?_)); refine ⟨_, rfl, ?_⟩) | ((refine okF_i (bldP_eq rfl) ?_); try simp only [BLS, List.take_succ_cons, List.take_zero, List.drop_succ_cons, List.drop_zero, List.cons_append, List.nil_append, Nat.reduceAdd])) | simp -implicitDefEqProofs only [EN, lsub, lget, stL, beq_self_eq_true, ne_eq, if_true, if_false, List.cons_append, List.nil_append, Option.isNone_some, Option.isNone_none, e1]))
    refine slcR h (a := aa) (A := DOT) (l := a) (lo := 0) (hi := b.length) rfl rfl (bnd_nat (by omega)) bnd_none (Nat.zero_le _) hba hca fun a9 c9 hr9 => ?_
    rw [List.drop_zero, ← hpre] at hr9 ⊢
    (repeat (first | (first | (with_reducible (first | refine w1 fun _ _ => ?_ | refine w3 fun _ _ _ => ?_ | refine w4 fun _ _ _ => ?_ | refine w11 fun _ _ _ => ?_ | refine stb_n ?_)) | ((with_reducible refine w2 ?_); try simp -implicitDefEqProofs only [EN, lsub, lget, stL, beq_self_eq_true, ne_eq, if_true, if_false, List.cons_append, List.nil_append, Option.isNone_some, Option.isNone_none]; intro _ _) | ((with_reducible (first | refine w5 ?_ ?_ | refine w6 ?_ ?_ | refine w7 ?_ ?_)); simp; refine ⟨_, rfl, ?_⟩) | ((with_reducible (first | refine w8 ?_ ?_ ?_ | refine w9 ?_ ?_ ?_ | refine w10 ?_ ?_ ?_)); exact rfl; simp) | ((with_reducible refine w12 ?_ ?_ ?_ fun _ _ => ?_); simp; simp; simp [oneC]) | ((with_reducible (first | refine eqs ?_ | refine nes ?_)); refine ⟨_, rfl, ?_⟩) | ((refine okF_i (bldP_eq rfl) ?_); try simp only [BLS, List.take_succ_cons, List.take_zero, List.drop_succ_cons, List.drop_zero, List.cons_append, List.nil_append, Nat.reduceAdd])) | simp -implicitDefEqProofs only [EN, lsub, lget, stL, beq_self_eq_true, ne_eq, if_true, if_false, List.cons_append, List.nil_append, Option.isNone_some, Option.isNone_none]))
    refine lawDots (a := a9) (b := ab) (l := b) (m := b) h (by omega) fun W7 h => ?_
    (repeat (first | (first | (with_reducible (first | refine w1 fun _ _ => ?_ | refine w3 fun _ _ _ => ?_ | refine w4 fun _ _ _ => ?_ | refine w11 fun _ _ _ => ?_ | refine stb_n ?_)) | ((with_reducible refine w2 ?_); try simp -implicitDefEqProofs only [EN, lsub, lget, stL, beq_self_eq_true, ne_eq, if_true, if_false, List.cons_append, List.nil_append, Option.isNone_some, Option.isNone_none]; intro _ _) | ((with_reducible (first | refine w5 ?_ ?_ | refine w6 ?_ ?_ | refine w7 ?_ ?_)); simp; refine ⟨_, rfl, ?_⟩) | ((with_reducible (first | refine w8 ?_ ?_ ?_ | refine w9 ?_ ?_ ?_ | refine w10 ?_ ?_ ?_)); exact rfl; simp) | ((with_reducible refine w12 ?_ ?_ ?_ fun _ _ => ?_); simp; simp; simp [oneC]) | ((with_reducible (first | refine eqs ?_ | refine nes ?_)); refine ⟨_, rfl, ?_⟩) | ((refine okF_i (bldP_eq rfl) ?_); try simp only [BLS, List.take_succ_cons, List.take_zero, List.drop_succ_cons, List.drop_zero, List.cons_append, List.nil_append, Nat.reduceAdd])) | simp -implicitDefEqProofs only [EN, lsub, lget, stL, beq_self_eq_true, ne_eq, if_true, if_false, List.cons_append, List.nil_append, Option.isNone_some, Option.isNone_none]))
    exact fin _ _ (by first | assumption | exact St.tick (by assumption) | exact St.tick (St.tick (by assumption)))
end Go.Proofs.Ytkjhccpanedccaa
namespace Go.Proofs.Ytkjhccpanedccaa.orderAllDone
set_option linter.unusedVariables false
set_option linter.unusedSimpArgs false
open Go Go.Eng Go.ChangeShapes Go.WideShapes Go.ChangeAt Go.RowKit

theorem own : ownKnob Try.prog.godebug = none := by kernel_rfl
theorem laidOut : laidOutB Try.prog = true := by kernel_rfl

set_option maxRecDepth 100000 in
theorem lifted (os : Os) (started : os.Started) (H : Type) (enc : TypeId × Value → H) :
    ReturnsInHanded {} Try.checked os F_rostrumlaw18_OrderAll .any (Rows.orderAllSpec.pre6 enc Try.prog Try.f4 Rows.orderAllRow.domain false) (Rows.orderAllSpec.post enc Try.prog Try.f4 false true false false) := by
  refine returnsInHanded_of_change (C := Try.checked) own started (by kernel_rfl) S.rostrumlaw18_OrderAll.fn
    (ChangeSpec.witness6 (enc := enc) (C := Try.checked) false ⟨#[], #[(.slice none 0 0), (.slice none 0 0)], []⟩ 8 (by kernel_rfl) (by kernel_rfl) (by kernel_rfl) (by kernel_rfl)) ?_
  intro W base args ds gs before hval0 hW hcnd _
  have hval : ∀ (j : Nat) t v, Try.f4.params[j]? = some t → args[j]? = some v → Value.okWide Try.prog W .any base t v := hval0
  have hW' := hW
  obtain ⟨p, q, hA0, hV, rfl, hfz, hnd⟩ := hW
  have hA : DataW.TrodAll enc Try.prog W 0 (fun _ => true) true Try.f4.params.toList args.toList ds p := hA0
  have hpar : Try.f4.params.toList = [T_s_order_Inst, T_s_bool] := by kernel_rfl
  rw [hpar] at hA
  have hA1 := hA
  obtain ⟨v0, vs0, d0, ds0, p0, q0, hargs, rfl, rfl, h0, r0⟩ := trodAll_cons hA
  obtain ⟨v1, vs1, d1, ds1, p1, q1, rfl, rfl, rfl, h1, r1⟩ := trodAll_cons r0
  obtain ⟨rfl, rfl, rfl⟩ := trodAll_nil r1
  obtain rfl : args = #[v0, v1] := by cases args; simp_all
  obtain ⟨rfl, rfl⟩ := trodVars_none hV
  have g0 : GoodA W [.sl [.int .i64, .int .i64, .int .i64, .int .i64, .int .i64, .int .i64, .int .i64, .int .i64, .int .i64, .int .i64]] false v0 := open_arg (m := 8) (by kernel_rfl) (by kernel_rfl) (hval 0 T_s_order_Inst v0 (by kernel_rfl) rfl) h0
  have g1 : GoodA W [.sl [.bool]] false v1 := open_arg (m := 8) (by kernel_rfl) (by kernel_rfl) (hval 1 T_s_bool v1 (by kernel_rfl) rfl) h1
  clear hA0 hval0
  have hc : Calls Try.prog F_rostrumlaw18_OrderAll #[v0, v1] W fun e W' => e = .returned (.bool true) ∧ Below W.heap.size W W' :=
    Calls.mono (orderAll_walk g0 g1) fun e W' h => by
      cases e <;> first | exact ⟨by rw [h.1], h.2.below⟩ | exact h.elim
  refine hc.mono fun e W' ⟨he, bel⟩ => ?_
  subst he
  exact ⟨_, rfl, _, _, _, [], _, [], hW', trodAll_mk1 (shut_bool (t := T_bool) (by kernel_rfl) _), keep_all laidOut (by kernel_rfl) hA1 bel, rfl, bel.frame _, fun h => by cases h⟩

theorem proved : Rows.OrderAllSaid :=
  OpenClaim.holds_of_wide F_rostrumlaw18_OrderAll Try.f4 rfl rfl rfl rfl rfl rfl rfl ⟨rfl, rfl, rfl, rfl, rfl⟩ rfl rfl rfl rfl rfl (by kernel_rfl) S.rostrumlaw18_OrderAll.fn (by kernel_rfl)
    (of_decide_eq_true (by kernel_rfl)) (by unfold Func.isWrapper; first | (rw [if_pos (by decide +kernel)]; kernel_rfl) | (rw [if_neg (by decide +kernel)]; exact ⟨rfl, rfl⟩))
    (fun os started H enc _ => lifted os started H enc)
end Go.Proofs.Ytkjhccpanedccaa.orderAllDone
