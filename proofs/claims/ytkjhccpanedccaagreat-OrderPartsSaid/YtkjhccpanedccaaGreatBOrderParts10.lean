/- 'OrderParts' holds. Printed by an own tool (wip/tools/law.py), after the kit's shell. -/
import Derived.Test.YtkjhccpanedccaaGreatBOrderParts9
import Derived.Test.YtkjhccpanedccaaGreatRows
import Derived.WalkKit
import Derived.ProofKit
namespace Go.Proofs.YtkjhccpanedccaaGreat
set_option linter.unusedVariables false
set_option linter.unusedSimpArgs false
open Go Go.Eng Go.Tar Go.Sort Go.RowKit
def togO (gs : List (List Dot)) (a b : Dot) : Bool := gs.any fun g => g.any (fun d => decide (d = a)) && g.any fun d => decide (d = b)
section
variable {l m K : List Ins} {x y : Ins} {d : Dot} {q : Dot → Bool}
theorem sortO_at {i : Nat} {sl : List Ins} (hi : i < sl.length) (g : List Int) (h : (i : Int) ∈ g) : sl[i].d ∈ dotsO sl g := by
  unfold dotsO
  exact List.mem_map.2 ⟨(i : Int), h, by rw [Int.toNat_natCast, ← getD_at hi]⟩
theorem dotsO_at {sl : List Ins} {g : List Int} (hg : ∀ v ∈ g, Vx sl.length v) (h : d ∈ dotsO sl g) : ∃ (i : Nat) (hi : i < sl.length), (i : Int) ∈ g ∧ sl[i].d = d := by
  unfold dotsO at h
  obtain ⟨v, hv, rfl⟩ := List.mem_map.1 h
  have hx := hg v hv
  have hi : v.toNat < sl.length := by unfold Vx at hx; omega
  exact ⟨v.toNat, hi, by rwa [show ((v.toNat : Nat) : Int) = v by unfold Vx at hx; omega], by rw [← getD_at hi]⟩
/-- what reach one another are told together -/
theorem mut_tog (hg : goodO l = true) (hx : x ∈ l) (hy : y ∈ l) (h : Mut l x y) : togO (groupsTop l) x.d y.d = true := by
  obtain ⟨_, hn, _⟩ := goodO_iff.1 hg
  unfold groupsTop groupsO
  rw [if_pos hg]
  have hsn := sortO_nodup hn
  have hx' := sortO_mem.2 hx
  have hy' := sortO_mem.2 hy
  have h' : Mut (sortO l) x y := ⟨dr_sort.2 h.1, dr_sort.2 h.2⟩
  generalize sortO l = sl at *
  obtain ⟨i, hi, rfl⟩ := List.getElem_of_mem hx'
  obtain ⟨j, hj, rfl⟩ := List.getElem_of_mem hy'
  have hG := groups_grp (onL_ok sl)
  obtain ⟨g, hgm, hig⟩ := List.mem_flatten.1 ((hG.all (i : Int)).2 ⟨by omega, by omega⟩)
  have hjg := (hG.same hgm hig (y := (j : Int)) ⟨by omega, by omega⟩).2 ⟨(rch_dr hsn hi hj).2 h'.1, (rch_dr hsn hj hi).2 h'.2⟩
  unfold togO
  rw [List.any_eq_true]
  refine ⟨dotsO sl g, (sortD_perm _).mem_iff.2 (List.mem_map.2 ⟨g, hgm, rfl⟩), ?_⟩
  rw [Bool.and_eq_true, List.any_eq_true, List.any_eq_true]
  exact ⟨⟨_, sortO_at hi g hig, decide_eq_true rfl⟩, ⟨_, sortO_at hj g hjg, decide_eq_true rfl⟩⟩
/-- each is behind what it hangs on and what does not hang on it -/
theorem turned_pw (hg : goodO l = true) : (lineTop (P7.all 0) [] l).Pairwise fun a b => a ≠ b ∧ ∃ x ∈ l, ∃ y ∈ l, x.d = a ∧ y.d = b ∧ (b.n ≤ x.v.get b.rep.toNat → togO (groupsTop l) a b = true) := by
  obtain ⟨hg1, hn, _⟩ := goodO_iff.1 hg
  rw [line0_eq hg, List.pairwise_map]
  have hkn := kept_nodup (q := q0) hn
  have h2 := List.nodup_iff_pairwise_ne.1 (lineK_nodup hkn)
  rw [List.pairwise_map] at h2
  refine List.Pairwise.imp_of_mem (fun {x y} hx hy hxy => ?_) (List.pairwise_and_iff.2 ⟨lineK_pw hkn, h2⟩)
  obtain ⟨h3, hne⟩ := hxy
  have hxl := (kept_mem.1 (lineK_mem.1 hx)).1
  have hyl := (kept_mem.1 (lineK_mem.1 hy)).1
  refine ⟨hne, x, hxl, y, hyl, rfl, rfl, fun hle => ?_⟩
  have hd := insOne_dot (hg1 y hyl).1
  rcases h3 with ⟨h3, _⟩ | ⟨_, h3⟩
  · exact mut_tog hg hxl hyl ⟨h3.1.mono fun x hx => (kept_mem.1 hx).1, h3.2.mono fun x hx => (kept_mem.1 hx).1⟩
  · exact absurd (depsL_mem.2 ⟨hd.1, ⟨hd.2.1, hle⟩, fun e => hne e.symm⟩) h3
theorem perm_good (hp : m.Perm l) (hg : goodO l = true) : goodO m = true := by
  obtain ⟨h1, h2, h3⟩ := goodO_iff.1 hg
  exact goodO_iff.2 ⟨fun x hx => h1 x (hp.mem_iff.1 hx), (hp.map _).nodup_iff.2 h2, by rw [hp.length_eq]; exact h3⟩
theorem perm_line (hp : m.Perm l) (hg : goodO l = true) : lineTop (P7.all 0) [] m = lineTop (P7.all 0) [] l := by
  rw [line0_eq hg, line0_eq (perm_good hp hg)]
  unfold keptO
  rw [sortO_of_perm (goodO_iff.1 hg).2.1 hp]
def rotL (l : List Ins) (t i : Nat) : List Ins := (List.range i).map fun j => l.getD ((j + t) % l.length) default
theorem rotL_perm {t : Nat} (ht : t < l.length) : (rotL l t l.length).Perm l := by
  have : rotL l t l.length = l.drop t ++ l.take t := by
    apply List.ext_getElem
    · simp [rotL]; omega
    · intro i h1 h2
      have hi : i < l.length := by simpa [rotL] using h1
      simp only [rotL, List.getElem_map, List.getElem_range]
      rw [List.getElem_append]
      by_cases e : i < l.length - t
      · rw [dif_pos (by simpa using e), Nat.mod_eq_of_lt (by omega), ← getD_at (by omega), List.getElem_drop]
        congr 1; omega
      · have h5 : (i + t) % l.length = i - (l.length - t) := by
          rw [show i + t = (i - (l.length - t)) + l.length by omega, Nat.add_mod_right, Nat.mod_eq_of_lt (by omega)]
        rw [dif_neg (by simpa using e), h5, ← getD_at (by omega), List.getElem_take]
        congr 1; simp
  rw [this]
  exact List.perm_append_comm.trans (by rw [List.take_append_drop])
end
section
variable {W0 W : World} {L L' : List Asn}
set_option maxRecDepth 100000 in
set_option maxHeartbeats 4000000 in
theorem lawFind {a : Option Addr} {c : Nat} {l : List Ins} {d : Dot} {k : Value → World → Prop} (h : St W0 L W) [hr : Rd W0 L a INS l] (hl : l.length < 1000000)
    (hk : ∀ W', St W0 L W' → k (.int .i64 (match plcO l d with | some i => (i : Int) | none => -1)) W') : callK PR F_rostrumlaw18_find [.slice a l.length c, .agg #[.int .i64 d.rep, .int .i64 d.n]] k W := by
  apply S.rostrumlaw18_find.call
  unfold S.rostrumlaw18_find.body
  refine bxa h fun db W1 h => ?_
  have h : St W0 (cells db [.int .i64 d.rep, .int .i64 d.n] T_api_Dot :: L) W1 := h
  refine loop_c (σ := Unit) l.length (fun i _ => [.slice a l.length c, .pointer (some ⟨db, 0, none⟩), .int .i64 (i : Int)])
    (fun i _ W1 => (∀ j (hj : j < l.length), j < i → l[j].d ≠ d) ∧ St W0 (cells db [.int .i64 d.rep, .int .i64 d.n] T_api_Dot :: L) W1) () rfl ⟨fun _ _ h => by omega, h⟩ ?_
  clear h
  rintro K i _ W2 hi ⟨hno, h⟩ hK
  simp -implicitDefEqProofs only [EN, lsub, lget, stL, beq_self_eq_true, ne_eq, if_true, if_false, List.cons_append, List.nil_append, Option.isNone_some, Option.isNone_none]
  unfold S.rostrumlaw18_find.l1
  by_cases hlt : (i : Int) < (l.length : Int)
  · have hib : i < l.length := by omega
    have ew : IntKind.i64.wrap ((i : Int) + 1) = ((i + 1 : Nat) : Int) := by rw [i64w]; omega
    (repeat (first | (first | (with_reducible (first | refine w1 fun _ _ => ?_ | refine w3 fun _ _ _ => ?_ | refine w4 fun _ _ _ => ?_ | refine w11 fun _ _ _ => ?_ | refine stb_n ?_)) | ((with_reducible refine w2 ?_); try simp -implicitDefEqProofs only [EN, lsub, lget, stL, beq_self_eq_true, ne_eq, if_true, if_false, List.cons_append, List.nil_append, Option.isNone_some, Option.isNone_none, hlt]; intro _ _) | ((with_reducible (first | refine w5 ?_ ?_ | refine w6 ?_ ?_ | refine w7 ?_ ?_)); simp; refine ⟨_, rfl, ?_⟩) | ((with_reducible (first | refine w8 ?_ ?_ ?_ | refine w9 ?_ ?_ ?_ | refine w10 ?_ ?_ ?_)); exact rfl; simp) | ((with_reducible refine w12 ?_ ?_ ?_ fun _ _ => ?_); simp; simp; simp [oneC]) | ((with_reducible (first | refine eqs ?_ | refine nes ?_)); refine ⟨_, rfl, ?_⟩) | ((refine okF_i (bldP_eq rfl) ?_); try simp only [BLS, List.take_succ_cons, List.take_zero, List.drop_succ_cons, List.drop_zero, List.cons_append, List.nil_append, Nat.reduceAdd])) | simp -implicitDefEqProofs only [EN, lsub, lget, stL, beq_self_eq_true, ne_eq, if_true, if_false, List.cons_append, List.nil_append, Option.isNone_some, Option.isNone_none, hlt]))
    refine ixA (i := i) (a := a) (l := l) (A := INS) (by first | assumption | exact St.tick (by assumption) | exact St.tick (St.tick (by assumption))) rfl rfl hib fun g o ha => ?_
    cases ha
    (repeat (first | (first | (with_reducible (first | refine w1 fun _ _ => ?_ | refine w3 fun _ _ _ => ?_ | refine w4 fun _ _ _ => ?_ | refine w11 fun _ _ _ => ?_ | refine stb_n ?_)) | ((with_reducible refine w2 ?_); try simp -implicitDefEqProofs only [EN, lsub, lget, stL, beq_self_eq_true, ne_eq, if_true, if_false, List.cons_append, List.nil_append, Option.isNone_some, Option.isNone_none]; intro _ _) | ((with_reducible (first | refine w5 ?_ ?_ | refine w6 ?_ ?_ | refine w7 ?_ ?_)); simp; refine ⟨_, rfl, ?_⟩) | ((with_reducible (first | refine w8 ?_ ?_ ?_ | refine w9 ?_ ?_ ?_ | refine w10 ?_ ?_ ?_)); exact rfl; simp) | ((with_reducible refine w12 ?_ ?_ ?_ fun _ _ => ?_); simp; simp; simp [oneC]) | ((with_reducible (first | refine eqs ?_ | refine nes ?_)); refine ⟨_, rfl, ?_⟩) | ((refine okF_i (bldP_eq rfl) ?_); try simp only [BLS, List.take_succ_cons, List.take_zero, List.drop_succ_cons, List.drop_zero, List.cons_append, List.nil_append, Nat.reduceAdd])) | simp -implicitDefEqProofs only [EN, lsub, lget, stL, beq_self_eq_true, ne_eq, if_true, if_false, List.cons_append, List.nil_append, Option.isNone_some, Option.isNone_none]))
    refine ldA0 (i := i) (l := l) (A := INS) (by first | assumption | exact St.tick (by assumption) | exact St.tick (St.tick (by assumption))) rfl hib (v := .agg #[.int .i64 (l[i].d).rep, .int .i64 (l[i].d).n]) rfl (by simp [INS]) ?_
    (repeat (first | (first | (with_reducible (first | refine w1 fun _ _ => ?_ | refine w3 fun _ _ _ => ?_ | refine w4 fun _ _ _ => ?_ | refine w11 fun _ _ _ => ?_ | refine stb_n ?_)) | ((with_reducible refine w2 ?_); try simp -implicitDefEqProofs only [EN, lsub, lget, stL, beq_self_eq_true, ne_eq, if_true, if_false, List.cons_append, List.nil_append, Option.isNone_some, Option.isNone_none]; intro _ _) | ((with_reducible (first | refine w5 ?_ ?_ | refine w6 ?_ ?_ | refine w7 ?_ ?_)); simp; refine ⟨_, rfl, ?_⟩) | ((with_reducible (first | refine w8 ?_ ?_ ?_ | refine w9 ?_ ?_ ?_ | refine w10 ?_ ?_ ?_)); exact rfl; simp) | ((with_reducible refine w12 ?_ ?_ ?_ fun _ _ => ?_); simp; simp; simp [oneC]) | ((with_reducible (first | refine eqs ?_ | refine nes ?_)); refine ⟨_, rfl, ?_⟩) | ((refine okF_i (bldP_eq rfl) ?_); try simp only [BLS, List.take_succ_cons, List.take_zero, List.drop_succ_cons, List.drop_zero, List.cons_append, List.nil_append, Nat.reduceAdd])) | simp -implicitDefEqProofs only [EN, lsub, lget, stL, beq_self_eq_true, ne_eq, if_true, if_false, List.cons_append, List.nil_append, Option.isNone_some, Option.isNone_none]))
    by_cases he : l[i].d = d
    · have f2 : (decide (l[i].d.rep = d.rep) && decide (l[i].d.n = d.n)) = true := by rw [dot_eq]; exact decide_eq_true he
      have hp : plcO l d = some i := by
        unfold plcO
        rw [List.findIdx?_eq_some_iff_getElem]
        exact ⟨hib, decide_eq_true he, fun j hj => by simpa using hno j (by omega) hj⟩
      rw [hp] at hk
      (repeat (first | (first | (with_reducible (first | refine w1 fun _ _ => ?_ | refine w3 fun _ _ _ => ?_ | refine w4 fun _ _ _ => ?_ | refine w11 fun _ _ _ => ?_ | refine stb_n ?_)) | ((with_reducible refine w2 ?_); try simp -implicitDefEqProofs only [EN, lsub, lget, stL, beq_self_eq_true, ne_eq, if_true, if_false, List.cons_append, List.nil_append, Option.isNone_some, Option.isNone_none, f2]; intro _ _) | ((with_reducible (first | refine w5 ?_ ?_ | refine w6 ?_ ?_ | refine w7 ?_ ?_)); simp; refine ⟨_, rfl, ?_⟩) | ((with_reducible (first | refine w8 ?_ ?_ ?_ | refine w9 ?_ ?_ ?_ | refine w10 ?_ ?_ ?_)); exact rfl; simp) | ((with_reducible refine w12 ?_ ?_ ?_ fun _ _ => ?_); simp; simp; simp [oneC]) | ((with_reducible (first | refine eqs ?_ | refine nes ?_)); refine ⟨_, rfl, ?_⟩) | ((refine okF_i (bldP_eq rfl) ?_); try simp only [BLS, List.take_succ_cons, List.take_zero, List.drop_succ_cons, List.drop_zero, List.cons_append, List.nil_append, Nat.reduceAdd])) | simp -implicitDefEqProofs only [EN, lsub, lget, stL, beq_self_eq_true, ne_eq, if_true, if_false, List.cons_append, List.nil_append, Option.isNone_some, Option.isNone_none, f2]))
      exact hk _ (St.drop (by first | assumption | exact St.tick (by assumption) | exact St.tick (St.tick (by assumption))))
    · have f2 : (decide (l[i].d.rep = d.rep) && decide (l[i].d.n = d.n)) = false := by rw [dot_eq]; exact decide_eq_false he
      (repeat (first | (first | (with_reducible (first | refine w1 fun _ _ => ?_ | refine w3 fun _ _ _ => ?_ | refine w4 fun _ _ _ => ?_ | refine w11 fun _ _ _ => ?_ | refine stb_n ?_)) | ((with_reducible refine w2 ?_); try simp -implicitDefEqProofs only [EN, lsub, lget, stL, beq_self_eq_true, ne_eq, if_true, if_false, List.cons_append, List.nil_append, Option.isNone_some, Option.isNone_none, f2, ew]; intro _ _) | ((with_reducible (first | refine w5 ?_ ?_ | refine w6 ?_ ?_ | refine w7 ?_ ?_)); simp; refine ⟨_, rfl, ?_⟩) | ((with_reducible (first | refine w8 ?_ ?_ ?_ | refine w9 ?_ ?_ ?_ | refine w10 ?_ ?_ ?_)); exact rfl; simp) | ((with_reducible refine w12 ?_ ?_ ?_ fun _ _ => ?_); simp; simp; simp [oneC]) | ((with_reducible (first | refine eqs ?_ | refine nes ?_)); refine ⟨_, rfl, ?_⟩) | ((refine okF_i (bldP_eq rfl) ?_); try simp only [BLS, List.take_succ_cons, List.take_zero, List.drop_succ_cons, List.drop_zero, List.cons_append, List.nil_append, Nat.reduceAdd])) | simp -implicitDefEqProofs only [EN, lsub, lget, stL, beq_self_eq_true, ne_eq, if_true, if_false, List.cons_append, List.nil_append, Option.isNone_some, Option.isNone_none, f2, ew]))
      refine hK () _ hib ⟨fun j hj hji => ?_, (by first | assumption | exact St.tick (by assumption) | exact St.tick (St.tick (by assumption)))⟩
      by_cases e : j = i
      · subst e; exact he
      · exact hno j hj (by omega)
  · have hp : plcO l d = none := plcO_none.2 fun x hx => by
      obtain ⟨j, hj, rfl⟩ := List.getElem_of_mem hx
      exact hno j hj (by omega)
    rw [hp] at hk
    (repeat (first | (first | (with_reducible (first | refine w1 fun _ _ => ?_ | refine w3 fun _ _ _ => ?_ | refine w4 fun _ _ _ => ?_ | refine w11 fun _ _ _ => ?_ | refine stb_n ?_)) | ((with_reducible refine w2 ?_); try simp -implicitDefEqProofs only [EN, lsub, lget, stL, beq_self_eq_true, ne_eq, if_true, if_false, List.cons_append, List.nil_append, Option.isNone_some, Option.isNone_none, hlt]; intro _ _) | ((with_reducible (first | refine w5 ?_ ?_ | refine w6 ?_ ?_ | refine w7 ?_ ?_)); simp; refine ⟨_, rfl, ?_⟩) | ((with_reducible (first | refine w8 ?_ ?_ ?_ | refine w9 ?_ ?_ ?_ | refine w10 ?_ ?_ ?_)); exact rfl; simp) | ((with_reducible refine w12 ?_ ?_ ?_ fun _ _ => ?_); simp; simp; simp [oneC]) | ((with_reducible (first | refine eqs ?_ | refine nes ?_)); refine ⟨_, rfl, ?_⟩) | ((refine okF_i (bldP_eq rfl) ?_); try simp only [BLS, List.take_succ_cons, List.take_zero, List.drop_succ_cons, List.drop_zero, List.cons_append, List.nil_append, Nat.reduceAdd])) | simp -implicitDefEqProofs only [EN, lsub, lget, stL, beq_self_eq_true, ne_eq, if_true, if_false, List.cons_append, List.nil_append, Option.isNone_some, Option.isNone_none, hlt]))
    exact hk _ (St.drop (by first | assumption | exact St.tick (by assumption) | exact St.tick (St.tick (by assumption))))
set_option maxRecDepth 100000 in
set_option maxHeartbeats 4000000 in
theorem lawTogether (h00 : W0.drawn = 0) {a : Option Addr} {c : Nat} {l : List Ins} {x y : Dot} {k : Value → World → Prop} (h : St W0 L W) [hr : Rd W0 L a INS l] (hl : l.length < 1000000)
    (hk : ∀ W', St W0 L W' → k (.bool (togO (groupsTop l) x y)) W') : callK PR F_rostrumlaw18_together [.slice a l.length c, .agg #[.int .i64 x.rep, .int .i64 x.n], .agg #[.int .i64 y.rep, .int .i64 y.n]] k W := by
  apply S.rostrumlaw18_together.call
  unfold S.rostrumlaw18_together.body
  refine bxa h fun bx W1 h => ?_
  refine bxa h fun by_ W2 h => ?_
  have h : St W0 (cells by_ [.int .i64 y.rep, .int .i64 y.n] T_api_Dot :: cells bx [.int .i64 x.rep, .int .i64 x.n] T_api_Dot :: L) W2 := h
  refine ordGroupsTop (l := l) (a := a) h00 h hl fun ag cg W3 h => ?_
  generalize groupsTop l = gs at *
  obtain ⟨rows, hrows, h⟩ := ld_at h
  have hrl : rows.length = gs.length := by rw [← hrows, List.length_map]
  refine loop_c (σ := Unit) gs.length (fun i _ => [.pointer (some ⟨bx, 0, none⟩), .pointer (some ⟨by_, 0, none⟩), .slice ag gs.length cg, .int .i64 (i : Int)])
    (fun i _ W1 => togO (gs.take i) x y = false ∧ St W0 (arr DSY T_s_api_Dot ag cg rows :: many dch rows :: cells by_ [.int .i64 y.rep, .int .i64 y.n] T_api_Dot :: cells bx [.int .i64 x.rep, .int .i64 x.n] T_api_Dot :: L) W1) () rfl ⟨rfl, h⟩ ?_
  clear h
  rintro K i _ W4 hi ⟨hno, h⟩ hK
  simp -implicitDefEqProofs only [EN, lsub, lget, stL, beq_self_eq_true, ne_eq, if_true, if_false, List.cons_append, List.nil_append, Option.isNone_some, Option.isNone_none]
  unfold S.rostrumlaw18_together.l1
  have hcap := (St.arrFacts (St.wk (L' := [arr DSY T_s_api_Dot ag cg rows]) h)).2.1
  have hcap1 := (St.arrFacts (St.wk (L' := [arr DSY T_s_api_Dot ag cg rows]) h)).1
  simp only [maxLen] at hcap
  by_cases hlt : (i : Int) < (gs.length : Int)
  · have hib : i < gs.length := by omega
    have hir : i < rows.length := by omega
    have ew : IntKind.i64.wrap ((i : Int) + 1) = ((i + 1 : Nat) : Int) := by rw [i64w]; omega
    have hrow : rows[i].l = gs[i] := by
      have : (rows.map (·.l))[i]'(by simpa using hir) = gs[i] := by simp only [hrows]
      simpa using this
    have hmr : rows[i] ∈ rows := List.getElem_mem hir
    have htk : togO (gs.take (i + 1)) x y = (rows[i].l.any (fun d => decide (d = x)) && rows[i].l.any fun d => decide (d = y)) := by
      unfold togO at hno ⊢
      rw [List.take_succ_eq_append_getElem hib, List.any_append, hno, Bool.false_or, hrow]; simp
    have hall : togO (gs.take (i + 1)) x y = true → togO gs x y = true := fun h => by
      unfold togO at h ⊢
      rw [List.any_eq_true] at h ⊢
      obtain ⟨g, hg, h⟩ := h
      exact ⟨g, List.mem_of_mem_take hg, h⟩
    obtain ⟨gg, og, e1⟩ := posAddr (i := i) (a := ag) (A := DSY) (l := rows) h hir
    subst e1
    have ei := ix2 (n := gs.length) hib gg og cg
    have eld : getL false (DSY.row rows[i]) 0 1 = some rows[i].v := rfl
    (repeat (first | (first | (with_reducible (first | refine w1 fun _ _ => ?_ | refine w3 fun _ _ _ => ?_ | refine w4 fun _ _ _ => ?_ | refine w11 fun _ _ _ => ?_ | refine stb_n ?_)) | ((with_reducible refine w2 ?_); try simp -implicitDefEqProofs only [EN, lsub, lget, stL, beq_self_eq_true, ne_eq, if_true, if_false, List.cons_append, List.nil_append, Option.isNone_some, Option.isNone_none, hlt]; intro _ _) | ((with_reducible (first | refine w5 ?_ ?_ | refine w6 ?_ ?_ | refine w7 ?_ ?_)); simp; refine ⟨_, rfl, ?_⟩) | ((with_reducible (first | refine w8 ?_ ?_ ?_ | refine w9 ?_ ?_ ?_ | refine w10 ?_ ?_ ?_)); exact rfl; simp) | ((with_reducible refine w12 ?_ ?_ ?_ fun _ _ => ?_); simp; simp; simp [oneC]) | ((with_reducible (first | refine eqs ?_ | refine nes ?_)); refine ⟨_, rfl, ?_⟩) | ((refine okF_i (bldP_eq rfl) ?_); try simp only [BLS, List.take_succ_cons, List.take_zero, List.drop_succ_cons, List.drop_zero, List.cons_append, List.nil_append, Nat.reduceAdd])) | simp -implicitDefEqProofs only [EN, lsub, lget, stL, beq_self_eq_true, ne_eq, if_true, if_false, List.cons_append, List.nil_append, Option.isNone_some, Option.isNone_none, hlt]))
    refine joinK_i ?_
    refine joinK_i ?_
    refine loop_c (σ := Unit) rows[i].l.length (fun j _ => [.pointer (some ⟨bx, 0, none⟩), .pointer (some ⟨by_, 0, none⟩), .slice (some ⟨gg, og, none⟩) gs.length cg, .int .i64 (i : Int), .bool ((rows[i].l.take j).any fun d => decide (d = x)), .bool ((rows[i].l.take j).any fun d => decide (d = y)), .int .i64 (j : Int)])
      (fun j _ W1 => St W0 (arr DSY T_s_api_Dot (some ⟨gg, og, none⟩) cg rows :: many dch rows :: cells by_ [.int .i64 y.rep, .int .i64 y.n] T_api_Dot :: cells bx [.int .i64 x.rep, .int .i64 x.n] T_api_Dot :: L) W1) () rfl h ?_
    clear h
    rintro K2 j _ W5 hj h hK2
    simp -implicitDefEqProofs only [EN, lsub, lget, stL, beq_self_eq_true, ne_eq, if_true, if_false, List.cons_append, List.nil_append, Option.isNone_some, Option.isNone_none]
    unfold S.rostrumlaw18_together.l2
    haveI hrd := dch_rd (W0 := W0) (L := cells by_ [.int .i64 y.rep, .int .i64 y.n] T_api_Dot :: cells bx [.int .i64 x.rep, .int .i64 x.n] T_api_Dot :: L) hmr
    (repeat (first | (first | (with_reducible (first | refine w1 fun _ _ => ?_ | refine w3 fun _ _ _ => ?_ | refine w4 fun _ _ _ => ?_ | refine w11 fun _ _ _ => ?_ | refine stb_n ?_)) | ((with_reducible refine w2 ?_); try simp -implicitDefEqProofs only [EN, lsub, lget, stL, beq_self_eq_true, ne_eq, if_true, if_false, List.cons_append, List.nil_append, Option.isNone_some, Option.isNone_none, ei]; intro _ _) | ((with_reducible (first | refine w5 ?_ ?_ | refine w6 ?_ ?_ | refine w7 ?_ ?_)); simp; refine ⟨_, rfl, ?_⟩) | ((with_reducible (first | refine w8 ?_ ?_ ?_ | refine w9 ?_ ?_ ?_ | refine w10 ?_ ?_ ?_)); exact rfl; simp) | ((with_reducible refine w12 ?_ ?_ ?_ fun _ _ => ?_); simp; simp; simp [oneC]) | ((with_reducible (first | refine eqs ?_ | refine nes ?_)); refine ⟨_, rfl, ?_⟩) | ((refine okF_i (bldP_eq rfl) ?_); try simp only [BLS, List.take_succ_cons, List.take_zero, List.drop_succ_cons, List.drop_zero, List.cons_append, List.nil_append, Nat.reduceAdd])) | simp -implicitDefEqProofs only [EN, lsub, lget, stL, beq_self_eq_true, ne_eq, if_true, if_false, List.cons_append, List.nil_append, Option.isNone_some, Option.isNone_none, ei]))
    refine ldA0 (i := i) (l := rows) (A := DSY) (by first | assumption | exact St.tick (by assumption) | exact St.tick (St.tick (by assumption))) rfl hir eld (by simp) ?_
    generalize hri : rows[i] = r at *
    obtain ⟨ra, rc, rl⟩ := r
    simp only at hrow htk hj hK2 ⊢
    by_cases hlt2 : (j : Int) < (rl.length : Int)
    · have hjb : j < rl.length := by omega
      obtain ⟨gr, or', e2⟩ := posAddr (i := j) (a := ra) (A := DOT) (l := rl) h hjb
      subst e2
      have hrf : rl.length ≤ rc ∧ rc ≤ maxLen := by
        obtain ⟨A, B, e⟩ := List.append_of_mem hmr
        have h1 := (St.wk (L' := many dch rows :: []) h).ent ((many_perm (F := dch) (by rw [e]; exact List.perm_middle)).trans (many_cons _ _))
        have := St.arrFacts h1
        exact ⟨this.1, this.2.1⟩
      simp only [maxLen] at hrf
      have ew2 : IntKind.i64.wrap ((j : Int) + 1) = ((j + 1 : Nat) : Int) := by rw [i64w]; omega
      have ed : idxS 2 (.slice (some ⟨gr, or', none⟩) rl.length rc) (.int .i64 (j : Int)) = some (.pointer (some ⟨gr, or' + j * 2, none⟩)) := by rw [idxS_blk (by omega) (by omega), Int.toNat_natCast]
      have tk : ∀ z : Dot, ((rl.take (j + 1)).any fun d => decide (d = z)) = (((rl.take j).any fun d => decide (d = z)) || decide (rl[j] = z)) := fun z => by
        rw [List.take_succ_eq_append_getElem hjb, List.any_append]; simp
      have hK3 := hK2 ()
      rw [tk, tk] at hK3
      have edot : getL true (DOT.row rl[j]) 0 2 = some (.agg #[.int .i64 (rl[j]).rep, .int .i64 (rl[j]).n]) := rfl
      have ex := dot_eq rl[j] x
      have ey := dot_eq rl[j] y
      have dl : (⟨some ⟨gr, or', none⟩, rc, rl⟩ : DSl).v = .slice (some ⟨gr, or', none⟩) rl.length rc := rfl
      rw [dl]
      have eld : getL false (DSY.row rows[i]) 0 1 = some (.slice (some ⟨gr, or', none⟩) rl.length rc) := by rw [hri]; rfl
      cases hbx : (rl.take j).any (fun d => decide (d = x)) <;> cases hby : (rl.take j).any (fun d => decide (d = y)) <;> rw [hbx, hby] at hK3 <;> simp only [Bool.true_or, Bool.false_or] at hK3
      · (repeat (first | (first | (with_reducible (first | refine w1 fun _ _ => ?_ | refine w3 fun _ _ _ => ?_ | refine w4 fun _ _ _ => ?_ | refine w11 fun _ _ _ => ?_ | refine stb_n ?_)) | ((with_reducible refine w2 ?_); try simp -implicitDefEqProofs only [EN, lsub, lget, stL, beq_self_eq_true, ne_eq, if_true, if_false, List.cons_append, List.nil_append, Option.isNone_some, Option.isNone_none, hlt2, ei]; intro _ _) | ((with_reducible (first | refine w5 ?_ ?_ | refine w6 ?_ ?_ | refine w7 ?_ ?_)); simp; refine ⟨_, rfl, ?_⟩) | ((with_reducible (first | refine w8 ?_ ?_ ?_ | refine w9 ?_ ?_ ?_ | refine w10 ?_ ?_ ?_)); exact rfl; simp) | ((with_reducible refine w12 ?_ ?_ ?_ fun _ _ => ?_); simp; simp; simp [oneC]) | ((with_reducible (first | refine eqs ?_ | refine nes ?_)); refine ⟨_, rfl, ?_⟩) | ((refine okF_i (bldP_eq rfl) ?_); try simp only [BLS, List.take_succ_cons, List.take_zero, List.drop_succ_cons, List.drop_zero, List.cons_append, List.nil_append, Nat.reduceAdd])) | simp -implicitDefEqProofs only [EN, lsub, lget, stL, beq_self_eq_true, ne_eq, if_true, if_false, List.cons_append, List.nil_append, Option.isNone_some, Option.isNone_none, hlt2, ei]))
        refine ldA0 (i := i) (l := rows) (A := DSY) (by first | assumption | exact St.tick (by assumption) | exact St.tick (St.tick (by assumption))) rfl hir eld (by simp) ?_
        (repeat (first | (first | (with_reducible (first | refine w1 fun _ _ => ?_ | refine w3 fun _ _ _ => ?_ | refine w4 fun _ _ _ => ?_ | refine w11 fun _ _ _ => ?_ | refine stb_n ?_)) | ((with_reducible refine w2 ?_); try simp -implicitDefEqProofs only [EN, lsub, lget, stL, beq_self_eq_true, ne_eq, if_true, if_false, List.cons_append, List.nil_append, Option.isNone_some, Option.isNone_none, ed]; intro _ _) | ((with_reducible (first | refine w5 ?_ ?_ | refine w6 ?_ ?_ | refine w7 ?_ ?_)); simp; refine ⟨_, rfl, ?_⟩) | ((with_reducible (first | refine w8 ?_ ?_ ?_ | refine w9 ?_ ?_ ?_ | refine w10 ?_ ?_ ?_)); exact rfl; simp) | ((with_reducible refine w12 ?_ ?_ ?_ fun _ _ => ?_); simp; simp; simp [oneC]) | ((with_reducible (first | refine eqs ?_ | refine nes ?_)); refine ⟨_, rfl, ?_⟩) | ((refine okF_i (bldP_eq rfl) ?_); try simp only [BLS, List.take_succ_cons, List.take_zero, List.drop_succ_cons, List.drop_zero, List.cons_append, List.nil_append, Nat.reduceAdd])) | simp -implicitDefEqProofs only [EN, lsub, lget, stL, beq_self_eq_true, ne_eq, if_true, if_false, List.cons_append, List.nil_append, Option.isNone_some, Option.isNone_none, ed]))
        refine ldA0 (i := j) (l := rl) (A := DOT) (by first | assumption | exact St.tick (by assumption) | exact St.tick (St.tick (by assumption))) rfl hjb edot (by simp) ?_
        (repeat (first | (first | (with_reducible (first | refine w1 fun _ _ => ?_ | refine w3 fun _ _ _ => ?_ | refine w4 fun _ _ _ => ?_ | refine w11 fun _ _ _ => ?_ | refine stb_n ?_)) | ((with_reducible refine w2 ?_); try simp -implicitDefEqProofs only [EN, lsub, lget, stL, beq_self_eq_true, ne_eq, if_true, if_false, List.cons_append, List.nil_append, Option.isNone_some, Option.isNone_none, ex, ei]; intro _ _) | ((with_reducible (first | refine w5 ?_ ?_ | refine w6 ?_ ?_ | refine w7 ?_ ?_)); simp; refine ⟨_, rfl, ?_⟩) | ((with_reducible (first | refine w8 ?_ ?_ ?_ | refine w9 ?_ ?_ ?_ | refine w10 ?_ ?_ ?_)); exact rfl; simp) | ((with_reducible refine w12 ?_ ?_ ?_ fun _ _ => ?_); simp; simp; simp [oneC]) | ((with_reducible (first | refine eqs ?_ | refine nes ?_)); refine ⟨_, rfl, ?_⟩) | ((refine okF_i (bldP_eq rfl) ?_); try simp only [BLS, List.take_succ_cons, List.take_zero, List.drop_succ_cons, List.drop_zero, List.cons_append, List.nil_append, Nat.reduceAdd])) | simp -implicitDefEqProofs only [EN, lsub, lget, stL, beq_self_eq_true, ne_eq, if_true, if_false, List.cons_append, List.nil_append, Option.isNone_some, Option.isNone_none, ex, ei]))
        refine ldA0 (i := i) (l := rows) (A := DSY) (by first | assumption | exact St.tick (by assumption) | exact St.tick (St.tick (by assumption))) rfl hir eld (by simp) ?_
        (repeat (first | (first | (with_reducible (first | refine w1 fun _ _ => ?_ | refine w3 fun _ _ _ => ?_ | refine w4 fun _ _ _ => ?_ | refine w11 fun _ _ _ => ?_ | refine stb_n ?_)) | ((with_reducible refine w2 ?_); try simp -implicitDefEqProofs only [EN, lsub, lget, stL, beq_self_eq_true, ne_eq, if_true, if_false, List.cons_append, List.nil_append, Option.isNone_some, Option.isNone_none, ed]; intro _ _) | ((with_reducible (first | refine w5 ?_ ?_ | refine w6 ?_ ?_ | refine w7 ?_ ?_)); simp; refine ⟨_, rfl, ?_⟩) | ((with_reducible (first | refine w8 ?_ ?_ ?_ | refine w9 ?_ ?_ ?_ | refine w10 ?_ ?_ ?_)); exact rfl; simp) | ((with_reducible refine w12 ?_ ?_ ?_ fun _ _ => ?_); simp; simp; simp [oneC]) | ((with_reducible (first | refine eqs ?_ | refine nes ?_)); refine ⟨_, rfl, ?_⟩) | ((refine okF_i (bldP_eq rfl) ?_); try simp only [BLS, List.take_succ_cons, List.take_zero, List.drop_succ_cons, List.drop_zero, List.cons_append, List.nil_append, Nat.reduceAdd])) | simp -implicitDefEqProofs only [EN, lsub, lget, stL, beq_self_eq_true, ne_eq, if_true, if_false, List.cons_append, List.nil_append, Option.isNone_some, Option.isNone_none, ed]))
        refine ldA0 (i := j) (l := rl) (A := DOT) (by first | assumption | exact St.tick (by assumption) | exact St.tick (St.tick (by assumption))) rfl hjb edot (by simp) ?_
        (repeat (first | (first | (with_reducible (first | refine w1 fun _ _ => ?_ | refine w3 fun _ _ _ => ?_ | refine w4 fun _ _ _ => ?_ | refine w11 fun _ _ _ => ?_ | refine stb_n ?_)) | ((with_reducible refine w2 ?_); try simp -implicitDefEqProofs only [EN, lsub, lget, stL, beq_self_eq_true, ne_eq, if_true, if_false, List.cons_append, List.nil_append, Option.isNone_some, Option.isNone_none, ey, ew2]; intro _ _) | ((with_reducible (first | refine w5 ?_ ?_ | refine w6 ?_ ?_ | refine w7 ?_ ?_)); simp; refine ⟨_, rfl, ?_⟩) | ((with_reducible (first | refine w8 ?_ ?_ ?_ | refine w9 ?_ ?_ ?_ | refine w10 ?_ ?_ ?_)); exact rfl; simp) | ((with_reducible refine w12 ?_ ?_ ?_ fun _ _ => ?_); simp; simp; simp [oneC]) | ((with_reducible (first | refine eqs ?_ | refine nes ?_)); refine ⟨_, rfl, ?_⟩) | ((refine okF_i (bldP_eq rfl) ?_); try simp only [BLS, List.take_succ_cons, List.take_zero, List.drop_succ_cons, List.drop_zero, List.cons_append, List.nil_append, Nat.reduceAdd])) | simp -implicitDefEqProofs only [EN, lsub, lget, stL, beq_self_eq_true, ne_eq, if_true, if_false, List.cons_append, List.nil_append, Option.isNone_some, Option.isNone_none, ey, ew2]))
        exact hK3 _ hjb (by first | assumption | exact St.tick (by assumption) | exact St.tick (St.tick (by assumption)))
      · (repeat (first | (first | (with_reducible (first | refine w1 fun _ _ => ?_ | refine w3 fun _ _ _ => ?_ | refine w4 fun _ _ _ => ?_ | refine w11 fun _ _ _ => ?_ | refine stb_n ?_)) | ((with_reducible refine w2 ?_); try simp -implicitDefEqProofs only [EN, lsub, lget, stL, beq_self_eq_true, ne_eq, if_true, if_false, List.cons_append, List.nil_append, Option.isNone_some, Option.isNone_none, hlt2, ei]; intro _ _) | ((with_reducible (first | refine w5 ?_ ?_ | refine w6 ?_ ?_ | refine w7 ?_ ?_)); simp; refine ⟨_, rfl, ?_⟩) | ((with_reducible (first | refine w8 ?_ ?_ ?_ | refine w9 ?_ ?_ ?_ | refine w10 ?_ ?_ ?_)); exact rfl; simp) | ((with_reducible refine w12 ?_ ?_ ?_ fun _ _ => ?_); simp; simp; simp [oneC]) | ((with_reducible (first | refine eqs ?_ | refine nes ?_)); refine ⟨_, rfl, ?_⟩) | ((refine okF_i (bldP_eq rfl) ?_); try simp only [BLS, List.take_succ_cons, List.take_zero, List.drop_succ_cons, List.drop_zero, List.cons_append, List.nil_append, Nat.reduceAdd])) | simp -implicitDefEqProofs only [EN, lsub, lget, stL, beq_self_eq_true, ne_eq, if_true, if_false, List.cons_append, List.nil_append, Option.isNone_some, Option.isNone_none, hlt2, ei]))
        refine ldA0 (i := i) (l := rows) (A := DSY) (by first | assumption | exact St.tick (by assumption) | exact St.tick (St.tick (by assumption))) rfl hir eld (by simp) ?_
        (repeat (first | (first | (with_reducible (first | refine w1 fun _ _ => ?_ | refine w3 fun _ _ _ => ?_ | refine w4 fun _ _ _ => ?_ | refine w11 fun _ _ _ => ?_ | refine stb_n ?_)) | ((with_reducible refine w2 ?_); try simp -implicitDefEqProofs only [EN, lsub, lget, stL, beq_self_eq_true, ne_eq, if_true, if_false, List.cons_append, List.nil_append, Option.isNone_some, Option.isNone_none, ed]; intro _ _) | ((with_reducible (first | refine w5 ?_ ?_ | refine w6 ?_ ?_ | refine w7 ?_ ?_)); simp; refine ⟨_, rfl, ?_⟩) | ((with_reducible (first | refine w8 ?_ ?_ ?_ | refine w9 ?_ ?_ ?_ | refine w10 ?_ ?_ ?_)); exact rfl; simp) | ((with_reducible refine w12 ?_ ?_ ?_ fun _ _ => ?_); simp; simp; simp [oneC]) | ((with_reducible (first | refine eqs ?_ | refine nes ?_)); refine ⟨_, rfl, ?_⟩) | ((refine okF_i (bldP_eq rfl) ?_); try simp only [BLS, List.take_succ_cons, List.take_zero, List.drop_succ_cons, List.drop_zero, List.cons_append, List.nil_append, Nat.reduceAdd])) | simp -implicitDefEqProofs only [EN, lsub, lget, stL, beq_self_eq_true, ne_eq, if_true, if_false, List.cons_append, List.nil_append, Option.isNone_some, Option.isNone_none, ed]))
        refine ldA0 (i := j) (l := rl) (A := DOT) (by first | assumption | exact St.tick (by assumption) | exact St.tick (St.tick (by assumption))) rfl hjb edot (by simp) ?_
        (repeat (first | (first | (with_reducible (first | refine w1 fun _ _ => ?_ | refine w3 fun _ _ _ => ?_ | refine w4 fun _ _ _ => ?_ | refine w11 fun _ _ _ => ?_ | refine stb_n ?_)) | ((with_reducible refine w2 ?_); try simp -implicitDefEqProofs only [EN, lsub, lget, stL, beq_self_eq_true, ne_eq, if_true, if_false, List.cons_append, List.nil_append, Option.isNone_some, Option.isNone_none, ex, ew2]; intro _ _) | ((with_reducible (first | refine w5 ?_ ?_ | refine w6 ?_ ?_ | refine w7 ?_ ?_)); simp; refine ⟨_, rfl, ?_⟩) | ((with_reducible (first | refine w8 ?_ ?_ ?_ | refine w9 ?_ ?_ ?_ | refine w10 ?_ ?_ ?_)); exact rfl; simp) | ((with_reducible refine w12 ?_ ?_ ?_ fun _ _ => ?_); simp; simp; simp [oneC]) | ((with_reducible (first | refine eqs ?_ | refine nes ?_)); refine ⟨_, rfl, ?_⟩) | ((refine okF_i (bldP_eq rfl) ?_); try simp only [BLS, List.take_succ_cons, List.take_zero, List.drop_succ_cons, List.drop_zero, List.cons_append, List.nil_append, Nat.reduceAdd])) | simp -implicitDefEqProofs only [EN, lsub, lget, stL, beq_self_eq_true, ne_eq, if_true, if_false, List.cons_append, List.nil_append, Option.isNone_some, Option.isNone_none, ex, ew2]))
        exact hK3 _ hjb (by first | assumption | exact St.tick (by assumption) | exact St.tick (St.tick (by assumption)))
      · (repeat (first | (first | (with_reducible (first | refine w1 fun _ _ => ?_ | refine w3 fun _ _ _ => ?_ | refine w4 fun _ _ _ => ?_ | refine w11 fun _ _ _ => ?_ | refine stb_n ?_)) | ((with_reducible refine w2 ?_); try simp -implicitDefEqProofs only [EN, lsub, lget, stL, beq_self_eq_true, ne_eq, if_true, if_false, List.cons_append, List.nil_append, Option.isNone_some, Option.isNone_none, hlt2, ei]; intro _ _) | ((with_reducible (first | refine w5 ?_ ?_ | refine w6 ?_ ?_ | refine w7 ?_ ?_)); simp; refine ⟨_, rfl, ?_⟩) | ((with_reducible (first | refine w8 ?_ ?_ ?_ | refine w9 ?_ ?_ ?_ | refine w10 ?_ ?_ ?_)); exact rfl; simp) | ((with_reducible refine w12 ?_ ?_ ?_ fun _ _ => ?_); simp; simp; simp [oneC]) | ((with_reducible (first | refine eqs ?_ | refine nes ?_)); refine ⟨_, rfl, ?_⟩) | ((refine okF_i (bldP_eq rfl) ?_); try simp only [BLS, List.take_succ_cons, List.take_zero, List.drop_succ_cons, List.drop_zero, List.cons_append, List.nil_append, Nat.reduceAdd])) | simp -implicitDefEqProofs only [EN, lsub, lget, stL, beq_self_eq_true, ne_eq, if_true, if_false, List.cons_append, List.nil_append, Option.isNone_some, Option.isNone_none, hlt2, ei]))
        refine ldA0 (i := i) (l := rows) (A := DSY) (by first | assumption | exact St.tick (by assumption) | exact St.tick (St.tick (by assumption))) rfl hir eld (by simp) ?_
        (repeat (first | (first | (with_reducible (first | refine w1 fun _ _ => ?_ | refine w3 fun _ _ _ => ?_ | refine w4 fun _ _ _ => ?_ | refine w11 fun _ _ _ => ?_ | refine stb_n ?_)) | ((with_reducible refine w2 ?_); try simp -implicitDefEqProofs only [EN, lsub, lget, stL, beq_self_eq_true, ne_eq, if_true, if_false, List.cons_append, List.nil_append, Option.isNone_some, Option.isNone_none, ed]; intro _ _) | ((with_reducible (first | refine w5 ?_ ?_ | refine w6 ?_ ?_ | refine w7 ?_ ?_)); simp; refine ⟨_, rfl, ?_⟩) | ((with_reducible (first | refine w8 ?_ ?_ ?_ | refine w9 ?_ ?_ ?_ | refine w10 ?_ ?_ ?_)); exact rfl; simp) | ((with_reducible refine w12 ?_ ?_ ?_ fun _ _ => ?_); simp; simp; simp [oneC]) | ((with_reducible (first | refine eqs ?_ | refine nes ?_)); refine ⟨_, rfl, ?_⟩) | ((refine okF_i (bldP_eq rfl) ?_); try simp only [BLS, List.take_succ_cons, List.take_zero, List.drop_succ_cons, List.drop_zero, List.cons_append, List.nil_append, Nat.reduceAdd])) | simp -implicitDefEqProofs only [EN, lsub, lget, stL, beq_self_eq_true, ne_eq, if_true, if_false, List.cons_append, List.nil_append, Option.isNone_some, Option.isNone_none, ed]))
        refine ldA0 (i := j) (l := rl) (A := DOT) (by first | assumption | exact St.tick (by assumption) | exact St.tick (St.tick (by assumption))) rfl hjb edot (by simp) ?_
        (repeat (first | (first | (with_reducible (first | refine w1 fun _ _ => ?_ | refine w3 fun _ _ _ => ?_ | refine w4 fun _ _ _ => ?_ | refine w11 fun _ _ _ => ?_ | refine stb_n ?_)) | ((with_reducible refine w2 ?_); try simp -implicitDefEqProofs only [EN, lsub, lget, stL, beq_self_eq_true, ne_eq, if_true, if_false, List.cons_append, List.nil_append, Option.isNone_some, Option.isNone_none, ey, ew2]; intro _ _) | ((with_reducible (first | refine w5 ?_ ?_ | refine w6 ?_ ?_ | refine w7 ?_ ?_)); simp; refine ⟨_, rfl, ?_⟩) | ((with_reducible (first | refine w8 ?_ ?_ ?_ | refine w9 ?_ ?_ ?_ | refine w10 ?_ ?_ ?_)); exact rfl; simp) | ((with_reducible refine w12 ?_ ?_ ?_ fun _ _ => ?_); simp; simp; simp [oneC]) | ((with_reducible (first | refine eqs ?_ | refine nes ?_)); refine ⟨_, rfl, ?_⟩) | ((refine okF_i (bldP_eq rfl) ?_); try simp only [BLS, List.take_succ_cons, List.take_zero, List.drop_succ_cons, List.drop_zero, List.cons_append, List.nil_append, Nat.reduceAdd])) | simp -implicitDefEqProofs only [EN, lsub, lget, stL, beq_self_eq_true, ne_eq, if_true, if_false, List.cons_append, List.nil_append, Option.isNone_some, Option.isNone_none, ey, ew2]))
        exact hK3 _ hjb (by first | assumption | exact St.tick (by assumption) | exact St.tick (St.tick (by assumption)))
      · (repeat (first | (first | (with_reducible (first | refine w1 fun _ _ => ?_ | refine w3 fun _ _ _ => ?_ | refine w4 fun _ _ _ => ?_ | refine w11 fun _ _ _ => ?_ | refine stb_n ?_)) | ((with_reducible refine w2 ?_); try simp -implicitDefEqProofs only [EN, lsub, lget, stL, beq_self_eq_true, ne_eq, if_true, if_false, List.cons_append, List.nil_append, Option.isNone_some, Option.isNone_none, hlt2, ew2]; intro _ _) | ((with_reducible (first | refine w5 ?_ ?_ | refine w6 ?_ ?_ | refine w7 ?_ ?_)); simp; refine ⟨_, rfl, ?_⟩) | ((with_reducible (first | refine w8 ?_ ?_ ?_ | refine w9 ?_ ?_ ?_ | refine w10 ?_ ?_ ?_)); exact rfl; simp) | ((with_reducible refine w12 ?_ ?_ ?_ fun _ _ => ?_); simp; simp; simp [oneC]) | ((with_reducible (first | refine eqs ?_ | refine nes ?_)); refine ⟨_, rfl, ?_⟩) | ((refine okF_i (bldP_eq rfl) ?_); try simp only [BLS, List.take_succ_cons, List.take_zero, List.drop_succ_cons, List.drop_zero, List.cons_append, List.nil_append, Nat.reduceAdd])) | simp -implicitDefEqProofs only [EN, lsub, lget, stL, beq_self_eq_true, ne_eq, if_true, if_false, List.cons_append, List.nil_append, Option.isNone_some, Option.isNone_none, hlt2, ew2]))
        exact hK3 _ hjb (by first | assumption | exact St.tick (by assumption) | exact St.tick (St.tick (by assumption)))
    · have hjl : j = rl.length := by omega
      subst hjl
      rw [List.take_length]
      have dl : (⟨ra, rc, rl⟩ : DSl).v = .slice ra rl.length rc := rfl
      rw [dl]
      (repeat (first | (first | (with_reducible (first | refine w1 fun _ _ => ?_ | refine w3 fun _ _ _ => ?_ | refine w4 fun _ _ _ => ?_ | refine w11 fun _ _ _ => ?_ | refine stb_n ?_)) | ((with_reducible refine w2 ?_); try simp -implicitDefEqProofs only [EN, lsub, lget, stL, beq_self_eq_true, ne_eq, if_true, if_false, List.cons_append, List.nil_append, Option.isNone_some, Option.isNone_none, hlt2]; intro _ _) | ((with_reducible (first | refine w5 ?_ ?_ | refine w6 ?_ ?_ | refine w7 ?_ ?_)); simp; refine ⟨_, rfl, ?_⟩) | ((with_reducible (first | refine w8 ?_ ?_ ?_ | refine w9 ?_ ?_ ?_ | refine w10 ?_ ?_ ?_)); exact rfl; simp) | ((with_reducible refine w12 ?_ ?_ ?_ fun _ _ => ?_); simp; simp; simp [oneC]) | ((with_reducible (first | refine eqs ?_ | refine nes ?_)); refine ⟨_, rfl, ?_⟩) | ((refine okF_i (bldP_eq rfl) ?_); try simp only [BLS, List.take_succ_cons, List.take_zero, List.drop_succ_cons, List.drop_zero, List.cons_append, List.nil_append, Nat.reduceAdd])) | simp -implicitDefEqProofs only [EN, lsub, lget, stL, beq_self_eq_true, ne_eq, if_true, if_false, List.cons_append, List.nil_append, Option.isNone_some, Option.isNone_none, hlt2]))
      unfold S.rostrumlaw18_together.j2
      cases hbx : rl.any (fun d => decide (d = x)) with
      | false =>
        rw [hbx, Bool.false_and] at htk
        (repeat (first | (first | (with_reducible (first | refine w1 fun _ _ => ?_ | refine w3 fun _ _ _ => ?_ | refine w4 fun _ _ _ => ?_ | refine w11 fun _ _ _ => ?_ | refine stb_n ?_)) | ((with_reducible refine w2 ?_); try simp -implicitDefEqProofs only [EN, lsub, lget, stL, beq_self_eq_true, ne_eq, if_true, if_false, List.cons_append, List.nil_append, Option.isNone_some, Option.isNone_none]; intro _ _) | ((with_reducible (first | refine w5 ?_ ?_ | refine w6 ?_ ?_ | refine w7 ?_ ?_)); simp; refine ⟨_, rfl, ?_⟩) | ((with_reducible (first | refine w8 ?_ ?_ ?_ | refine w9 ?_ ?_ ?_ | refine w10 ?_ ?_ ?_)); exact rfl; simp) | ((with_reducible refine w12 ?_ ?_ ?_ fun _ _ => ?_); simp; simp; simp [oneC]) | ((with_reducible (first | refine eqs ?_ | refine nes ?_)); refine ⟨_, rfl, ?_⟩) | ((refine okF_i (bldP_eq rfl) ?_); try simp only [BLS, List.take_succ_cons, List.take_zero, List.drop_succ_cons, List.drop_zero, List.cons_append, List.nil_append, Nat.reduceAdd])) | simp -implicitDefEqProofs only [EN, lsub, lget, stL, beq_self_eq_true, ne_eq, if_true, if_false, List.cons_append, List.nil_append, Option.isNone_some, Option.isNone_none]))
        unfold S.rostrumlaw18_together.j1
        (repeat (first | (first | (with_reducible (first | refine w1 fun _ _ => ?_ | refine w3 fun _ _ _ => ?_ | refine w4 fun _ _ _ => ?_ | refine w11 fun _ _ _ => ?_ | refine stb_n ?_)) | ((with_reducible refine w2 ?_); try simp -implicitDefEqProofs only [EN, lsub, lget, stL, beq_self_eq_true, ne_eq, if_true, if_false, List.cons_append, List.nil_append, Option.isNone_some, Option.isNone_none, ew]; intro _ _) | ((with_reducible (first | refine w5 ?_ ?_ | refine w6 ?_ ?_ | refine w7 ?_ ?_)); simp; refine ⟨_, rfl, ?_⟩) | ((with_reducible (first | refine w8 ?_ ?_ ?_ | refine w9 ?_ ?_ ?_ | refine w10 ?_ ?_ ?_)); exact rfl; simp) | ((with_reducible refine w12 ?_ ?_ ?_ fun _ _ => ?_); simp; simp; simp [oneC]) | ((with_reducible (first | refine eqs ?_ | refine nes ?_)); refine ⟨_, rfl, ?_⟩) | ((refine okF_i (bldP_eq rfl) ?_); try simp only [BLS, List.take_succ_cons, List.take_zero, List.drop_succ_cons, List.drop_zero, List.cons_append, List.nil_append, Nat.reduceAdd])) | simp -implicitDefEqProofs only [EN, lsub, lget, stL, beq_self_eq_true, ne_eq, if_true, if_false, List.cons_append, List.nil_append, Option.isNone_some, Option.isNone_none, ew]))
        exact hK () _ hib ⟨htk, (by first | assumption | exact St.tick (by assumption) | exact St.tick (St.tick (by assumption)))⟩
      | true =>
        rw [hbx, Bool.true_and] at htk
        cases hby : rl.any (fun d => decide (d = y)) with
        | true =>
          have := hk _ (St.wk (by first | assumption | exact St.tick (by assumption) | exact St.tick (St.tick (by assumption))))
          rw [hall (htk.trans hby)] at this
          (repeat (first | (first | (with_reducible (first | refine w1 fun _ _ => ?_ | refine w3 fun _ _ _ => ?_ | refine w4 fun _ _ _ => ?_ | refine w11 fun _ _ _ => ?_ | refine stb_n ?_)) | ((with_reducible refine w2 ?_); try simp -implicitDefEqProofs only [EN, lsub, lget, stL, beq_self_eq_true, ne_eq, if_true, if_false, List.cons_append, List.nil_append, Option.isNone_some, Option.isNone_none]; intro _ _) | ((with_reducible (first | refine w5 ?_ ?_ | refine w6 ?_ ?_ | refine w7 ?_ ?_)); simp; refine ⟨_, rfl, ?_⟩) | ((with_reducible (first | refine w8 ?_ ?_ ?_ | refine w9 ?_ ?_ ?_ | refine w10 ?_ ?_ ?_)); exact rfl; simp) | ((with_reducible refine w12 ?_ ?_ ?_ fun _ _ => ?_); simp; simp; simp [oneC]) | ((with_reducible (first | refine eqs ?_ | refine nes ?_)); refine ⟨_, rfl, ?_⟩) | ((refine okF_i (bldP_eq rfl) ?_); try simp only [BLS, List.take_succ_cons, List.take_zero, List.drop_succ_cons, List.drop_zero, List.cons_append, List.nil_append, Nat.reduceAdd])) | simp -implicitDefEqProofs only [EN, lsub, lget, stL, beq_self_eq_true, ne_eq, if_true, if_false, List.cons_append, List.nil_append, Option.isNone_some, Option.isNone_none]))
          exact this
        | false =>
          rw [hby] at htk
          (repeat (first | (first | (with_reducible (first | refine w1 fun _ _ => ?_ | refine w3 fun _ _ _ => ?_ | refine w4 fun _ _ _ => ?_ | refine w11 fun _ _ _ => ?_ | refine stb_n ?_)) | ((with_reducible refine w2 ?_); try simp -implicitDefEqProofs only [EN, lsub, lget, stL, beq_self_eq_true, ne_eq, if_true, if_false, List.cons_append, List.nil_append, Option.isNone_some, Option.isNone_none]; intro _ _) | ((with_reducible (first | refine w5 ?_ ?_ | refine w6 ?_ ?_ | refine w7 ?_ ?_)); simp; refine ⟨_, rfl, ?_⟩) | ((with_reducible (first | refine w8 ?_ ?_ ?_ | refine w9 ?_ ?_ ?_ | refine w10 ?_ ?_ ?_)); exact rfl; simp) | ((with_reducible refine w12 ?_ ?_ ?_ fun _ _ => ?_); simp; simp; simp [oneC]) | ((with_reducible (first | refine eqs ?_ | refine nes ?_)); refine ⟨_, rfl, ?_⟩) | ((refine okF_i (bldP_eq rfl) ?_); try simp only [BLS, List.take_succ_cons, List.take_zero, List.drop_succ_cons, List.drop_zero, List.cons_append, List.nil_append, Nat.reduceAdd])) | simp -implicitDefEqProofs only [EN, lsub, lget, stL, beq_self_eq_true, ne_eq, if_true, if_false, List.cons_append, List.nil_append, Option.isNone_some, Option.isNone_none]))
          unfold S.rostrumlaw18_together.j1
          (repeat (first | (first | (with_reducible (first | refine w1 fun _ _ => ?_ | refine w3 fun _ _ _ => ?_ | refine w4 fun _ _ _ => ?_ | refine w11 fun _ _ _ => ?_ | refine stb_n ?_)) | ((with_reducible refine w2 ?_); try simp -implicitDefEqProofs only [EN, lsub, lget, stL, beq_self_eq_true, ne_eq, if_true, if_false, List.cons_append, List.nil_append, Option.isNone_some, Option.isNone_none, ew]; intro _ _) | ((with_reducible (first | refine w5 ?_ ?_ | refine w6 ?_ ?_ | refine w7 ?_ ?_)); simp; refine ⟨_, rfl, ?_⟩) | ((with_reducible (first | refine w8 ?_ ?_ ?_ | refine w9 ?_ ?_ ?_ | refine w10 ?_ ?_ ?_)); exact rfl; simp) | ((with_reducible refine w12 ?_ ?_ ?_ fun _ _ => ?_); simp; simp; simp [oneC]) | ((with_reducible (first | refine eqs ?_ | refine nes ?_)); refine ⟨_, rfl, ?_⟩) | ((refine okF_i (bldP_eq rfl) ?_); try simp only [BLS, List.take_succ_cons, List.take_zero, List.drop_succ_cons, List.drop_zero, List.cons_append, List.nil_append, Nat.reduceAdd])) | simp -implicitDefEqProofs only [EN, lsub, lget, stL, beq_self_eq_true, ne_eq, if_true, if_false, List.cons_append, List.nil_append, Option.isNone_some, Option.isNone_none, ew]))
          exact hK () _ hib ⟨htk, (by first | assumption | exact St.tick (by assumption) | exact St.tick (St.tick (by assumption)))⟩
  · have hil : i = gs.length := by omega
    subst hil
    rw [List.take_length] at hno
    rw [hno] at hk
    (repeat (first | (first | (with_reducible (first | refine w1 fun _ _ => ?_ | refine w3 fun _ _ _ => ?_ | refine w4 fun _ _ _ => ?_ | refine w11 fun _ _ _ => ?_ | refine stb_n ?_)) | ((with_reducible refine w2 ?_); try simp -implicitDefEqProofs only [EN, lsub, lget, stL, beq_self_eq_true, ne_eq, if_true, if_false, List.cons_append, List.nil_append, Option.isNone_some, Option.isNone_none, hlt]; intro _ _) | ((with_reducible (first | refine w5 ?_ ?_ | refine w6 ?_ ?_ | refine w7 ?_ ?_)); simp; refine ⟨_, rfl, ?_⟩) | ((with_reducible (first | refine w8 ?_ ?_ ?_ | refine w9 ?_ ?_ ?_ | refine w10 ?_ ?_ ?_)); exact rfl; simp) | ((with_reducible refine w12 ?_ ?_ ?_ fun _ _ => ?_); simp; simp; simp [oneC]) | ((with_reducible (first | refine eqs ?_ | refine nes ?_)); refine ⟨_, rfl, ?_⟩) | ((refine okF_i (bldP_eq rfl) ?_); try simp only [BLS, List.take_succ_cons, List.take_zero, List.drop_succ_cons, List.drop_zero, List.cons_append, List.nil_append, Nat.reduceAdd])) | simp -implicitDefEqProofs only [EN, lsub, lget, stL, beq_self_eq_true, ne_eq, if_true, if_false, List.cons_append, List.nil_append, Option.isNone_some, Option.isNone_none, hlt]))
    exact hk _ (St.wk (by first | assumption | exact St.tick (by assumption) | exact St.tick (St.tick (by assumption))))
end
end Go.Proofs.YtkjhccpanedccaaGreat
namespace Go.Proofs.YtkjhccpanedccaaGreat
set_option linter.unusedVariables false
set_option linter.unusedSimpArgs false
open Go Go.Eng Go.Tar Go.Sort Go.RowKit
def chainI (rep : Nat) (s : Int) (i : Int) : Ins := ⟨⟨rep, i⟩, s, (P7.all 0).set rep (i - 1)⟩
def chL (seqs : List Int) (rep n j : Nat) : List Ins := (List.range j).map fun t => chainI rep (seqs.getD (n - 1 - t) 0) ((n - t : Nat) : Int)
section
variable {rep n : Nat} {seqs : List Int} {x y : Ins} {d : Dot} {K : List Ins}
theorem chL_succ (j : Nat) : chL seqs rep n (j + 1) = chL seqs rep n j ++ [chainI rep (seqs.getD (n - 1 - j) 0) ((n - j : Nat) : Int)] := by
  unfold chL; rw [List.range_succ, List.map_append]; rfl
theorem chain_get (hr : rep < 7) (s i : Int) (r : Nat) (h : r < 7) : (chainI rep s i).v.get r = if r = rep then i - 1 else 0 := by
  show ((P7.all 0).set rep (i - 1)).get r = _
  rw [P7.get_set _ _ _ _ h, P7.get_all]
theorem chain_deps (hr : rep < 7) {s i : Int} : d ∈ depsL (chainI rep s i) ↔ d.rep = rep ∧ 1 ≤ d.n ∧ d.n ≤ i - 1 := by
  rw [depsL_mem]
  constructor
  · rintro ⟨⟨h1, h2⟩, ⟨h3, h4⟩, _⟩
    rw [chain_get hr s i _ (by omega)] at h4
    by_cases e : d.rep.toNat = rep
    · rw [if_pos e] at h4; omega
    · rw [if_neg e] at h4; omega
  · rintro ⟨h1, h2, h3⟩
    have e : d.rep.toNat = rep := by omega
    refine ⟨by omega, ⟨h2, ?_⟩, fun e2 => ?_⟩
    · rw [chain_get hr s i _ (by omega), if_pos e]; omega
    · have : d.n = i := by rw [e2]; rfl
      omega
theorem chL_mem : x ∈ chL seqs rep n n ↔ ∃ i : Nat, 1 ≤ i ∧ i ≤ n ∧ x = chainI rep (seqs.getD (i - 1) 0) i := by
  unfold chL
  simp only [List.mem_map, List.mem_range]
  constructor
  · rintro ⟨t, ht, rfl⟩
    exact ⟨n - t, by omega, by omega, by rw [show n - 1 - t = n - t - 1 by omega]⟩
  · rintro ⟨i, h1, h2, rfl⟩
    exact ⟨n - i, by omega, by rw [show n - 1 - (n - i) = i - 1 by omega, show n - (n - i) = i by omega]⟩
theorem chL_dots : (chL seqs rep n n).map (·.d) = (List.range n).map fun t => (⟨rep, ((n - t : Nat) : Int)⟩ : Dot) := by
  unfold chL; rw [List.map_map]; rfl
theorem chL_nodup : ((chL seqs rep n n).map (·.d)).Nodup := by
  rw [chL_dots, List.nodup_iff_pairwise_ne, List.pairwise_map]
  refine List.Pairwise.imp_of_mem (fun {a b} ha hb hab e => ?_) (List.nodup_iff_pairwise_ne.1 (List.nodup_range (n := n)))
  have ha := List.mem_range.1 ha
  have hb := List.mem_range.1 hb
  rw [Dot.mk.injEq] at e
  have := e.2; omega
theorem chL_good (hr : rep < 7) (hn : n ≤ 30) (hs : ∀ i, i < n → 0 ≤ seqs.getD i 0 ∧ seqs.getD i 0 ≤ 1099511627776) : goodO (chL seqs rep n n) = true := by
  refine goodO_iff.2 ⟨fun x hx => ?_, chL_nodup, by simp [chL]; omega⟩
  obtain ⟨i, h1, h2, rfl⟩ := chL_mem.1 hx
  have h3 := hs (i - 1) (by omega)
  refine ⟨?_, (depsO_iff _).2 fun r h => ?_⟩
  · unfold insOne dotO chainI
    simp only [Bool.and_eq_true, decide_eq_true_eq, Bool.not_eq_true', decide_eq_false_iff_not]
    omega
  · rw [chain_get hr _ _ r h]
    split <;> omega
theorem chain_dr (hr : rep < 7) (hK : ∀ x ∈ K, x ∈ chL seqs rep n n) (hx : x ∈ K) (h : DR K x y) : y ∈ K ∧ y.d.n ≤ x.d.n := by
  induction h with
  | refl => exact ⟨hx, Int.le_refl _⟩
  | @step y z _ hz hd ih =>
    obtain ⟨i, _, _, rfl⟩ := chL_mem.1 (hK y ih.1)
    have := (chain_deps hr).1 hd
    have h5 : (chainI rep (seqs.getD (i - 1) 0) i).d.n = i := rfl
    exact ⟨hz, by omega⟩
theorem chain_eq (hK : ∀ x ∈ K, x ∈ chL seqs rep n n) (hx : x ∈ K) (hy : y ∈ K) (e : x.d.n = y.d.n) : x = y := by
  obtain ⟨i, _, _, rfl⟩ := chL_mem.1 (hK x hx)
  obtain ⟨j, _, _, rfl⟩ := chL_mem.1 (hK y hy)
  have : (i : Int) = j := e
  have : i = j := by omega
  subst this; rfl
theorem chain_mut (hr : rep < 7) (hK : ∀ x ∈ K, x ∈ chL seqs rep n n) (hx : x ∈ K) (hy : y ∈ K) (h : Mut K x y) : x = y :=
  chain_eq hK hx hy (by have := (chain_dr hr hK hx h.1).2; have := (chain_dr hr hK hy h.2).2; omega)
theorem chain_line (hr : rep < 7) (hn : n ≤ 30) (hs : ∀ i, i < n → 0 ≤ seqs.getD i 0 ∧ seqs.getD i 0 ≤ 1099511627776) : lineTop (P7.all 0) [] (chL seqs rep n n) = (List.range n).map fun i : Nat => (⟨rep, (i : Int) + 1⟩ : Dot) := by
  have hg := chL_good (seqs := seqs) hr hn hs
  rw [line0_eq hg]
  have hnd := chL_nodup (seqs := seqs) (rep := rep) (n := n)
  have hc : ∀ x ∈ chL seqs rep n n, ∀ d ∈ depsL x, q0 d = true ∨ ∃ y ∈ chL seqs rep n n, y.d = d := fun x hx d hd => by
    obtain ⟨i, h1, h2, rfl⟩ := chL_mem.1 hx
    obtain ⟨h3, h4, h5⟩ := (chain_deps hr).1 hd
    refine .inr ⟨_, chL_mem.2 ⟨d.n.toNat, by omega, by omega, rfl⟩, ?_⟩
    obtain ⟨r, m⟩ := d
    simp only at h3 h4 h5
    unfold chainI
    simp only
    rw [Dot.mk.injEq]
    constructor <;> omega
  have hkm : ∀ x, x ∈ keptO q0 (chL seqs rep n n) ↔ x ∈ chL seqs rep n n := fun x => kept_all hc hnd (q0_good hg)
  have hkn := kept_nodup (q := q0) hnd
  generalize keptO q0 (chL seqs rep n n) = K at *
  have hK : ∀ x ∈ K, x ∈ chL seqs rep n n := fun x hx => (hkm x).1 hx
  have hpw : ((lineK K).map (·.d)).Pairwise fun a b => a.n ≤ b.n := by
    rw [List.pairwise_map]
    refine List.Pairwise.imp_of_mem (fun {x y} hx hy hxy => ?_) (lineK_pw hkn)
    have hx := lineK_mem.1 hx
    have hy := lineK_mem.1 hy
    rcases hxy with ⟨h1, h2⟩ | ⟨h1, h2⟩
    · have := chain_mut hr hK hx hy h1
      subst this; exact Int.le_refl _
    · obtain ⟨i, _, _, rfl⟩ := chL_mem.1 (hK x hx)
      obtain ⟨j, h3, _, rfl⟩ := chL_mem.1 (hK y hy)
      rw [chain_deps hr] at h2
      have h4 : ¬ ((j : Int) ≤ i - 1) := fun h => h2 ⟨rfl, by show (1 : Int) ≤ j; omega, h⟩
      show (i : Int) ≤ j
      omega
  refine List.Perm.eq_of_pairwise (le := fun a b : Dot => a.n ≤ b.n) (fun a b ha hb g1 g2 => ?_) hpw (List.pairwise_map.2 (List.Pairwise.imp_of_mem (fun {a b} _ _ hab => by simp only; omega) (List.pairwise_lt_range (n := n)))) ?_
  · obtain ⟨x, hx, rfl⟩ := List.mem_map.1 ha
    obtain ⟨i, _, rfl⟩ := List.mem_map.1 hb
    obtain ⟨j, _, _, rfl⟩ := chL_mem.1 (hK x (lineK_mem.1 hx))
    have g1 : (j : Int) ≤ (i : Int) + 1 := g1
    have g2 : (i : Int) + 1 ≤ (j : Int) := g2
    show (⟨rep, j⟩ : Dot) = ⟨rep, i + 1⟩
    rw [Dot.mk.injEq]
    exact ⟨rfl, by omega⟩
  · refine (List.perm_ext_iff_of_nodup (lineK_nodup hkn) ?_).2 fun a => ?_
    · rw [List.nodup_iff_pairwise_ne, List.pairwise_map]
      refine (List.nodup_iff_pairwise_ne.1 (List.nodup_range (n := n))).imp fun {a b} hab e => ?_
      rw [Dot.mk.injEq] at e
      have := e.2; omega
    · rw [List.mem_map, List.mem_map]
      constructor
      · rintro ⟨x, hx, rfl⟩
        obtain ⟨j, h1, h2, rfl⟩ := chL_mem.1 (hK x (lineK_mem.1 hx))
        exact ⟨j - 1, List.mem_range.2 (by omega), by show (⟨rep, ((j - 1 : Nat) : Int) + 1⟩ : Dot) = ⟨rep, j⟩; rw [Dot.mk.injEq]; exact ⟨rfl, by omega⟩⟩
      · rintro ⟨i, hi, rfl⟩
        have hi := List.mem_range.1 hi
        refine ⟨chainI rep (seqs.getD (i + 1 - 1) 0) ((i + 1 : Nat) : Int), lineK_mem.2 ((hkm _).2 (chL_mem.2 ⟨i + 1, by omega, by omega, rfl⟩)), rfl⟩
theorem flat_ones : ∀ gs : List (List Int), (∀ g ∈ gs, g.length = 1) → gs.flatten.length = gs.length
  | [], _ => rfl
  | g :: gs, h => by
    rw [List.flatten_cons, List.length_append, h g (by simp), flat_ones gs fun x hx => h x (by simp [hx]), List.length_cons]; omega
theorem grp_count {on gs : List (List Int)} (hG : Grp on n gs) : gs.flatten.length = n := by
  have h1 := nodup_len hG.nd fun x hx => (hG.all x).1 hx
  have h2 : ((List.range n).map fun i : Nat => (i : Int)).Nodup := by
    rw [List.nodup_iff_pairwise_ne, List.pairwise_map]
    exact (List.nodup_iff_pairwise_ne.1 List.nodup_range).imp fun {a b} hab => by omega
  have h3 := h2.length_le_of_subset (l₂ := gs.flatten) fun x hx => by
    obtain ⟨i, hi, rfl⟩ := List.mem_map.1 hx
    exact (hG.all _).2 ⟨by omega, by have := List.mem_range.1 hi; omega⟩
  rw [List.length_map, List.length_range] at h3
  omega
theorem chain_groups (hr : rep < 7) (hn : n ≤ 30) (hs : ∀ i, i < n → 0 ≤ seqs.getD i 0 ∧ seqs.getD i 0 ≤ 1099511627776) : (groupsTop (chL seqs rep n n)).length = n := by
  have hg := chL_good (seqs := seqs) hr hn hs
  have hnd := chL_nodup (seqs := seqs) (rep := rep) (n := n)
  unfold groupsTop groupsO
  rw [if_pos hg, (sortD_perm _).length_eq, List.length_map]
  have hsn := sortO_nodup hnd
  have hsl : (sortO (chL seqs rep n n)).length = n := by rw [sortO_len]; simp [chL]
  have hK : ∀ x ∈ sortO (chL seqs rep n n), x ∈ chL seqs rep n n := fun x hx => sortO_mem.1 hx
  generalize sortO (chL seqs rep n n) = sl at *
  have hG := groups_grp (onL_ok sl)
  have hone : ∀ g ∈ groupsF (onL sl), g.length = 1 := fun g hgm => by
    have hne := (hG.gok g hgm).1
    have hgn : g.Nodup := hG.nd.sublist (List.sublist_flatten_of_mem hgm)
    cases g with
    | nil => exact absurd rfl hne
    | cons a g =>
      cases g with
      | nil => rfl
      | cons b g =>
        have ha := (hG.all a).1 (List.mem_flatten.2 ⟨_, hgm, by simp⟩)
        have hb := (hG.all b).1 (List.mem_flatten.2 ⟨_, hgm, by simp⟩)
        have hsm := (hG.same hgm (x := a) (y := b) (by simp) hb).1 (by simp)
        obtain ⟨i, rfl⟩ : ∃ i : Nat, a = i := ⟨a.toNat, by unfold Vx at ha; omega⟩
        obtain ⟨j, rfl⟩ : ∃ j : Nat, b = j := ⟨b.toNat, by unfold Vx at hb; omega⟩
        have hi : i < sl.length := by unfold Vx at ha; omega
        have hj : j < sl.length := by unfold Vx at hb; omega
        have := chain_mut hr hK (List.getElem_mem hi) (List.getElem_mem hj) ⟨(rch_dr hsn hi hj).1 hsm.1, (rch_dr hsn hj hi).1 hsm.2⟩
        have := at_inj hsn hi hj (by rw [this])
        subst this
        simp at hgn
  rw [← flat_ones _ hone, grp_count hG]; exact hsl
end
end Go.Proofs.YtkjhccpanedccaaGreat
namespace Go.Proofs.YtkjhccpanedccaaGreat
set_option linter.unusedVariables false
set_option linter.unusedSimpArgs false
open Go Go.Eng Go.Tar Go.Sort Go.RowKit
/-- how often those of g stand in a line -/
def inL (line g : List Dot) : Nat := (g.map fun d => line.countP fun x => decide (x = d)).sum
section
variable {l : List Ins} {line g : List Dot} {x y : Ins} {d : Dot}
theorem countP_nodup (hn : line.Nodup) (d : Dot) : line.countP (fun x => decide (x = d)) = if d ∈ line then 1 else 0 := by
  induction line with
  | nil => rfl
  | cons a line ih =>
    rw [List.nodup_cons] at hn
    rw [List.countP_cons, ih hn.2]
    by_cases e : a = d
    · subst e; simp [hn.1]
    · have : d ≠ a := fun h => e h.symm
      simp [e, this]
theorem inL_cases (hn : line.Nodup) (h : (∀ d ∈ g, d ∈ line) ∨ ∀ d ∈ g, d ∉ line) : inL line g = g.length ∨ inL line g = 0 := by
  unfold inL
  induction g with
  | nil => exact .inr rfl
  | cons a g ih =>
    rw [List.map_cons, List.sum_cons, countP_nodup hn, List.length_cons]
    rcases h with h | h
    · have := ih (.inl fun d hd => h d (by simp [hd]))
      rw [if_pos (h a (by simp))]
      left
      have h2 : ∀ d ∈ g, d ∈ line := fun d hd => h d (by simp [hd])
      have key : ∀ g : List Dot, (∀ d ∈ g, d ∈ line) → (g.map fun d => line.countP fun x => decide (x = d)).sum = g.length := by
        intro g
        induction g with
        | nil => intro _; rfl
        | cons b g ih => intro hb; rw [List.map_cons, List.sum_cons, countP_nodup hn, if_pos (hb b (by simp)), ih fun d hd => hb d (by simp [hd]), List.length_cons]; omega
      rw [key g h2]; omega
    · have key : ∀ g : List Dot, (∀ d ∈ g, d ∉ line) → (g.map fun d => line.countP fun x => decide (x = d)).sum = 0 := by
        intro g
        induction g with
        | nil => intro _; rfl
        | cons b g ih => intro hb; rw [List.map_cons, List.sum_cons, countP_nodup hn, if_neg (hb b (by simp)), ih fun d hd => hb d (by simp [hd])]
      rw [if_neg (h a (by simp)), key g fun d hd => h d (by simp [hd])]
      exact .inr rfl
/-- each group lies in a line whole, or not at all -/
theorem parts_in (hg : goodO l = true) (h : g ∈ groupsTop l) : (∀ d ∈ g, ∃ x ∈ l, x.d = d) ∧ ((∀ d ∈ g, d ∈ lineTop (P7.all 0) [] l) ∨ ∀ d ∈ g, d ∉ lineTop (P7.all 0) [] l) := by
  obtain ⟨_, hn, _⟩ := goodO_iff.1 hg
  unfold groupsTop groupsO at h
  rw [if_pos hg] at h
  obtain ⟨gi, hgm, rfl⟩ := List.mem_map.1 ((sortD_perm _).mem_iff.1 h)
  have hsn := sortO_nodup hn
  have hG := groups_grp (onL_ok (sortO l))
  have hv : ∀ v ∈ gi, Vx (sortO l).length v := fun v hv => (hG.all v).1 (List.mem_flatten.2 ⟨gi, hgm, hv⟩)
  refine ⟨fun d hd => ?_, ?_⟩
  · obtain ⟨i, hi, _, rfl⟩ := dotsO_at hv hd
    exact ⟨_, sortO_mem.1 (List.getElem_mem hi), rfl⟩
  · rw [line0_eq hg]
    by_cases hex : ∃ d ∈ dotsO (sortO l) gi, d ∈ (lineK (keptO q0 l)).map (·.d)
    · left
      obtain ⟨d, hd, hdl⟩ := hex
      obtain ⟨i, hi, hig, rfl⟩ := dotsO_at hv hd
      obtain ⟨x, hx, ex⟩ := List.mem_map.1 hdl
      have hxk := lineK_mem.1 hx
      have hxe : x = (sortO l)[i] := ins_inj hn (kept_mem.1 hxk).1 (sortO_mem.1 (List.getElem_mem hi)) ex
      subst hxe
      intro d' hd'
      obtain ⟨j, hj, hjg, rfl⟩ := dotsO_at hv hd'
      have hsm := hG.scc gi hgm _ hig _ hjg
      have hdr := dr_sort.1 ((rch_dr hsn hi hj).1 hsm)
      have := (dr_closed hn (fun x hx => (kept_mem.1 hx).1) (fun x hx d hd => kept0_closed hx hd) hxk hdr).1
      exact List.mem_map.2 ⟨_, lineK_mem.2 this, rfl⟩
    · exact .inr fun d hd hl => hex ⟨d, hd, hl⟩
theorem parts_len (hg : goodO l = true) : ((groupsTop l).map (·.length)).sum = l.length := by
  obtain ⟨_, hn, _⟩ := goodO_iff.1 hg
  unfold groupsTop groupsO
  rw [if_pos hg, ((sortD_perm _).map _).sum_nat, List.map_map]
  have hG := groups_grp (onL_ok (sortO l))
  have h1 := grp_count hG
  rw [sortO_len] at h1
  rw [← h1, List.length_flatten]
  congr 1
  refine List.map_congr_left fun g _ => ?_
  simp [dotsO]
theorem plcO_find2 (hn : (l.map (·.d)).Nodup) (hx : x ∈ l) : ∃ (i : Nat) (hi : i < l.length), plcO l x.d = some i ∧ l[i] = x := by
  obtain ⟨i, hi, rfl⟩ := List.getElem_of_mem hx
  exact ⟨i, hi, plcO_at hn hi, rfl⟩
theorem line0_nodup (hg : goodO l = true) : (lineTop (P7.all 0) [] l).Nodup := by
  rw [line0_eq hg]
  exact lineK_nodup (kept_nodup (goodO_iff.1 hg).2.1)
end
end Go.Proofs.YtkjhccpanedccaaGreat
namespace Go.Proofs.YtkjhccpanedccaaGreat
set_option linter.unusedVariables false
set_option linter.unusedSimpArgs false
open Go Go.Eng Go.Tar Go.Sort Go.RowKit
def sumL (gs : List (List Dot)) (i : Nat) : Nat := ((gs.take i).map (·.length)).sum
theorem inL_len (line : List Dot) : ∀ g : List Dot, inL line g ≤ g.length * line.length
  | [] => by simp [inL]
  | a :: g => by
    have h1 := inL_len line g
    have h2 := List.countP_le_length (p := fun x => decide (x = a)) (l := line)
    unfold inL at h1 ⊢
    rw [List.map_cons, List.sum_cons, List.length_cons, Nat.succ_mul]; omega
set_option maxRecDepth 100000 in
set_option maxHeartbeats 8000000 in
theorem orderParts_walk {W : World} {v0 : Value} (h0 : GoodA W [.sl ClI] false v0) : callK PR F_rostrumlaw18_OrderParts [v0] (fun v W' => v = .bool true ∧ Lo W W') W := by
  obtain ⟨la, lc, l, rfl, hlc, hlm, hrd, -⟩ := openInss (goodAz h0)
  apply S.rostrumlaw18_OrderParts.call
  unfold S.rostrumlaw18_OrderParts.body
  have h00 : ({ W with drawn := 0 } : World).drawn = 0 := rfl
  have fin : ∀ (W' : World) (L : List Asn), St { W with drawn := 0 } L W' → Lo W W' := fun W' L h => St.lo h
  refine lawAwake h00 (St.startz W) fun W1 h => ?_
  generalize ({ W with drawn := 0 } : World) = W0 at *
  by_cases c1 : (25 : Int) < (l.length : Int)
  · (repeat (first | (first | (with_reducible (first | refine w1 fun _ _ => ?_ | refine w3 fun _ _ _ => ?_ | refine w4 fun _ _ _ => ?_ | refine w11 fun _ _ _ => ?_ | refine stb_n ?_)) | ((with_reducible refine w2 ?_); try simp -implicitDefEqProofs only [EN, lsub, lget, stL, beq_self_eq_true, ne_eq, if_true, if_false, List.cons_append, List.nil_append, Option.isNone_some, Option.isNone_none, c1]; intro _ _) | ((with_reducible (first | refine w5 ?_ ?_ | refine w6 ?_ ?_ | refine w7 ?_ ?_)); simp; refine ⟨_, rfl, ?_⟩) | ((with_reducible (first | refine w8 ?_ ?_ ?_ | refine w9 ?_ ?_ ?_ | refine w10 ?_ ?_ ?_)); exact rfl; simp) | ((with_reducible refine w12 ?_ ?_ ?_ fun _ _ => ?_); simp; simp; simp [oneC]) | ((with_reducible (first | refine eqs ?_ | refine nes ?_)); refine ⟨_, rfl, ?_⟩) | ((refine okF_i (bldP_eq rfl) ?_); try simp only [BLS, List.take_succ_cons, List.take_zero, List.drop_succ_cons, List.drop_zero, List.cons_append, List.nil_append, Nat.reduceAdd])) | simp -implicitDefEqProofs only [EN, lsub, lget, stL, beq_self_eq_true, ne_eq, if_true, if_false, List.cons_append, List.nil_append, Option.isNone_some, Option.isNone_none, c1]))
    exact fin _ _ (by first | assumption | exact St.tick (by assumption) | exact St.tick (St.tick (by assumption)))
  (repeat (first | (first | (with_reducible (first | refine w1 fun _ _ => ?_ | refine w3 fun _ _ _ => ?_ | refine w4 fun _ _ _ => ?_ | refine w11 fun _ _ _ => ?_ | refine stb_n ?_)) | ((with_reducible refine w2 ?_); try simp -implicitDefEqProofs only [EN, lsub, lget, stL, beq_self_eq_true, ne_eq, if_true, if_false, List.cons_append, List.nil_append, Option.isNone_some, Option.isNone_none, c1]; intro _ _) | ((with_reducible (first | refine w5 ?_ ?_ | refine w6 ?_ ?_ | refine w7 ?_ ?_)); simp; refine ⟨_, rfl, ?_⟩) | ((with_reducible (first | refine w8 ?_ ?_ ?_ | refine w9 ?_ ?_ ?_ | refine w10 ?_ ?_ ?_)); exact rfl; simp) | ((with_reducible refine w12 ?_ ?_ ?_ fun _ _ => ?_); simp; simp; simp [oneC]) | ((with_reducible (first | refine eqs ?_ | refine nes ?_)); refine ⟨_, rfl, ?_⟩) | ((refine okF_i (bldP_eq rfl) ?_); try simp only [BLS, List.take_succ_cons, List.take_zero, List.drop_succ_cons, List.drop_zero, List.cons_append, List.nil_append, Nat.reduceAdd])) | simp -implicitDefEqProofs only [EN, lsub, lget, stL, beq_self_eq_true, ne_eq, if_true, if_false, List.cons_append, List.nil_append, Option.isNone_some, Option.isNone_none, c1]))
  refine ordGood (a := la) (l := l) (by first | assumption | exact St.tick (by assumption) | exact St.tick (St.tick (by assumption))) (by omega) fun W2 h => ?_
  cases hg : goodO l with
  | false =>
    (repeat (first | (first | (with_reducible (first | refine w1 fun _ _ => ?_ | refine w3 fun _ _ _ => ?_ | refine w4 fun _ _ _ => ?_ | refine w11 fun _ _ _ => ?_ | refine stb_n ?_)) | ((with_reducible refine w2 ?_); try simp -implicitDefEqProofs only [EN, lsub, lget, stL, beq_self_eq_true, ne_eq, if_true, if_false, List.cons_append, List.nil_append, Option.isNone_some, Option.isNone_none]; intro _ _) | ((with_reducible (first | refine w5 ?_ ?_ | refine w6 ?_ ?_ | refine w7 ?_ ?_)); simp; refine ⟨_, rfl, ?_⟩) | ((with_reducible (first | refine w8 ?_ ?_ ?_ | refine w9 ?_ ?_ ?_ | refine w10 ?_ ?_ ?_)); exact rfl; simp) | ((with_reducible refine w12 ?_ ?_ ?_ fun _ _ => ?_); simp; simp; simp [oneC]) | ((with_reducible (first | refine eqs ?_ | refine nes ?_)); refine ⟨_, rfl, ?_⟩) | ((refine okF_i (bldP_eq rfl) ?_); try simp only [BLS, List.take_succ_cons, List.take_zero, List.drop_succ_cons, List.drop_zero, List.cons_append, List.nil_append, Nat.reduceAdd])) | simp -implicitDefEqProofs only [EN, lsub, lget, stL, beq_self_eq_true, ne_eq, if_true, if_false, List.cons_append, List.nil_append, Option.isNone_some, Option.isNone_none]))
    exact fin _ _ (by first | assumption | exact St.tick (by assumption) | exact St.tick (St.tick (by assumption)))
  | true =>
  (repeat (first | (first | (with_reducible (first | refine w1 fun _ _ => ?_ | refine w3 fun _ _ _ => ?_ | refine w4 fun _ _ _ => ?_ | refine w11 fun _ _ _ => ?_ | refine stb_n ?_)) | ((with_reducible refine w2 ?_); try simp -implicitDefEqProofs only [EN, lsub, lget, stL, beq_self_eq_true, ne_eq, if_true, if_false, List.cons_append, List.nil_append, Option.isNone_some, Option.isNone_none]; intro _ _) | ((with_reducible (first | refine w5 ?_ ?_ | refine w6 ?_ ?_ | refine w7 ?_ ?_)); simp; refine ⟨_, rfl, ?_⟩) | ((with_reducible (first | refine w8 ?_ ?_ ?_ | refine w9 ?_ ?_ ?_ | refine w10 ?_ ?_ ?_)); exact rfl; simp) | ((with_reducible refine w12 ?_ ?_ ?_ fun _ _ => ?_); simp; simp; simp [oneC]) | ((with_reducible (first | refine eqs ?_ | refine nes ?_)); refine ⟨_, rfl, ?_⟩) | ((refine okF_i (bldP_eq rfl) ?_); try simp only [BLS, List.take_succ_cons, List.take_zero, List.drop_succ_cons, List.drop_zero, List.cons_append, List.nil_append, Nat.reduceAdd])) | simp -implicitDefEqProofs only [EN, lsub, lget, stL, beq_self_eq_true, ne_eq, if_true, if_false, List.cons_append, List.nil_append, Option.isNone_some, Option.isNone_none]))
  obtain ⟨hg1, hg2, hg3⟩ := goodO_iff.1 hg
  refine ordGroupsTop (l := l) (a := la) h00 (by first | assumption | exact St.tick (by assumption) | exact St.tick (St.tick (by assumption))) (by omega) fun ag cg W3 h => ?_
  (repeat (first | (first | (with_reducible (first | refine w1 fun _ _ => ?_ | refine w3 fun _ _ _ => ?_ | refine w4 fun _ _ _ => ?_ | refine w11 fun _ _ _ => ?_ | refine stb_n ?_)) | ((with_reducible refine w2 ?_); try simp -implicitDefEqProofs only [EN, lsub, lget, stL, beq_self_eq_true, ne_eq, if_true, if_false, List.cons_append, List.nil_append, Option.isNone_some, Option.isNone_none]; intro _ _) | ((with_reducible (first | refine w5 ?_ ?_ | refine w6 ?_ ?_ | refine w7 ?_ ?_)); simp; refine ⟨_, rfl, ?_⟩) | ((with_reducible (first | refine w8 ?_ ?_ ?_ | refine w9 ?_ ?_ ?_ | refine w10 ?_ ?_ ?_)); exact rfl; simp) | ((with_reducible refine w12 ?_ ?_ ?_ fun _ _ => ?_); simp; simp; simp [oneC]) | ((with_reducible (first | refine eqs ?_ | refine nes ?_)); refine ⟨_, rfl, ?_⟩) | ((refine okF_i (bldP_eq rfl) ?_); try simp only [BLS, List.take_succ_cons, List.take_zero, List.drop_succ_cons, List.drop_zero, List.cons_append, List.nil_append, Nat.reduceAdd])) | simp -implicitDefEqProofs only [EN, lsub, lget, stL, beq_self_eq_true, ne_eq, if_true, if_false, List.cons_append, List.nil_append, Option.isNone_some, Option.isNone_none]))
  refine ordLine0 (l := l) (a := la) (P7.all 0) h00 (by first | assumption | exact St.tick (by assumption) | exact St.tick (St.tick (by assumption))) (by omega) fun aa ca W5 h => ?_
  have hparts := fun g => parts_in (g := g) hg
  have hsum := parts_len hg
  have hnd := line0_nodup hg
  have hlen := line0_len (P7.all 0) [] l
  generalize lineTop (P7.all 0) [] l = a at *
  generalize groupsTop l = gs at *
  have hsl : ∀ i, sumL gs i ≤ l.length := fun i => by
    rw [← hsum]; unfold sumL
    have h1 : gs = gs.take i ++ gs.drop i := (List.take_append_drop i gs).symm
    conv => rhs; rw [h1, List.map_append, List.sum_append_nat]
    omega
  obtain ⟨rows, hrows, h⟩ := ld_at (St.wk (L' := LD ag cg gs :: arr DOT T_api_Dot aa ca a :: []) h)
  have hrl : rows.length = gs.length := by rw [← hrows, List.length_map]
  refine joinK_i ?_
  refine loop_c (σ := Unit) gs.length (fun i _ => [.slice la l.length lc, .slice ag gs.length cg, .slice aa a.length ca, .int .i64 (sumL gs i : Int), .int .i64 (i : Int)])
    (fun i _ W1 => St W0 [arr DSY T_s_api_Dot ag cg rows, many dch rows, arr DOT T_api_Dot aa ca a] W1) () rfl h ?_
  clear h
  rintro K i _ W6 hi h hK
  simp -implicitDefEqProofs only [EN, lsub, lget, stL, beq_self_eq_true, ne_eq, if_true, if_false, List.cons_append, List.nil_append, Option.isNone_some, Option.isNone_none]
  unfold S.rostrumlaw18_OrderParts.l1
  have hcap := (St.arrFacts (St.wk (L' := [arr DSY T_s_api_Dot ag cg rows]) h))
  simp only [maxLen] at hcap
  by_cases hlt : (i : Int) < (gs.length : Int)
  · have hib : i < gs.length := by omega
    have hir : i < rows.length := by omega
    have ew : IntKind.i64.wrap ((i : Int) + 1) = ((i + 1 : Nat) : Int) := by rw [i64w]; omega
    have hrow : rows[i].l = gs[i] := by
      have : (rows.map (·.l))[i]'(by simpa using hir) = gs[i] := by simp only [hrows]
      simpa using this
    have hmr : rows[i] ∈ rows := List.getElem_mem hir
    have hss : sumL gs (i + 1) = sumL gs i + rows[i].l.length := by unfold sumL; rw [List.take_succ_eq_append_getElem hib, List.map_append, List.sum_append_nat, hrow]; simp
    have hsi := hsl (i + 1)
    obtain ⟨hp1, hp2⟩ := hparts gs[i] (List.getElem_mem hib)
    have hin := inL_cases (g := gs[i]) hnd hp2
    rw [← hrow] at hp1 hin
    obtain ⟨gg, og, e1⟩ := posAddr (i := i) (a := ag) (A := DSY) (l := rows) h hir
    subst e1
    have ei := ix2 (n := gs.length) hib gg og cg
    generalize hri : rows[i] = r at *
    obtain ⟨ra, rc, rl⟩ := r
    simp only at hrow hss hp1 hin
    have eld : getL false (DSY.row rows[i]) 0 1 = some (.slice ra rl.length rc) := by rw [hri]; rfl
    haveI hrd := dch_rd (W0 := W0) (L := [arr DOT T_api_Dot aa ca a]) hmr
    (repeat (first | (first | (with_reducible (first | refine w1 fun _ _ => ?_ | refine w3 fun _ _ _ => ?_ | refine w4 fun _ _ _ => ?_ | refine w11 fun _ _ _ => ?_ | refine stb_n ?_)) | ((with_reducible refine w2 ?_); try simp -implicitDefEqProofs only [EN, lsub, lget, stL, beq_self_eq_true, ne_eq, if_true, if_false, List.cons_append, List.nil_append, Option.isNone_some, Option.isNone_none, hlt]; intro _ _) | ((with_reducible (first | refine w5 ?_ ?_ | refine w6 ?_ ?_ | refine w7 ?_ ?_)); simp; refine ⟨_, rfl, ?_⟩) | ((with_reducible (first | refine w8 ?_ ?_ ?_ | refine w9 ?_ ?_ ?_ | refine w10 ?_ ?_ ?_)); exact rfl; simp) | ((with_reducible refine w12 ?_ ?_ ?_ fun _ _ => ?_); simp; simp; simp [oneC]) | ((with_reducible (first | refine eqs ?_ | refine nes ?_)); refine ⟨_, rfl, ?_⟩) | ((refine okF_i (bldP_eq rfl) ?_); try simp only [BLS, List.take_succ_cons, List.take_zero, List.drop_succ_cons, List.drop_zero, List.cons_append, List.nil_append, Nat.reduceAdd])) | simp -implicitDefEqProofs only [EN, lsub, lget, stL, beq_self_eq_true, ne_eq, if_true, if_false, List.cons_append, List.nil_append, Option.isNone_some, Option.isNone_none, hlt]))
    refine joinK_i ?_
    refine joinK_i ?_
    refine loop_c (σ := Unit) rl.length (fun k _ => [.slice la l.length lc, .slice (some ⟨gg, og, none⟩) gs.length cg, .slice aa a.length ca, .int .i64 ((sumL gs i + k : Nat) : Int), .int .i64 (i : Int), .int .i64 (inL a (rl.take k) : Int), .int .i64 (k : Int)])
      (fun k _ W1 => St W0 [arr DSY T_s_api_Dot (some ⟨gg, og, none⟩) cg rows, many dch rows, arr DOT T_api_Dot aa ca a] W1) () rfl h ?_
    clear h
    rintro K2 k _ W7 hk h hK2
    simp -implicitDefEqProofs only [EN, lsub, lget, stL, beq_self_eq_true, ne_eq, if_true, if_false, List.cons_append, List.nil_append, Option.isNone_some, Option.isNone_none]
    unfold S.rostrumlaw18_OrderParts.l2
    (repeat (first | (first | (with_reducible (first | refine w1 fun _ _ => ?_ | refine w3 fun _ _ _ => ?_ | refine w4 fun _ _ _ => ?_ | refine w11 fun _ _ _ => ?_ | refine stb_n ?_)) | ((with_reducible refine w2 ?_); try simp -implicitDefEqProofs only [EN, lsub, lget, stL, beq_self_eq_true, ne_eq, if_true, if_false, List.cons_append, List.nil_append, Option.isNone_some, Option.isNone_none, ei]; intro _ _) | ((with_reducible (first | refine w5 ?_ ?_ | refine w6 ?_ ?_ | refine w7 ?_ ?_)); simp; refine ⟨_, rfl, ?_⟩) | ((with_reducible (first | refine w8 ?_ ?_ ?_ | refine w9 ?_ ?_ ?_ | refine w10 ?_ ?_ ?_)); exact rfl; simp) | ((with_reducible refine w12 ?_ ?_ ?_ fun _ _ => ?_); simp; simp; simp [oneC]) | ((with_reducible (first | refine eqs ?_ | refine nes ?_)); refine ⟨_, rfl, ?_⟩) | ((refine okF_i (bldP_eq rfl) ?_); try simp only [BLS, List.take_succ_cons, List.take_zero, List.drop_succ_cons, List.drop_zero, List.cons_append, List.nil_append, Nat.reduceAdd])) | simp -implicitDefEqProofs only [EN, lsub, lget, stL, beq_self_eq_true, ne_eq, if_true, if_false, List.cons_append, List.nil_append, Option.isNone_some, Option.isNone_none, ei]))
    refine ldA0 (i := i) (l := rows) (A := DSY) (by first | assumption | exact St.tick (by assumption) | exact St.tick (St.tick (by assumption))) rfl hir eld (by simp) ?_
    by_cases hlt2 : (k : Int) < (rl.length : Int)
    · have hkb : k < rl.length := by omega
      have ew2 : IntKind.i64.wrap ((k : Int) + 1) = ((k + 1 : Nat) : Int) := by rw [i64w]; omega
      have ew3 : IntKind.i64.wrap (((sumL gs i + k : Nat) : Int) + 1) = ((sumL gs i + (k + 1) : Nat) : Int) := by rw [i64w]; omega
      have htk : inL a (rl.take (k + 1)) = inL a (rl.take k) + a.countP fun x => decide (x = rl[k]) := by
        unfold inL; rw [List.take_succ_eq_append_getElem hkb, List.map_append, List.sum_append_nat]; simp
      have hib1 := inL_len a (rl.take (k + 1))
      have hib2 : (rl.take (k + 1)).length * a.length ≤ 25 * 25 := Nat.mul_le_mul (by simp; omega) (by omega)
      obtain ⟨gr, or', e2⟩ := posAddr (i := k) (a := ra) (A := DOT) (l := rl) h hkb
      subst e2
      have ed : idxS 2 (.slice (some ⟨gr, or', none⟩) rl.length rc) (.int .i64 (k : Int)) = some (.pointer (some ⟨gr, or' + k * 2, none⟩)) := by rw [idxS_blk (by omega) (by omega), Int.toNat_natCast]
      obtain ⟨x, hx, ex⟩ := hp1 rl[k] (List.getElem_mem hkb)
      have edot : getL true (DOT.row rl[k]) 0 2 = some (.agg #[.int .i64 (rl[k]).rep, .int .i64 (rl[k]).n]) := rfl
      obtain ⟨ix, hix, px, -⟩ := plcO_find2 hg2 hx
      rw [ex] at px
      have z1 : decide ((ix : Int) < 0) = false := decide_eq_false (by omega)
      have hK3 := fun W' => hK2 () W' hkb
      rw [htk] at hK3 hib1
      generalize inL a (rl.take k) = c at *
      (repeat (first | (first | (with_reducible (first | refine w1 fun _ _ => ?_ | refine w3 fun _ _ _ => ?_ | refine w4 fun _ _ _ => ?_ | refine w11 fun _ _ _ => ?_ | refine stb_n ?_)) | ((with_reducible refine w2 ?_); try simp -implicitDefEqProofs only [EN, lsub, lget, stL, beq_self_eq_true, ne_eq, if_true, if_false, List.cons_append, List.nil_append, Option.isNone_some, Option.isNone_none, hlt2]; intro _ _) | ((with_reducible (first | refine w5 ?_ ?_ | refine w6 ?_ ?_ | refine w7 ?_ ?_)); simp; refine ⟨_, rfl, ?_⟩) | ((with_reducible (first | refine w8 ?_ ?_ ?_ | refine w9 ?_ ?_ ?_ | refine w10 ?_ ?_ ?_)); exact rfl; simp) | ((with_reducible refine w12 ?_ ?_ ?_ fun _ _ => ?_); simp; simp; simp [oneC]) | ((with_reducible (first | refine eqs ?_ | refine nes ?_)); refine ⟨_, rfl, ?_⟩) | ((refine okF_i (bldP_eq rfl) ?_); try simp only [BLS, List.take_succ_cons, List.take_zero, List.drop_succ_cons, List.drop_zero, List.cons_append, List.nil_append, Nat.reduceAdd])) | simp -implicitDefEqProofs only [EN, lsub, lget, stL, beq_self_eq_true, ne_eq, if_true, if_false, List.cons_append, List.nil_append, Option.isNone_some, Option.isNone_none, hlt2]))
      refine joinK_i ?_
      (repeat (first | (first | (with_reducible (first | refine w1 fun _ _ => ?_ | refine w3 fun _ _ _ => ?_ | refine w4 fun _ _ _ => ?_ | refine w11 fun _ _ _ => ?_ | refine stb_n ?_)) | ((with_reducible refine w2 ?_); try simp -implicitDefEqProofs only [EN, lsub, lget, stL, beq_self_eq_true, ne_eq, if_true, if_false, List.cons_append, List.nil_append, Option.isNone_some, Option.isNone_none, ew3, ei]; intro _ _) | ((with_reducible (first | refine w5 ?_ ?_ | refine w6 ?_ ?_ | refine w7 ?_ ?_)); simp; refine ⟨_, rfl, ?_⟩) | ((with_reducible (first | refine w8 ?_ ?_ ?_ | refine w9 ?_ ?_ ?_ | refine w10 ?_ ?_ ?_)); exact rfl; simp) | ((with_reducible refine w12 ?_ ?_ ?_ fun _ _ => ?_); simp; simp; simp [oneC]) | ((with_reducible (first | refine eqs ?_ | refine nes ?_)); refine ⟨_, rfl, ?_⟩) | ((refine okF_i (bldP_eq rfl) ?_); try simp only [BLS, List.take_succ_cons, List.take_zero, List.drop_succ_cons, List.drop_zero, List.cons_append, List.nil_append, Nat.reduceAdd])) | simp -implicitDefEqProofs only [EN, lsub, lget, stL, beq_self_eq_true, ne_eq, if_true, if_false, List.cons_append, List.nil_append, Option.isNone_some, Option.isNone_none, ew3, ei]))
      refine ldA0 (i := i) (l := rows) (A := DSY) (by first | assumption | exact St.tick (by assumption) | exact St.tick (St.tick (by assumption))) rfl hir eld (by simp) ?_
      (repeat (first | (first | (with_reducible (first | refine w1 fun _ _ => ?_ | refine w3 fun _ _ _ => ?_ | refine w4 fun _ _ _ => ?_ | refine w11 fun _ _ _ => ?_ | refine stb_n ?_)) | ((with_reducible refine w2 ?_); try simp -implicitDefEqProofs only [EN, lsub, lget, stL, beq_self_eq_true, ne_eq, if_true, if_false, List.cons_append, List.nil_append, Option.isNone_some, Option.isNone_none, ed]; intro _ _) | ((with_reducible (first | refine w5 ?_ ?_ | refine w6 ?_ ?_ | refine w7 ?_ ?_)); simp; refine ⟨_, rfl, ?_⟩) | ((with_reducible (first | refine w8 ?_ ?_ ?_ | refine w9 ?_ ?_ ?_ | refine w10 ?_ ?_ ?_)); exact rfl; simp) | ((with_reducible refine w12 ?_ ?_ ?_ fun _ _ => ?_); simp; simp; simp [oneC]) | ((with_reducible (first | refine eqs ?_ | refine nes ?_)); refine ⟨_, rfl, ?_⟩) | ((refine okF_i (bldP_eq rfl) ?_); try simp only [BLS, List.take_succ_cons, List.take_zero, List.drop_succ_cons, List.drop_zero, List.cons_append, List.nil_append, Nat.reduceAdd])) | simp -implicitDefEqProofs only [EN, lsub, lget, stL, beq_self_eq_true, ne_eq, if_true, if_false, List.cons_append, List.nil_append, Option.isNone_some, Option.isNone_none, ed]))
      refine ldA0 (i := k) (l := rl) (A := DOT) (by first | assumption | exact St.tick (by assumption) | exact St.tick (St.tick (by assumption))) rfl hkb edot (by simp) ?_
      refine lawFind (a := la) (l := l) (d := rl[k]) (by first | assumption | exact St.tick (by assumption) | exact St.tick (St.tick (by assumption))) (by omega) fun W8 h => ?_
      rw [px]
      (repeat (first | (first | (with_reducible (first | refine w1 fun _ _ => ?_ | refine w3 fun _ _ _ => ?_ | refine w4 fun _ _ _ => ?_ | refine w11 fun _ _ _ => ?_ | refine stb_n ?_)) | ((with_reducible refine w2 ?_); try simp -implicitDefEqProofs only [EN, lsub, lget, stL, beq_self_eq_true, ne_eq, if_true, if_false, List.cons_append, List.nil_append, Option.isNone_some, Option.isNone_none, z1]; intro _ _) | ((with_reducible (first | refine w5 ?_ ?_ | refine w6 ?_ ?_ | refine w7 ?_ ?_)); simp; refine ⟨_, rfl, ?_⟩) | ((with_reducible (first | refine w8 ?_ ?_ ?_ | refine w9 ?_ ?_ ?_ | refine w10 ?_ ?_ ?_)); exact rfl; simp) | ((with_reducible refine w12 ?_ ?_ ?_ fun _ _ => ?_); simp; simp; simp [oneC]) | ((with_reducible (first | refine eqs ?_ | refine nes ?_)); refine ⟨_, rfl, ?_⟩) | ((refine okF_i (bldP_eq rfl) ?_); try simp only [BLS, List.take_succ_cons, List.take_zero, List.drop_succ_cons, List.drop_zero, List.cons_append, List.nil_append, Nat.reduceAdd])) | simp -implicitDefEqProofs only [EN, lsub, lget, stL, beq_self_eq_true, ne_eq, if_true, if_false, List.cons_append, List.nil_append, Option.isNone_some, Option.isNone_none, z1]))
      refine loop_c (σ := Unit) a.length (fun q _ => [.slice la l.length lc, .slice (some ⟨gg, og, none⟩) gs.length cg, .slice aa a.length ca, .int .i64 ((sumL gs i + (k + 1) : Nat) : Int), .int .i64 (i : Int), .int .i64 ((c + (a.take q).countP (fun x => decide (x = rl[k])) : Nat) : Int), .int .i64 (k : Int), .int .i64 (q : Int)])
        (fun q _ W1 => St W0 [arr DSY T_s_api_Dot (some ⟨gg, og, none⟩) cg rows, many dch rows, arr DOT T_api_Dot aa ca a] W1) () rfl h ?_
      clear h
      rintro K4 q _ W9 hq h hK4
      simp -implicitDefEqProofs only [EN, lsub, lget, stL, beq_self_eq_true, ne_eq, if_true, if_false, List.cons_append, List.nil_append, Option.isNone_some, Option.isNone_none]
      unfold S.rostrumlaw18_OrderParts.l3
      by_cases hlt3 : (q : Int) < (a.length : Int)
      · have hqb : q < a.length := by omega
        have ew4 : IntKind.i64.wrap ((q : Int) + 1) = ((q + 1 : Nat) : Int) := by rw [i64w]; omega
        have hK5 := fun W' => hK4 () W' hqb
        have hcp := List.countP_le_length (p := fun x => decide (x = rl[k])) (l := a.take q)
        have hcl : (a.take q).length ≤ 25 := by simp; omega
        rw [List.take_succ_eq_append_getElem hqb, List.countP_append, List.countP_singleton] at hK5
        generalize (a.take q).countP (fun x => decide (x = rl[k])) = c2 at *
        have ew5 : IntKind.i64.wrap (((c + c2 : Nat) : Int) + 1) = ((c + (c2 + 1) : Nat) : Int) := by rw [i64w]; omega
        have f2 := dot_eq a[q] rl[k]
        (repeat (first | (first | (with_reducible (first | refine w1 fun _ _ => ?_ | refine w3 fun _ _ _ => ?_ | refine w4 fun _ _ _ => ?_ | refine w11 fun _ _ _ => ?_ | refine stb_n ?_)) | ((with_reducible refine w2 ?_); try simp -implicitDefEqProofs only [EN, lsub, lget, stL, beq_self_eq_true, ne_eq, if_true, if_false, List.cons_append, List.nil_append, Option.isNone_some, Option.isNone_none, hlt3]; intro _ _) | ((with_reducible (first | refine w5 ?_ ?_ | refine w6 ?_ ?_ | refine w7 ?_ ?_)); simp; refine ⟨_, rfl, ?_⟩) | ((with_reducible (first | refine w8 ?_ ?_ ?_ | refine w9 ?_ ?_ ?_ | refine w10 ?_ ?_ ?_)); exact rfl; simp) | ((with_reducible refine w12 ?_ ?_ ?_ fun _ _ => ?_); simp; simp; simp [oneC]) | ((with_reducible (first | refine eqs ?_ | refine nes ?_)); refine ⟨_, rfl, ?_⟩) | ((refine okF_i (bldP_eq rfl) ?_); try simp only [BLS, List.take_succ_cons, List.take_zero, List.drop_succ_cons, List.drop_zero, List.cons_append, List.nil_append, Nat.reduceAdd])) | simp -implicitDefEqProofs only [EN, lsub, lget, stL, beq_self_eq_true, ne_eq, if_true, if_false, List.cons_append, List.nil_append, Option.isNone_some, Option.isNone_none, hlt3]))
        refine joinK_i ?_
        refine ixA (i := q) (a := aa) (l := a) (A := DOT) (by first | assumption | exact St.tick (by assumption) | exact St.tick (St.tick (by assumption))) rfl rfl hqb fun g1 o1 ha => ?_
        cases ha
        refine ldA0 (i := q) (l := a) (A := DOT) (by first | assumption | exact St.tick (by assumption) | exact St.tick (St.tick (by assumption))) rfl hqb (v := .agg #[.int .i64 (a[q]).rep, .int .i64 (a[q]).n]) rfl (by simp) ?_
        (repeat (first | (first | (with_reducible (first | refine w1 fun _ _ => ?_ | refine w3 fun _ _ _ => ?_ | refine w4 fun _ _ _ => ?_ | refine w11 fun _ _ _ => ?_ | refine stb_n ?_)) | ((with_reducible refine w2 ?_); try simp -implicitDefEqProofs only [EN, lsub, lget, stL, beq_self_eq_true, ne_eq, if_true, if_false, List.cons_append, List.nil_append, Option.isNone_some, Option.isNone_none, ei]; intro _ _) | ((with_reducible (first | refine w5 ?_ ?_ | refine w6 ?_ ?_ | refine w7 ?_ ?_)); simp; refine ⟨_, rfl, ?_⟩) | ((with_reducible (first | refine w8 ?_ ?_ ?_ | refine w9 ?_ ?_ ?_ | refine w10 ?_ ?_ ?_)); exact rfl; simp) | ((with_reducible refine w12 ?_ ?_ ?_ fun _ _ => ?_); simp; simp; simp [oneC]) | ((with_reducible (first | refine eqs ?_ | refine nes ?_)); refine ⟨_, rfl, ?_⟩) | ((refine okF_i (bldP_eq rfl) ?_); try simp only [BLS, List.take_succ_cons, List.take_zero, List.drop_succ_cons, List.drop_zero, List.cons_append, List.nil_append, Nat.reduceAdd])) | simp -implicitDefEqProofs only [EN, lsub, lget, stL, beq_self_eq_true, ne_eq, if_true, if_false, List.cons_append, List.nil_append, Option.isNone_some, Option.isNone_none, ei]))
        refine ldA0 (i := i) (l := rows) (A := DSY) (by first | assumption | exact St.tick (by assumption) | exact St.tick (St.tick (by assumption))) rfl hir eld (by simp) ?_
        (repeat (first | (first | (with_reducible (first | refine w1 fun _ _ => ?_ | refine w3 fun _ _ _ => ?_ | refine w4 fun _ _ _ => ?_ | refine w11 fun _ _ _ => ?_ | refine stb_n ?_)) | ((with_reducible refine w2 ?_); try simp -implicitDefEqProofs only [EN, lsub, lget, stL, beq_self_eq_true, ne_eq, if_true, if_false, List.cons_append, List.nil_append, Option.isNone_some, Option.isNone_none, ed]; intro _ _) | ((with_reducible (first | refine w5 ?_ ?_ | refine w6 ?_ ?_ | refine w7 ?_ ?_)); simp; refine ⟨_, rfl, ?_⟩) | ((with_reducible (first | refine w8 ?_ ?_ ?_ | refine w9 ?_ ?_ ?_ | refine w10 ?_ ?_ ?_)); exact rfl; simp) | ((with_reducible refine w12 ?_ ?_ ?_ fun _ _ => ?_); simp; simp; simp [oneC]) | ((with_reducible (first | refine eqs ?_ | refine nes ?_)); refine ⟨_, rfl, ?_⟩) | ((refine okF_i (bldP_eq rfl) ?_); try simp only [BLS, List.take_succ_cons, List.take_zero, List.drop_succ_cons, List.drop_zero, List.cons_append, List.nil_append, Nat.reduceAdd])) | simp -implicitDefEqProofs only [EN, lsub, lget, stL, beq_self_eq_true, ne_eq, if_true, if_false, List.cons_append, List.nil_append, Option.isNone_some, Option.isNone_none, ed]))
        refine ldA0 (i := k) (l := rl) (A := DOT) (by first | assumption | exact St.tick (by assumption) | exact St.tick (St.tick (by assumption))) rfl hkb edot (by simp) ?_
        by_cases he : a[q] = rl[k]
        · rw [if_pos (decide_eq_true he)] at hK5
          have f3 : (decide (a[q].rep = rl[k].rep) && decide (a[q].n = rl[k].n)) = true := by rw [f2]; exact decide_eq_true he
          (repeat (first | (first | (with_reducible (first | refine w1 fun _ _ => ?_ | refine w3 fun _ _ _ => ?_ | refine w4 fun _ _ _ => ?_ | refine w11 fun _ _ _ => ?_ | refine stb_n ?_)) | ((with_reducible refine w2 ?_); try simp -implicitDefEqProofs only [EN, lsub, lget, stL, beq_self_eq_true, ne_eq, if_true, if_false, List.cons_append, List.nil_append, Option.isNone_some, Option.isNone_none, f3, ew5]; intro _ _) | ((with_reducible (first | refine w5 ?_ ?_ | refine w6 ?_ ?_ | refine w7 ?_ ?_)); simp; refine ⟨_, rfl, ?_⟩) | ((with_reducible (first | refine w8 ?_ ?_ ?_ | refine w9 ?_ ?_ ?_ | refine w10 ?_ ?_ ?_)); exact rfl; simp) | ((with_reducible refine w12 ?_ ?_ ?_ fun _ _ => ?_); simp; simp; simp [oneC]) | ((with_reducible (first | refine eqs ?_ | refine nes ?_)); refine ⟨_, rfl, ?_⟩) | ((refine okF_i (bldP_eq rfl) ?_); try simp only [BLS, List.take_succ_cons, List.take_zero, List.drop_succ_cons, List.drop_zero, List.cons_append, List.nil_append, Nat.reduceAdd])) | simp -implicitDefEqProofs only [EN, lsub, lget, stL, beq_self_eq_true, ne_eq, if_true, if_false, List.cons_append, List.nil_append, Option.isNone_some, Option.isNone_none, f3, ew5]))
          unfold S.rostrumlaw18_OrderParts.j5
          (repeat (first | (first | (with_reducible (first | refine w1 fun _ _ => ?_ | refine w3 fun _ _ _ => ?_ | refine w4 fun _ _ _ => ?_ | refine w11 fun _ _ _ => ?_ | refine stb_n ?_)) | ((with_reducible refine w2 ?_); try simp -implicitDefEqProofs only [EN, lsub, lget, stL, beq_self_eq_true, ne_eq, if_true, if_false, List.cons_append, List.nil_append, Option.isNone_some, Option.isNone_none, ew4]; intro _ _) | ((with_reducible (first | refine w5 ?_ ?_ | refine w6 ?_ ?_ | refine w7 ?_ ?_)); simp; refine ⟨_, rfl, ?_⟩) | ((with_reducible (first | refine w8 ?_ ?_ ?_ | refine w9 ?_ ?_ ?_ | refine w10 ?_ ?_ ?_)); exact rfl; simp) | ((with_reducible refine w12 ?_ ?_ ?_ fun _ _ => ?_); simp; simp; simp [oneC]) | ((with_reducible (first | refine eqs ?_ | refine nes ?_)); refine ⟨_, rfl, ?_⟩) | ((refine okF_i (bldP_eq rfl) ?_); try simp only [BLS, List.take_succ_cons, List.take_zero, List.drop_succ_cons, List.drop_zero, List.cons_append, List.nil_append, Nat.reduceAdd])) | simp -implicitDefEqProofs only [EN, lsub, lget, stL, beq_self_eq_true, ne_eq, if_true, if_false, List.cons_append, List.nil_append, Option.isNone_some, Option.isNone_none, ew4]))
          exact hK5 _ (by first | assumption | exact St.tick (by assumption) | exact St.tick (St.tick (by assumption)))
        · rw [if_neg (by simpa using he)] at hK5
          have f3 : (decide (a[q].rep = rl[k].rep) && decide (a[q].n = rl[k].n)) = false := by rw [f2]; exact decide_eq_false he
          (repeat (first | (first | (with_reducible (first | refine w1 fun _ _ => ?_ | refine w3 fun _ _ _ => ?_ | refine w4 fun _ _ _ => ?_ | refine w11 fun _ _ _ => ?_ | refine stb_n ?_)) | ((with_reducible refine w2 ?_); try simp -implicitDefEqProofs only [EN, lsub, lget, stL, beq_self_eq_true, ne_eq, if_true, if_false, List.cons_append, List.nil_append, Option.isNone_some, Option.isNone_none, f3]; intro _ _) | ((with_reducible (first | refine w5 ?_ ?_ | refine w6 ?_ ?_ | refine w7 ?_ ?_)); simp; refine ⟨_, rfl, ?_⟩) | ((with_reducible (first | refine w8 ?_ ?_ ?_ | refine w9 ?_ ?_ ?_ | refine w10 ?_ ?_ ?_)); exact rfl; simp) | ((with_reducible refine w12 ?_ ?_ ?_ fun _ _ => ?_); simp; simp; simp [oneC]) | ((with_reducible (first | refine eqs ?_ | refine nes ?_)); refine ⟨_, rfl, ?_⟩) | ((refine okF_i (bldP_eq rfl) ?_); try simp only [BLS, List.take_succ_cons, List.take_zero, List.drop_succ_cons, List.drop_zero, List.cons_append, List.nil_append, Nat.reduceAdd])) | simp -implicitDefEqProofs only [EN, lsub, lget, stL, beq_self_eq_true, ne_eq, if_true, if_false, List.cons_append, List.nil_append, Option.isNone_some, Option.isNone_none, f3]))
          unfold S.rostrumlaw18_OrderParts.j5
          (repeat (first | (first | (with_reducible (first | refine w1 fun _ _ => ?_ | refine w3 fun _ _ _ => ?_ | refine w4 fun _ _ _ => ?_ | refine w11 fun _ _ _ => ?_ | refine stb_n ?_)) | ((with_reducible refine w2 ?_); try simp -implicitDefEqProofs only [EN, lsub, lget, stL, beq_self_eq_true, ne_eq, if_true, if_false, List.cons_append, List.nil_append, Option.isNone_some, Option.isNone_none, ew4]; intro _ _) | ((with_reducible (first | refine w5 ?_ ?_ | refine w6 ?_ ?_ | refine w7 ?_ ?_)); simp; refine ⟨_, rfl, ?_⟩) | ((with_reducible (first | refine w8 ?_ ?_ ?_ | refine w9 ?_ ?_ ?_ | refine w10 ?_ ?_ ?_)); exact rfl; simp) | ((with_reducible refine w12 ?_ ?_ ?_ fun _ _ => ?_); simp; simp; simp [oneC]) | ((with_reducible (first | refine eqs ?_ | refine nes ?_)); refine ⟨_, rfl, ?_⟩) | ((refine okF_i (bldP_eq rfl) ?_); try simp only [BLS, List.take_succ_cons, List.take_zero, List.drop_succ_cons, List.drop_zero, List.cons_append, List.nil_append, Nat.reduceAdd])) | simp -implicitDefEqProofs only [EN, lsub, lget, stL, beq_self_eq_true, ne_eq, if_true, if_false, List.cons_append, List.nil_append, Option.isNone_some, Option.isNone_none, ew4]))
          exact hK5 _ (by first | assumption | exact St.tick (by assumption) | exact St.tick (St.tick (by assumption)))
      · have hql : q = a.length := by omega
        subst hql
        rw [List.take_length]
        (repeat (first | (first | (with_reducible (first | refine w1 fun _ _ => ?_ | refine w3 fun _ _ _ => ?_ | refine w4 fun _ _ _ => ?_ | refine w11 fun _ _ _ => ?_ | refine stb_n ?_)) | ((with_reducible refine w2 ?_); try simp -implicitDefEqProofs only [EN, lsub, lget, stL, beq_self_eq_true, ne_eq, if_true, if_false, List.cons_append, List.nil_append, Option.isNone_some, Option.isNone_none, hlt3]; intro _ _) | ((with_reducible (first | refine w5 ?_ ?_ | refine w6 ?_ ?_ | refine w7 ?_ ?_)); simp; refine ⟨_, rfl, ?_⟩) | ((with_reducible (first | refine w8 ?_ ?_ ?_ | refine w9 ?_ ?_ ?_ | refine w10 ?_ ?_ ?_)); exact rfl; simp) | ((with_reducible refine w12 ?_ ?_ ?_ fun _ _ => ?_); simp; simp; simp [oneC]) | ((with_reducible (first | refine eqs ?_ | refine nes ?_)); refine ⟨_, rfl, ?_⟩) | ((refine okF_i (bldP_eq rfl) ?_); try simp only [BLS, List.take_succ_cons, List.take_zero, List.drop_succ_cons, List.drop_zero, List.cons_append, List.nil_append, Nat.reduceAdd])) | simp -implicitDefEqProofs only [EN, lsub, lget, stL, beq_self_eq_true, ne_eq, if_true, if_false, List.cons_append, List.nil_append, Option.isNone_some, Option.isNone_none, hlt3]))
        unfold S.rostrumlaw18_OrderParts.j4
        (repeat (first | (first | (with_reducible (first | refine w1 fun _ _ => ?_ | refine w3 fun _ _ _ => ?_ | refine w4 fun _ _ _ => ?_ | refine w11 fun _ _ _ => ?_ | refine stb_n ?_)) | ((with_reducible refine w2 ?_); try simp -implicitDefEqProofs only [EN, lsub, lget, stL, beq_self_eq_true, ne_eq, if_true, if_false, List.cons_append, List.nil_append, Option.isNone_some, Option.isNone_none, ew2]; intro _ _) | ((with_reducible (first | refine w5 ?_ ?_ | refine w6 ?_ ?_ | refine w7 ?_ ?_)); simp; refine ⟨_, rfl, ?_⟩) | ((with_reducible (first | refine w8 ?_ ?_ ?_ | refine w9 ?_ ?_ ?_ | refine w10 ?_ ?_ ?_)); exact rfl; simp) | ((with_reducible refine w12 ?_ ?_ ?_ fun _ _ => ?_); simp; simp; simp [oneC]) | ((with_reducible (first | refine eqs ?_ | refine nes ?_)); refine ⟨_, rfl, ?_⟩) | ((refine okF_i (bldP_eq rfl) ?_); try simp only [BLS, List.take_succ_cons, List.take_zero, List.drop_succ_cons, List.drop_zero, List.cons_append, List.nil_append, Nat.reduceAdd])) | simp -implicitDefEqProofs only [EN, lsub, lget, stL, beq_self_eq_true, ne_eq, if_true, if_false, List.cons_append, List.nil_append, Option.isNone_some, Option.isNone_none, ew2]))
        exact hK3 _ h
    · have hkl : k = rl.length := by omega
      subst hkl
      rw [List.take_length]
      have hK3 := fun W' => hK () W' hib
      rw [hss] at hK3
      (repeat (first | (first | (with_reducible (first | refine w1 fun _ _ => ?_ | refine w3 fun _ _ _ => ?_ | refine w4 fun _ _ _ => ?_ | refine w11 fun _ _ _ => ?_ | refine stb_n ?_)) | ((with_reducible refine w2 ?_); try simp -implicitDefEqProofs only [EN, lsub, lget, stL, beq_self_eq_true, ne_eq, if_true, if_false, List.cons_append, List.nil_append, Option.isNone_some, Option.isNone_none, hlt2]; intro _ _) | ((with_reducible (first | refine w5 ?_ ?_ | refine w6 ?_ ?_ | refine w7 ?_ ?_)); simp; refine ⟨_, rfl, ?_⟩) | ((with_reducible (first | refine w8 ?_ ?_ ?_ | refine w9 ?_ ?_ ?_ | refine w10 ?_ ?_ ?_)); exact rfl; simp) | ((with_reducible refine w12 ?_ ?_ ?_ fun _ _ => ?_); simp; simp; simp [oneC]) | ((with_reducible (first | refine eqs ?_ | refine nes ?_)); refine ⟨_, rfl, ?_⟩) | ((refine okF_i (bldP_eq rfl) ?_); try simp only [BLS, List.take_succ_cons, List.take_zero, List.drop_succ_cons, List.drop_zero, List.cons_append, List.nil_append, Nat.reduceAdd])) | simp -implicitDefEqProofs only [EN, lsub, lget, stL, beq_self_eq_true, ne_eq, if_true, if_false, List.cons_append, List.nil_append, Option.isNone_some, Option.isNone_none, hlt2]))
      unfold S.rostrumlaw18_OrderParts.j3
      rcases hin with hin | hin
      · rw [hin]
        by_cases hz : (rl.length : Int) = 0
        · (repeat (first | (first | (with_reducible (first | refine w1 fun _ _ => ?_ | refine w3 fun _ _ _ => ?_ | refine w4 fun _ _ _ => ?_ | refine w11 fun _ _ _ => ?_ | refine stb_n ?_)) | ((with_reducible refine w2 ?_); try simp -implicitDefEqProofs only [EN, lsub, lget, stL, beq_self_eq_true, ne_eq, if_true, if_false, List.cons_append, List.nil_append, Option.isNone_some, Option.isNone_none, decide_eq_true hz]; intro _ _) | ((with_reducible (first | refine w5 ?_ ?_ | refine w6 ?_ ?_ | refine w7 ?_ ?_)); simp; refine ⟨_, rfl, ?_⟩) | ((with_reducible (first | refine w8 ?_ ?_ ?_ | refine w9 ?_ ?_ ?_ | refine w10 ?_ ?_ ?_)); exact rfl; simp) | ((with_reducible refine w12 ?_ ?_ ?_ fun _ _ => ?_); simp; simp; simp [oneC]) | ((with_reducible (first | refine eqs ?_ | refine nes ?_)); refine ⟨_, rfl, ?_⟩) | ((refine okF_i (bldP_eq rfl) ?_); try simp only [BLS, List.take_succ_cons, List.take_zero, List.drop_succ_cons, List.drop_zero, List.cons_append, List.nil_append, Nat.reduceAdd])) | simp -implicitDefEqProofs only [EN, lsub, lget, stL, beq_self_eq_true, ne_eq, if_true, if_false, List.cons_append, List.nil_append, Option.isNone_some, Option.isNone_none, decide_eq_true hz]))
          unfold S.rostrumlaw18_OrderParts.j2
          (repeat (first | (first | (with_reducible (first | refine w1 fun _ _ => ?_ | refine w3 fun _ _ _ => ?_ | refine w4 fun _ _ _ => ?_ | refine w11 fun _ _ _ => ?_ | refine stb_n ?_)) | ((with_reducible refine w2 ?_); try simp -implicitDefEqProofs only [EN, lsub, lget, stL, beq_self_eq_true, ne_eq, if_true, if_false, List.cons_append, List.nil_append, Option.isNone_some, Option.isNone_none, ew]; intro _ _) | ((with_reducible (first | refine w5 ?_ ?_ | refine w6 ?_ ?_ | refine w7 ?_ ?_)); simp; refine ⟨_, rfl, ?_⟩) | ((with_reducible (first | refine w8 ?_ ?_ ?_ | refine w9 ?_ ?_ ?_ | refine w10 ?_ ?_ ?_)); exact rfl; simp) | ((with_reducible refine w12 ?_ ?_ ?_ fun _ _ => ?_); simp; simp; simp [oneC]) | ((with_reducible (first | refine eqs ?_ | refine nes ?_)); refine ⟨_, rfl, ?_⟩) | ((refine okF_i (bldP_eq rfl) ?_); try simp only [BLS, List.take_succ_cons, List.take_zero, List.drop_succ_cons, List.drop_zero, List.cons_append, List.nil_append, Nat.reduceAdd])) | simp -implicitDefEqProofs only [EN, lsub, lget, stL, beq_self_eq_true, ne_eq, if_true, if_false, List.cons_append, List.nil_append, Option.isNone_some, Option.isNone_none, ew]))
          exact hK3 _ (by first | assumption | exact St.tick (by assumption) | exact St.tick (St.tick (by assumption)))
        · (repeat (first | (first | (with_reducible (first | refine w1 fun _ _ => ?_ | refine w3 fun _ _ _ => ?_ | refine w4 fun _ _ _ => ?_ | refine w11 fun _ _ _ => ?_ | refine stb_n ?_)) | ((with_reducible refine w2 ?_); try simp -implicitDefEqProofs only [EN, lsub, lget, stL, beq_self_eq_true, ne_eq, if_true, if_false, List.cons_append, List.nil_append, Option.isNone_some, Option.isNone_none, decide_eq_false hz, ei]; intro _ _) | ((with_reducible (first | refine w5 ?_ ?_ | refine w6 ?_ ?_ | refine w7 ?_ ?_)); simp; refine ⟨_, rfl, ?_⟩) | ((with_reducible (first | refine w8 ?_ ?_ ?_ | refine w9 ?_ ?_ ?_ | refine w10 ?_ ?_ ?_)); exact rfl; simp) | ((with_reducible refine w12 ?_ ?_ ?_ fun _ _ => ?_); simp; simp; simp [oneC]) | ((with_reducible (first | refine eqs ?_ | refine nes ?_)); refine ⟨_, rfl, ?_⟩) | ((refine okF_i (bldP_eq rfl) ?_); try simp only [BLS, List.take_succ_cons, List.take_zero, List.drop_succ_cons, List.drop_zero, List.cons_append, List.nil_append, Nat.reduceAdd])) | simp -implicitDefEqProofs only [EN, lsub, lget, stL, beq_self_eq_true, ne_eq, if_true, if_false, List.cons_append, List.nil_append, Option.isNone_some, Option.isNone_none, decide_eq_false hz, ei]))
          refine ldA0 (i := i) (l := rows) (A := DSY) (by first | assumption | exact St.tick (by assumption) | exact St.tick (St.tick (by assumption))) rfl hir eld (by simp) ?_
          have e9 : decide ((rl.length : Int) = (rl.length : Int)) = true := decide_eq_true rfl
          (repeat (first | (first | (with_reducible (first | refine w1 fun _ _ => ?_ | refine w3 fun _ _ _ => ?_ | refine w4 fun _ _ _ => ?_ | refine w11 fun _ _ _ => ?_ | refine stb_n ?_)) | ((with_reducible refine w2 ?_); try simp -implicitDefEqProofs only [EN, lsub, lget, stL, beq_self_eq_true, ne_eq, if_true, if_false, List.cons_append, List.nil_append, Option.isNone_some, Option.isNone_none, e9]; intro _ _) | ((with_reducible (first | refine w5 ?_ ?_ | refine w6 ?_ ?_ | refine w7 ?_ ?_)); simp; refine ⟨_, rfl, ?_⟩) | ((with_reducible (first | refine w8 ?_ ?_ ?_ | refine w9 ?_ ?_ ?_ | refine w10 ?_ ?_ ?_)); exact rfl; simp) | ((with_reducible refine w12 ?_ ?_ ?_ fun _ _ => ?_); simp; simp; simp [oneC]) | ((with_reducible (first | refine eqs ?_ | refine nes ?_)); refine ⟨_, rfl, ?_⟩) | ((refine okF_i (bldP_eq rfl) ?_); try simp only [BLS, List.take_succ_cons, List.take_zero, List.drop_succ_cons, List.drop_zero, List.cons_append, List.nil_append, Nat.reduceAdd])) | simp -implicitDefEqProofs only [EN, lsub, lget, stL, beq_self_eq_true, ne_eq, if_true, if_false, List.cons_append, List.nil_append, Option.isNone_some, Option.isNone_none, e9]))
          unfold S.rostrumlaw18_OrderParts.j2
          (repeat (first | (first | (with_reducible (first | refine w1 fun _ _ => ?_ | refine w3 fun _ _ _ => ?_ | refine w4 fun _ _ _ => ?_ | refine w11 fun _ _ _ => ?_ | refine stb_n ?_)) | ((with_reducible refine w2 ?_); try simp -implicitDefEqProofs only [EN, lsub, lget, stL, beq_self_eq_true, ne_eq, if_true, if_false, List.cons_append, List.nil_append, Option.isNone_some, Option.isNone_none, ew]; intro _ _) | ((with_reducible (first | refine w5 ?_ ?_ | refine w6 ?_ ?_ | refine w7 ?_ ?_)); simp; refine ⟨_, rfl, ?_⟩) | ((with_reducible (first | refine w8 ?_ ?_ ?_ | refine w9 ?_ ?_ ?_ | refine w10 ?_ ?_ ?_)); exact rfl; simp) | ((with_reducible refine w12 ?_ ?_ ?_ fun _ _ => ?_); simp; simp; simp [oneC]) | ((with_reducible (first | refine eqs ?_ | refine nes ?_)); refine ⟨_, rfl, ?_⟩) | ((refine okF_i (bldP_eq rfl) ?_); try simp only [BLS, List.take_succ_cons, List.take_zero, List.drop_succ_cons, List.drop_zero, List.cons_append, List.nil_append, Nat.reduceAdd])) | simp -implicitDefEqProofs only [EN, lsub, lget, stL, beq_self_eq_true, ne_eq, if_true, if_false, List.cons_append, List.nil_append, Option.isNone_some, Option.isNone_none, ew]))
          exact hK3 _ (by first | assumption | exact St.tick (by assumption) | exact St.tick (St.tick (by assumption)))
      · rw [hin]
        have e9 : decide (((0 : Nat) : Int) = 0) = true := by decide
        (repeat (first | (first | (with_reducible (first | refine w1 fun _ _ => ?_ | refine w3 fun _ _ _ => ?_ | refine w4 fun _ _ _ => ?_ | refine w11 fun _ _ _ => ?_ | refine stb_n ?_)) | ((with_reducible refine w2 ?_); try simp -implicitDefEqProofs only [EN, lsub, lget, stL, beq_self_eq_true, ne_eq, if_true, if_false, List.cons_append, List.nil_append, Option.isNone_some, Option.isNone_none, e9]; intro _ _) | ((with_reducible (first | refine w5 ?_ ?_ | refine w6 ?_ ?_ | refine w7 ?_ ?_)); simp; refine ⟨_, rfl, ?_⟩) | ((with_reducible (first | refine w8 ?_ ?_ ?_ | refine w9 ?_ ?_ ?_ | refine w10 ?_ ?_ ?_)); exact rfl; simp) | ((with_reducible refine w12 ?_ ?_ ?_ fun _ _ => ?_); simp; simp; simp [oneC]) | ((with_reducible (first | refine eqs ?_ | refine nes ?_)); refine ⟨_, rfl, ?_⟩) | ((refine okF_i (bldP_eq rfl) ?_); try simp only [BLS, List.take_succ_cons, List.take_zero, List.drop_succ_cons, List.drop_zero, List.cons_append, List.nil_append, Nat.reduceAdd])) | simp -implicitDefEqProofs only [EN, lsub, lget, stL, beq_self_eq_true, ne_eq, if_true, if_false, List.cons_append, List.nil_append, Option.isNone_some, Option.isNone_none, e9]))
        unfold S.rostrumlaw18_OrderParts.j2
        (repeat (first | (first | (with_reducible (first | refine w1 fun _ _ => ?_ | refine w3 fun _ _ _ => ?_ | refine w4 fun _ _ _ => ?_ | refine w11 fun _ _ _ => ?_ | refine stb_n ?_)) | ((with_reducible refine w2 ?_); try simp -implicitDefEqProofs only [EN, lsub, lget, stL, beq_self_eq_true, ne_eq, if_true, if_false, List.cons_append, List.nil_append, Option.isNone_some, Option.isNone_none, ew]; intro _ _) | ((with_reducible (first | refine w5 ?_ ?_ | refine w6 ?_ ?_ | refine w7 ?_ ?_)); simp; refine ⟨_, rfl, ?_⟩) | ((with_reducible (first | refine w8 ?_ ?_ ?_ | refine w9 ?_ ?_ ?_ | refine w10 ?_ ?_ ?_)); exact rfl; simp) | ((with_reducible refine w12 ?_ ?_ ?_ fun _ _ => ?_); simp; simp; simp [oneC]) | ((with_reducible (first | refine eqs ?_ | refine nes ?_)); refine ⟨_, rfl, ?_⟩) | ((refine okF_i (bldP_eq rfl) ?_); try simp only [BLS, List.take_succ_cons, List.take_zero, List.drop_succ_cons, List.drop_zero, List.cons_append, List.nil_append, Nat.reduceAdd])) | simp -implicitDefEqProofs only [EN, lsub, lget, stL, beq_self_eq_true, ne_eq, if_true, if_false, List.cons_append, List.nil_append, Option.isNone_some, Option.isNone_none, ew]))
        exact hK3 _ (by first | assumption | exact St.tick (by assumption) | exact St.tick (St.tick (by assumption)))
  · have hil : i = gs.length := by omega
    subst hil
    have es : sumL gs gs.length = l.length := by unfold sumL; rw [List.take_length]; exact hsum
    rw [es]
    have e9 : decide ((l.length : Int) = (l.length : Int)) = true := decide_eq_true rfl
    have e10 : decide ((a.length : Int) ≤ (l.length : Int)) = true := decide_eq_true (by omega)
    (repeat (first | (first | (with_reducible (first | refine w1 fun _ _ => ?_ | refine w3 fun _ _ _ => ?_ | refine w4 fun _ _ _ => ?_ | refine w11 fun _ _ _ => ?_ | refine stb_n ?_)) | ((with_reducible refine w2 ?_); try simp -implicitDefEqProofs only [EN, lsub, lget, stL, beq_self_eq_true, ne_eq, if_true, if_false, List.cons_append, List.nil_append, Option.isNone_some, Option.isNone_none, hlt]; intro _ _) | ((with_reducible (first | refine w5 ?_ ?_ | refine w6 ?_ ?_ | refine w7 ?_ ?_)); simp; refine ⟨_, rfl, ?_⟩) | ((with_reducible (first | refine w8 ?_ ?_ ?_ | refine w9 ?_ ?_ ?_ | refine w10 ?_ ?_ ?_)); exact rfl; simp) | ((with_reducible refine w12 ?_ ?_ ?_ fun _ _ => ?_); simp; simp; simp [oneC]) | ((with_reducible (first | refine eqs ?_ | refine nes ?_)); refine ⟨_, rfl, ?_⟩) | ((refine okF_i (bldP_eq rfl) ?_); try simp only [BLS, List.take_succ_cons, List.take_zero, List.drop_succ_cons, List.drop_zero, List.cons_append, List.nil_append, Nat.reduceAdd])) | simp -implicitDefEqProofs only [EN, lsub, lget, stL, beq_self_eq_true, ne_eq, if_true, if_false, List.cons_append, List.nil_append, Option.isNone_some, Option.isNone_none, hlt]))
    unfold S.rostrumlaw18_OrderParts.j1
    (repeat (first | (first | (with_reducible (first | refine w1 fun _ _ => ?_ | refine w3 fun _ _ _ => ?_ | refine w4 fun _ _ _ => ?_ | refine w11 fun _ _ _ => ?_ | refine stb_n ?_)) | ((with_reducible refine w2 ?_); try simp -implicitDefEqProofs only [EN, lsub, lget, stL, beq_self_eq_true, ne_eq, if_true, if_false, List.cons_append, List.nil_append, Option.isNone_some, Option.isNone_none, e9, e10]; intro _ _) | ((with_reducible (first | refine w5 ?_ ?_ | refine w6 ?_ ?_ | refine w7 ?_ ?_)); simp; refine ⟨_, rfl, ?_⟩) | ((with_reducible (first | refine w8 ?_ ?_ ?_ | refine w9 ?_ ?_ ?_ | refine w10 ?_ ?_ ?_)); exact rfl; simp) | ((with_reducible refine w12 ?_ ?_ ?_ fun _ _ => ?_); simp; simp; simp [oneC]) | ((with_reducible (first | refine eqs ?_ | refine nes ?_)); refine ⟨_, rfl, ?_⟩) | ((refine okF_i (bldP_eq rfl) ?_); try simp only [BLS, List.take_succ_cons, List.take_zero, List.drop_succ_cons, List.drop_zero, List.cons_append, List.nil_append, Nat.reduceAdd])) | simp -implicitDefEqProofs only [EN, lsub, lget, stL, beq_self_eq_true, ne_eq, if_true, if_false, List.cons_append, List.nil_append, Option.isNone_some, Option.isNone_none, e9, e10]))
    exact fin _ _ (by first | assumption | exact St.tick (by assumption) | exact St.tick (St.tick (by assumption)))
end Go.Proofs.YtkjhccpanedccaaGreat
namespace Go.Proofs.YtkjhccpanedccaaGreat.orderPartsDone
set_option linter.unusedVariables false
set_option linter.unusedSimpArgs false
open Go Go.Eng Go.ChangeShapes Go.WideShapes Go.ChangeAt Go.RowKit

theorem own : ownKnob Tryz.prog.godebug = none := by kernel_rfl
theorem laidOut : laidOutB Tryz.prog = true := by kernel_rfl

set_option maxRecDepth 100000 in
theorem lifted (os : Os) (started : os.Started) (H : Type) (enc : TypeId × Value → H) :
    ReturnsInHanded {} Tryz.checked os F_rostrumlaw18_OrderParts .any (Rows.orderPartsSpec.pre6 enc Tryz.prog Tryz.f4 Rows.orderPartsRow.domain false) (Rows.orderPartsSpec.post enc Tryz.prog Tryz.f4 false true false false) := by
  refine returnsInHanded_of_change (C := Tryz.checked) own started (by kernel_rfl) S.rostrumlaw18_OrderParts.fn
    (ChangeSpec.witness6 (enc := enc) (C := Tryz.checked) false ⟨#[], #[(.slice none 0 0)], []⟩ 8 (by kernel_rfl) (by kernel_rfl) (by kernel_rfl) (by kernel_rfl)) ?_
  intro W base args ds gs before hval0 hW hcnd _
  have hval : ∀ (j : Nat) t v, Tryz.f4.params[j]? = some t → args[j]? = some v → Value.okWide Tryz.prog W .any base t v := hval0
  have hW' := hW
  obtain ⟨p, q, hA0, hV, rfl, hfz, hnd⟩ := hW
  have hA : DataW.TrodAll enc Tryz.prog W 0 (fun _ => true) true Tryz.f4.params.toList args.toList ds p := hA0
  have hpar : Tryz.f4.params.toList = [T_s_order_Inst] := by kernel_rfl
  rw [hpar] at hA
  have hA1 := hA
  obtain ⟨v0, vs0, d0, ds0, p0, q0, hargs, rfl, rfl, h0, r0⟩ := trodAll_cons hA
  obtain ⟨rfl, rfl, rfl⟩ := trodAll_nil r0
  obtain rfl : args = #[v0] := by cases args; simp_all
  obtain ⟨rfl, rfl⟩ := trodVars_none hV
  have g0 : GoodA W [.sl [.int .i64, .int .i64, .int .i64, .int .i64, .int .i64, .int .i64, .int .i64, .int .i64, .int .i64, .int .i64]] false v0 := open_arg (m := 8) (by kernel_rfl) (by kernel_rfl) (hval 0 T_s_order_Inst v0 (by kernel_rfl) rfl) h0
  clear hA0 hval0
  have hc : Calls Tryz.prog F_rostrumlaw18_OrderParts #[v0] W fun e W' => e = .returned (.bool true) ∧ Below W.heap.size W W' :=
    Calls.mono (orderParts_walk g0) fun e W' h => by
      cases e <;> first | exact ⟨by rw [h.1], h.2.below⟩ | exact h.elim
  refine hc.mono fun e W' ⟨he, bel⟩ => ?_
  subst he
  exact ⟨_, rfl, _, _, _, [], _, [], hW', trodAll_mk1 (shut_bool (t := T_bool) (by kernel_rfl) _), keep_all laidOut (by kernel_rfl) hA1 bel, rfl, bel.frame _, fun h => by cases h⟩

theorem proved : Rows.OrderPartsSaid :=
  OpenClaim.holds_of_wide F_rostrumlaw18_OrderParts Tryz.f4 rfl rfl rfl rfl rfl rfl rfl ⟨rfl, rfl, rfl, rfl, rfl⟩ rfl rfl rfl rfl rfl (by kernel_rfl) S.rostrumlaw18_OrderParts.fn (by kernel_rfl)
    (of_decide_eq_true (by kernel_rfl)) (by unfold Func.isWrapper; first | (rw [if_pos (by decide +kernel)]; kernel_rfl) | (rw [if_neg (by decide +kernel)]; exact ⟨rfl, rfl⟩))
    (fun os started H enc _ => lifted os started H enc)
end Go.Proofs.YtkjhccpanedccaaGreat.orderPartsDone
