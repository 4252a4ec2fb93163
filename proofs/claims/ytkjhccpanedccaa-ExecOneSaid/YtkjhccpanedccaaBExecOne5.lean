/- Texts of the claim ExecOne, joined: COrd3, COrd4, COrd5, COrd6, COrd7, Srt3, Srt4, Srt5, PTar, PTar2, COrd8. -/
import Derived.Test.YtkjhccpanedccaaBExecOne4
import Derived.Test.YtkjhccpanedccaaBExecOne3
import Derived.WideShapes
import Derived.Shelf.SlIterI.Sorted
import Derived.Shelf.SortM.Plain
import Derived.Shelf.SortM.SortNone
import Derived.RangeFuncBox
import Derived.RangeFuncLeaves
import Derived.Shelf.Abstract
import Derived.WalkKit
import Derived.OwnWalkIn
import Derived.TacticsInMore
import Derived.LoopNIn
import Derived.LoopIn
import Derived.Test.YtkjhccpanedccaaBExecOne1
import Derived.Test.YtkjhccpanedccaaBExecOne2
namespace Go.Proofs.Ytkjhccpanedccaa
set_option linter.unusedVariables false
set_option linter.unusedSimpArgs false
open Go Go.Eng Go.Sort

def sortO (l : List Ins) : List Ins := Go.Tar.isort (fun x y => !decide (insLt y x)) l
theorem insNot_trans (a b c : Ins) (h1 : ¬ insLt b a) (h2 : ¬ insLt c b) : ¬ insLt c a := by unfold insLt at *; omega
theorem insNot_total (a b : Ins) : ¬ insLt b a ∨ ¬ insLt a b := by unfold insLt; omega
theorem sortO_perm (l : List Ins) : (sortO l).Perm l := Go.Tar.isort_perm l
theorem sortO_len (l : List Ins) : (sortO l).length = l.length := (sortO_perm l).length_eq
theorem sortO_sorted (l : List Ins) : insSorted (sortO l) :=
  (Go.Tar.isort_sorted (fun a b c h1 h2 => by
    simp only [Bool.not_eq_true', decide_eq_false_iff_not] at *
    exact insNot_trans a b c h1 h2) (fun a b => by
    simp only [Bool.or_eq_true, Bool.not_eq_true', decide_eq_false_iff_not]
    exact insNot_total a b) l).imp fun {a b} h => by simpa using h
theorem ins_inj {l : List Ins} (hn : (l.map (·.d)).Nodup) {a b : Ins} (ha : a ∈ l) (hb : b ∈ l) (h : a.d = b.d) : a = b := by
  obtain ⟨i, hi, rfl⟩ := List.getElem_of_mem ha
  obtain ⟨j, hj, rfl⟩ := List.getElem_of_mem hb
  have h3 := List.getElem_inj (h₀ := by simpa using hi) (h₁ := by simpa using hj) (i := i) (j := j) hn
  have := h3.1 (by simpa using h)
  subst this; rfl
theorem sorted_one {l m m' : List Ins} (hn : (l.map (·.d)).Nodup) (h1 : m.Perm l) (h2 : m'.Perm l) (s1 : insSorted m) (s2 : insSorted m') : m = m' :=
  List.Perm.eq_of_pairwise (le := fun x y => ¬ insLt y x) (fun a b ha hb g1 g2 => ins_inj hn (h1.mem_iff.1 ha) (h2.mem_iff.1 hb) (insLt_same g2 g1)) s1 s2 (h1.trans h2.symm)
theorem sortO_eq {l m : List Ins} (hn : (l.map (·.d)).Nodup) (h1 : m.Perm l) (s1 : insSorted m) : m = sortO l := sorted_one hn h1 (sortO_perm l) s1 (sortO_sorted l)
theorem sortO_of_perm {l l' : List Ins} (hn : (l.map (·.d)).Nodup) (h : l'.Perm l) : sortO l' = sortO l := sorted_one hn ((sortO_perm l').trans h) (sortO_perm l) (sortO_sorted l') (sortO_sorted l)
theorem sortO_nodup {l : List Ins} (hn : (l.map (·.d)).Nodup) : ((sortO l).map (·.d)).Nodup := ((sortO_perm l).map (·.d)).nodup_iff.2 hn
/-- where each is -/
def plL (l : List Ins) : List (Dot × Value) := l.zipIdx.map fun x => (x.1.d, Value.int .i64 (x.2 : Int))
theorem plL_take (l : List Ins) {i : Nat} (hi : i < l.length) : plL (l.take (i + 1)) = plL (l.take i) ++ [(l[i].d, Value.int .i64 (i : Int))] := by
  unfold plL
  rw [List.take_succ_eq_append_getElem hi, List.zipIdx_append, List.map_append]
  congr 1
  simp [Nat.min_eq_left (Nat.le_of_lt hi)]
theorem plL_keys (l : List Ins) : (plL l).map (·.1) = l.map (·.d) := by
  unfold plL
  rw [List.map_map]
  apply List.ext_getElem
  · simp
  · intro i h1 h2; simp
structure WX where
  a : Option Addr
  c : Nat
  r : Nat
def wb (p : Nat) (l : List Ins) : Asn := fun h => ∃ x : WX, sep [cells p [.slice x.a l.length x.c, .map (some x.r)] T_order_web, arr INS T_order_Inst x.a x.c l, mp KD x.r (plL l)] h
section
variable {W0 W : World} {L L' : List Asn} {p : Nat}
theorem wb_at {l : List Ins} (h : St W0 (wb p l :: L) W) : ∃ a c r, St W0 (cells p [.slice a l.length c, .map (some r)] T_order_web :: arr INS T_order_Inst a c l :: mp KD r (plL l) :: L) W := by
  obtain ⟨x, h⟩ := h.ex
  exact ⟨x.a, x.c, x.r, h.flat⟩
theorem wb_ent {l : List Ins} {a : Option Addr} {c r : Nat} : ent (cells p [.slice a l.length c, .map (some r)] T_order_web :: arr INS T_order_Inst a c l :: mp KD r (plL l) :: L) (wb p l :: L) :=
  (ent.pack [_, _, _] L).trans (ent.weak fun _ hp => ⟨⟨a, c, r⟩, hp⟩)
set_option maxRecDepth 100000 in
set_option maxHeartbeats 4000000 in
theorem ordWeave {a : Option Addr} {c : Nat} {l : List Ins} {k : Value → World → Prop} (h : St W0 L W) [hr : Rd W0 L a INS l] (hl : l.length < 1000000) (hn : (l.map (·.d)).Nodup)
    (hk : ∀ p W', St W0 (wb p (sortO l) :: L) W' → k (.pointer (some ⟨p, 0, none⟩)) W') : callK PR F_order_weave [.slice a l.length c] k W := by
  apply S.order_weave.call
  unfold S.order_weave.body
  refine insClone (a := a) (l := l) h hl fun a1 c1 W1 h => ?_
  refine insSort (a := a1) (l := l) h hl hn fun m W2 hp hs h => ?_
  have hm := sortO_eq hn hp hs
  subst hm
  have hln := sortO_len l
  have hnd := sortO_nodup hn
  rw [← hln]
  clear hs hp
  generalize sortO l = m at *
  refine mkMap (K := KD) h fun r W3 h => ?_
  (repeat (first | (first | (with_reducible (first | refine w1 fun _ _ => ?_ | refine w3 fun _ _ _ => ?_ | refine w4 fun _ _ _ => ?_ | refine w11 fun _ _ _ => ?_ | refine stb_n ?_)) | ((with_reducible refine w2 ?_); try simp -implicitDefEqProofs only [EN, lsub, lget, stL, beq_self_eq_true, ne_eq, if_true, if_false, List.cons_append, List.nil_append, Option.isNone_some, Option.isNone_none]; intro _ _) | ((with_reducible (first | refine w5 ?_ ?_ | refine w6 ?_ ?_ | refine w7 ?_ ?_)); simp; refine ⟨_, rfl, ?_⟩) | ((with_reducible (first | refine w8 ?_ ?_ ?_ | refine w9 ?_ ?_ ?_ | refine w10 ?_ ?_ ?_)); exact rfl; simp) | ((with_reducible refine w12 ?_ ?_ ?_ fun _ _ => ?_); simp; simp; simp [oneC]) | ((with_reducible (first | refine eqs ?_ | refine nes ?_)); refine ⟨_, rfl, ?_⟩) | ((refine okF_i (bldP_eq rfl) ?_); try simp only [BLS, List.take_succ_cons, List.take_zero, List.drop_succ_cons, List.drop_zero, List.cons_append, List.nil_append, Nat.reduceAdd])) | simp -implicitDefEqProofs only [EN, lsub, lget, stL, beq_self_eq_true, ne_eq, if_true, if_false, List.cons_append, List.nil_append, Option.isNone_some, Option.isNone_none]))
  rename_i p W4 h
  (try simp only [BLS, List.take_succ_cons, List.take_zero, List.drop_succ_cons, List.drop_zero, List.cons_append, List.nil_append, List.append_nil, List.take_nil, List.drop_nil, stL, Nat.reduceAdd] at h)
  refine joinK_i ?_
  (repeat (first | (first | (with_reducible (first | refine w1 fun _ _ => ?_ | refine w3 fun _ _ _ => ?_ | refine w4 fun _ _ _ => ?_ | refine w11 fun _ _ _ => ?_ | refine stb_n ?_)) | ((with_reducible refine w2 ?_); try simp -implicitDefEqProofs only [EN, lsub, lget, stL, beq_self_eq_true, ne_eq, if_true, if_false, List.cons_append, List.nil_append, Option.isNone_some, Option.isNone_none]; intro _ _) | ((with_reducible (first | refine w5 ?_ ?_ | refine w6 ?_ ?_ | refine w7 ?_ ?_)); simp; refine ⟨_, rfl, ?_⟩) | ((with_reducible (first | refine w8 ?_ ?_ ?_ | refine w9 ?_ ?_ ?_ | refine w10 ?_ ?_ ?_)); exact rfl; simp) | ((with_reducible refine w12 ?_ ?_ ?_ fun _ _ => ?_); simp; simp; simp [oneC]) | ((with_reducible (first | refine eqs ?_ | refine nes ?_)); refine ⟨_, rfl, ?_⟩) | ((refine okF_i (bldP_eq rfl) ?_); try simp only [BLS, List.take_succ_cons, List.take_zero, List.drop_succ_cons, List.drop_zero, List.cons_append, List.nil_append, Nat.reduceAdd])) | simp -implicitDefEqProofs only [EN, lsub, lget, stL, beq_self_eq_true, ne_eq, if_true, if_false, List.cons_append, List.nil_append, Option.isNone_some, Option.isNone_none]))
  refine loop_c (σ := Unit) m.length (fun i _ => [.pointer (some ⟨p, 0, none⟩), .slice a1 m.length c1, .int .i64 m.length, .int .i64 i])
    (fun i _ W1 => St W0 (cells p [.slice a1 m.length c1, .map (some r)] T_order_web :: arr INS T_order_Inst a1 c1 m :: mp KD r (plL (m.take i)) :: L) W1) () rfl (show St W0 (cells p [.slice a1 m.length c1, .map (some r)] T_order_web :: arr INS T_order_Inst a1 c1 m :: mp KD r [] :: L) _ from St.wk h) ?_
  clear h
  rintro K i _ W5 hi h hK
  simp -implicitDefEqProofs only [EN, lsub, lget, stL, beq_self_eq_true, ne_eq, if_true, if_false, List.cons_append, List.nil_append, Option.isNone_some, Option.isNone_none]
  unfold S.order_weave.l1
  by_cases hlt : (i : Int) < (m.length : Int)
  · have hib : i < m.length := by omega
    have ew : IntKind.i64.wrap ((i : Int) + 1) = ((i + 1 : Nat) : Int) := by rw [i64w]; omega
    have hpt := plL_take m hib
    have hno : ∀ q ∈ plL (m.take i), q.1 ≠ m[i].d := fun q hq e => by
      have h1 : q.1 ∈ (m.take i).map (·.d) := by rw [← plL_keys]; exact List.mem_map.2 ⟨q, hq, rfl⟩
      have h2 := hnd.sublist ((List.take_sublist (i + 1) m).map (·.d))
      rw [List.take_succ_eq_append_getElem hib, List.map_append, List.nodup_append] at h2
      exact h2.2.2 _ h1 m[i].d (by simp) e
    (repeat (first | (first | (with_reducible (first | refine w1 fun _ _ => ?_ | refine w3 fun _ _ _ => ?_ | refine w4 fun _ _ _ => ?_ | refine w11 fun _ _ _ => ?_ | refine stb_n ?_)) | ((with_reducible refine w2 ?_); try simp -implicitDefEqProofs only [EN, lsub, lget, stL, beq_self_eq_true, ne_eq, if_true, if_false, List.cons_append, List.nil_append, Option.isNone_some, Option.isNone_none, hlt]; intro _ _) | ((with_reducible (first | refine w5 ?_ ?_ | refine w6 ?_ ?_ | refine w7 ?_ ?_)); simp; refine ⟨_, rfl, ?_⟩) | ((with_reducible (first | refine w8 ?_ ?_ ?_ | refine w9 ?_ ?_ ?_ | refine w10 ?_ ?_ ?_)); exact rfl; simp) | ((with_reducible refine w12 ?_ ?_ ?_ fun _ _ => ?_); simp; simp; simp [oneC]) | ((with_reducible (first | refine eqs ?_ | refine nes ?_)); refine ⟨_, rfl, ?_⟩) | ((refine okF_i (bldP_eq rfl) ?_); try simp only [BLS, List.take_succ_cons, List.take_zero, List.drop_succ_cons, List.drop_zero, List.cons_append, List.nil_append, Nat.reduceAdd])) | simp -implicitDefEqProofs only [EN, lsub, lget, stL, beq_self_eq_true, ne_eq, if_true, if_false, List.cons_append, List.nil_append, Option.isNone_some, Option.isNone_none, hlt]))
    refine ixA (i := i) (a := a1) (l := m) (A := INS) h rfl rfl hib fun g o ha => ?_
    cases ha
    refine ldA0 (i := i) (l := m) (A := INS) h rfl hib (v := .agg (INS.row m[i]).toArray) rfl (by simp [INS]) ?_
    rw [show (INS.row m[i]).toArray = #[.int .i64 (m[i].d).rep, .int .i64 (m[i].d).n, .int .i64 m[i].s, .int .i64 (m[i].v).x0, .int .i64 (m[i].v).x1, .int .i64 (m[i].v).x2, .int .i64 (m[i].v).x3, .int .i64 (m[i].v).x4, .int .i64 (m[i].v).x5, .int .i64 (m[i].v).x6] from rfl]
    (repeat (first | (first | (with_reducible (first | refine w1 fun _ _ => ?_ | refine w3 fun _ _ _ => ?_ | refine w4 fun _ _ _ => ?_ | refine w11 fun _ _ _ => ?_ | refine stb_n ?_)) | ((with_reducible refine w2 ?_); try simp -implicitDefEqProofs only [EN, lsub, lget, stL, beq_self_eq_true, ne_eq, if_true, if_false, List.cons_append, List.nil_append, Option.isNone_some, Option.isNone_none]; intro _ _) | ((with_reducible (first | refine w5 ?_ ?_ | refine w6 ?_ ?_ | refine w7 ?_ ?_)); simp; refine ⟨_, rfl, ?_⟩) | ((with_reducible (first | refine w8 ?_ ?_ ?_ | refine w9 ?_ ?_ ?_ | refine w10 ?_ ?_ ?_)); exact rfl; simp) | ((with_reducible refine w12 ?_ ?_ ?_ fun _ _ => ?_); simp; simp; simp [oneC]) | ((with_reducible (first | refine eqs ?_ | refine nes ?_)); refine ⟨_, rfl, ?_⟩) | ((refine okF_i (bldP_eq rfl) ?_); try simp only [BLS, List.take_succ_cons, List.take_zero, List.drop_succ_cons, List.drop_zero, List.cons_append, List.nil_append, Nat.reduceAdd])) | simp -implicitDefEqProofs only [EN, lsub, lget, stL, beq_self_eq_true, ne_eq, if_true, if_false, List.cons_append, List.nil_append, Option.isNone_some, Option.isNone_none]))
    refine mset (K := KD) m[i].d (by first | assumption | exact St.tick (by assumption) | exact St.tick (St.tick (by assumption))) fun W6 h => ?_
    rw [mput_new hno, ← hpt] at h
    (repeat (first | (first | (with_reducible (first | refine w1 fun _ _ => ?_ | refine w3 fun _ _ _ => ?_ | refine w4 fun _ _ _ => ?_ | refine w11 fun _ _ _ => ?_ | refine stb_n ?_)) | ((with_reducible refine w2 ?_); try simp -implicitDefEqProofs only [EN, lsub, lget, stL, beq_self_eq_true, ne_eq, if_true, if_false, List.cons_append, List.nil_append, Option.isNone_some, Option.isNone_none, ew]; intro _ _) | ((with_reducible (first | refine w5 ?_ ?_ | refine w6 ?_ ?_ | refine w7 ?_ ?_)); simp; refine ⟨_, rfl, ?_⟩) | ((with_reducible (first | refine w8 ?_ ?_ ?_ | refine w9 ?_ ?_ ?_ | refine w10 ?_ ?_ ?_)); exact rfl; simp) | ((with_reducible refine w12 ?_ ?_ ?_ fun _ _ => ?_); simp; simp; simp [oneC]) | ((with_reducible (first | refine eqs ?_ | refine nes ?_)); refine ⟨_, rfl, ?_⟩) | ((refine okF_i (bldP_eq rfl) ?_); try simp only [BLS, List.take_succ_cons, List.take_zero, List.drop_succ_cons, List.drop_zero, List.cons_append, List.nil_append, Nat.reduceAdd])) | simp -implicitDefEqProofs only [EN, lsub, lget, stL, beq_self_eq_true, ne_eq, if_true, if_false, List.cons_append, List.nil_append, Option.isNone_some, Option.isNone_none, ew]))
    exact hK () _ hib (St.wk (by first | assumption | exact St.tick (by assumption) | exact St.tick (St.tick (by assumption))))
  · have hil : i = m.length := by omega
    subst hil
    rw [List.take_length] at h
    (repeat (first | (first | (with_reducible (first | refine w1 fun _ _ => ?_ | refine w3 fun _ _ _ => ?_ | refine w4 fun _ _ _ => ?_ | refine w11 fun _ _ _ => ?_ | refine stb_n ?_)) | ((with_reducible refine w2 ?_); try simp -implicitDefEqProofs only [EN, lsub, lget, stL, beq_self_eq_true, ne_eq, if_true, if_false, List.cons_append, List.nil_append, Option.isNone_some, Option.isNone_none, hlt]; intro _ _) | ((with_reducible (first | refine w5 ?_ ?_ | refine w6 ?_ ?_ | refine w7 ?_ ?_)); simp; refine ⟨_, rfl, ?_⟩) | ((with_reducible (first | refine w8 ?_ ?_ ?_ | refine w9 ?_ ?_ ?_ | refine w10 ?_ ?_ ?_)); exact rfl; simp) | ((with_reducible refine w12 ?_ ?_ ?_ fun _ _ => ?_); simp; simp; simp [oneC]) | ((with_reducible (first | refine eqs ?_ | refine nes ?_)); refine ⟨_, rfl, ?_⟩) | ((refine okF_i (bldP_eq rfl) ?_); try simp only [BLS, List.take_succ_cons, List.take_zero, List.drop_succ_cons, List.drop_zero, List.cons_append, List.nil_append, Nat.reduceAdd])) | simp -implicitDefEqProofs only [EN, lsub, lget, stL, beq_self_eq_true, ne_eq, if_true, if_false, List.cons_append, List.nil_append, Option.isNone_some, Option.isNone_none, hlt]))
    unfold S.order_weave.j1
    exact hk p _ (h.ent wb_ent)
end
end Go.Proofs.Ytkjhccpanedccaa
namespace Go.Proofs.Ytkjhccpanedccaa
set_option linter.unusedVariables false
set_option linter.unusedSimpArgs false
open Go Go.Eng

/-- the dots of replica r that x hangs on -/
def depsR (x : Ins) (r : Nat) : List Dot := (((List.range (x.v.get r).toNat).map fun k : Nat => (⟨(r : Int), (k : Int) + 1⟩ : Dot))).filter fun d => !decide (d = x.d)
def depsL (x : Ins) : List Dot := (List.range 7).flatMap (depsR x)
/-- told one by one, till the answer is false -/
def eachF {σ : Type} (q : σ → Dot → Bool) (t : σ → Dot → σ) : List Dot → σ → Bool × σ
  | [], s => (true, s)
  | d :: ds, s => if q s d then eachF q t ds (t s d) else (false, t s d)
theorem depsL_drop (x : Ins) {j : Nat} (h : j < 7) : ((List.range 7).drop j).flatMap (depsR x) = depsR x j ++ ((List.range 7).drop (j + 1)).flatMap (depsR x) := by
  rw [List.drop_eq_getElem_cons (by simpa using h), List.flatMap_cons]; simp
theorem depsR_drop (x : Ins) (r : Nat) {m : Nat} (h : m < (x.v.get r).toNat) : (((List.range (x.v.get r).toNat).drop m).map fun k : Nat => (⟨(r : Int), (k : Int) + 1⟩ : Dot)) = ⟨(r : Int), (m : Int) + 1⟩ :: (((List.range (x.v.get r).toNat).drop (m + 1)).map fun k : Nat => (⟨(r : Int), (k : Int) + 1⟩ : Dot)) := by
  rw [List.drop_eq_getElem_cons (by simpa using h), List.map_cons]; simp
section
variable {W0 W : World} {L : List Asn} {p : Nat} {σ : Type} {C : σ → Asn} {fv : Value} {q : σ → Dot → Bool} {t : σ → Dot → σ} {sl : List Ins}
set_option maxRecDepth 100000 in
set_option maxHeartbeats 4000000 in
theorem ordEach {I : Nat → σ → Prop} {s : σ} {i : Nat} {k : Value → World → Prop} (hI : ∀ m s d, I m s → I (m + 1) (t s d)) (hI0 : I 0 s) (hcb : ∀ m s d W (k : Value → World → Prop), m < 7000 → (0 ≤ d.rep ∧ d.rep < 7) → I m s → St W0 (C s :: wb p sl :: L) W → (∀ W', St W0 (C (t s d) :: wb p sl :: L) W' → k (.bool (q s d)) W') → vcK PR fv [KD d] k W)
    (h : St W0 (C s :: wb p sl :: L) W) (hi : i < sl.length) (hd : depsO sl[i] = true) (hk : ∀ W', St W0 (C (eachF q t (depsL sl[i]) s).2 :: wb p sl :: L) W' → k (.bool (eachF q t (depsL sl[i]) s).1) W') :
    callK PR F_order_web_each [.pointer (some ⟨p, 0, none⟩), .int .i64 (i : Int), fv] k W := by
  apply S.order_web_each.call
  unfold S.order_web_each.body
  obtain ⟨a, c, r, h⟩ := wb_at (St.perm h (List.Perm.swap _ _ _))
  have hdo := (depsO_iff _).1 hd
  (repeat (first | (first | (with_reducible (first | refine w1 fun _ _ => ?_ | refine w3 fun _ _ _ => ?_ | refine w4 fun _ _ _ => ?_ | refine w11 fun _ _ _ => ?_ | refine stb_n ?_)) | ((with_reducible refine w2 ?_); try simp -implicitDefEqProofs only [EN, lsub, lget, stL, beq_self_eq_true, ne_eq, if_true, if_false, List.cons_append, List.nil_append, Option.isNone_some, Option.isNone_none]; intro _ _) | ((with_reducible (first | refine w5 ?_ ?_ | refine w6 ?_ ?_ | refine w7 ?_ ?_)); simp; refine ⟨_, rfl, ?_⟩) | ((with_reducible (first | refine w8 ?_ ?_ ?_ | refine w9 ?_ ?_ ?_ | refine w10 ?_ ?_ ?_)); exact rfl; simp) | ((with_reducible refine w12 ?_ ?_ ?_ fun _ _ => ?_); simp; simp; simp [oneC]) | ((with_reducible (first | refine eqs ?_ | refine nes ?_)); refine ⟨_, rfl, ?_⟩) | ((refine okF_i (bldP_eq rfl) ?_); try simp only [BLS, List.take_succ_cons, List.take_zero, List.drop_succ_cons, List.drop_zero, List.cons_append, List.nil_append, Nat.reduceAdd])) | simp -implicitDefEqProofs only [EN, lsub, lget, stL, beq_self_eq_true, ne_eq, if_true, if_false, List.cons_append, List.nil_append, Option.isNone_some, Option.isNone_none]))
  refine ixA (i := i) (a := a) (l := sl) (A := INS) (by first | assumption | exact St.tick (by assumption) | exact St.tick (St.tick (by assumption))) rfl rfl hi fun g o ha => ?_
  cases ha
  (repeat (first | (first | (with_reducible (first | refine w1 fun _ _ => ?_ | refine w3 fun _ _ _ => ?_ | refine w4 fun _ _ _ => ?_ | refine w11 fun _ _ _ => ?_ | refine stb_n ?_)) | ((with_reducible refine w2 ?_); try simp -implicitDefEqProofs only [EN, lsub, lget, stL, beq_self_eq_true, ne_eq, if_true, if_false, List.cons_append, List.nil_append, Option.isNone_some, Option.isNone_none]; intro _ _) | ((with_reducible (first | refine w5 ?_ ?_ | refine w6 ?_ ?_ | refine w7 ?_ ?_)); simp; refine ⟨_, rfl, ?_⟩) | ((with_reducible (first | refine w8 ?_ ?_ ?_ | refine w9 ?_ ?_ ?_ | refine w10 ?_ ?_ ?_)); exact rfl; simp) | ((with_reducible refine w12 ?_ ?_ ?_ fun _ _ => ?_); simp; simp; simp [oneC]) | ((with_reducible (first | refine eqs ?_ | refine nes ?_)); refine ⟨_, rfl, ?_⟩) | ((refine okF_i (bldP_eq rfl) ?_); try simp only [BLS, List.take_succ_cons, List.take_zero, List.drop_succ_cons, List.drop_zero, List.cons_append, List.nil_append, Nat.reduceAdd])) | simp -implicitDefEqProofs only [EN, lsub, lget, stL, beq_self_eq_true, ne_eq, if_true, if_false, List.cons_append, List.nil_append, Option.isNone_some, Option.isNone_none]))
  refine ldA (i := i) (j := 3) (l := sl) (A := INS) (by first | assumption | exact St.tick (by assumption) | exact St.tick (St.tick (by assumption))) rfl hi (v := .agg #[.int .i64 (sl[i].v).x0, .int .i64 (sl[i].v).x1, .int .i64 (sl[i].v).x2, .int .i64 (sl[i].v).x3, .int .i64 (sl[i].v).x4, .int .i64 (sl[i].v).x5, .int .i64 (sl[i].v).x6]) rfl (by simp [INS]) ?_
  generalize hx : sl[i] = x at *
  have h : St W0 (C s :: wb p sl :: L) W := St.perm (St.ent (by first | assumption | exact St.tick (by assumption) | exact St.tick (St.tick (by assumption))) wb_ent) (List.Perm.swap _ _ _)
  refine loop_c (σ := σ) 7 (fun j _ => [.pointer (some ⟨p, 0, none⟩), .int .i64 (i : Int), fv, .agg #[.int .i64 x.v.x0, .int .i64 x.v.x1, .int .i64 x.v.x2, .int .i64 x.v.x3, .int .i64 x.v.x4, .int .i64 x.v.x5, .int .i64 x.v.x6], .int .i64 j])
    (fun j s1 W1 => (∃ m, m ≤ j * 1000 ∧ I m s1) ∧ eachF q t (depsL x) s = eachF q t (((List.range 7).drop j).flatMap (depsR x)) s1 ∧ St W0 (C s1 :: wb p sl :: L) W1) s rfl ⟨⟨0, Nat.zero_le _, hI0⟩, rfl, h⟩ ?_
  clear h
  rintro K j s1 W2 hj ⟨hm1, he, h⟩ hK
  simp -implicitDefEqProofs only [EN, lsub, lget, stL, beq_self_eq_true, ne_eq, if_true, if_false, List.cons_append, List.nil_append, Option.isNone_some, Option.isNone_none]
  unfold S.order_web_each.l1
  by_cases hjt : (j : Int) < 7
  · have hj7 : j < 7 := by omega
    have e7 := idxV7i (x := x.v) (i := j) hj7
    have ew : IntKind.i64.wrap ((j : Int) + 1) = ((j + 1 : Nat) : Int) := by rw [i64w]; omega
    rw [depsL_drop x hj7] at he
    have hb := hdo j hj7
    have hnn : ((x.v.get j).toNat : Int) = x.v.get j := Int.toNat_of_nonneg hb.1
    (repeat (first | (first | (with_reducible (first | refine w1 fun _ _ => ?_ | refine w3 fun _ _ _ => ?_ | refine w4 fun _ _ _ => ?_ | refine w11 fun _ _ _ => ?_ | refine stb_n ?_)) | ((with_reducible refine w2 ?_); try simp -implicitDefEqProofs only [EN, lsub, lget, stL, beq_self_eq_true, ne_eq, if_true, if_false, List.cons_append, List.nil_append, Option.isNone_some, Option.isNone_none, hjt]; intro _ _) | ((with_reducible (first | refine w5 ?_ ?_ | refine w6 ?_ ?_ | refine w7 ?_ ?_)); simp; refine ⟨_, rfl, ?_⟩) | ((with_reducible (first | refine w8 ?_ ?_ ?_ | refine w9 ?_ ?_ ?_ | refine w10 ?_ ?_ ?_)); exact rfl; simp) | ((with_reducible refine w12 ?_ ?_ ?_ fun _ _ => ?_); simp; simp; simp [oneC]) | ((with_reducible (first | refine eqs ?_ | refine nes ?_)); refine ⟨_, rfl, ?_⟩) | ((refine okF_i (bldP_eq rfl) ?_); try simp only [BLS, List.take_succ_cons, List.take_zero, List.drop_succ_cons, List.drop_zero, List.cons_append, List.nil_append, Nat.reduceAdd])) | simp -implicitDefEqProofs only [EN, lsub, lget, stL, beq_self_eq_true, ne_eq, if_true, if_false, List.cons_append, List.nil_append, Option.isNone_some, Option.isNone_none, hjt]))
    refine joinK_i ?_
    (repeat (first | (first | (with_reducible (first | refine w1 fun _ _ => ?_ | refine w3 fun _ _ _ => ?_ | refine w4 fun _ _ _ => ?_ | refine w11 fun _ _ _ => ?_ | refine stb_n ?_)) | ((with_reducible refine w2 ?_); try simp -implicitDefEqProofs only [EN, lsub, lget, stL, beq_self_eq_true, ne_eq, if_true, if_false, List.cons_append, List.nil_append, Option.isNone_some, Option.isNone_none, e7]; intro _ _) | ((with_reducible (first | refine w5 ?_ ?_ | refine w6 ?_ ?_ | refine w7 ?_ ?_)); simp; refine ⟨_, rfl, ?_⟩) | ((with_reducible (first | refine w8 ?_ ?_ ?_ | refine w9 ?_ ?_ ?_ | refine w10 ?_ ?_ ?_)); exact rfl; simp) | ((with_reducible refine w12 ?_ ?_ ?_ fun _ _ => ?_); simp; simp; simp [oneC]) | ((with_reducible (first | refine eqs ?_ | refine nes ?_)); refine ⟨_, rfl, ?_⟩) | ((refine okF_i (bldP_eq rfl) ?_); try simp only [BLS, List.take_succ_cons, List.take_zero, List.drop_succ_cons, List.drop_zero, List.cons_append, List.nil_append, Nat.reduceAdd])) | simp -implicitDefEqProofs only [EN, lsub, lget, stL, beq_self_eq_true, ne_eq, if_true, if_false, List.cons_append, List.nil_append, Option.isNone_some, Option.isNone_none, e7]))
    refine loop_c (σ := σ) (x.v.get j).toNat (fun m _ => [.pointer (some ⟨p, 0, none⟩), .int .i64 (i : Int), fv, .int .i64 j, .int .i64 (x.v.get j), .int .i64 ((m : Int) + 1), .agg #[.int .i64 x.v.x0, .int .i64 x.v.x1, .int .i64 x.v.x2, .int .i64 x.v.x3, .int .i64 x.v.x4, .int .i64 x.v.x5, .int .i64 x.v.x6], .int .i64 j])
      (fun m s2 W1 => (∃ u, u ≤ j * 1000 + m ∧ I u s2) ∧ eachF q t (depsL x) s = eachF q t ((((List.range (x.v.get j).toNat).drop m).map fun k : Nat => (⟨(j : Int), (k : Int) + 1⟩ : Dot)).filter (fun d => !decide (d = x.d)) ++ ((List.range 7).drop (j + 1)).flatMap (depsR x)) s2 ∧ St W0 (C s2 :: wb p sl :: L) W1) s1 rfl ⟨hm1, he, h⟩ ?_
    clear h he hm1
    rintro K2 m s2 W3 hm ⟨⟨u, hu, hus⟩, he, h⟩ hK2
    simp -implicitDefEqProofs only [EN, lsub, lget, stL, beq_self_eq_true, ne_eq, if_true, if_false, List.cons_append, List.nil_append, Option.isNone_some, Option.isNone_none]
    unfold S.order_web_each.l2
    by_cases hmt : (m : Int) + 1 ≤ x.v.get j
    · have hm2 : m < (x.v.get j).toNat := by omega
      have ew2 : IntKind.i64.wrap ((m : Int) + 1 + 1) = ((m + 1 : Nat) : Int) + 1 := by rw [i64w]; omega
      rw [depsR_drop x j hm2, List.filter_cons] at he
      obtain ⟨a, c, r, h⟩ := wb_at (St.perm h (List.Perm.swap _ _ _))
      (repeat (first | (first | (with_reducible (first | refine w1 fun _ _ => ?_ | refine w3 fun _ _ _ => ?_ | refine w4 fun _ _ _ => ?_ | refine w11 fun _ _ _ => ?_ | refine stb_n ?_)) | ((with_reducible refine w2 ?_); try simp -implicitDefEqProofs only [EN, lsub, lget, stL, beq_self_eq_true, ne_eq, if_true, if_false, List.cons_append, List.nil_append, Option.isNone_some, Option.isNone_none, hmt]; intro _ _) | ((with_reducible (first | refine w5 ?_ ?_ | refine w6 ?_ ?_ | refine w7 ?_ ?_)); simp; refine ⟨_, rfl, ?_⟩) | ((with_reducible (first | refine w8 ?_ ?_ ?_ | refine w9 ?_ ?_ ?_ | refine w10 ?_ ?_ ?_)); exact rfl; simp) | ((with_reducible refine w12 ?_ ?_ ?_ fun _ _ => ?_); simp; simp; simp [oneC]) | ((with_reducible (first | refine eqs ?_ | refine nes ?_)); refine ⟨_, rfl, ?_⟩) | ((refine okF_i (bldP_eq rfl) ?_); try simp only [BLS, List.take_succ_cons, List.take_zero, List.drop_succ_cons, List.drop_zero, List.cons_append, List.nil_append, Nat.reduceAdd])) | simp -implicitDefEqProofs only [EN, lsub, lget, stL, beq_self_eq_true, ne_eq, if_true, if_false, List.cons_append, List.nil_append, Option.isNone_some, Option.isNone_none, hmt]))
      refine ixA (i := i) (a := a) (l := sl) (A := INS) (by first | assumption | exact St.tick (by assumption) | exact St.tick (St.tick (by assumption))) rfl rfl hi fun g2 o2 ha => ?_
      cases ha
      (repeat (first | (first | (with_reducible (first | refine w1 fun _ _ => ?_ | refine w3 fun _ _ _ => ?_ | refine w4 fun _ _ _ => ?_ | refine w11 fun _ _ _ => ?_ | refine stb_n ?_)) | ((with_reducible refine w2 ?_); try simp -implicitDefEqProofs only [EN, lsub, lget, stL, beq_self_eq_true, ne_eq, if_true, if_false, List.cons_append, List.nil_append, Option.isNone_some, Option.isNone_none]; intro _ _) | ((with_reducible (first | refine w5 ?_ ?_ | refine w6 ?_ ?_ | refine w7 ?_ ?_)); simp; refine ⟨_, rfl, ?_⟩) | ((with_reducible (first | refine w8 ?_ ?_ ?_ | refine w9 ?_ ?_ ?_ | refine w10 ?_ ?_ ?_)); exact rfl; simp) | ((with_reducible refine w12 ?_ ?_ ?_ fun _ _ => ?_); simp; simp; simp [oneC]) | ((with_reducible (first | refine eqs ?_ | refine nes ?_)); refine ⟨_, rfl, ?_⟩) | ((refine okF_i (bldP_eq rfl) ?_); try simp only [BLS, List.take_succ_cons, List.take_zero, List.drop_succ_cons, List.drop_zero, List.cons_append, List.nil_append, Nat.reduceAdd])) | simp -implicitDefEqProofs only [EN, lsub, lget, stL, beq_self_eq_true, ne_eq, if_true, if_false, List.cons_append, List.nil_append, Option.isNone_some, Option.isNone_none]))
      refine ldA0 (i := i) (l := sl) (A := INS) (by first | assumption | exact St.tick (by assumption) | exact St.tick (St.tick (by assumption))) rfl hi (v := .agg #[.int .i64 x.d.rep, .int .i64 x.d.n]) (by rw [hx]; rfl) (by simp [INS]) ?_
      have hdd : (decide ((j : Int) = x.d.rep) && decide ((m : Int) + 1 = x.d.n)) = decide ((⟨(j : Int), (m : Int) + 1⟩ : Dot) = x.d) := by
        rw [Bool.eq_iff_iff]
        obtain ⟨⟨r', n'⟩, _, _⟩ := x
        simp
      rename_i pb _ W4 _ h
      (try simp only [BLS, List.take_succ_cons, List.take_zero, List.drop_succ_cons, List.drop_zero, List.cons_append, List.nil_append, List.append_nil, List.take_nil, List.drop_nil, stL, Nat.reduceAdd] at h)
      have h6 : Unit → St W0 (C s2 :: wb p sl :: L) W4 := fun _ => by
        have h5 : St W0 (cells p [.slice (some ⟨g2, o2, none⟩) sl.length c, .map (some r)] T_order_web :: arr INS T_order_Inst (some ⟨g2, o2, none⟩) c sl :: mp KD r (plL sl) :: C s2 :: L) W4 := St.wk h
        exact St.perm (h5.ent wb_ent) (List.Perm.swap _ _ _)
      by_cases hdx : (⟨(j : Int), (m : Int) + 1⟩ : Dot) = x.d
      · rw [decide_eq_true hdx] at hdd
        rw [decide_eq_true hdx, Bool.not_true, if_neg (by simp)] at he
        (repeat (first | (first | (with_reducible (first | refine w1 fun _ _ => ?_ | refine w3 fun _ _ _ => ?_ | refine w4 fun _ _ _ => ?_ | refine w11 fun _ _ _ => ?_ | refine stb_n ?_)) | ((with_reducible refine w2 ?_); try simp -implicitDefEqProofs only [EN, lsub, lget, stL, beq_self_eq_true, ne_eq, if_true, if_false, List.cons_append, List.nil_append, Option.isNone_some, Option.isNone_none, hdd, ew2]; intro _ _) | ((with_reducible (first | refine w5 ?_ ?_ | refine w6 ?_ ?_ | refine w7 ?_ ?_)); simp; refine ⟨_, rfl, ?_⟩) | ((with_reducible (first | refine w8 ?_ ?_ ?_ | refine w9 ?_ ?_ ?_ | refine w10 ?_ ?_ ?_)); exact rfl; simp) | ((with_reducible refine w12 ?_ ?_ ?_ fun _ _ => ?_); simp; simp; simp [oneC]) | ((with_reducible (first | refine eqs ?_ | refine nes ?_)); refine ⟨_, rfl, ?_⟩) | ((refine okF_i (bldP_eq rfl) ?_); try simp only [BLS, List.take_succ_cons, List.take_zero, List.drop_succ_cons, List.drop_zero, List.cons_append, List.nil_append, Nat.reduceAdd])) | simp -implicitDefEqProofs only [EN, lsub, lget, stL, beq_self_eq_true, ne_eq, if_true, if_false, List.cons_append, List.nil_append, Option.isNone_some, Option.isNone_none, hdd, ew2]))
        exact hK2 s2 _ hm2 ⟨⟨u, by omega, hus⟩, he, (h6 ()).tick⟩
      · rw [decide_eq_false hdx] at hdd
        rw [decide_eq_false hdx, Bool.not_false, if_pos rfl] at he
        (repeat (first | (first | (with_reducible (first | refine w1 fun _ _ => ?_ | refine w3 fun _ _ _ => ?_ | refine w4 fun _ _ _ => ?_ | refine w11 fun _ _ _ => ?_ | refine stb_n ?_)) | ((with_reducible refine w2 ?_); try simp -implicitDefEqProofs only [EN, lsub, lget, stL, beq_self_eq_true, ne_eq, if_true, if_false, List.cons_append, List.nil_append, Option.isNone_some, Option.isNone_none, hdd]; intro _ _) | ((with_reducible (first | refine w5 ?_ ?_ | refine w6 ?_ ?_ | refine w7 ?_ ?_)); simp; refine ⟨_, rfl, ?_⟩) | ((with_reducible (first | refine w8 ?_ ?_ ?_ | refine w9 ?_ ?_ ?_ | refine w10 ?_ ?_ ?_)); exact rfl; simp) | ((with_reducible refine w12 ?_ ?_ ?_ fun _ _ => ?_); simp; simp; simp [oneC]) | ((with_reducible (first | refine eqs ?_ | refine nes ?_)); refine ⟨_, rfl, ?_⟩) | ((refine okF_i (bldP_eq rfl) ?_); try simp only [BLS, List.take_succ_cons, List.take_zero, List.drop_succ_cons, List.drop_zero, List.cons_append, List.nil_append, Nat.reduceAdd])) | simp -implicitDefEqProofs only [EN, lsub, lget, stL, beq_self_eq_true, ne_eq, if_true, if_false, List.cons_append, List.nil_append, Option.isNone_some, Option.isNone_none, hdd]))
        refine hcb u s2 ⟨(j : Int), (m : Int) + 1⟩ _ _ (by omega) ⟨by simp only; omega, by simp only; omega⟩ hus (h6 ()).tick fun W5 h => ?_
        rw [List.cons_append, eachF] at he
        cases hq : q s2 ⟨(j : Int), (m : Int) + 1⟩ with
        | true =>
          rw [hq, if_pos rfl] at he
          (repeat (first | (first | (with_reducible (first | refine w1 fun _ _ => ?_ | refine w3 fun _ _ _ => ?_ | refine w4 fun _ _ _ => ?_ | refine w11 fun _ _ _ => ?_ | refine stb_n ?_)) | ((with_reducible refine w2 ?_); try simp -implicitDefEqProofs only [EN, lsub, lget, stL, beq_self_eq_true, ne_eq, if_true, if_false, List.cons_append, List.nil_append, Option.isNone_some, Option.isNone_none, ew2]; intro _ _) | ((with_reducible (first | refine w5 ?_ ?_ | refine w6 ?_ ?_ | refine w7 ?_ ?_)); simp; refine ⟨_, rfl, ?_⟩) | ((with_reducible (first | refine w8 ?_ ?_ ?_ | refine w9 ?_ ?_ ?_ | refine w10 ?_ ?_ ?_)); exact rfl; simp) | ((with_reducible refine w12 ?_ ?_ ?_ fun _ _ => ?_); simp; simp; simp [oneC]) | ((with_reducible (first | refine eqs ?_ | refine nes ?_)); refine ⟨_, rfl, ?_⟩) | ((refine okF_i (bldP_eq rfl) ?_); try simp only [BLS, List.take_succ_cons, List.take_zero, List.drop_succ_cons, List.drop_zero, List.cons_append, List.nil_append, Nat.reduceAdd])) | simp -implicitDefEqProofs only [EN, lsub, lget, stL, beq_self_eq_true, ne_eq, if_true, if_false, List.cons_append, List.nil_append, Option.isNone_some, Option.isNone_none, ew2]))
          exact hK2 _ _ hm2 ⟨⟨u + 1, by omega, hI _ _ _ hus⟩, he, h⟩
        | false =>
          rw [hq, if_neg (by simp)] at he
          rw [he] at hk
          (repeat (first | (first | (with_reducible (first | refine w1 fun _ _ => ?_ | refine w3 fun _ _ _ => ?_ | refine w4 fun _ _ _ => ?_ | refine w11 fun _ _ _ => ?_ | refine stb_n ?_)) | ((with_reducible refine w2 ?_); try simp -implicitDefEqProofs only [EN, lsub, lget, stL, beq_self_eq_true, ne_eq, if_true, if_false, List.cons_append, List.nil_append, Option.isNone_some, Option.isNone_none]; intro _ _) | ((with_reducible (first | refine w5 ?_ ?_ | refine w6 ?_ ?_ | refine w7 ?_ ?_)); simp; refine ⟨_, rfl, ?_⟩) | ((with_reducible (first | refine w8 ?_ ?_ ?_ | refine w9 ?_ ?_ ?_ | refine w10 ?_ ?_ ?_)); exact rfl; simp) | ((with_reducible refine w12 ?_ ?_ ?_ fun _ _ => ?_); simp; simp; simp [oneC]) | ((with_reducible (first | refine eqs ?_ | refine nes ?_)); refine ⟨_, rfl, ?_⟩) | ((refine okF_i (bldP_eq rfl) ?_); try simp only [BLS, List.take_succ_cons, List.take_zero, List.drop_succ_cons, List.drop_zero, List.cons_append, List.nil_append, Nat.reduceAdd])) | simp -implicitDefEqProofs only [EN, lsub, lget, stL, beq_self_eq_true, ne_eq, if_true, if_false, List.cons_append, List.nil_append, Option.isNone_some, Option.isNone_none]))
          exact hk _ h
    · have hm2 : m = (x.v.get j).toNat := by omega
      subst hm2
      have e0 : (List.range (x.v.get j).toNat).drop (x.v.get j).toNat = [] := by simp
      rw [e0] at he
      (repeat (first | (first | (with_reducible (first | refine w1 fun _ _ => ?_ | refine w3 fun _ _ _ => ?_ | refine w4 fun _ _ _ => ?_ | refine w11 fun _ _ _ => ?_ | refine stb_n ?_)) | ((with_reducible refine w2 ?_); try simp -implicitDefEqProofs only [EN, lsub, lget, stL, beq_self_eq_true, ne_eq, if_true, if_false, List.cons_append, List.nil_append, Option.isNone_some, Option.isNone_none, hmt]; intro _ _) | ((with_reducible (first | refine w5 ?_ ?_ | refine w6 ?_ ?_ | refine w7 ?_ ?_)); simp; refine ⟨_, rfl, ?_⟩) | ((with_reducible (first | refine w8 ?_ ?_ ?_ | refine w9 ?_ ?_ ?_ | refine w10 ?_ ?_ ?_)); exact rfl; simp) | ((with_reducible refine w12 ?_ ?_ ?_ fun _ _ => ?_); simp; simp; simp [oneC]) | ((with_reducible (first | refine eqs ?_ | refine nes ?_)); refine ⟨_, rfl, ?_⟩) | ((refine okF_i (bldP_eq rfl) ?_); try simp only [BLS, List.take_succ_cons, List.take_zero, List.drop_succ_cons, List.drop_zero, List.cons_append, List.nil_append, Nat.reduceAdd])) | simp -implicitDefEqProofs only [EN, lsub, lget, stL, beq_self_eq_true, ne_eq, if_true, if_false, List.cons_append, List.nil_append, Option.isNone_some, Option.isNone_none, hmt]))
      unfold S.order_web_each.j1
      (repeat (first | (first | (with_reducible (first | refine w1 fun _ _ => ?_ | refine w3 fun _ _ _ => ?_ | refine w4 fun _ _ _ => ?_ | refine w11 fun _ _ _ => ?_ | refine stb_n ?_)) | ((with_reducible refine w2 ?_); try simp -implicitDefEqProofs only [EN, lsub, lget, stL, beq_self_eq_true, ne_eq, if_true, if_false, List.cons_append, List.nil_append, Option.isNone_some, Option.isNone_none, ew]; intro _ _) | ((with_reducible (first | refine w5 ?_ ?_ | refine w6 ?_ ?_ | refine w7 ?_ ?_)); simp; refine ⟨_, rfl, ?_⟩) | ((with_reducible (first | refine w8 ?_ ?_ ?_ | refine w9 ?_ ?_ ?_ | refine w10 ?_ ?_ ?_)); exact rfl; simp) | ((with_reducible refine w12 ?_ ?_ ?_ fun _ _ => ?_); simp; simp; simp [oneC]) | ((with_reducible (first | refine eqs ?_ | refine nes ?_)); refine ⟨_, rfl, ?_⟩) | ((refine okF_i (bldP_eq rfl) ?_); try simp only [BLS, List.take_succ_cons, List.take_zero, List.drop_succ_cons, List.drop_zero, List.cons_append, List.nil_append, Nat.reduceAdd])) | simp -implicitDefEqProofs only [EN, lsub, lget, stL, beq_self_eq_true, ne_eq, if_true, if_false, List.cons_append, List.nil_append, Option.isNone_some, Option.isNone_none, ew]))
      exact hK s2 _ hj7 ⟨⟨u, by omega, hus⟩, he, h⟩
  · have hj7 : j = 7 := by omega
    subst hj7
    rw [show eachF q t (((List.range 7).drop 7).flatMap (depsR x)) s1 = (true, s1) from rfl] at he
    rw [he] at hk
    (repeat (first | (first | (with_reducible (first | refine w1 fun _ _ => ?_ | refine w3 fun _ _ _ => ?_ | refine w4 fun _ _ _ => ?_ | refine w11 fun _ _ _ => ?_ | refine stb_n ?_)) | ((with_reducible refine w2 ?_); try simp -implicitDefEqProofs only [EN, lsub, lget, stL, beq_self_eq_true, ne_eq, if_true, if_false, List.cons_append, List.nil_append, Option.isNone_some, Option.isNone_none, hjt]; intro _ _) | ((with_reducible (first | refine w5 ?_ ?_ | refine w6 ?_ ?_ | refine w7 ?_ ?_)); simp; refine ⟨_, rfl, ?_⟩) | ((with_reducible (first | refine w8 ?_ ?_ ?_ | refine w9 ?_ ?_ ?_ | refine w10 ?_ ?_ ?_)); exact rfl; simp) | ((with_reducible refine w12 ?_ ?_ ?_ fun _ _ => ?_); simp; simp; simp [oneC]) | ((with_reducible (first | refine eqs ?_ | refine nes ?_)); refine ⟨_, rfl, ?_⟩) | ((refine okF_i (bldP_eq rfl) ?_); try simp only [BLS, List.take_succ_cons, List.take_zero, List.drop_succ_cons, List.drop_zero, List.cons_append, List.nil_append, Nat.reduceAdd])) | simp -implicitDefEqProofs only [EN, lsub, lget, stL, beq_self_eq_true, ne_eq, if_true, if_false, List.cons_append, List.nil_append, Option.isNone_some, Option.isNone_none, hjt]))
    exact hk _ h
end
end Go.Proofs.Ytkjhccpanedccaa
namespace Go.Proofs.Ytkjhccpanedccaa
set_option linter.unusedVariables false
set_option linter.unusedSimpArgs false
open Go Go.Eng

/-- a slice of ints, as it lies -/
structure ISl where
  a : Option Addr
  c : Nat
  l : List Int
abbrev ISl.v (x : ISl) : Value := .slice x.a x.l.length x.c
instance : Inhabited ISl := ⟨⟨none, 0, []⟩⟩
def ISY : Ly ISl := ⟨1, by omega, fun x => [x.v], fun _ => rfl, fun _ => rfl⟩
@[reducible] def ich (x : ISl) : Asn := arr I64 T_int x.a x.c x.l
/-- a slice of slices of ints that is owned with all its rows -/
def LI (a : Option Addr) (c : Nat) (vs : List (List Int)) : Asn := fun h => ∃ rows : List ISl, rows.map (·.l) = vs ∧ sep [arr ISY T_s_int a c rows, many ich rows] h
section
variable {W0 W : World} {L L' : List Asn} {a : Option Addr} {c : Nat} {vs : List (List Int)}
theorem li_at (h : St W0 (LI a c vs :: L) W) : ∃ rows : List ISl, rows.map (·.l) = vs ∧ St W0 (arr ISY T_s_int a c rows :: many ich rows :: L) W := by
  obtain ⟨rows, h⟩ := h.ex
  obtain ⟨h1, h⟩ := h.fact
  exact ⟨rows, h1, h.flat⟩
theorem li_ent {rows : List ISl} (h : rows.map (·.l) = vs) : ent (arr ISY T_s_int a c rows :: many ich rows :: L) (LI a c vs :: L) :=
  (ent.pack [_, _] L).trans (ent.weak fun _ hp => ⟨rows, h, hp⟩)
theorem permPick {α : Type} (l : List α) {i : Nat} (hi : i < l.length) : l.Perm (l[i] :: (l.take i ++ l.drop (i + 1))) := by
  conv => lhs; rw [← List.take_append_drop i l, List.drop_eq_getElem_cons hi]
  exact List.perm_middle
theorem ich_pick (rows : List ISl) {i : Nat} (hi : i < rows.length) : ent (many ich rows :: L) (ich rows[i] :: many ich (rows.take i ++ rows.drop (i + 1)) :: L) :=
  (many_perm (F := ich) (permPick rows hi)).trans (many_cons _ _)
theorem ich_place (rows : List ISl) {i : Nat} (hi : i < rows.length) (x : ISl) : ent (ich x :: many ich (rows.take i ++ rows.drop (i + 1)) :: L) (many ich (rows.set i x) :: L) := by
  refine (many_uncons (F := ich) x _).trans (many_perm (F := ich) ?_)
  have h := (permPick (rows.set i x) (i := i) (by simpa using hi)).symm
  simp only [List.getElem_set_self] at h
  rw [List.take_set_of_le (Nat.le_refl i), List.drop_set_of_lt (Nat.lt_succ_self i)] at h
  exact h
/-- a row is read, where it lies -/
theorem ich_rd {rows : List ISl} {x : ISl} (hx : x ∈ rows) : Rd W0 (many ich rows :: L) x.a I64 x.l := ⟨fun W h => by
  obtain ⟨A, C, rfl⟩ := List.append_of_mem hx
  have h1 := h.ent ((many_perm (F := ich) (List.perm_middle (a := x) (l₁ := A) (l₂ := C))).trans (many_cons _ _))
  have hr : Rd W0 (arr I64 T_int x.a x.c x.l :: many ich (A ++ C) :: L) x.a I64 x.l := inferInstance
  exact hr.ok W h1⟩
end
end Go.Proofs.Ytkjhccpanedccaa
namespace Go.Proofs.Ytkjhccpanedccaa
set_option linter.unusedVariables false
set_option linter.unusedSimpArgs false
open Go Go.Eng

def plcO (sl : List Ins) (d : Dot) : Option Nat := sl.findIdx? fun x => decide (x.d = d)
theorem plcO_mget (sl : List Ins) (d : Dot) : mget (plL sl) d = (plcO sl d).map fun k : Nat => Value.int .i64 (k : Int) := by
  have key : ∀ (l : List Ins) (n : Nat), mget ((l.zipIdx n).map fun x => (x.1.d, Value.int .i64 (x.2 : Int))) d = (l.findIdx? fun x => decide (x.d = d)).map fun k : Nat => Value.int .i64 ((n + k : Nat) : Int) := by
    intro l
    induction l with
    | nil => intro n; rfl
    | cons x l ih =>
      intro n
      rw [List.zipIdx_cons, List.map_cons]
      simp only [mget, List.findIdx?_cons]
      by_cases h : x.d = d
      · rw [if_pos h, decide_eq_true h]; rfl
      · rw [if_neg h, decide_eq_false h, ih (n + 1)]
        simp only [Bool.false_eq_true, if_false, Option.map_map]
        congr 1
        funext k
        simp only [Function.comp_def]
        congr 1
        omega
  have := key sl 0
  unfold plL plcO
  rw [this]
  simp
def onStep (sl : List Ins) (i : Nat) (vs : List (List Int)) (d : Dot) : List (List Int) :=
  match plcO sl d with
  | some k => vs.set i (vs.getD i [] ++ [(k : Int)])
  | none => vs
def onC (p b1 b3 b4 n i : Nat) (a : Option Addr) (c : Nat) (vs : List (List Int)) : Asn :=
  sep [cells b1 [.pointer (some ⟨p, 0, none⟩)] T_p_order_web, cells b3 [.slice a n c] T_s_s_int, cells b4 [.int .i64 (i : Int)] T_int, LI a c vs]
section
variable {W0 W : World} {L L' : List Asn}
set_option maxRecDepth 100000 in
set_option maxHeartbeats 4000000 in
theorem ordOn1 {p b1 b3 b4 n i : Nat} {a : Option Addr} {c : Nat} {vs : List (List Int)} {sl : List Ins} {d : Dot} {k : Value → World → Prop} (hvs : vs.length = n) (hi : i < n) (hle : (vs.getD i []).length < 1000000)
    (h : St W0 (onC p b1 b3 b4 n i a c vs :: wb p sl :: L) W) (hk : ∀ W', St W0 (onC p b1 b3 b4 n i a c (onStep sl i vs d) :: wb p sl :: L) W' → k (.bool true) W') :
    callK PR F_order_web_on_1 [KD d, .pointer (some ⟨b1, 0, none⟩), .pointer (some ⟨b3, 0, none⟩), .pointer (some ⟨b4, 0, none⟩)] k W := by
  apply S.order_web_on_1.call
  unfold S.order_web_on_1.body
  have h : St W0 (cells b1 [.pointer (some ⟨p, 0, none⟩)] T_p_order_web :: cells b3 [.slice a n c] T_s_s_int :: cells b4 [.int .i64 (i : Int)] T_int :: LI a c vs :: wb p sl :: L) W := h.flat
  have h : St W0 (wb p sl :: cells b1 [.pointer (some ⟨p, 0, none⟩)] T_p_order_web :: cells b3 [.slice a n c] T_s_s_int :: cells b4 [.int .i64 (i : Int)] T_int :: LI a c vs :: L) W := St.wk h
  obtain ⟨wa, wc, wr, h⟩ := wb_at h
  refine bxa h fun db W1 h => ?_
  (repeat (first | (first | (with_reducible (first | refine w1 fun _ _ => ?_ | refine w3 fun _ _ _ => ?_ | refine w4 fun _ _ _ => ?_ | refine w11 fun _ _ _ => ?_ | refine stb_n ?_)) | ((with_reducible refine w2 ?_); try simp -implicitDefEqProofs only [EN, lsub, lget, stL, beq_self_eq_true, ne_eq, if_true, if_false, List.cons_append, List.nil_append, Option.isNone_some, Option.isNone_none]; intro _ _) | ((with_reducible (first | refine w5 ?_ ?_ | refine w6 ?_ ?_ | refine w7 ?_ ?_)); simp; refine ⟨_, rfl, ?_⟩) | ((with_reducible (first | refine w8 ?_ ?_ ?_ | refine w9 ?_ ?_ ?_ | refine w10 ?_ ?_ ?_)); exact rfl; simp) | ((with_reducible refine w12 ?_ ?_ ?_ fun _ _ => ?_); simp; simp; simp [oneC]) | ((with_reducible (first | refine eqs ?_ | refine nes ?_)); refine ⟨_, rfl, ?_⟩) | ((refine okF_i (bldP_eq rfl) ?_); try simp only [BLS, List.take_succ_cons, List.take_zero, List.drop_succ_cons, List.drop_zero, List.cons_append, List.nil_append, Nat.reduceAdd])) | simp -implicitDefEqProofs only [EN, lsub, lget, stL, beq_self_eq_true, ne_eq, if_true, if_false, List.cons_append, List.nil_append, Option.isNone_some, Option.isNone_none]))
  refine lkpOk (K := KD) (z := .int .i64 0) d (by first | assumption | exact St.tick (by assumption) | exact St.tick (St.tick (by assumption))) ?_
  rw [plcO_mget]
  unfold onStep at hk
  cases hp : plcO sl d with
  | none =>
    rw [hp] at hk
    (repeat (first | (first | (with_reducible (first | refine w1 fun _ _ => ?_ | refine w3 fun _ _ _ => ?_ | refine w4 fun _ _ _ => ?_ | refine w11 fun _ _ _ => ?_ | refine stb_n ?_)) | ((with_reducible refine w2 ?_); try simp -implicitDefEqProofs only [EN, lsub, lget, stL, beq_self_eq_true, ne_eq, if_true, if_false, List.cons_append, List.nil_append, Option.isNone_some, Option.isNone_none]; intro _ _) | ((with_reducible (first | refine w5 ?_ ?_ | refine w6 ?_ ?_ | refine w7 ?_ ?_)); simp; refine ⟨_, rfl, ?_⟩) | ((with_reducible (first | refine w8 ?_ ?_ ?_ | refine w9 ?_ ?_ ?_ | refine w10 ?_ ?_ ?_)); exact rfl; simp) | ((with_reducible refine w12 ?_ ?_ ?_ fun _ _ => ?_); simp; simp; simp [oneC]) | ((with_reducible (first | refine eqs ?_ | refine nes ?_)); refine ⟨_, rfl, ?_⟩) | ((refine okF_i (bldP_eq rfl) ?_); try simp only [BLS, List.take_succ_cons, List.take_zero, List.drop_succ_cons, List.drop_zero, List.cons_append, List.nil_append, Nat.reduceAdd])) | simp -implicitDefEqProofs only [EN, lsub, lget, stL, beq_self_eq_true, ne_eq, if_true, if_false, List.cons_append, List.nil_append, Option.isNone_some, Option.isNone_none]))
    refine hk _ ?_
    have h5 : St W0 (cells p [.slice wa sl.length wc, .map (some wr)] T_order_web :: arr INS T_order_Inst wa wc sl :: mp KD wr (plL sl) :: cells b1 [.pointer (some ⟨p, 0, none⟩)] T_p_order_web :: cells b3 [.slice a n c] T_s_s_int :: cells b4 [.int .i64 (i : Int)] T_int :: LI a c vs :: L) _ := St.wk (by first | assumption | exact St.tick (by assumption) | exact St.tick (St.tick (by assumption)))
    have h6 := h5.ent wb_ent
    have h7 : St W0 (cells b1 [.pointer (some ⟨p, 0, none⟩)] T_p_order_web :: cells b3 [.slice a n c] T_s_s_int :: cells b4 [.int .i64 (i : Int)] T_int :: LI a c vs :: wb p sl :: L) _ := St.wk h6
    exact (h7.ent (ent.pack [_, _, _, _] _)).tick
  | some j =>
    rw [hp] at hk
    simp only [Option.map_some, Option.getD_some, Option.isSome_some]
    obtain ⟨rows, hrows, h⟩ := li_at (St.wk (L' := LI a c vs :: cells db [.int .i64 d.rep, .int .i64 d.n] T_api_Dot :: cells p [.slice wa sl.length wc, .map (some wr)] T_order_web :: arr INS T_order_Inst wa wc sl :: mp KD wr (plL sl) :: cells b1 [.pointer (some ⟨p, 0, none⟩)] T_p_order_web :: cells b3 [.slice a n c] T_s_s_int :: cells b4 [.int .i64 (i : Int)] T_int :: L) h)
    have hrl : rows.length = n := by rw [← hvs, ← hrows, List.length_map]
    have hib : i < rows.length := by omega
    have hvi : vs.getD i [] = rows[i].l := by rw [← hrows, List.getD_eq_getElem?_getD, List.getElem?_map, List.getElem?_eq_getElem hib]; rfl
    rw [hvi] at hle hk
    have h := h.ent (ent.cons _ (ich_pick rows hib))
    obtain ⟨g, o, rfl, _⟩ := Rd.at (A := ISY) (l := rows) (a := a) h (by intro e; rw [e] at hib; simp at hib)
    have ei : idxS 1 (.slice (some ⟨g, o, none⟩) n c) (.int .i64 (i : Int)) = some (.pointer (some ⟨g, o + i * 1, none⟩)) := by rw [idxS_blk (by omega) (by omega), Int.toNat_natCast]
    (repeat (first | (first | (with_reducible (first | refine w1 fun _ _ => ?_ | refine w3 fun _ _ _ => ?_ | refine w4 fun _ _ _ => ?_ | refine w11 fun _ _ _ => ?_ | refine stb_n ?_)) | ((with_reducible refine w2 ?_); try simp -implicitDefEqProofs only [EN, lsub, lget, stL, beq_self_eq_true, ne_eq, if_true, if_false, List.cons_append, List.nil_append, Option.isNone_some, Option.isNone_none, ei]; intro _ _) | ((with_reducible (first | refine w5 ?_ ?_ | refine w6 ?_ ?_ | refine w7 ?_ ?_)); simp; refine ⟨_, rfl, ?_⟩) | ((with_reducible (first | refine w8 ?_ ?_ ?_ | refine w9 ?_ ?_ ?_ | refine w10 ?_ ?_ ?_)); exact rfl; simp) | ((with_reducible refine w12 ?_ ?_ ?_ fun _ _ => ?_); simp; simp; simp [oneC]) | ((with_reducible (first | refine eqs ?_ | refine nes ?_)); refine ⟨_, rfl, ?_⟩) | ((refine okF_i (bldP_eq rfl) ?_); try simp only [BLS, List.take_succ_cons, List.take_zero, List.drop_succ_cons, List.drop_zero, List.cons_append, List.nil_append, Nat.reduceAdd])) | simp -implicitDefEqProofs only [EN, lsub, lget, stL, beq_self_eq_true, ne_eq, if_true, if_false, List.cons_append, List.nil_append, Option.isNone_some, Option.isNone_none, ei]))
    refine ldA0 (i := i) (l := rows) (A := ISY) (by first | assumption | exact St.tick (by assumption) | exact St.tick (St.tick (by assumption))) rfl hib (v := rows[i].v) rfl (by simp) ?_
    refine bsA I64 [(j : Int)] (n := 1) (by first | assumption | exact St.tick (by assumption) | exact St.tick (St.tick (by assumption))) rfl rfl (by decide) (by decide) rfl fun a5 c5 W5 h => ?_
    refine stb_ldA0 (i := i) (l := rows) (A := ISY) h rfl hib (v := rows[i].v) rfl (by simp) ?_
    (repeat (first | (first | (with_reducible (first | refine w1 fun _ _ => ?_ | refine w3 fun _ _ _ => ?_ | refine w4 fun _ _ _ => ?_ | refine w11 fun _ _ _ => ?_ | refine stb_n ?_)) | ((with_reducible refine w2 ?_); try simp -implicitDefEqProofs only [EN, lsub, lget, stL, beq_self_eq_true, ne_eq, if_true, if_false, List.cons_append, List.nil_append, Option.isNone_some, Option.isNone_none]; intro _ _) | ((with_reducible (first | refine w5 ?_ ?_ | refine w6 ?_ ?_ | refine w7 ?_ ?_)); simp; refine ⟨_, rfl, ?_⟩) | ((with_reducible (first | refine w8 ?_ ?_ ?_ | refine w9 ?_ ?_ ?_ | refine w10 ?_ ?_ ?_)); exact rfl; simp) | ((with_reducible refine w12 ?_ ?_ ?_ fun _ _ => ?_); simp; simp; simp [oneC]) | ((with_reducible (first | refine eqs ?_ | refine nes ?_)); refine ⟨_, rfl, ?_⟩) | ((refine okF_i (bldP_eq rfl) ?_); try simp only [BLS, List.take_succ_cons, List.take_zero, List.drop_succ_cons, List.drop_zero, List.cons_append, List.nil_append, Nat.reduceAdd])) | simp -implicitDefEqProofs only [EN, lsub, lget, stL, beq_self_eq_true, ne_eq, if_true, if_false, List.cons_append, List.nil_append, Option.isNone_some, Option.isNone_none]))
    refine appA (A := I64) (a := rows[i].a) (l := rows[i].l) (m := [(j : Int)]) (by first | assumption | exact St.tick (by assumption) | exact St.tick (St.tick (by assumption))) rfl (by simp only [List.length_cons, List.length_nil]; omega) (by simp only [List.length_cons, List.length_nil, maxLen]; omega) fun a6 c6 W6 h => ?_
    (repeat (first | (first | (with_reducible (first | refine w1 fun _ _ => ?_ | refine w3 fun _ _ _ => ?_ | refine w4 fun _ _ _ => ?_ | refine w11 fun _ _ _ => ?_ | refine stb_n ?_)) | ((with_reducible refine w2 ?_); try simp -implicitDefEqProofs only [EN, lsub, lget, stL, beq_self_eq_true, ne_eq, if_true, if_false, List.cons_append, List.nil_append, Option.isNone_some, Option.isNone_none, ei]; intro _ _) | ((with_reducible (first | refine w5 ?_ ?_ | refine w6 ?_ ?_ | refine w7 ?_ ?_)); simp; refine ⟨_, rfl, ?_⟩) | ((with_reducible (first | refine w8 ?_ ?_ ?_ | refine w9 ?_ ?_ ?_ | refine w10 ?_ ?_ ?_)); exact rfl; simp) | ((with_reducible refine w12 ?_ ?_ ?_ fun _ _ => ?_); simp; simp; simp [oneC]) | ((with_reducible (first | refine eqs ?_ | refine nes ?_)); refine ⟨_, rfl, ?_⟩) | ((refine okF_i (bldP_eq rfl) ?_); try simp only [BLS, List.take_succ_cons, List.take_zero, List.drop_succ_cons, List.drop_zero, List.cons_append, List.nil_append, Nat.reduceAdd])) | simp -implicitDefEqProofs only [EN, lsub, lget, stL, beq_self_eq_true, ne_eq, if_true, if_false, List.cons_append, List.nil_append, Option.isNone_some, Option.isNone_none, ei]))
    have h : St W0 (arr ISY T_s_int (some ⟨g, o, none⟩) c rows :: ich ⟨a6, c6, rows[i].l ++ [(j : Int)]⟩ :: many ich (rows.take i ++ rows.drop (i + 1)) :: cells p [.slice wa sl.length wc, .map (some wr)] T_order_web :: arr INS T_order_Inst wa wc sl :: mp KD wr (plL sl) :: cells b1 [.pointer (some ⟨p, 0, none⟩)] T_p_order_web :: cells b3 [.slice (some ⟨g, o, none⟩) n c] T_s_s_int :: cells b4 [.int .i64 (i : Int)] T_int :: L) W6 := St.wk h
    refine stA (i := i) (x := (⟨a6, c6, rows[i].l ++ [(j : Int)]⟩ : ISl)) (l := rows) (A := ISY) h rfl hib rfl fun W7 h => ?_
    refine hk _ ?_
    have h := (h.ent (ent.cons _ (ich_place rows hib ⟨a6, c6, rows[i].l ++ [(j : Int)]⟩))).ent (li_ent (vs := vs.set i (rows[i].l ++ [(j : Int)])) (by rw [List.map_set, hrows]))
    have h : St W0 (cells p [.slice wa sl.length wc, .map (some wr)] T_order_web :: arr INS T_order_Inst wa wc sl :: mp KD wr (plL sl) :: cells b1 [.pointer (some ⟨p, 0, none⟩)] T_p_order_web :: cells b3 [.slice (some ⟨g, o, none⟩) n c] T_s_s_int :: cells b4 [.int .i64 (i : Int)] T_int :: LI (some ⟨g, o, none⟩) c (vs.set i (rows[i].l ++ [(j : Int)])) :: L) W7 := St.wk h
    have h := h.ent wb_ent
    have h : St W0 (cells b1 [.pointer (some ⟨p, 0, none⟩)] T_p_order_web :: cells b3 [.slice (some ⟨g, o, none⟩) n c] T_s_s_int :: cells b4 [.int .i64 (i : Int)] T_int :: LI (some ⟨g, o, none⟩) c (vs.set i (rows[i].l ++ [(j : Int)])) :: wb p sl :: L) W7 := St.wk h
    exact h.ent (ent.pack [_, _, _, _] _)
end
def onRow (sl : List Ins) (x : Ins) : List Int := (depsL x).filterMap fun d => (plcO sl d).map fun k : Nat => (k : Int)
def onL (sl : List Ins) : List (List Int) := sl.map (onRow sl)
theorem each_on {sl : List Ins} {i : Nat} : ∀ (ds : List Dot) (vs : List (List Int)), i < vs.length → eachF (fun _ _ => true) (onStep sl i) ds vs = (true, vs.set i (vs.getD i [] ++ ds.filterMap fun d => (plcO sl d).map fun k : Nat => (k : Int)))
  | [], vs, hi => by
    have : vs.getD i [] = vs[i] := by rw [List.getD_eq_getElem?_getD, List.getElem?_eq_getElem hi]; rfl
    simp only [eachF, List.filterMap_nil, List.append_nil, this, List.set_getElem_self]
  | d :: ds, vs, hi => by
    simp only [eachF, if_true]
    cases hp : plcO sl d with
    | none =>
      rw [show onStep sl i vs d = vs by unfold onStep; rw [hp]]
      rw [each_on ds vs hi, List.filterMap_cons, hp]; rfl
    | some j =>
      rw [show onStep sl i vs d = vs.set i (vs.getD i [] ++ [(j : Int)]) by unfold onStep; rw [hp]]
      rw [each_on ds _ (by simpa using hi), List.filterMap_cons, hp]
      have : (vs.set i (vs.getD i [] ++ [(j : Int)])).getD i [] = vs.getD i [] ++ [(j : Int)] := by rw [List.getD_eq_getElem?_getD, List.getElem?_set_self hi]; rfl
      rw [this, List.set_set]
      simp
end Go.Proofs.Ytkjhccpanedccaa
namespace Go.Proofs.Ytkjhccpanedccaa
set_option linter.unusedVariables false
set_option linter.unusedSimpArgs false
open Go Go.Eng

theorem many_none {L : List Asn} : ∀ n : Nat, ent L (many ich (List.replicate n (⟨none, 0, []⟩ : ISl)) :: L)
  | 0 => many_nil (F := ich)
  | n + 1 => (many_none n).trans ((arr_nil I64 T_int).trans (many_uncons (F := ich) ⟨none, 0, []⟩ _))
/-- the first i rows are told -/
def onT (sl : List Ins) (i : Nat) : List (List Int) := (onL sl).take i ++ List.replicate (sl.length - i) []
theorem onT_len (sl : List Ins) {i : Nat} (h : i ≤ sl.length) : (onT sl i).length = sl.length := by simp [onT, onL]; omega
theorem onT_at (sl : List Ins) {i : Nat} (h : i < sl.length) : (onT sl i).getD i [] = [] := by
  have hl : ((onL sl).take i).length = i := by simp [onL]; omega
  unfold onT
  rw [List.getD_eq_getElem?_getD, List.getElem?_append_right (by omega), hl, Nat.sub_self, List.getElem?_replicate]
  split <;> rfl
theorem onT_next (sl : List Ins) {i : Nat} (h : i < sl.length) : (onT sl i).set i (onRow sl sl[i]) = onT sl (i + 1) := by
  have hl : ((onL sl).take i).length = i := by simp [onL]; omega
  unfold onT
  rw [List.set_append, if_neg (by omega), hl, Nat.sub_self, show sl.length - i = (sl.length - (i + 1)) + 1 by omega, List.replicate_succ, List.set_cons_zero,
    List.take_succ_eq_append_getElem (show i < (onL sl).length by simp [onL]; exact h), List.append_assoc]
  congr 1
  simp [onL]
section
variable {W0 W : World} {L L' : List Asn}
set_option maxRecDepth 100000 in
set_option maxHeartbeats 4000000 in
theorem ordOn {p : Nat} {sl : List Ins} {k : Value → World → Prop} (h : St W0 (wb p sl :: L) W) (hl : sl.length ≤ 1000) (hd : ∀ x ∈ sl, depsO x = true)
    (hk : ∀ a c W', St W0 (LI a c (onL sl) :: wb p sl :: L) W' → k (.slice a (onL sl).length c) W') : callK PR F_order_web_on [.pointer (some ⟨p, 0, none⟩)] k W := by
  apply S.order_web_on.call
  unfold S.order_web_on.body
  refine bx h fun b1 W1 h => ?_
  have h : St W0 (cells b1 [.pointer (some ⟨p, 0, none⟩)] T_p_order_web :: wb p sl :: L) W1 := h
  obtain ⟨wa, wc, wr, h⟩ := wb_at (St.perm h (List.Perm.swap _ _ _))
  (repeat (first | (first | (with_reducible (first | refine w1 fun _ _ => ?_ | refine w3 fun _ _ _ => ?_ | refine w4 fun _ _ _ => ?_ | refine w11 fun _ _ _ => ?_ | refine stb_n ?_)) | ((with_reducible refine w2 ?_); try simp -implicitDefEqProofs only [EN, lsub, lget, stL, beq_self_eq_true, ne_eq, if_true, if_false, List.cons_append, List.nil_append, Option.isNone_some, Option.isNone_none]; intro _ _) | ((with_reducible (first | refine w5 ?_ ?_ | refine w6 ?_ ?_ | refine w7 ?_ ?_)); simp; refine ⟨_, rfl, ?_⟩) | ((with_reducible (first | refine w8 ?_ ?_ ?_ | refine w9 ?_ ?_ ?_ | refine w10 ?_ ?_ ?_)); exact rfl; simp) | ((with_reducible refine w12 ?_ ?_ ?_ fun _ _ => ?_); simp; simp; simp [oneC]) | ((with_reducible (first | refine eqs ?_ | refine nes ?_)); refine ⟨_, rfl, ?_⟩) | ((refine okF_i (bldP_eq rfl) ?_); try simp only [BLS, List.take_succ_cons, List.take_zero, List.drop_succ_cons, List.drop_zero, List.cons_append, List.nil_append, Nat.reduceAdd])) | simp -implicitDefEqProofs only [EN, lsub, lget, stL, beq_self_eq_true, ne_eq, if_true, if_false, List.cons_append, List.nil_append, Option.isNone_some, Option.isNone_none]))
  refine mkS (A := ISY) (⟨none, 0, []⟩ : ISl) sl.length (by first | assumption | exact St.tick (by assumption) | exact St.tick (St.tick (by assumption))) rfl rfl (by omega) (by omega) fun a c W2 h => ?_
  have hrl : (List.replicate sl.length (⟨none, 0, []⟩ : ISl)).length = sl.length := List.length_replicate
  rw [hrl]
  (repeat (first | (first | (with_reducible (first | refine w1 fun _ _ => ?_ | refine w3 fun _ _ _ => ?_ | refine w4 fun _ _ _ => ?_ | refine w11 fun _ _ _ => ?_ | refine stb_n ?_)) | ((with_reducible refine w2 ?_); try simp -implicitDefEqProofs only [EN, lsub, lget, stL, beq_self_eq_true, ne_eq, if_true, if_false, List.cons_append, List.nil_append, Option.isNone_some, Option.isNone_none]; intro _ _) | ((with_reducible (first | refine w5 ?_ ?_ | refine w6 ?_ ?_ | refine w7 ?_ ?_)); simp; refine ⟨_, rfl, ?_⟩) | ((with_reducible (first | refine w8 ?_ ?_ ?_ | refine w9 ?_ ?_ ?_ | refine w10 ?_ ?_ ?_)); exact rfl; simp) | ((with_reducible refine w12 ?_ ?_ ?_ fun _ _ => ?_); simp; simp; simp [oneC]) | ((with_reducible (first | refine eqs ?_ | refine nes ?_)); refine ⟨_, rfl, ?_⟩) | ((refine okF_i (bldP_eq rfl) ?_); try simp only [BLS, List.take_succ_cons, List.take_zero, List.drop_succ_cons, List.drop_zero, List.cons_append, List.nil_append, Nat.reduceAdd])) | simp -implicitDefEqProofs only [EN, lsub, lget, stL, beq_self_eq_true, ne_eq, if_true, if_false, List.cons_append, List.nil_append, Option.isNone_some, Option.isNone_none]))
  rename_i b3 _ _ W3 h
  (try simp only [BLS, List.take_succ_cons, List.take_zero, List.drop_succ_cons, List.drop_zero, List.cons_append, List.nil_append, List.append_nil, List.take_nil, List.drop_nil, stL, Nat.reduceAdd] at h)
  refine joinK_i ?_
  (repeat (first | (first | (with_reducible (first | refine w1 fun _ _ => ?_ | refine w3 fun _ _ _ => ?_ | refine w4 fun _ _ _ => ?_ | refine w11 fun _ _ _ => ?_ | refine stb_n ?_)) | ((with_reducible refine w2 ?_); try simp -implicitDefEqProofs only [EN, lsub, lget, stL, beq_self_eq_true, ne_eq, if_true, if_false, List.cons_append, List.nil_append, Option.isNone_some, Option.isNone_none]; intro _ _) | ((with_reducible (first | refine w5 ?_ ?_ | refine w6 ?_ ?_ | refine w7 ?_ ?_)); simp; refine ⟨_, rfl, ?_⟩) | ((with_reducible (first | refine w8 ?_ ?_ ?_ | refine w9 ?_ ?_ ?_ | refine w10 ?_ ?_ ?_)); exact rfl; simp) | ((with_reducible refine w12 ?_ ?_ ?_ fun _ _ => ?_); simp; simp; simp [oneC]) | ((with_reducible (first | refine eqs ?_ | refine nes ?_)); refine ⟨_, rfl, ?_⟩) | ((refine okF_i (bldP_eq rfl) ?_); try simp only [BLS, List.take_succ_cons, List.take_zero, List.drop_succ_cons, List.drop_zero, List.cons_append, List.nil_append, Nat.reduceAdd])) | simp -implicitDefEqProofs only [EN, lsub, lget, stL, beq_self_eq_true, ne_eq, if_true, if_false, List.cons_append, List.nil_append, Option.isNone_some, Option.isNone_none]))
  have h : St W0 (LI a c (onT sl 0) :: cells b3 [.slice a sl.length c] T_s_s_int :: cells b1 [.pointer (some ⟨p, 0, none⟩)] T_p_order_web :: wb p sl :: L) W3 := by
    have h5 : St W0 (cells p [.slice wa sl.length wc, .map (some wr)] T_order_web :: arr INS T_order_Inst wa wc sl :: mp KD wr (plL sl) :: arr ISY T_s_int a c (List.replicate sl.length ⟨none, 0, []⟩) :: cells b3 [.slice a sl.length c] T_s_s_int :: cells b1 [.pointer (some ⟨p, 0, none⟩)] T_p_order_web :: L) W3 := St.wk h
    have h6 := h5.ent wb_ent
    have h7 : St W0 (arr ISY T_s_int a c (List.replicate sl.length ⟨none, 0, []⟩) :: cells b3 [.slice a sl.length c] T_s_s_int :: cells b1 [.pointer (some ⟨p, 0, none⟩)] T_p_order_web :: wb p sl :: L) W3 := St.wk h6
    refine (h7.ent (ent.cons _ (many_none sl.length))).ent (li_ent ?_)
    simp [onT]
  refine loop_c (σ := Unit) sl.length (fun i _ => [.pointer (some ⟨b1, 0, none⟩), .pointer (some ⟨b3, 0, none⟩), .int .i64 sl.length, .int .i64 i])
    (fun i _ W1 => St W0 (LI a c (onT sl i) :: cells b3 [.slice a sl.length c] T_s_s_int :: cells b1 [.pointer (some ⟨p, 0, none⟩)] T_p_order_web :: wb p sl :: L) W1) () rfl h ?_
  clear h
  rintro K i _ W4 hi h hK
  simp -implicitDefEqProofs only [EN, lsub, lget, stL, beq_self_eq_true, ne_eq, if_true, if_false, List.cons_append, List.nil_append, Option.isNone_some, Option.isNone_none]
  unfold S.order_web_on.l1
  by_cases hlt : (i : Int) < (sl.length : Int)
  · have hib : i < sl.length := by omega
    have ew : IntKind.i64.wrap ((i : Int) + 1) = ((i + 1 : Nat) : Int) := by rw [i64w]; omega
    (repeat (first | (first | (with_reducible (first | refine w1 fun _ _ => ?_ | refine w3 fun _ _ _ => ?_ | refine w4 fun _ _ _ => ?_ | refine w11 fun _ _ _ => ?_ | refine stb_n ?_)) | ((with_reducible refine w2 ?_); try simp -implicitDefEqProofs only [EN, lsub, lget, stL, beq_self_eq_true, ne_eq, if_true, if_false, List.cons_append, List.nil_append, Option.isNone_some, Option.isNone_none, hlt]; intro _ _) | ((with_reducible (first | refine w5 ?_ ?_ | refine w6 ?_ ?_ | refine w7 ?_ ?_)); simp; refine ⟨_, rfl, ?_⟩) | ((with_reducible (first | refine w8 ?_ ?_ ?_ | refine w9 ?_ ?_ ?_ | refine w10 ?_ ?_ ?_)); exact rfl; simp) | ((with_reducible refine w12 ?_ ?_ ?_ fun _ _ => ?_); simp; simp; simp [oneC]) | ((with_reducible (first | refine eqs ?_ | refine nes ?_)); refine ⟨_, rfl, ?_⟩) | ((refine okF_i (bldP_eq rfl) ?_); try simp only [BLS, List.take_succ_cons, List.take_zero, List.drop_succ_cons, List.drop_zero, List.cons_append, List.nil_append, Nat.reduceAdd])) | simp -implicitDefEqProofs only [EN, lsub, lget, stL, beq_self_eq_true, ne_eq, if_true, if_false, List.cons_append, List.nil_append, Option.isNone_some, Option.isNone_none, hlt]))
    rename_i b4 _ _ W5 h
    (try simp only [BLS, List.take_succ_cons, List.take_zero, List.drop_succ_cons, List.drop_zero, List.cons_append, List.nil_append, List.append_nil, List.take_nil, List.drop_nil, stL, Nat.reduceAdd] at h)
    have h : St W0 (onC p b1 b3 b4 sl.length i a c (onT sl i) :: wb p sl :: L) W5 := by
      have h5 : St W0 (cells b1 [.pointer (some ⟨p, 0, none⟩)] T_p_order_web :: cells b3 [.slice a sl.length c] T_s_s_int :: cells b4 [.int .i64 (i : Int)] T_int :: LI a c (onT sl i) :: wb p sl :: L) W5 := St.wk h
      exact h5.ent (ent.pack [_, _, _, _] _)
    refine ordEach (C := onC p b1 b3 b4 sl.length i a c) (q := fun _ _ => true) (t := onStep sl i) (I := fun m vs => vs.length = sl.length ∧ (vs.getD i []).length ≤ m) (s := onT sl i) ?_ ⟨onT_len sl hi, by rw [onT_at sl hib]; simp⟩ ?_ h hib (hd _ (List.getElem_mem hib)) fun W6 h => ?_
    · rintro m vs d ⟨h1, h2⟩
      unfold onStep
      cases plcO sl d with
      | none => exact ⟨h1, Nat.le_succ_of_le h2⟩
      | some j =>
        refine ⟨by simp [h1], ?_⟩
        have e : (vs.set i (vs.getD i [] ++ [(j : Int)])).getD i [] = vs.getD i [] ++ [(j : Int)] := by rw [List.getD_eq_getElem?_getD, List.getElem?_set_self (by omega)]; rfl
        show ((vs.set i (vs.getD i [] ++ [(j : Int)])).getD i []).length ≤ m + 1
        rw [e, List.length_append, List.length_singleton]
        omega
    · rintro m vs d W k hm _ ⟨h1, h2⟩ h hk
      refine ⟨CBok _ (by kernel_rfl), ?_⟩
      exact ordOn1 (d := d) h1 hib (by omega) h hk
    · have hts := onT_next sl hib
      rw [each_on _ _ (by rw [onT_len sl hi]; exact hib), onT_at sl hib, List.nil_append] at h
      rw [show ((depsL sl[i]).filterMap fun d => (plcO sl d).map fun k : Nat => (k : Int)) = onRow sl sl[i] from rfl, hts] at h
      have h := h.flat
      (repeat (first | (first | (with_reducible (first | refine w1 fun _ _ => ?_ | refine w3 fun _ _ _ => ?_ | refine w4 fun _ _ _ => ?_ | refine w11 fun _ _ _ => ?_ | refine stb_n ?_)) | ((with_reducible refine w2 ?_); try simp -implicitDefEqProofs only [EN, lsub, lget, stL, beq_self_eq_true, ne_eq, if_true, if_false, List.cons_append, List.nil_append, Option.isNone_some, Option.isNone_none, ew]; intro _ _) | ((with_reducible (first | refine w5 ?_ ?_ | refine w6 ?_ ?_ | refine w7 ?_ ?_)); simp; refine ⟨_, rfl, ?_⟩) | ((with_reducible (first | refine w8 ?_ ?_ ?_ | refine w9 ?_ ?_ ?_ | refine w10 ?_ ?_ ?_)); exact rfl; simp) | ((with_reducible refine w12 ?_ ?_ ?_ fun _ _ => ?_); simp; simp; simp [oneC]) | ((with_reducible (first | refine eqs ?_ | refine nes ?_)); refine ⟨_, rfl, ?_⟩) | ((refine okF_i (bldP_eq rfl) ?_); try simp only [BLS, List.take_succ_cons, List.take_zero, List.drop_succ_cons, List.drop_zero, List.cons_append, List.nil_append, Nat.reduceAdd])) | simp -implicitDefEqProofs only [EN, lsub, lget, stL, beq_self_eq_true, ne_eq, if_true, if_false, List.cons_append, List.nil_append, Option.isNone_some, Option.isNone_none, ew]))
      have h9 : St W0 (cells b1 [.pointer (some ⟨p, 0, none⟩)] T_p_order_web :: cells b3 [.slice a sl.length c] T_s_s_int :: cells b4 [.int .i64 (i : Int)] T_int :: LI a c (onT sl (i + 1)) :: wb p sl :: L) W6 := h
      exact hK () _ hib (St.wk h9)
  · have hil : i = sl.length := by omega
    subst hil
    (repeat (first | (first | (with_reducible (first | refine w1 fun _ _ => ?_ | refine w3 fun _ _ _ => ?_ | refine w4 fun _ _ _ => ?_ | refine w11 fun _ _ _ => ?_ | refine stb_n ?_)) | ((with_reducible refine w2 ?_); try simp -implicitDefEqProofs only [EN, lsub, lget, stL, beq_self_eq_true, ne_eq, if_true, if_false, List.cons_append, List.nil_append, Option.isNone_some, Option.isNone_none, hlt]; intro _ _) | ((with_reducible (first | refine w5 ?_ ?_ | refine w6 ?_ ?_ | refine w7 ?_ ?_)); simp; refine ⟨_, rfl, ?_⟩) | ((with_reducible (first | refine w8 ?_ ?_ ?_ | refine w9 ?_ ?_ ?_ | refine w10 ?_ ?_ ?_)); exact rfl; simp) | ((with_reducible refine w12 ?_ ?_ ?_ fun _ _ => ?_); simp; simp; simp [oneC]) | ((with_reducible (first | refine eqs ?_ | refine nes ?_)); refine ⟨_, rfl, ?_⟩) | ((refine okF_i (bldP_eq rfl) ?_); try simp only [BLS, List.take_succ_cons, List.take_zero, List.drop_succ_cons, List.drop_zero, List.cons_append, List.nil_append, Nat.reduceAdd])) | simp -implicitDefEqProofs only [EN, lsub, lget, stL, beq_self_eq_true, ne_eq, if_true, if_false, List.cons_append, List.nil_append, Option.isNone_some, Option.isNone_none, hlt]))
    unfold S.order_web_on.j1
    have e : onT sl sl.length = onL sl := by unfold onT; rw [List.take_of_length_le (by simp [onL])]; simp
    have e2 : sl.length = (onL sl).length := by simp [onL]
    rw [e] at h
    (repeat (first | (first | (with_reducible (first | refine w1 fun _ _ => ?_ | refine w3 fun _ _ _ => ?_ | refine w4 fun _ _ _ => ?_ | refine w11 fun _ _ _ => ?_ | refine stb_n ?_)) | ((with_reducible refine w2 ?_); try simp -implicitDefEqProofs only [EN, lsub, lget, stL, beq_self_eq_true, ne_eq, if_true, if_false, List.cons_append, List.nil_append, Option.isNone_some, Option.isNone_none]; intro _ _) | ((with_reducible (first | refine w5 ?_ ?_ | refine w6 ?_ ?_ | refine w7 ?_ ?_)); simp; refine ⟨_, rfl, ?_⟩) | ((with_reducible (first | refine w8 ?_ ?_ ?_ | refine w9 ?_ ?_ ?_ | refine w10 ?_ ?_ ?_)); exact rfl; simp) | ((with_reducible refine w12 ?_ ?_ ?_ fun _ _ => ?_); simp; simp; simp [oneC]) | ((with_reducible (first | refine eqs ?_ | refine nes ?_)); refine ⟨_, rfl, ?_⟩) | ((refine okF_i (bldP_eq rfl) ?_); try simp only [BLS, List.take_succ_cons, List.take_zero, List.drop_succ_cons, List.drop_zero, List.cons_append, List.nil_append, Nat.reduceAdd])) | simp -implicitDefEqProofs only [EN, lsub, lget, stL, beq_self_eq_true, ne_eq, if_true, if_false, List.cons_append, List.nil_append, Option.isNone_some, Option.isNone_none]))
    have h8 : St W0 (LI a c (onL sl) :: wb p sl :: L) W4 := St.wk h
    have := hk a c W4 h8
    rwa [← e2] at this
end
end Go.Proofs.Ytkjhccpanedccaa
namespace Go.Eng
set_option linter.unusedVariables false
set_option linter.unusedSimpArgs false
open Go Go.RowKit Go.Sort Go.Proofs
section
variable {P : Program} {ρ ρ' : Go.Shelf.Ren} {W0 W W' : World} {L L' : List Asn} {e : TypeId}
theorem sortsI (L5 : SlLaysM.n5 P ρ') (e : ρ.f 9 = ρ'.f 5) (m : Nat) : AnyZI.SortsIn P ρ Fence.wide m := by
  refine ⟨fun blk off cap ss W hH hblk hsz => ?_, fun p cap W => ?_⟩ <;> rw [e]
  · exact callsIn_wide.2 (AnyM.slices_Sort_int L5 blk off cap ss W hH hblk hsz)
  · exact callsIn_wide.2 (AnyM.slices_Sort_int_none L5 p cap W)
/-- over a base that counts no draws, a world may forget its own -/
theorem St.lax (h : St W0 L W) (h0 : W0.drawn = 0) : St W0 L { W with drawn := 0 } :=
  ⟨⟨⟨h.bel.os, h.bel.tape, h.bel.output, h.bel.size, h.bel.block⟩, by rw [h0]; exact Nat.zero_le _⟩, h.own⟩
theorem St.fresh (h : St W0 L W) (h0 : W0.drawn = 0) (hb : Below W.heap.size W W') {g : Nat} {o : Obj} (hg : W.heap.size ≤ g) (ho : W'.heap[g]? = some o) : St W0 (Eng.blk g o :: L) W' := by
  have h' : St { W with drawn := 0 } [Eng.blk g o] W' := by
   refine ⟨⟨⟨hb.os, hb.tape, hb.output, hb.size, hb.block⟩, Nat.zero_le _⟩, fun x => if x = g then some o else none, ⟨fun x => if x = g then some o else none, fun _ => none, fun x => .inr rfl, ?_, ⟨?_, ?_⟩, fun _ => rfl⟩, ?_⟩
   · funext x; simp [PH.join]
   · simp
   · intro x hx; simp [hx]
   · intro b o' hb
     by_cases hbe : b = g
     · subst hbe
       simp only [if_true, Option.some.injEq] at hb
       subst hb
       exact ⟨hg, ho⟩
     · simp only [hbe, if_false] at hb
       cases hb
  exact (h.lax h0).over h'
theorem St.stay (h : St W0 L W) (h0 : W0.drawn = 0) (hb : Below W.heap.size W W') : St W0 L W' := by
  have h2 : St { W with drawn := 0 } [] W' := ⟨⟨⟨hb.os, hb.tape, hb.output, hb.size, hb.block⟩, Nat.zero_le _⟩, fun _ => none, fun _ => rfl, fun b o h => by cases h⟩
  exact (h.lax h0).over h2
theorem St.ownRow (h : St W0 L W) (h0 : W0.drawn = 0) (hb : Below W.heap.size W W') {v : Value} {l : List Int} (hr : W'.ownsRow W.heap.size e 1 v l.length (l.map encZ)) : ∃ a c, v = .slice a l.length c ∧ St W0 (arr I64 e a c l :: L) W' := by
  rcases hr.2 with ⟨rfl, hz⟩ | ⟨g, cap, cur, rfl, hbase, hg, h1, h2, h3, h4⟩
  · have : l = [] := List.eq_nil_of_length_eq_zero hz
    subst this
    exact ⟨none, 0, rfl, (h.stay h0 hb).ent (arr_nil I64 e)⟩
  · refine ⟨_, _, rfl, ?_⟩
    have hrows : ∀ l : List Int, I64.rows l = l.map encZ := fun l => by
      induction l with
      | nil => rfl
      | cons a l ih => rw [Ly.rows_cons, ih]; rfl
    have h5 : St W0 (Eng.cells g cur.toList e :: L) W' := (h.fresh h0 hb hbase hg).weak fun p hp => ⟨(0, 0), free_zero _, by simpa using hp⟩
    refine h5.ent (arr_of_cells h1 h2 ?_ ?_)
    · rw [show I64.sz = 1 from rfl]; simp [h3]
    · rw [show I64.sz = 1 from rfl, List.drop_zero, hrows]; exact h4
theorem sortedI (L6 : SlLaysZI.n6 P ρ) (hs : ∀ m, AnyZI.SortsIn P ρ Fence.wide m) (e9 : ∀ args w, (callFunc (ρ.f 9) args).run P w = .ok (.enter (ρ.f 9) args) w) {g : Nat} {lb : Array Value} (eg : ∀ args w, (callFunc g args).run P w = .ok (.enter g args) w) {S : List Int → Prop} {N : Nat} {k : Value → World → Prop}
    (h : St W0 L W) (h0 : W0.drawn = 0) (hN : N * 8 ≤ 140737488355328) (hseq : SeqGives Fence.wide 2 P g lb encZ S N W)
    (hk : ∀ a c ss W', S ss → St W0 (arr I64 (ρ.t 26) a c (ss.mergeSort fun x y => decide (x ≤ y)) :: L) W' → k (.slice a (ss.mergeSort fun x y => decide (x ≤ y)).length c) W') : callK P (ρ.f 6) [.func (.func g) #[] lb] k W := by
  have cS := AnyZI.sorted_in L6 Fence.wide 5 trivial trivial trivial trivial rfl (by omega) (hs _) e9 g lb trivial eg S N (by simp only [maxLen]; omega) hN W hseq
  refine (callsIn_wide.1 cS).mono ?_
  rintro ed w' ⟨v, ss, rfl, hS, hrow, -, hb⟩
  have hl : ss.length = (ss.mergeSort fun x y => decide (x ≤ y)).length := (List.length_mergeSort _).symm
  rw [hl] at hrow
  obtain ⟨a, c, rfl, h⟩ := h.ownRow h0 hb hrow
  exact hk a c ss w' hS h
theorem insert_fold {H : Type} : ∀ r : List (Lit × DataW H), (r.foldr DataW.insert []).Perm r
  | [] => List.Perm.nil
  | x :: r => (Go.WideShapes.insert_perm x _).trans ((insert_fold r).cons x)
def valI : Value → Int
  | .int _ a => a
  | _ => 0
theorem mp_owns {r : Nat} {l : List (Int × Value)} {kt : TypeId} (hk : P.underlying kt = some (.int .i64)) (h : St W0 (mp KI r l :: L) W) (hl : l.length ≤ maxLen) (hw : ∀ p ∈ l, (Lit.int .i64 p.1).wf = true) :
    ∃ D : DataW Unit, W.ownsMap P kt (fun _ => some (.nil, [])) r l.length D ∧ (intKeys D).Perm (l.map (·.1)) ∧ Maps.size D = l.length := by
  obtain ⟨es, clock, h1, h2, h3⟩ := h.mp
  have hlen : es.size = l.length := by have := congrArg List.length h1; simpa using this
  have hkey : ∀ x ∈ es.toList, ∃ p ∈ l, x.key = KI p.1 := fun x hx => by
    have : (x.key, x.val) ∈ l.map (fun p => (KI p.1, p.2)) := by rw [← h1]; exact List.mem_map.2 ⟨x, hx, rfl⟩
    obtain ⟨p, hp, he⟩ := List.mem_map.1 this
    exact ⟨p, hp, (congrArg Prod.fst he).symm⟩
  have hrd : ∀ x ∈ es.toList, ∃ p ∈ l, x.key = KI p.1 ∧ Go.WideElems.rd (H := Unit) P kt (fun _ => some (.nil, [])) x = some (.int .i64 p.1, .nil) := fun x hx => by
    obtain ⟨p, hp, he⟩ := hkey x hx
    refine ⟨p, hp, he, ?_⟩
    have hkk : keyOf P kt (KI p.1) = some (.int .i64 p.1) := by simp [KI, keyOf, hk, mapKey, hw p hp]
    unfold Go.WideElems.rd
    rw [he, hkk]; rfl
  refine ⟨_, ⟨es, clock, h3.blk.2, ⟨by omega, h2, fun x hx => ?_⟩, by omega, rfl⟩, ?_, ?_⟩
  · obtain ⟨p, _, _, h⟩ := hrd x hx
    exact ⟨_, h⟩
  · have e1 : (es.toList.map (Go.WideElems.rg (H := Unit) P kt fun _ => some (.nil, []))).map (fun p => intOf p.1) = l.map (·.1) := by
      have e2 : ∀ x ∈ es.toList, intOf (Go.WideElems.rg (H := Unit) P kt (fun _ => some (.nil, [])) x).1 = valI x.key := fun x hx => by
        obtain ⟨p, _, h4, h5⟩ := hrd x hx
        rw [Go.WideElems.rg_of h5, h4]; rfl
      rw [List.map_map]
      refine (List.map_congr_left e2).trans ?_
      have e3 := congrArg (fun t : List (Value × Value) => t.map fun q => valI q.1) h1
      rw [List.map_map, List.map_map] at e3
      exact e3
    rw [← e1]
    exact (insert_fold _).map _
  · show ((es.toList.map _).foldr DataW.insert []).length = _
    rw [(insert_fold _).length_eq, List.length_map, Array.length_toList, hlen]
theorem keysI (L7 : SlLaysZI.n7 P ρ) {mb : Option Nat} {k : Value → World → Prop} (h : St W0 L W)
    (hk : ∀ b W', St W0 (Eng.cells b [.map mb] (ρ.t 23) :: L) W' → k (.func (.func (ρ.f 10)) #[] #[.pointer (some ⟨b, 0, none⟩)]) W') : callK P (ρ.f 7) [.map mb] k W := by
  refine (callsIn_wide.1 (AnyZI.keys_in L7 Fence.wide 1 trivial rfl mb W)).mono ?_
  rintro ed w' ⟨rfl, rfl⟩
  exact hk _ _ (h.allocCells [.map mb] _)
theorem keysGive (L7 : SlLaysZI.n7 P ρ) {b r : Nat} {T : TypeId} {l : List (Int × Value)} (h : St W0 (Eng.cells b [.map (some r)] T :: mp KI r l :: L) W) (hl : l.length ≤ maxLen) (hw : ∀ p ∈ l, (Lit.int .i64 p.1).wf = true) :
    SeqGives Fence.wide 2 P (ρ.f 10) #[.pointer (some ⟨b, 0, none⟩)] encZ (fun ss => ss.Perm (l.map (·.1))) l.length W := by
  have h10 : SlLaysZI.n10 P ρ := { L7 with }
  obtain ⟨D, hD, hp, hsz⟩ := mp_owns h10.t26 (h.drop) hl hw
  have hc := h.cells
  obtain ⟨fr, _, hb⟩ := hc
  have hg := hb.blk.2
  have hseq := AnyZI.keys_gives (ρ := ρ) h10 Fence.wide 2 trivial rfl (by omega) b r l.length D W (Array.getElem?_eq_some_iff.1 hg).1 (by simp [World.cell?, hg]) hD
  rw [hsz] at hseq
  intro l' J W' hW hJ hY h0
  refine (hseq l' J W' hW hJ hY h0).mono ?_
  rintro ed w' ⟨h1, xs, h2, h3⟩
  exact ⟨h1, xs, h2.trans hp, h3⟩
end
end Go.Eng
namespace Go.Proofs.Ytkjhccpanedccaa
set_option linter.unusedVariables false
set_option linter.unusedSimpArgs false
open Go Go.RowKit Go.Shelf Go.Proofs

attribute [local go_sem] Oper.semAt_some

def upTo {α : Type} (f : Nat → α) (k : Nat) : List α := (List.range k).map f
theorem upTo_succ {α : Type} (f : Nat → α) (k : Nat) : upTo f (k + 1) = upTo f k ++ [f k] := by simp [upTo, List.range_succ]
theorem upTo_length {α : Type} (f : Nat → α) (k : Nat) : (upTo f k).length = k := by simp [upTo]
theorem upTo_all (zs : List Int) : upTo (fun j => zs[j]?.getD 0) zs.length = zs := by
  apply List.ext_getElem
  · simp [upTo]
  · intro i h1 h2
    simp [upTo, h2]
set_option maxRecDepth 100000 in
set_option maxHeartbeats 2000000 in
theorem values1_in (F : Fence) (n : Nat) (h7 : F.fn 87) (hro : F.round = none) (hn : 1 ≤ n) (l Bs n₀ b off len cap : Nat) (zs : List Int) (hreach : len * 8 ≤ 140737488351232) (hb : b < n₀) (J : List Int → World → Prop)
    (w : World) (hJB : ∀ pre W1, J pre W1 → Below n₀ w W1)
    (hY : ∀ pre x W, J pre W → pre.length < len → YieldAt F (n - 1) Try.prog l #[.int .i64 x] W fun e W' => e = .returned (.bool true) ∧ J (pre ++ [x]) W' ∧ KeepsWalks W W')
    (W : World) (hBs : W.cell? ⟨Bs, 0, none⟩ = some (.slice (some ⟨b, off, none⟩) len cap)) (hc : ∀ j, j < len → w.cell? ⟨b, off + j, none⟩ = some (.int .i64 (zs[j]?.getD 0))) (h0 : J [] W) :
    CallsIn F n Try.prog 87 #[.func (.yield l) #[] #[], .pointer (some ⟨Bs, 0, none⟩)] W fun e W' => (∃ v, e = .returned v) ∧ J (upTo (fun j => zs[j]?.getD 0) len) W' := by
  refine callsIn_of_wp Try.func87 rfl h7 ?_ hro
  simp only [Try.ntmps87, List.size_toArray, List.length_cons, List.length_nil, Nat.reduceAdd, Nat.reduceSub, Array.replicate_succ, Array.replicate_zero, List.push_toArray, List.append_toArray, List.nil_append, List.cons_append]
  gi_wp2
  gi_loopw [7] (fun i wr => ∃ k : Nat, k ≤ len ∧ i = .int .i64 k ∧ J (upTo (fun j => zs[j]?.getD 0) k) wr)
    (fun i _ => len - (intOf i).toNat)
  case atStart => exact ⟨0, Nat.zero_le _, rfl, h0⟩
  case round =>
    obtain ⟨k, hk, rfl, hJs⟩ := hrel
    have hnx := hJB _ _ hJs
    have hcx : k < len → wr.cell? ⟨b, off + k, none⟩ = some (.int .i64 (zs[k]?.getD 0)) := fun h => (hnx.cell (p := ⟨b, off + k, none⟩) hb).trans (hc k h)
    by_cases hlt : k < len
    · obtain ⟨fn, tmps, assign, body, hy, hR⟩ := hY _ (zs[k]?.getD 0) wr hJs (by rw [upTo_length]; exact hlt)
      have hcx' := hcx hlt
      gi_wp2
      refine hR.mono ?_
      rintro e W3 ⟨rfl, hJ3, hk3⟩
      gi_wp2
      go_roundw
      case rel => exact ⟨k + 1, by omega, by simp, by rw [upTo_succ]; exact hJ3⟩
      case measure => simp [intOf]; omega
    · obtain rfl : k = len := by omega
      gi_wp2
      go_end0
      exact ⟨⟨_, rfl⟩, hJs⟩
end Go.Proofs.Ytkjhccpanedccaa
namespace Go.Proofs.Ytkjhccpanedccaa
set_option linter.unusedVariables false
set_option linter.unusedSimpArgs false
open Go Go.RowKit Go.Shelf Go.Proofs Go.Sort Go.Eng Go.Maps
section
variable {P : Program} {ρ : Ren}
/-- an iterator that gives what it gives as long as the rounds keep what lay at w -/
def SeqB (F : Fence) (n : Nat) (P : Program) (g : Nat) (lb : Array Value) (S : List Int → Prop) (N : Nat) (w : World) : Prop :=
  ∀ (l : Nat) (J : List Int → World → Prop) (W : World), (∀ pre W1, J pre W1 → Below w.heap.size w W1) →
    (∀ pre x W1, J pre W1 → pre.length < N → YieldAt F (n - 1) P l #[encZ x] W1 fun e W' => e = .returned (.bool true) ∧ J (pre ++ [x]) W' ∧ KeepsWalks W1 W') →
    J [] W → CallsIn F n P g (#[.func (.yield l) #[] #[]] ++ lb) W fun e W' => (∃ v, e = .returned v) ∧ ∃ xs, S xs ∧ J xs W'
theorem SeqB.later {F : Fence} {n : Nat} {g : Nat} {lb : Array Value} {S : List Int → Prop} {N : Nat} {w w' : World} (h : SeqB F n P g lb S N w) (hb : Below w.heap.size w w') : SeqB F n P g lb S N w' :=
  fun l J W hJ hY h0 => h l J W (fun pre W1 hj => hb.trans ((hJ pre W1 hj).mono hb.size)) hY h0
set_option maxRecDepth 100000 in
set_option maxHeartbeats 2000000 in
/-- slices.AppendSeq(nil, seq) over such an iterator; the rounds are the library's own -/
theorem appendB_in (L : SlLaysZI.n11 P ρ) (n : Nat) (hn : 2 ≤ n) (g : Nat) (lb : Array Value) (eg : ∀ args w, (callFunc g args).run P w = .ok (.enter g args) w)
    (S : List Int → Prop) (N : Nat) (hN : N ≤ maxLen) (hNb : N * 8 ≤ 140737488355328) (w : World) (hseq : SeqB Fence.wide (n - 1) P g lb S N w) :
    CallsIn Fence.wide n P (ρ.f 11) #[.slice none 0 0, .func (.func g) #[] lb] w fun e w' => ∃ (v : Value) (ss : List Int), e = .returned v ∧ S ss ∧ w'.ownsRow w.heap.size (ρ.t 26) 1 v ss.length (ss.map encZ) ∧ (v = .slice none 0 0 ↔ ss = []) ∧ Below w.heap.size w w' := by
  have mixed := L.mixed; have t24 := L.t24; have a24 := L.a24; have z24 := L.z24; have v24 := L.v24; have t0 := L.t0; have a0 := L.a0; have z0 := L.z0; have v0 := L.v0; have t26 := L.t26; have a26 := L.a26; have z26 := L.z26; have v26 := L.v26; have t28 := L.t28; have a28 := L.a28; have z28 := L.z28; have v28 := L.v28
  have hne : ρ.t 24 ≠ ρ.t 26 := fun e => by have h := L.t24; rw [e, L.t26] at h; cases h
  have u0 := run_underlying L.t0; have u24 := run_underlying L.t24; have u26 := run_underlying L.t26; have u28 := run_underlying L.t28
  obtain ⟨_, _, FG⟩ := L.f11
  refine callsIn_of_wp_marks FG rfl trivial ?_ rfl
  simp only [SlBodyZ.n11_ntmps ρ, List.size_toArray, List.length_cons, List.length_nil, Nat.reduceAdd, Nat.reduceSub, Array.replicate_succ, Array.replicate_zero, List.push_toArray, List.append_toArray, List.nil_append, List.cons_append]
  gi_wp2
  refine wpIn_rangeFunc ?_
  intro fn hfn
  rw [show Fence.wide.round = none from rfl]
  generalize hA : w.alloc (.cells #[.slice none 0 0] (ρ.t 24)) = A
  have sA : A.heap.size = w.heap.size + 1 := by rw [← hA]; simp
  have bA : Below w.heap.size w A := by rw [← hA]; exact (Below.refl _ w).alloc (Nat.le_refl _) _
  have vA : A.heap[w.heap.size]? = some (.cells #[.slice none 0 0] (ρ.t 24) (0, 0)) := by rw [← hA]; exact World.alloc_heap_new w _
  generalize hB : (A.alloc (.deferred (some []))).alloc (.loop (AnyZI.apRec ρ fn (.func (.func g) #[] lb) w.heap.size A.heap.size .ready none)) = B
  have kB : ∀ k, k < A.heap.size → B.heap[k]? = A.heap[k]? := fun k hk => by
    rw [← hB]; exact (Below.heap_alloc _ _ k (by simp; omega)).trans (Below.heap_alloc _ _ k hk)
  have bB : Below w.heap.size w B := by rw [← hB]; exact (bA.alloc bA.size _).alloc (by have := bA.size; simp; omega) _
  have lB : B.heap[A.heap.size + 1]? = some (.loop (AnyZI.apRec ρ fn (.func (.func g) #[] lb) w.heap.size A.heap.size .ready none)) := by
    rw [← hB]
    have := World.alloc_heap_new (A.alloc (.deferred (some []))) (.loop (AnyZI.apRec ρ fn (.func (.func g) #[] lb) w.heap.size A.heap.size .ready none))
    rwa [World.size_alloc] at this
  have dB : B.heap[A.heap.size]? = some (.deferred (some [])) := by rw [← hB]; exact (Below.heap_alloc _ _ _ (by simp)).trans (World.alloc_heap_new A _)
  have start : AnyZI.ApAt ρ w fn (.func (.func g) #[] lb) w.heap.size (A.heap.size + 1) A.heap.size [] B :=
    ⟨⟨_, (kB _ (by omega)).trans vA, ⟨rfl, .inl ⟨rfl, rfl⟩⟩, by simp⟩, lB, dB, bB⟩
  refine ⟨A.heap.size + 1, [{ target := .collected A.heap.size, args := #[] }], B, { target := .fn (.func g) lb, args := #[.func (.yield (A.heap.size + 1)) #[] #[]] }, B, g,
    #[.func (.yield (A.heap.size + 1)) #[] #[]] ++ lb, B, ?_, ?_, ?_, ?_, fun _ => by omega, ?_⟩
  · rw [← hB]; exact run_enterLoop_outer _ _ _ _ _
  · simp [resolve, go_sem]
  · intro f' hf'; trivial
  · simp [invoke, go_sem, eg]
  · refine (hseq (A.heap.size + 1) (AnyZI.ApAt ρ w fn (.func (.func g) #[] lb) w.heap.size (A.heap.size + 1) A.heap.size) B (fun pre W h => h.below)
      (fun pre x W hJ hl => AnyZI.apYield { L with } Fence.wide (n - 1 - 1) w fn hfn _ w.heap.size (A.heap.size + 1) A.heap.size (by omega) (by omega) (by omega) (Nat.le_refl _) (by omega) N hN hNb pre x W hJ hl) start).mono ?_
    rintro e C ⟨⟨r, rfl⟩, ss, hS, hC⟩
    obtain ⟨v, hv, hrow, hnil⟩ := hC.box
    have hend := run_endLoop (P := P) hC.L (by simp [AnyZI.apRec])
    generalize hE : C.putObj (A.heap.size + 1) (.loop { AnyZI.apRec ρ fn (.func (.func g) #[] lb) w.heap.size A.heap.size .ready none with state := .exhausted }) = E at hend
    have gE : C.grownBy E (some (A.heap.size + 1)) := by rw [← hE]; exact grownBy_putObj_a _ _ _
    have vE : E.heap[w.heap.size]? = some (.cells #[v] (ρ.t 24) (0, 0)) := by rw [← hE]; exact (World.putObj_heap_other (by omega)).trans hv
    have dE : E.heap[A.heap.size]? = some (.deferred (some [])) := by rw [← hE]; exact (World.putObj_heap_other (by omega)).trans hC.K
    have rE := hrow.kept gE (ownsRow_ne_a hrow hC.L (fun cur e => by first | cases e | exact hne (Obj.cells.inj e).2.1))
    have bE : Below w.heap.size w E := hC.below.grown gE hC.below.size (fun k e => by cases e; omega)
    obtain ⟨cE, fE⟩ := cell_of_box_a vE
    clear hE
    refine ⟨none, E, hend, ?_⟩
    gi_wp2
    rw [← sA]
    refine ⟨by simp, .inl ⟨_, _, rfl, run_takeDeferred dE, ?_⟩⟩
    exact ⟨_, results_tmp rfl _ _ _, v, ss, rfl, hS, rE.kept (grownBy_putObj_a _ _ _) (ownsRow_ne_a rE dE (fun cur e => by first | cases e | exact hne (Obj.cells.inj e).2.1)), hnil, bE.grown (grownBy_putObj_a _ _ _) bE.size (fun k e => by cases e; omega)⟩
set_option maxHeartbeats 1000000 in
theorem collectB_in (L : SlLaysZI.n8 P ρ) (n : Nat) (hn : 3 ≤ n) (g : Nat) (lb : Array Value) (eg : ∀ args w, (callFunc g args).run P w = .ok (.enter g args) w)
    (S : List Int → Prop) (N : Nat) (hN : N ≤ maxLen) (hNb : N * 8 ≤ 140737488355328) (w : World) (hseq : SeqB Fence.wide (n - 1 - 1) P g lb S N w) :
    CallsIn Fence.wide n P (ρ.f 8) #[.func (.func g) #[] lb] w fun e w' => ∃ (v : Value) (ss : List Int), e = .returned v ∧ S ss ∧ w'.ownsRow w.heap.size (ρ.t 26) 1 v ss.length (ss.map encZ) ∧ (v = .slice none 0 0 ↔ ss = []) ∧ Below w.heap.size w w' := by
  have h1 : 1 ≤ n := by omega
  have e11 : ∀ args w, (callFunc (ρ.f 11) args).run P w = .ok (.enter (ρ.f 11) args) w := L.f11.enters rfl
  have hF11 : Fence.wide.fn (ρ.f 11) := trivial
  obtain ⟨_, _, FG⟩ := L.f8
  refine callsIn_of_wp FG rfl trivial ?_ rfl
  simp only [SlBodyZ.n8_ntmps ρ, List.size_toArray, List.length_cons, List.length_nil, Nat.reduceAdd, Nat.reduceSub, Array.replicate_succ, Array.replicate_zero, List.push_toArray, List.append_toArray, List.nil_append, List.cons_append]
  gi_wp2_with (gi_at_fn (ρ.f 11); refine (appendB_in { L with } (n - 1) (by omega) g lb eg S N hN hNb _ hseq).mono ?_; rintro e w' ⟨v, ss, rfl, hS, hrow, hnil, hb⟩)
  go_ret
  exact ⟨v, ss, rfl, hS, hrow, hnil, hb⟩
set_option maxRecDepth 100000 in
set_option maxHeartbeats 2000000 in
theorem sortedB_in (L : SlLaysZI.n6 P ρ) (n : Nat) (hn : 4 ≤ n) (hsort : AnyZI.SortsIn P ρ Fence.wide (n - 1)) (e9 : ∀ args w, (callFunc (ρ.f 9) args).run P w = .ok (.enter (ρ.f 9) args) w) (g : Nat) (lb : Array Value) (eg : ∀ args w, (callFunc g args).run P w = .ok (.enter g args) w)
    (S : List Int → Prop) (N : Nat) (hN : N ≤ maxLen) (hNb : N * 8 ≤ 140737488355328) (w : World) (hseq : SeqB Fence.wide (n - 1 - 1 - 1) P g lb S N w) (hSN : ∀ ss, S ss → ss.length ≤ N) :
    CallsIn Fence.wide n P (ρ.f 6) #[.func (.func g) #[] lb] w fun e w' => ∃ (v : Value) (ss : List Int), e = .returned v ∧ S ss ∧
      w'.ownsRow w.heap.size (ρ.t 26) 1 v ss.length ((ss.mergeSort (fun x y => decide (x ≤ y))).map encZ) ∧ Below w.heap.size w w' := by
  have h1 : 1 ≤ n := by omega
  have hF8 : Fence.wide.fn (ρ.f 8) := trivial
  have hF9 : Fence.wide.fn (ρ.f 9) := trivial
  have e8 : ∀ args w, (callFunc (ρ.f 8) args).run P w = .ok (.enter (ρ.f 8) args) w := L.f8.enters rfl
  obtain ⟨_, _, FG⟩ := L.f6
  refine callsIn_of_wp FG rfl trivial ?_ rfl
  simp only [SlBodyZ.n6_ntmps ρ, List.size_toArray, List.length_cons, List.length_nil, Nat.reduceAdd, Nat.reduceSub, Array.replicate_succ, Array.replicate_zero, List.push_toArray, List.append_toArray, List.nil_append, List.cons_append]
  gi_wp2_with (gi_at_fn (ρ.f 8); refine (collectB_in { L with } (n - 1) (by omega) g lb eg S N hN hNb _ hseq).mono ?_; rintro e W ⟨v, ss, rfl, hS, hrow, hnil, hb⟩)
  have hlen := hSN ss hS
  rcases hrow.2 with ⟨rfl, hz⟩ | ⟨gb, cap, cur, rfl, hbase, hgb, r1, r2, r3, r4⟩
  · have hss : ss = [] := List.eq_nil_of_length_eq_zero hz
    subst hss
    gi_wp2_with (gi_at_fn (ρ.f 9); refine (hsort.2 none 0 W).mono ?_; rintro e w' ⟨rfl, rfl⟩)
    go_ret
    exact ⟨.slice none 0 0, [], rfl, hS, by simpa using hrow, hb⟩
  · have hH : Holds encZ W gb 0 ss.toArray := holds_of_block_i hgb (by simpa using r4)
    have cS := hsort.1 gb 0 cap ss W hH (Array.getElem?_eq_some_iff.1 hgb).1 (by omega)
    gi_wp2_with (gi_at_fn (ρ.f 9); refine cS.mono ?_; rintro e w' ⟨rfl, nn, os, rfl⟩)
    go_ret
    exact ⟨_, ss, rfl, hS, ownsRow_sorted_i (by simp) hbase hgb r1 r2 r3, hb.grown (grownBy_sorted_i _) hb.size (fun j hj => by cases hj; exact hbase)⟩
end
theorem valuesB (n : Nat) (hn : 1 ≤ n) {Bs b off cap : Nat} {zs : List Int} {w : World} (hreach : zs.length * 8 ≤ 140737488351232) (hb : b < w.heap.size) (hBl : Bs < w.heap.size)
    (hBs : w.cell? ⟨Bs, 0, none⟩ = some (.slice (some ⟨b, off, none⟩) zs.length cap)) (hc : ∀ j, j < zs.length → w.cell? ⟨b, off + j, none⟩ = some (.int .i64 (zs[j]?.getD 0))) :
    SeqB Fence.wide n Try.prog 87 #[.pointer (some ⟨Bs, 0, none⟩)] (fun ys => ys = zs) zs.length w := fun l J W hJ hY h0 => by
  have hW := hJ [] W h0
  refine (values1_in Fence.wide n trivial rfl hn l Bs w.heap.size b off zs.length cap zs hreach hb J w hJ hY W ((hW.cell (p := ⟨Bs, 0, none⟩) hBl).trans hBs) hc h0).mono ?_
  rintro e W' ⟨h1, h2⟩
  exact ⟨h1, _, upTo_all zs, h2⟩
section
variable {W0 W : World} {L : List Asn}
theorem rowsI : ∀ l : List Int, I64.rows l = l.map (Value.int .i64)
  | [] => rfl
  | a :: l => by rw [Ly.rows_cons, rowsI l]; rfl
theorem sortedVals {a : Option Addr} {c : Nat} {zs : List Int} {k : Value → World → Prop} (h : St W0 L W) (h0 : W0.drawn = 0) [hr : Rd W0 L a I64 zs] (hz : zs ≠ []) (hl : zs.length < 1000000)
    (hk : ∀ a' c' W', St W0 (arr I64 T_int a' c' (zs.mergeSort fun x y => decide (x ≤ y)) :: L) W' → k (.slice a' (zs.mergeSort fun x y => decide (x ≤ y)).length c') W') :
    callK PR F_slices_Values_int_int [.slice a zs.length c] (fun v W => callK PR F_slices_Sorted_int [v] k W) W := by
  apply S.slices_Values_int_int.call
  unfold S.slices_Values_int_int.body
  refine bx h fun b W1 h => ?_
  have h : St W0 (cells b [.slice a zs.length c] T_s_int :: L) W1 := h
  obtain ⟨g, o, rfl, hro⟩ := Rd.at (A := I64) (l := zs) (a := a) h hz
  have hbox : W1.cell? ⟨b, 0, none⟩ = some (.slice (some ⟨g, o, none⟩) zs.length c) := (St.cellOf (b := b) h 0 (by simp)).1
  have hrl : (I64.rows zs).length = zs.length := by rw [Ly.rows_len, show I64.sz = 1 from rfl, Nat.mul_one]
  have hrows := rowsI zs
  have hcell : ∀ j, j < zs.length → W1.cell? ⟨g, o + j, none⟩ = some (.int .i64 (zs[j]?.getD 0)) := fun j hj => by
    rw [hro j (by rw [hrl]; exact hj), hrows, List.getElem?_map, List.getElem?_eq_getElem hj]; rfl
  have lt_of : ∀ {p : Addr} {v : Value}, W1.cell? p = some v → p.block < W1.heap.size := fun {p v} e => by
    refine Classical.byContradiction fun hn => ?_
    have : W1.heap[p.block]? = none := Array.getElem?_eq_none (by omega)
    simp [World.cell?, this] at e
  have hpos : 0 < zs.length := List.length_pos_iff.2 hz
  have hg : g < W1.heap.size := lt_of (hcell 0 hpos)
  have hb : b < W1.heap.size := lt_of hbox
  have cS := sortedB_in laySorted 5 (by omega) (sortsI (ρ' := laySortI_ren) laySortI rfl _) (fun args w => callFunc_ok (CBok _ (by kernel_rfl)) w) F_slices_Values_int_int_1 #[.pointer (some ⟨b, 0, none⟩)] (fun args w => callFunc_ok (CBok _ (by kernel_rfl)) w)
    (fun ys => ys = zs) zs.length (by simp only [maxLen]; omega) (by omega) W1 (valuesB 2 (by omega) (by omega) hg hb hbox hcell) (fun ss e => by rw [e]; exact Nat.le_refl _)
  refine Calls.mono (callsIn_wide.1 cS) ?_
  rintro ed w' ⟨v, ss, rfl, rfl, hrow, hbl⟩
  have hml : ss.length = (ss.mergeSort fun x y => decide (x ≤ y)).length := (List.length_mergeSort _).symm
  rw [hml] at hrow
  obtain ⟨a', c', rfl, h2⟩ := h.ownRow h0 hbl hrow
  exact hk a' c' w' (St.perm h2 (List.Perm.swap _ _ _)).drop
end
end Go.Proofs.Ytkjhccpanedccaa
namespace Go.Tar
set_option linter.unusedVariables false
set_option linter.unusedSimpArgs false
inductive Rch (on : List (List Int)) : Int → Int → Prop
  | refl (x : Int) : Rch on x x
  | step {x y z : Int} : Rch on x y → z ∈ on.getD y.toNat [] → Rch on x z
structure Fs where
  num : List Int
  low : List Int
  stack : List Int
  opn : List Bool
  next : Int
  groups : List (List Int)
def rowOf (on : List (List Int)) (v : Int) : List Int := on.getD v.toNat []
def Fs.nm (s : Fs) (v : Int) : Int := s.num.getD v.toNat 0
def Fs.lw (s : Fs) (v : Int) : Int := s.low.getD v.toNat 0
def Fs.op (s : Fs) (v : Int) : Bool := s.opn.getD v.toNat false
def sortZ (l : List Int) : List Int := isort (fun x y => decide (x ≤ y)) l
theorem sortZ_perm (l : List Int) : (sortZ l).Perm l := isort_perm l
theorem sortZ_sorted (l : List Int) : (sortZ l).Pairwise (· ≤ ·) :=
  (isort_sorted (fun a b c h1 h2 => by simp only [decide_eq_true_eq] at *; omega) (fun a b => by simp only [Bool.or_eq_true, decide_eq_true_eq]; omega) l).imp fun {a b} h => by simpa using h
theorem sortZ_merge (l : List Int) : l.mergeSort (fun x y => decide (x ≤ y)) = sortZ l :=
  List.Perm.eq_of_pairwise (le := fun (x y : Int) => x ≤ y) (fun a b _ _ g1 g2 => by omega) ((List.pairwise_mergeSort (fun a b c h1 h2 => by simp only [decide_eq_true_eq] at *; omega) (fun a b => by simp only [Bool.or_eq_true, decide_eq_true_eq]; omega) l).imp fun {a b} h => by simpa using h) (sortZ_sorted l) ((List.mergeSort_perm _ _).trans (sortZ_perm l).symm)
def enterF (v : Int) (s : Fs) : Fs := { s with next := s.next + 1, num := s.num.set v.toNat (s.next + 1), low := s.low.set v.toNat (s.next + 1), stack := s.stack ++ [v], opn := s.opn.set v.toNat true }
def lowF (v x : Int) (s : Fs) : Fs := { s with low := s.low.set v.toNat (min (s.lw v) x) }
def shutF (o : List Bool) (g : List Int) : List Bool := g.foldl (fun o u => o.set u.toNat false) o
def closeF (v : Int) (s : Fs) : Fs :=
  if s.lw v ≠ s.nm v then s
  else { s with stack := s.stack.take (s.stack.idxOf v), opn := shutF s.opn (sortZ (s.stack.drop (s.stack.idxOf v))), groups := s.groups ++ [sortZ (s.stack.drop (s.stack.idxOf v))] }
def stepF (rec : Int → Fs → Fs) (v : Int) (s : Fs) (u : Int) : Fs :=
  if s.nm u = 0 then lowF v ((rec u s).lw u) (rec u s) else if s.op u then lowF v (s.nm u) s else s
def visitF (on : List (List Int)) : Nat → Int → Fs → Fs
  | 0, _, s => s
  | f + 1, v, s => closeF v ((rowOf on v).foldl (stepF (visitF on f) v) (enterF v s))
def Vx (n : Nat) (v : Int) : Prop := 0 ≤ v ∧ v < n
structure OnOk (on : List (List Int)) (n : Nat) : Prop where
  len : on.length = n
  rng : ∀ v, ∀ u ∈ rowOf on v, Vx n u
structure Tj (on : List (List Int)) (n : Nat) (G : List Int) (s : Fs) : Prop where
  ln : s.num.length = n
  ll : s.low.length = n
  lo : s.opn.length = n
  cnt : (s.num.count 0 : Int) + s.next = n
  nn : ∀ v, 0 ≤ s.nm v ∧ s.nm v ≤ s.next
  vis : ∀ v, Vx n v → (s.nm v ≠ 0 ↔ v ∈ s.groups.flatten ∨ v ∈ s.stack)
  rng : ∀ v, v ∈ s.groups.flatten ∨ v ∈ s.stack → Vx n v
  nd : (s.groups.flatten ++ s.stack).Nodup
  opn : ∀ v, Vx n v → (s.op v = true ↔ v ∈ s.stack)
  srt : s.stack.Pairwise fun a b => s.nm a < s.nm b
  gs : ∀ v ∈ G, v ∈ s.stack
  blk : ∀ v, v ∈ s.groups.flatten ∨ v ∈ s.stack → v ∉ G → ∀ u ∈ rowOf on v, s.nm u ≠ 0
  cls : ∀ i, ∀ v ∈ s.groups.getD i [], ∀ u ∈ rowOf on v, u ∈ (s.groups.take (i + 1)).flatten
  fwd : ∀ x ∈ G, ∀ y ∈ s.stack, s.nm x ≤ s.nm y → Rch on x y
  bwd : ∀ y ∈ s.stack, ∃ x ∈ G, s.nm x ≤ s.nm y ∧ Rch on y x
  scc : ∀ g ∈ s.groups, ∀ x ∈ g, ∀ y ∈ g, Rch on x y
  gok : ∀ g ∈ s.groups, g ≠ [] ∧ g.Pairwise (· ≤ ·)
section
variable {on : List (List Int)} {n : Nat} {G : List Int} {s t : Fs} {v u x y z : Int}
theorem Rch.one (h : z ∈ rowOf on y) : Rch on y z := .step (.refl y) h
theorem Rch.trans (h1 : Rch on x y) (h2 : Rch on y z) : Rch on x z := by
  induction h2 with
  | refl => exact h1
  | step _ h ih => exact .step ih h
theorem Rch.stay {C : Int → Prop} (hC : ∀ a, C a → ∀ b ∈ rowOf on a, C b) (h : Rch on x y) (hx : C x) : C y := by
  induction h with
  | refl => exact hx
  | step _ h ih => exact hC _ ih _ h
theorem setAt {α : Type} {l : List α} {d a : α} (hl : l.length = n) (hv : Vx n v) (hu : Vx n u) : (l.set v.toNat a).getD u.toNat d = if u = v then a else l.getD u.toNat d := by
  unfold Vx at *
  simp only [List.getD_eq_getElem?_getD]
  by_cases h : u = v
  · subst h
    rw [if_pos rfl, List.getElem?_set_self (by omega)]; rfl
  · rw [if_neg h, List.getElem?_set_ne (by omega)]
theorem setAt2 {α : Type} {l : List α} {d a : α} {i : Nat} : (l.set v.toNat a).getD i d = a ∨ (l.set v.toNat a).getD i d = l.getD i d := by
  simp only [List.getD_eq_getElem?_getD]
  by_cases h : v.toNat = i
  · subst h
    by_cases h2 : v.toNat < l.length
    · left; rw [List.getElem?_set_self h2]; rfl
    · right; rw [List.set_eq_of_length_le (by omega)]
  · right; rw [List.getElem?_set_ne h]
theorem count_set : ∀ (l : List Int) (i : Nat) (a : Int), i < l.length → l.getD i 0 = 0 → a ≠ 0 → (l.set i a).count 0 + 1 = l.count 0
  | [], _, _, h, _, _ => by simp at h
  | b :: l, 0, a, _, h0, ha => by
    have hb : b = 0 := by simpa using h0
    subst hb
    rw [List.set_cons_zero, List.count_cons_self, List.count_cons_of_ne ha]
  | b :: l, i + 1, a, h, h0, ha => by
    have ih := count_set l i a (by simpa using h) (by simpa using h0) ha
    rw [List.set_cons_succ, List.count_cons, List.count_cons]
    omega
theorem shut_len : ∀ (g : List Int) (o : List Bool), (shutF o g).length = o.length
  | [], o => rfl
  | u :: g, o => by unfold shutF; rw [List.foldl_cons]; exact (shut_len g _).trans (by simp)
theorem shut_at (hu : Vx n u) : ∀ (g : List Int) (o : List Bool), o.length = n → (∀ x ∈ g, Vx n x) → ((shutF o g).getD u.toNat false = true ↔ o.getD u.toNat false = true ∧ u ∉ g)
  | [], o, _, _ => by simp [shutF]
  | a :: g, o, ho, hg => by
    have h1 : shutF o (a :: g) = shutF (o.set a.toNat false) g := rfl
    rw [h1, shut_at hu g _ (by simpa using ho) (fun x hx => hg x (by simp [hx])), setAt ho (hg a (by simp)) hu]
    by_cases h : u = a <;> simp [h]
/-- what a visit leaves behind -/
structure Vd (on : List (List Int)) (n : Nat) (G : List Int) (s : Fs) (v : Int) (t : Fs) : Prop where
  tj : Tj on n G t
  ext : ∃ e, t.stack = s.stack ++ e ∧ (∀ y ∈ e, ∀ z ∈ rowOf on y, z ∈ s.stack → t.lw v ≤ s.nm z) ∧ (e ≠ [] → ∃ z ∈ s.stack, s.nm z = t.lw v ∧ Rch on v z) ∧ (e = [] → s.next < t.lw v)
  old : ∀ x, Vx n x → s.nm x ≠ 0 → t.nm x = s.nm x ∧ t.lw x = s.lw x
  now : t.nm v ≠ 0
  nxt : s.next + 1 ≤ t.next
  more : ∃ m, t.groups = s.groups ++ m
/-- within a visit, behind some of what it hangs on; b: a bound of what lies below -/
structure LpB (on : List (List Int)) (n : Nat) (G : List Int) (s : Fs) (v : Int) (t : Fs) (done : List Int) (b : Int) : Prop where
  tj : Tj on n (G ++ [v]) t
  ext : ∃ e, t.stack = s.stack ++ v :: e ∧ ∀ y ∈ e, ∀ z ∈ rowOf on y, z ∈ s.stack → b ≤ s.nm z
  wit : ∃ z ∈ t.stack, t.nm z = t.lw v ∧ Rch on v z
  old : ∀ x, Vx n x → s.nm x ≠ 0 → t.nm x = s.nm x ∧ t.lw x = s.lw x
  now : t.nm v = s.next + 1
  low : t.lw v ≤ t.nm v
  did : ∀ u ∈ done, Vx n u ∧ t.nm u ≠ 0 ∧ (u ∈ s.stack → b ≤ s.nm u)
  nxt : s.next + 1 ≤ t.next
  more : ∃ m, t.groups = s.groups ++ m
abbrev Lp (on : List (List Int)) (n : Nat) (G : List Int) (s : Fs) (v : Int) (t : Fs) (done : List Int) : Prop := LpB on n G s v t done (t.lw v)
theorem Tj.white (h : Tj on n G s) (hv : Vx n v) (h0 : s.nm v = 0) : v ∉ s.groups.flatten ∧ v ∉ s.stack := by
  have := h.vis v hv
  constructor <;> intro h2 <;> exact absurd h0 (this.2 (by simp [h2]))
theorem enter_lp (h : Tj on n G s) (hv : Vx n v) (h0 : s.nm v = 0) (hr : ∀ x ∈ G, Rch on x v) : Lp on n G s v (enterF v s) [] := by
  obtain ⟨w1, w2⟩ := h.white hv h0
  have hnm : ∀ u, Vx n u → (enterF v s).nm u = if u = v then s.next + 1 else s.nm u := fun u hu => setAt h.ln hv hu
  have hlw : ∀ u, Vx n u → (enterF v s).lw u = if u = v then s.next + 1 else s.lw u := fun u hu => setAt h.ll hv hu
  have hop : ∀ u, Vx n u → (enterF v s).op u = if u = v then true else s.op u := fun u hu => setAt h.lo hv hu
  have nx := (h.nn v).1
  have nx0 : 0 ≤ s.next := by have := h.nn v; omega
  have stkV : ∀ y ∈ s.stack, Vx n y ∧ y ≠ v := fun y hy => ⟨h.rng y (.inr hy), fun e => w2 (e ▸ hy)⟩
  have nv : (enterF v s).nm v = s.next + 1 := by rw [hnm v hv, if_pos rfl]
  have no : ∀ y, Vx n y → y ≠ v → (enterF v s).nm y = s.nm y := fun y hy hne => by rw [hnm y hy, if_neg hne]
  have hgv : ∀ x ∈ G, x ≠ v := fun x hx => (stkV x (h.gs x hx)).2
  refine ⟨⟨?_, ?_, ?_, ?_, ?_, ?_, ?_, ?_, ?_, ?_, ?_, ?_, h.cls, ?_, ?_, h.scc, h.gok⟩, ⟨[], rfl, by simp⟩, ⟨v, by simp [enterF], by rw [nv, hlw v hv, if_pos rfl], .refl v⟩, ?_, nv, by rw [nv, hlw v hv, if_pos rfl]; omega, by simp, by show s.next + 1 ≤ s.next + 1; omega, ⟨[], by simp [enterF]⟩⟩
  · simp [enterF, h.ln]
  · simp [enterF, h.ll]
  · simp [enterF, h.lo]
  · have hvl : v.toNat < s.num.length := by rw [h.ln]; unfold Vx at hv; omega
    have := count_set s.num v.toNat (s.next + 1) hvl h0 (by omega)
    have h2 := h.cnt
    show ((s.num.set v.toNat (s.next + 1)).count 0 : Int) + (s.next + 1) = n
    omega
  · intro u
    have h2 := h.nn u
    show 0 ≤ (s.num.set v.toNat (s.next + 1)).getD u.toNat 0 ∧ (s.num.set v.toNat (s.next + 1)).getD u.toNat 0 ≤ s.next + 1
    rcases setAt2 (l := s.num) (v := v) (d := 0) (a := s.next + 1) (i := u.toNat) with e | e <;> rw [e]
    · omega
    · unfold Fs.nm at h2; omega
  · intro u hu
    rw [hnm u hu]
    show _ ↔ u ∈ s.groups.flatten ∨ u ∈ s.stack ++ [v]
    by_cases e : u = v
    · rw [if_pos e]; simp [e]; omega
    · rw [if_neg e, h.vis u hu]; simp [e]
  · intro u hu
    rcases hu with hu | hu
    · exact h.rng u (.inl hu)
    · rcases List.mem_append.1 hu with hu | hu
      · exact h.rng u (.inr hu)
      · rw [List.mem_singleton.1 hu]; exact hv
  · show (s.groups.flatten ++ (s.stack ++ [v])).Nodup
    rw [← List.append_assoc, List.nodup_append]
    refine ⟨h.nd, by simp, fun a ha b hb e => ?_⟩
    rw [List.mem_singleton] at hb
    subst hb; subst e
    rcases List.mem_append.1 ha with h3 | h3
    · exact w1 h3
    · exact w2 h3
  · intro u hu
    rw [hop u hu]
    show _ ↔ u ∈ s.stack ++ [v]
    by_cases e : u = v
    · simp [e]
    · rw [if_neg e, h.opn u hu]; simp [e]
  · show (s.stack ++ [v]).Pairwise _
    rw [List.pairwise_append]
    refine ⟨?_, by simp, fun a ha b hb => ?_⟩
    · refine List.Pairwise.imp_of_mem (fun {a b} ha hb hab => ?_) h.srt
      rw [no a (stkV a ha).1 (stkV a ha).2, no b (stkV b hb).1 (stkV b hb).2]; exact hab
    · rw [List.mem_singleton] at hb
      subst hb
      rw [nv, no a (stkV a ha).1 (stkV a ha).2]
      have := h.nn a; omega
  · intro u hu
    show u ∈ s.stack ++ [v]
    rcases List.mem_append.1 hu with hu | hu
    · exact List.mem_append.2 (.inl (h.gs u hu))
    · exact List.mem_append.2 (.inr hu)
  · intro u hu hg w hw
    have hne : u ≠ v := fun e => hg (by simp [e])
    have hug : u ∉ G := fun e => hg (by simp [e])
    have hu' : u ∈ s.groups.flatten ∨ u ∈ s.stack := by
      rcases hu with hu | hu
      · exact .inl hu
      · rcases List.mem_append.1 hu with hu | hu
        · exact .inr hu
        · exact absurd (List.mem_singleton.1 hu) hne
    have h3 := h.blk u hu' hug w hw
    show (s.num.set v.toNat (s.next + 1)).getD w.toNat 0 ≠ 0
    rcases setAt2 (l := s.num) (v := v) (d := 0) (a := s.next + 1) (i := w.toNat) with e | e <;> rw [e]
    · omega
    · exact h3
  · intro a ha b hb hab
    rcases List.mem_append.1 ha with ha | ha
    · have hav := stkV a (h.gs a ha)
      rcases List.mem_append.1 hb with hb | hb
      · have hbv := stkV b hb
        rw [no a hav.1 hav.2, no b hbv.1 hbv.2] at hab
        exact h.fwd a ha b hb hab
      · rw [List.mem_singleton.1 hb]; exact hr a ha
    · rw [List.mem_singleton] at ha
      subst ha
      rcases List.mem_append.1 hb with hb | hb
      · have hbv := stkV b hb
        rw [nv, no b hbv.1 hbv.2] at hab
        have := h.nn b; omega
      · rw [List.mem_singleton.1 hb]; exact .refl _
  · intro b hb
    rcases List.mem_append.1 hb with hb | hb
    · obtain ⟨a, ha, h1, h2⟩ := h.bwd b hb
      have hbv := stkV b hb
      have hav := stkV a (h.gs a ha)
      exact ⟨a, by simp [ha], by rw [no a hav.1 hav.2, no b hbv.1 hbv.2]; exact h1, h2⟩
    · rw [List.mem_singleton.1 hb]; exact ⟨v, by simp, by omega, .refl v⟩
  · intro a ha hna
    have hne : a ≠ v := fun e => hna (e ▸ h0)
    exact ⟨no a ha hne, by rw [hlw a ha, if_neg hne]⟩
end
end Go.Tar
namespace Go.Tar
set_option linter.unusedVariables false
set_option linter.unusedSimpArgs false
section
variable {on : List (List Int)} {n : Nat} {G : List Int} {s t : Fs} {v u x y z : Int}
theorem Tj.low (h : Tj on n G s) {l : List Int} (hl : l.length = n) : Tj on n G { s with low := l } :=
  ⟨h.ln, hl, h.lo, h.cnt, h.nn, h.vis, h.rng, h.nd, h.opn, h.srt, h.gs, h.blk, h.cls, h.fwd, h.bwd, h.scc, h.gok⟩
theorem strict_len : ∀ (l : List Int) (a b : Int), l.Pairwise (· < ·) → (∀ x ∈ l, a ≤ x ∧ x < b) → a ≤ b → (l.length : Int) ≤ b - a
  | [], a, b, _, _, h => by simp; omega
  | x :: l, a, b, hp, hm, h => by
    rw [List.pairwise_cons] at hp
    have h1 := hm x (by simp)
    have := strict_len l (x + 1) b hp.2 (fun y hy => ⟨by have := hp.1 y hy; omega, (hm y (by simp [hy])).2⟩) (by omega)
    rw [List.length_cons]; omega
theorem nodup_len {l : List Int} (hn : l.Nodup) (h : ∀ x ∈ l, Vx n x) : l.length ≤ n := by
  have hp := sortZ_perm l
  have h1 : (sortZ l).Pairwise (· < ·) := by
    have h2 := sortZ_sorted l
    have h3 := hp.nodup_iff.2 hn
    exact (List.pairwise_and_iff.2 ⟨h2, h3⟩).imp fun {a b} hab => by have := hab.1; have := hab.2; omega
  have := strict_len _ 0 n h1 (fun x hx => h x (hp.mem_iff.1 hx)) (by omega)
  rw [hp.length_eq] at this; omega
theorem flat_len : ∀ gs : List (List Int), (∀ g ∈ gs, g ≠ []) → gs.length ≤ gs.flatten.length
  | [], _ => by simp
  | g :: gs, h => by
    have := flat_len gs fun x hx => h x (by simp [hx])
    have h1 : 0 < g.length := List.length_pos_iff.2 (h g (by simp))
    rw [List.flatten_cons, List.length_append, List.length_cons]; omega
theorem Tj.slen (h : Tj on n G s) : s.stack.length ≤ n := nodup_len (List.nodup_append.1 h.nd).2.1 fun x hx => h.rng x (.inr hx)
theorem Tj.glen (h : Tj on n G s) : s.groups.length ≤ n :=
  Nat.le_trans (flat_len _ fun g hg => (h.gok g hg).1) (nodup_len (List.nodup_append.1 h.nd).1 fun x hx => h.rng x (.inl hx))
theorem Tj.inj (h : Tj on n G s) {a b : Int} (ha : a ∈ s.stack) (hb : b ∈ s.stack) (e : s.nm a = s.nm b) : a = b := by
  have key : ∀ l : List Int, l.Pairwise (fun a b => s.nm a < s.nm b) → a ∈ l → b ∈ l → a = b := by
    intro l
    induction l with
    | nil => intro _ h; cases h
    | cons c l ih =>
      intro hp h1 h2
      rw [List.pairwise_cons] at hp
      rcases List.mem_cons.1 h1 with e1 | h1 <;> rcases List.mem_cons.1 h2 with e2 | h2
      · rw [e1, e2]
      · have := hp.1 b h2; rw [← e1] at this; omega
      · have := hp.1 a h1; rw [← e2] at this; omega
      · exact ih hp.2 h1 h2
  exact key _ h.srt ha hb
/-- what lies below v in the stack is numbered lower, and the other way round -/
theorem Lp.below {done : List Int} (h : Lp on n G s v t done) (hT : Tj on n G s) (hv : Vx n v) (h0 : s.nm v = 0) (hz : z ∈ t.stack) (hlt : t.nm z < t.nm v) : z ∈ s.stack := by
  obtain ⟨e, he, _⟩ := h.ext
  have hs := h.tj.srt
  rw [he] at hz hs
  rcases List.mem_append.1 hz with hz | hz
  · exact hz
  · rw [List.pairwise_append, List.pairwise_cons] at hs
    rcases List.mem_cons.1 hz with e | hz
    · subst e; omega
    · have := hs.2.1.1 z hz; omega
theorem low_lp {done : List Int} {u x : Int} (h : LpB on n G s v t done (min (t.lw v) x)) (hv : Vx n v) (h0 : s.nm v = 0) (hux : Vx n u) (hu : t.nm u ≠ 0) (hx : x < t.lw v → ∃ z ∈ t.stack, t.nm z = x ∧ Rch on v z) (hsx : u ∈ s.stack → x ≤ s.nm u) :
    Lp on n G s v (lowF v x t) (done ++ [u]) := by
  have hll : (t.low.set v.toNat (min (t.lw v) x)).length = n := by rw [List.length_set]; exact h.tj.ll
  have el : ∀ a, Vx n a → (lowF v x t).lw a = if a = v then min (t.lw v) x else t.lw a := fun a ha => setAt h.tj.ll hv ha
  have ev : (lowF v x t).lw v = min (t.lw v) x := by rw [el v hv, if_pos rfl]
  obtain ⟨e, he, h2⟩ := h.ext
  refine ⟨h.tj.low hll, ⟨e, he, fun y hy z hz hzs => ?_⟩, ?_, fun a ha hna => ?_, h.now, ?_, fun w hw => ?_, h.nxt, h.more⟩
  · rw [ev]; exact h2 y hy z hz hzs
  · rw [ev]
    by_cases hlt : x < t.lw v
    · obtain ⟨z, h3, h4, h5⟩ := hx hlt
      exact ⟨z, h3, h4.trans (by omega), h5⟩
    · obtain ⟨z, h3, h4, h5⟩ := h.wit
      exact ⟨z, h3, h4.trans (by omega), h5⟩
  · have hne : a ≠ v := fun e => hna (e ▸ h0)
    obtain ⟨h3, h4⟩ := h.old a ha hna
    exact ⟨h3, by rw [el a ha, if_neg hne]; exact h4⟩
  · rw [ev]; have := h.low; exact Int.le_trans (by omega) this
  · rw [ev]
    rcases List.mem_append.1 hw with hw | hw
    · exact h.did w hw
    · rw [List.mem_singleton.1 hw]
      exact ⟨hux, hu, fun hs => by have := hsx hs; omega⟩
theorem LpB.mono {done : List Int} {b b' : Int} (h : LpB on n G s v t done b) (hb : b' ≤ b) : LpB on n G s v t done b' := by
  obtain ⟨e, he, h2⟩ := h.ext
  exact ⟨h.tj, ⟨e, he, fun y hy z hz hzs => Int.le_trans hb (h2 y hy z hz hzs)⟩, h.wit, h.old, h.now, h.low, fun u hu => ⟨(h.did u hu).1, (h.did u hu).2.1, fun hs => Int.le_trans hb ((h.did u hu).2.2 hs)⟩, h.nxt, h.more⟩
theorem lp_reach {done : List Int} (h : Lp on n G s v t done) (hT : Tj on n G s) : ∀ x ∈ G ++ [v], Rch on x v := fun x hx => by
  obtain ⟨e, he, _⟩ := h.ext
  rcases List.mem_append.1 hx with hg | hg
  · have h1 := hT.rng x (.inr (hT.gs x hg))
    have h2 := (hT.vis x h1).2 (.inr (hT.gs x hg))
    have e1 := (h.old x h1 h2).1
    refine h.tj.fwd x hx v (by rw [he]; simp) ?_
    rw [e1, h.now]; have := hT.nn x; omega
  · rw [List.mem_singleton.1 hg]; exact .refl v
theorem step_lp {rec : Int → Fs → Fs} {done : List Int} (h : Lp on n G s v t done) (hT : Tj on n G s) (hO : OnOk on n) (hv : Vx n v) (h0 : s.nm v = 0) (hu : u ∈ rowOf on v)
    (hrec : Vx n u → t.nm u = 0 → (∀ x ∈ G ++ [v], Rch on x u) → Vd on n (G ++ [v]) t u (rec u t)) : Lp on n G s v (stepF rec v t u) (done ++ [u]) := by
  have hux := hO.rng v u hu
  have sv : ∀ a, a ∈ s.stack → Vx n a ∧ s.nm a ≠ 0 := fun a ha => ⟨hT.rng a (.inr ha), (hT.vis a (hT.rng a (.inr ha))).2 (.inr ha)⟩
  obtain ⟨e, he, h2⟩ := h.ext
  have hvt : v ∈ t.stack := by rw [he]; simp
  unfold stepF
  by_cases hz : t.nm u = 0
  · rw [if_pos hz]
    have hr : ∀ x ∈ G ++ [v], Rch on x u := fun x hx => (lp_reach h hT x hx).step hu
    have hd := hrec hux hz hr
    generalize rec u t = w at hd
    obtain ⟨e', he', a1, a2, a3⟩ := hd.ext
    have nv0 : t.nm v ≠ 0 := by rw [h.now]; have := hT.nn v; omega
    obtain ⟨ov, ol⟩ := hd.old v hv nv0
    have stz : ∀ z, z ∈ t.stack → w.nm z = t.nm z ∧ z ∈ w.stack := fun z b1 => by
      have hzx : Vx n z := h.tj.rng z (.inr b1)
      have hz0 : t.nm z ≠ 0 := (h.tj.vis z hzx).2 (.inr b1)
      exact ⟨(hd.old z hzx hz0).1, by rw [he']; simp [b1]⟩
    refine low_lp (t := w) (x := w.lw u) ?_ hv h0 hux hd.now (fun hlt => ?_) (fun hs => absurd hz ?_)
    · refine ⟨hd.tj, ⟨e ++ e', by rw [he', he]; simp, fun y hy z hzr hzs => ?_⟩, ?_, fun a ha hna => ?_, by rw [ov]; exact h.now, by rw [ov, ol]; exact h.low, fun a ha => ?_, by have := h.nxt; have := hd.nxt; omega, ?_⟩
      · rw [ol]
        rcases List.mem_append.1 hy with hy | hy
        · have := h2 y hy z hzr hzs; omega
        · have h5 := a1 y hy z hzr (by rw [he]; simp [hzs])
          rw [(h.old z (sv z hzs).1 (sv z hzs).2).1] at h5; omega
      · obtain ⟨z, b1, b2, b3⟩ := h.wit
        exact ⟨z, (stz z b1).2, by rw [(stz z b1).1, ol]; exact b2, b3⟩
      · obtain ⟨b1, b2⟩ := h.old a ha hna
        have : t.nm a ≠ 0 := by rw [b1]; exact hna
        obtain ⟨b3, b4⟩ := hd.old a ha this
        exact ⟨b3.trans b1, b4.trans b2⟩
      · obtain ⟨b0, b1, b2⟩ := h.did a ha
        exact ⟨b0, by rw [(hd.old a b0 b1).1]; exact b1, fun hs => by have := b2 hs; omega⟩
      · obtain ⟨m, hm⟩ := h.more
        obtain ⟨m', hm'⟩ := hd.more
        exact ⟨m ++ m', by rw [hm', hm, List.append_assoc]⟩
    · rw [ol] at hlt
      have hlow := h.low
      have hnn := h.tj.nn v
      by_cases hne : e' = []
      · have := a3 hne; omega
      · obtain ⟨z, b1, b2, b3⟩ := a2 hne
        exact ⟨z, (stz z b1).2, by rw [(stz z b1).1]; exact b2, (Rch.one hu).trans b3⟩
    · rw [(h.old u hux (sv u hs).2).1]; exact (sv u hs).2
  · rw [if_neg hz]
    by_cases hop : t.op u = true
    · rw [if_pos hop]
      have hus := (h.tj.opn u hux).1 hop
      exact low_lp (LpB.mono h (by omega)) hv h0 hux hz (fun _ => ⟨u, hus, rfl, Rch.one hu⟩) fun hs => by rw [(h.old u (sv u hs).1 (sv u hs).2).1]; exact Int.le_refl _
    · rw [if_neg hop]
      refine ⟨h.tj, h.ext, h.wit, h.old, h.now, h.low, fun a ha => ?_, h.nxt, h.more⟩
      rcases List.mem_append.1 ha with ha | ha
      · exact h.did a ha
      · rw [List.mem_singleton.1 ha]
        refine ⟨hux, hz, fun hs => absurd ((h.tj.opn u hux).2 ?_) hop⟩
        rw [he]; simp [hs]
theorem take_flat_sub {gs : List (List Int)} {i : Nat} (hu : u ∈ (gs.take i).flatten) : u ∈ gs.flatten := by
  obtain ⟨g, hg, hu⟩ := List.mem_flatten.1 hu
  exact List.mem_flatten.2 ⟨g, List.mem_of_mem_take hg, hu⟩
theorem Tj.closed (h : Tj on n G s) (hx : x ∈ s.groups.flatten) (hy : y ∈ rowOf on x) : y ∈ s.groups.flatten := by
  obtain ⟨g, hg, hx⟩ := List.mem_flatten.1 hx
  obtain ⟨i, hi, rfl⟩ := List.getElem_of_mem hg
  exact take_flat_sub (h.cls i x (by rw [List.getD_eq_getElem?_getD, List.getElem?_eq_getElem hi]; exact hx) y hy)
theorem idxAt {a b : List Int} (h : v ∉ a) : (a ++ v :: b).idxOf v = a.length := by
  rw [List.idxOf_append, if_neg h, List.idxOf_cons_self, Nat.zero_add]
theorem close_vd (h : Lp on n G s v t (rowOf on v)) (hO : OnOk on n) (hT : Tj on n G s) (hv : Vx n v) (h0 : s.nm v = 0) : Vd on n G s v (closeF v t) := by
  obtain ⟨w1, w2⟩ := hT.white hv h0
  have sv : ∀ a, a ∈ s.stack → Vx n a ∧ s.nm a ≠ 0 ∧ t.nm a = s.nm a := fun a ha => by
    have h1 := hT.rng a (.inr ha)
    have h2 := (hT.vis a h1).2 (.inr ha)
    exact ⟨h1, h2, (h.old a h1 h2).1⟩
  have hvG : v ∉ G := fun hg => w2 (hT.gs v hg)
  have hnx : 0 ≤ s.next := by have := hT.nn v; omega
  obtain ⟨e, he, h2⟩ := h.ext
  have hlow := h.low
  have hnow := h.now
  have hin : ∀ z, z ∈ s.stack → z ∈ t.stack := fun z hz => by rw [he]; simp [hz]
  have hvt : v ∈ t.stack := by rw [he]; simp
  have hGs : ∀ x ∈ G, x ∈ t.stack := fun x hx => hin x (hT.gs x hx)
  -- what is on the stack from v on
  have up : ∀ y ∈ v :: e, s.next + 1 ≤ t.nm y := fun y hy => by
    have hs := h.tj.srt
    rw [he, List.pairwise_append, List.pairwise_cons] at hs
    rcases List.mem_cons.1 hy with e1 | hy
    · rw [e1]; omega
    · have := hs.2.1.1 y hy; omega
  -- an edge from v :: e to the old stack is above v's low
  have edge : ∀ y ∈ v :: e, ∀ z ∈ rowOf on y, z ∈ s.stack → t.lw v ≤ s.nm z := fun y hy z hz hzs => by
    rcases List.mem_cons.1 hy with e1 | hy
    · rw [e1] at hz; exact (h.did z hz).2.2 hzs
    · exact h2 y hy z hz hzs
  have blk : ∀ y, y ∈ t.groups.flatten ∨ y ∈ t.stack → y ∉ G → ∀ u ∈ rowOf on y, t.nm u ≠ 0 := fun y hy hg u hu => by
    by_cases e1 : y = v
    · rw [e1] at hu; exact (h.did u hu).2.1
    · exact h.tj.blk y hy (by simp [hg, e1]) u hu
  unfold closeF
  by_cases hc : t.lw v = t.nm v
  · -- a group is told
    rw [if_neg (by simp [hc])]
    have hnd := h.tj.nd
    have hat : t.stack.idxOf v = s.stack.length := by
      rw [he, idxAt w2]
    rw [hat]
    have htk : t.stack.take s.stack.length = s.stack := by rw [he, List.take_left]
    have hdr : t.stack.drop s.stack.length = v :: e := by rw [he, List.drop_left]
    rw [htk, hdr]
    have hmem : ∀ y, y ∈ sortZ (v :: e) ↔ y ∈ v :: e := fun y => (sortZ_perm _).mem_iff
    have hvx : ∀ y ∈ sortZ (v :: e), Vx n y := fun y hy => h.tj.rng y (.inr (by rw [he]; exact List.mem_append.2 (.inr ((hmem y).1 hy))))
    have nold : ∀ y ∈ v :: e, y ∉ s.stack := fun y hy hs => by
      have h3 := up y hy
      have h4 := (sv y hs).2.2
      have := hT.nn y; omega
    -- what v :: e hangs on lies in it or is told
    have stay : ∀ y ∈ v :: e, ∀ z ∈ rowOf on y, z ∈ v :: e ∨ z ∈ t.groups.flatten := fun y hy z hz => by
      have hyG : y ∉ G := fun hg => nold y hy (hT.gs y hg)
      have hz0 := blk y (.inr (by rw [he]; exact List.mem_append.2 (.inr hy))) hyG z hz
      have hzx : Vx n z := hO.rng y z hz
      rcases (h.tj.vis z hzx).1 hz0 with h3 | h3
      · exact .inr h3
      · rw [he] at h3
        rcases List.mem_append.1 h3 with h3 | h3
        · have h4 := edge y hy z hz h3
          have := hT.nn z; omega
        · exact .inl h3
    have stays : ∀ y z, y ∈ v :: e → Rch on y z → z ∈ v :: e ∨ z ∈ t.groups.flatten := fun y z hy hr => Rch.stay (C := fun z => z ∈ v :: e ∨ z ∈ t.groups.flatten) (fun a ha b hb => by
      rcases ha with ha | ha
      · exact stay a ha b hb
      · exact .inr (h.tj.closed ha hb)) hr (.inl hy)
    have dsj : ∀ z, z ∈ t.stack → z ∉ t.groups.flatten := fun z hz hg => by
      rw [List.nodup_append] at hnd
      exact hnd.2.2 z hg z hz rfl
    have hto : ∀ y ∈ v :: e, Rch on y v ∧ Rch on v y := fun y hy => by
      have hyt : y ∈ t.stack := by rw [he]; exact List.mem_append.2 (.inr hy)
      refine ⟨?_, h.tj.fwd v (by simp) y hyt (by have := up y hy; omega)⟩
      obtain ⟨x, x1, x2, x3⟩ := h.tj.bwd y hyt
      rcases List.mem_append.1 x1 with hg | hg
      · have hxs := hT.gs x hg
        rcases stays y x hy x3 with h5 | h5
        · exact absurd hxs (nold x h5)
        · exact absurd h5 (dsj x (hin x hxs))
      · rw [List.mem_singleton.1 hg] at x3; exact x3
    have hfl : ∀ u, u ∈ (t.groups ++ [sortZ (v :: e)]).flatten ↔ u ∈ t.groups.flatten ∨ u ∈ v :: e := fun u => by
      rw [List.flatten_append, List.mem_append, List.flatten_singleton, hmem]
    have hall : ∀ u, (u ∈ (t.groups ++ [sortZ (v :: e)]).flatten ∨ u ∈ s.stack) ↔ (u ∈ t.groups.flatten ∨ u ∈ t.stack) := fun u => by
      rw [hfl, he, List.mem_append]
      constructor
      · rintro ((h5 | h5) | h5)
        · exact .inl h5
        · exact .inr (.inr h5)
        · exact .inr (.inl h5)
      · rintro (h5 | h5 | h5)
        · exact .inl (.inl h5)
        · exact .inr h5
        · exact .inl (.inr h5)
    obtain ⟨m, hm⟩ := h.more
    refine ⟨⟨h.tj.ln, h.tj.ll, (shut_len _ _).trans h.tj.lo, h.tj.cnt, h.tj.nn, fun u hu => (h.tj.vis u hu).trans (hall u).symm, fun u hu => h.tj.rng u ((hall u).1 hu), ?_, fun u hu => ?_, ?_, hT.gs, fun y hy => blk y ((hall y).1 hy), ?_, fun x hx y hy => h.tj.fwd x (by simp [hx]) y (hin y hy), fun y hy => ?_, ?_, ?_⟩, ⟨[], by simp, by simp, by simp, fun _ => ?_⟩, h.old, by show t.nm v ≠ 0; omega, h.nxt, ⟨m ++ [sortZ (v :: e)], by simp [hm]⟩⟩
    · show ((t.groups ++ [sortZ (v :: e)]).flatten ++ s.stack).Nodup
      have hp : ((t.groups ++ [sortZ (v :: e)]).flatten ++ s.stack).Perm (t.groups.flatten ++ t.stack) := by
        rw [List.flatten_append, List.flatten_singleton, List.append_assoc, he]
        exact List.Perm.append_left _ ((List.perm_append_comm).trans (List.Perm.append_left _ (sortZ_perm _)))
      exact hp.nodup_iff.2 hnd
    · refine (shut_at hu _ _ h.tj.lo hvx).trans ?_
      rw [hmem]
      have h5 := h.tj.opn u hu
      rw [he] at h5
      show t.op u = true ∧ _ ↔ u ∈ s.stack
      rw [h5, List.mem_append]
      constructor
      · rintro ⟨h6 | h6, h7⟩
        · exact h6
        · exact absurd h6 h7
      · exact fun h6 => ⟨.inl h6, fun h7 => nold u h7 h6⟩
    · have hs := h.tj.srt
      rw [he, List.pairwise_append] at hs
      exact hs.1
    · intro i y hy u hu
      have hy : y ∈ (t.groups ++ [sortZ (v :: e)]).getD i [] := hy
      show u ∈ ((t.groups ++ [sortZ (v :: e)]).take (i + 1)).flatten
      rcases Nat.lt_trichotomy i t.groups.length with hi | hi | hi
      · rw [List.getD_eq_getElem?_getD, List.getElem?_append_left hi, ← List.getD_eq_getElem?_getD] at hy
        rw [List.take_append_of_le_length (by omega)]
        exact h.tj.cls i y hy u hu
      · subst hi
        rw [List.getD_eq_getElem?_getD, List.getElem?_append_right (Nat.le_refl _), Nat.sub_self] at hy
        rw [List.take_of_length_le (by simp), hfl]
        exact (stay y ((hmem y).1 hy) u hu).symm
      · rw [List.getD_eq_getElem?_getD, List.getElem?_eq_none (by simp; omega)] at hy
        cases hy
    · obtain ⟨x, x1, x2, x3⟩ := hT.bwd y hy
      refine ⟨x, x1, ?_, x3⟩
      show t.nm x ≤ t.nm y
      rw [(sv y hy).2.2, (sv x (hT.gs x x1)).2.2]; exact x2
    · intro g hg x hx y hy
      rcases List.mem_append.1 hg with hg | hg
      · exact h.tj.scc g hg x hx y hy
      · rw [List.mem_singleton.1 hg] at hx hy
        exact (hto x ((hmem x).1 hx)).1.trans (hto y ((hmem y).1 hy)).2
    · intro g hg
      rcases List.mem_append.1 hg with hg | hg
      · exact h.tj.gok g hg
      · rw [List.mem_singleton.1 hg]
        refine ⟨fun h5 => ?_, sortZ_sorted _⟩
        have := (hmem v).2 (by simp)
        rw [h5] at this; cases this
    · show s.next < t.lw v
      omega
  · rw [if_pos (by simpa using hc)]
    obtain ⟨z, z1, z2, z3⟩ := h.wit
    have hzs : z ∈ s.stack := by
      have z1' := z1
      rw [he] at z1'
      rcases List.mem_append.1 z1' with h3 | h3
      · exact h3
      · have := up z h3; omega
    obtain ⟨p, p1, p2, p3⟩ := hT.bwd z hzs
    have pz := (sv z hzs).2.2
    refine ⟨⟨h.tj.ln, h.tj.ll, h.tj.lo, h.tj.cnt, h.tj.nn, h.tj.vis, h.tj.rng, h.tj.nd, h.tj.opn, h.tj.srt, hGs, blk, h.tj.cls, fun x hx => h.tj.fwd x (by simp [hx]), fun y hy => ?_, h.tj.scc, h.tj.gok⟩, ⟨v :: e, he, edge, fun _ => ⟨z, hzs, by rw [← pz]; exact z2, z3⟩, fun e => by cases e⟩, h.old, by omega, h.nxt, h.more⟩
    obtain ⟨x, x1, x2, x3⟩ := h.tj.bwd y hy
    rcases List.mem_append.1 x1 with hg | hg
    · exact ⟨x, hg, x2, x3⟩
    · rw [List.mem_singleton.1 hg] at x2 x3
      have hps := (sv p (hT.gs p p1)).2.2
      exact ⟨p, p1, by omega, (x3.trans z3).trans p3⟩
theorem visit_vd (hO : OnOk on n) : ∀ (f : Nat) (v : Int) (s : Fs) (G : List Int), Tj on n G s → Vx n v → s.nm v = 0 → (∀ x ∈ G, Rch on x v) → s.num.count 0 ≤ f → Vd on n G s v (visitF on f v s)
  | 0, v, s, G, hT, hv, h0, _, hf => by
    have hvl : v.toNat < s.num.length := by rw [hT.ln]; unfold Vx at hv; omega
    have : (0 : Int) ∈ s.num := by
      have h2 : s.num[v.toNat] = 0 := by
        have := h0
        unfold Fs.nm at this
        rw [List.getD_eq_getElem?_getD, List.getElem?_eq_getElem hvl] at this
        exact this
      rw [← h2]; exact List.getElem_mem _
    have := List.count_pos_iff.2 this
    omega
  | f + 1, v, s, G, hT, hv, h0, hr, hf => by
    have key : ∀ (us done : List Int) (t : Fs), (∀ u ∈ us, u ∈ rowOf on v) → Lp on n G s v t done → Lp on n G s v (us.foldl (stepF (visitF on f) v) t) (done ++ us) := by
      intro us
      induction us with
      | nil => intro done t _ h; rw [List.append_nil]; exact h
      | cons u us ih =>
        intro done t hus h
        have h1 := step_lp (u := u) (rec := visitF on f) h hT hO hv h0 (hus u (by simp)) fun hux hz hr2 => visit_vd hO f u t _ h.tj hux hz hr2 (by
          have a1 := hT.cnt; have a2 := h.tj.cnt; have a3 := h.nxt; omega)
        have h2 := ih (done ++ [u]) _ (fun w hw => hus w (by simp [hw])) h1
        rw [List.append_assoc] at h2
        exact h2
    have h1 := key (rowOf on v) [] _ (fun u hu => hu) (enter_lp hT hv h0 hr)
    rw [List.nil_append] at h1
    exact close_vd h1 hO hT hv h0
/-- all groups -/
def startF (n : Nat) : Fs := ⟨List.replicate n 0, List.replicate n 0, [], List.replicate n false, 0, []⟩
def allF (on : List (List Int)) (n : Nat) (k : Nat) : Fs := (List.range k).foldl (fun (s : Fs) (v : Nat) => if s.nm (v : Int) = 0 then visitF on n v s else s) (startF n)
def groupsF (on : List (List Int)) : List (List Int) := (allF on on.length on.length).groups
theorem repAt {α : Type} {n i : Nat} {a : α} : (List.replicate n a).getD i a = a := by
  rw [List.getD_eq_getElem?_getD, List.getElem?_replicate]
  split <;> rfl
theorem start_tj (hO : OnOk on n) : Tj on n [] (startF n) := by
  have h0 : ∀ v, (startF n).nm v = 0 := fun v => repAt
  refine ⟨by simp [startF], by simp [startF], by simp [startF], by simp [startF], fun v => by rw [h0]; simp [startF], fun v _ => by rw [h0]; simp [startF], by simp [startF], by simp [startF], fun v _ => ?_, by simp [startF], by simp, by simp [startF], by simp [startF], by simp, by simp [startF], by simp [startF], by simp [startF]⟩
  have : (startF n).op v = false := repAt
  rw [this]; simp [startF]
theorem allF_succ (k : Nat) : allF on n (k + 1) = if (allF on n k).nm (k : Int) = 0 then visitF on n k (allF on n k) else allF on n k := by
  unfold allF
  rw [List.range_succ, List.foldl_append]; rfl
theorem all_tj (hO : OnOk on n) : ∀ k, k ≤ n → Tj on n [] (allF on n k) ∧ ∀ v, Vx n v → v < k → (allF on n k).nm v ≠ 0
  | 0, _ => ⟨start_tj hO, fun v h1 h2 => by unfold Vx at h1; omega⟩
  | k + 1, hk => by
    obtain ⟨h1, h2⟩ := all_tj hO k (by omega)
    have hv : Vx n (k : Int) := ⟨by omega, by omega⟩
    rw [allF_succ]
    by_cases h0 : (allF on n k).nm (k : Int) = 0
    · rw [if_pos h0]
      have hd := visit_vd hO n k _ [] h1 hv h0 (by simp) (by have := h1.cnt; have := h1.nn k; omega)
      refine ⟨hd.tj, fun v hvx hlt => ?_⟩
      by_cases e : v = k
      · rw [e]; exact hd.now
      · have := h2 v hvx (by omega)
        rw [(hd.old v hvx this).1]; exact this
    · rw [if_neg h0]
      refine ⟨h1, fun v hvx hlt => ?_⟩
      by_cases e : v = k
      · rw [e]; exact h0
      · exact h2 v hvx (by omega)
/-- what the groups are -/
structure Grp (on : List (List Int)) (n : Nat) (gs : List (List Int)) : Prop where
  all : ∀ v, v ∈ gs.flatten ↔ Vx n v
  nd : gs.flatten.Nodup
  cls : ∀ i, ∀ v ∈ gs.getD i [], ∀ u ∈ rowOf on v, u ∈ (gs.take (i + 1)).flatten
  scc : ∀ g ∈ gs, ∀ x ∈ g, ∀ y ∈ g, Rch on x y
  gok : ∀ g ∈ gs, g ≠ [] ∧ g.Pairwise (· ≤ ·)
theorem groups_grp (hO : OnOk on n) : Grp on n (groupsF on) := by
  unfold groupsF
  rw [hO.len]
  obtain ⟨h1, h2⟩ := all_tj hO n (Nat.le_refl n)
  have hst : (allF on n n).stack = [] := by
    cases h : (allF on n n).stack with
    | nil => rfl
    | cons a l =>
      obtain ⟨x, hx, _⟩ := h1.bwd a (by rw [h]; simp)
      cases hx
  refine ⟨fun v => ⟨fun h => h1.rng v (.inl h), fun h => ?_⟩, ?_, h1.cls, h1.scc, h1.gok⟩
  · have h3 := (h1.vis v h).1 (h2 v h h.2)
    rw [hst] at h3
    rcases h3 with h3 | h3
    · exact h3
    · cases h3
  · have := h1.nd
    rw [hst, List.append_nil] at this
    exact this
end
end Go.Tar
namespace Go.Proofs.Ytkjhccpanedccaa
set_option linter.unusedVariables false
set_option linter.unusedSimpArgs false
open Go Go.Eng Go.Tar

structure FX where
  an : Option Addr
  cn : Nat
  al : Option Addr
  cl : Nat
  st : Option Addr
  ct : Nat
  ao : Option Addr
  co : Nat
  ag : Option Addr
  cg : Nat
/-- a finder, without what it reads -/
def fnd (p : Nat) (oa : Option Addr) (oc n : Nat) (s : Fs) : Asn := fun h => ∃ x : FX, sep [cells p [.slice oa n oc, .slice x.an n x.cn, .slice x.al n x.cl, .slice x.st s.stack.length x.ct, .slice x.ao n x.co, .int .i64 s.next, .slice x.ag s.groups.length x.cg] T_order_finder,
  arr I64 T_int x.an x.cn s.num, arr I64 T_int x.al x.cl s.low, arr I64 T_int x.st x.ct s.stack, arr BOO T_bool x.ao x.co s.opn, LI x.ag x.cg s.groups] h
section
variable {W0 W : World} {L L' : List Asn} {p oc n g o c i : Nat} {oa a : Option Addr} {s : Fs} {l : List Int} {m : List Bool} {v x : Int}
theorem fnd_at (h : St W0 (fnd p oa oc n s :: L) W) : ∃ an cn al cl st ct ao co ag cg, St W0 (cells p [.slice oa n oc, .slice an n cn, .slice al n cl, .slice st s.stack.length ct, .slice ao n co, .int .i64 s.next, .slice ag s.groups.length cg] T_order_finder ::
    arr I64 T_int an cn s.num :: arr I64 T_int al cl s.low :: arr I64 T_int st ct s.stack :: arr BOO T_bool ao co s.opn :: LI ag cg s.groups :: L) W := by
  obtain ⟨x, h⟩ := h.ex
  exact ⟨x.an, x.cn, x.al, x.cl, x.st, x.ct, x.ao, x.co, x.ag, x.cg, h.flat⟩
theorem fnd_ent {an al st ao ag : Option Addr} {cn cl ct co cg : Nat} : ent (cells p [.slice oa n oc, .slice an n cn, .slice al n cl, .slice st s.stack.length ct, .slice ao n co, .int .i64 s.next, .slice ag s.groups.length cg] T_order_finder ::
    arr I64 T_int an cn s.num :: arr I64 T_int al cl s.low :: arr I64 T_int st ct s.stack :: arr BOO T_bool ao co s.opn :: LI ag cg s.groups :: L) (fnd p oa oc n s :: L) :=
  (ent.pack [_, _, _, _, _, _] L).trans (ent.weak fun _ hp => ⟨⟨an, cn, al, cl, st, ct, ao, co, ag, cg⟩, hp⟩)
theorem fnd_of (an al st ao ag : Option Addr) (cn cl ct co cg : Nat) {num low stack : List Int} {opn : List Bool} {next : Int} {groups : List (List Int)} (h : St W0 (cells p [.slice oa n oc, .slice an n cn, .slice al n cl, .slice st stack.length ct, .slice ao n co, .int .i64 next, .slice ag groups.length cg] T_order_finder ::
    arr I64 T_int an cn num :: arr I64 T_int al cl low :: arr I64 T_int st ct stack :: arr BOO T_bool ao co opn :: LI ag cg groups :: L) W) : St W0 (fnd p oa oc n ⟨num, low, stack, opn, next, groups⟩ :: L) W := h.ent (fnd_ent (s := ⟨num, low, stack, opn, next, groups⟩))
/-- a row that is added -/
theorem li_snoc {ag : Option Addr} {cg : Nat} {rows : List ISl} {vs : List (List Int)} {y : ISl} (hr : rows.map (·.l) = vs) (h : St W0 (arr ISY T_s_int ag cg (rows ++ [y]) :: ich y :: many ich rows :: L) W) : St W0 (LI ag cg (vs ++ [y.l]) :: L) W :=
  (h.ent ((ent.cons _ (many_uncons (F := ich) y rows)).trans (ent.cons _ (many_perm (F := ich) (List.perm_append_comm (l₁ := [y]) (l₂ := rows)))))).ent (li_ent (by rw [List.map_append, hr]; rfl))
theorem idxZ_eq (l : List Int) (x : Int) (h : x ∈ l) : (if x ∈ l then (l.idxOf x : Int) else -1) = (l.idxOf x : Int) := if_pos h
/-- a place in a row of ints -/
theorem ix1 (hv : Vx n v) (g o c : Nat) : idxS 1 (.slice (some ⟨g, o, none⟩) n c) (.int .i64 v) = some (.pointer (some ⟨g, o + v.toNat * 1, none⟩)) := idxS_blk hv.1 hv.2
theorem getD_at {α : Type} {l : List α} {d : α} (hi : i < l.length) : l[i] = l.getD i d := by rw [List.getD_eq_getElem?_getD, List.getElem?_eq_getElem hi]; rfl
theorem ldG (hi : i < l.length) (h : St W0 L W) [hr : Rd W0 L (some ⟨g, o, none⟩) I64 l] {k : Value → World → Prop} (hk : k (.int .i64 (l.getD i 0)) W) : rdK PR (Instr.loadAt T_int (.pointer (some ⟨g, o + i * 1, none⟩))) k W :=
  ldA0 (i := i) (l := l) (A := I64) h rfl hi (v := .int .i64 (l.getD i 0)) (by rw [← getD_at hi]; rfl) (by simp) hk
theorem stG (hi : i < l.length) (h : St W0 L W) [ho : Go.Eng.Own (some ⟨g, o, none⟩) L I64 T_int c l L'] {k : Unit → World → Prop} (hk : ∀ W', St W0 (arr I64 T_int (some ⟨g, o, none⟩) c (l.set i x) :: L') W' → k () W') : efK PR (Instr.storeAt T_int (.pointer (some ⟨g, o + i * 1, none⟩)) (.int .i64 x)) k W :=
  stA (i := i) (x := x) (l := l) (A := I64) h rfl hi rfl hk
theorem ldGb (hi : i < m.length) (h : St W0 L W) [hr : Rd W0 L (some ⟨g, o, none⟩) BOO m] {k : Value → World → Prop} (hk : k (.bool (m.getD i false)) W) : rdK PR (Instr.loadAt T_bool (.pointer (some ⟨g, o + i * 1, none⟩))) k W :=
  ldA0 (i := i) (l := m) (A := BOO) h rfl hi (v := .bool (m.getD i false)) (by rw [← getD_at hi]; rfl) (by simp) hk
theorem stGb {x : Bool} (hi : i < m.length) (h : St W0 L W) [ho : Go.Eng.Own (some ⟨g, o, none⟩) L BOO T_bool c m L'] {k : Unit → World → Prop} (hk : ∀ W', St W0 (arr BOO T_bool (some ⟨g, o, none⟩) c (m.set i x) :: L') W' → k () W') : efK PR (Instr.storeAt T_bool (.pointer (some ⟨g, o + i * 1, none⟩)) (.bool x)) k W :=
  stA (i := i) (x := x) (l := m) (A := BOO) h rfl hi rfl hk
set_option maxRecDepth 100000 in
set_option maxHeartbeats 4000000 in
/-- slices.Index at ints -/
theorem indexZ (h : St W0 L W) [hr : Rd W0 L a I64 l] (hl : l.length < 1000000) {k : Value → World → Prop} (hk : ∀ W', St W0 L W' → k (.int .i64 (if x ∈ l then (l.idxOf x : Int) else -1)) W') : callK PR F_slices_Index_int_int [.slice a l.length c, .int .i64 x] k W := by
  apply S.slices_Index_int_int.call
  unfold S.slices_Index_int_int.body
  (repeat (first | (first | (with_reducible (first | refine w1 fun _ _ => ?_ | refine w3 fun _ _ _ => ?_ | refine w4 fun _ _ _ => ?_ | refine w11 fun _ _ _ => ?_ | refine stb_n ?_)) | ((with_reducible refine w2 ?_); try simp -implicitDefEqProofs only [EN, lsub, lget, stL, beq_self_eq_true, ne_eq, if_true, if_false, List.cons_append, List.nil_append, Option.isNone_some, Option.isNone_none]; intro _ _) | ((with_reducible (first | refine w5 ?_ ?_ | refine w6 ?_ ?_ | refine w7 ?_ ?_)); simp; refine ⟨_, rfl, ?_⟩) | ((with_reducible (first | refine w8 ?_ ?_ ?_ | refine w9 ?_ ?_ ?_ | refine w10 ?_ ?_ ?_)); exact rfl; simp) | ((with_reducible refine w12 ?_ ?_ ?_ fun _ _ => ?_); simp; simp; simp [oneC]) | ((with_reducible (first | refine eqs ?_ | refine nes ?_)); refine ⟨_, rfl, ?_⟩) | ((refine okF_i (bldP_eq rfl) ?_); try simp only [BLS, List.take_succ_cons, List.take_zero, List.drop_succ_cons, List.drop_zero, List.cons_append, List.nil_append, Nat.reduceAdd])) | simp -implicitDefEqProofs only [EN, lsub, lget, stL, beq_self_eq_true, ne_eq, if_true, if_false, List.cons_append, List.nil_append, Option.isNone_some, Option.isNone_none]))
  refine loop_c (σ := Unit) l.length (fun i _ => [.slice a l.length c, .int .i64 x, .int .i64 l.length, .int .i64 (i : Int)])
    (fun i _ W1 => (∀ j (hj : j < l.length), j < i → l[j] ≠ x) ∧ St W0 L W1) () rfl ⟨fun _ _ h => by omega, (by first | assumption | exact St.tick (by assumption) | exact St.tick (St.tick (by assumption)))⟩ ?_
  clear h
  rintro K i _ W1 hi ⟨hno, h⟩ hK
  simp -implicitDefEqProofs only [EN, lsub, lget, stL, beq_self_eq_true, ne_eq, if_true, if_false, List.cons_append, List.nil_append, Option.isNone_some, Option.isNone_none]
  unfold S.slices_Index_int_int.l1
  by_cases hlt : (i : Int) < (l.length : Int)
  · have hib : i < l.length := by omega
    have ew : IntKind.i64.wrap ((i : Int) + 1) = ((i + 1 : Nat) : Int) := by rw [i64w]; omega
    (repeat (first | (first | (with_reducible (first | refine w1 fun _ _ => ?_ | refine w3 fun _ _ _ => ?_ | refine w4 fun _ _ _ => ?_ | refine w11 fun _ _ _ => ?_ | refine stb_n ?_)) | ((with_reducible refine w2 ?_); try simp -implicitDefEqProofs only [EN, lsub, lget, stL, beq_self_eq_true, ne_eq, if_true, if_false, List.cons_append, List.nil_append, Option.isNone_some, Option.isNone_none, hlt]; intro _ _) | ((with_reducible (first | refine w5 ?_ ?_ | refine w6 ?_ ?_ | refine w7 ?_ ?_)); simp; refine ⟨_, rfl, ?_⟩) | ((with_reducible (first | refine w8 ?_ ?_ ?_ | refine w9 ?_ ?_ ?_ | refine w10 ?_ ?_ ?_)); exact rfl; simp) | ((with_reducible refine w12 ?_ ?_ ?_ fun _ _ => ?_); simp; simp; simp [oneC]) | ((with_reducible (first | refine eqs ?_ | refine nes ?_)); refine ⟨_, rfl, ?_⟩) | ((refine okF_i (bldP_eq rfl) ?_); try simp only [BLS, List.take_succ_cons, List.take_zero, List.drop_succ_cons, List.drop_zero, List.cons_append, List.nil_append, Nat.reduceAdd])) | simp -implicitDefEqProofs only [EN, lsub, lget, stL, beq_self_eq_true, ne_eq, if_true, if_false, List.cons_append, List.nil_append, Option.isNone_some, Option.isNone_none, hlt]))
    refine ixA (i := i) (a := a) (l := l) (A := I64) (by first | assumption | exact St.tick (by assumption) | exact St.tick (St.tick (by assumption))) rfl rfl hib fun g o ha => ?_
    cases ha
    refine ldA0 (i := i) (l := l) (A := I64) (by first | assumption | exact St.tick (by assumption) | exact St.tick (St.tick (by assumption))) rfl hib (v := .int .i64 l[i]) rfl (by simp) ?_
    by_cases hx : x = l[i]
    · have e1 : l.idxOf x = i := by
        have hle : l.idxOf x ≤ i := by
          refine Classical.byContradiction fun hn => ?_
          have := List.not_of_lt_findIdx (p := (· == x)) (xs := l) (i := i) (by unfold List.idxOf at hn; omega)
          simp [← hx] at this
        refine Classical.byContradiction fun hn => ?_
        have hlt2 : l.idxOf x < l.length := by omega
        exact hno _ hlt2 (by omega) (List.getElem_idxOf hlt2)
      have hm : x ∈ l := by rw [hx]; exact List.getElem_mem hib
      (repeat (first | (first | (with_reducible (first | refine w1 fun _ _ => ?_ | refine w3 fun _ _ _ => ?_ | refine w4 fun _ _ _ => ?_ | refine w11 fun _ _ _ => ?_ | refine stb_n ?_)) | ((with_reducible refine w2 ?_); try simp -implicitDefEqProofs only [EN, lsub, lget, stL, beq_self_eq_true, ne_eq, if_true, if_false, List.cons_append, List.nil_append, Option.isNone_some, Option.isNone_none, decide_eq_true hx]; intro _ _) | ((with_reducible (first | refine w5 ?_ ?_ | refine w6 ?_ ?_ | refine w7 ?_ ?_)); simp; refine ⟨_, rfl, ?_⟩) | ((with_reducible (first | refine w8 ?_ ?_ ?_ | refine w9 ?_ ?_ ?_ | refine w10 ?_ ?_ ?_)); exact rfl; simp) | ((with_reducible refine w12 ?_ ?_ ?_ fun _ _ => ?_); simp; simp; simp [oneC]) | ((with_reducible (first | refine eqs ?_ | refine nes ?_)); refine ⟨_, rfl, ?_⟩) | ((refine okF_i (bldP_eq rfl) ?_); try simp only [BLS, List.take_succ_cons, List.take_zero, List.drop_succ_cons, List.drop_zero, List.cons_append, List.nil_append, Nat.reduceAdd])) | simp -implicitDefEqProofs only [EN, lsub, lget, stL, beq_self_eq_true, ne_eq, if_true, if_false, List.cons_append, List.nil_append, Option.isNone_some, Option.isNone_none, decide_eq_true hx]))
      have := hk _ (by first | assumption | exact St.tick (by assumption) | exact St.tick (St.tick (by assumption)))
      rwa [if_pos hm, e1] at this
    · (repeat (first | (first | (with_reducible (first | refine w1 fun _ _ => ?_ | refine w3 fun _ _ _ => ?_ | refine w4 fun _ _ _ => ?_ | refine w11 fun _ _ _ => ?_ | refine stb_n ?_)) | ((with_reducible refine w2 ?_); try simp -implicitDefEqProofs only [EN, lsub, lget, stL, beq_self_eq_true, ne_eq, if_true, if_false, List.cons_append, List.nil_append, Option.isNone_some, Option.isNone_none, decide_eq_false hx, ew]; intro _ _) | ((with_reducible (first | refine w5 ?_ ?_ | refine w6 ?_ ?_ | refine w7 ?_ ?_)); simp; refine ⟨_, rfl, ?_⟩) | ((with_reducible (first | refine w8 ?_ ?_ ?_ | refine w9 ?_ ?_ ?_ | refine w10 ?_ ?_ ?_)); exact rfl; simp) | ((with_reducible refine w12 ?_ ?_ ?_ fun _ _ => ?_); simp; simp; simp [oneC]) | ((with_reducible (first | refine eqs ?_ | refine nes ?_)); refine ⟨_, rfl, ?_⟩) | ((refine okF_i (bldP_eq rfl) ?_); try simp only [BLS, List.take_succ_cons, List.take_zero, List.drop_succ_cons, List.drop_zero, List.cons_append, List.nil_append, Nat.reduceAdd])) | simp -implicitDefEqProofs only [EN, lsub, lget, stL, beq_self_eq_true, ne_eq, if_true, if_false, List.cons_append, List.nil_append, Option.isNone_some, Option.isNone_none, decide_eq_false hx, ew]))
      refine hK () _ hib ⟨fun j hj hji => ?_, (by first | assumption | exact St.tick (by assumption) | exact St.tick (St.tick (by assumption)))⟩
      by_cases e : j = i
      · subst e; exact fun e => hx e.symm
      · exact hno j hj (by omega)
  · have hn : x ∉ l := fun hm => by
      obtain ⟨j, hj, rfl⟩ := List.getElem_of_mem hm
      exact hno j hj (by omega) rfl
    (repeat (first | (first | (with_reducible (first | refine w1 fun _ _ => ?_ | refine w3 fun _ _ _ => ?_ | refine w4 fun _ _ _ => ?_ | refine w11 fun _ _ _ => ?_ | refine stb_n ?_)) | ((with_reducible refine w2 ?_); try simp -implicitDefEqProofs only [EN, lsub, lget, stL, beq_self_eq_true, ne_eq, if_true, if_false, List.cons_append, List.nil_append, Option.isNone_some, Option.isNone_none, hlt]; intro _ _) | ((with_reducible (first | refine w5 ?_ ?_ | refine w6 ?_ ?_ | refine w7 ?_ ?_)); simp; refine ⟨_, rfl, ?_⟩) | ((with_reducible (first | refine w8 ?_ ?_ ?_ | refine w9 ?_ ?_ ?_ | refine w10 ?_ ?_ ?_)); exact rfl; simp) | ((with_reducible refine w12 ?_ ?_ ?_ fun _ _ => ?_); simp; simp; simp [oneC]) | ((with_reducible (first | refine eqs ?_ | refine nes ?_)); refine ⟨_, rfl, ?_⟩) | ((refine okF_i (bldP_eq rfl) ?_); try simp only [BLS, List.take_succ_cons, List.take_zero, List.drop_succ_cons, List.drop_zero, List.cons_append, List.nil_append, Nat.reduceAdd])) | simp -implicitDefEqProofs only [EN, lsub, lget, stL, beq_self_eq_true, ne_eq, if_true, if_false, List.cons_append, List.nil_append, Option.isNone_some, Option.isNone_none, hlt]))
    have := hk _ (by first | assumption | exact St.tick (by assumption) | exact St.tick (St.tick (by assumption)))
    rwa [if_neg hn] at this
end
end Go.Proofs.Ytkjhccpanedccaa
