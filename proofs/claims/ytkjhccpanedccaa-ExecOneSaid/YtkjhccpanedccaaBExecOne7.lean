/- Texts of the claim ExecOne, joined: COrd12, COrd13, COrd14, COrd15. -/
import Derived.Test.YtkjhccpanedccaaBExecOne6
namespace Go.Proofs.Ytkjhccpanedccaa
set_option linter.unusedVariables false
set_option linter.unusedSimpArgs false
open Go Go.Eng Go.Tar Go.Sort
section
variable {W0 W : World} {L L' : List Asn} {a : Option Addr} {c n : Nat} {on gs : List (List Int)}
theorem ix2 {i : Nat} (hi : i < n) (g o c : Nat) : idxS 1 (.slice (some ⟨g, o, none⟩) n c) (.int .i64 (i : Int)) = some (.pointer (some ⟨g, o + i * 1, none⟩)) := by
  rw [idxS_blk (by omega) (by omega), Int.toNat_natCast]
/-- a row's head is read -/
theorem ldR {i g o : Nat} {rows : List ISl} (hi : i < rows.length) (h : St W0 L W) [hr : Rd W0 L (some ⟨g, o, none⟩) ISY rows] {k : Value → World → Prop} (hk : k rows[i].v W) : rdK PR (Instr.loadAt T_s_int (.pointer (some ⟨g, o + i * 1, none⟩))) k W :=
  ldA0 (i := i) (l := rows) (A := ISY) h rfl hi (v := rows[i].v) rfl (by simp) hk
theorem row_at {rows : List ISl} {i : Nat} (hi : i < rows.length) : rows[i].l = (rows.map (·.l)).getD i [] := by
  rw [List.getD_eq_getElem?_getD, List.getElem?_map, List.getElem?_eq_getElem hi]; rfl
theorem li_make {m : Nat} (h : St W0 (arr ISY T_s_int a c (List.replicate m (⟨none, 0, []⟩ : ISl)) :: L) W) : St W0 (LI a c (List.replicate m []) :: L) W :=
  (h.ent (ent.cons _ (many_none m))).ent (li_ent (by simp))
set_option maxRecDepth 100000 in
set_option maxHeartbeats 4000000 in
theorem ordTie (h00 : W0.drawn = 0) (hO : OnOk on on.length) (hn : on.length ≤ 1000) (hrl : ∀ v, (rowOf on v).length < 1000000) {k : Value → World → Prop} (h : St W0 (LI a c on :: L) W)
    (hk : ∀ p ag cg aw cw ab cb W', St W0 (cells p [.slice ag (allOf on).length cg, .slice aw (allOf on).length cw, .slice ab (allOf on).length cb] T_order_tied :: LI ag cg (allOf on) :: arr I64 T_int aw cw (tieOf on).1 :: LI ab cb (tieOf on).2 :: LI a c on :: L) W' →
      k (.pointer (some ⟨p, 0, none⟩)) W') : callK PR F_order_tie [.slice a on.length c] k W := by
  apply S.order_tie.call
  unfold S.order_tie.body
  have hG := groups_grp hO
  refine ordGroups h00 hO hn hrl h fun ag cg W1 h => ?_
  have hgl : (groupsF on).length = (allOf on).length := (sortHd_perm _).length_eq.symm
  have hall := all_len hO
  refine ordSortHd h (fun g hg => (hG.gok g hg).1) hG.nd (by omega) fun W2 h => ?_
  rw [hgl]
  have hp := allOf_prt hO
  have hp' := hp
  have h : St W0 (LI ag cg (allOf on) :: LI a c on :: L) W2 := h
  unfold tieOf at hk
  generalize allOf on = all at *
  obtain ⟨rg, hrg, h⟩ := li_at h
  obtain ⟨rows, hrows, h⟩ := li_at (St.wk (L' := LI a c on :: arr ISY T_s_int ag cg rg :: many ich rg :: L) h)
  have hrgl : rg.length = all.length := by rw [← hrg, List.length_map]
  have hrn : rows.length = on.length := by rw [← hrows, List.length_map]
  (repeat (first | (first | (with_reducible (first | refine w1 fun _ _ => ?_ | refine w3 fun _ _ _ => ?_ | refine w4 fun _ _ _ => ?_ | refine w11 fun _ _ _ => ?_ | refine stb_n ?_)) | ((with_reducible refine w2 ?_); try simp -implicitDefEqProofs only [EN, lsub, lget, stL, beq_self_eq_true, ne_eq, if_true, if_false, List.cons_append, List.nil_append, Option.isNone_some, Option.isNone_none]; intro _ _) | ((with_reducible (first | refine w5 ?_ ?_ | refine w6 ?_ ?_ | refine w7 ?_ ?_)); simp; refine ⟨_, rfl, ?_⟩) | ((with_reducible (first | refine w8 ?_ ?_ ?_ | refine w9 ?_ ?_ ?_ | refine w10 ?_ ?_ ?_)); exact rfl; simp) | ((with_reducible refine w12 ?_ ?_ ?_ fun _ _ => ?_); simp; simp; simp [oneC]) | ((with_reducible (first | refine eqs ?_ | refine nes ?_)); refine ⟨_, rfl, ?_⟩) | ((refine okF_i (bldP_eq rfl) ?_); try simp only [BLS, List.take_succ_cons, List.take_zero, List.drop_succ_cons, List.drop_zero, List.cons_append, List.nil_append, Nat.reduceAdd])) | simp -implicitDefEqProofs only [EN, lsub, lget, stL, beq_self_eq_true, ne_eq, if_true, if_false, List.cons_append, List.nil_append, Option.isNone_some, Option.isNone_none]))
  refine mkZ (by first | assumption | exact St.tick (by assumption) | exact St.tick (St.tick (by assumption))) (by omega) fun ao co W3 h => ?_
  refine joinK_i ?_
  (repeat (first | (first | (with_reducible (first | refine w1 fun _ _ => ?_ | refine w3 fun _ _ _ => ?_ | refine w4 fun _ _ _ => ?_ | refine w11 fun _ _ _ => ?_ | refine stb_n ?_)) | ((with_reducible refine w2 ?_); try simp -implicitDefEqProofs only [EN, lsub, lget, stL, beq_self_eq_true, ne_eq, if_true, if_false, List.cons_append, List.nil_append, Option.isNone_some, Option.isNone_none]; intro _ _) | ((with_reducible (first | refine w5 ?_ ?_ | refine w6 ?_ ?_ | refine w7 ?_ ?_)); simp; refine ⟨_, rfl, ?_⟩) | ((with_reducible (first | refine w8 ?_ ?_ ?_ | refine w9 ?_ ?_ ?_ | refine w10 ?_ ?_ ?_)); exact rfl; simp) | ((with_reducible refine w12 ?_ ?_ ?_ fun _ _ => ?_); simp; simp; simp [oneC]) | ((with_reducible (first | refine eqs ?_ | refine nes ?_)); refine ⟨_, rfl, ?_⟩) | ((refine okF_i (bldP_eq rfl) ?_); try simp only [BLS, List.take_succ_cons, List.take_zero, List.drop_succ_cons, List.drop_zero, List.cons_append, List.nil_append, Nat.reduceAdd])) | simp -implicitDefEqProofs only [EN, lsub, lget, stL, beq_self_eq_true, ne_eq, if_true, if_false, List.cons_append, List.nil_append, Option.isNone_some, Option.isNone_none]))
  have h : St W0 (arr I64 T_int ao co (ofF all on.length 0) :: arr ISY T_s_int a c rows :: many ich rows :: arr ISY T_s_int ag cg rg :: many ich rg :: L) W3 := h
  refine loop_c (σ := Unit) all.length (fun i _ => [.slice a on.length c, .slice ag all.length cg, .slice ao on.length co, .slice ag all.length cg, .int .i64 all.length, .int .i64 (i : Int)])
    (fun i _ W1 => St W0 (arr I64 T_int ao co (ofF all on.length i) :: arr ISY T_s_int a c rows :: many ich rows :: arr ISY T_s_int ag cg rg :: many ich rg :: L) W1) () rfl h ?_
  clear h
  rintro K i _ W4 hi h hK
  simp -implicitDefEqProofs only [EN, lsub, lget, stL, beq_self_eq_true, ne_eq, if_true, if_false, List.cons_append, List.nil_append, Option.isNone_some, Option.isNone_none]
  unfold S.order_tie.l4
  have hof := ofF_at hp i hi
  by_cases hlt : (i : Int) < (all.length : Int)
  · have hib : i < all.length := by omega
    have hir : i < rg.length := by omega
    have ew : IntKind.i64.wrap ((i : Int) + 1) = ((i + 1 : Nat) : Int) := by rw [i64w]; omega
    have e : ofF all on.length (i + 1) = ofStep all (ofF all on.length i) i := by unfold ofF; rw [List.range_succ, List.foldl_append]; rfl
    have hrow := row_at hir
    rw [hrg] at hrow
    have hvs : ∀ v ∈ all.getD i [], Vx on.length v := fun v hv => (hp.mem v).1 (memFlat hv)
    have hlen : (all.getD i []).length ≤ on.length := nodup_len ((List.Sublist.nodup · hp.nd) (by
      rw [List.getD_eq_getElem?_getD, List.getElem?_eq_getElem hib]; exact List.sublist_flatten_of_mem (List.getElem_mem hib))) hvs
    unfold ofStep at e
    generalize ofF all on.length i = o at *
    have hmem : rg[i] ∈ rg := List.getElem_mem hir
    obtain ⟨gg, og, e1⟩ := posAddr (i := i) (a := ag) (A := ISY) (l := rg) h hir
    subst e1
    rw [← hrow] at e hvs hlen
    (repeat (first | (first | (with_reducible (first | refine w1 fun _ _ => ?_ | refine w3 fun _ _ _ => ?_ | refine w4 fun _ _ _ => ?_ | refine w11 fun _ _ _ => ?_ | refine stb_n ?_)) | ((with_reducible refine w2 ?_); try simp -implicitDefEqProofs only [EN, lsub, lget, stL, beq_self_eq_true, ne_eq, if_true, if_false, List.cons_append, List.nil_append, Option.isNone_some, Option.isNone_none, hlt]; intro _ _) | ((with_reducible (first | refine w5 ?_ ?_ | refine w6 ?_ ?_ | refine w7 ?_ ?_)); simp; refine ⟨_, rfl, ?_⟩) | ((with_reducible (first | refine w8 ?_ ?_ ?_ | refine w9 ?_ ?_ ?_ | refine w10 ?_ ?_ ?_)); exact rfl; simp) | ((with_reducible refine w12 ?_ ?_ ?_ fun _ _ => ?_); simp; simp; simp [oneC]) | ((with_reducible (first | refine eqs ?_ | refine nes ?_)); refine ⟨_, rfl, ?_⟩) | ((refine okF_i (bldP_eq rfl) ?_); try simp only [BLS, List.take_succ_cons, List.take_zero, List.drop_succ_cons, List.drop_zero, List.cons_append, List.nil_append, Nat.reduceAdd])) | simp -implicitDefEqProofs only [EN, lsub, lget, stL, beq_self_eq_true, ne_eq, if_true, if_false, List.cons_append, List.nil_append, Option.isNone_some, Option.isNone_none, hlt]))
    refine joinK_i ?_
    (repeat (first | (first | (with_reducible (first | refine w1 fun _ _ => ?_ | refine w3 fun _ _ _ => ?_ | refine w4 fun _ _ _ => ?_ | refine w11 fun _ _ _ => ?_ | refine stb_n ?_)) | ((with_reducible refine w2 ?_); try simp -implicitDefEqProofs only [EN, lsub, lget, stL, beq_self_eq_true, ne_eq, if_true, if_false, List.cons_append, List.nil_append, Option.isNone_some, Option.isNone_none, ix2 hib]; intro _ _) | ((with_reducible (first | refine w5 ?_ ?_ | refine w6 ?_ ?_ | refine w7 ?_ ?_)); simp; refine ⟨_, rfl, ?_⟩) | ((with_reducible (first | refine w8 ?_ ?_ ?_ | refine w9 ?_ ?_ ?_ | refine w10 ?_ ?_ ?_)); exact rfl; simp) | ((with_reducible refine w12 ?_ ?_ ?_ fun _ _ => ?_); simp; simp; simp [oneC]) | ((with_reducible (first | refine eqs ?_ | refine nes ?_)); refine ⟨_, rfl, ?_⟩) | ((refine okF_i (bldP_eq rfl) ?_); try simp only [BLS, List.take_succ_cons, List.take_zero, List.drop_succ_cons, List.drop_zero, List.cons_append, List.nil_append, Nat.reduceAdd])) | simp -implicitDefEqProofs only [EN, lsub, lget, stL, beq_self_eq_true, ne_eq, if_true, if_false, List.cons_append, List.nil_append, Option.isNone_some, Option.isNone_none, ix2 hib]))
    refine ldR hir (by first | assumption | exact St.tick (by assumption) | exact St.tick (St.tick (by assumption))) ?_
    generalize rg[i] = x at *
    obtain ⟨xa, xc, xl⟩ := x
    simp only at e hvs hlen
    haveI hrd := ich_rd (W0 := W0) (L := L) hmem
    (repeat (first | (first | (with_reducible (first | refine w1 fun _ _ => ?_ | refine w3 fun _ _ _ => ?_ | refine w4 fun _ _ _ => ?_ | refine w11 fun _ _ _ => ?_ | refine stb_n ?_)) | ((with_reducible refine w2 ?_); try simp -implicitDefEqProofs only [EN, lsub, lget, stL, beq_self_eq_true, ne_eq, if_true, if_false, List.cons_append, List.nil_append, Option.isNone_some, Option.isNone_none]; intro _ _) | ((with_reducible (first | refine w5 ?_ ?_ | refine w6 ?_ ?_ | refine w7 ?_ ?_)); simp; refine ⟨_, rfl, ?_⟩) | ((with_reducible (first | refine w8 ?_ ?_ ?_ | refine w9 ?_ ?_ ?_ | refine w10 ?_ ?_ ?_)); exact rfl; simp) | ((with_reducible refine w12 ?_ ?_ ?_ fun _ _ => ?_); simp; simp; simp [oneC]) | ((with_reducible (first | refine eqs ?_ | refine nes ?_)); refine ⟨_, rfl, ?_⟩) | ((refine okF_i (bldP_eq rfl) ?_); try simp only [BLS, List.take_succ_cons, List.take_zero, List.drop_succ_cons, List.drop_zero, List.cons_append, List.nil_append, Nat.reduceAdd])) | simp -implicitDefEqProofs only [EN, lsub, lget, stL, beq_self_eq_true, ne_eq, if_true, if_false, List.cons_append, List.nil_append, Option.isNone_some, Option.isNone_none]))
    refine loop_c (σ := Unit) xl.length (fun j _ => [.slice a on.length c, .slice (some ⟨gg, og, none⟩) all.length cg, .slice ao on.length co, .int .i64 (i : Int), .slice (some ⟨gg, og, none⟩) all.length cg, .int .i64 all.length, .int .i64 (i : Int), .slice xa xl.length xc, .int .i64 xl.length, .int .i64 (j : Int)])
      (fun j _ W1 => St W0 (arr I64 T_int ao co ((xl.take j).foldl (fun o v => o.set v.toNat (i : Int)) o) :: arr ISY T_s_int a c rows :: many ich rows :: arr ISY T_s_int (some ⟨gg, og, none⟩) cg rg :: many ich rg :: L) W1) () rfl h ?_
    clear h
    rintro K2 j _ W5 hj h hK2
    simp -implicitDefEqProofs only [EN, lsub, lget, stL, beq_self_eq_true, ne_eq, if_true, if_false, List.cons_append, List.nil_append, Option.isNone_some, Option.isNone_none]
    unfold S.order_tie.l5
    by_cases hlt2 : (j : Int) < (xl.length : Int)
    · have hjb : j < xl.length := by omega
      have ew2 : IntKind.i64.wrap ((j : Int) + 1) = ((j + 1 : Nat) : Int) := by rw [i64w]; omega
      have hvx := hvs xl[j] (List.getElem_mem hjb)
      have hvn : xl[j].toNat < on.length := by unfold Vx at hvx; omega
      have hol := (setAll (xl.take j) o (i : Int) hof.1 fun v hv => hvs v (List.mem_of_mem_take hv)).1
      have htk : (xl.take (j + 1)).foldl (fun o v => o.set v.toNat (i : Int)) o = ((xl.take j).foldl (fun o v => o.set v.toNat (i : Int)) o).set xl[j].toNat (i : Int) := by rw [List.take_succ_eq_append_getElem hjb, List.foldl_append]; rfl
      generalize (xl.take j).foldl (fun o v => o.set v.toNat (i : Int)) o = o2 at *
      obtain ⟨gx, ox, e2⟩ := posAddr (i := j) (a := xa) (A := I64) (l := xl) h hjb
      obtain ⟨gf, of_, e3⟩ := posAddr (i := xl[j].toNat) (a := ao) (A := I64) (l := o2) h (by rw [hol]; exact hvn)
      subst e2 e3
      (repeat (first | (first | (with_reducible (first | refine w1 fun _ _ => ?_ | refine w3 fun _ _ _ => ?_ | refine w4 fun _ _ _ => ?_ | refine w11 fun _ _ _ => ?_ | refine stb_n ?_)) | ((with_reducible refine w2 ?_); try simp -implicitDefEqProofs only [EN, lsub, lget, stL, beq_self_eq_true, ne_eq, if_true, if_false, List.cons_append, List.nil_append, Option.isNone_some, Option.isNone_none, hlt2, ix2 hjb]; intro _ _) | ((with_reducible (first | refine w5 ?_ ?_ | refine w6 ?_ ?_ | refine w7 ?_ ?_)); simp; refine ⟨_, rfl, ?_⟩) | ((with_reducible (first | refine w8 ?_ ?_ ?_ | refine w9 ?_ ?_ ?_ | refine w10 ?_ ?_ ?_)); exact rfl; simp) | ((with_reducible refine w12 ?_ ?_ ?_ fun _ _ => ?_); simp; simp; simp [oneC]) | ((with_reducible (first | refine eqs ?_ | refine nes ?_)); refine ⟨_, rfl, ?_⟩) | ((refine okF_i (bldP_eq rfl) ?_); try simp only [BLS, List.take_succ_cons, List.take_zero, List.drop_succ_cons, List.drop_zero, List.cons_append, List.nil_append, Nat.reduceAdd])) | simp -implicitDefEqProofs only [EN, lsub, lget, stL, beq_self_eq_true, ne_eq, if_true, if_false, List.cons_append, List.nil_append, Option.isNone_some, Option.isNone_none, hlt2, ix2 hjb]))
      refine ldA0 (i := j) (l := xl) (A := I64) (by first | assumption | exact St.tick (by assumption) | exact St.tick (St.tick (by assumption))) rfl hjb (v := .int .i64 xl[j]) rfl (by simp) ?_
      (repeat (first | (first | (with_reducible (first | refine w1 fun _ _ => ?_ | refine w3 fun _ _ _ => ?_ | refine w4 fun _ _ _ => ?_ | refine w11 fun _ _ _ => ?_ | refine stb_n ?_)) | ((with_reducible refine w2 ?_); try simp -implicitDefEqProofs only [EN, lsub, lget, stL, beq_self_eq_true, ne_eq, if_true, if_false, List.cons_append, List.nil_append, Option.isNone_some, Option.isNone_none, ix1 hvx]; intro _ _) | ((with_reducible (first | refine w5 ?_ ?_ | refine w6 ?_ ?_ | refine w7 ?_ ?_)); simp; refine ⟨_, rfl, ?_⟩) | ((with_reducible (first | refine w8 ?_ ?_ ?_ | refine w9 ?_ ?_ ?_ | refine w10 ?_ ?_ ?_)); exact rfl; simp) | ((with_reducible refine w12 ?_ ?_ ?_ fun _ _ => ?_); simp; simp; simp [oneC]) | ((with_reducible (first | refine eqs ?_ | refine nes ?_)); refine ⟨_, rfl, ?_⟩) | ((refine okF_i (bldP_eq rfl) ?_); try simp only [BLS, List.take_succ_cons, List.take_zero, List.drop_succ_cons, List.drop_zero, List.cons_append, List.nil_append, Nat.reduceAdd])) | simp -implicitDefEqProofs only [EN, lsub, lget, stL, beq_self_eq_true, ne_eq, if_true, if_false, List.cons_append, List.nil_append, Option.isNone_some, Option.isNone_none, ix1 hvx]))
      refine stG (i := xl[j].toNat) (l := o2) (by rw [hol]; exact hvn) (by first | assumption | exact St.tick (by assumption) | exact St.tick (St.tick (by assumption))) fun W6 h => ?_
      (repeat (first | (first | (with_reducible (first | refine w1 fun _ _ => ?_ | refine w3 fun _ _ _ => ?_ | refine w4 fun _ _ _ => ?_ | refine w11 fun _ _ _ => ?_ | refine stb_n ?_)) | ((with_reducible refine w2 ?_); try simp -implicitDefEqProofs only [EN, lsub, lget, stL, beq_self_eq_true, ne_eq, if_true, if_false, List.cons_append, List.nil_append, Option.isNone_some, Option.isNone_none, ew2]; intro _ _) | ((with_reducible (first | refine w5 ?_ ?_ | refine w6 ?_ ?_ | refine w7 ?_ ?_)); simp; refine ⟨_, rfl, ?_⟩) | ((with_reducible (first | refine w8 ?_ ?_ ?_ | refine w9 ?_ ?_ ?_ | refine w10 ?_ ?_ ?_)); exact rfl; simp) | ((with_reducible refine w12 ?_ ?_ ?_ fun _ _ => ?_); simp; simp; simp [oneC]) | ((with_reducible (first | refine eqs ?_ | refine nes ?_)); refine ⟨_, rfl, ?_⟩) | ((refine okF_i (bldP_eq rfl) ?_); try simp only [BLS, List.take_succ_cons, List.take_zero, List.drop_succ_cons, List.drop_zero, List.cons_append, List.nil_append, Nat.reduceAdd])) | simp -implicitDefEqProofs only [EN, lsub, lget, stL, beq_self_eq_true, ne_eq, if_true, if_false, List.cons_append, List.nil_append, Option.isNone_some, Option.isNone_none, ew2]))
      rw [← htk] at h
      exact hK2 () _ hjb h
    · have hjl : j = xl.length := by omega
      subst hjl
      rw [List.take_length, ← e] at h
      (repeat (first | (first | (with_reducible (first | refine w1 fun _ _ => ?_ | refine w3 fun _ _ _ => ?_ | refine w4 fun _ _ _ => ?_ | refine w11 fun _ _ _ => ?_ | refine stb_n ?_)) | ((with_reducible refine w2 ?_); try simp -implicitDefEqProofs only [EN, lsub, lget, stL, beq_self_eq_true, ne_eq, if_true, if_false, List.cons_append, List.nil_append, Option.isNone_some, Option.isNone_none, hlt2]; intro _ _) | ((with_reducible (first | refine w5 ?_ ?_ | refine w6 ?_ ?_ | refine w7 ?_ ?_)); simp; refine ⟨_, rfl, ?_⟩) | ((with_reducible (first | refine w8 ?_ ?_ ?_ | refine w9 ?_ ?_ ?_ | refine w10 ?_ ?_ ?_)); exact rfl; simp) | ((with_reducible refine w12 ?_ ?_ ?_ fun _ _ => ?_); simp; simp; simp [oneC]) | ((with_reducible (first | refine eqs ?_ | refine nes ?_)); refine ⟨_, rfl, ?_⟩) | ((refine okF_i (bldP_eq rfl) ?_); try simp only [BLS, List.take_succ_cons, List.take_zero, List.drop_succ_cons, List.drop_zero, List.cons_append, List.nil_append, Nat.reduceAdd])) | simp -implicitDefEqProofs only [EN, lsub, lget, stL, beq_self_eq_true, ne_eq, if_true, if_false, List.cons_append, List.nil_append, Option.isNone_some, Option.isNone_none, hlt2]))
      unfold S.order_tie.j7
      (repeat (first | (first | (with_reducible (first | refine w1 fun _ _ => ?_ | refine w3 fun _ _ _ => ?_ | refine w4 fun _ _ _ => ?_ | refine w11 fun _ _ _ => ?_ | refine stb_n ?_)) | ((with_reducible refine w2 ?_); try simp -implicitDefEqProofs only [EN, lsub, lget, stL, beq_self_eq_true, ne_eq, if_true, if_false, List.cons_append, List.nil_append, Option.isNone_some, Option.isNone_none, ew]; intro _ _) | ((with_reducible (first | refine w5 ?_ ?_ | refine w6 ?_ ?_ | refine w7 ?_ ?_)); simp; refine ⟨_, rfl, ?_⟩) | ((with_reducible (first | refine w8 ?_ ?_ ?_ | refine w9 ?_ ?_ ?_ | refine w10 ?_ ?_ ?_)); exact rfl; simp) | ((with_reducible refine w12 ?_ ?_ ?_ fun _ _ => ?_); simp; simp; simp [oneC]) | ((with_reducible (first | refine eqs ?_ | refine nes ?_)); refine ⟨_, rfl, ?_⟩) | ((refine okF_i (bldP_eq rfl) ?_); try simp only [BLS, List.take_succ_cons, List.take_zero, List.drop_succ_cons, List.drop_zero, List.cons_append, List.nil_append, Nat.reduceAdd])) | simp -implicitDefEqProofs only [EN, lsub, lget, stL, beq_self_eq_true, ne_eq, if_true, if_false, List.cons_append, List.nil_append, Option.isNone_some, Option.isNone_none, ew]))
      exact hK () _ hib h
  · have hil : i = all.length := by omega
    subst hil
    (repeat (first | (first | (with_reducible (first | refine w1 fun _ _ => ?_ | refine w3 fun _ _ _ => ?_ | refine w4 fun _ _ _ => ?_ | refine w11 fun _ _ _ => ?_ | refine stb_n ?_)) | ((with_reducible refine w2 ?_); try simp -implicitDefEqProofs only [EN, lsub, lget, stL, beq_self_eq_true, ne_eq, if_true, if_false, List.cons_append, List.nil_append, Option.isNone_some, Option.isNone_none, hlt]; intro _ _) | ((with_reducible (first | refine w5 ?_ ?_ | refine w6 ?_ ?_ | refine w7 ?_ ?_)); simp; refine ⟨_, rfl, ?_⟩) | ((with_reducible (first | refine w8 ?_ ?_ ?_ | refine w9 ?_ ?_ ?_ | refine w10 ?_ ?_ ?_)); exact rfl; simp) | ((with_reducible refine w12 ?_ ?_ ?_ fun _ _ => ?_); simp; simp; simp [oneC]) | ((with_reducible (first | refine eqs ?_ | refine nes ?_)); refine ⟨_, rfl, ?_⟩) | ((refine okF_i (bldP_eq rfl) ?_); try simp only [BLS, List.take_succ_cons, List.take_zero, List.drop_succ_cons, List.drop_zero, List.cons_append, List.nil_append, Nat.reduceAdd])) | simp -implicitDefEqProofs only [EN, lsub, lget, stL, beq_self_eq_true, ne_eq, if_true, if_false, List.cons_append, List.nil_append, Option.isNone_some, Option.isNone_none, hlt]))
    unfold S.order_tie.j1
    have hox := fun u (hu : Vx on.length u) => of_vx hp hu
    have hol := hof.1
    generalize ofF all on.length all.length = of at *
    clear hof
    have h1000 : all.length ≤ 1000000 := by omega
    have hto : ∀ g, g < all.length → ∀ v ∈ all.getD g [], ∀ u ∈ rowOf on v, Vx all.length (of.getD u.toNat 0) := fun g _ v _ u hu => hox u (hO.rng v u hu)
    have key : ∀ (p : Nat) (aw ab : Option Addr) (cw cb : Nat) (W : World), St W0 (cells p [.slice ag all.length cg, .slice aw all.length cw, .slice ab all.length cb] T_order_tied :: arr I64 T_int aw cw (List.replicate all.length 0) :: LI ab cb (List.replicate all.length []) ::
        arr I64 T_int ao co of :: arr ISY T_s_int a c rows :: many ich rows :: arr ISY T_s_int ag cg rg :: many ich rg :: L) W → S.order_tie.j2 k (.slice a on.length c) (.slice ag all.length cg) (.slice ao on.length co) (.pointer (some ⟨p, 0, none⟩)) W := by
      clear h
      intro p aw ab cw cb W h
      unfold S.order_tie.j2
      refine joinK_i ?_
      (repeat (first | (first | (with_reducible (first | refine w1 fun _ _ => ?_ | refine w3 fun _ _ _ => ?_ | refine w4 fun _ _ _ => ?_ | refine w11 fun _ _ _ => ?_ | refine stb_n ?_)) | ((with_reducible refine w2 ?_); try simp -implicitDefEqProofs only [EN, lsub, lget, stL, beq_self_eq_true, ne_eq, if_true, if_false, List.cons_append, List.nil_append, Option.isNone_some, Option.isNone_none]; intro _ _) | ((with_reducible (first | refine w5 ?_ ?_ | refine w6 ?_ ?_ | refine w7 ?_ ?_)); simp; refine ⟨_, rfl, ?_⟩) | ((with_reducible (first | refine w8 ?_ ?_ ?_ | refine w9 ?_ ?_ ?_ | refine w10 ?_ ?_ ?_)); exact rfl; simp) | ((with_reducible refine w12 ?_ ?_ ?_ fun _ _ => ?_); simp; simp; simp [oneC]) | ((with_reducible (first | refine eqs ?_ | refine nes ?_)); refine ⟨_, rfl, ?_⟩) | ((refine okF_i (bldP_eq rfl) ?_); try simp only [BLS, List.take_succ_cons, List.take_zero, List.drop_succ_cons, List.drop_zero, List.cons_append, List.nil_append, Nat.reduceAdd])) | simp -implicitDefEqProofs only [EN, lsub, lget, stL, beq_self_eq_true, ne_eq, if_true, if_false, List.cons_append, List.nil_append, Option.isNone_some, Option.isNone_none]))
      refine loop_c (σ := Unit) all.length (fun i _ => [.slice a on.length c, .slice ag all.length cg, .slice ao on.length co, .pointer (some ⟨p, 0, none⟩), .slice ag all.length cg, .int .i64 all.length, .int .i64 (i : Int)])
        (fun i _ W1 => St W0 (cells p [.slice ag all.length cg, .slice aw all.length cw, .slice ab all.length cb] T_order_tied :: arr I64 T_int aw cw (tieF on of all i).1 :: LI ab cb (tieF on of all i).2 ::
          arr I64 T_int ao co of :: arr ISY T_s_int a c rows :: many ich rows :: arr ISY T_s_int ag cg rg :: many ich rg :: L) W1) () rfl h ?_
      clear h
      rintro K i _ W1 hi h hK
      simp -implicitDefEqProofs only [EN, lsub, lget, stL, beq_self_eq_true, ne_eq, if_true, if_false, List.cons_append, List.nil_append, Option.isNone_some, Option.isNone_none]
      unfold S.order_tie.l1
      have hTW := tieF_tw hto i hi
      by_cases hlt : (i : Int) < (all.length : Int)
      · have hib : i < all.length := by omega
        have hir : i < rg.length := by omega
        have ew : IntKind.i64.wrap ((i : Int) + 1) = ((i + 1 : Nat) : Int) := by rw [i64w]; omega
        have e : tieF on of all (i + 1) = tieG on of all (tieF on of all i) i := by unfold tieF; rw [List.range_succ, List.foldl_append]; rfl
        have hrow := row_at hir
        rw [hrg] at hrow
        have hvs : ∀ v ∈ all.getD i [], Vx on.length v := fun v hv => (hp'.mem v).1 (memFlat hv)
        have hlen : (all.getD i []).length ≤ on.length := nodup_len ((List.Sublist.nodup · hp'.nd) (by
          rw [List.getD_eq_getElem?_getD, List.getElem?_eq_getElem hib]; exact List.sublist_flatten_of_mem (List.getElem_mem hib))) hvs
        generalize tieF on of all i = wb at *
        obtain ⟨w0, b0⟩ := wb
        have hst := (start_ti (w0 := w0) (b0 := b0) hib hTW.lw hTW.lb).1
        have hmem : rg[i] ∈ rg := List.getElem_mem hir
        obtain ⟨gg, og, e1⟩ := posAddr (i := i) (a := ag) (A := ISY) (l := rg) h hir
        subst e1
        unfold tieG at e
        rw [← hrow] at e hvs hlen
        have hvm : ∀ v ∈ rg[i].l, ∀ u ∈ rowOf on v, Vx all.length (of.getD u.toNat 0) := fun v _ u hu => hox u (hO.rng v u hu)
        (repeat (first | (first | (with_reducible (first | refine w1 fun _ _ => ?_ | refine w3 fun _ _ _ => ?_ | refine w4 fun _ _ _ => ?_ | refine w11 fun _ _ _ => ?_ | refine stb_n ?_)) | ((with_reducible refine w2 ?_); try simp -implicitDefEqProofs only [EN, lsub, lget, stL, beq_self_eq_true, ne_eq, if_true, if_false, List.cons_append, List.nil_append, Option.isNone_some, Option.isNone_none, hlt]; intro _ _) | ((with_reducible (first | refine w5 ?_ ?_ | refine w6 ?_ ?_ | refine w7 ?_ ?_)); simp; refine ⟨_, rfl, ?_⟩) | ((with_reducible (first | refine w8 ?_ ?_ ?_ | refine w9 ?_ ?_ ?_ | refine w10 ?_ ?_ ?_)); exact rfl; simp) | ((with_reducible refine w12 ?_ ?_ ?_ fun _ _ => ?_); simp; simp; simp [oneC]) | ((with_reducible (first | refine eqs ?_ | refine nes ?_)); refine ⟨_, rfl, ?_⟩) | ((refine okF_i (bldP_eq rfl) ?_); try simp only [BLS, List.take_succ_cons, List.take_zero, List.drop_succ_cons, List.drop_zero, List.cons_append, List.nil_append, Nat.reduceAdd])) | simp -implicitDefEqProofs only [EN, lsub, lget, stL, beq_self_eq_true, ne_eq, if_true, if_false, List.cons_append, List.nil_append, Option.isNone_some, Option.isNone_none, hlt]))
        refine joinK_i ?_
        (repeat (first | (first | (with_reducible (first | refine w1 fun _ _ => ?_ | refine w3 fun _ _ _ => ?_ | refine w4 fun _ _ _ => ?_ | refine w11 fun _ _ _ => ?_ | refine stb_n ?_)) | ((with_reducible refine w2 ?_); try simp -implicitDefEqProofs only [EN, lsub, lget, stL, beq_self_eq_true, ne_eq, if_true, if_false, List.cons_append, List.nil_append, Option.isNone_some, Option.isNone_none, ix2 hib]; intro _ _) | ((with_reducible (first | refine w5 ?_ ?_ | refine w6 ?_ ?_ | refine w7 ?_ ?_)); simp; refine ⟨_, rfl, ?_⟩) | ((with_reducible (first | refine w8 ?_ ?_ ?_ | refine w9 ?_ ?_ ?_ | refine w10 ?_ ?_ ?_)); exact rfl; simp) | ((with_reducible refine w12 ?_ ?_ ?_ fun _ _ => ?_); simp; simp; simp [oneC]) | ((with_reducible (first | refine eqs ?_ | refine nes ?_)); refine ⟨_, rfl, ?_⟩) | ((refine okF_i (bldP_eq rfl) ?_); try simp only [BLS, List.take_succ_cons, List.take_zero, List.drop_succ_cons, List.drop_zero, List.cons_append, List.nil_append, Nat.reduceAdd])) | simp -implicitDefEqProofs only [EN, lsub, lget, stL, beq_self_eq_true, ne_eq, if_true, if_false, List.cons_append, List.nil_append, Option.isNone_some, Option.isNone_none, ix2 hib]))
        refine ldR hir (by first | assumption | exact St.tick (by assumption) | exact St.tick (St.tick (by assumption))) ?_
        generalize rg[i] = x at *
        obtain ⟨xa, xc, xl⟩ := x
        simp only at e hvs hlen hvm
        haveI hrd := ich_rd (W0 := W0) (L := L) hmem
        (repeat (first | (first | (with_reducible (first | refine w1 fun _ _ => ?_ | refine w3 fun _ _ _ => ?_ | refine w4 fun _ _ _ => ?_ | refine w11 fun _ _ _ => ?_ | refine stb_n ?_)) | ((with_reducible refine w2 ?_); try simp -implicitDefEqProofs only [EN, lsub, lget, stL, beq_self_eq_true, ne_eq, if_true, if_false, List.cons_append, List.nil_append, Option.isNone_some, Option.isNone_none]; intro _ _) | ((with_reducible (first | refine w5 ?_ ?_ | refine w6 ?_ ?_ | refine w7 ?_ ?_)); simp; refine ⟨_, rfl, ?_⟩) | ((with_reducible (first | refine w8 ?_ ?_ ?_ | refine w9 ?_ ?_ ?_ | refine w10 ?_ ?_ ?_)); exact rfl; simp) | ((with_reducible refine w12 ?_ ?_ ?_ fun _ _ => ?_); simp; simp; simp [oneC]) | ((with_reducible (first | refine eqs ?_ | refine nes ?_)); refine ⟨_, rfl, ?_⟩) | ((refine okF_i (bldP_eq rfl) ?_); try simp only [BLS, List.take_succ_cons, List.take_zero, List.drop_succ_cons, List.drop_zero, List.cons_append, List.nil_append, Nat.reduceAdd])) | simp -implicitDefEqProofs only [EN, lsub, lget, stL, beq_self_eq_true, ne_eq, if_true, if_false, List.cons_append, List.nil_append, Option.isNone_some, Option.isNone_none]))
        refine mkB (by first | assumption | exact St.tick (by assumption) | exact St.tick (St.tick (by assumption))) (by omega) fun ah ch W2 h => ?_
        obtain ⟨gh, oh, e2⟩ := posAddr (i := i) (a := ah) (A := BOO) (l := List.replicate all.length false) h (by simpa using hib)
        subst e2
        (repeat (first | (first | (with_reducible (first | refine w1 fun _ _ => ?_ | refine w3 fun _ _ _ => ?_ | refine w4 fun _ _ _ => ?_ | refine w11 fun _ _ _ => ?_ | refine stb_n ?_)) | ((with_reducible refine w2 ?_); try simp -implicitDefEqProofs only [EN, lsub, lget, stL, beq_self_eq_true, ne_eq, if_true, if_false, List.cons_append, List.nil_append, Option.isNone_some, Option.isNone_none, ix2 hib]; intro _ _) | ((with_reducible (first | refine w5 ?_ ?_ | refine w6 ?_ ?_ | refine w7 ?_ ?_)); simp; refine ⟨_, rfl, ?_⟩) | ((with_reducible (first | refine w8 ?_ ?_ ?_ | refine w9 ?_ ?_ ?_ | refine w10 ?_ ?_ ?_)); exact rfl; simp) | ((with_reducible refine w12 ?_ ?_ ?_ fun _ _ => ?_); simp; simp; simp [oneC]) | ((with_reducible (first | refine eqs ?_ | refine nes ?_)); refine ⟨_, rfl, ?_⟩) | ((refine okF_i (bldP_eq rfl) ?_); try simp only [BLS, List.take_succ_cons, List.take_zero, List.drop_succ_cons, List.drop_zero, List.cons_append, List.nil_append, Nat.reduceAdd])) | simp -implicitDefEqProofs only [EN, lsub, lget, stL, beq_self_eq_true, ne_eq, if_true, if_false, List.cons_append, List.nil_append, Option.isNone_some, Option.isNone_none, ix2 hib]))
        refine stGb (i := i) (m := List.replicate all.length false) (x := true) (by simpa using hib) (by first | assumption | exact St.tick (by assumption) | exact St.tick (St.tick (by assumption))) fun W3 h => ?_
        (repeat (first | (first | (with_reducible (first | refine w1 fun _ _ => ?_ | refine w3 fun _ _ _ => ?_ | refine w4 fun _ _ _ => ?_ | refine w11 fun _ _ _ => ?_ | refine stb_n ?_)) | ((with_reducible refine w2 ?_); try simp -implicitDefEqProofs only [EN, lsub, lget, stL, beq_self_eq_true, ne_eq, if_true, if_false, List.cons_append, List.nil_append, Option.isNone_some, Option.isNone_none]; intro _ _) | ((with_reducible (first | refine w5 ?_ ?_ | refine w6 ?_ ?_ | refine w7 ?_ ?_)); simp; refine ⟨_, rfl, ?_⟩) | ((with_reducible (first | refine w8 ?_ ?_ ?_ | refine w9 ?_ ?_ ?_ | refine w10 ?_ ?_ ?_)); exact rfl; simp) | ((with_reducible refine w12 ?_ ?_ ?_ fun _ _ => ?_); simp; simp; simp [oneC]) | ((with_reducible (first | refine eqs ?_ | refine nes ?_)); refine ⟨_, rfl, ?_⟩) | ((refine okF_i (bldP_eq rfl) ?_); try simp only [BLS, List.take_succ_cons, List.take_zero, List.drop_succ_cons, List.drop_zero, List.cons_append, List.nil_append, Nat.reduceAdd])) | simp -implicitDefEqProofs only [EN, lsub, lget, stL, beq_self_eq_true, ne_eq, if_true, if_false, List.cons_append, List.nil_append, Option.isNone_some, Option.isNone_none]))
        have h := St.wk (L' := arr BOO T_bool (some ⟨gh, oh, none⟩) ch ((List.replicate all.length false).set i true) :: arr I64 T_int aw cw w0 :: LI ab cb b0 ::
          cells p [.slice (some ⟨gg, og, none⟩) all.length cg, .slice aw all.length cw, .slice ab all.length cb] T_order_tied ::
          arr I64 T_int ao co of :: arr ISY T_s_int a c rows :: many ich rows :: arr ISY T_s_int (some ⟨gg, og, none⟩) cg rg :: many ich rg :: L) (by first | assumption | exact St.tick (by assumption) | exact St.tick (St.tick (by assumption)))
        generalize hs0 : (⟨(List.replicate all.length false).set i true, w0, b0⟩ : TS) = s0 at *
        refine loop_c (σ := Unit) xl.length (fun j _ => [.slice a on.length c, .slice (some ⟨gg, og, none⟩) all.length cg, .slice ao on.length co, .pointer (some ⟨p, 0, none⟩), .int .i64 (i : Int), .slice (some ⟨gh, oh, none⟩) all.length ch, .slice (some ⟨gg, og, none⟩) all.length cg, .int .i64 all.length, .int .i64 (i : Int), .slice xa xl.length xc, .int .i64 xl.length, .int .i64 (j : Int)])
          (fun j _ W1 => St W0 (arr BOO T_bool (some ⟨gh, oh, none⟩) ch ((xl.take j).foldl (tieV on of i) s0).had :: arr I64 T_int aw cw ((xl.take j).foldl (tieV on of i) s0).waits :: LI ab cb ((xl.take j).foldl (tieV on of i) s0).back ::
          cells p [.slice (some ⟨gg, og, none⟩) all.length cg, .slice aw all.length cw, .slice ab all.length cb] T_order_tied ::
          arr I64 T_int ao co of :: arr ISY T_s_int a c rows :: many ich rows :: arr ISY T_s_int (some ⟨gg, og, none⟩) cg rg :: many ich rg :: L) W1) () rfl (by subst hs0; exact h) ?_
        clear h
        rintro K2 j _ W5 hj h hK2
        simp -implicitDefEqProofs only [EN, lsub, lget, stL, beq_self_eq_true, ne_eq, if_true, if_false, List.cons_append, List.nil_append, Option.isNone_some, Option.isNone_none]
        unfold S.order_tie.l2
        have hT1 := (tieVs_ti (on := on) (of := of) hib (xl.take j) s0 hst (fun v hv => hvm v (List.mem_of_mem_take hv))).1
        by_cases hlt2 : (j : Int) < (xl.length : Int)
        · have hjb : j < xl.length := by omega
          have ew2 : IntKind.i64.wrap ((j : Int) + 1) = ((j + 1 : Nat) : Int) := by rw [i64w]; omega
          have hvx := hvs xl[j] (List.getElem_mem hjb)
          have hvn : xl[j].toNat < on.length := by unfold Vx at hvx; omega
          have hvr : xl[j].toNat < rows.length := by omega
          have htk : (xl.take (j + 1)).foldl (tieV on of i) s0 = (rowOf on xl[j]).foldl (fun s u => tieU i (of.getD u.toNat 0) s) ((xl.take j).foldl (tieV on of i) s0) := by rw [List.take_succ_eq_append_getElem hjb, List.foldl_append]; rfl
          have hum := hvm xl[j] (List.getElem_mem hjb)
          have hyx := hO.rng xl[j]
          have hro : rowOf on xl[j] = rows[xl[j].toNat].l := by unfold rowOf; rw [row_at hvr, hrows]
          have hul := hrl xl[j]
          rw [hro] at htk hum hul hyx
          have hmr : rows[xl[j].toNat] ∈ rows := List.getElem_mem hvr
          generalize (xl.take j).foldl (tieV on of i) s0 = s1 at *
          obtain ⟨gx, ox, e2⟩ := posAddr (i := j) (a := xa) (A := I64) (l := xl) h hjb
          obtain ⟨gr, or', e3⟩ := posAddr (i := xl[j].toNat) (a := a) (A := ISY) (l := rows) h hvr
          subst e2 e3
          (repeat (first | (first | (with_reducible (first | refine w1 fun _ _ => ?_ | refine w3 fun _ _ _ => ?_ | refine w4 fun _ _ _ => ?_ | refine w11 fun _ _ _ => ?_ | refine stb_n ?_)) | ((with_reducible refine w2 ?_); try simp -implicitDefEqProofs only [EN, lsub, lget, stL, beq_self_eq_true, ne_eq, if_true, if_false, List.cons_append, List.nil_append, Option.isNone_some, Option.isNone_none, hlt2]; intro _ _) | ((with_reducible (first | refine w5 ?_ ?_ | refine w6 ?_ ?_ | refine w7 ?_ ?_)); simp; refine ⟨_, rfl, ?_⟩) | ((with_reducible (first | refine w8 ?_ ?_ ?_ | refine w9 ?_ ?_ ?_ | refine w10 ?_ ?_ ?_)); exact rfl; simp) | ((with_reducible refine w12 ?_ ?_ ?_ fun _ _ => ?_); simp; simp; simp [oneC]) | ((with_reducible (first | refine eqs ?_ | refine nes ?_)); refine ⟨_, rfl, ?_⟩) | ((refine okF_i (bldP_eq rfl) ?_); try simp only [BLS, List.take_succ_cons, List.take_zero, List.drop_succ_cons, List.drop_zero, List.cons_append, List.nil_append, Nat.reduceAdd])) | simp -implicitDefEqProofs only [EN, lsub, lget, stL, beq_self_eq_true, ne_eq, if_true, if_false, List.cons_append, List.nil_append, Option.isNone_some, Option.isNone_none, hlt2]))
          refine joinK_i ?_
          (repeat (first | (first | (with_reducible (first | refine w1 fun _ _ => ?_ | refine w3 fun _ _ _ => ?_ | refine w4 fun _ _ _ => ?_ | refine w11 fun _ _ _ => ?_ | refine stb_n ?_)) | ((with_reducible refine w2 ?_); try simp -implicitDefEqProofs only [EN, lsub, lget, stL, beq_self_eq_true, ne_eq, if_true, if_false, List.cons_append, List.nil_append, Option.isNone_some, Option.isNone_none, ix2 hjb]; intro _ _) | ((with_reducible (first | refine w5 ?_ ?_ | refine w6 ?_ ?_ | refine w7 ?_ ?_)); simp; refine ⟨_, rfl, ?_⟩) | ((with_reducible (first | refine w8 ?_ ?_ ?_ | refine w9 ?_ ?_ ?_ | refine w10 ?_ ?_ ?_)); exact rfl; simp) | ((with_reducible refine w12 ?_ ?_ ?_ fun _ _ => ?_); simp; simp; simp [oneC]) | ((with_reducible (first | refine eqs ?_ | refine nes ?_)); refine ⟨_, rfl, ?_⟩) | ((refine okF_i (bldP_eq rfl) ?_); try simp only [BLS, List.take_succ_cons, List.take_zero, List.drop_succ_cons, List.drop_zero, List.cons_append, List.nil_append, Nat.reduceAdd])) | simp -implicitDefEqProofs only [EN, lsub, lget, stL, beq_self_eq_true, ne_eq, if_true, if_false, List.cons_append, List.nil_append, Option.isNone_some, Option.isNone_none, ix2 hjb]))
          refine ldA0 (i := j) (l := xl) (A := I64) (by first | assumption | exact St.tick (by assumption) | exact St.tick (St.tick (by assumption))) rfl hjb (v := .int .i64 xl[j]) rfl (by simp) ?_
          (repeat (first | (first | (with_reducible (first | refine w1 fun _ _ => ?_ | refine w3 fun _ _ _ => ?_ | refine w4 fun _ _ _ => ?_ | refine w11 fun _ _ _ => ?_ | refine stb_n ?_)) | ((with_reducible refine w2 ?_); try simp -implicitDefEqProofs only [EN, lsub, lget, stL, beq_self_eq_true, ne_eq, if_true, if_false, List.cons_append, List.nil_append, Option.isNone_some, Option.isNone_none, ix1 hvx]; intro _ _) | ((with_reducible (first | refine w5 ?_ ?_ | refine w6 ?_ ?_ | refine w7 ?_ ?_)); simp; refine ⟨_, rfl, ?_⟩) | ((with_reducible (first | refine w8 ?_ ?_ ?_ | refine w9 ?_ ?_ ?_ | refine w10 ?_ ?_ ?_)); exact rfl; simp) | ((with_reducible refine w12 ?_ ?_ ?_ fun _ _ => ?_); simp; simp; simp [oneC]) | ((with_reducible (first | refine eqs ?_ | refine nes ?_)); refine ⟨_, rfl, ?_⟩) | ((refine okF_i (bldP_eq rfl) ?_); try simp only [BLS, List.take_succ_cons, List.take_zero, List.drop_succ_cons, List.drop_zero, List.cons_append, List.nil_append, Nat.reduceAdd])) | simp -implicitDefEqProofs only [EN, lsub, lget, stL, beq_self_eq_true, ne_eq, if_true, if_false, List.cons_append, List.nil_append, Option.isNone_some, Option.isNone_none, ix1 hvx]))
          refine ldR hvr (by first | assumption | exact St.tick (by assumption) | exact St.tick (St.tick (by assumption))) ?_
          generalize rows[xl[j].toNat] = y at *
          obtain ⟨ya, yc, yl⟩ := y
          simp only at htk hum hul hyx
          haveI hrd2 := ich_rd (W0 := W0) (L := arr ISY T_s_int (some ⟨gg, og, none⟩) cg rg :: many ich rg :: L) hmr
          (repeat (first | (first | (with_reducible (first | refine w1 fun _ _ => ?_ | refine w3 fun _ _ _ => ?_ | refine w4 fun _ _ _ => ?_ | refine w11 fun _ _ _ => ?_ | refine stb_n ?_)) | ((with_reducible refine w2 ?_); try simp -implicitDefEqProofs only [EN, lsub, lget, stL, beq_self_eq_true, ne_eq, if_true, if_false, List.cons_append, List.nil_append, Option.isNone_some, Option.isNone_none]; intro _ _) | ((with_reducible (first | refine w5 ?_ ?_ | refine w6 ?_ ?_ | refine w7 ?_ ?_)); simp; refine ⟨_, rfl, ?_⟩) | ((with_reducible (first | refine w8 ?_ ?_ ?_ | refine w9 ?_ ?_ ?_ | refine w10 ?_ ?_ ?_)); exact rfl; simp) | ((with_reducible refine w12 ?_ ?_ ?_ fun _ _ => ?_); simp; simp; simp [oneC]) | ((with_reducible (first | refine eqs ?_ | refine nes ?_)); refine ⟨_, rfl, ?_⟩) | ((refine okF_i (bldP_eq rfl) ?_); try simp only [BLS, List.take_succ_cons, List.take_zero, List.drop_succ_cons, List.drop_zero, List.cons_append, List.nil_append, Nat.reduceAdd])) | simp -implicitDefEqProofs only [EN, lsub, lget, stL, beq_self_eq_true, ne_eq, if_true, if_false, List.cons_append, List.nil_append, Option.isNone_some, Option.isNone_none]))
          refine loop_c (σ := Unit) yl.length (fun q _ => [.slice (some ⟨gr, or', none⟩) on.length c, .slice (some ⟨gg, og, none⟩) all.length cg, .slice ao on.length co, .pointer (some ⟨p, 0, none⟩), .int .i64 (i : Int), .slice (some ⟨gh, oh, none⟩) all.length ch, .slice (some ⟨gg, og, none⟩) all.length cg, .int .i64 all.length, .int .i64 (i : Int), .slice (some ⟨gx, ox, none⟩) xl.length xc, .int .i64 xl.length, .int .i64 (j : Int), .slice ya yl.length yc, .int .i64 yl.length, .int .i64 (q : Int)])
            (fun q _ W1 => St W0 (arr BOO T_bool (some ⟨gh, oh, none⟩) ch ((yl.take q).foldl (fun s u => tieU i (of.getD u.toNat 0) s) s1).had :: arr I64 T_int aw cw ((yl.take q).foldl (fun s u => tieU i (of.getD u.toNat 0) s) s1).waits :: LI ab cb ((yl.take q).foldl (fun s u => tieU i (of.getD u.toNat 0) s) s1).back ::
            cells p [.slice (some ⟨gg, og, none⟩) all.length cg, .slice aw all.length cw, .slice ab all.length cb] T_order_tied ::
            arr I64 T_int ao co of :: arr ISY T_s_int (some ⟨gr, or', none⟩) c rows :: many ich rows :: arr ISY T_s_int (some ⟨gg, og, none⟩) cg rg :: many ich rg :: L) W1) () rfl h ?_
          clear h
          rintro K3 q _ W6 hq h hK3
          simp -implicitDefEqProofs only [EN, lsub, lget, stL, beq_self_eq_true, ne_eq, if_true, if_false, List.cons_append, List.nil_append, Option.isNone_some, Option.isNone_none]
          unfold S.order_tie.l3
          have hT2 := (tieUs_ti (of := of) hib (yl.take q) s1 hT1 (fun u hu => hum u (List.mem_of_mem_take hu))).1
          by_cases hlt3 : (q : Int) < (yl.length : Int)
          · have hqb : q < yl.length := by omega
            have ew3 : IntKind.i64.wrap ((q : Int) + 1) = ((q + 1 : Nat) : Int) := by rw [i64w]; omega
            have htk3 : (yl.take (q + 1)).foldl (fun s u => tieU i (of.getD u.toNat 0) s) s1 = tieU i (of.getD yl[q].toNat 0) ((yl.take q).foldl (fun s u => tieU i (of.getD u.toNat 0) s) s1) := by rw [List.take_succ_eq_append_getElem hqb, List.foldl_append]; rfl
            have hkx := hum yl[q] (List.getElem_mem hqb)
            have hux : Vx on.length yl[q] := hyx yl[q] (List.getElem_mem hqb)
            have hun : yl[q].toNat < of.length := by unfold Vx at hux; omega
            generalize (yl.take q).foldl (fun s u => tieU i (of.getD u.toNat 0) s) s1 = s2 at *
            obtain ⟨gy, oy, e2⟩ := posAddr (i := q) (a := ya) (A := I64) (l := yl) h hqb
            obtain ⟨gf, of_, e3⟩ := posAddr (i := yl[q].toNat) (a := ao) (A := I64) (l := of) h hun
            subst e2 e3
            (repeat (first | (first | (with_reducible (first | refine w1 fun _ _ => ?_ | refine w3 fun _ _ _ => ?_ | refine w4 fun _ _ _ => ?_ | refine w11 fun _ _ _ => ?_ | refine stb_n ?_)) | ((with_reducible refine w2 ?_); try simp -implicitDefEqProofs only [EN, lsub, lget, stL, beq_self_eq_true, ne_eq, if_true, if_false, List.cons_append, List.nil_append, Option.isNone_some, Option.isNone_none, hlt3]; intro _ _) | ((with_reducible (first | refine w5 ?_ ?_ | refine w6 ?_ ?_ | refine w7 ?_ ?_)); simp; refine ⟨_, rfl, ?_⟩) | ((with_reducible (first | refine w8 ?_ ?_ ?_ | refine w9 ?_ ?_ ?_ | refine w10 ?_ ?_ ?_)); exact rfl; simp) | ((with_reducible refine w12 ?_ ?_ ?_ fun _ _ => ?_); simp; simp; simp [oneC]) | ((with_reducible (first | refine eqs ?_ | refine nes ?_)); refine ⟨_, rfl, ?_⟩) | ((refine okF_i (bldP_eq rfl) ?_); try simp only [BLS, List.take_succ_cons, List.take_zero, List.drop_succ_cons, List.drop_zero, List.cons_append, List.nil_append, Nat.reduceAdd])) | simp -implicitDefEqProofs only [EN, lsub, lget, stL, beq_self_eq_true, ne_eq, if_true, if_false, List.cons_append, List.nil_append, Option.isNone_some, Option.isNone_none, hlt3]))
            refine joinK_i ?_
            (repeat (first | (first | (with_reducible (first | refine w1 fun _ _ => ?_ | refine w3 fun _ _ _ => ?_ | refine w4 fun _ _ _ => ?_ | refine w11 fun _ _ _ => ?_ | refine stb_n ?_)) | ((with_reducible refine w2 ?_); try simp -implicitDefEqProofs only [EN, lsub, lget, stL, beq_self_eq_true, ne_eq, if_true, if_false, List.cons_append, List.nil_append, Option.isNone_some, Option.isNone_none, ix2 hqb]; intro _ _) | ((with_reducible (first | refine w5 ?_ ?_ | refine w6 ?_ ?_ | refine w7 ?_ ?_)); simp; refine ⟨_, rfl, ?_⟩) | ((with_reducible (first | refine w8 ?_ ?_ ?_ | refine w9 ?_ ?_ ?_ | refine w10 ?_ ?_ ?_)); exact rfl; simp) | ((with_reducible refine w12 ?_ ?_ ?_ fun _ _ => ?_); simp; simp; simp [oneC]) | ((with_reducible (first | refine eqs ?_ | refine nes ?_)); refine ⟨_, rfl, ?_⟩) | ((refine okF_i (bldP_eq rfl) ?_); try simp only [BLS, List.take_succ_cons, List.take_zero, List.drop_succ_cons, List.drop_zero, List.cons_append, List.nil_append, Nat.reduceAdd])) | simp -implicitDefEqProofs only [EN, lsub, lget, stL, beq_self_eq_true, ne_eq, if_true, if_false, List.cons_append, List.nil_append, Option.isNone_some, Option.isNone_none, ix2 hqb]))
            refine ldA0 (i := q) (l := yl) (A := I64) (by first | assumption | exact St.tick (by assumption) | exact St.tick (St.tick (by assumption))) rfl hqb (v := .int .i64 yl[q]) rfl (by simp) ?_
            (repeat (first | (first | (with_reducible (first | refine w1 fun _ _ => ?_ | refine w3 fun _ _ _ => ?_ | refine w4 fun _ _ _ => ?_ | refine w11 fun _ _ _ => ?_ | refine stb_n ?_)) | ((with_reducible refine w2 ?_); try simp -implicitDefEqProofs only [EN, lsub, lget, stL, beq_self_eq_true, ne_eq, if_true, if_false, List.cons_append, List.nil_append, Option.isNone_some, Option.isNone_none, ix1 hux]; intro _ _) | ((with_reducible (first | refine w5 ?_ ?_ | refine w6 ?_ ?_ | refine w7 ?_ ?_)); simp; refine ⟨_, rfl, ?_⟩) | ((with_reducible (first | refine w8 ?_ ?_ ?_ | refine w9 ?_ ?_ ?_ | refine w10 ?_ ?_ ?_)); exact rfl; simp) | ((with_reducible refine w12 ?_ ?_ ?_ fun _ _ => ?_); simp; simp; simp [oneC]) | ((with_reducible (first | refine eqs ?_ | refine nes ?_)); refine ⟨_, rfl, ?_⟩) | ((refine okF_i (bldP_eq rfl) ?_); try simp only [BLS, List.take_succ_cons, List.take_zero, List.drop_succ_cons, List.drop_zero, List.cons_append, List.nil_append, Nat.reduceAdd])) | simp -implicitDefEqProofs only [EN, lsub, lget, stL, beq_self_eq_true, ne_eq, if_true, if_false, List.cons_append, List.nil_append, Option.isNone_some, Option.isNone_none, ix1 hux]))
            refine ldG (i := yl[q].toNat) (l := of) hun (by first | assumption | exact St.tick (by assumption) | exact St.tick (St.tick (by assumption))) ?_
            generalize of.getD yl[q].toNat 0 = kk at *
            have hkn : kk.toNat < all.length := by unfold Vx at hkx; omega
            (repeat (first | (first | (with_reducible (first | refine w1 fun _ _ => ?_ | refine w3 fun _ _ _ => ?_ | refine w4 fun _ _ _ => ?_ | refine w11 fun _ _ _ => ?_ | refine stb_n ?_)) | ((with_reducible refine w2 ?_); try simp -implicitDefEqProofs only [EN, lsub, lget, stL, beq_self_eq_true, ne_eq, if_true, if_false, List.cons_append, List.nil_append, Option.isNone_some, Option.isNone_none, ix1 hkx]; intro _ _) | ((with_reducible (first | refine w5 ?_ ?_ | refine w6 ?_ ?_ | refine w7 ?_ ?_)); simp; refine ⟨_, rfl, ?_⟩) | ((with_reducible (first | refine w8 ?_ ?_ ?_ | refine w9 ?_ ?_ ?_ | refine w10 ?_ ?_ ?_)); exact rfl; simp) | ((with_reducible refine w12 ?_ ?_ ?_ fun _ _ => ?_); simp; simp; simp [oneC]) | ((with_reducible (first | refine eqs ?_ | refine nes ?_)); refine ⟨_, rfl, ?_⟩) | ((refine okF_i (bldP_eq rfl) ?_); try simp only [BLS, List.take_succ_cons, List.take_zero, List.drop_succ_cons, List.drop_zero, List.cons_append, List.nil_append, Nat.reduceAdd])) | simp -implicitDefEqProofs only [EN, lsub, lget, stL, beq_self_eq_true, ne_eq, if_true, if_false, List.cons_append, List.nil_append, Option.isNone_some, Option.isNone_none, ix1 hkx]))
            refine ldGb (i := kk.toNat) (m := s2.had) (by rw [hT2.lh]; exact hkn) (by first | assumption | exact St.tick (by assumption) | exact St.tick (St.tick (by assumption))) ?_
            by_cases hh : s2.had.getD kk.toNat false = true
            · have et : tieU i kk s2 = s2 := by unfold tieU; rw [if_pos hh]
              rw [et] at htk3
              rw [hh]
              (repeat (first | (first | (with_reducible (first | refine w1 fun _ _ => ?_ | refine w3 fun _ _ _ => ?_ | refine w4 fun _ _ _ => ?_ | refine w11 fun _ _ _ => ?_ | refine stb_n ?_)) | ((with_reducible refine w2 ?_); try simp -implicitDefEqProofs only [EN, lsub, lget, stL, beq_self_eq_true, ne_eq, if_true, if_false, List.cons_append, List.nil_append, Option.isNone_some, Option.isNone_none]; intro _ _) | ((with_reducible (first | refine w5 ?_ ?_ | refine w6 ?_ ?_ | refine w7 ?_ ?_)); simp; refine ⟨_, rfl, ?_⟩) | ((with_reducible (first | refine w8 ?_ ?_ ?_ | refine w9 ?_ ?_ ?_ | refine w10 ?_ ?_ ?_)); exact rfl; simp) | ((with_reducible refine w12 ?_ ?_ ?_ fun _ _ => ?_); simp; simp; simp [oneC]) | ((with_reducible (first | refine eqs ?_ | refine nes ?_)); refine ⟨_, rfl, ?_⟩) | ((refine okF_i (bldP_eq rfl) ?_); try simp only [BLS, List.take_succ_cons, List.take_zero, List.drop_succ_cons, List.drop_zero, List.cons_append, List.nil_append, Nat.reduceAdd])) | simp -implicitDefEqProofs only [EN, lsub, lget, stL, beq_self_eq_true, ne_eq, if_true, if_false, List.cons_append, List.nil_append, Option.isNone_some, Option.isNone_none]))
              unfold S.order_tie.j6
              (repeat (first | (first | (with_reducible (first | refine w1 fun _ _ => ?_ | refine w3 fun _ _ _ => ?_ | refine w4 fun _ _ _ => ?_ | refine w11 fun _ _ _ => ?_ | refine stb_n ?_)) | ((with_reducible refine w2 ?_); try simp -implicitDefEqProofs only [EN, lsub, lget, stL, beq_self_eq_true, ne_eq, if_true, if_false, List.cons_append, List.nil_append, Option.isNone_some, Option.isNone_none, ew3]; intro _ _) | ((with_reducible (first | refine w5 ?_ ?_ | refine w6 ?_ ?_ | refine w7 ?_ ?_)); simp; refine ⟨_, rfl, ?_⟩) | ((with_reducible (first | refine w8 ?_ ?_ ?_ | refine w9 ?_ ?_ ?_ | refine w10 ?_ ?_ ?_)); exact rfl; simp) | ((with_reducible refine w12 ?_ ?_ ?_ fun _ _ => ?_); simp; simp; simp [oneC]) | ((with_reducible (first | refine eqs ?_ | refine nes ?_)); refine ⟨_, rfl, ?_⟩) | ((refine okF_i (bldP_eq rfl) ?_); try simp only [BLS, List.take_succ_cons, List.take_zero, List.drop_succ_cons, List.drop_zero, List.cons_append, List.nil_append, Nat.reduceAdd])) | simp -implicitDefEqProofs only [EN, lsub, lget, stL, beq_self_eq_true, ne_eq, if_true, if_false, List.cons_append, List.nil_append, Option.isNone_some, Option.isNone_none, ew3]))
              refine hK3 () _ hqb ?_
              rw [htk3]; exact St.wk (by first | assumption | exact St.tick (by assumption) | exact St.tick (St.tick (by assumption)))
            · have hhf : s2.had.getD kk.toNat false = false := Bool.eq_false_iff.2 hh
              have et : tieU i kk s2 = ⟨s2.had.set kk.toNat true, s2.waits.set i (s2.waits.getD i 0 + 1), s2.back.set kk.toNat (s2.back.getD kk.toNat [] ++ [(i : Int)])⟩ := by unfold tieU; rw [if_neg hh]
              rw [et] at htk3
              have hwb : 0 ≤ s2.waits.getD i 0 ∧ s2.waits.getD i 0 ≤ 1000 := by
                rw [hT2.ws i, if_pos rfl, hTW.ws i, if_neg (by omega)]
                have := cntR_nonneg all.length fun k => decide (k ≠ i) && s2.had.getD k false
                omega
              have ew4 : IntKind.i64.wrap (s2.waits.getD i 0 + 1) = s2.waits.getD i 0 + 1 := by rw [i64w]; omega
              have hbl : (s2.back.getD kk.toNat []).length ≤ 1000 := by
                rw [hT2.bs, hTW.bs _ hkn, List.length_append, List.length_map]
                have h1 := List.length_filter_le (fun j => decide (kk.toNat ≠ j) && hng on of all j kk.toNat) (List.range i)
                rw [List.length_range] at h1
                have h2 : (if kk.toNat ≠ i ∧ s2.had.getD kk.toNat false = true then [(i : Int)] else []).length ≤ 1 := by split <;> simp
                omega
              obtain ⟨gw, ow, e4⟩ := posAddr (i := i) (a := aw) (A := I64) (l := s2.waits) (by first | assumption | exact St.tick (by assumption) | exact St.tick (St.tick (by assumption))) (by rw [hT2.lw]; exact hib)
              subst e4
              rw [hhf]
              (repeat (first | (first | (with_reducible (first | refine w1 fun _ _ => ?_ | refine w3 fun _ _ _ => ?_ | refine w4 fun _ _ _ => ?_ | refine w11 fun _ _ _ => ?_ | refine stb_n ?_)) | ((with_reducible refine w2 ?_); try simp -implicitDefEqProofs only [EN, lsub, lget, stL, beq_self_eq_true, ne_eq, if_true, if_false, List.cons_append, List.nil_append, Option.isNone_some, Option.isNone_none]; intro _ _) | ((with_reducible (first | refine w5 ?_ ?_ | refine w6 ?_ ?_ | refine w7 ?_ ?_)); simp; refine ⟨_, rfl, ?_⟩) | ((with_reducible (first | refine w8 ?_ ?_ ?_ | refine w9 ?_ ?_ ?_ | refine w10 ?_ ?_ ?_)); exact rfl; simp) | ((with_reducible refine w12 ?_ ?_ ?_ fun _ _ => ?_); simp; simp; simp [oneC]) | ((with_reducible (first | refine eqs ?_ | refine nes ?_)); refine ⟨_, rfl, ?_⟩) | ((refine okF_i (bldP_eq rfl) ?_); try simp only [BLS, List.take_succ_cons, List.take_zero, List.drop_succ_cons, List.drop_zero, List.cons_append, List.nil_append, Nat.reduceAdd])) | simp -implicitDefEqProofs only [EN, lsub, lget, stL, beq_self_eq_true, ne_eq, if_true, if_false, List.cons_append, List.nil_append, Option.isNone_some, Option.isNone_none]))
              refine stGb (i := kk.toNat) (m := s2.had) (x := true) (by rw [hT2.lh]; exact hkn) (by first | assumption | exact St.tick (by assumption) | exact St.tick (St.tick (by assumption))) fun W7 h => ?_
              (repeat (first | (first | (with_reducible (first | refine w1 fun _ _ => ?_ | refine w3 fun _ _ _ => ?_ | refine w4 fun _ _ _ => ?_ | refine w11 fun _ _ _ => ?_ | refine stb_n ?_)) | ((with_reducible refine w2 ?_); try simp -implicitDefEqProofs only [EN, lsub, lget, stL, beq_self_eq_true, ne_eq, if_true, if_false, List.cons_append, List.nil_append, Option.isNone_some, Option.isNone_none, ix2 hib]; intro _ _) | ((with_reducible (first | refine w5 ?_ ?_ | refine w6 ?_ ?_ | refine w7 ?_ ?_)); simp; refine ⟨_, rfl, ?_⟩) | ((with_reducible (first | refine w8 ?_ ?_ ?_ | refine w9 ?_ ?_ ?_ | refine w10 ?_ ?_ ?_)); exact rfl; simp) | ((with_reducible refine w12 ?_ ?_ ?_ fun _ _ => ?_); simp; simp; simp [oneC]) | ((with_reducible (first | refine eqs ?_ | refine nes ?_)); refine ⟨_, rfl, ?_⟩) | ((refine okF_i (bldP_eq rfl) ?_); try simp only [BLS, List.take_succ_cons, List.take_zero, List.drop_succ_cons, List.drop_zero, List.cons_append, List.nil_append, Nat.reduceAdd])) | simp -implicitDefEqProofs only [EN, lsub, lget, stL, beq_self_eq_true, ne_eq, if_true, if_false, List.cons_append, List.nil_append, Option.isNone_some, Option.isNone_none, ix2 hib]))
              refine ldG (i := i) (l := s2.waits) (by rw [hT2.lw]; exact hib) (by first | assumption | exact St.tick (by assumption) | exact St.tick (St.tick (by assumption))) ?_
              (repeat (first | (first | (with_reducible (first | refine w1 fun _ _ => ?_ | refine w3 fun _ _ _ => ?_ | refine w4 fun _ _ _ => ?_ | refine w11 fun _ _ _ => ?_ | refine stb_n ?_)) | ((with_reducible refine w2 ?_); try simp -implicitDefEqProofs only [EN, lsub, lget, stL, beq_self_eq_true, ne_eq, if_true, if_false, List.cons_append, List.nil_append, Option.isNone_some, Option.isNone_none, ew4, ix2 hib]; intro _ _) | ((with_reducible (first | refine w5 ?_ ?_ | refine w6 ?_ ?_ | refine w7 ?_ ?_)); simp; refine ⟨_, rfl, ?_⟩) | ((with_reducible (first | refine w8 ?_ ?_ ?_ | refine w9 ?_ ?_ ?_ | refine w10 ?_ ?_ ?_)); exact rfl; simp) | ((with_reducible refine w12 ?_ ?_ ?_ fun _ _ => ?_); simp; simp; simp [oneC]) | ((with_reducible (first | refine eqs ?_ | refine nes ?_)); refine ⟨_, rfl, ?_⟩) | ((refine okF_i (bldP_eq rfl) ?_); try simp only [BLS, List.take_succ_cons, List.take_zero, List.drop_succ_cons, List.drop_zero, List.cons_append, List.nil_append, Nat.reduceAdd])) | simp -implicitDefEqProofs only [EN, lsub, lget, stL, beq_self_eq_true, ne_eq, if_true, if_false, List.cons_append, List.nil_append, Option.isNone_some, Option.isNone_none, ew4, ix2 hib]))
              refine stG (i := i) (l := s2.waits) (by rw [hT2.lw]; exact hib) (by first | assumption | exact St.tick (by assumption) | exact St.tick (St.tick (by assumption))) fun W8 h => ?_
              obtain ⟨rb, hrb, h⟩ := li_at (St.wk (L' := LI ab cb s2.back :: arr BOO T_bool (some ⟨gh, oh, none⟩) ch (s2.had.set kk.toNat true) :: arr I64 T_int (some ⟨gw, ow, none⟩) cw (s2.waits.set i (s2.waits.getD i 0 + 1)) ::
                cells p [.slice (some ⟨gg, og, none⟩) all.length cg, .slice (some ⟨gw, ow, none⟩) all.length cw, .slice ab all.length cb] T_order_tied ::
                arr I64 T_int (some ⟨gf, of_, none⟩) co of :: arr ISY T_s_int (some ⟨gr, or', none⟩) c rows :: many ich rows :: arr ISY T_s_int (some ⟨gg, og, none⟩) cg rg :: many ich rg :: L) (by first | assumption | exact St.tick (by assumption) | exact St.tick (St.tick (by assumption))))
              have hbn : rb.length = all.length := by rw [← hT2.lb, ← hrb, List.length_map]
              have hkb : kk.toNat < rb.length := by omega
              have hvi : s2.back.getD kk.toNat [] = rb[kk.toNat].l := by rw [row_at hkb, hrb]
              rw [hvi] at hbl htk3
              have h := h.ent (ent.cons _ (ich_pick rb hkb))
              obtain ⟨gb, ob, e5⟩ := posAddr (i := kk.toNat) (a := ab) (A := ISY) (l := rb) h hkb
              subst e5
              (repeat (first | (first | (with_reducible (first | refine w1 fun _ _ => ?_ | refine w3 fun _ _ _ => ?_ | refine w4 fun _ _ _ => ?_ | refine w11 fun _ _ _ => ?_ | refine stb_n ?_)) | ((with_reducible refine w2 ?_); try simp -implicitDefEqProofs only [EN, lsub, lget, stL, beq_self_eq_true, ne_eq, if_true, if_false, List.cons_append, List.nil_append, Option.isNone_some, Option.isNone_none, ix1 hkx]; intro _ _) | ((with_reducible (first | refine w5 ?_ ?_ | refine w6 ?_ ?_ | refine w7 ?_ ?_)); simp; refine ⟨_, rfl, ?_⟩) | ((with_reducible (first | refine w8 ?_ ?_ ?_ | refine w9 ?_ ?_ ?_ | refine w10 ?_ ?_ ?_)); exact rfl; simp) | ((with_reducible refine w12 ?_ ?_ ?_ fun _ _ => ?_); simp; simp; simp [oneC]) | ((with_reducible (first | refine eqs ?_ | refine nes ?_)); refine ⟨_, rfl, ?_⟩) | ((refine okF_i (bldP_eq rfl) ?_); try simp only [BLS, List.take_succ_cons, List.take_zero, List.drop_succ_cons, List.drop_zero, List.cons_append, List.nil_append, Nat.reduceAdd])) | simp -implicitDefEqProofs only [EN, lsub, lget, stL, beq_self_eq_true, ne_eq, if_true, if_false, List.cons_append, List.nil_append, Option.isNone_some, Option.isNone_none, ix1 hkx]))
              refine ldR hkb (by first | assumption | exact St.tick (by assumption) | exact St.tick (St.tick (by assumption))) ?_
              refine bsA I64 [(i : Int)] (n := 1) (by first | assumption | exact St.tick (by assumption) | exact St.tick (St.tick (by assumption))) rfl rfl (by decide) (by decide) rfl fun a5 c5 W9 h => ?_
              refine stb_ldA0 (i := kk.toNat) (l := rb) (A := ISY) h rfl hkb (v := rb[kk.toNat].v) rfl (by simp) ?_
              (repeat (first | (first | (with_reducible (first | refine w1 fun _ _ => ?_ | refine w3 fun _ _ _ => ?_ | refine w4 fun _ _ _ => ?_ | refine w11 fun _ _ _ => ?_ | refine stb_n ?_)) | ((with_reducible refine w2 ?_); try simp -implicitDefEqProofs only [EN, lsub, lget, stL, beq_self_eq_true, ne_eq, if_true, if_false, List.cons_append, List.nil_append, Option.isNone_some, Option.isNone_none]; intro _ _) | ((with_reducible (first | refine w5 ?_ ?_ | refine w6 ?_ ?_ | refine w7 ?_ ?_)); simp; refine ⟨_, rfl, ?_⟩) | ((with_reducible (first | refine w8 ?_ ?_ ?_ | refine w9 ?_ ?_ ?_ | refine w10 ?_ ?_ ?_)); exact rfl; simp) | ((with_reducible refine w12 ?_ ?_ ?_ fun _ _ => ?_); simp; simp; simp [oneC]) | ((with_reducible (first | refine eqs ?_ | refine nes ?_)); refine ⟨_, rfl, ?_⟩) | ((refine okF_i (bldP_eq rfl) ?_); try simp only [BLS, List.take_succ_cons, List.take_zero, List.drop_succ_cons, List.drop_zero, List.cons_append, List.nil_append, Nat.reduceAdd])) | simp -implicitDefEqProofs only [EN, lsub, lget, stL, beq_self_eq_true, ne_eq, if_true, if_false, List.cons_append, List.nil_append, Option.isNone_some, Option.isNone_none]))
              refine appA (A := I64) (a := rb[kk.toNat].a) (l := rb[kk.toNat].l) (m := [(i : Int)]) (by first | assumption | exact St.tick (by assumption) | exact St.tick (St.tick (by assumption))) rfl (by simp only [List.length_cons, List.length_nil]; omega) (by simp only [List.length_cons, List.length_nil, maxLen]; omega) fun a6 c6 W10 h => ?_
              (repeat (first | (first | (with_reducible (first | refine w1 fun _ _ => ?_ | refine w3 fun _ _ _ => ?_ | refine w4 fun _ _ _ => ?_ | refine w11 fun _ _ _ => ?_ | refine stb_n ?_)) | ((with_reducible refine w2 ?_); try simp -implicitDefEqProofs only [EN, lsub, lget, stL, beq_self_eq_true, ne_eq, if_true, if_false, List.cons_append, List.nil_append, Option.isNone_some, Option.isNone_none, ix1 hkx]; intro _ _) | ((with_reducible (first | refine w5 ?_ ?_ | refine w6 ?_ ?_ | refine w7 ?_ ?_)); simp; refine ⟨_, rfl, ?_⟩) | ((with_reducible (first | refine w8 ?_ ?_ ?_ | refine w9 ?_ ?_ ?_ | refine w10 ?_ ?_ ?_)); exact rfl; simp) | ((with_reducible refine w12 ?_ ?_ ?_ fun _ _ => ?_); simp; simp; simp [oneC]) | ((with_reducible (first | refine eqs ?_ | refine nes ?_)); refine ⟨_, rfl, ?_⟩) | ((refine okF_i (bldP_eq rfl) ?_); try simp only [BLS, List.take_succ_cons, List.take_zero, List.drop_succ_cons, List.drop_zero, List.cons_append, List.nil_append, Nat.reduceAdd])) | simp -implicitDefEqProofs only [EN, lsub, lget, stL, beq_self_eq_true, ne_eq, if_true, if_false, List.cons_append, List.nil_append, Option.isNone_some, Option.isNone_none, ix1 hkx]))
              have h := St.wk (L' := arr ISY T_s_int (some ⟨gb, ob, none⟩) cb rb :: ich ⟨a6, c6, rb[kk.toNat].l ++ [(i : Int)]⟩ :: many ich (rb.take kk.toNat ++ rb.drop (kk.toNat + 1)) :: arr BOO T_bool (some ⟨gh, oh, none⟩) ch (s2.had.set kk.toNat true) :: arr I64 T_int (some ⟨gw, ow, none⟩) cw (s2.waits.set i (s2.waits.getD i 0 + 1)) ::
                cells p [.slice (some ⟨gg, og, none⟩) all.length cg, .slice (some ⟨gw, ow, none⟩) all.length cw, .slice (some ⟨gb, ob, none⟩) all.length cb] T_order_tied ::
                arr I64 T_int (some ⟨gf, of_, none⟩) co of :: arr ISY T_s_int (some ⟨gr, or', none⟩) c rows :: many ich rows :: arr ISY T_s_int (some ⟨gg, og, none⟩) cg rg :: many ich rg :: L) (by first | assumption | exact St.tick (by assumption) | exact St.tick (St.tick (by assumption)))
              refine stA (i := kk.toNat) (x := (⟨a6, c6, rb[kk.toNat].l ++ [(i : Int)]⟩ : ISl)) (l := rb) (A := ISY) h rfl hkb rfl fun W11 h => ?_
              have h := (h.ent (ent.cons _ (ich_place rb hkb ⟨a6, c6, rb[kk.toNat].l ++ [(i : Int)]⟩))).ent (li_ent (vs := s2.back.set kk.toNat (rb[kk.toNat].l ++ [(i : Int)])) (by rw [List.map_set, hrb]))
              unfold S.order_tie.j6
              (repeat (first | (first | (with_reducible (first | refine w1 fun _ _ => ?_ | refine w3 fun _ _ _ => ?_ | refine w4 fun _ _ _ => ?_ | refine w11 fun _ _ _ => ?_ | refine stb_n ?_)) | ((with_reducible refine w2 ?_); try simp -implicitDefEqProofs only [EN, lsub, lget, stL, beq_self_eq_true, ne_eq, if_true, if_false, List.cons_append, List.nil_append, Option.isNone_some, Option.isNone_none, ew3]; intro _ _) | ((with_reducible (first | refine w5 ?_ ?_ | refine w6 ?_ ?_ | refine w7 ?_ ?_)); simp; refine ⟨_, rfl, ?_⟩) | ((with_reducible (first | refine w8 ?_ ?_ ?_ | refine w9 ?_ ?_ ?_ | refine w10 ?_ ?_ ?_)); exact rfl; simp) | ((with_reducible refine w12 ?_ ?_ ?_ fun _ _ => ?_); simp; simp; simp [oneC]) | ((with_reducible (first | refine eqs ?_ | refine nes ?_)); refine ⟨_, rfl, ?_⟩) | ((refine okF_i (bldP_eq rfl) ?_); try simp only [BLS, List.take_succ_cons, List.take_zero, List.drop_succ_cons, List.drop_zero, List.cons_append, List.nil_append, Nat.reduceAdd])) | simp -implicitDefEqProofs only [EN, lsub, lget, stL, beq_self_eq_true, ne_eq, if_true, if_false, List.cons_append, List.nil_append, Option.isNone_some, Option.isNone_none, ew3]))
              refine hK3 () _ hqb ?_
              rw [htk3]; exact St.wk h
          · have hql : q = yl.length := by omega
            subst hql
            rw [List.take_length, ← htk] at h
            (repeat (first | (first | (with_reducible (first | refine w1 fun _ _ => ?_ | refine w3 fun _ _ _ => ?_ | refine w4 fun _ _ _ => ?_ | refine w11 fun _ _ _ => ?_ | refine stb_n ?_)) | ((with_reducible refine w2 ?_); try simp -implicitDefEqProofs only [EN, lsub, lget, stL, beq_self_eq_true, ne_eq, if_true, if_false, List.cons_append, List.nil_append, Option.isNone_some, Option.isNone_none, hlt3]; intro _ _) | ((with_reducible (first | refine w5 ?_ ?_ | refine w6 ?_ ?_ | refine w7 ?_ ?_)); simp; refine ⟨_, rfl, ?_⟩) | ((with_reducible (first | refine w8 ?_ ?_ ?_ | refine w9 ?_ ?_ ?_ | refine w10 ?_ ?_ ?_)); exact rfl; simp) | ((with_reducible refine w12 ?_ ?_ ?_ fun _ _ => ?_); simp; simp; simp [oneC]) | ((with_reducible (first | refine eqs ?_ | refine nes ?_)); refine ⟨_, rfl, ?_⟩) | ((refine okF_i (bldP_eq rfl) ?_); try simp only [BLS, List.take_succ_cons, List.take_zero, List.drop_succ_cons, List.drop_zero, List.cons_append, List.nil_append, Nat.reduceAdd])) | simp -implicitDefEqProofs only [EN, lsub, lget, stL, beq_self_eq_true, ne_eq, if_true, if_false, List.cons_append, List.nil_append, Option.isNone_some, Option.isNone_none, hlt3]))
            unfold S.order_tie.j5
            (repeat (first | (first | (with_reducible (first | refine w1 fun _ _ => ?_ | refine w3 fun _ _ _ => ?_ | refine w4 fun _ _ _ => ?_ | refine w11 fun _ _ _ => ?_ | refine stb_n ?_)) | ((with_reducible refine w2 ?_); try simp -implicitDefEqProofs only [EN, lsub, lget, stL, beq_self_eq_true, ne_eq, if_true, if_false, List.cons_append, List.nil_append, Option.isNone_some, Option.isNone_none, ew2]; intro _ _) | ((with_reducible (first | refine w5 ?_ ?_ | refine w6 ?_ ?_ | refine w7 ?_ ?_)); simp; refine ⟨_, rfl, ?_⟩) | ((with_reducible (first | refine w8 ?_ ?_ ?_ | refine w9 ?_ ?_ ?_ | refine w10 ?_ ?_ ?_)); exact rfl; simp) | ((with_reducible refine w12 ?_ ?_ ?_ fun _ _ => ?_); simp; simp; simp [oneC]) | ((with_reducible (first | refine eqs ?_ | refine nes ?_)); refine ⟨_, rfl, ?_⟩) | ((refine okF_i (bldP_eq rfl) ?_); try simp only [BLS, List.take_succ_cons, List.take_zero, List.drop_succ_cons, List.drop_zero, List.cons_append, List.nil_append, Nat.reduceAdd])) | simp -implicitDefEqProofs only [EN, lsub, lget, stL, beq_self_eq_true, ne_eq, if_true, if_false, List.cons_append, List.nil_append, Option.isNone_some, Option.isNone_none, ew2]))
            exact hK2 () _ hjb h
        · have hjl : j = xl.length := by omega
          subst hjl
          rw [List.take_length] at h
          have e1 : (tieF on of all (i + 1)).1 = (xl.foldl (tieV on of i) s0).waits := congrArg Prod.fst e
          have e2 : (tieF on of all (i + 1)).2 = (xl.foldl (tieV on of i) s0).back := congrArg Prod.snd e
          rw [← e1, ← e2] at h
          (repeat (first | (first | (with_reducible (first | refine w1 fun _ _ => ?_ | refine w3 fun _ _ _ => ?_ | refine w4 fun _ _ _ => ?_ | refine w11 fun _ _ _ => ?_ | refine stb_n ?_)) | ((with_reducible refine w2 ?_); try simp -implicitDefEqProofs only [EN, lsub, lget, stL, beq_self_eq_true, ne_eq, if_true, if_false, List.cons_append, List.nil_append, Option.isNone_some, Option.isNone_none, hlt2]; intro _ _) | ((with_reducible (first | refine w5 ?_ ?_ | refine w6 ?_ ?_ | refine w7 ?_ ?_)); simp; refine ⟨_, rfl, ?_⟩) | ((with_reducible (first | refine w8 ?_ ?_ ?_ | refine w9 ?_ ?_ ?_ | refine w10 ?_ ?_ ?_)); exact rfl; simp) | ((with_reducible refine w12 ?_ ?_ ?_ fun _ _ => ?_); simp; simp; simp [oneC]) | ((with_reducible (first | refine eqs ?_ | refine nes ?_)); refine ⟨_, rfl, ?_⟩) | ((refine okF_i (bldP_eq rfl) ?_); try simp only [BLS, List.take_succ_cons, List.take_zero, List.drop_succ_cons, List.drop_zero, List.cons_append, List.nil_append, Nat.reduceAdd])) | simp -implicitDefEqProofs only [EN, lsub, lget, stL, beq_self_eq_true, ne_eq, if_true, if_false, List.cons_append, List.nil_append, Option.isNone_some, Option.isNone_none, hlt2]))
          unfold S.order_tie.j4
          (repeat (first | (first | (with_reducible (first | refine w1 fun _ _ => ?_ | refine w3 fun _ _ _ => ?_ | refine w4 fun _ _ _ => ?_ | refine w11 fun _ _ _ => ?_ | refine stb_n ?_)) | ((with_reducible refine w2 ?_); try simp -implicitDefEqProofs only [EN, lsub, lget, stL, beq_self_eq_true, ne_eq, if_true, if_false, List.cons_append, List.nil_append, Option.isNone_some, Option.isNone_none, ew]; intro _ _) | ((with_reducible (first | refine w5 ?_ ?_ | refine w6 ?_ ?_ | refine w7 ?_ ?_)); simp; refine ⟨_, rfl, ?_⟩) | ((with_reducible (first | refine w8 ?_ ?_ ?_ | refine w9 ?_ ?_ ?_ | refine w10 ?_ ?_ ?_)); exact rfl; simp) | ((with_reducible refine w12 ?_ ?_ ?_ fun _ _ => ?_); simp; simp; simp [oneC]) | ((with_reducible (first | refine eqs ?_ | refine nes ?_)); refine ⟨_, rfl, ?_⟩) | ((refine okF_i (bldP_eq rfl) ?_); try simp only [BLS, List.take_succ_cons, List.take_zero, List.drop_succ_cons, List.drop_zero, List.cons_append, List.nil_append, Nat.reduceAdd])) | simp -implicitDefEqProofs only [EN, lsub, lget, stL, beq_self_eq_true, ne_eq, if_true, if_false, List.cons_append, List.nil_append, Option.isNone_some, Option.isNone_none, ew]))
          exact hK () _ hib (St.wk h)
      · have hil : i = all.length := by omega
        subst hil
        (repeat (first | (first | (with_reducible (first | refine w1 fun _ _ => ?_ | refine w3 fun _ _ _ => ?_ | refine w4 fun _ _ _ => ?_ | refine w11 fun _ _ _ => ?_ | refine stb_n ?_)) | ((with_reducible refine w2 ?_); try simp -implicitDefEqProofs only [EN, lsub, lget, stL, beq_self_eq_true, ne_eq, if_true, if_false, List.cons_append, List.nil_append, Option.isNone_some, Option.isNone_none, hlt]; intro _ _) | ((with_reducible (first | refine w5 ?_ ?_ | refine w6 ?_ ?_ | refine w7 ?_ ?_)); simp; refine ⟨_, rfl, ?_⟩) | ((with_reducible (first | refine w8 ?_ ?_ ?_ | refine w9 ?_ ?_ ?_ | refine w10 ?_ ?_ ?_)); exact rfl; simp) | ((with_reducible refine w12 ?_ ?_ ?_ fun _ _ => ?_); simp; simp; simp [oneC]) | ((with_reducible (first | refine eqs ?_ | refine nes ?_)); refine ⟨_, rfl, ?_⟩) | ((refine okF_i (bldP_eq rfl) ?_); try simp only [BLS, List.take_succ_cons, List.take_zero, List.drop_succ_cons, List.drop_zero, List.cons_append, List.nil_append, Nat.reduceAdd])) | simp -implicitDefEqProofs only [EN, lsub, lget, stL, beq_self_eq_true, ne_eq, if_true, if_false, List.cons_append, List.nil_append, Option.isNone_some, Option.isNone_none, hlt]))
        unfold S.order_tie.j3
        (repeat (first | (first | (with_reducible (first | refine w1 fun _ _ => ?_ | refine w3 fun _ _ _ => ?_ | refine w4 fun _ _ _ => ?_ | refine w11 fun _ _ _ => ?_ | refine stb_n ?_)) | ((with_reducible refine w2 ?_); try simp -implicitDefEqProofs only [EN, lsub, lget, stL, beq_self_eq_true, ne_eq, if_true, if_false, List.cons_append, List.nil_append, Option.isNone_some, Option.isNone_none]; intro _ _) | ((with_reducible (first | refine w5 ?_ ?_ | refine w6 ?_ ?_ | refine w7 ?_ ?_)); simp; refine ⟨_, rfl, ?_⟩) | ((with_reducible (first | refine w8 ?_ ?_ ?_ | refine w9 ?_ ?_ ?_ | refine w10 ?_ ?_ ?_)); exact rfl; simp) | ((with_reducible refine w12 ?_ ?_ ?_ fun _ _ => ?_); simp; simp; simp [oneC]) | ((with_reducible (first | refine eqs ?_ | refine nes ?_)); refine ⟨_, rfl, ?_⟩) | ((refine okF_i (bldP_eq rfl) ?_); try simp only [BLS, List.take_succ_cons, List.take_zero, List.drop_succ_cons, List.drop_zero, List.cons_append, List.nil_append, Nat.reduceAdd])) | simp -implicitDefEqProofs only [EN, lsub, lget, stL, beq_self_eq_true, ne_eq, if_true, if_false, List.cons_append, List.nil_append, Option.isNone_some, Option.isNone_none]))
        refine hk p ag cg aw cw ab cb _ ?_
        have h9 := St.wk (L' := arr ISY T_s_int a c rows :: many ich rows :: arr ISY T_s_int ag cg rg :: many ich rg :: cells p [.slice ag all.length cg, .slice aw all.length cw, .slice ab all.length cb] T_order_tied ::
          arr I64 T_int aw cw (tieF on of all all.length).1 :: LI ab cb (tieF on of all all.length).2 :: L) (by first | assumption | exact St.tick (by assumption) | exact St.tick (St.tick (by assumption)))
        have h9 := h9.ent (li_ent hrows)
        have h10 : St W0 (arr ISY T_s_int ag cg rg :: many ich rg :: LI a c on :: cells p [.slice ag all.length cg, .slice aw all.length cw, .slice ab all.length cb] T_order_tied ::
          arr I64 T_int aw cw (tieF on of all all.length).1 :: LI ab cb (tieF on of all all.length).2 :: L) _ := St.wk h9
        exact St.wk (h10.ent (li_ent hrg))
    refine joinK_i ?_
    (repeat (first | (first | (with_reducible (first | refine w1 fun _ _ => ?_ | refine w3 fun _ _ _ => ?_ | refine w4 fun _ _ _ => ?_ | refine w11 fun _ _ _ => ?_ | refine stb_n ?_)) | ((with_reducible refine w2 ?_); try simp -implicitDefEqProofs only [EN, lsub, lget, stL, beq_self_eq_true, ne_eq, if_true, if_false, List.cons_append, List.nil_append, Option.isNone_some, Option.isNone_none]; intro _ _) | ((with_reducible (first | refine w5 ?_ ?_ | refine w6 ?_ ?_ | refine w7 ?_ ?_)); simp; refine ⟨_, rfl, ?_⟩) | ((with_reducible (first | refine w8 ?_ ?_ ?_ | refine w9 ?_ ?_ ?_ | refine w10 ?_ ?_ ?_)); exact rfl; simp) | ((with_reducible refine w12 ?_ ?_ ?_ fun _ _ => ?_); simp; simp; simp [oneC]) | ((with_reducible (first | refine eqs ?_ | refine nes ?_)); refine ⟨_, rfl, ?_⟩) | ((refine okF_i (bldP_eq rfl) ?_); try simp only [BLS, List.take_succ_cons, List.take_zero, List.drop_succ_cons, List.drop_zero, List.cons_append, List.nil_append, Nat.reduceAdd])) | simp -implicitDefEqProofs only [EN, lsub, lget, stL, beq_self_eq_true, ne_eq, if_true, if_false, List.cons_append, List.nil_append, Option.isNone_some, Option.isNone_none]))
    refine ⟨?_, ?_⟩
    · refine mkZ (by first | assumption | exact St.tick (by assumption) | exact St.tick (St.tick (by assumption))) h1000 fun aw cw W5 h => ?_
      refine mkS (A := ISY) (⟨none, 0, []⟩ : ISl) all.length h rfl rfl h1000 (by omega) fun ab cb W6 h => ?_
      rw [List.length_replicate]
      have h := li_make h
      (repeat (first | (first | (with_reducible (first | refine w1 fun _ _ => ?_ | refine w3 fun _ _ _ => ?_ | refine w4 fun _ _ _ => ?_ | refine w11 fun _ _ _ => ?_ | refine stb_n ?_)) | ((with_reducible refine w2 ?_); try simp -implicitDefEqProofs only [EN, lsub, lget, stL, beq_self_eq_true, ne_eq, if_true, if_false, List.cons_append, List.nil_append, Option.isNone_some, Option.isNone_none]; intro _ _) | ((with_reducible (first | refine w5 ?_ ?_ | refine w6 ?_ ?_ | refine w7 ?_ ?_)); simp; refine ⟨_, rfl, ?_⟩) | ((with_reducible (first | refine w8 ?_ ?_ ?_ | refine w9 ?_ ?_ ?_ | refine w10 ?_ ?_ ?_)); exact rfl; simp) | ((with_reducible refine w12 ?_ ?_ ?_ fun _ _ => ?_); simp; simp; simp [oneC]) | ((with_reducible (first | refine eqs ?_ | refine nes ?_)); refine ⟨_, rfl, ?_⟩) | ((refine okF_i (bldP_eq rfl) ?_); try simp only [BLS, List.take_succ_cons, List.take_zero, List.drop_succ_cons, List.drop_zero, List.cons_append, List.nil_append, Nat.reduceAdd])) | simp -implicitDefEqProofs only [EN, lsub, lget, stL, beq_self_eq_true, ne_eq, if_true, if_false, List.cons_append, List.nil_append, Option.isNone_some, Option.isNone_none]))
      rename_i p W7 h
      (try simp only [BLS, List.take_succ_cons, List.take_zero, List.drop_succ_cons, List.drop_zero, List.cons_append, List.nil_append, List.append_nil, List.take_nil, List.drop_nil, stL, Nat.reduceAdd] at h)
      exact key p aw ab cw cb _ (St.wk h)
    · refine mkS (A := ISY) (⟨none, 0, []⟩ : ISl) all.length (by first | assumption | exact St.tick (by assumption) | exact St.tick (St.tick (by assumption))) rfl rfl h1000 (by omega) fun ab cb W6 h => ?_
      rw [List.length_replicate]
      have h := li_make h
      refine mkZ h h1000 fun aw cw W5 h => ?_
      (repeat (first | (first | (with_reducible (first | refine w1 fun _ _ => ?_ | refine w3 fun _ _ _ => ?_ | refine w4 fun _ _ _ => ?_ | refine w11 fun _ _ _ => ?_ | refine stb_n ?_)) | ((with_reducible refine w2 ?_); try simp -implicitDefEqProofs only [EN, lsub, lget, stL, beq_self_eq_true, ne_eq, if_true, if_false, List.cons_append, List.nil_append, Option.isNone_some, Option.isNone_none]; intro _ _) | ((with_reducible (first | refine w5 ?_ ?_ | refine w6 ?_ ?_ | refine w7 ?_ ?_)); simp; refine ⟨_, rfl, ?_⟩) | ((with_reducible (first | refine w8 ?_ ?_ ?_ | refine w9 ?_ ?_ ?_ | refine w10 ?_ ?_ ?_)); exact rfl; simp) | ((with_reducible refine w12 ?_ ?_ ?_ fun _ _ => ?_); simp; simp; simp [oneC]) | ((with_reducible (first | refine eqs ?_ | refine nes ?_)); refine ⟨_, rfl, ?_⟩) | ((refine okF_i (bldP_eq rfl) ?_); try simp only [BLS, List.take_succ_cons, List.take_zero, List.drop_succ_cons, List.drop_zero, List.cons_append, List.nil_append, Nat.reduceAdd])) | simp -implicitDefEqProofs only [EN, lsub, lget, stL, beq_self_eq_true, ne_eq, if_true, if_false, List.cons_append, List.nil_append, Option.isNone_some, Option.isNone_none]))
      rename_i p W7 h
      (try simp only [BLS, List.take_succ_cons, List.take_zero, List.drop_succ_cons, List.drop_zero, List.cons_append, List.nil_append, List.append_nil, List.take_nil, List.drop_nil, stL, Nat.reduceAdd] at h)
      exact key p aw ab cw cb _ (St.wk h)
end
end Go.Proofs.Ytkjhccpanedccaa
namespace Go.Proofs.Ytkjhccpanedccaa
set_option linter.unusedVariables false
set_option linter.unusedSimpArgs false
open Go Go.Eng Go.Tar Go.Sort
section
variable {W0 W : World} {L L' : List Asn} {a : Option Addr} {c n : Nat} {on gs : List (List Int)}
theorem indexN {l : List Int} {x : Int} (hn : n = l.length) (h : St W0 L W) [hr : Rd W0 L a I64 l] (hl : l.length < 1000000) {k : Value → World → Prop} (hk : ∀ W', St W0 L W' → k (.int .i64 (if x ∈ l then (l.idxOf x : Int) else -1)) W') : callK PR F_slices_Index_int_int [.slice a n c, .int .i64 x] k W := by
  subst hn; exact indexZ h hl hk
set_option maxRecDepth 100000 in
set_option maxHeartbeats 4000000 in
theorem ordLineI (h00 : W0.drawn = 0) (hO : OnOk on on.length) (hn : on.length ≤ 1000) (hrl : ∀ v, (rowOf on v).length < 1000000) {k : Value → World → Prop} (h : St W0 (LI a c on :: L) W)
    (hk : ∀ ao co W', St W0 (arr I64 T_int ao co (lineF on) :: LI a c on :: L) W' → k (.slice ao (lineF on).length co) W') : callK PR F_order_line [.slice a on.length c] k W := by
  apply S.order_line.call
  unfold S.order_line.body
  refine ordTie h00 hO hn hrl h fun p ag cg aw cw ab cb W1 h => ?_
  have hp := allOf_prt hO
  have hlaw := line_law hO
  have hvals := line_vals hO
  obtain ⟨hwl, hbl, hbk0⟩ := back_ok hO
  have hall := all_len hO
  unfold lineF at hk
  generalize allOf on = all at *
  generalize tieOf on = wb at *
  obtain ⟨w0, bk0⟩ := wb
  simp only at hlaw hvals hwl hbl hbk0 hk h
  obtain ⟨rg, hrg, h⟩ := li_at (St.wk (L' := LI ag cg all :: cells p [.slice ag all.length cg, .slice aw all.length cw, .slice ab all.length cb] T_order_tied :: arr I64 T_int aw cw w0 :: LI ab cb bk0 :: LI a c on :: L) h)
  obtain ⟨rb, hrb, h⟩ := li_at (St.wk (L' := LI ab cb bk0 :: cells p [.slice ag all.length cg, .slice aw all.length cw, .slice ab all.length cb] T_order_tied :: arr I64 T_int aw cw w0 :: arr ISY T_s_int ag cg rg :: many ich rg :: LI a c on :: L) h)
  have hrgl : rg.length = all.length := by rw [← hrg, List.length_map]
  have hrbl : rb.length = all.length := by rw [← hbl, ← hrb, List.length_map]
  refine joinK_i ?_
  (repeat (first | (first | (with_reducible (first | refine w1 fun _ _ => ?_ | refine w3 fun _ _ _ => ?_ | refine w4 fun _ _ _ => ?_ | refine w11 fun _ _ _ => ?_ | refine stb_n ?_)) | ((with_reducible refine w2 ?_); try simp -implicitDefEqProofs only [EN, lsub, lget, stL, beq_self_eq_true, ne_eq, if_true, if_false, List.cons_append, List.nil_append, Option.isNone_some, Option.isNone_none]; intro _ _) | ((with_reducible (first | refine w5 ?_ ?_ | refine w6 ?_ ?_ | refine w7 ?_ ?_)); simp; refine ⟨_, rfl, ?_⟩) | ((with_reducible (first | refine w8 ?_ ?_ ?_ | refine w9 ?_ ?_ ?_ | refine w10 ?_ ?_ ?_)); exact rfl; simp) | ((with_reducible refine w12 ?_ ?_ ?_ fun _ _ => ?_); simp; simp; simp [oneC]) | ((with_reducible (first | refine eqs ?_ | refine nes ?_)); refine ⟨_, rfl, ?_⟩) | ((refine okF_i (bldP_eq rfl) ?_); try simp only [BLS, List.take_succ_cons, List.take_zero, List.drop_succ_cons, List.drop_zero, List.cons_append, List.nil_append, Nat.reduceAdd])) | simp -implicitDefEqProofs only [EN, lsub, lget, stL, beq_self_eq_true, ne_eq, if_true, if_false, List.cons_append, List.nil_append, Option.isNone_some, Option.isNone_none]))
  have h := h.ent (arr_nil I64 T_int)
  refine loop_c (σ := Option Addr × Nat) all.length (fun i x => [.pointer (some ⟨p, 0, none⟩), .slice x.1 (lineI all bk0 w0 i).2.length x.2, .int .i64 all.length, .int .i64 (i : Int)])
    (fun i x W1 => (lineI all bk0 w0 i).2.length ≤ i * 1000 ∧ St W0 (arr I64 T_int x.1 x.2 (lineI all bk0 w0 i).2 :: cells p [.slice ag all.length cg, .slice aw all.length cw, .slice ab all.length cb] T_order_tied :: arr I64 T_int aw cw (lineI all bk0 w0 i).1 :: arr ISY T_s_int ab cb rb :: many ich rb ::
      arr ISY T_s_int ag cg rg :: many ich rg :: LI a c on :: L) W1) (none, 0) rfl ⟨by simp [lineI], St.wk (L' := arr I64 T_int none 0 [] :: cells p [.slice ag all.length cg, .slice aw all.length cw, .slice ab all.length cb] T_order_tied :: arr I64 T_int aw cw w0 :: arr ISY T_s_int ab cb rb :: many ich rb :: arr ISY T_s_int ag cg rg :: many ich rg :: LI a c on :: L) h⟩ ?_
  clear h
  rintro K i ⟨ao, co⟩ W4 hi ⟨hol, h⟩ hK
  simp only at h
  simp -implicitDefEqProofs only [EN, lsub, lget, stL, beq_self_eq_true, ne_eq, if_true, if_false, List.cons_append, List.nil_append, Option.isNone_some, Option.isNone_none]
  unfold S.order_line.l1
  obtain ⟨law1, law2, law3, law4⟩ := hlaw i hi
  by_cases hlt : (i : Int) < (all.length : Int)
  · have hib : i < all.length := by omega
    have ew : IntKind.i64.wrap ((i : Int) + 1) = ((i + 1 : Nat) : Int) := by rw [i64w]; omega
    have hnx : lineI all bk0 w0 (i + 1) = lineS all bk0 (lineI all bk0 w0 i) := rfl
    have hvi := hvals i hi
    obtain ⟨hg1, hg2⟩ := law3 hib
    rw [← hg1] at hg2
    generalize lineI all bk0 w0 i = s at *
    obtain ⟨w, out⟩ := s
    simp only at law1 law2 hg1 hg2 h hvi hol
    unfold lineS at hnx
    simp only at hnx
    have hm0 : (0 : Int) ∈ w := by
      refine Classical.byContradiction fun hno => ?_
      have := List.idxOf_eq_length hno
      omega
    have hgr : w.idxOf 0 < rg.length := by omega
    have hgb : w.idxOf 0 < rb.length := by omega
    have hrow := row_at hgr
    have hrowb := row_at hgb
    rw [hrg] at hrow
    rw [hrb] at hrowb
    have hmg : rg[w.idxOf 0] ∈ rg := List.getElem_mem hgr
    have hmb : rb[w.idxOf 0] ∈ rb := List.getElem_mem hgb
    have hidx := idxZ_eq w 0 hm0
    have hbk := hbk0 (w.idxOf 0) hg2
    have hlen : (all.getD (w.idxOf 0) []).length ≤ 1000 := Nat.le_trans (nodup_len ((List.Sublist.nodup · hp.nd) (by
      rw [List.getD_eq_getElem?_getD, List.getElem?_eq_getElem hg2]; exact List.sublist_flatten_of_mem (List.getElem_mem hg2))) fun v hv => (hp.mem v).1 (memFlat hv)) hn
    rw [← hrow] at hnx hlen
    rw [← hrowb] at hnx hbk
    obtain ⟨gg, og, e1⟩ := posAddr (i := w.idxOf 0) (a := ag) (A := ISY) (l := rg) h hgr
    obtain ⟨gb, ob, e2⟩ := posAddr (i := w.idxOf 0) (a := ab) (A := ISY) (l := rb) h hgb
    obtain ⟨gw, ow, e3⟩ := posAddr (i := w.idxOf 0) (a := aw) (A := I64) (l := w) h (by omega)
    subst e1 e2 e3
    (repeat (first | (first | (with_reducible (first | refine w1 fun _ _ => ?_ | refine w3 fun _ _ _ => ?_ | refine w4 fun _ _ _ => ?_ | refine w11 fun _ _ _ => ?_ | refine stb_n ?_)) | ((with_reducible refine w2 ?_); try simp -implicitDefEqProofs only [EN, lsub, lget, stL, beq_self_eq_true, ne_eq, if_true, if_false, List.cons_append, List.nil_append, Option.isNone_some, Option.isNone_none, hlt]; intro _ _) | ((with_reducible (first | refine w5 ?_ ?_ | refine w6 ?_ ?_ | refine w7 ?_ ?_)); simp; refine ⟨_, rfl, ?_⟩) | ((with_reducible (first | refine w8 ?_ ?_ ?_ | refine w9 ?_ ?_ ?_ | refine w10 ?_ ?_ ?_)); exact rfl; simp) | ((with_reducible refine w12 ?_ ?_ ?_ fun _ _ => ?_); simp; simp; simp [oneC]) | ((with_reducible (first | refine eqs ?_ | refine nes ?_)); refine ⟨_, rfl, ?_⟩) | ((refine okF_i (bldP_eq rfl) ?_); try simp only [BLS, List.take_succ_cons, List.take_zero, List.drop_succ_cons, List.drop_zero, List.cons_append, List.nil_append, Nat.reduceAdd])) | simp -implicitDefEqProofs only [EN, lsub, lget, stL, beq_self_eq_true, ne_eq, if_true, if_false, List.cons_append, List.nil_append, Option.isNone_some, Option.isNone_none, hlt]))
    refine joinK_i ?_
    (repeat (first | (first | (with_reducible (first | refine w1 fun _ _ => ?_ | refine w3 fun _ _ _ => ?_ | refine w4 fun _ _ _ => ?_ | refine w11 fun _ _ _ => ?_ | refine stb_n ?_)) | ((with_reducible refine w2 ?_); try simp -implicitDefEqProofs only [EN, lsub, lget, stL, beq_self_eq_true, ne_eq, if_true, if_false, List.cons_append, List.nil_append, Option.isNone_some, Option.isNone_none]; intro _ _) | ((with_reducible (first | refine w5 ?_ ?_ | refine w6 ?_ ?_ | refine w7 ?_ ?_)); simp; refine ⟨_, rfl, ?_⟩) | ((with_reducible (first | refine w8 ?_ ?_ ?_ | refine w9 ?_ ?_ ?_ | refine w10 ?_ ?_ ?_)); exact rfl; simp) | ((with_reducible refine w12 ?_ ?_ ?_ fun _ _ => ?_); simp; simp; simp [oneC]) | ((with_reducible (first | refine eqs ?_ | refine nes ?_)); refine ⟨_, rfl, ?_⟩) | ((refine okF_i (bldP_eq rfl) ?_); try simp only [BLS, List.take_succ_cons, List.take_zero, List.drop_succ_cons, List.drop_zero, List.cons_append, List.nil_append, Nat.reduceAdd])) | simp -implicitDefEqProofs only [EN, lsub, lget, stL, beq_self_eq_true, ne_eq, if_true, if_false, List.cons_append, List.nil_append, Option.isNone_some, Option.isNone_none]))
    refine indexN (l := w) (x := 0) law1.symm (by first | assumption | exact St.tick (by assumption) | exact St.tick (St.tick (by assumption))) (by omega) fun W5 h => ?_
    rw [hidx]
    generalize w.idxOf 0 = g at *
    (repeat (first | (first | (with_reducible (first | refine w1 fun _ _ => ?_ | refine w3 fun _ _ _ => ?_ | refine w4 fun _ _ _ => ?_ | refine w11 fun _ _ _ => ?_ | refine stb_n ?_)) | ((with_reducible refine w2 ?_); try simp -implicitDefEqProofs only [EN, lsub, lget, stL, beq_self_eq_true, ne_eq, if_true, if_false, List.cons_append, List.nil_append, Option.isNone_some, Option.isNone_none, ix2 hg2]; intro _ _) | ((with_reducible (first | refine w5 ?_ ?_ | refine w6 ?_ ?_ | refine w7 ?_ ?_)); simp; refine ⟨_, rfl, ?_⟩) | ((with_reducible (first | refine w8 ?_ ?_ ?_ | refine w9 ?_ ?_ ?_ | refine w10 ?_ ?_ ?_)); exact rfl; simp) | ((with_reducible refine w12 ?_ ?_ ?_ fun _ _ => ?_); simp; simp; simp [oneC]) | ((with_reducible (first | refine eqs ?_ | refine nes ?_)); refine ⟨_, rfl, ?_⟩) | ((refine okF_i (bldP_eq rfl) ?_); try simp only [BLS, List.take_succ_cons, List.take_zero, List.drop_succ_cons, List.drop_zero, List.cons_append, List.nil_append, Nat.reduceAdd])) | simp -implicitDefEqProofs only [EN, lsub, lget, stL, beq_self_eq_true, ne_eq, if_true, if_false, List.cons_append, List.nil_append, Option.isNone_some, Option.isNone_none, ix2 hg2]))
    refine stG (i := g) (l := w) (by omega) (by first | assumption | exact St.tick (by assumption) | exact St.tick (St.tick (by assumption))) fun W6 h => ?_
    (repeat (first | (first | (with_reducible (first | refine w1 fun _ _ => ?_ | refine w3 fun _ _ _ => ?_ | refine w4 fun _ _ _ => ?_ | refine w11 fun _ _ _ => ?_ | refine stb_n ?_)) | ((with_reducible refine w2 ?_); try simp -implicitDefEqProofs only [EN, lsub, lget, stL, beq_self_eq_true, ne_eq, if_true, if_false, List.cons_append, List.nil_append, Option.isNone_some, Option.isNone_none, ix2 hg2]; intro _ _) | ((with_reducible (first | refine w5 ?_ ?_ | refine w6 ?_ ?_ | refine w7 ?_ ?_)); simp; refine ⟨_, rfl, ?_⟩) | ((with_reducible (first | refine w8 ?_ ?_ ?_ | refine w9 ?_ ?_ ?_ | refine w10 ?_ ?_ ?_)); exact rfl; simp) | ((with_reducible refine w12 ?_ ?_ ?_ fun _ _ => ?_); simp; simp; simp [oneC]) | ((with_reducible (first | refine eqs ?_ | refine nes ?_)); refine ⟨_, rfl, ?_⟩) | ((refine okF_i (bldP_eq rfl) ?_); try simp only [BLS, List.take_succ_cons, List.take_zero, List.drop_succ_cons, List.drop_zero, List.cons_append, List.nil_append, Nat.reduceAdd])) | simp -implicitDefEqProofs only [EN, lsub, lget, stL, beq_self_eq_true, ne_eq, if_true, if_false, List.cons_append, List.nil_append, Option.isNone_some, Option.isNone_none, ix2 hg2]))
    refine ldR hgr (by first | assumption | exact St.tick (by assumption) | exact St.tick (St.tick (by assumption))) ?_
    generalize rg[g] = x at *
    obtain ⟨xa, xc, xl⟩ := x
    simp only at hnx hlen
    haveI hrd := ich_rd (W0 := W0) (L := LI a c on :: L) hmg
    refine appA (A := I64) (a := ao) (l := out) (m := xl) (by first | assumption | exact St.tick (by assumption) | exact St.tick (St.tick (by assumption))) rfl (by omega) (by simp only [maxLen]; omega) fun a6 c6 W7 h => ?_
    (repeat (first | (first | (with_reducible (first | refine w1 fun _ _ => ?_ | refine w3 fun _ _ _ => ?_ | refine w4 fun _ _ _ => ?_ | refine w11 fun _ _ _ => ?_ | refine stb_n ?_)) | ((with_reducible refine w2 ?_); try simp -implicitDefEqProofs only [EN, lsub, lget, stL, beq_self_eq_true, ne_eq, if_true, if_false, List.cons_append, List.nil_append, Option.isNone_some, Option.isNone_none, ix2 hg2]; intro _ _) | ((with_reducible (first | refine w5 ?_ ?_ | refine w6 ?_ ?_ | refine w7 ?_ ?_)); simp; refine ⟨_, rfl, ?_⟩) | ((with_reducible (first | refine w8 ?_ ?_ ?_ | refine w9 ?_ ?_ ?_ | refine w10 ?_ ?_ ?_)); exact rfl; simp) | ((with_reducible refine w12 ?_ ?_ ?_ fun _ _ => ?_); simp; simp; simp [oneC]) | ((with_reducible (first | refine eqs ?_ | refine nes ?_)); refine ⟨_, rfl, ?_⟩) | ((refine okF_i (bldP_eq rfl) ?_); try simp only [BLS, List.take_succ_cons, List.take_zero, List.drop_succ_cons, List.drop_zero, List.cons_append, List.nil_append, Nat.reduceAdd])) | simp -implicitDefEqProofs only [EN, lsub, lget, stL, beq_self_eq_true, ne_eq, if_true, if_false, List.cons_append, List.nil_append, Option.isNone_some, Option.isNone_none, ix2 hg2]))
    refine ldR hgb (by first | assumption | exact St.tick (by assumption) | exact St.tick (St.tick (by assumption))) ?_
    generalize rb[g] = y at *
    obtain ⟨ya, yc, yl⟩ := y
    simp only at hnx hbk
    haveI hrd2 := ich_rd (W0 := W0) (L := arr ISY T_s_int (some ⟨gg, og, none⟩) cg rg :: many ich rg :: LI a c on :: L) hmb
    (repeat (first | (first | (with_reducible (first | refine w1 fun _ _ => ?_ | refine w3 fun _ _ _ => ?_ | refine w4 fun _ _ _ => ?_ | refine w11 fun _ _ _ => ?_ | refine stb_n ?_)) | ((with_reducible refine w2 ?_); try simp -implicitDefEqProofs only [EN, lsub, lget, stL, beq_self_eq_true, ne_eq, if_true, if_false, List.cons_append, List.nil_append, Option.isNone_some, Option.isNone_none]; intro _ _) | ((with_reducible (first | refine w5 ?_ ?_ | refine w6 ?_ ?_ | refine w7 ?_ ?_)); simp; refine ⟨_, rfl, ?_⟩) | ((with_reducible (first | refine w8 ?_ ?_ ?_ | refine w9 ?_ ?_ ?_ | refine w10 ?_ ?_ ?_)); exact rfl; simp) | ((with_reducible refine w12 ?_ ?_ ?_ fun _ _ => ?_); simp; simp; simp [oneC]) | ((with_reducible (first | refine eqs ?_ | refine nes ?_)); refine ⟨_, rfl, ?_⟩) | ((refine okF_i (bldP_eq rfl) ?_); try simp only [BLS, List.take_succ_cons, List.take_zero, List.drop_succ_cons, List.drop_zero, List.cons_append, List.nil_append, Nat.reduceAdd])) | simp -implicitDefEqProofs only [EN, lsub, lget, stL, beq_self_eq_true, ne_eq, if_true, if_false, List.cons_append, List.nil_append, Option.isNone_some, Option.isNone_none]))
    have hyl : yl.length ≤ all.length := nodup_len hbk.1 hbk.2
    have hrec : ∀ j, j ≤ yl.length → (decF (w.set g (-1)) (yl.take j)).length = all.length ∧ ∀ q, (decF (w.set g (-1)) (yl.take j)).getD q 0 = (w.set g (-1)).getD q 0 - if (q : Int) ∈ yl.take j then 1 else 0 := fun j _ =>
      dec_at (m := all.length) (yl.take j) (w.set g (-1)) (hbk.1.sublist (List.take_sublist _ _)) (fun v hv => hbk.2 v (List.mem_of_mem_take hv)) (by simpa using law1)
    refine loop_c (σ := Unit) yl.length (fun j _ => [.pointer (some ⟨p, 0, none⟩), .slice a6 (out ++ xl).length c6, .int .i64 all.length, .int .i64 (i : Int), .slice ya yl.length yc, .int .i64 yl.length, .int .i64 (j : Int)])
      (fun j _ W1 => St W0 (arr I64 T_int (some ⟨gw, ow, none⟩) cw (decF (w.set g (-1)) (yl.take j)) :: arr I64 T_int a6 c6 (out ++ xl) :: cells p [.slice (some ⟨gg, og, none⟩) all.length cg, .slice (some ⟨gw, ow, none⟩) all.length cw, .slice (some ⟨gb, ob, none⟩) all.length cb] T_order_tied ::
        arr ISY T_s_int (some ⟨gb, ob, none⟩) cb rb :: many ich rb :: arr ISY T_s_int (some ⟨gg, og, none⟩) cg rg :: many ich rg :: LI a c on :: L) W1) () rfl (St.wk (L' := arr I64 T_int (some ⟨gw, ow, none⟩) cw (w.set g (-1)) :: arr I64 T_int a6 c6 (out ++ xl) :: cells p [.slice (some ⟨gg, og, none⟩) all.length cg, .slice (some ⟨gw, ow, none⟩) all.length cw, .slice (some ⟨gb, ob, none⟩) all.length cb] T_order_tied ::
        arr ISY T_s_int (some ⟨gb, ob, none⟩) cb rb :: many ich rb :: arr ISY T_s_int (some ⟨gg, og, none⟩) cg rg :: many ich rg :: LI a c on :: L) (by first | assumption | exact St.tick (by assumption) | exact St.tick (St.tick (by assumption)))) ?_
    clear h
    rintro K2 j _ W8 hj h hK2
    simp -implicitDefEqProofs only [EN, lsub, lget, stL, beq_self_eq_true, ne_eq, if_true, if_false, List.cons_append, List.nil_append, Option.isNone_some, Option.isNone_none]
    unfold S.order_line.l2
    obtain ⟨r1, r2⟩ := hrec j hj
    by_cases hlt2 : (j : Int) < (yl.length : Int)
    · have hjb : j < yl.length := by omega
      have ew2 : IntKind.i64.wrap ((j : Int) + 1) = ((j + 1 : Nat) : Int) := by rw [i64w]; omega
      have hvx := hbk.2 yl[j] (List.getElem_mem hjb)
      have hvn : yl[j].toNat < all.length := by unfold Vx at hvx; omega
      have htk : decF (w.set g (-1)) (yl.take (j + 1)) = (decF (w.set g (-1)) (yl.take j)).set yl[j].toNat ((decF (w.set g (-1)) (yl.take j)).getD yl[j].toNat 0 - 1) := by
        rw [List.take_succ_eq_append_getElem hjb]; unfold decF; rw [List.foldl_append]; rfl
      have hval := r2 yl[j].toNat
      generalize decF (w.set g (-1)) (yl.take j) = w2 at *
      have hb2 : -3 ≤ w2.getD yl[j].toNat 0 ∧ w2.getD yl[j].toNat 0 ≤ 1000 := by
        rw [hval, getD_set (by rw [law1]; exact hg2)]
        have := hvi yl[j].toNat hvn
        constructor <;> split <;> split <;> omega
      have ew3 : IntKind.i64.wrap (w2.getD yl[j].toNat 0 - 1) = w2.getD yl[j].toNat 0 - 1 := by rw [i64w]; omega
      obtain ⟨gy, oy, e5⟩ := posAddr (i := j) (a := ya) (A := I64) (l := yl) h hjb
      subst e5
      (repeat (first | (first | (with_reducible (first | refine w1 fun _ _ => ?_ | refine w3 fun _ _ _ => ?_ | refine w4 fun _ _ _ => ?_ | refine w11 fun _ _ _ => ?_ | refine stb_n ?_)) | ((with_reducible refine w2 ?_); try simp -implicitDefEqProofs only [EN, lsub, lget, stL, beq_self_eq_true, ne_eq, if_true, if_false, List.cons_append, List.nil_append, Option.isNone_some, Option.isNone_none, hlt2, ix2 hjb]; intro _ _) | ((with_reducible (first | refine w5 ?_ ?_ | refine w6 ?_ ?_ | refine w7 ?_ ?_)); simp; refine ⟨_, rfl, ?_⟩) | ((with_reducible (first | refine w8 ?_ ?_ ?_ | refine w9 ?_ ?_ ?_ | refine w10 ?_ ?_ ?_)); exact rfl; simp) | ((with_reducible refine w12 ?_ ?_ ?_ fun _ _ => ?_); simp; simp; simp [oneC]) | ((with_reducible (first | refine eqs ?_ | refine nes ?_)); refine ⟨_, rfl, ?_⟩) | ((refine okF_i (bldP_eq rfl) ?_); try simp only [BLS, List.take_succ_cons, List.take_zero, List.drop_succ_cons, List.drop_zero, List.cons_append, List.nil_append, Nat.reduceAdd])) | simp -implicitDefEqProofs only [EN, lsub, lget, stL, beq_self_eq_true, ne_eq, if_true, if_false, List.cons_append, List.nil_append, Option.isNone_some, Option.isNone_none, hlt2, ix2 hjb]))
      refine ldA0 (i := j) (l := yl) (A := I64) (by first | assumption | exact St.tick (by assumption) | exact St.tick (St.tick (by assumption))) rfl hjb (v := .int .i64 yl[j]) rfl (by simp) ?_
      (repeat (first | (first | (with_reducible (first | refine w1 fun _ _ => ?_ | refine w3 fun _ _ _ => ?_ | refine w4 fun _ _ _ => ?_ | refine w11 fun _ _ _ => ?_ | refine stb_n ?_)) | ((with_reducible refine w2 ?_); try simp -implicitDefEqProofs only [EN, lsub, lget, stL, beq_self_eq_true, ne_eq, if_true, if_false, List.cons_append, List.nil_append, Option.isNone_some, Option.isNone_none, ix1 hvx]; intro _ _) | ((with_reducible (first | refine w5 ?_ ?_ | refine w6 ?_ ?_ | refine w7 ?_ ?_)); simp; refine ⟨_, rfl, ?_⟩) | ((with_reducible (first | refine w8 ?_ ?_ ?_ | refine w9 ?_ ?_ ?_ | refine w10 ?_ ?_ ?_)); exact rfl; simp) | ((with_reducible refine w12 ?_ ?_ ?_ fun _ _ => ?_); simp; simp; simp [oneC]) | ((with_reducible (first | refine eqs ?_ | refine nes ?_)); refine ⟨_, rfl, ?_⟩) | ((refine okF_i (bldP_eq rfl) ?_); try simp only [BLS, List.take_succ_cons, List.take_zero, List.drop_succ_cons, List.drop_zero, List.cons_append, List.nil_append, Nat.reduceAdd])) | simp -implicitDefEqProofs only [EN, lsub, lget, stL, beq_self_eq_true, ne_eq, if_true, if_false, List.cons_append, List.nil_append, Option.isNone_some, Option.isNone_none, ix1 hvx]))
      refine ldG (i := yl[j].toNat) (l := w2) (by rw [r1]; exact hvn) (by first | assumption | exact St.tick (by assumption) | exact St.tick (St.tick (by assumption))) ?_
      (repeat (first | (first | (with_reducible (first | refine w1 fun _ _ => ?_ | refine w3 fun _ _ _ => ?_ | refine w4 fun _ _ _ => ?_ | refine w11 fun _ _ _ => ?_ | refine stb_n ?_)) | ((with_reducible refine w2 ?_); try simp -implicitDefEqProofs only [EN, lsub, lget, stL, beq_self_eq_true, ne_eq, if_true, if_false, List.cons_append, List.nil_append, Option.isNone_some, Option.isNone_none, ew3, ix1 hvx]; intro _ _) | ((with_reducible (first | refine w5 ?_ ?_ | refine w6 ?_ ?_ | refine w7 ?_ ?_)); simp; refine ⟨_, rfl, ?_⟩) | ((with_reducible (first | refine w8 ?_ ?_ ?_ | refine w9 ?_ ?_ ?_ | refine w10 ?_ ?_ ?_)); exact rfl; simp) | ((with_reducible refine w12 ?_ ?_ ?_ fun _ _ => ?_); simp; simp; simp [oneC]) | ((with_reducible (first | refine eqs ?_ | refine nes ?_)); refine ⟨_, rfl, ?_⟩) | ((refine okF_i (bldP_eq rfl) ?_); try simp only [BLS, List.take_succ_cons, List.take_zero, List.drop_succ_cons, List.drop_zero, List.cons_append, List.nil_append, Nat.reduceAdd])) | simp -implicitDefEqProofs only [EN, lsub, lget, stL, beq_self_eq_true, ne_eq, if_true, if_false, List.cons_append, List.nil_append, Option.isNone_some, Option.isNone_none, ew3, ix1 hvx]))
      refine stG (i := yl[j].toNat) (l := w2) (by rw [r1]; exact hvn) (by first | assumption | exact St.tick (by assumption) | exact St.tick (St.tick (by assumption))) fun W9 h => ?_
      (repeat (first | (first | (with_reducible (first | refine w1 fun _ _ => ?_ | refine w3 fun _ _ _ => ?_ | refine w4 fun _ _ _ => ?_ | refine w11 fun _ _ _ => ?_ | refine stb_n ?_)) | ((with_reducible refine w2 ?_); try simp -implicitDefEqProofs only [EN, lsub, lget, stL, beq_self_eq_true, ne_eq, if_true, if_false, List.cons_append, List.nil_append, Option.isNone_some, Option.isNone_none, ew2]; intro _ _) | ((with_reducible (first | refine w5 ?_ ?_ | refine w6 ?_ ?_ | refine w7 ?_ ?_)); simp; refine ⟨_, rfl, ?_⟩) | ((with_reducible (first | refine w8 ?_ ?_ ?_ | refine w9 ?_ ?_ ?_ | refine w10 ?_ ?_ ?_)); exact rfl; simp) | ((with_reducible refine w12 ?_ ?_ ?_ fun _ _ => ?_); simp; simp; simp [oneC]) | ((with_reducible (first | refine eqs ?_ | refine nes ?_)); refine ⟨_, rfl, ?_⟩) | ((refine okF_i (bldP_eq rfl) ?_); try simp only [BLS, List.take_succ_cons, List.take_zero, List.drop_succ_cons, List.drop_zero, List.cons_append, List.nil_append, Nat.reduceAdd])) | simp -implicitDefEqProofs only [EN, lsub, lget, stL, beq_self_eq_true, ne_eq, if_true, if_false, List.cons_append, List.nil_append, Option.isNone_some, Option.isNone_none, ew2]))
      rw [← htk] at h
      exact hK2 () _ hjb (St.wk h)
    · have hjl : j = yl.length := by omega
      subst hjl
      rw [List.take_length] at h
      (repeat (first | (first | (with_reducible (first | refine w1 fun _ _ => ?_ | refine w3 fun _ _ _ => ?_ | refine w4 fun _ _ _ => ?_ | refine w11 fun _ _ _ => ?_ | refine stb_n ?_)) | ((with_reducible refine w2 ?_); try simp -implicitDefEqProofs only [EN, lsub, lget, stL, beq_self_eq_true, ne_eq, if_true, if_false, List.cons_append, List.nil_append, Option.isNone_some, Option.isNone_none, hlt2]; intro _ _) | ((with_reducible (first | refine w5 ?_ ?_ | refine w6 ?_ ?_ | refine w7 ?_ ?_)); simp; refine ⟨_, rfl, ?_⟩) | ((with_reducible (first | refine w8 ?_ ?_ ?_ | refine w9 ?_ ?_ ?_ | refine w10 ?_ ?_ ?_)); exact rfl; simp) | ((with_reducible refine w12 ?_ ?_ ?_ fun _ _ => ?_); simp; simp; simp [oneC]) | ((with_reducible (first | refine eqs ?_ | refine nes ?_)); refine ⟨_, rfl, ?_⟩) | ((refine okF_i (bldP_eq rfl) ?_); try simp only [BLS, List.take_succ_cons, List.take_zero, List.drop_succ_cons, List.drop_zero, List.cons_append, List.nil_append, Nat.reduceAdd])) | simp -implicitDefEqProofs only [EN, lsub, lget, stL, beq_self_eq_true, ne_eq, if_true, if_false, List.cons_append, List.nil_append, Option.isNone_some, Option.isNone_none, hlt2]))
      unfold S.order_line.j2
      (repeat (first | (first | (with_reducible (first | refine w1 fun _ _ => ?_ | refine w3 fun _ _ _ => ?_ | refine w4 fun _ _ _ => ?_ | refine w11 fun _ _ _ => ?_ | refine stb_n ?_)) | ((with_reducible refine w2 ?_); try simp -implicitDefEqProofs only [EN, lsub, lget, stL, beq_self_eq_true, ne_eq, if_true, if_false, List.cons_append, List.nil_append, Option.isNone_some, Option.isNone_none, ew]; intro _ _) | ((with_reducible (first | refine w5 ?_ ?_ | refine w6 ?_ ?_ | refine w7 ?_ ?_)); simp; refine ⟨_, rfl, ?_⟩) | ((with_reducible (first | refine w8 ?_ ?_ ?_ | refine w9 ?_ ?_ ?_ | refine w10 ?_ ?_ ?_)); exact rfl; simp) | ((with_reducible refine w12 ?_ ?_ ?_ fun _ _ => ?_); simp; simp; simp [oneC]) | ((with_reducible (first | refine eqs ?_ | refine nes ?_)); refine ⟨_, rfl, ?_⟩) | ((refine okF_i (bldP_eq rfl) ?_); try simp only [BLS, List.take_succ_cons, List.take_zero, List.drop_succ_cons, List.drop_zero, List.cons_append, List.nil_append, Nat.reduceAdd])) | simp -implicitDefEqProofs only [EN, lsub, lget, stL, beq_self_eq_true, ne_eq, if_true, if_false, List.cons_append, List.nil_append, Option.isNone_some, Option.isNone_none, ew]))
      have e1 : (lineI all bk0 w0 (i + 1)).1 = decF (w.set g (-1)) yl := congrArg Prod.fst hnx
      have e2 : (lineI all bk0 w0 (i + 1)).2 = out ++ xl := congrArg Prod.snd hnx
      rw [← e1, ← e2] at h
      rw [← e2]
      exact hK (a6, c6) _ hib ⟨by rw [e2, List.length_append]; omega, St.wk h⟩
  · have hil : i = all.length := by omega
    subst hil
    (repeat (first | (first | (with_reducible (first | refine w1 fun _ _ => ?_ | refine w3 fun _ _ _ => ?_ | refine w4 fun _ _ _ => ?_ | refine w11 fun _ _ _ => ?_ | refine stb_n ?_)) | ((with_reducible refine w2 ?_); try simp -implicitDefEqProofs only [EN, lsub, lget, stL, beq_self_eq_true, ne_eq, if_true, if_false, List.cons_append, List.nil_append, Option.isNone_some, Option.isNone_none, hlt]; intro _ _) | ((with_reducible (first | refine w5 ?_ ?_ | refine w6 ?_ ?_ | refine w7 ?_ ?_)); simp; refine ⟨_, rfl, ?_⟩) | ((with_reducible (first | refine w8 ?_ ?_ ?_ | refine w9 ?_ ?_ ?_ | refine w10 ?_ ?_ ?_)); exact rfl; simp) | ((with_reducible refine w12 ?_ ?_ ?_ fun _ _ => ?_); simp; simp; simp [oneC]) | ((with_reducible (first | refine eqs ?_ | refine nes ?_)); refine ⟨_, rfl, ?_⟩) | ((refine okF_i (bldP_eq rfl) ?_); try simp only [BLS, List.take_succ_cons, List.take_zero, List.drop_succ_cons, List.drop_zero, List.cons_append, List.nil_append, Nat.reduceAdd])) | simp -implicitDefEqProofs only [EN, lsub, lget, stL, beq_self_eq_true, ne_eq, if_true, if_false, List.cons_append, List.nil_append, Option.isNone_some, Option.isNone_none, hlt]))
    unfold S.order_line.j1
    refine hk ao co _ ?_
    exact St.wk (by first | assumption | exact St.tick (by assumption) | exact St.tick (St.tick (by assumption)))
end
end Go.Proofs.Ytkjhccpanedccaa
namespace Go.Proofs.Ytkjhccpanedccaa
set_option linter.unusedVariables false
set_option linter.unusedSimpArgs false
open Go Go.Eng Go.Tar Go.Sort
/-- a function value that tells whether a dot is done; what it needs is C -/
def DoneF (C : Asn) (fv : Value) (q : Dot → Bool) : Prop :=
  ∀ (d : Dot) (W0 : World) (L : List Asn) (W : World) (k : Value → World → Prop), 0 ≤ d.rep → d.rep < 7 → St W0 (C :: L) W → (∀ W', St W0 (C :: L) W' → k (.bool (q d)) W') → vcK PR fv [KD d] k W
def kC (b3 b5 p : Nat) (fv : Value) (C : Asn) : Asn := sep [cells b3 [fv] T_t61, cells b5 [.pointer (some ⟨p, 0, none⟩)] T_p_order_web, C]
section
variable {W0 W : World} {L L' : List Asn} {C : Asn} {q : Dot → Bool} {p b3 b5 g : Nat} {caps : Array Value} {sl : List Ins}
set_option maxRecDepth 100000 in
set_option maxHeartbeats 4000000 in
theorem ordKept1 (hD : DoneF C (.func (.func g) #[] caps) q) {d : Dot} (h1 : 0 ≤ d.rep) (h2 : d.rep < 7) {k : Value → World → Prop} (h : St W0 (kC b3 b5 p (.func (.func g) #[] caps) C :: wb p sl :: L) W)
    (hk : ∀ W', St W0 (kC b3 b5 p (.func (.func g) #[] caps) C :: wb p sl :: L) W' → k (.bool ((plcO sl d).isSome || q d)) W') : callK PR F_order_kept_1 [KD d, .pointer (some ⟨b5, 0, none⟩), .pointer (some ⟨b3, 0, none⟩)] k W := by
  apply S.order_kept_1.call
  unfold S.order_kept_1.body
  have h : St W0 (cells b3 [.func (.func g) #[] caps] T_t61 :: cells b5 [.pointer (some ⟨p, 0, none⟩)] T_p_order_web :: C :: wb p sl :: L) W := h.flat
  obtain ⟨wa, wc, wr, h⟩ := wb_at (St.wk (L' := wb p sl :: cells b3 [.func (.func g) #[] caps] T_t61 :: cells b5 [.pointer (some ⟨p, 0, none⟩)] T_p_order_web :: C :: L) h)
  refine bxa h fun db W1 h => ?_
  (repeat (first | (first | (with_reducible (first | refine w1 fun _ _ => ?_ | refine w3 fun _ _ _ => ?_ | refine w4 fun _ _ _ => ?_ | refine w11 fun _ _ _ => ?_ | refine stb_n ?_)) | ((with_reducible refine w2 ?_); try simp -implicitDefEqProofs only [EN, lsub, lget, stL, beq_self_eq_true, ne_eq, if_true, if_false, List.cons_append, List.nil_append, Option.isNone_some, Option.isNone_none]; intro _ _) | ((with_reducible (first | refine w5 ?_ ?_ | refine w6 ?_ ?_ | refine w7 ?_ ?_)); simp; refine ⟨_, rfl, ?_⟩) | ((with_reducible (first | refine w8 ?_ ?_ ?_ | refine w9 ?_ ?_ ?_ | refine w10 ?_ ?_ ?_)); exact rfl; simp) | ((with_reducible refine w12 ?_ ?_ ?_ fun _ _ => ?_); simp; simp; simp [oneC]) | ((with_reducible (first | refine eqs ?_ | refine nes ?_)); refine ⟨_, rfl, ?_⟩) | ((refine okF_i (bldP_eq rfl) ?_); try simp only [BLS, List.take_succ_cons, List.take_zero, List.drop_succ_cons, List.drop_zero, List.cons_append, List.nil_append, Nat.reduceAdd])) | simp -implicitDefEqProofs only [EN, lsub, lget, stL, beq_self_eq_true, ne_eq, if_true, if_false, List.cons_append, List.nil_append, Option.isNone_some, Option.isNone_none]))
  refine lkpOk (K := KD) (z := .int .i64 0) d (by first | assumption | exact St.tick (by assumption) | exact St.tick (St.tick (by assumption))) ?_
  rw [plcO_mget]
  cases hp : plcO sl d with
  | some j =>
    rw [hp] at hk
    simp only [Option.map_some, Option.getD_some, Option.isSome_some]
    (repeat (first | (first | (with_reducible (first | refine w1 fun _ _ => ?_ | refine w3 fun _ _ _ => ?_ | refine w4 fun _ _ _ => ?_ | refine w11 fun _ _ _ => ?_ | refine stb_n ?_)) | ((with_reducible refine w2 ?_); try simp -implicitDefEqProofs only [EN, lsub, lget, stL, beq_self_eq_true, ne_eq, if_true, if_false, List.cons_append, List.nil_append, Option.isNone_some, Option.isNone_none]; intro _ _) | ((with_reducible (first | refine w5 ?_ ?_ | refine w6 ?_ ?_ | refine w7 ?_ ?_)); simp; refine ⟨_, rfl, ?_⟩) | ((with_reducible (first | refine w8 ?_ ?_ ?_ | refine w9 ?_ ?_ ?_ | refine w10 ?_ ?_ ?_)); exact rfl; simp) | ((with_reducible refine w12 ?_ ?_ ?_ fun _ _ => ?_); simp; simp; simp [oneC]) | ((with_reducible (first | refine eqs ?_ | refine nes ?_)); refine ⟨_, rfl, ?_⟩) | ((refine okF_i (bldP_eq rfl) ?_); try simp only [BLS, List.take_succ_cons, List.take_zero, List.drop_succ_cons, List.drop_zero, List.cons_append, List.nil_append, Nat.reduceAdd])) | simp -implicitDefEqProofs only [EN, lsub, lget, stL, beq_self_eq_true, ne_eq, if_true, if_false, List.cons_append, List.nil_append, Option.isNone_some, Option.isNone_none]))
    refine hk _ ?_
    have h5 := St.wk (L' := cells p [.slice wa sl.length wc, .map (some wr)] T_order_web :: arr INS T_order_Inst wa wc sl :: mp KD wr (plL sl) :: cells b3 [.func (.func g) #[] caps] T_t61 :: cells b5 [.pointer (some ⟨p, 0, none⟩)] T_p_order_web :: C :: L) (by first | assumption | exact St.tick (by assumption) | exact St.tick (St.tick (by assumption)))
    have h6 := h5.ent wb_ent
    have h7 := St.wk (L' := cells b3 [.func (.func g) #[] caps] T_t61 :: cells b5 [.pointer (some ⟨p, 0, none⟩)] T_p_order_web :: C :: wb p sl :: L) h6
    exact (h7.ent (ent.pack [_, _, _] _)).tick
  | none =>
    rw [hp] at hk
    simp only [Option.map_none, Option.getD_none, Option.isSome_none, Bool.false_or] at hk ⊢
    (repeat (first | (first | (with_reducible (first | refine w1 fun _ _ => ?_ | refine w3 fun _ _ _ => ?_ | refine w4 fun _ _ _ => ?_ | refine w11 fun _ _ _ => ?_ | refine stb_n ?_)) | ((with_reducible refine w2 ?_); try simp -implicitDefEqProofs only [EN, lsub, lget, stL, beq_self_eq_true, ne_eq, if_true, if_false, List.cons_append, List.nil_append, Option.isNone_some, Option.isNone_none]; intro _ _) | ((with_reducible (first | refine w5 ?_ ?_ | refine w6 ?_ ?_ | refine w7 ?_ ?_)); simp; refine ⟨_, rfl, ?_⟩) | ((with_reducible (first | refine w8 ?_ ?_ ?_ | refine w9 ?_ ?_ ?_ | refine w10 ?_ ?_ ?_)); exact rfl; simp) | ((with_reducible refine w12 ?_ ?_ ?_ fun _ _ => ?_); simp; simp; simp [oneC]) | ((with_reducible (first | refine eqs ?_ | refine nes ?_)); refine ⟨_, rfl, ?_⟩) | ((refine okF_i (bldP_eq rfl) ?_); try simp only [BLS, List.take_succ_cons, List.take_zero, List.drop_succ_cons, List.drop_zero, List.cons_append, List.nil_append, Nat.reduceAdd])) | simp -implicitDefEqProofs only [EN, lsub, lget, stL, beq_self_eq_true, ne_eq, if_true, if_false, List.cons_append, List.nil_append, Option.isNone_some, Option.isNone_none]))
    refine hD d W0 _ _ _ h1 h2 (St.wk (L' := C :: cells b3 [.func (.func g) #[] caps] T_t61 :: cells b5 [.pointer (some ⟨p, 0, none⟩)] T_p_order_web :: cells p [.slice wa sl.length wc, .map (some wr)] T_order_web :: arr INS T_order_Inst wa wc sl :: mp KD wr (plL sl) :: L) (by first | assumption | exact St.tick (by assumption) | exact St.tick (St.tick (by assumption)))) fun W2 h => ?_
    (repeat (first | (first | (with_reducible (first | refine w1 fun _ _ => ?_ | refine w3 fun _ _ _ => ?_ | refine w4 fun _ _ _ => ?_ | refine w11 fun _ _ _ => ?_ | refine stb_n ?_)) | ((with_reducible refine w2 ?_); try simp -implicitDefEqProofs only [EN, lsub, lget, stL, beq_self_eq_true, ne_eq, if_true, if_false, List.cons_append, List.nil_append, Option.isNone_some, Option.isNone_none]; intro _ _) | ((with_reducible (first | refine w5 ?_ ?_ | refine w6 ?_ ?_ | refine w7 ?_ ?_)); simp; refine ⟨_, rfl, ?_⟩) | ((with_reducible (first | refine w8 ?_ ?_ ?_ | refine w9 ?_ ?_ ?_ | refine w10 ?_ ?_ ?_)); exact rfl; simp) | ((with_reducible refine w12 ?_ ?_ ?_ fun _ _ => ?_); simp; simp; simp [oneC]) | ((with_reducible (first | refine eqs ?_ | refine nes ?_)); refine ⟨_, rfl, ?_⟩) | ((refine okF_i (bldP_eq rfl) ?_); try simp only [BLS, List.take_succ_cons, List.take_zero, List.drop_succ_cons, List.drop_zero, List.cons_append, List.nil_append, Nat.reduceAdd])) | simp -implicitDefEqProofs only [EN, lsub, lget, stL, beq_self_eq_true, ne_eq, if_true, if_false, List.cons_append, List.nil_append, Option.isNone_some, Option.isNone_none]))
    refine hk _ ?_
    have h5 := St.wk (L' := cells p [.slice wa sl.length wc, .map (some wr)] T_order_web :: arr INS T_order_Inst wa wc sl :: mp KD wr (plL sl) :: cells b3 [.func (.func g) #[] caps] T_t61 :: cells b5 [.pointer (some ⟨p, 0, none⟩)] T_p_order_web :: C :: L) (by first | assumption | exact St.tick (by assumption) | exact St.tick (St.tick (by assumption)))
    have h6 := h5.ent wb_ent
    have h7 := St.wk (L' := cells b3 [.func (.func g) #[] caps] T_t61 :: cells b5 [.pointer (some ⟨p, 0, none⟩)] T_p_order_web :: C :: wb p sl :: L) h6
    exact h7.ent (ent.pack [_, _, _] _)
theorem eachAll (q : Dot → Bool) : ∀ ds : List Dot, eachF (fun (_ : Unit) d => q d) (fun s _ => s) ds () = (ds.all q, ())
  | [] => rfl
  | d :: ds => by
    unfold eachF
    rw [eachAll q ds, List.all_cons]
    cases q d <;> simp
/-- does it lack one straight? -/
def lack0 (q : Dot → Bool) (sl : List Ins) (x : Ins) : Bool := !(depsL x).all fun d => (plcO sl d).isSome || q d
theorem ordKeptE (hD : DoneF C (.func (.func g) #[] caps) q) {i : Nat} {k : Value → World → Prop} (hi : i < sl.length) (hd : depsO sl[i] = true) (h : St W0 (kC b3 b5 p (.func (.func g) #[] caps) C :: wb p sl :: L) W)
    (hk : ∀ W', St W0 (kC b3 b5 p (.func (.func g) #[] caps) C :: wb p sl :: L) W' → k (.bool (!lack0 q sl sl[i])) W') :
    callK PR F_order_web_each [.pointer (some ⟨p, 0, none⟩), .int .i64 (i : Int), .func (.func F_order_kept_1) #[] #[.pointer (some ⟨b5, 0, none⟩), .pointer (some ⟨b3, 0, none⟩)]] k W := by
  refine ordEach (σ := Unit) (C := fun _ => kC b3 b5 p (.func (.func g) #[] caps) C) (q := fun _ d => (plcO sl d).isSome || q d) (t := fun s _ => s) (I := fun _ _ => True) (s := ()) (fun _ _ _ _ => trivial) trivial ?_ h hi hd fun W' h' => ?_
  · rintro m _ d W k _ ⟨h1, h2⟩ _ h hk
    exact ⟨CBok _ (by kernel_rfl), ordKept1 hD h1 h2 h hk⟩
  · rw [eachAll]
    have := hk W' h'
    rwa [lack0, Bool.not_not] at this
end
end Go.Proofs.Ytkjhccpanedccaa
namespace Go.Proofs.Ytkjhccpanedccaa
set_option linter.unusedVariables false
set_option linter.unusedSimpArgs false
open Go Go.Eng Go.Tar Go.Sort
section
variable {sl : List Ins} {n i : Nat} {on : List (List Int)} {lk : Nat → Bool} {b : List Bool} {td : List Int}
theorem plcO_some {d : Dot} {k : Nat} (h : plcO sl d = some k) : ∃ hk : k < sl.length, sl[k].d = d := by
  unfold plcO at h
  rw [List.findIdx?_eq_some_iff_getElem] at h
  obtain ⟨h1, h2, _⟩ := h
  exact ⟨h1, by simpa using h2⟩
theorem plcO_none {d : Dot} : plcO sl d = none ↔ ∀ x ∈ sl, x.d ≠ d := by
  unfold plcO
  rw [List.findIdx?_eq_none_iff]
  simp
theorem plcO_at (hn : (sl.map (·.d)).Nodup) {k : Nat} (hk : k < sl.length) : plcO sl sl[k].d = some k := by
  cases h : plcO sl sl[k].d with
  | none => exact absurd rfl (plcO_none.1 h _ (List.getElem_mem hk))
  | some j =>
    obtain ⟨h1, h2⟩ := plcO_some h
    have h3 := List.getElem_inj (h₀ := by simpa using h1) (h₁ := by simpa using hk) (i := j) (j := k) hn
    rw [h3.1 (by simpa using h2)]
theorem depsR_len (x : Ins) (r : Nat) (h : x.v.get r ≤ 1000) : (depsR x r).length ≤ 1000 := by
  unfold depsR
  refine Nat.le_trans (List.length_filter_le _ _) ?_
  simp; omega
theorem flatMap_len {α β : Type} (f : α → List β) (c : Nat) : ∀ l : List α, (∀ x ∈ l, (f x).length ≤ c) → (l.flatMap f).length ≤ l.length * c
  | [], _ => by simp
  | x :: l, h => by
    have h1 := flatMap_len f c l fun y hy => h y (by simp [hy])
    have h2 := h x (by simp)
    rw [List.flatMap_cons, List.length_append, List.length_cons, Nat.succ_mul]; omega
theorem depsL_len {x : Ins} (hx : depsO x = true) : (depsL x).length ≤ 7000 := by
  have := flatMap_len (depsR x) 1000 (List.range 7) fun r hr => depsR_len x r ((depsO_iff x).1 hx r (List.mem_range.1 hr)).2
  rw [List.length_range] at this
  exact this
theorem onRow_at (sl : List Ins) {i : Nat} (hi : i < sl.length) : rowOf (onL sl) (i : Int) = onRow sl sl[i] := by
  unfold rowOf onL
  rw [Int.toNat_natCast, List.getD_eq_getElem?_getD, List.getElem?_map, List.getElem?_eq_getElem hi]; rfl
theorem onRow_mem {x : Ins} {u : Int} : u ∈ onRow sl x ↔ ∃ d ∈ depsL x, ∃ k : Nat, plcO sl d = some k ∧ (k : Int) = u := by
  unfold onRow
  simp only [List.mem_filterMap, Option.map_eq_some_iff]
theorem onL_ok (sl : List Ins) : OnOk (onL sl) sl.length where
  len := by simp [onL]
  rng v u hu := by
    unfold rowOf onL at hu
    rw [List.getD_eq_getElem?_getD, List.getElem?_map] at hu
    cases he : sl[v.toNat]? with
    | none => rw [he] at hu; cases hu
    | some x =>
      rw [he] at hu
      obtain ⟨d, _, k, hk, rfl⟩ := onRow_mem.1 (show u ∈ onRow sl x from hu)
      obtain ⟨h1, _⟩ := plcO_some hk
      unfold Vx; omega
theorem onL_rl (hd : ∀ x ∈ sl, depsO x = true) (v : Int) : (rowOf (onL sl) v).length ≤ 7000 := by
  unfold rowOf onL
  rw [List.getD_eq_getElem?_getD, List.getElem?_map]
  cases he : sl[v.toNat]? with
  | none => simp
  | some x =>
    show (onRow sl x).length ≤ 7000
    unfold onRow
    exact Nat.le_trans (List.length_filterMap_le _ _) (depsL_len (hd x (List.mem_of_getElem? he)))
/-- what lacks something, and what hangs on that, is found -/
structure KB (on : List (List Int)) (n : Nat) (lk : Nat → Bool) (i : Nat) (b : List Bool) (td : List Int) : Prop where
  lb : b.length = n
  it : i ≤ td.length
  tb : ∀ k, Vx n k → (b.getD k.toNat false = true ↔ k ∈ td)
  rg : ∀ k ∈ td, Vx n k
  nd : td.Nodup
  sd : ∀ k ∈ td, ∃ y, Rch on k y ∧ Vx n y ∧ lk y.toNat = true
  st : ∀ y, y < n → lk y = true → (y : Int) ∈ td
  cl : ∀ j, j < i → ∀ k, Vx n k → td.getD j 0 ∈ rowOf on k → k ∈ td
theorem Rch.head {x y z : Int} (h : y ∈ rowOf on x) (h2 : Rch on y z) : Rch on x z := (Rch.one h).trans h2
theorem kb_add {k v : Int} (h : KB on n lk i b td) (hk : Vx n k) (hv : v ∈ td) (hvk : v ∈ rowOf on k) (hn : k ∉ td) : KB on n lk i (b.set k.toNat true) (td ++ [k]) := by
  refine ⟨by simp [h.lb], by simp; have := h.it; omega, fun x hx => ?_, fun x hx => ?_, ?_, fun x hx => ?_, fun y hy hl => List.mem_append.2 (.inl (h.st y hy hl)), fun j hj x hx hm => ?_⟩
  · rw [setAt h.lb hk hx]
    by_cases e : x = k
    · simp [e]
    · rw [if_neg e, h.tb x hx]; simp [e]
  · rcases List.mem_append.1 hx with hx | hx
    · exact h.rg x hx
    · rw [List.mem_singleton.1 hx]; exact hk
  · rw [List.nodup_append]
    refine ⟨h.nd, by simp, fun a ha c hc e => ?_⟩
    rw [List.mem_singleton] at hc
    subst hc; subst e; exact hn ha
  · rcases List.mem_append.1 hx with hx | hx
    · exact h.sd x hx
    · rw [List.mem_singleton.1 hx]
      obtain ⟨y, h1, h2, h3⟩ := h.sd v hv
      exact ⟨y, Rch.head hvk h1, h2, h3⟩
  · have hit := h.it
    rw [List.getD_eq_getElem?_getD, List.getElem?_append_left (by omega), ← List.getD_eq_getElem?_getD] at hm
    exact List.mem_append.2 (.inl (h.cl j hj x hx hm))
theorem rch_vx (hO : OnOk on n) {x y : Int} (h : Rch on x y) (hx : Vx n x) : Vx n y := Rch.stay (C := Vx n) (fun a _ c hc => hO.rng a c hc) h hx
theorem kb_end (hO : OnOk on n) (h : KB on n lk td.length b td) {k : Int} (hk : Vx n k) : b.getD k.toNat false = true ↔ ∃ y, Rch on k y ∧ Vx n y ∧ lk y.toNat = true := by
  rw [h.tb k hk]
  refine ⟨h.sd k, ?_⟩
  rintro ⟨y, h1, h2, h3⟩
  have hy : y ∈ td := by
    have := h.st y.toNat (by unfold Vx at h2; omega) h3
    rwa [show ((y.toNat : Nat) : Int) = y by unfold Vx at h2; omega] at this
  have key : ∀ x y, Rch on x y → Vx n x → y ∈ td → x ∈ td := by
    intro x y hr
    induction hr with
    | refl => exact fun _ h => h
    | @step y z hr hz ih =>
      intro hx hzt
      refine ih hx ?_
      obtain ⟨j, hj, e⟩ := List.getElem_of_mem hzt
      refine h.cl j hj y (rch_vx hO hr hx) ?_
      rw [List.getD_eq_getElem?_getD, List.getElem?_eq_getElem hj]
      show td[j] ∈ rowOf on y
      rw [e]; exact hz
  exact key k y h1 hk hy
/-- who hangs on each, so far -/
structure BK (on : List (List Int)) (n i j : Nat) (bk : List (List Int)) : Prop where
  lb : bk.length = n
  snd : ∀ v, ∀ x ∈ bk.getD v [], Vx n x ∧ (v : Int) ∈ rowOf on x
  cmp : ∀ x v : Nat, x < i → v < n → (v : Int) ∈ rowOf on x → (x : Int) ∈ bk.getD v []
  cmj : ∀ v : Nat, v < n → (v : Int) ∈ (rowOf on i).take j → (i : Int) ∈ bk.getD v []
  len : ∀ v, (bk.getD v []).length ≤ i * 7000 + j
theorem bk_start (n : Nat) : BK on n 0 0 (List.replicate n []) := by
  have h0 : ∀ v : Nat, (List.replicate n ([] : List Int)).getD v [] = [] := fun v => repAt
  refine ⟨by simp, fun v x hx => ?_, fun x v hx => by omega, fun v _ hm => by simp at hm, fun v => by rw [h0]; simp⟩
  rw [h0] at hx; cases hx
theorem bk_step {bk : List (List Int)} {j : Nat} {v : Int} (h : BK on n i j bk) (hi : i < n) (hv : Vx n v) (hj : (rowOf on i)[j]? = some v) : BK on n i (j + 1) (bk.set v.toNat (bk.getD v.toNat [] ++ [(i : Int)])) := by
  have hvn : v.toNat < bk.length := by rw [h.lb]; unfold Vx at hv; omega
  have ev : ((v.toNat : Nat) : Int) = v := by unfold Vx at hv; omega
  have hg : ∀ w, (bk.set v.toNat (bk.getD v.toNat [] ++ [(i : Int)])).getD w [] = if w = v.toNat then bk.getD v.toNat [] ++ [(i : Int)] else bk.getD w [] := fun w => getD_set hvn
  have hsub : ∀ w (x : Int), x ∈ bk.getD w [] → x ∈ (bk.set v.toNat (bk.getD v.toNat [] ++ [(i : Int)])).getD w [] := fun w x hx => by
    rw [hg]; split
    · rename_i e; rw [e] at hx; exact List.mem_append.2 (.inl hx)
    · exact hx
  refine ⟨by simp [h.lb], fun w x hx => ?_, fun x w hx hw hm => hsub _ _ (h.cmp x w hx hw hm), fun w hw hm => ?_, fun w => ?_⟩
  · rw [hg] at hx
    by_cases e : w = v.toNat
    · rw [if_pos e] at hx
      rcases List.mem_append.1 hx with hx | hx
      · rw [e]; exact h.snd _ x hx
      · rw [List.mem_singleton.1 hx, e, ev]
        exact ⟨⟨by omega, by omega⟩, List.mem_of_getElem? hj⟩
    · rw [if_neg e] at hx; exact h.snd w x hx
  · have hjl := (List.getElem?_eq_some_iff.1 hj).1
    rw [List.take_succ_eq_append_getElem hjl] at hm
    rcases List.mem_append.1 hm with hm | hm
    · exact hsub _ _ (h.cmj w hw hm)
    · have e2 := List.mem_singleton.1 hm
      rw [(List.getElem?_eq_some_iff.1 hj).2] at e2
      have : w = v.toNat := by omega
      rw [hg, if_pos this]; simp
  · rw [hg]
    have := h.len w
    have := h.len v.toNat
    split
    · rw [List.length_append, List.length_singleton]; omega
    · omega
theorem bk_next {bk : List (List Int)} (h : BK on n i (rowOf on i).length bk) (hr : (rowOf on i).length ≤ 7000) : BK on n (i + 1) 0 bk := by
  refine ⟨h.lb, h.snd, fun x v hx hv hm => ?_, fun v _ hm => by simp at hm, fun v => ?_⟩
  · by_cases e : x = i
    · subst e; exact h.cmj v hv (by rw [List.take_length]; exact hm)
    · exact h.cmp x v (by omega) hv hm
  · have h1 := h.len v
    rw [Nat.add_mul, Nat.one_mul]
    generalize i * 7000 = z at *
    exact Nat.le_trans h1 (Nat.add_le_add_left hr z)
/-- the first i are tried -/
def lkL (lk : Nat → Bool) (n i : Nat) : List Bool := (List.range n).map fun j => decide (j < i) && lk j
def tdL (lk : Nat → Bool) (i : Nat) : List Int := ((List.range i).filter lk).map fun j : Nat => (j : Int)
theorem lkL_at {j : Nat} (hj : j < n) : (lkL lk n i).getD j false = (decide (j < i) && lk j) := by
  unfold lkL
  rw [List.getD_eq_getElem?_getD, List.getElem?_map, List.getElem?_range hj]; rfl
theorem lkL_set (hi : i < n) (h : lk i = true) : (lkL lk n i).set i true = lkL lk n (i + 1) := by
  apply List.ext_getElem
  · simp [lkL]
  · intro j h1 h2
    have hj : j < n := by simpa [lkL] using h2
    rw [List.getElem_set]
    by_cases e : i = j
    · subst e; simp [lkL, h]
    · rw [if_neg e]; simp only [lkL, List.getElem_map, List.getElem_range]
      congr 1; rw [decide_eq_decide]; omega
theorem lkL_not (h : lk i = false) : lkL lk n i = lkL lk n (i + 1) := by
  unfold lkL
  refine List.map_congr_left fun j _ => ?_
  by_cases e : j = i
  · subst e; simp [h]
  · congr 1; rw [decide_eq_decide]; omega
theorem tdL_yes (h : lk i = true) : tdL lk (i + 1) = tdL lk i ++ [(i : Int)] := by simp [tdL, List.range_succ, List.filter_append, h]
theorem tdL_no (h : lk i = false) : tdL lk (i + 1) = tdL lk i := by simp [tdL, List.range_succ, List.filter_append, h]
theorem tdL_len : (tdL lk i).length ≤ i := by
  unfold tdL; rw [List.length_map]
  have := List.length_filter_le lk (List.range i)
  simpa using this
theorem kb_start : KB on n lk 0 (lkL lk n n) (tdL lk n) := by
  have hm : ∀ k, Vx n k → (k ∈ tdL lk n ↔ lk k.toNat = true) := fun k hk => by
    unfold tdL
    simp only [List.mem_map, List.mem_filter, List.mem_range]
    constructor
    · rintro ⟨x, ⟨_, h⟩, rfl⟩; simpa using h
    · intro h; exact ⟨k.toNat, ⟨by unfold Vx at hk; omega, h⟩, by unfold Vx at hk; omega⟩
  have hr : ∀ k ∈ tdL lk n, Vx n k := fun k hk => by
    unfold tdL at hk
    simp only [List.mem_map, List.mem_filter, List.mem_range] at hk
    obtain ⟨x, ⟨h, _⟩, rfl⟩ := hk
    unfold Vx; omega
  refine ⟨by simp [lkL], Nat.zero_le _, fun k hk => ?_, hr, ?_, fun k hk => ⟨k, .refl k, hr k hk, (hm k (hr k hk)).1 hk⟩, fun y hy h => (hm y ⟨by omega, by omega⟩).2 (by simpa using h), fun j hj => by omega⟩
  · have hkn : k.toNat < n := by unfold Vx at hk; omega
    rw [lkL_at hkn, hm k hk, decide_eq_true hkn, Bool.true_and]
  · unfold tdL
    rw [List.nodup_iff_pairwise_ne]
    exact List.pairwise_map.2 (((List.nodup_range).filter _).imp fun {a b} hab => by omega)
theorem kb_len (h : KB on n lk i b td) : td.length ≤ n := nodup_len h.nd h.rg
/-- a round is over -/
theorem kb_next (h : KB on n lk i b td) (hi : i < td.length) (hc : ∀ k, Vx n k → td.getD i 0 ∈ rowOf on k → k ∈ td) : KB on n lk (i + 1) b td := by
  refine ⟨h.lb, hi, h.tb, h.rg, h.nd, h.sd, h.st, fun j hj k hk hm => ?_⟩
  by_cases e : j = i
  · subst e; exact hc k hk hm
  · exact h.cl j (by omega) k hk hm
def keepL (sl : List Ins) (b : List Bool) : List Ins := (sl.zipIdx.filter fun x => !b.getD x.2 false).map (·.1)
end
end Go.Proofs.Ytkjhccpanedccaa
