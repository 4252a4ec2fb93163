/- Texts of the claim DiskPlays, joined: CRef5c, CRef5d, CRef5e. -/
import Derived.Test.YthladblmjoaeoaaBDiskPlays7
namespace Go.Proofs.Ythladblmjoaeoaa
set_option linter.unusedVariables false
set_option linter.unusedSimpArgs false
open Go Go.Eng

def syB (f : Int) (x : RB) : RB := if x.file = f then ⟨x.file, x.b, true⟩ else x
/-- the first i are done -/
def part {α : Type} (g : α → α) (l : List α) (i : Nat) : List α := (l.take i).map g ++ l.drop i
section
variable {α : Type} (g : α → α) (l : List α)
theorem part_len (i : Nat) : (part g l i).length = l.length := by simp only [part, List.length_append, List.length_map, List.length_take, List.length_drop]; omega
theorem part_at {i : Nat} (h : i < l.length) : (part g l i)[i]'(by rw [part_len]; exact h) = l[i] := by
  simp only [part]
  rw [List.getElem_append_right (by simp; omega)]
  simp [Nat.min_eq_left (Nat.le_of_lt h)]
theorem part_next {i : Nat} (h : i < l.length) : part g l (i + 1) = (part g l i).set i (g l[i]) := by
  simp only [part]
  rw [List.take_succ_eq_append_getElem h, List.map_append, List.set_append, if_neg (by simp; omega)]
  simp only [List.map_cons, List.map_nil, List.append_assoc, List.length_map, List.length_take, Nat.min_eq_left (Nat.le_of_lt h), Nat.sub_self]
  rw [List.drop_eq_getElem_cons h]; rfl
theorem part_all : part g l l.length = l.map g := by simp [part]
theorem part_zero : part g l 0 = l := by simp [part]
end
section
variable {W0 W : World} {L L' : List Asn} {q : Nat} {r : RD}
set_option maxRecDepth 100000 in
set_option maxHeartbeats 4000000 in
theorem refSync {f : Int} {k : Value → World → Prop} (h : St W0 L W) [ht : Tk (rk q) L r L'] (hn : r.w.length < 1000000)
    (hk : ∀ W', St W0 (rk q (r.sync f).1 :: L') W' → k (.int .i64 (r.sync f).2) W') : callK PR F_rostrumref5_Disk_Sync [.pointer (some ⟨q, 0, none⟩), .int .i64 f] k W := by
  apply S.rostrumref5_Disk_Sync.call
  unfold S.rostrumref5_Disk_Sync.body
  refine refAsk (f := f) h fun W1 h => ?_
  obtain ⟨wa, wc, rows, hw, hl, h⟩ := rk_at h
  have hrl : rows.length = r.w.length := by rw [← hw, List.length_map]
  have hbm : ∀ i, (part (syB f) rows i).map (fun x : RB => x.b) = rows.map (fun x : RB => x.b) := fun i => by
    simp only [part, List.map_append, List.map_map]
    conv => rhs; rw [← List.take_append_drop i rows, List.map_append]
    congr 1
    refine List.map_congr_left fun x _ => ?_
    simp only [Function.comp_def, syB]; split <;> rfl
  refine joinK_i ?_
  refine loop_c (σ := Unit) (if r.ask f = 0 then rows.length else 0) (fun i y => [.pointer (some ⟨q, 0, none⟩), .int .i64 f, .int .i64 (r.ask f), .int .i64 i])
    (fun i y W1 => St W0 (cells q (rdc r (.slice wa rows.length wc)) T_rostrumref5_Disk :: arr RBL T_rostrumref5_write wa wc (part (syB f) rows i) :: many fch (rows.map (fun x : RB => x.b)) :: L') W1) () rfl (by rw [part_zero]; exact h) ?_
  clear h
  rintro K i _ W2 hi h hK
  simp -implicitDefEqProofs only [EN, lsub, lget, stL, beq_self_eq_true, ne_eq, if_true, if_false, List.cons_append, List.nil_append, Option.isNone_some, Option.isNone_none]
  unfold S.rostrumref5_Disk_Sync.l1
  have hend : ∀ W', St W0 (cells q (rdc r (.slice wa rows.length wc)) T_rostrumref5_Disk :: arr RBL T_rostrumref5_write wa wc (part (syB f) rows i) :: many fch (rows.map (fun x : RB => x.b)) :: L') W' → i = (if r.ask f = 0 then rows.length else 0) → S.rostrumref5_Disk_Sync.j1 k (.int .i64 (r.ask f)) W' := fun W' h e => by
    unfold S.rostrumref5_Disk_Sync.j1
    rw [← hbm i, ← part_len (syB f) rows i] at h
    unfold RD.sync at hk
    by_cases ha : r.ask f = 0
    · rw [if_pos ha] at e hk
      rw [e, part_all] at h
      rw [ha]
      have e6 : ∀ v, rdc r v = rdc { r with w := r.w.map (syR f) } v := fun v => by unfold rdc; rfl
      rw [e6] at h
      refine hk _ (h.ent (rk_ent (r := { r with w := r.w.map (syR f) }) ?_ hl))
      rw [← hw, List.map_map, List.map_map]
      refine List.map_congr_left fun x _ => ?_
      simp only [Function.comp_def, syB, syR, RB.val]
      by_cases hx : x.file = f <;> simp [hx]
    · rw [if_neg ha] at e hk
      rw [e, part_zero] at h
      exact hk _ (h.ent (rk_ent hw hl))
  (repeat (first | (first | (with_reducible (first | refine w1 fun _ _ => ?_ | refine w3 fun _ _ _ => ?_ | refine w4 fun _ _ _ => ?_ | refine w11 fun _ _ _ => ?_ | refine stb_n ?_)) | ((with_reducible refine w2 ?_); try simp -implicitDefEqProofs only [EN, lsub, lget, stL, beq_self_eq_true, ne_eq, if_true, if_false, List.cons_append, List.nil_append, Option.isNone_some, Option.isNone_none]; intro _ _) | ((with_reducible (first | refine w5 ?_ ?_ | refine w6 ?_ ?_ | refine w7 ?_ ?_)); simp; refine ⟨_, rfl, ?_⟩) | ((with_reducible (first | refine w8 ?_ ?_ ?_ | refine w9 ?_ ?_ ?_ | refine w10 ?_ ?_ ?_)); exact rfl; simp) | ((with_reducible refine w12 ?_ ?_ ?_ fun _ _ => ?_); simp; simp; simp [oneC]) | ((with_reducible (first | refine eqs ?_ | refine nes ?_)); refine ⟨_, rfl, ?_⟩) | ((refine okF_i (bldP_eq rfl) ?_); try simp only [BLS, List.take_succ_cons, List.take_zero, List.drop_succ_cons, List.drop_zero, List.cons_append, List.nil_append, Nat.reduceAdd])) | simp -implicitDefEqProofs only [EN, lsub, lget, stL, beq_self_eq_true, ne_eq, if_true, if_false, List.cons_append, List.nil_append, Option.isNone_some, Option.isNone_none]))
  refine ld (b := q) (v := .slice wa rows.length wc) (by first | assumption | exact St.tick (by assumption) | exact St.tick (St.tick (by assumption))) (rdc_w hl) (by simp) ?_
  by_cases hlt : (i : Int) < (rows.length : Int)
  · by_cases ha : r.ask f = 0
    · rw [if_pos ha] at hi hK
      have hib : i < rows.length := by omega
      have e1 := decide_eq_true ha
      have ew : IntKind.i64.wrap ((i : Int) + 1) = ((i + 1 : Nat) : Int) := by rw [i64w]; omega
      have hpn := part_next (syB f) rows hib
      have hpl := part_len (syB f) rows i
      have hib2 : i < (part (syB f) rows i).length := by omega
      have hpa : (part (syB f) rows i)[i] = rows[i] := part_at (syB f) rows hib
      have hJ2 : ∀ W', St W0 (cells q (rdc r (.slice wa rows.length wc)) T_rostrumref5_Disk :: arr RBL T_rostrumref5_write wa wc (part (syB f) rows (i + 1)) :: many fch (rows.map (fun x : RB => x.b)) :: L') W' →
          S.rostrumref5_Disk_Sync.j2 K (.pointer (some ⟨q, 0, none⟩)) (.int .i64 f) (.int .i64 (r.ask f)) (.int .i64 i) W' := fun W' h => by
        unfold S.rostrumref5_Disk_Sync.j2
        (repeat (first | (first | (with_reducible (first | refine w1 fun _ _ => ?_ | refine w3 fun _ _ _ => ?_ | refine w4 fun _ _ _ => ?_ | refine w11 fun _ _ _ => ?_ | refine stb_n ?_)) | ((with_reducible refine w2 ?_); try simp -implicitDefEqProofs only [EN, lsub, lget, stL, beq_self_eq_true, ne_eq, if_true, if_false, List.cons_append, List.nil_append, Option.isNone_some, Option.isNone_none, ew]; intro _ _) | ((with_reducible (first | refine w5 ?_ ?_ | refine w6 ?_ ?_ | refine w7 ?_ ?_)); simp; refine ⟨_, rfl, ?_⟩) | ((with_reducible (first | refine w8 ?_ ?_ ?_ | refine w9 ?_ ?_ ?_ | refine w10 ?_ ?_ ?_)); exact rfl; simp) | ((with_reducible refine w12 ?_ ?_ ?_ fun _ _ => ?_); simp; simp; simp [oneC]) | ((with_reducible (first | refine eqs ?_ | refine nes ?_)); refine ⟨_, rfl, ?_⟩) | ((refine okF_i (bldP_eq rfl) ?_); try simp only [BLS, List.take_succ_cons, List.take_zero, List.drop_succ_cons, List.drop_zero, List.cons_append, List.nil_append, Nat.reduceAdd])) | simp -implicitDefEqProofs only [EN, lsub, lget, stL, beq_self_eq_true, ne_eq, if_true, if_false, List.cons_append, List.nil_append, Option.isNone_some, Option.isNone_none, ew]))
        exact hK () _ hib h
      clear hK hend
      rw [hpn] at hJ2
      generalize hU : part (syB f) rows i = U at *
      obtain ⟨g, o, rfl, _⟩ := Rd.at (A := RBL) (l := U) (a := wa) h (by intro e; rw [e] at hib2; simp at hib2)
      have ei : idxS 3 (.slice (some ⟨g, o, none⟩) rows.length wc) (.int .i64 (i : Int)) = some (.pointer (some ⟨g, o + i * 3, none⟩)) := by rw [idxS_blk (by omega) (by omega), Int.toNat_natCast]
      (repeat (first | (first | (with_reducible (first | refine w1 fun _ _ => ?_ | refine w3 fun _ _ _ => ?_ | refine w4 fun _ _ _ => ?_ | refine w11 fun _ _ _ => ?_ | refine stb_n ?_)) | ((with_reducible refine w2 ?_); try simp -implicitDefEqProofs only [EN, lsub, lget, stL, beq_self_eq_true, ne_eq, if_true, if_false, List.cons_append, List.nil_append, Option.isNone_some, Option.isNone_none, hlt, e1]; intro _ _) | ((with_reducible (first | refine w5 ?_ ?_ | refine w6 ?_ ?_ | refine w7 ?_ ?_)); simp; refine ⟨_, rfl, ?_⟩) | ((with_reducible (first | refine w8 ?_ ?_ ?_ | refine w9 ?_ ?_ ?_ | refine w10 ?_ ?_ ?_)); exact rfl; simp) | ((with_reducible refine w12 ?_ ?_ ?_ fun _ _ => ?_); simp; simp; simp [oneC]) | ((with_reducible (first | refine eqs ?_ | refine nes ?_)); refine ⟨_, rfl, ?_⟩) | ((refine okF_i (bldP_eq rfl) ?_); try simp only [BLS, List.take_succ_cons, List.take_zero, List.drop_succ_cons, List.drop_zero, List.cons_append, List.nil_append, Nat.reduceAdd])) | simp -implicitDefEqProofs only [EN, lsub, lget, stL, beq_self_eq_true, ne_eq, if_true, if_false, List.cons_append, List.nil_append, Option.isNone_some, Option.isNone_none, hlt, e1]))
      refine joinK_i ?_
      (repeat (first | (first | (with_reducible (first | refine w1 fun _ _ => ?_ | refine w3 fun _ _ _ => ?_ | refine w4 fun _ _ _ => ?_ | refine w11 fun _ _ _ => ?_ | refine stb_n ?_)) | ((with_reducible refine w2 ?_); try simp -implicitDefEqProofs only [EN, lsub, lget, stL, beq_self_eq_true, ne_eq, if_true, if_false, List.cons_append, List.nil_append, Option.isNone_some, Option.isNone_none]; intro _ _) | ((with_reducible (first | refine w5 ?_ ?_ | refine w6 ?_ ?_ | refine w7 ?_ ?_)); simp; refine ⟨_, rfl, ?_⟩) | ((with_reducible (first | refine w8 ?_ ?_ ?_ | refine w9 ?_ ?_ ?_ | refine w10 ?_ ?_ ?_)); exact rfl; simp) | ((with_reducible refine w12 ?_ ?_ ?_ fun _ _ => ?_); simp; simp; simp [oneC]) | ((with_reducible (first | refine eqs ?_ | refine nes ?_)); refine ⟨_, rfl, ?_⟩) | ((refine okF_i (bldP_eq rfl) ?_); try simp only [BLS, List.take_succ_cons, List.take_zero, List.drop_succ_cons, List.drop_zero, List.cons_append, List.nil_append, Nat.reduceAdd])) | simp -implicitDefEqProofs only [EN, lsub, lget, stL, beq_self_eq_true, ne_eq, if_true, if_false, List.cons_append, List.nil_append, Option.isNone_some, Option.isNone_none]))
      refine ld (b := q) (v := .slice (some ⟨g, o, none⟩) rows.length wc) (by first | assumption | exact St.tick (by assumption) | exact St.tick (St.tick (by assumption))) (rdc_w hl) (by simp) ?_
      (repeat (first | (first | (with_reducible (first | refine w1 fun _ _ => ?_ | refine w3 fun _ _ _ => ?_ | refine w4 fun _ _ _ => ?_ | refine w11 fun _ _ _ => ?_ | refine stb_n ?_)) | ((with_reducible refine w2 ?_); try simp -implicitDefEqProofs only [EN, lsub, lget, stL, beq_self_eq_true, ne_eq, if_true, if_false, List.cons_append, List.nil_append, Option.isNone_some, Option.isNone_none, ei]; intro _ _) | ((with_reducible (first | refine w5 ?_ ?_ | refine w6 ?_ ?_ | refine w7 ?_ ?_)); simp; refine ⟨_, rfl, ?_⟩) | ((with_reducible (first | refine w8 ?_ ?_ ?_ | refine w9 ?_ ?_ ?_ | refine w10 ?_ ?_ ?_)); exact rfl; simp) | ((with_reducible refine w12 ?_ ?_ ?_ fun _ _ => ?_); simp; simp; simp [oneC]) | ((with_reducible (first | refine eqs ?_ | refine nes ?_)); refine ⟨_, rfl, ?_⟩) | ((refine okF_i (bldP_eq rfl) ?_); try simp only [BLS, List.take_succ_cons, List.take_zero, List.drop_succ_cons, List.drop_zero, List.cons_append, List.nil_append, Nat.reduceAdd])) | simp -implicitDefEqProofs only [EN, lsub, lget, stL, beq_self_eq_true, ne_eq, if_true, if_false, List.cons_append, List.nil_append, Option.isNone_some, Option.isNone_none, ei]))
      refine ldA0 (i := i) (l := U) (A := RBL) (by first | assumption | exact St.tick (by assumption) | exact St.tick (St.tick (by assumption))) rfl hib2 (v := .int .i64 rows[i].file) (by rw [hpa]; rfl) (by simp) ?_
      by_cases hf : rows[i].file = f
      · have e2 := decide_eq_true hf
        have es : syB f rows[i] = ⟨rows[i].file, rows[i].b, true⟩ := by unfold syB; rw [if_pos hf]
        rw [es] at hJ2
        (repeat (first | (first | (with_reducible (first | refine w1 fun _ _ => ?_ | refine w3 fun _ _ _ => ?_ | refine w4 fun _ _ _ => ?_ | refine w11 fun _ _ _ => ?_ | refine stb_n ?_)) | ((with_reducible refine w2 ?_); try simp -implicitDefEqProofs only [EN, lsub, lget, stL, beq_self_eq_true, ne_eq, if_true, if_false, List.cons_append, List.nil_append, Option.isNone_some, Option.isNone_none, e2]; intro _ _) | ((with_reducible (first | refine w5 ?_ ?_ | refine w6 ?_ ?_ | refine w7 ?_ ?_)); simp; refine ⟨_, rfl, ?_⟩) | ((with_reducible (first | refine w8 ?_ ?_ ?_ | refine w9 ?_ ?_ ?_ | refine w10 ?_ ?_ ?_)); exact rfl; simp) | ((with_reducible refine w12 ?_ ?_ ?_ fun _ _ => ?_); simp; simp; simp [oneC]) | ((with_reducible (first | refine eqs ?_ | refine nes ?_)); refine ⟨_, rfl, ?_⟩) | ((refine okF_i (bldP_eq rfl) ?_); try simp only [BLS, List.take_succ_cons, List.take_zero, List.drop_succ_cons, List.drop_zero, List.cons_append, List.nil_append, Nat.reduceAdd])) | simp -implicitDefEqProofs only [EN, lsub, lget, stL, beq_self_eq_true, ne_eq, if_true, if_false, List.cons_append, List.nil_append, Option.isNone_some, Option.isNone_none, e2]))
        refine ld (b := q) (v := .slice (some ⟨g, o, none⟩) rows.length wc) (by first | assumption | exact St.tick (by assumption) | exact St.tick (St.tick (by assumption))) (rdc_w hl) (by simp) ?_
        (repeat (first | (first | (with_reducible (first | refine w1 fun _ _ => ?_ | refine w3 fun _ _ _ => ?_ | refine w4 fun _ _ _ => ?_ | refine w11 fun _ _ _ => ?_ | refine stb_n ?_)) | ((with_reducible refine w2 ?_); try simp -implicitDefEqProofs only [EN, lsub, lget, stL, beq_self_eq_true, ne_eq, if_true, if_false, List.cons_append, List.nil_append, Option.isNone_some, Option.isNone_none, ei]; intro _ _) | ((with_reducible (first | refine w5 ?_ ?_ | refine w6 ?_ ?_ | refine w7 ?_ ?_)); simp; refine ⟨_, rfl, ?_⟩) | ((with_reducible (first | refine w8 ?_ ?_ ?_ | refine w9 ?_ ?_ ?_ | refine w10 ?_ ?_ ?_)); exact rfl; simp) | ((with_reducible refine w12 ?_ ?_ ?_ fun _ _ => ?_); simp; simp; simp [oneC]) | ((with_reducible (first | refine eqs ?_ | refine nes ?_)); refine ⟨_, rfl, ?_⟩) | ((refine okF_i (bldP_eq rfl) ?_); try simp only [BLS, List.take_succ_cons, List.take_zero, List.drop_succ_cons, List.drop_zero, List.cons_append, List.nil_append, Nat.reduceAdd])) | simp -implicitDefEqProofs only [EN, lsub, lget, stL, beq_self_eq_true, ne_eq, if_true, if_false, List.cons_append, List.nil_append, Option.isNone_some, Option.isNone_none, ei]))
        have h := St.perm (by first | assumption | exact St.tick (by assumption) | exact St.tick (St.tick (by assumption))) (List.Perm.swap _ _ _)
        refine stAj (i := i) (j := 2) (l := U) (A := RBL) (x := ⟨rows[i].file, rows[i].b, true⟩) h rfl hib2 rfl (by decide) rfl (by rw [hpa]; rfl) fun W3 h => ?_
        exact hJ2 _ (St.perm h (List.Perm.swap _ _ _))
      · have e2 := decide_eq_false hf
        have es : syB f rows[i] = rows[i] := by unfold syB; rw [if_neg hf]
        rw [es, ← hpa, List.set_getElem_self] at hJ2
        (repeat (first | (first | (with_reducible (first | refine w1 fun _ _ => ?_ | refine w3 fun _ _ _ => ?_ | refine w4 fun _ _ _ => ?_ | refine w11 fun _ _ _ => ?_ | refine stb_n ?_)) | ((with_reducible refine w2 ?_); try simp -implicitDefEqProofs only [EN, lsub, lget, stL, beq_self_eq_true, ne_eq, if_true, if_false, List.cons_append, List.nil_append, Option.isNone_some, Option.isNone_none, e2]; intro _ _) | ((with_reducible (first | refine w5 ?_ ?_ | refine w6 ?_ ?_ | refine w7 ?_ ?_)); simp; refine ⟨_, rfl, ?_⟩) | ((with_reducible (first | refine w8 ?_ ?_ ?_ | refine w9 ?_ ?_ ?_ | refine w10 ?_ ?_ ?_)); exact rfl; simp) | ((with_reducible refine w12 ?_ ?_ ?_ fun _ _ => ?_); simp; simp; simp [oneC]) | ((with_reducible (first | refine eqs ?_ | refine nes ?_)); refine ⟨_, rfl, ?_⟩) | ((refine okF_i (bldP_eq rfl) ?_); try simp only [BLS, List.take_succ_cons, List.take_zero, List.drop_succ_cons, List.drop_zero, List.cons_append, List.nil_append, Nat.reduceAdd])) | simp -implicitDefEqProofs only [EN, lsub, lget, stL, beq_self_eq_true, ne_eq, if_true, if_false, List.cons_append, List.nil_append, Option.isNone_some, Option.isNone_none, e2]))
        exact hJ2 _ (by first | assumption | exact St.tick (by assumption) | exact St.tick (St.tick (by assumption)))
    · rw [if_neg ha] at hi hend
      have e1 := decide_eq_false ha
      (repeat (first | (first | (with_reducible (first | refine w1 fun _ _ => ?_ | refine w3 fun _ _ _ => ?_ | refine w4 fun _ _ _ => ?_ | refine w11 fun _ _ _ => ?_ | refine stb_n ?_)) | ((with_reducible refine w2 ?_); try simp -implicitDefEqProofs only [EN, lsub, lget, stL, beq_self_eq_true, ne_eq, if_true, if_false, List.cons_append, List.nil_append, Option.isNone_some, Option.isNone_none, hlt, e1]; intro _ _) | ((with_reducible (first | refine w5 ?_ ?_ | refine w6 ?_ ?_ | refine w7 ?_ ?_)); simp; refine ⟨_, rfl, ?_⟩) | ((with_reducible (first | refine w8 ?_ ?_ ?_ | refine w9 ?_ ?_ ?_ | refine w10 ?_ ?_ ?_)); exact rfl; simp) | ((with_reducible refine w12 ?_ ?_ ?_ fun _ _ => ?_); simp; simp; simp [oneC]) | ((with_reducible (first | refine eqs ?_ | refine nes ?_)); refine ⟨_, rfl, ?_⟩) | ((refine okF_i (bldP_eq rfl) ?_); try simp only [BLS, List.take_succ_cons, List.take_zero, List.drop_succ_cons, List.drop_zero, List.cons_append, List.nil_append, Nat.reduceAdd])) | simp -implicitDefEqProofs only [EN, lsub, lget, stL, beq_self_eq_true, ne_eq, if_true, if_false, List.cons_append, List.nil_append, Option.isNone_some, Option.isNone_none, hlt, e1]))
      exact hend _ (by first | assumption | exact St.tick (by assumption) | exact St.tick (St.tick (by assumption))) (by omega)
  · (repeat (first | (first | (with_reducible (first | refine w1 fun _ _ => ?_ | refine w3 fun _ _ _ => ?_ | refine w4 fun _ _ _ => ?_ | refine w11 fun _ _ _ => ?_ | refine stb_n ?_)) | ((with_reducible refine w2 ?_); try simp -implicitDefEqProofs only [EN, lsub, lget, stL, beq_self_eq_true, ne_eq, if_true, if_false, List.cons_append, List.nil_append, Option.isNone_some, Option.isNone_none, hlt]; intro _ _) | ((with_reducible (first | refine w5 ?_ ?_ | refine w6 ?_ ?_ | refine w7 ?_ ?_)); simp; refine ⟨_, rfl, ?_⟩) | ((with_reducible (first | refine w8 ?_ ?_ ?_ | refine w9 ?_ ?_ ?_ | refine w10 ?_ ?_ ?_)); exact rfl; simp) | ((with_reducible refine w12 ?_ ?_ ?_ fun _ _ => ?_); simp; simp; simp [oneC]) | ((with_reducible (first | refine eqs ?_ | refine nes ?_)); refine ⟨_, rfl, ?_⟩) | ((refine okF_i (bldP_eq rfl) ?_); try simp only [BLS, List.take_succ_cons, List.take_zero, List.drop_succ_cons, List.drop_zero, List.cons_append, List.nil_append, Nat.reduceAdd])) | simp -implicitDefEqProofs only [EN, lsub, lget, stL, beq_self_eq_true, ne_eq, if_true, if_false, List.cons_append, List.nil_append, Option.isNone_some, Option.isNone_none, hlt]))
    refine hend _ (by first | assumption | exact St.tick (by assumption) | exact St.tick (St.tick (by assumption))) ?_
    split at hi
    · rw [if_pos (by assumption)]; omega
    · rw [if_neg (by assumption)]; omega
theorem filt_take {α : Type} (p : α → Bool) (l : List α) {i : Nat} (h : i < l.length) : (l.take (i + 1)).filter p = (l.take i).filter p ++ (if p l[i] then [l[i]] else []) := by
  rw [List.take_succ_eq_append_getElem h, List.filter_append]
  congr 1
  cases hp : p l[i] <;> simp [hp]
theorem many_filt (p : RB → Bool) : ∀ (rows : List RB) {L : List Asn}, St W0 (many fch (rows.map (fun x : RB => x.b)) :: L) W → St W0 (many fch ((rows.filter p).map (fun x : RB => x.b)) :: L) W
  | [], _, h => h
  | x :: rows, L, h => by
    have h := h.ent (many_cons (F := fch) x.b _)
    cases hp : p x with
    | true =>
      rw [List.filter_cons, if_pos hp]
      have h := many_filt p rows (St.perm h (List.Perm.swap _ _ _))
      exact (St.perm h (List.Perm.swap _ _ _)).ent (many_uncons (F := fch) x.b _)
    | false =>
      rw [List.filter_cons, if_neg (by simp [hp])]
      exact many_filt p rows h.drop
set_option maxRecDepth 100000 in
set_option maxHeartbeats 4000000 in
theorem refDrop {f : Int} {k : Value → World → Prop} (h : St W0 L W) [ht : Tk (rk q) L r L'] (hn : r.w.length < 1000000)
    (hk : ∀ W', St W0 (rk q (r.drop f).1 :: L') W' → k (.int .i64 (r.drop f).2) W') : callK PR F_rostrumref5_Disk_Drop [.pointer (some ⟨q, 0, none⟩), .int .i64 f] k W := by
  apply S.rostrumref5_Disk_Drop.call
  unfold S.rostrumref5_Disk_Drop.body
  refine refAsk (f := f) h fun W1 h => ?_
  unfold RD.drop at hk
  by_cases ha : r.ask f = 0
  · rw [if_neg (show ¬ r.ask f ≠ 0 by simp [ha])] at hk
    have hf : 0 ≤ f ∧ f < 1000 := by
      unfold RD.ask at ha
      by_cases h1 : r.off = true
      · rw [if_pos h1] at ha; simp at ha
      · rw [if_neg h1] at ha
        by_cases h2 : f < 0 ∨ 999 < f
        · rw [if_pos h2] at ha; simp at ha
        · omega
    obtain ⟨wa, wc, rows, hw, hl, h⟩ := rk_at h
    have hrl : rows.length = r.w.length := by rw [← hw, List.length_map]
    have e1 := decide_eq_true ha
    have eia := idxA_blk (len := 1000) (sz := 1) (b := q) (o := 1) (k := .i64) (i := f) (by omega) (by omega)
    rw [Nat.mul_one] at eia
    have hl2 : (r.is.set f.toNat false).length = 1000 := by simp [hl]
    (repeat (first | (first | (with_reducible (first | refine w1 fun _ _ => ?_ | refine w3 fun _ _ _ => ?_ | refine w4 fun _ _ _ => ?_ | refine w11 fun _ _ _ => ?_ | refine stb_n ?_)) | ((with_reducible refine w2 ?_); try simp -implicitDefEqProofs only [EN, lsub, lget, stL, beq_self_eq_true, ne_eq, if_true, if_false, List.cons_append, List.nil_append, Option.isNone_some, Option.isNone_none, e1, eia]; intro _ _) | ((with_reducible (first | refine w5 ?_ ?_ | refine w6 ?_ ?_ | refine w7 ?_ ?_)); simp; refine ⟨_, rfl, ?_⟩) | ((with_reducible (first | refine w8 ?_ ?_ ?_ | refine w9 ?_ ?_ ?_ | refine w10 ?_ ?_ ?_)); exact rfl; simp) | ((with_reducible refine w12 ?_ ?_ ?_ fun _ _ => ?_); simp; simp; simp [oneC]) | ((with_reducible (first | refine eqs ?_ | refine nes ?_)); refine ⟨_, rfl, ?_⟩) | ((refine okF_i (bldP_eq rfl) ?_); try simp only [BLS, List.take_succ_cons, List.take_zero, List.drop_succ_cons, List.drop_zero, List.cons_append, List.nil_append, Nat.reduceAdd])) | simp -implicitDefEqProofs only [EN, lsub, lget, stL, beq_self_eq_true, ne_eq, if_true, if_false, List.cons_append, List.nil_append, Option.isNone_some, Option.isNone_none, e1, eia]))
    refine sto (b := q) (cs := rdc r (.slice wa rows.length wc)) (by first | assumption | exact St.tick (by assumption) | exact St.tick (St.tick (by assumption))) rfl (by rw [rdc_len hl]; show 1 + f.toNat + 1 ≤ 1004; omega) rfl fun W3 h => ?_
    rw [show vcells (.bool false) = [.bool false] from rfl, rdc_setis hl (by omega)] at h
    have hdw : ∀ v, rdc { r with is := r.is.set f.toNat false } v = rdc { r with is := r.is.set f.toNat false, w := r.w.filter fun x => !decide (x.file = f) } v := fun v => by unfold rdc; rfl
    refine joinK_i ?_
    refine loop_c (σ := Option Addr × Nat) rows.length (fun i y => [.pointer (some ⟨q, 0, none⟩), .int .i64 f, .slice y.1 ((rows.take i).filter fun x => !decide (x.file = f)).length y.2, .int .i64 i])
      (fun i y W1 => St W0 (arr RBL T_rostrumref5_write y.1 y.2 ((rows.take i).filter fun x => !decide (x.file = f)) :: cells q (rdc { r with is := r.is.set f.toNat false } (.slice wa rows.length wc)) T_rostrumref5_Disk :: arr RBL T_rostrumref5_write wa wc rows :: many fch (rows.map (fun x : RB => x.b)) :: L') W1) (none, 0) rfl (h.ent (arr_nil RBL T_rostrumref5_write)) ?_
    clear h
    rintro K i ⟨a1, c1⟩ W2 hi h hK
    simp only at h
    simp -implicitDefEqProofs only [EN, lsub, lget, stL, beq_self_eq_true, ne_eq, if_true, if_false, List.cons_append, List.nil_append, Option.isNone_some, Option.isNone_none]
    unfold S.rostrumref5_Disk_Drop.l1
    have hfl : ((rows.take i).filter fun x => !decide (x.file = f)).length ≤ i := Nat.le_trans (List.length_filter_le _ _) (by simp; omega)
    (repeat (first | (first | (with_reducible (first | refine w1 fun _ _ => ?_ | refine w3 fun _ _ _ => ?_ | refine w4 fun _ _ _ => ?_ | refine w11 fun _ _ _ => ?_ | refine stb_n ?_)) | ((with_reducible refine w2 ?_); try simp -implicitDefEqProofs only [EN, lsub, lget, stL, beq_self_eq_true, ne_eq, if_true, if_false, List.cons_append, List.nil_append, Option.isNone_some, Option.isNone_none]; intro _ _) | ((with_reducible (first | refine w5 ?_ ?_ | refine w6 ?_ ?_ | refine w7 ?_ ?_)); simp; refine ⟨_, rfl, ?_⟩) | ((with_reducible (first | refine w8 ?_ ?_ ?_ | refine w9 ?_ ?_ ?_ | refine w10 ?_ ?_ ?_)); exact rfl; simp) | ((with_reducible refine w12 ?_ ?_ ?_ fun _ _ => ?_); simp; simp; simp [oneC]) | ((with_reducible (first | refine eqs ?_ | refine nes ?_)); refine ⟨_, rfl, ?_⟩) | ((refine okF_i (bldP_eq rfl) ?_); try simp only [BLS, List.take_succ_cons, List.take_zero, List.drop_succ_cons, List.drop_zero, List.cons_append, List.nil_append, Nat.reduceAdd])) | simp -implicitDefEqProofs only [EN, lsub, lget, stL, beq_self_eq_true, ne_eq, if_true, if_false, List.cons_append, List.nil_append, Option.isNone_some, Option.isNone_none]))
    refine ld (b := q) (v := .slice wa rows.length wc) (by first | assumption | exact St.tick (by assumption) | exact St.tick (St.tick (by assumption))) (rdc_w (r := { r with is := r.is.set f.toNat false }) hl2) (by simp) ?_
    by_cases hlt : (i : Int) < (rows.length : Int)
    · have hib : i < rows.length := by omega
      have ew : IntKind.i64.wrap ((i : Int) + 1) = ((i + 1 : Nat) : Int) := by rw [i64w]; omega
      have hst := filt_take (fun x : RB => !decide (x.file = f)) rows hib
      have hJ2 : ∀ a' c' W', St W0 (arr RBL T_rostrumref5_write a' c' ((rows.take (i + 1)).filter fun x => !decide (x.file = f)) :: cells q (rdc { r with is := r.is.set f.toNat false } (.slice wa rows.length wc)) T_rostrumref5_Disk :: arr RBL T_rostrumref5_write wa wc rows :: many fch (rows.map (fun x : RB => x.b)) :: L') W' →
          S.rostrumref5_Disk_Drop.j2 K (.pointer (some ⟨q, 0, none⟩)) (.int .i64 f) (.slice a' ((rows.take (i + 1)).filter fun x => !decide (x.file = f)).length c') (.int .i64 i) W' := fun a' c' W' h => by
        unfold S.rostrumref5_Disk_Drop.j2
        (repeat (first | (first | (with_reducible (first | refine w1 fun _ _ => ?_ | refine w3 fun _ _ _ => ?_ | refine w4 fun _ _ _ => ?_ | refine w11 fun _ _ _ => ?_ | refine stb_n ?_)) | ((with_reducible refine w2 ?_); try simp -implicitDefEqProofs only [EN, lsub, lget, stL, beq_self_eq_true, ne_eq, if_true, if_false, List.cons_append, List.nil_append, Option.isNone_some, Option.isNone_none, ew]; intro _ _) | ((with_reducible (first | refine w5 ?_ ?_ | refine w6 ?_ ?_ | refine w7 ?_ ?_)); simp; refine ⟨_, rfl, ?_⟩) | ((with_reducible (first | refine w8 ?_ ?_ ?_ | refine w9 ?_ ?_ ?_ | refine w10 ?_ ?_ ?_)); exact rfl; simp) | ((with_reducible refine w12 ?_ ?_ ?_ fun _ _ => ?_); simp; simp; simp [oneC]) | ((with_reducible (first | refine eqs ?_ | refine nes ?_)); refine ⟨_, rfl, ?_⟩) | ((refine okF_i (bldP_eq rfl) ?_); try simp only [BLS, List.take_succ_cons, List.take_zero, List.drop_succ_cons, List.drop_zero, List.cons_append, List.nil_append, Nat.reduceAdd])) | simp -implicitDefEqProofs only [EN, lsub, lget, stL, beq_self_eq_true, ne_eq, if_true, if_false, List.cons_append, List.nil_append, Option.isNone_some, Option.isNone_none, ew]))
        exact hK (a', c') _ hib h
      clear hK
      rw [hst] at hJ2
      obtain ⟨g, o, rfl, _⟩ := Rd.at (A := RBL) (l := rows) (a := wa) h (by intro e; rw [e] at hib; simp at hib)
      have ei : idxS 3 (.slice (some ⟨g, o, none⟩) rows.length wc) (.int .i64 (i : Int)) = some (.pointer (some ⟨g, o + i * 3, none⟩)) := by rw [idxS_blk (by omega) (by omega), Int.toNat_natCast]
      (repeat (first | (first | (with_reducible (first | refine w1 fun _ _ => ?_ | refine w3 fun _ _ _ => ?_ | refine w4 fun _ _ _ => ?_ | refine w11 fun _ _ _ => ?_ | refine stb_n ?_)) | ((with_reducible refine w2 ?_); try simp -implicitDefEqProofs only [EN, lsub, lget, stL, beq_self_eq_true, ne_eq, if_true, if_false, List.cons_append, List.nil_append, Option.isNone_some, Option.isNone_none, hlt]; intro _ _) | ((with_reducible (first | refine w5 ?_ ?_ | refine w6 ?_ ?_ | refine w7 ?_ ?_)); simp; refine ⟨_, rfl, ?_⟩) | ((with_reducible (first | refine w8 ?_ ?_ ?_ | refine w9 ?_ ?_ ?_ | refine w10 ?_ ?_ ?_)); exact rfl; simp) | ((with_reducible refine w12 ?_ ?_ ?_ fun _ _ => ?_); simp; simp; simp [oneC]) | ((with_reducible (first | refine eqs ?_ | refine nes ?_)); refine ⟨_, rfl, ?_⟩) | ((refine okF_i (bldP_eq rfl) ?_); try simp only [BLS, List.take_succ_cons, List.take_zero, List.drop_succ_cons, List.drop_zero, List.cons_append, List.nil_append, Nat.reduceAdd])) | simp -implicitDefEqProofs only [EN, lsub, lget, stL, beq_self_eq_true, ne_eq, if_true, if_false, List.cons_append, List.nil_append, Option.isNone_some, Option.isNone_none, hlt]))
      refine joinK_i ?_
      (repeat (first | (first | (with_reducible (first | refine w1 fun _ _ => ?_ | refine w3 fun _ _ _ => ?_ | refine w4 fun _ _ _ => ?_ | refine w11 fun _ _ _ => ?_ | refine stb_n ?_)) | ((with_reducible refine w2 ?_); try simp -implicitDefEqProofs only [EN, lsub, lget, stL, beq_self_eq_true, ne_eq, if_true, if_false, List.cons_append, List.nil_append, Option.isNone_some, Option.isNone_none]; intro _ _) | ((with_reducible (first | refine w5 ?_ ?_ | refine w6 ?_ ?_ | refine w7 ?_ ?_)); simp; refine ⟨_, rfl, ?_⟩) | ((with_reducible (first | refine w8 ?_ ?_ ?_ | refine w9 ?_ ?_ ?_ | refine w10 ?_ ?_ ?_)); exact rfl; simp) | ((with_reducible refine w12 ?_ ?_ ?_ fun _ _ => ?_); simp; simp; simp [oneC]) | ((with_reducible (first | refine eqs ?_ | refine nes ?_)); refine ⟨_, rfl, ?_⟩) | ((refine okF_i (bldP_eq rfl) ?_); try simp only [BLS, List.take_succ_cons, List.take_zero, List.drop_succ_cons, List.drop_zero, List.cons_append, List.nil_append, Nat.reduceAdd])) | simp -implicitDefEqProofs only [EN, lsub, lget, stL, beq_self_eq_true, ne_eq, if_true, if_false, List.cons_append, List.nil_append, Option.isNone_some, Option.isNone_none]))
      refine ld (b := q) (v := .slice (some ⟨g, o, none⟩) rows.length wc) (by first | assumption | exact St.tick (by assumption) | exact St.tick (St.tick (by assumption))) (rdc_w (r := { r with is := r.is.set f.toNat false }) hl2) (by simp) ?_
      (repeat (first | (first | (with_reducible (first | refine w1 fun _ _ => ?_ | refine w3 fun _ _ _ => ?_ | refine w4 fun _ _ _ => ?_ | refine w11 fun _ _ _ => ?_ | refine stb_n ?_)) | ((with_reducible refine w2 ?_); try simp -implicitDefEqProofs only [EN, lsub, lget, stL, beq_self_eq_true, ne_eq, if_true, if_false, List.cons_append, List.nil_append, Option.isNone_some, Option.isNone_none, ei]; intro _ _) | ((with_reducible (first | refine w5 ?_ ?_ | refine w6 ?_ ?_ | refine w7 ?_ ?_)); simp; refine ⟨_, rfl, ?_⟩) | ((with_reducible (first | refine w8 ?_ ?_ ?_ | refine w9 ?_ ?_ ?_ | refine w10 ?_ ?_ ?_)); exact rfl; simp) | ((with_reducible refine w12 ?_ ?_ ?_ fun _ _ => ?_); simp; simp; simp [oneC]) | ((with_reducible (first | refine eqs ?_ | refine nes ?_)); refine ⟨_, rfl, ?_⟩) | ((refine okF_i (bldP_eq rfl) ?_); try simp only [BLS, List.take_succ_cons, List.take_zero, List.drop_succ_cons, List.drop_zero, List.cons_append, List.nil_append, Nat.reduceAdd])) | simp -implicitDefEqProofs only [EN, lsub, lget, stL, beq_self_eq_true, ne_eq, if_true, if_false, List.cons_append, List.nil_append, Option.isNone_some, Option.isNone_none, ei]))
      refine ldA0 (i := i) (l := rows) (A := RBL) (by first | assumption | exact St.tick (by assumption) | exact St.tick (St.tick (by assumption))) rfl hib (v := .int .i64 rows[i].file) rfl (by simp) ?_
      by_cases hf2 : rows[i].file = f
      · have e2 := decide_eq_true hf2
        rw [e2, Bool.not_true, if_neg (by simp), List.append_nil] at hJ2
        (repeat (first | (first | (with_reducible (first | refine w1 fun _ _ => ?_ | refine w3 fun _ _ _ => ?_ | refine w4 fun _ _ _ => ?_ | refine w11 fun _ _ _ => ?_ | refine stb_n ?_)) | ((with_reducible refine w2 ?_); try simp -implicitDefEqProofs only [EN, lsub, lget, stL, beq_self_eq_true, ne_eq, if_true, if_false, List.cons_append, List.nil_append, Option.isNone_some, Option.isNone_none, e2]; intro _ _) | ((with_reducible (first | refine w5 ?_ ?_ | refine w6 ?_ ?_ | refine w7 ?_ ?_)); simp; refine ⟨_, rfl, ?_⟩) | ((with_reducible (first | refine w8 ?_ ?_ ?_ | refine w9 ?_ ?_ ?_ | refine w10 ?_ ?_ ?_)); exact rfl; simp) | ((with_reducible refine w12 ?_ ?_ ?_ fun _ _ => ?_); simp; simp; simp [oneC]) | ((with_reducible (first | refine eqs ?_ | refine nes ?_)); refine ⟨_, rfl, ?_⟩) | ((refine okF_i (bldP_eq rfl) ?_); try simp only [BLS, List.take_succ_cons, List.take_zero, List.drop_succ_cons, List.drop_zero, List.cons_append, List.nil_append, Nat.reduceAdd])) | simp -implicitDefEqProofs only [EN, lsub, lget, stL, beq_self_eq_true, ne_eq, if_true, if_false, List.cons_append, List.nil_append, Option.isNone_some, Option.isNone_none, e2]))
        exact hJ2 _ _ _ (by first | assumption | exact St.tick (by assumption) | exact St.tick (St.tick (by assumption)))
      · have e2 := decide_eq_false hf2
        rw [e2, Bool.not_false, if_pos rfl] at hJ2
        (repeat (first | (first | (with_reducible (first | refine w1 fun _ _ => ?_ | refine w3 fun _ _ _ => ?_ | refine w4 fun _ _ _ => ?_ | refine w11 fun _ _ _ => ?_ | refine stb_n ?_)) | ((with_reducible refine w2 ?_); try simp -implicitDefEqProofs only [EN, lsub, lget, stL, beq_self_eq_true, ne_eq, if_true, if_false, List.cons_append, List.nil_append, Option.isNone_some, Option.isNone_none, e2]; intro _ _) | ((with_reducible (first | refine w5 ?_ ?_ | refine w6 ?_ ?_ | refine w7 ?_ ?_)); simp; refine ⟨_, rfl, ?_⟩) | ((with_reducible (first | refine w8 ?_ ?_ ?_ | refine w9 ?_ ?_ ?_ | refine w10 ?_ ?_ ?_)); exact rfl; simp) | ((with_reducible refine w12 ?_ ?_ ?_ fun _ _ => ?_); simp; simp; simp [oneC]) | ((with_reducible (first | refine eqs ?_ | refine nes ?_)); refine ⟨_, rfl, ?_⟩) | ((refine okF_i (bldP_eq rfl) ?_); try simp only [BLS, List.take_succ_cons, List.take_zero, List.drop_succ_cons, List.drop_zero, List.cons_append, List.nil_append, Nat.reduceAdd])) | simp -implicitDefEqProofs only [EN, lsub, lget, stL, beq_self_eq_true, ne_eq, if_true, if_false, List.cons_append, List.nil_append, Option.isNone_some, Option.isNone_none, e2]))
        refine ld (b := q) (v := .slice (some ⟨g, o, none⟩) rows.length wc) (by first | assumption | exact St.tick (by assumption) | exact St.tick (St.tick (by assumption))) (rdc_w (r := { r with is := r.is.set f.toNat false }) hl2) (by simp) ?_
        (repeat (first | (first | (with_reducible (first | refine w1 fun _ _ => ?_ | refine w3 fun _ _ _ => ?_ | refine w4 fun _ _ _ => ?_ | refine w11 fun _ _ _ => ?_ | refine stb_n ?_)) | ((with_reducible refine w2 ?_); try simp -implicitDefEqProofs only [EN, lsub, lget, stL, beq_self_eq_true, ne_eq, if_true, if_false, List.cons_append, List.nil_append, Option.isNone_some, Option.isNone_none, ei]; intro _ _) | ((with_reducible (first | refine w5 ?_ ?_ | refine w6 ?_ ?_ | refine w7 ?_ ?_)); simp; refine ⟨_, rfl, ?_⟩) | ((with_reducible (first | refine w8 ?_ ?_ ?_ | refine w9 ?_ ?_ ?_ | refine w10 ?_ ?_ ?_)); exact rfl; simp) | ((with_reducible refine w12 ?_ ?_ ?_ fun _ _ => ?_); simp; simp; simp [oneC]) | ((with_reducible (first | refine eqs ?_ | refine nes ?_)); refine ⟨_, rfl, ?_⟩) | ((refine okF_i (bldP_eq rfl) ?_); try simp only [BLS, List.take_succ_cons, List.take_zero, List.drop_succ_cons, List.drop_zero, List.cons_append, List.nil_append, Nat.reduceAdd])) | simp -implicitDefEqProofs only [EN, lsub, lget, stL, beq_self_eq_true, ne_eq, if_true, if_false, List.cons_append, List.nil_append, Option.isNone_some, Option.isNone_none, ei]))
        refine ldA0 (i := i) (l := rows) (A := RBL) (by first | assumption | exact St.tick (by assumption) | exact St.tick (St.tick (by assumption))) rfl hib (v := .agg #[.int .i64 rows[i].file, rows[i].b.v, .bool rows[i].safe]) rfl (by simp [RBL]) ?_
        refine pushA (A := RBL) rows[i] (l := (rows.take i).filter fun x => !decide (x.file = f)) (by first | assumption | exact St.tick (by assumption) | exact St.tick (St.tick (by assumption))) rfl rfl (by omega) (by simp only [maxLen]; omega) (by decide) fun a2 c2 W4 h => ?_
        exact hJ2 _ _ _ h
    · have hil : i = rows.length := by omega
      subst hil
      rw [List.take_length] at h ⊢
      (repeat (first | (first | (with_reducible (first | refine w1 fun _ _ => ?_ | refine w3 fun _ _ _ => ?_ | refine w4 fun _ _ _ => ?_ | refine w11 fun _ _ _ => ?_ | refine stb_n ?_)) | ((with_reducible refine w2 ?_); try simp -implicitDefEqProofs only [EN, lsub, lget, stL, beq_self_eq_true, ne_eq, if_true, if_false, List.cons_append, List.nil_append, Option.isNone_some, Option.isNone_none, hlt]; intro _ _) | ((with_reducible (first | refine w5 ?_ ?_ | refine w6 ?_ ?_ | refine w7 ?_ ?_)); simp; refine ⟨_, rfl, ?_⟩) | ((with_reducible (first | refine w8 ?_ ?_ ?_ | refine w9 ?_ ?_ ?_ | refine w10 ?_ ?_ ?_)); exact rfl; simp) | ((with_reducible refine w12 ?_ ?_ ?_ fun _ _ => ?_); simp; simp; simp [oneC]) | ((with_reducible (first | refine eqs ?_ | refine nes ?_)); refine ⟨_, rfl, ?_⟩) | ((refine okF_i (bldP_eq rfl) ?_); try simp only [BLS, List.take_succ_cons, List.take_zero, List.drop_succ_cons, List.drop_zero, List.cons_append, List.nil_append, Nat.reduceAdd])) | simp -implicitDefEqProofs only [EN, lsub, lget, stL, beq_self_eq_true, ne_eq, if_true, if_false, List.cons_append, List.nil_append, Option.isNone_some, Option.isNone_none, hlt]))
      unfold S.rostrumref5_Disk_Drop.j1
      (repeat (first | (first | (with_reducible (first | refine w1 fun _ _ => ?_ | refine w3 fun _ _ _ => ?_ | refine w4 fun _ _ _ => ?_ | refine w11 fun _ _ _ => ?_ | refine stb_n ?_)) | ((with_reducible refine w2 ?_); try simp -implicitDefEqProofs only [EN, lsub, lget, stL, beq_self_eq_true, ne_eq, if_true, if_false, List.cons_append, List.nil_append, Option.isNone_some, Option.isNone_none]; intro _ _) | ((with_reducible (first | refine w5 ?_ ?_ | refine w6 ?_ ?_ | refine w7 ?_ ?_)); simp; refine ⟨_, rfl, ?_⟩) | ((with_reducible (first | refine w8 ?_ ?_ ?_ | refine w9 ?_ ?_ ?_ | refine w10 ?_ ?_ ?_)); exact rfl; simp) | ((with_reducible refine w12 ?_ ?_ ?_ fun _ _ => ?_); simp; simp; simp [oneC]) | ((with_reducible (first | refine eqs ?_ | refine nes ?_)); refine ⟨_, rfl, ?_⟩) | ((refine okF_i (bldP_eq rfl) ?_); try simp only [BLS, List.take_succ_cons, List.take_zero, List.drop_succ_cons, List.drop_zero, List.cons_append, List.nil_append, Nat.reduceAdd])) | simp -implicitDefEqProofs only [EN, lsub, lget, stL, beq_self_eq_true, ne_eq, if_true, if_false, List.cons_append, List.nil_append, Option.isNone_some, Option.isNone_none]))
      refine sto (b := q) (cs := rdc { r with is := r.is.set f.toNat false } (.slice wa rows.length wc)) (by first | assumption | exact St.tick (by assumption) | exact St.tick (St.tick (by assumption))) rfl (by rw [rdc_len (r := { r with is := r.is.set f.toNat false }) hl2]; exact (by decide : 1001 + 1 ≤ 1004)) rfl fun W9 h => ?_
      rw [show vcells (.slice a1 (rows.filter fun x => !decide (x.file = f)).length c1) = [.slice a1 (rows.filter fun x => !decide (x.file = f)).length c1] from rfl, rdc_setw (r := { r with is := r.is.set f.toNat false }) hl2, hdw] at h
      have h : St W0 (many fch (rows.map (fun x : RB => x.b)) :: cells q (rdc { r with is := r.is.set f.toNat false, w := r.w.filter fun x => !decide (x.file = f) } (.slice a1 (rows.filter fun x => !decide (x.file = f)).length c1)) T_rostrumref5_Disk :: arr RBL T_rostrumref5_write a1 c1 (rows.filter fun x => !decide (x.file = f)) :: L') W9 := St.wk h
      have h := many_filt (fun x => !decide (x.file = f)) rows h
      have h := St.perm h ((List.Perm.swap _ _ _).trans ((List.Perm.swap _ _ _).cons _))
      refine hk _ (St.ent h (rk_ent (r := { r with is := r.is.set f.toNat false, w := r.w.filter fun x => !decide (x.file = f) }) ?_ hl2))
      rw [← hw, List.filter_map]; rfl
  · have e1 : decide (r.ask f = 0) = false := decide_eq_false ha
    rw [if_pos ha] at hk
    (repeat (first | (first | (with_reducible (first | refine w1 fun _ _ => ?_ | refine w3 fun _ _ _ => ?_ | refine w4 fun _ _ _ => ?_ | refine w11 fun _ _ _ => ?_ | refine stb_n ?_)) | ((with_reducible refine w2 ?_); try simp -implicitDefEqProofs only [EN, lsub, lget, stL, beq_self_eq_true, ne_eq, if_true, if_false, List.cons_append, List.nil_append, Option.isNone_some, Option.isNone_none, e1]; intro _ _) | ((with_reducible (first | refine w5 ?_ ?_ | refine w6 ?_ ?_ | refine w7 ?_ ?_)); simp; refine ⟨_, rfl, ?_⟩) | ((with_reducible (first | refine w8 ?_ ?_ ?_ | refine w9 ?_ ?_ ?_ | refine w10 ?_ ?_ ?_)); exact rfl; simp) | ((with_reducible refine w12 ?_ ?_ ?_ fun _ _ => ?_); simp; simp; simp [oneC]) | ((with_reducible (first | refine eqs ?_ | refine nes ?_)); refine ⟨_, rfl, ?_⟩) | ((refine okF_i (bldP_eq rfl) ?_); try simp only [BLS, List.take_succ_cons, List.take_zero, List.drop_succ_cons, List.drop_zero, List.cons_append, List.nil_append, Nat.reduceAdd])) | simp -implicitDefEqProofs only [EN, lsub, lget, stL, beq_self_eq_true, ne_eq, if_true, if_false, List.cons_append, List.nil_append, Option.isNone_some, Option.isNone_none, e1]))
    exact hk _ h
end
end Go.Proofs.Ythladblmjoaeoaa
namespace Go.Proofs.Ythladblmjoaeoaa
set_option linter.unusedVariables false
set_option linter.unusedSimpArgs false
open Go Go.Eng

theorem rows_same {α : Type} {A : Ly α} : ∀ (l : List α) {i : Nat} {x : α} (hi : i < l.length), A.row x = A.row l[i] → A.rows (l.set i x) = A.rows l
  | a :: l, 0, x, _, h => by simp only [List.set_cons_zero, Ly.rows_cons]; rw [h]; rfl
  | a :: l, i + 1, x, hi, h => by
    simp only [List.set_cons_succ, Ly.rows_cons]
    rw [rows_same l (by simpa using hi) h]
theorem arr_same {α : Type} {A : Ly α} {e : TypeId} {a : Option Addr} {c : Nat} {l : List α} {i : Nat} {x : α} (hi : i < l.length) (h : A.row x = A.row l[i]) : arr A e a c (l.set i x) = arr A e a c l := by
  unfold arr; rw [rows_same l hi h, List.length_set]
theorem perm_pick {α : Type} (l : List α) {i : Nat} (hi : i < l.length) : l.Perm (l[i] :: (l.take i ++ l.drop (i + 1))) := by
  conv => lhs; rw [← List.take_append_drop i l, List.drop_eq_getElem_cons hi]
  exact List.perm_middle
theorem many_pick {L : List Asn} (rows : List RB) {i : Nat} (hi : i < rows.length) : ent (many fch (rows.map (fun x : RB => x.b)) :: L) (fch rows[i].b :: many fch ((rows.take i ++ rows.drop (i + 1)).map (fun x : RB => x.b)) :: L) :=
  (many_perm (F := fch) (List.Perm.map (fun x : RB => x.b) (perm_pick rows hi))).trans (many_cons _ _)
theorem many_place {L : List Asn} (rows : List RB) {i : Nat} (hi : i < rows.length) (x : RB) : ent (fch x.b :: many fch ((rows.take i ++ rows.drop (i + 1)).map (fun x : RB => x.b)) :: L) (many fch ((rows.set i x).map (fun x : RB => x.b)) :: L) := by
  refine (many_uncons (F := fch) x.b _).trans (many_perm (F := fch) ?_)
  have h := List.Perm.map (fun x : RB => x.b) (perm_pick (rows.set i x) (i := i) (by simpa using hi)).symm
  simp only [List.map_cons, List.getElem_set_self] at h
  rw [List.take_set_of_le (Nat.le_refl i), List.drop_set_of_lt (Nat.lt_succ_self i)] at h
  exact h
theorem slcS_take {a : Option Addr} {n c i : Nat} {k : IntKind} (hi : i ≤ c) : slcS 1 (.slice a n c) none (some (.int k (i : Int))) none = some (.slice a i c) := by
  rw [slcS_eq (bnd_nat hi) bnd_none]
  by_cases hc : c = 0
  · rw [if_pos hc]; simp
  · rw [if_neg hc]
    cases a with
    | none => simp
    | some a => simp [Addr.add]
section
variable {W0 W : World} {L L' : List Asn} {q : Nat} {r : RD}
set_option maxRecDepth 100000 in
set_option maxHeartbeats 4000000 in
theorem refSpoil {f at' : Int} {b : UInt8} {k : Value → World → Prop} (h : St W0 L W) [ht : Tk (rk q) L r L'] (hT : totR r.w ≤ 1048576) (hn : r.w.length < 1000000) (ha9 : at' ≤ 9223372036854775807)
    (hk : ∀ W', St W0 (rk q (r.spoil f at' b).1 :: L') W' → k (.bool (r.spoil f at' b).2) W') : callK PR F_rostrumref5_Disk_Spoil [.pointer (some ⟨q, 0, none⟩), .int .i64 f, .int .i64 at', b8 b] k W := by
  apply S.rostrumref5_Disk_Spoil.call
  unfold S.rostrumref5_Disk_Spoil.body
  refine refAsk (f := f) h fun W1 h => ?_
  unfold RD.spoil at hk
  rw [show b8 b = .int .u8 (b.toNat : Int) from rfl]
  by_cases h1 : r.ask f ≠ 0 ∨ at' < 0 ∨ b = 0
  · rw [if_pos h1] at hk
    by_cases g1 : r.ask f = 0
    · have e1 := decide_eq_true g1
      by_cases g2 : at' < 0
      · (repeat (first | (first | (with_reducible (first | refine w1 fun _ _ => ?_ | refine w3 fun _ _ _ => ?_ | refine w4 fun _ _ _ => ?_ | refine w11 fun _ _ _ => ?_ | refine stb_n ?_)) | ((with_reducible refine w2 ?_); try simp -implicitDefEqProofs only [EN, lsub, lget, stL, beq_self_eq_true, ne_eq, if_true, if_false, List.cons_append, List.nil_append, Option.isNone_some, Option.isNone_none, e1, g2]; intro _ _) | ((with_reducible (first | refine w5 ?_ ?_ | refine w6 ?_ ?_ | refine w7 ?_ ?_)); simp; refine ⟨_, rfl, ?_⟩) | ((with_reducible (first | refine w8 ?_ ?_ ?_ | refine w9 ?_ ?_ ?_ | refine w10 ?_ ?_ ?_)); exact rfl; simp) | ((with_reducible refine w12 ?_ ?_ ?_ fun _ _ => ?_); simp; simp; simp [oneC]) | ((with_reducible (first | refine eqs ?_ | refine nes ?_)); refine ⟨_, rfl, ?_⟩) | ((refine okF_i (bldP_eq rfl) ?_); try simp only [BLS, List.take_succ_cons, List.take_zero, List.drop_succ_cons, List.drop_zero, List.cons_append, List.nil_append, Nat.reduceAdd])) | simp -implicitDefEqProofs only [EN, lsub, lget, stL, beq_self_eq_true, ne_eq, if_true, if_false, List.cons_append, List.nil_append, Option.isNone_some, Option.isNone_none, e1, g2]))
        exact hk _ h
      · have g3 : b = 0 := h1.elim (fun e => absurd g1 e) fun e => e.elim (fun e => absurd e g2) id
        subst g3
        (repeat (first | (first | (with_reducible (first | refine w1 fun _ _ => ?_ | refine w3 fun _ _ _ => ?_ | refine w4 fun _ _ _ => ?_ | refine w11 fun _ _ _ => ?_ | refine stb_n ?_)) | ((with_reducible refine w2 ?_); try simp -implicitDefEqProofs only [EN, lsub, lget, stL, beq_self_eq_true, ne_eq, if_true, if_false, List.cons_append, List.nil_append, Option.isNone_some, Option.isNone_none, e1, g2]; intro _ _) | ((with_reducible (first | refine w5 ?_ ?_ | refine w6 ?_ ?_ | refine w7 ?_ ?_)); simp; refine ⟨_, rfl, ?_⟩) | ((with_reducible (first | refine w8 ?_ ?_ ?_ | refine w9 ?_ ?_ ?_ | refine w10 ?_ ?_ ?_)); exact rfl; simp) | ((with_reducible refine w12 ?_ ?_ ?_ fun _ _ => ?_); simp; simp; simp [oneC]) | ((with_reducible (first | refine eqs ?_ | refine nes ?_)); refine ⟨_, rfl, ?_⟩) | ((refine okF_i (bldP_eq rfl) ?_); try simp only [BLS, List.take_succ_cons, List.take_zero, List.drop_succ_cons, List.drop_zero, List.cons_append, List.nil_append, Nat.reduceAdd])) | simp -implicitDefEqProofs only [EN, lsub, lget, stL, beq_self_eq_true, ne_eq, if_true, if_false, List.cons_append, List.nil_append, Option.isNone_some, Option.isNone_none, e1, g2]))
        exact hk _ h
    · have e1 := decide_eq_false g1
      (repeat (first | (first | (with_reducible (first | refine w1 fun _ _ => ?_ | refine w3 fun _ _ _ => ?_ | refine w4 fun _ _ _ => ?_ | refine w11 fun _ _ _ => ?_ | refine stb_n ?_)) | ((with_reducible refine w2 ?_); try simp -implicitDefEqProofs only [EN, lsub, lget, stL, beq_self_eq_true, ne_eq, if_true, if_false, List.cons_append, List.nil_append, Option.isNone_some, Option.isNone_none, e1]; intro _ _) | ((with_reducible (first | refine w5 ?_ ?_ | refine w6 ?_ ?_ | refine w7 ?_ ?_)); simp; refine ⟨_, rfl, ?_⟩) | ((with_reducible (first | refine w8 ?_ ?_ ?_ | refine w9 ?_ ?_ ?_ | refine w10 ?_ ?_ ?_)); exact rfl; simp) | ((with_reducible refine w12 ?_ ?_ ?_ fun _ _ => ?_); simp; simp; simp [oneC]) | ((with_reducible (first | refine eqs ?_ | refine nes ?_)); refine ⟨_, rfl, ?_⟩) | ((refine okF_i (bldP_eq rfl) ?_); try simp only [BLS, List.take_succ_cons, List.take_zero, List.drop_succ_cons, List.drop_zero, List.cons_append, List.nil_append, Nat.reduceAdd])) | simp -implicitDefEqProofs only [EN, lsub, lget, stL, beq_self_eq_true, ne_eq, if_true, if_false, List.cons_append, List.nil_append, Option.isNone_some, Option.isNone_none, e1]))
      exact hk _ h
  rw [if_neg h1] at hk
  have e1 : decide (r.ask f = 0) = true := decide_eq_true (Classical.byContradiction fun e => h1 (.inl e))
  have g2 : ¬ at' < 0 := fun e => h1 (.inr (.inl e))
  have e3 : decide ((b.toNat : Int) = 0) = false := decide_eq_false fun e => h1 (.inr (.inr (UInt8.toNat.inj (by show b.toNat = 0; omega))))
  obtain ⟨n0, rfl⟩ : ∃ n : Nat, at' = (n : Int) := ⟨at'.toNat, by omega⟩
  rw [Int.toNat_natCast] at hk
  obtain ⟨wa, wc, rows, hw, hl, h⟩ := rk_at h
  have hrl : rows.length = r.w.length := by rw [← hw, List.length_map]
  (repeat (first | (first | (with_reducible (first | refine w1 fun _ _ => ?_ | refine w3 fun _ _ _ => ?_ | refine w4 fun _ _ _ => ?_ | refine w11 fun _ _ _ => ?_ | refine stb_n ?_)) | ((with_reducible refine w2 ?_); try simp -implicitDefEqProofs only [EN, lsub, lget, stL, beq_self_eq_true, ne_eq, if_true, if_false, List.cons_append, List.nil_append, Option.isNone_some, Option.isNone_none, e1, g2, e3]; intro _ _) | ((with_reducible (first | refine w5 ?_ ?_ | refine w6 ?_ ?_ | refine w7 ?_ ?_)); simp; refine ⟨_, rfl, ?_⟩) | ((with_reducible (first | refine w8 ?_ ?_ ?_ | refine w9 ?_ ?_ ?_ | refine w10 ?_ ?_ ?_)); exact rfl; simp) | ((with_reducible refine w12 ?_ ?_ ?_ fun _ _ => ?_); simp; simp; simp [oneC]) | ((with_reducible (first | refine eqs ?_ | refine nes ?_)); refine ⟨_, rfl, ?_⟩) | ((refine okF_i (bldP_eq rfl) ?_); try simp only [BLS, List.take_succ_cons, List.take_zero, List.drop_succ_cons, List.drop_zero, List.cons_append, List.nil_append, Nat.reduceAdd])) | simp -implicitDefEqProofs only [EN, lsub, lget, stL, beq_self_eq_true, ne_eq, if_true, if_false, List.cons_append, List.nil_append, Option.isNone_some, Option.isNone_none, e1, g2, e3]))
  refine loop_c (σ := Nat) rows.length (fun i n => [.pointer (some ⟨q, 0, none⟩), .int .i64 f, .int .i64 (n : Int), .int .u8 (b.toNat : Int), .int .i64 i])
    (fun i n W1 => (n ≤ 9223372036854775807 ∧ spoilW f b n0 r.w = (spoilW f b n ((rows.drop i).map RB.val)).map ((rows.take i).map RB.val ++ ·)) ∧ St W0 (cells q (rdc r (.slice wa rows.length wc)) T_rostrumref5_Disk :: arr RBL T_rostrumref5_write wa wc rows :: many fch (rows.map (fun x : RB => x.b)) :: L') W1) n0 rfl ⟨⟨by omega, by simp [hw]⟩, h⟩ ?_
  clear h
  rintro K i n W2 hi ⟨⟨hn9, hsp⟩, h⟩ hK
  simp -implicitDefEqProofs only [EN, lsub, lget, stL, beq_self_eq_true, ne_eq, if_true, if_false, List.cons_append, List.nil_append, Option.isNone_some, Option.isNone_none]
  unfold S.rostrumref5_Disk_Spoil.l1
  (repeat (first | (first | (with_reducible (first | refine w1 fun _ _ => ?_ | refine w3 fun _ _ _ => ?_ | refine w4 fun _ _ _ => ?_ | refine w11 fun _ _ _ => ?_ | refine stb_n ?_)) | ((with_reducible refine w2 ?_); try simp -implicitDefEqProofs only [EN, lsub, lget, stL, beq_self_eq_true, ne_eq, if_true, if_false, List.cons_append, List.nil_append, Option.isNone_some, Option.isNone_none]; intro _ _) | ((with_reducible (first | refine w5 ?_ ?_ | refine w6 ?_ ?_ | refine w7 ?_ ?_)); simp; refine ⟨_, rfl, ?_⟩) | ((with_reducible (first | refine w8 ?_ ?_ ?_ | refine w9 ?_ ?_ ?_ | refine w10 ?_ ?_ ?_)); exact rfl; simp) | ((with_reducible refine w12 ?_ ?_ ?_ fun _ _ => ?_); simp; simp; simp [oneC]) | ((with_reducible (first | refine eqs ?_ | refine nes ?_)); refine ⟨_, rfl, ?_⟩) | ((refine okF_i (bldP_eq rfl) ?_); try simp only [BLS, List.take_succ_cons, List.take_zero, List.drop_succ_cons, List.drop_zero, List.cons_append, List.nil_append, Nat.reduceAdd])) | simp -implicitDefEqProofs only [EN, lsub, lget, stL, beq_self_eq_true, ne_eq, if_true, if_false, List.cons_append, List.nil_append, Option.isNone_some, Option.isNone_none]))
  refine ld (b := q) (v := .slice wa rows.length wc) (by first | assumption | exact St.tick (by assumption) | exact St.tick (St.tick (by assumption))) (rdc_w hl) (by simp) ?_
  by_cases hlt : (i : Int) < (rows.length : Int)
  · have hib : i < rows.length := by omega
    have ew : IntKind.i64.wrap ((i : Int) + 1) = ((i + 1 : Nat) : Int) := by rw [i64w]; omega
    have hdr := List.drop_eq_getElem_cons hib
    have htk : (rows.take (i + 1)).map RB.val = (rows.take i).map RB.val ++ [rows[i].val] := by rw [List.take_succ_eq_append_getElem hib, List.map_append]; rfl
    have hle3 := totR_le rows (i + 1)
    rw [hw, totR_take rows hib] at hle3
    rw [hdr, List.map_cons, spoilW, show rows[i].val.file = rows[i].file from rfl, show rows[i].val.b = rows[i].b.bs from rfl, show rows[i].val.safe = rows[i].safe from rfl] at hsp
    have hJ1 : ∀ (m : Nat) W', m ≤ 9223372036854775807 → spoilW f b n0 r.w = (spoilW f b m ((rows.drop (i + 1)).map RB.val)).map ((rows.take (i + 1)).map RB.val ++ ·) → St W0 (cells q (rdc r (.slice wa rows.length wc)) T_rostrumref5_Disk :: arr RBL T_rostrumref5_write wa wc rows :: many fch (rows.map (fun x : RB => x.b)) :: L') W' →
        S.rostrumref5_Disk_Spoil.j1 K (.pointer (some ⟨q, 0, none⟩)) (.int .i64 f) (.int .i64 (m : Int)) (.int .u8 (b.toNat : Int)) (.int .i64 i) W' := fun m W' h1 h2 h => by
      unfold S.rostrumref5_Disk_Spoil.j1
      (repeat (first | (first | (with_reducible (first | refine w1 fun _ _ => ?_ | refine w3 fun _ _ _ => ?_ | refine w4 fun _ _ _ => ?_ | refine w11 fun _ _ _ => ?_ | refine stb_n ?_)) | ((with_reducible refine w2 ?_); try simp -implicitDefEqProofs only [EN, lsub, lget, stL, beq_self_eq_true, ne_eq, if_true, if_false, List.cons_append, List.nil_append, Option.isNone_some, Option.isNone_none, ew]; intro _ _) | ((with_reducible (first | refine w5 ?_ ?_ | refine w6 ?_ ?_ | refine w7 ?_ ?_)); simp; refine ⟨_, rfl, ?_⟩) | ((with_reducible (first | refine w8 ?_ ?_ ?_ | refine w9 ?_ ?_ ?_ | refine w10 ?_ ?_ ?_)); exact rfl; simp) | ((with_reducible refine w12 ?_ ?_ ?_ fun _ _ => ?_); simp; simp; simp [oneC]) | ((with_reducible (first | refine eqs ?_ | refine nes ?_)); refine ⟨_, rfl, ?_⟩) | ((refine okF_i (bldP_eq rfl) ?_); try simp only [BLS, List.take_succ_cons, List.take_zero, List.drop_succ_cons, List.drop_zero, List.cons_append, List.nil_append, Nat.reduceAdd])) | simp -implicitDefEqProofs only [EN, lsub, lget, stL, beq_self_eq_true, ne_eq, if_true, if_false, List.cons_append, List.nil_append, Option.isNone_some, Option.isNone_none, ew]))
      exact hK m _ hib ⟨⟨h1, h2⟩, h⟩
    clear hK
    obtain ⟨g, o, rfl, _⟩ := Rd.at (A := RBL) (l := rows) (a := wa) h (by intro e; rw [e] at hib; simp at hib)
    have ei : idxS 3 (.slice (some ⟨g, o, none⟩) rows.length wc) (.int .i64 (i : Int)) = some (.pointer (some ⟨g, o + i * 3, none⟩)) := by rw [idxS_blk (by omega) (by omega), Int.toNat_natCast]
    (repeat (first | (first | (with_reducible (first | refine w1 fun _ _ => ?_ | refine w3 fun _ _ _ => ?_ | refine w4 fun _ _ _ => ?_ | refine w11 fun _ _ _ => ?_ | refine stb_n ?_)) | ((with_reducible refine w2 ?_); try simp -implicitDefEqProofs only [EN, lsub, lget, stL, beq_self_eq_true, ne_eq, if_true, if_false, List.cons_append, List.nil_append, Option.isNone_some, Option.isNone_none, hlt]; intro _ _) | ((with_reducible (first | refine w5 ?_ ?_ | refine w6 ?_ ?_ | refine w7 ?_ ?_)); simp; refine ⟨_, rfl, ?_⟩) | ((with_reducible (first | refine w8 ?_ ?_ ?_ | refine w9 ?_ ?_ ?_ | refine w10 ?_ ?_ ?_)); exact rfl; simp) | ((with_reducible refine w12 ?_ ?_ ?_ fun _ _ => ?_); simp; simp; simp [oneC]) | ((with_reducible (first | refine eqs ?_ | refine nes ?_)); refine ⟨_, rfl, ?_⟩) | ((refine okF_i (bldP_eq rfl) ?_); try simp only [BLS, List.take_succ_cons, List.take_zero, List.drop_succ_cons, List.drop_zero, List.cons_append, List.nil_append, Nat.reduceAdd])) | simp -implicitDefEqProofs only [EN, lsub, lget, stL, beq_self_eq_true, ne_eq, if_true, if_false, List.cons_append, List.nil_append, Option.isNone_some, Option.isNone_none, hlt]))
    refine joinK_i ?_
    (repeat (first | (first | (with_reducible (first | refine w1 fun _ _ => ?_ | refine w3 fun _ _ _ => ?_ | refine w4 fun _ _ _ => ?_ | refine w11 fun _ _ _ => ?_ | refine stb_n ?_)) | ((with_reducible refine w2 ?_); try simp -implicitDefEqProofs only [EN, lsub, lget, stL, beq_self_eq_true, ne_eq, if_true, if_false, List.cons_append, List.nil_append, Option.isNone_some, Option.isNone_none]; intro _ _) | ((with_reducible (first | refine w5 ?_ ?_ | refine w6 ?_ ?_ | refine w7 ?_ ?_)); simp; refine ⟨_, rfl, ?_⟩) | ((with_reducible (first | refine w8 ?_ ?_ ?_ | refine w9 ?_ ?_ ?_ | refine w10 ?_ ?_ ?_)); exact rfl; simp) | ((with_reducible refine w12 ?_ ?_ ?_ fun _ _ => ?_); simp; simp; simp [oneC]) | ((with_reducible (first | refine eqs ?_ | refine nes ?_)); refine ⟨_, rfl, ?_⟩) | ((refine okF_i (bldP_eq rfl) ?_); try simp only [BLS, List.take_succ_cons, List.take_zero, List.drop_succ_cons, List.drop_zero, List.cons_append, List.nil_append, Nat.reduceAdd])) | simp -implicitDefEqProofs only [EN, lsub, lget, stL, beq_self_eq_true, ne_eq, if_true, if_false, List.cons_append, List.nil_append, Option.isNone_some, Option.isNone_none]))
    refine ld (b := q) (v := .slice (some ⟨g, o, none⟩) rows.length wc) (by first | assumption | exact St.tick (by assumption) | exact St.tick (St.tick (by assumption))) (rdc_w hl) (by simp) ?_
    (repeat (first | (first | (with_reducible (first | refine w1 fun _ _ => ?_ | refine w3 fun _ _ _ => ?_ | refine w4 fun _ _ _ => ?_ | refine w11 fun _ _ _ => ?_ | refine stb_n ?_)) | ((with_reducible refine w2 ?_); try simp -implicitDefEqProofs only [EN, lsub, lget, stL, beq_self_eq_true, ne_eq, if_true, if_false, List.cons_append, List.nil_append, Option.isNone_some, Option.isNone_none, ei]; intro _ _) | ((with_reducible (first | refine w5 ?_ ?_ | refine w6 ?_ ?_ | refine w7 ?_ ?_)); simp; refine ⟨_, rfl, ?_⟩) | ((with_reducible (first | refine w8 ?_ ?_ ?_ | refine w9 ?_ ?_ ?_ | refine w10 ?_ ?_ ?_)); exact rfl; simp) | ((with_reducible refine w12 ?_ ?_ ?_ fun _ _ => ?_); simp; simp; simp [oneC]) | ((with_reducible (first | refine eqs ?_ | refine nes ?_)); refine ⟨_, rfl, ?_⟩) | ((refine okF_i (bldP_eq rfl) ?_); try simp only [BLS, List.take_succ_cons, List.take_zero, List.drop_succ_cons, List.drop_zero, List.cons_append, List.nil_append, Nat.reduceAdd])) | simp -implicitDefEqProofs only [EN, lsub, lget, stL, beq_self_eq_true, ne_eq, if_true, if_false, List.cons_append, List.nil_append, Option.isNone_some, Option.isNone_none, ei]))
    refine ldA0 (i := i) (l := rows) (A := RBL) (by first | assumption | exact St.tick (by assumption) | exact St.tick (St.tick (by assumption))) rfl hib (v := .int .i64 rows[i].file) rfl (by simp) ?_
    by_cases hf : rows[i].file = f
    · have e2 := decide_eq_true hf
      rw [if_pos hf] at hsp
      (repeat (first | (first | (with_reducible (first | refine w1 fun _ _ => ?_ | refine w3 fun _ _ _ => ?_ | refine w4 fun _ _ _ => ?_ | refine w11 fun _ _ _ => ?_ | refine stb_n ?_)) | ((with_reducible refine w2 ?_); try simp -implicitDefEqProofs only [EN, lsub, lget, stL, beq_self_eq_true, ne_eq, if_true, if_false, List.cons_append, List.nil_append, Option.isNone_some, Option.isNone_none, e2]; intro _ _) | ((with_reducible (first | refine w5 ?_ ?_ | refine w6 ?_ ?_ | refine w7 ?_ ?_)); simp; refine ⟨_, rfl, ?_⟩) | ((with_reducible (first | refine w8 ?_ ?_ ?_ | refine w9 ?_ ?_ ?_ | refine w10 ?_ ?_ ?_)); exact rfl; simp) | ((with_reducible refine w12 ?_ ?_ ?_ fun _ _ => ?_); simp; simp; simp [oneC]) | ((with_reducible (first | refine eqs ?_ | refine nes ?_)); refine ⟨_, rfl, ?_⟩) | ((refine okF_i (bldP_eq rfl) ?_); try simp only [BLS, List.take_succ_cons, List.take_zero, List.drop_succ_cons, List.drop_zero, List.cons_append, List.nil_append, Nat.reduceAdd])) | simp -implicitDefEqProofs only [EN, lsub, lget, stL, beq_self_eq_true, ne_eq, if_true, if_false, List.cons_append, List.nil_append, Option.isNone_some, Option.isNone_none, e2]))
      refine ld (b := q) (v := .slice (some ⟨g, o, none⟩) rows.length wc) (by first | assumption | exact St.tick (by assumption) | exact St.tick (St.tick (by assumption))) (rdc_w hl) (by simp) ?_
      (repeat (first | (first | (with_reducible (first | refine w1 fun _ _ => ?_ | refine w3 fun _ _ _ => ?_ | refine w4 fun _ _ _ => ?_ | refine w11 fun _ _ _ => ?_ | refine stb_n ?_)) | ((with_reducible refine w2 ?_); try simp -implicitDefEqProofs only [EN, lsub, lget, stL, beq_self_eq_true, ne_eq, if_true, if_false, List.cons_append, List.nil_append, Option.isNone_some, Option.isNone_none, ei]; intro _ _) | ((with_reducible (first | refine w5 ?_ ?_ | refine w6 ?_ ?_ | refine w7 ?_ ?_)); simp; refine ⟨_, rfl, ?_⟩) | ((with_reducible (first | refine w8 ?_ ?_ ?_ | refine w9 ?_ ?_ ?_ | refine w10 ?_ ?_ ?_)); exact rfl; simp) | ((with_reducible refine w12 ?_ ?_ ?_ fun _ _ => ?_); simp; simp; simp [oneC]) | ((with_reducible (first | refine eqs ?_ | refine nes ?_)); refine ⟨_, rfl, ?_⟩) | ((refine okF_i (bldP_eq rfl) ?_); try simp only [BLS, List.take_succ_cons, List.take_zero, List.drop_succ_cons, List.drop_zero, List.cons_append, List.nil_append, Nat.reduceAdd])) | simp -implicitDefEqProofs only [EN, lsub, lget, stL, beq_self_eq_true, ne_eq, if_true, if_false, List.cons_append, List.nil_append, Option.isNone_some, Option.isNone_none, ei]))
      refine ldA (i := i) (j := 1) (l := rows) (A := RBL) (by first | assumption | exact St.tick (by assumption) | exact St.tick (St.tick (by assumption))) rfl hib (v := .slice rows[i].b.a rows[i].b.bs.length rows[i].b.c) rfl (by simp) ?_
      by_cases hlt2 : (n : Int) < (rows[i].b.bs.length : Int)
      · have hnb : n < rows[i].b.bs.length := by omega
        rw [if_pos hnb] at hsp
        (repeat (first | (first | (with_reducible (first | refine w1 fun _ _ => ?_ | refine w3 fun _ _ _ => ?_ | refine w4 fun _ _ _ => ?_ | refine w11 fun _ _ _ => ?_ | refine stb_n ?_)) | ((with_reducible refine w2 ?_); try simp -implicitDefEqProofs only [EN, lsub, lget, stL, beq_self_eq_true, ne_eq, if_true, if_false, List.cons_append, List.nil_append, Option.isNone_some, Option.isNone_none, hlt2]; intro _ _) | ((with_reducible (first | refine w5 ?_ ?_ | refine w6 ?_ ?_ | refine w7 ?_ ?_)); simp; refine ⟨_, rfl, ?_⟩) | ((with_reducible (first | refine w8 ?_ ?_ ?_ | refine w9 ?_ ?_ ?_ | refine w10 ?_ ?_ ?_)); exact rfl; simp) | ((with_reducible refine w12 ?_ ?_ ?_ fun _ _ => ?_); simp; simp; simp [oneC]) | ((with_reducible (first | refine eqs ?_ | refine nes ?_)); refine ⟨_, rfl, ?_⟩) | ((refine okF_i (bldP_eq rfl) ?_); try simp only [BLS, List.take_succ_cons, List.take_zero, List.drop_succ_cons, List.drop_zero, List.cons_append, List.nil_append, Nat.reduceAdd])) | simp -implicitDefEqProofs only [EN, lsub, lget, stL, beq_self_eq_true, ne_eq, if_true, if_false, List.cons_append, List.nil_append, Option.isNone_some, Option.isNone_none, hlt2]))
        refine ld (b := q) (v := .slice (some ⟨g, o, none⟩) rows.length wc) (by first | assumption | exact St.tick (by assumption) | exact St.tick (St.tick (by assumption))) (rdc_w hl) (by simp) ?_
        (repeat (first | (first | (with_reducible (first | refine w1 fun _ _ => ?_ | refine w3 fun _ _ _ => ?_ | refine w4 fun _ _ _ => ?_ | refine w11 fun _ _ _ => ?_ | refine stb_n ?_)) | ((with_reducible refine w2 ?_); try simp -implicitDefEqProofs only [EN, lsub, lget, stL, beq_self_eq_true, ne_eq, if_true, if_false, List.cons_append, List.nil_append, Option.isNone_some, Option.isNone_none, ei]; intro _ _) | ((with_reducible (first | refine w5 ?_ ?_ | refine w6 ?_ ?_ | refine w7 ?_ ?_)); simp; refine ⟨_, rfl, ?_⟩) | ((with_reducible (first | refine w8 ?_ ?_ ?_ | refine w9 ?_ ?_ ?_ | refine w10 ?_ ?_ ?_)); exact rfl; simp) | ((with_reducible refine w12 ?_ ?_ ?_ fun _ _ => ?_); simp; simp; simp [oneC]) | ((with_reducible (first | refine eqs ?_ | refine nes ?_)); refine ⟨_, rfl, ?_⟩) | ((refine okF_i (bldP_eq rfl) ?_); try simp only [BLS, List.take_succ_cons, List.take_zero, List.drop_succ_cons, List.drop_zero, List.cons_append, List.nil_append, Nat.reduceAdd])) | simp -implicitDefEqProofs only [EN, lsub, lget, stL, beq_self_eq_true, ne_eq, if_true, if_false, List.cons_append, List.nil_append, Option.isNone_some, Option.isNone_none, ei]))
        refine ldA (i := i) (j := 1) (l := rows) (A := RBL) (by first | assumption | exact St.tick (by assumption) | exact St.tick (St.tick (by assumption))) rfl hib (v := .slice rows[i].b.a rows[i].b.bs.length rows[i].b.c) rfl (by simp) ?_
        (repeat (first | (first | (with_reducible (first | refine w1 fun _ _ => ?_ | refine w3 fun _ _ _ => ?_ | refine w4 fun _ _ _ => ?_ | refine w11 fun _ _ _ => ?_ | refine stb_n ?_)) | ((with_reducible refine w2 ?_); try simp -implicitDefEqProofs only [EN, lsub, lget, stL, beq_self_eq_true, ne_eq, if_true, if_false, List.cons_append, List.nil_append, Option.isNone_some, Option.isNone_none]; intro _ _) | ((with_reducible (first | refine w5 ?_ ?_ | refine w6 ?_ ?_ | refine w7 ?_ ?_)); simp; refine ⟨_, rfl, ?_⟩) | ((with_reducible (first | refine w8 ?_ ?_ ?_ | refine w9 ?_ ?_ ?_ | refine w10 ?_ ?_ ?_)); exact rfl; simp) | ((with_reducible refine w12 ?_ ?_ ?_ fun _ _ => ?_); simp; simp; simp [oneC]) | ((with_reducible (first | refine eqs ?_ | refine nes ?_)); refine ⟨_, rfl, ?_⟩) | ((refine okF_i (bldP_eq rfl) ?_); try simp only [BLS, List.take_succ_cons, List.take_zero, List.drop_succ_cons, List.drop_zero, List.cons_append, List.nil_append, Nat.reduceAdd])) | simp -implicitDefEqProofs only [EN, lsub, lget, stL, beq_self_eq_true, ne_eq, if_true, if_false, List.cons_append, List.nil_append, Option.isNone_some, Option.isNone_none]))
        refine ld (b := q) (v := .slice (some ⟨g, o, none⟩) rows.length wc) (by first | assumption | exact St.tick (by assumption) | exact St.tick (St.tick (by assumption))) (rdc_w hl) (by simp) ?_
        (repeat (first | (first | (with_reducible (first | refine w1 fun _ _ => ?_ | refine w3 fun _ _ _ => ?_ | refine w4 fun _ _ _ => ?_ | refine w11 fun _ _ _ => ?_ | refine stb_n ?_)) | ((with_reducible refine w2 ?_); try simp -implicitDefEqProofs only [EN, lsub, lget, stL, beq_self_eq_true, ne_eq, if_true, if_false, List.cons_append, List.nil_append, Option.isNone_some, Option.isNone_none, ei]; intro _ _) | ((with_reducible (first | refine w5 ?_ ?_ | refine w6 ?_ ?_ | refine w7 ?_ ?_)); simp; refine ⟨_, rfl, ?_⟩) | ((with_reducible (first | refine w8 ?_ ?_ ?_ | refine w9 ?_ ?_ ?_ | refine w10 ?_ ?_ ?_)); exact rfl; simp) | ((with_reducible refine w12 ?_ ?_ ?_ fun _ _ => ?_); simp; simp; simp [oneC]) | ((with_reducible (first | refine eqs ?_ | refine nes ?_)); refine ⟨_, rfl, ?_⟩) | ((refine okF_i (bldP_eq rfl) ?_); try simp only [BLS, List.take_succ_cons, List.take_zero, List.drop_succ_cons, List.drop_zero, List.cons_append, List.nil_append, Nat.reduceAdd])) | simp -implicitDefEqProofs only [EN, lsub, lget, stL, beq_self_eq_true, ne_eq, if_true, if_false, List.cons_append, List.nil_append, Option.isNone_some, Option.isNone_none, ei]))
        refine ldA (i := i) (j := 1) (l := rows) (A := RBL) (by first | assumption | exact St.tick (by assumption) | exact St.tick (St.tick (by assumption))) rfl hib (v := .slice rows[i].b.a rows[i].b.bs.length rows[i].b.c) rfl (by simp) ?_
        have h := (St.perm (by first | assumption | exact St.tick (by assumption) | exact St.tick (St.tick (by assumption))) ((List.Perm.cons _ (List.Perm.swap _ _ _)).trans (List.Perm.swap _ _ _))).ent (many_pick rows hib)
        have h := (show St W0 (arr B8 T_uint8 rows[i].b.a rows[i].b.c rows[i].b.bs :: _) _ from h)
        have ex := xor8 rows[i].b.bs[n] b
        refine ixA (i := n) (a := rows[i].b.a) (l := rows[i].b.bs) (A := B8) h rfl rfl hnb fun g2 o2 ha => ?_
        have h' := h.tick
        rw [ha] at h'
        refine ldA0 (i := n) (l := rows[i].b.bs) (A := B8) h' rfl hnb (v := b8 rows[i].b.bs[n]) rfl (by simp) ?_
        rw [show b8 rows[i].b.bs[n] = .int .u8 (rows[i].b.bs[n].toNat : Int) from rfl]
        simp only [binP_xor, okF]
        refine ixA (i := n) (a := rows[i].b.a) (l := rows[i].b.bs) (A := B8) h rfl rfl hnb fun g3 o3 ha3 => ?_
        rw [ha] at ha3
        cases ha3
        refine stA (i := n) (x := rows[i].b.bs[n] ^^^ b) (l := rows[i].b.bs) (A := B8) h' rfl hnb (congrArg (fun n => [Value.int .u8 n]) ex) fun W3 h => ?_
        have hrow : RBL.row (⟨rows[i].file, ⟨some ⟨g2, o2, none⟩, rows[i].b.c, rows[i].b.bs.set n (rows[i].b.bs[n] ^^^ b)⟩, rows[i].safe⟩ : RB) = RBL.row rows[i] := by simp [RBL, BSl.v, ha]
        have h := h.ent (many_place rows hib ⟨rows[i].file, ⟨some ⟨g2, o2, none⟩, rows[i].b.c, rows[i].b.bs.set n (rows[i].b.bs[n] ^^^ b)⟩, rows[i].safe⟩)
        rw [← arr_same (e := T_rostrumref5_write) (a := some ⟨g, o, none⟩) (c := wc) hib hrow] at h
        have h := St.perm h ((List.Perm.swap _ _ _).trans ((List.Perm.swap _ _ _).cons _))
        have eg : rows[i].b.bs.getD n 0 = rows[i].b.bs[n] := by rw [List.getD_eq_getElem?_getD, List.getElem?_eq_getElem hnb]; rfl
        rw [eg] at hsp
        rw [hsp] at hk
        simp only [Option.map_some] at hk
        have e6 : ∀ w' v, rdc r v = rdc { r with w := w' } v := fun w' v => by unfold rdc; rfl
        rw [e6 ((rows.take i).map RB.val ++ ⟨rows[i].file, rows[i].b.bs.set n (rows[i].b.bs[n] ^^^ b), rows[i].safe⟩ :: (rows.drop (i + 1)).map RB.val)] at h
        have eln : rows.length = (rows.set i ⟨rows[i].file, ⟨some ⟨g2, o2, none⟩, rows[i].b.c, rows[i].b.bs.set n (rows[i].b.bs[n] ^^^ b)⟩, rows[i].safe⟩).length := by rw [List.length_set]
        rw [eln] at h
        refine hk _ (h.ent (rk_ent (r := { r with w := (rows.take i).map RB.val ++ ⟨rows[i].file, rows[i].b.bs.set n (rows[i].b.bs[n] ^^^ b), rows[i].safe⟩ :: (rows.drop (i + 1)).map RB.val }) ?_ hl))
        rw [List.set_eq_take_append_cons_drop, if_pos hib, List.map_append, List.map_cons]
        rfl
      · rw [if_neg (by omega)] at hsp
        have e5 : IntKind.i64.wrap ((n : Int) - (rows[i].b.bs.length : Nat)) = ((n - rows[i].b.bs.length : Nat) : Int) := by rw [i64w]; omega
        (repeat (first | (first | (with_reducible (first | refine w1 fun _ _ => ?_ | refine w3 fun _ _ _ => ?_ | refine w4 fun _ _ _ => ?_ | refine w11 fun _ _ _ => ?_ | refine stb_n ?_)) | ((with_reducible refine w2 ?_); try simp -implicitDefEqProofs only [EN, lsub, lget, stL, beq_self_eq_true, ne_eq, if_true, if_false, List.cons_append, List.nil_append, Option.isNone_some, Option.isNone_none, hlt2]; intro _ _) | ((with_reducible (first | refine w5 ?_ ?_ | refine w6 ?_ ?_ | refine w7 ?_ ?_)); simp; refine ⟨_, rfl, ?_⟩) | ((with_reducible (first | refine w8 ?_ ?_ ?_ | refine w9 ?_ ?_ ?_ | refine w10 ?_ ?_ ?_)); exact rfl; simp) | ((with_reducible refine w12 ?_ ?_ ?_ fun _ _ => ?_); simp; simp; simp [oneC]) | ((with_reducible (first | refine eqs ?_ | refine nes ?_)); refine ⟨_, rfl, ?_⟩) | ((refine okF_i (bldP_eq rfl) ?_); try simp only [BLS, List.take_succ_cons, List.take_zero, List.drop_succ_cons, List.drop_zero, List.cons_append, List.nil_append, Nat.reduceAdd])) | simp -implicitDefEqProofs only [EN, lsub, lget, stL, beq_self_eq_true, ne_eq, if_true, if_false, List.cons_append, List.nil_append, Option.isNone_some, Option.isNone_none, hlt2]))
        refine ld (b := q) (v := .slice (some ⟨g, o, none⟩) rows.length wc) (by first | assumption | exact St.tick (by assumption) | exact St.tick (St.tick (by assumption))) (rdc_w hl) (by simp) ?_
        (repeat (first | (first | (with_reducible (first | refine w1 fun _ _ => ?_ | refine w3 fun _ _ _ => ?_ | refine w4 fun _ _ _ => ?_ | refine w11 fun _ _ _ => ?_ | refine stb_n ?_)) | ((with_reducible refine w2 ?_); try simp -implicitDefEqProofs only [EN, lsub, lget, stL, beq_self_eq_true, ne_eq, if_true, if_false, List.cons_append, List.nil_append, Option.isNone_some, Option.isNone_none, ei]; intro _ _) | ((with_reducible (first | refine w5 ?_ ?_ | refine w6 ?_ ?_ | refine w7 ?_ ?_)); simp; refine ⟨_, rfl, ?_⟩) | ((with_reducible (first | refine w8 ?_ ?_ ?_ | refine w9 ?_ ?_ ?_ | refine w10 ?_ ?_ ?_)); exact rfl; simp) | ((with_reducible refine w12 ?_ ?_ ?_ fun _ _ => ?_); simp; simp; simp [oneC]) | ((with_reducible (first | refine eqs ?_ | refine nes ?_)); refine ⟨_, rfl, ?_⟩) | ((refine okF_i (bldP_eq rfl) ?_); try simp only [BLS, List.take_succ_cons, List.take_zero, List.drop_succ_cons, List.drop_zero, List.cons_append, List.nil_append, Nat.reduceAdd])) | simp -implicitDefEqProofs only [EN, lsub, lget, stL, beq_self_eq_true, ne_eq, if_true, if_false, List.cons_append, List.nil_append, Option.isNone_some, Option.isNone_none, ei]))
        refine ldA (i := i) (j := 1) (l := rows) (A := RBL) (by first | assumption | exact St.tick (by assumption) | exact St.tick (St.tick (by assumption))) rfl hib (v := .slice rows[i].b.a rows[i].b.bs.length rows[i].b.c) rfl (by simp) ?_
        (repeat (first | (first | (with_reducible (first | refine w1 fun _ _ => ?_ | refine w3 fun _ _ _ => ?_ | refine w4 fun _ _ _ => ?_ | refine w11 fun _ _ _ => ?_ | refine stb_n ?_)) | ((with_reducible refine w2 ?_); try simp -implicitDefEqProofs only [EN, lsub, lget, stL, beq_self_eq_true, ne_eq, if_true, if_false, List.cons_append, List.nil_append, Option.isNone_some, Option.isNone_none, e5]; intro _ _) | ((with_reducible (first | refine w5 ?_ ?_ | refine w6 ?_ ?_ | refine w7 ?_ ?_)); simp; refine ⟨_, rfl, ?_⟩) | ((with_reducible (first | refine w8 ?_ ?_ ?_ | refine w9 ?_ ?_ ?_ | refine w10 ?_ ?_ ?_)); exact rfl; simp) | ((with_reducible refine w12 ?_ ?_ ?_ fun _ _ => ?_); simp; simp; simp [oneC]) | ((with_reducible (first | refine eqs ?_ | refine nes ?_)); refine ⟨_, rfl, ?_⟩) | ((refine okF_i (bldP_eq rfl) ?_); try simp only [BLS, List.take_succ_cons, List.take_zero, List.drop_succ_cons, List.drop_zero, List.cons_append, List.nil_append, Nat.reduceAdd])) | simp -implicitDefEqProofs only [EN, lsub, lget, stL, beq_self_eq_true, ne_eq, if_true, if_false, List.cons_append, List.nil_append, Option.isNone_some, Option.isNone_none, e5]))
        refine hJ1 _ _ (by omega) ?_ (by first | assumption | exact St.tick (by assumption) | exact St.tick (St.tick (by assumption)))
        rw [hsp, htk, Option.map_map]
        congr 1
        funext x; simp
    · have e2 := decide_eq_false hf
      rw [if_neg hf] at hsp
      (repeat (first | (first | (with_reducible (first | refine w1 fun _ _ => ?_ | refine w3 fun _ _ _ => ?_ | refine w4 fun _ _ _ => ?_ | refine w11 fun _ _ _ => ?_ | refine stb_n ?_)) | ((with_reducible refine w2 ?_); try simp -implicitDefEqProofs only [EN, lsub, lget, stL, beq_self_eq_true, ne_eq, if_true, if_false, List.cons_append, List.nil_append, Option.isNone_some, Option.isNone_none, e2]; intro _ _) | ((with_reducible (first | refine w5 ?_ ?_ | refine w6 ?_ ?_ | refine w7 ?_ ?_)); simp; refine ⟨_, rfl, ?_⟩) | ((with_reducible (first | refine w8 ?_ ?_ ?_ | refine w9 ?_ ?_ ?_ | refine w10 ?_ ?_ ?_)); exact rfl; simp) | ((with_reducible refine w12 ?_ ?_ ?_ fun _ _ => ?_); simp; simp; simp [oneC]) | ((with_reducible (first | refine eqs ?_ | refine nes ?_)); refine ⟨_, rfl, ?_⟩) | ((refine okF_i (bldP_eq rfl) ?_); try simp only [BLS, List.take_succ_cons, List.take_zero, List.drop_succ_cons, List.drop_zero, List.cons_append, List.nil_append, Nat.reduceAdd])) | simp -implicitDefEqProofs only [EN, lsub, lget, stL, beq_self_eq_true, ne_eq, if_true, if_false, List.cons_append, List.nil_append, Option.isNone_some, Option.isNone_none, e2]))
      refine hJ1 n _ hn9 ?_ (by first | assumption | exact St.tick (by assumption) | exact St.tick (St.tick (by assumption)))
      rw [hsp, htk, Option.map_map]
      congr 1
      funext x; simp
  · have hil : i = rows.length := by omega
    subst hil
    rw [List.drop_length] at hsp
    rw [hsp] at hk
    (repeat (first | (first | (with_reducible (first | refine w1 fun _ _ => ?_ | refine w3 fun _ _ _ => ?_ | refine w4 fun _ _ _ => ?_ | refine w11 fun _ _ _ => ?_ | refine stb_n ?_)) | ((with_reducible refine w2 ?_); try simp -implicitDefEqProofs only [EN, lsub, lget, stL, beq_self_eq_true, ne_eq, if_true, if_false, List.cons_append, List.nil_append, Option.isNone_some, Option.isNone_none, hlt]; intro _ _) | ((with_reducible (first | refine w5 ?_ ?_ | refine w6 ?_ ?_ | refine w7 ?_ ?_)); simp; refine ⟨_, rfl, ?_⟩) | ((with_reducible (first | refine w8 ?_ ?_ ?_ | refine w9 ?_ ?_ ?_ | refine w10 ?_ ?_ ?_)); exact rfl; simp) | ((with_reducible refine w12 ?_ ?_ ?_ fun _ _ => ?_); simp; simp; simp [oneC]) | ((with_reducible (first | refine eqs ?_ | refine nes ?_)); refine ⟨_, rfl, ?_⟩) | ((refine okF_i (bldP_eq rfl) ?_); try simp only [BLS, List.take_succ_cons, List.take_zero, List.drop_succ_cons, List.drop_zero, List.cons_append, List.nil_append, Nat.reduceAdd])) | simp -implicitDefEqProofs only [EN, lsub, lget, stL, beq_self_eq_true, ne_eq, if_true, if_false, List.cons_append, List.nil_append, Option.isNone_some, Option.isNone_none, hlt]))
    exact hk _ (St.ent (by first | assumption | exact St.tick (by assumption) | exact St.tick (St.tick (by assumption))) (rk_ent hw hl))
end
end Go.Proofs.Ythladblmjoaeoaa
namespace Go.Proofs.Ythladblmjoaeoaa
set_option linter.unusedVariables false
set_option linter.unusedSimpArgs false
open Go Go.Eng

theorem arr_take {α : Type} {A : Ly α} {e : TypeId} {a : Option Addr} {c : Nat} {l : List α} (t : Nat) (p : PH) (h : arr A e a c l p) : arr A e a c (l.take t) p := by
  obtain ⟨h1, h2, h3⟩ := h
  refine ⟨by rw [List.length_take]; omega, h2, ?_⟩
  rcases h3 with h3 | ⟨g, o, cur, ha, h4, h5, h6⟩
  · exact .inl h3
  · refine .inr ⟨g, o, cur, ha, h4, ?_, h6⟩
    have e : A.rows l = A.rows (l.take t) ++ A.rows (l.drop t) := by rw [← Ly.rows_app, List.take_append_drop]
    have h7 : (A.rows (l.take t)).length = (l.take t).length * A.sz := Ly.rows_len
    have h8 : (l.take t).length * A.sz ≤ l.length * A.sz := Nat.mul_le_mul_right _ (by rw [List.length_take]; omega)
    have h9 := congrArg (List.take ((l.take t).length * A.sz)) h5
    rw [List.take_take, Nat.min_eq_left h8, e, ← h7, List.take_left' rfl, h7] at h9
    exact h9
theorem many_mid {W0 W : World} {L : List Asn} (A B : List BSl) (x y : BSl) (hxy : ∀ {L : List Asn}, St W0 (fch x :: L) W → St W0 (fch y :: L) W) (h : St W0 (many fch (A ++ x :: B) :: L) W) : St W0 (many fch (A ++ y :: B) :: L) W := by
  have h := h.ent ((many_perm (F := fch) (List.perm_middle (a := x) (l₁ := A) (l₂ := B))).trans (many_cons _ _))
  exact (hxy h).ent ((many_uncons (F := fch) y _).trans (many_perm (F := fch) (List.perm_middle (a := y) (l₁ := A) (l₂ := B)).symm))
section
variable {W0 W : World} {L L' : List Asn} {q : Nat} {r : RD}
set_option maxRecDepth 100000 in
set_option maxHeartbeats 4000000 in
theorem refCrash {keep torn : Int} {k : Value → World → Prop} (h : St W0 L W) [ht : Tk (rk q) L r L'] (hn : r.w.length < 1000000)
    (hk : ∀ W', St W0 (rk q (r.crash keep torn) :: L') W' → k (.tuple #[]) W') : callK PR F_rostrumref5_Disk_Crash [.pointer (some ⟨q, 0, none⟩), .int .i64 keep, .int .i64 torn] k W := by
  apply S.rostrumref5_Disk_Crash.call
  unfold S.rostrumref5_Disk_Crash.body
  obtain ⟨wa, wc, rows, hw, hl, h⟩ := rk_at (h.perm ht.perm)
  have hrl : rows.length = r.w.length := by rw [← hw, List.length_map]
  (repeat (first | (first | (with_reducible (first | refine w1 fun _ _ => ?_ | refine w3 fun _ _ _ => ?_ | refine w4 fun _ _ _ => ?_ | refine w11 fun _ _ _ => ?_ | refine stb_n ?_)) | ((with_reducible refine w2 ?_); try simp -implicitDefEqProofs only [EN, lsub, lget, stL, beq_self_eq_true, ne_eq, if_true, if_false, List.cons_append, List.nil_append, Option.isNone_some, Option.isNone_none]; intro _ _) | ((with_reducible (first | refine w5 ?_ ?_ | refine w6 ?_ ?_ | refine w7 ?_ ?_)); simp; refine ⟨_, rfl, ?_⟩) | ((with_reducible (first | refine w8 ?_ ?_ ?_ | refine w9 ?_ ?_ ?_ | refine w10 ?_ ?_ ?_)); exact rfl; simp) | ((with_reducible refine w12 ?_ ?_ ?_ fun _ _ => ?_); simp; simp; simp [oneC]) | ((with_reducible (first | refine eqs ?_ | refine nes ?_)); refine ⟨_, rfl, ?_⟩) | ((refine okF_i (bldP_eq rfl) ?_); try simp only [BLS, List.take_succ_cons, List.take_zero, List.drop_succ_cons, List.drop_zero, List.cons_append, List.nil_append, Nat.reduceAdd])) | simp -implicitDefEqProofs only [EN, lsub, lget, stL, beq_self_eq_true, ne_eq, if_true, if_false, List.cons_append, List.nil_append, Option.isNone_some, Option.isNone_none]))
  refine sto (b := q) (cs := rdc r (.slice wa rows.length wc)) (by first | assumption | exact St.tick (by assumption) | exact St.tick (St.tick (by assumption))) rfl (by rw [rdc_len hl]; exact (by decide : 1002 + 1 ≤ 1004)) rfl fun W1 h => ?_
  rw [show vcells (.bool true) = [.bool true] from rfl, rdc_setoff hl] at h
  have hl2 : ({ r with off := true } : RD).is.length = 1000 := hl
  refine joinK_i ?_
  refine loop_c (σ := (Option Addr × Nat) × List RB) rows.length (fun i y => [.pointer (some ⟨q, 0, none⟩), .int .i64 keep, .int .i64 torn, .slice y.1.1 y.2.length y.1.2, .int .i64 ((wsG [] ((rows.take i).map RB.val)).length : Nat), .int .i64 i])
    (fun i y W1 => y.2.map RB.val = cutR keep torn 0 ((rows.take i).map RB.val) ∧ St W0 (arr RBL T_rostrumref5_write y.1.1 y.1.2 y.2 :: cells q (rdc { r with off := true } (.slice wa rows.length wc)) T_rostrumref5_Disk :: arr RBL T_rostrumref5_write wa wc rows :: many fch ((y.2 ++ rows.drop i).map (fun x : RB => x.b)) :: L') W1) ((none, 0), []) rfl ⟨rfl, h.ent (arr_nil RBL T_rostrumref5_write)⟩ ?_
  clear h
  rintro K i ⟨⟨a1, c1⟩, acc⟩ W2 hi ⟨hacc, h⟩ hK
  simp only at hacc h
  simp -implicitDefEqProofs only [EN, lsub, lget, stL, beq_self_eq_true, ne_eq, if_true, if_false, List.cons_append, List.nil_append, Option.isNone_some, Option.isNone_none]
  unfold S.rostrumref5_Disk_Crash.l1
  have hal : acc.length = i := by
    have h1 := congrArg List.length hacc
    have h2 : ∀ (n : Nat) (l : List RW), (cutR keep torn n l).length = l.length := fun n l => by
      induction l generalizing n with
      | nil => rfl
      | cons x l ih => simp only [cutR]; split <;> simp [ih]
    rw [h2] at h1
    simp at h1
    omega
  (repeat (first | (first | (with_reducible (first | refine w1 fun _ _ => ?_ | refine w3 fun _ _ _ => ?_ | refine w4 fun _ _ _ => ?_ | refine w11 fun _ _ _ => ?_ | refine stb_n ?_)) | ((with_reducible refine w2 ?_); try simp -implicitDefEqProofs only [EN, lsub, lget, stL, beq_self_eq_true, ne_eq, if_true, if_false, List.cons_append, List.nil_append, Option.isNone_some, Option.isNone_none]; intro _ _) | ((with_reducible (first | refine w5 ?_ ?_ | refine w6 ?_ ?_ | refine w7 ?_ ?_)); simp; refine ⟨_, rfl, ?_⟩) | ((with_reducible (first | refine w8 ?_ ?_ ?_ | refine w9 ?_ ?_ ?_ | refine w10 ?_ ?_ ?_)); exact rfl; simp) | ((with_reducible refine w12 ?_ ?_ ?_ fun _ _ => ?_); simp; simp; simp [oneC]) | ((with_reducible (first | refine eqs ?_ | refine nes ?_)); refine ⟨_, rfl, ?_⟩) | ((refine okF_i (bldP_eq rfl) ?_); try simp only [BLS, List.take_succ_cons, List.take_zero, List.drop_succ_cons, List.drop_zero, List.cons_append, List.nil_append, Nat.reduceAdd])) | simp -implicitDefEqProofs only [EN, lsub, lget, stL, beq_self_eq_true, ne_eq, if_true, if_false, List.cons_append, List.nil_append, Option.isNone_some, Option.isNone_none]))
  refine ld (b := q) (v := .slice wa rows.length wc) (by first | assumption | exact St.tick (by assumption) | exact St.tick (St.tick (by assumption))) (rdc_w hl2) (by simp) ?_
  by_cases hlt : (i : Int) < (rows.length : Int)
  · have hib : i < rows.length := by omega
    have ew : IntKind.i64.wrap ((i : Int) + 1) = ((i + 1 : Nat) : Int) := by rw [i64w]; omega
    have htk : (rows.take (i + 1)).map RB.val = (rows.take i).map RB.val ++ [rows[i].val] := by rw [List.take_succ_eq_append_getElem hib, List.map_append]; rfl
    have hct : cutR keep torn 0 ((rows.take (i + 1)).map RB.val) = cutR keep torn 0 ((rows.take i).map RB.val) ++ cutR keep torn (wsG [] ((rows.take i).map RB.val)).length [rows[i].val] := by rw [htk, cutR_app, Nat.zero_add]
    have hcn : (wsG [] ((rows.take (i + 1)).map RB.val)).length = (wsG [] ((rows.take i).map RB.val)).length + (if rows[i].safe then 0 else 1) := by
      rw [htk, wsG_app, List.length_append]
      simp only [wsG, List.append_nil, List.nil_append, RB.val]
      by_cases hs : rows[i].safe = true <;> simp [hs]
    have hnn : (wsG [] ((rows.take i).map RB.val)).length ≤ i := by
      have : ∀ (l : List RW) (pre : List RW), (wsG pre l).length ≤ l.length := fun l => by
        induction l with
        | nil => intro pre; simp [wsG]
        | cons x l ih => intro pre; simp only [wsG, List.length_append, List.length_cons]; have := ih (pre ++ [x]); split <;> simp <;> omega
      exact Nat.le_trans (this ((rows.take i).map RB.val) []) (by rw [List.length_map, List.length_take]; omega)
    have hdr := List.drop_eq_getElem_cons hib
    generalize hnv : (wsG [] ((rows.take i).map RB.val)).length = n at *
    rw [hdr] at h
    obtain ⟨g, o, rfl, _⟩ := Rd.at (A := RBL) (l := rows) (a := wa) h (by intro e; rw [e] at hib; simp at hib)
    have ei : idxS 3 (.slice (some ⟨g, o, none⟩) rows.length wc) (.int .i64 (i : Int)) = some (.pointer (some ⟨g, o + i * 3, none⟩)) := by rw [idxS_blk (by omega) (by omega), Int.toNat_natCast]
    -- the box holds what goes behind the row
    have hJ2 : ∀ (p : Nat) (b' : BSl) (sf : Bool) (W' : World), [(⟨rows[i].file, b', true⟩ : RB).val] = cutR keep torn n [rows[i].val] →
        St W0 (cells p [.int .i64 rows[i].file, .slice b'.a b'.bs.length b'.c, .bool sf] T_rostrumref5_write :: arr RBL T_rostrumref5_write a1 c1 acc :: cells q (rdc { r with off := true } (.slice (some ⟨g, o, none⟩) rows.length wc)) T_rostrumref5_Disk :: arr RBL T_rostrumref5_write (some ⟨g, o, none⟩) wc rows :: many fch ((acc ++ (⟨rows[i].file, b', true⟩ : RB) :: rows.drop (i + 1)).map (fun x : RB => x.b)) :: L') W' →
        S.rostrumref5_Disk_Crash.j2 K (.pointer (some ⟨q, 0, none⟩)) (.int .i64 keep) (.int .i64 torn) (.slice a1 acc.length c1) (.int .i64 ((wsG [] ((rows.take (i + 1)).map RB.val)).length : Nat)) (.int .i64 i) (.pointer (some ⟨p, 0, none⟩)) W' := by
      intro p b' sf W' hb h
      unfold S.rostrumref5_Disk_Crash.j2
      (repeat (first | (first | (with_reducible (first | refine w1 fun _ _ => ?_ | refine w3 fun _ _ _ => ?_ | refine w4 fun _ _ _ => ?_ | refine w11 fun _ _ _ => ?_ | refine stb_n ?_)) | ((with_reducible refine w2 ?_); try simp -implicitDefEqProofs only [EN, lsub, lget, stL, beq_self_eq_true, ne_eq, if_true, if_false, List.cons_append, List.nil_append, Option.isNone_some, Option.isNone_none]; intro _ _) | ((with_reducible (first | refine w5 ?_ ?_ | refine w6 ?_ ?_ | refine w7 ?_ ?_)); simp; refine ⟨_, rfl, ?_⟩) | ((with_reducible (first | refine w8 ?_ ?_ ?_ | refine w9 ?_ ?_ ?_ | refine w10 ?_ ?_ ?_)); exact rfl; simp) | ((with_reducible refine w12 ?_ ?_ ?_ fun _ _ => ?_); simp; simp; simp [oneC]) | ((with_reducible (first | refine eqs ?_ | refine nes ?_)); refine ⟨_, rfl, ?_⟩) | ((refine okF_i (bldP_eq rfl) ?_); try simp only [BLS, List.take_succ_cons, List.take_zero, List.drop_succ_cons, List.drop_zero, List.cons_append, List.nil_append, Nat.reduceAdd])) | simp -implicitDefEqProofs only [EN, lsub, lget, stL, beq_self_eq_true, ne_eq, if_true, if_false, List.cons_append, List.nil_append, Option.isNone_some, Option.isNone_none]))
      rename_i W3 h
      (try simp only [BLS, List.take_succ_cons, List.take_zero, List.drop_succ_cons, List.drop_zero, List.cons_append, List.nil_append, List.append_nil, List.take_nil, List.drop_nil, stL, Nat.reduceAdd] at h)
      refine pushA (A := RBL) (⟨rows[i].file, b', true⟩ : RB) (l := acc) (by first | assumption | exact St.tick (by assumption) | exact St.tick (St.tick (by assumption))) rfl rfl (by omega) (by simp only [maxLen]; omega) (by decide) fun a2 c2 W4 h => ?_
      (repeat (first | (first | (with_reducible (first | refine w1 fun _ _ => ?_ | refine w3 fun _ _ _ => ?_ | refine w4 fun _ _ _ => ?_ | refine w11 fun _ _ _ => ?_ | refine stb_n ?_)) | ((with_reducible refine w2 ?_); try simp -implicitDefEqProofs only [EN, lsub, lget, stL, beq_self_eq_true, ne_eq, if_true, if_false, List.cons_append, List.nil_append, Option.isNone_some, Option.isNone_none, ew]; intro _ _) | ((with_reducible (first | refine w5 ?_ ?_ | refine w6 ?_ ?_ | refine w7 ?_ ?_)); simp; refine ⟨_, rfl, ?_⟩) | ((with_reducible (first | refine w8 ?_ ?_ ?_ | refine w9 ?_ ?_ ?_ | refine w10 ?_ ?_ ?_)); exact rfl; simp) | ((with_reducible refine w12 ?_ ?_ ?_ fun _ _ => ?_); simp; simp; simp [oneC]) | ((with_reducible (first | refine eqs ?_ | refine nes ?_)); refine ⟨_, rfl, ?_⟩) | ((refine okF_i (bldP_eq rfl) ?_); try simp only [BLS, List.take_succ_cons, List.take_zero, List.drop_succ_cons, List.drop_zero, List.cons_append, List.nil_append, Nat.reduceAdd])) | simp -implicitDefEqProofs only [EN, lsub, lget, stL, beq_self_eq_true, ne_eq, if_true, if_false, List.cons_append, List.nil_append, Option.isNone_some, Option.isNone_none, ew]))
      refine hK ((a2, c2), acc ++ [⟨rows[i].file, b', true⟩]) _ hib ⟨?_, ?_⟩
      · simp only [List.map_append, List.map_cons, List.map_nil]
        rw [hct, ← hacc, ← hb]
      · rw [List.append_assoc, List.singleton_append]
        exact St.wk h
    clear hK
    (repeat (first | (first | (with_reducible (first | refine w1 fun _ _ => ?_ | refine w3 fun _ _ _ => ?_ | refine w4 fun _ _ _ => ?_ | refine w11 fun _ _ _ => ?_ | refine stb_n ?_)) | ((with_reducible refine w2 ?_); try simp -implicitDefEqProofs only [EN, lsub, lget, stL, beq_self_eq_true, ne_eq, if_true, if_false, List.cons_append, List.nil_append, Option.isNone_some, Option.isNone_none, hlt]; intro _ _) | ((with_reducible (first | refine w5 ?_ ?_ | refine w6 ?_ ?_ | refine w7 ?_ ?_)); simp; refine ⟨_, rfl, ?_⟩) | ((with_reducible (first | refine w8 ?_ ?_ ?_ | refine w9 ?_ ?_ ?_ | refine w10 ?_ ?_ ?_)); exact rfl; simp) | ((with_reducible refine w12 ?_ ?_ ?_ fun _ _ => ?_); simp; simp; simp [oneC]) | ((with_reducible (first | refine eqs ?_ | refine nes ?_)); refine ⟨_, rfl, ?_⟩) | ((refine okF_i (bldP_eq rfl) ?_); try simp only [BLS, List.take_succ_cons, List.take_zero, List.drop_succ_cons, List.drop_zero, List.cons_append, List.nil_append, Nat.reduceAdd])) | simp -implicitDefEqProofs only [EN, lsub, lget, stL, beq_self_eq_true, ne_eq, if_true, if_false, List.cons_append, List.nil_append, Option.isNone_some, Option.isNone_none, hlt]))
    refine ld (b := q) (v := .slice (some ⟨g, o, none⟩) rows.length wc) (by first | assumption | exact St.tick (by assumption) | exact St.tick (St.tick (by assumption))) (rdc_w hl2) (by simp) ?_
    (repeat (first | (first | (with_reducible (first | refine w1 fun _ _ => ?_ | refine w3 fun _ _ _ => ?_ | refine w4 fun _ _ _ => ?_ | refine w11 fun _ _ _ => ?_ | refine stb_n ?_)) | ((with_reducible refine w2 ?_); try simp -implicitDefEqProofs only [EN, lsub, lget, stL, beq_self_eq_true, ne_eq, if_true, if_false, List.cons_append, List.nil_append, Option.isNone_some, Option.isNone_none, ei]; intro _ _) | ((with_reducible (first | refine w5 ?_ ?_ | refine w6 ?_ ?_ | refine w7 ?_ ?_)); simp; refine ⟨_, rfl, ?_⟩) | ((with_reducible (first | refine w8 ?_ ?_ ?_ | refine w9 ?_ ?_ ?_ | refine w10 ?_ ?_ ?_)); exact rfl; simp) | ((with_reducible refine w12 ?_ ?_ ?_ fun _ _ => ?_); simp; simp; simp [oneC]) | ((with_reducible (first | refine eqs ?_ | refine nes ?_)); refine ⟨_, rfl, ?_⟩) | ((refine okF_i (bldP_eq rfl) ?_); try simp only [BLS, List.take_succ_cons, List.take_zero, List.drop_succ_cons, List.drop_zero, List.cons_append, List.nil_append, Nat.reduceAdd])) | simp -implicitDefEqProofs only [EN, lsub, lget, stL, beq_self_eq_true, ne_eq, if_true, if_false, List.cons_append, List.nil_append, Option.isNone_some, Option.isNone_none, ei]))
    refine ldA0 (i := i) (l := rows) (A := RBL) (by first | assumption | exact St.tick (by assumption) | exact St.tick (St.tick (by assumption))) rfl hib (v := .agg #[.int .i64 rows[i].file, .slice rows[i].b.a rows[i].b.bs.length rows[i].b.c, .bool rows[i].safe]) rfl (by simp [RBL]) ?_
    (repeat (first | (first | (with_reducible (first | refine w1 fun _ _ => ?_ | refine w3 fun _ _ _ => ?_ | refine w4 fun _ _ _ => ?_ | refine w11 fun _ _ _ => ?_ | refine stb_n ?_)) | ((with_reducible refine w2 ?_); try simp -implicitDefEqProofs only [EN, lsub, lget, stL, beq_self_eq_true, ne_eq, if_true, if_false, List.cons_append, List.nil_append, Option.isNone_some, Option.isNone_none]; intro _ _) | ((with_reducible (first | refine w5 ?_ ?_ | refine w6 ?_ ?_ | refine w7 ?_ ?_)); simp; refine ⟨_, rfl, ?_⟩) | ((with_reducible (first | refine w8 ?_ ?_ ?_ | refine w9 ?_ ?_ ?_ | refine w10 ?_ ?_ ?_)); exact rfl; simp) | ((with_reducible refine w12 ?_ ?_ ?_ fun _ _ => ?_); simp; simp; simp [oneC]) | ((with_reducible (first | refine eqs ?_ | refine nes ?_)); refine ⟨_, rfl, ?_⟩) | ((refine okF_i (bldP_eq rfl) ?_); try simp only [BLS, List.take_succ_cons, List.take_zero, List.drop_succ_cons, List.drop_zero, List.cons_append, List.nil_append, Nat.reduceAdd])) | simp -implicitDefEqProofs only [EN, lsub, lget, stL, beq_self_eq_true, ne_eq, if_true, if_false, List.cons_append, List.nil_append, Option.isNone_some, Option.isNone_none]))
    refine joinK_i ?_
    rename_i p _ _ W3 h
    (try simp only [BLS, List.take_succ_cons, List.take_zero, List.drop_succ_cons, List.drop_zero, List.cons_append, List.nil_append, List.append_nil, List.take_nil, List.drop_nil, stL, Nat.reduceAdd] at h)
    rw [List.map_append, List.map_cons] at h
    have hput : ∀ (b' : BSl) (W' : World) (T : List Asn), (∀ {L : List Asn}, St W0 (fch rows[i].b :: L) W' → St W0 (fch b' :: L) W') → St W0 (many fch (acc.map (fun x : RB => x.b) ++ rows[i].b :: (rows.drop (i + 1)).map (fun x : RB => x.b)) :: T) W' →
        St W0 (many fch ((acc ++ (⟨rows[i].file, b', true⟩ : RB) :: rows.drop (i + 1)).map (fun x : RB => x.b)) :: T) W' := fun b' W' T hx h => by
      rw [List.map_append, List.map_cons]
      exact many_mid _ _ _ _ hx h
    cases hs : rows[i].safe with
    | true =>
      rw [hs] at hcn
      simp only [if_true, Nat.add_zero] at hcn
      rw [hcn] at hJ2
      rw [hs] at h
      (repeat (first | (first | (with_reducible (first | refine w1 fun _ _ => ?_ | refine w3 fun _ _ _ => ?_ | refine w4 fun _ _ _ => ?_ | refine w11 fun _ _ _ => ?_ | refine stb_n ?_)) | ((with_reducible refine w2 ?_); try simp -implicitDefEqProofs only [EN, lsub, lget, stL, beq_self_eq_true, ne_eq, if_true, if_false, List.cons_append, List.nil_append, Option.isNone_some, Option.isNone_none]; intro _ _) | ((with_reducible (first | refine w5 ?_ ?_ | refine w6 ?_ ?_ | refine w7 ?_ ?_)); simp; refine ⟨_, rfl, ?_⟩) | ((with_reducible (first | refine w8 ?_ ?_ ?_ | refine w9 ?_ ?_ ?_ | refine w10 ?_ ?_ ?_)); exact rfl; simp) | ((with_reducible refine w12 ?_ ?_ ?_ fun _ _ => ?_); simp; simp; simp [oneC]) | ((with_reducible (first | refine eqs ?_ | refine nes ?_)); refine ⟨_, rfl, ?_⟩) | ((refine okF_i (bldP_eq rfl) ?_); try simp only [BLS, List.take_succ_cons, List.take_zero, List.drop_succ_cons, List.drop_zero, List.cons_append, List.nil_append, Nat.reduceAdd])) | simp -implicitDefEqProofs only [EN, lsub, lget, stL, beq_self_eq_true, ne_eq, if_true, if_false, List.cons_append, List.nil_append, Option.isNone_some, Option.isNone_none]))
      refine hJ2 p rows[i].b true _ ?_ ?_
      · simp [cutR, RB.val, hs]
      · have h2 := hput rows[i].b _ _ id (St.wk (L' := many fch (acc.map (fun x : RB => x.b) ++ rows[i].b :: (rows.drop (i + 1)).map (fun x : RB => x.b)) :: cells p [.int .i64 rows[i].file, .slice rows[i].b.a rows[i].b.bs.length rows[i].b.c, .bool true] T_rostrumref5_write :: arr RBL T_rostrumref5_write a1 c1 acc :: cells q (rdc { r with off := true } (.slice (some ⟨g, o, none⟩) rows.length wc)) T_rostrumref5_Disk :: arr RBL T_rostrumref5_write (some ⟨g, o, none⟩) wc rows :: L') h)
        exact St.wk h2
    | false =>
      rw [hs] at hcn
      simp only [Bool.false_eq_true, if_false] at hcn
      rw [hcn] at hJ2
      rw [hs] at h
      have hJ3 : ∀ (b' : BSl) (W' : World), b'.bs = cutb keep torn n rows[i].b.bs → (∀ {L : List Asn}, St W0 (fch rows[i].b :: L) W' → St W0 (fch b' :: L) W') →
          St W0 (cells p [.int .i64 rows[i].file, .slice b'.a b'.bs.length b'.c, .bool false] T_rostrumref5_write :: arr RBL T_rostrumref5_write a1 c1 acc :: cells q (rdc { r with off := true } (.slice (some ⟨g, o, none⟩) rows.length wc)) T_rostrumref5_Disk :: arr RBL T_rostrumref5_write (some ⟨g, o, none⟩) wc rows :: many fch (acc.map (fun x : RB => x.b) ++ rows[i].b :: (rows.drop (i + 1)).map (fun x : RB => x.b)) :: L') W' →
          S.rostrumref5_Disk_Crash.j3 (fun s W => S.rostrumref5_Disk_Crash.j2 K (nthv s 0) (nthv s 1) (nthv s 2) (nthv s 3) (nthv s 4) (nthv s 5) (nthv s 6) W) (.pointer (some ⟨q, 0, none⟩)) (.int .i64 keep) (.int .i64 torn) (.slice a1 acc.length c1) (.int .i64 (n : Int)) (.int .i64 i) (.pointer (some ⟨p, 0, none⟩)) W' := by
        intro b' W' hb hx h
        unfold S.rostrumref5_Disk_Crash.j3
        have en : IntKind.i64.wrap ((n : Int) + 1) = ((n + 1 : Nat) : Int) := by rw [i64w]; omega
        (repeat (first | (first | (with_reducible (first | refine w1 fun _ _ => ?_ | refine w3 fun _ _ _ => ?_ | refine w4 fun _ _ _ => ?_ | refine w11 fun _ _ _ => ?_ | refine stb_n ?_)) | ((with_reducible refine w2 ?_); try simp -implicitDefEqProofs only [EN, lsub, lget, stL, beq_self_eq_true, ne_eq, if_true, if_false, List.cons_append, List.nil_append, Option.isNone_some, Option.isNone_none, en]; intro _ _) | ((with_reducible (first | refine w5 ?_ ?_ | refine w6 ?_ ?_ | refine w7 ?_ ?_)); simp; refine ⟨_, rfl, ?_⟩) | ((with_reducible (first | refine w8 ?_ ?_ ?_ | refine w9 ?_ ?_ ?_ | refine w10 ?_ ?_ ?_)); exact rfl; simp) | ((with_reducible refine w12 ?_ ?_ ?_ fun _ _ => ?_); simp; simp; simp [oneC]) | ((with_reducible (first | refine eqs ?_ | refine nes ?_)); refine ⟨_, rfl, ?_⟩) | ((refine okF_i (bldP_eq rfl) ?_); try simp only [BLS, List.take_succ_cons, List.take_zero, List.drop_succ_cons, List.drop_zero, List.cons_append, List.nil_append, Nat.reduceAdd])) | simp -implicitDefEqProofs only [EN, lsub, lget, stL, beq_self_eq_true, ne_eq, if_true, if_false, List.cons_append, List.nil_append, Option.isNone_some, Option.isNone_none, en]))
        refine hJ2 p b' false _ ?_ ?_
        · simp [cutR, RB.val, hs, hb]
        · have h2 := hput b' _ _ hx (St.wk (L' := many fch (acc.map (fun x : RB => x.b) ++ rows[i].b :: (rows.drop (i + 1)).map (fun x : RB => x.b)) :: cells p [.int .i64 rows[i].file, .slice b'.a b'.bs.length b'.c, .bool false] T_rostrumref5_write :: arr RBL T_rostrumref5_write a1 c1 acc :: cells q (rdc { r with off := true } (.slice (some ⟨g, o, none⟩) rows.length wc)) T_rostrumref5_Disk :: arr RBL T_rostrumref5_write (some ⟨g, o, none⟩) wc rows :: L') h)
          exact St.wk h2
      clear hJ2 hput
      have hnil : ∀ {W' : World} {L : List Asn}, St W0 (fch rows[i].b :: L) W' → St W0 (fch ⟨none, 0, []⟩ :: L) W' := fun h => (h.drop).ent (arr_nil _ _)
      by_cases h1 : (n : Int) < keep
      · have hcb : cutb keep torn n rows[i].b.bs = rows[i].b.bs := by unfold cutb; rw [if_pos h1]
        (repeat (first | (first | (with_reducible (first | refine w1 fun _ _ => ?_ | refine w3 fun _ _ _ => ?_ | refine w4 fun _ _ _ => ?_ | refine w11 fun _ _ _ => ?_ | refine stb_n ?_)) | ((with_reducible refine w2 ?_); try simp -implicitDefEqProofs only [EN, lsub, lget, stL, beq_self_eq_true, ne_eq, if_true, if_false, List.cons_append, List.nil_append, Option.isNone_some, Option.isNone_none]; intro _ _) | ((with_reducible (first | refine w5 ?_ ?_ | refine w6 ?_ ?_ | refine w7 ?_ ?_)); simp; refine ⟨_, rfl, ?_⟩) | ((with_reducible (first | refine w8 ?_ ?_ ?_ | refine w9 ?_ ?_ ?_ | refine w10 ?_ ?_ ?_)); exact rfl; simp) | ((with_reducible refine w12 ?_ ?_ ?_ fun _ _ => ?_); simp; simp; simp [oneC]) | ((with_reducible (first | refine eqs ?_ | refine nes ?_)); refine ⟨_, rfl, ?_⟩) | ((refine okF_i (bldP_eq rfl) ?_); try simp only [BLS, List.take_succ_cons, List.take_zero, List.drop_succ_cons, List.drop_zero, List.cons_append, List.nil_append, Nat.reduceAdd])) | simp -implicitDefEqProofs only [EN, lsub, lget, stL, beq_self_eq_true, ne_eq, if_true, if_false, List.cons_append, List.nil_append, Option.isNone_some, Option.isNone_none]))
        refine joinK_i ?_
        (repeat (first | (first | (with_reducible (first | refine w1 fun _ _ => ?_ | refine w3 fun _ _ _ => ?_ | refine w4 fun _ _ _ => ?_ | refine w11 fun _ _ _ => ?_ | refine stb_n ?_)) | ((with_reducible refine w2 ?_); try simp -implicitDefEqProofs only [EN, lsub, lget, stL, beq_self_eq_true, ne_eq, if_true, if_false, List.cons_append, List.nil_append, Option.isNone_some, Option.isNone_none, h1]; intro _ _) | ((with_reducible (first | refine w5 ?_ ?_ | refine w6 ?_ ?_ | refine w7 ?_ ?_)); simp; refine ⟨_, rfl, ?_⟩) | ((with_reducible (first | refine w8 ?_ ?_ ?_ | refine w9 ?_ ?_ ?_ | refine w10 ?_ ?_ ?_)); exact rfl; simp) | ((with_reducible refine w12 ?_ ?_ ?_ fun _ _ => ?_); simp; simp; simp [oneC]) | ((with_reducible (first | refine eqs ?_ | refine nes ?_)); refine ⟨_, rfl, ?_⟩) | ((refine okF_i (bldP_eq rfl) ?_); try simp only [BLS, List.take_succ_cons, List.take_zero, List.drop_succ_cons, List.drop_zero, List.cons_append, List.nil_append, Nat.reduceAdd])) | simp -implicitDefEqProofs only [EN, lsub, lget, stL, beq_self_eq_true, ne_eq, if_true, if_false, List.cons_append, List.nil_append, Option.isNone_some, Option.isNone_none, h1]))
        exact hJ3 rows[i].b _ hcb.symm id (by first | assumption | exact St.tick (by assumption) | exact St.tick (St.tick (by assumption)))
      by_cases h2 : (n : Int) = keep
      · by_cases h3 : 0 < torn
        · have e2 := decide_eq_true h2
          by_cases h4 : torn < (rows[i].b.bs.length : Int)
          · have hcb : cutb keep torn n rows[i].b.bs = rows[i].b.bs.take torn.toNat := by unfold cutb; rw [if_neg h1, if_pos ⟨h2, h3⟩, if_pos h4]
            obtain ⟨t, rfl⟩ : ∃ t : Nat, torn = (t : Int) := ⟨torn.toNat, by omega⟩
            rw [Int.toNat_natCast] at hcb
            have hlc : rows[i].b.bs.length ≤ rows[i].b.c := by
              have h5 := (St.wk (L' := many fch (acc.map (fun x : RB => x.b) ++ rows[i].b :: (rows.drop (i + 1)).map (fun x : RB => x.b)) :: L') h).ent ((many_perm (F := fch) (List.perm_middle (a := rows[i].b) (l₁ := acc.map (fun x : RB => x.b)) (l₂ := (rows.drop (i + 1)).map (fun x : RB => x.b)))).trans (many_cons _ _))
              exact (show St W0 (arr B8 T_uint8 rows[i].b.a rows[i].b.c rows[i].b.bs :: _) _ from h5).arrFacts.1
            have esl := slcS_take (a := rows[i].b.a) (n := rows[i].b.bs.length) (c := rows[i].b.c) (i := t) (k := .i64) (by omega)
            have hlt3 : (rows[i].b.bs.take t).length = t := by rw [List.length_take]; omega
            (repeat (first | (first | (with_reducible (first | refine w1 fun _ _ => ?_ | refine w3 fun _ _ _ => ?_ | refine w4 fun _ _ _ => ?_ | refine w11 fun _ _ _ => ?_ | refine stb_n ?_)) | ((with_reducible refine w2 ?_); try simp -implicitDefEqProofs only [EN, lsub, lget, stL, beq_self_eq_true, ne_eq, if_true, if_false, List.cons_append, List.nil_append, Option.isNone_some, Option.isNone_none]; intro _ _) | ((with_reducible (first | refine w5 ?_ ?_ | refine w6 ?_ ?_ | refine w7 ?_ ?_)); simp; refine ⟨_, rfl, ?_⟩) | ((with_reducible (first | refine w8 ?_ ?_ ?_ | refine w9 ?_ ?_ ?_ | refine w10 ?_ ?_ ?_)); exact rfl; simp) | ((with_reducible refine w12 ?_ ?_ ?_ fun _ _ => ?_); simp; simp; simp [oneC]) | ((with_reducible (first | refine eqs ?_ | refine nes ?_)); refine ⟨_, rfl, ?_⟩) | ((refine okF_i (bldP_eq rfl) ?_); try simp only [BLS, List.take_succ_cons, List.take_zero, List.drop_succ_cons, List.drop_zero, List.cons_append, List.nil_append, Nat.reduceAdd])) | simp -implicitDefEqProofs only [EN, lsub, lget, stL, beq_self_eq_true, ne_eq, if_true, if_false, List.cons_append, List.nil_append, Option.isNone_some, Option.isNone_none]))
            refine joinK_i ?_
            (repeat (first | (first | (with_reducible (first | refine w1 fun _ _ => ?_ | refine w3 fun _ _ _ => ?_ | refine w4 fun _ _ _ => ?_ | refine w11 fun _ _ _ => ?_ | refine stb_n ?_)) | ((with_reducible refine w2 ?_); try simp -implicitDefEqProofs only [EN, lsub, lget, stL, beq_self_eq_true, ne_eq, if_true, if_false, List.cons_append, List.nil_append, Option.isNone_some, Option.isNone_none, h1, e2, h3, h4, esl]; intro _ _) | ((with_reducible (first | refine w5 ?_ ?_ | refine w6 ?_ ?_ | refine w7 ?_ ?_)); simp; refine ⟨_, rfl, ?_⟩) | ((with_reducible (first | refine w8 ?_ ?_ ?_ | refine w9 ?_ ?_ ?_ | refine w10 ?_ ?_ ?_)); exact rfl; simp) | ((with_reducible refine w12 ?_ ?_ ?_ fun _ _ => ?_); simp; simp; simp [oneC]) | ((with_reducible (first | refine eqs ?_ | refine nes ?_)); refine ⟨_, rfl, ?_⟩) | ((refine okF_i (bldP_eq rfl) ?_); try simp only [BLS, List.take_succ_cons, List.take_zero, List.drop_succ_cons, List.drop_zero, List.cons_append, List.nil_append, Nat.reduceAdd])) | simp -implicitDefEqProofs only [EN, lsub, lget, stL, beq_self_eq_true, ne_eq, if_true, if_false, List.cons_append, List.nil_append, Option.isNone_some, Option.isNone_none, h1, e2, h3, h4, esl]))
            rename_i h
            (try simp only [BLS, List.take_succ_cons, List.take_zero, List.drop_succ_cons, List.drop_zero, List.cons_append, List.nil_append, List.append_nil, List.take_nil, List.drop_nil, stL, Nat.reduceAdd] at h)
            refine hJ3 ⟨rows[i].b.a, rows[i].b.c, rows[i].b.bs.take t⟩ _ hcb.symm (fun h => h.weak fun p hp => arr_take t p hp) ?_
            simp only [hlt3]
            exact h
          · have hcb : cutb keep torn n rows[i].b.bs = rows[i].b.bs := by unfold cutb; rw [if_neg h1, if_pos ⟨h2, h3⟩, if_neg h4]
            (repeat (first | (first | (with_reducible (first | refine w1 fun _ _ => ?_ | refine w3 fun _ _ _ => ?_ | refine w4 fun _ _ _ => ?_ | refine w11 fun _ _ _ => ?_ | refine stb_n ?_)) | ((with_reducible refine w2 ?_); try simp -implicitDefEqProofs only [EN, lsub, lget, stL, beq_self_eq_true, ne_eq, if_true, if_false, List.cons_append, List.nil_append, Option.isNone_some, Option.isNone_none]; intro _ _) | ((with_reducible (first | refine w5 ?_ ?_ | refine w6 ?_ ?_ | refine w7 ?_ ?_)); simp; refine ⟨_, rfl, ?_⟩) | ((with_reducible (first | refine w8 ?_ ?_ ?_ | refine w9 ?_ ?_ ?_ | refine w10 ?_ ?_ ?_)); exact rfl; simp) | ((with_reducible refine w12 ?_ ?_ ?_ fun _ _ => ?_); simp; simp; simp [oneC]) | ((with_reducible (first | refine eqs ?_ | refine nes ?_)); refine ⟨_, rfl, ?_⟩) | ((refine okF_i (bldP_eq rfl) ?_); try simp only [BLS, List.take_succ_cons, List.take_zero, List.drop_succ_cons, List.drop_zero, List.cons_append, List.nil_append, Nat.reduceAdd])) | simp -implicitDefEqProofs only [EN, lsub, lget, stL, beq_self_eq_true, ne_eq, if_true, if_false, List.cons_append, List.nil_append, Option.isNone_some, Option.isNone_none]))
            refine joinK_i ?_
            (repeat (first | (first | (with_reducible (first | refine w1 fun _ _ => ?_ | refine w3 fun _ _ _ => ?_ | refine w4 fun _ _ _ => ?_ | refine w11 fun _ _ _ => ?_ | refine stb_n ?_)) | ((with_reducible refine w2 ?_); try simp -implicitDefEqProofs only [EN, lsub, lget, stL, beq_self_eq_true, ne_eq, if_true, if_false, List.cons_append, List.nil_append, Option.isNone_some, Option.isNone_none, h1, e2, h3, h4]; intro _ _) | ((with_reducible (first | refine w5 ?_ ?_ | refine w6 ?_ ?_ | refine w7 ?_ ?_)); simp; refine ⟨_, rfl, ?_⟩) | ((with_reducible (first | refine w8 ?_ ?_ ?_ | refine w9 ?_ ?_ ?_ | refine w10 ?_ ?_ ?_)); exact rfl; simp) | ((with_reducible refine w12 ?_ ?_ ?_ fun _ _ => ?_); simp; simp; simp [oneC]) | ((with_reducible (first | refine eqs ?_ | refine nes ?_)); refine ⟨_, rfl, ?_⟩) | ((refine okF_i (bldP_eq rfl) ?_); try simp only [BLS, List.take_succ_cons, List.take_zero, List.drop_succ_cons, List.drop_zero, List.cons_append, List.nil_append, Nat.reduceAdd])) | simp -implicitDefEqProofs only [EN, lsub, lget, stL, beq_self_eq_true, ne_eq, if_true, if_false, List.cons_append, List.nil_append, Option.isNone_some, Option.isNone_none, h1, e2, h3, h4]))
            exact hJ3 rows[i].b _ hcb.symm id (by first | assumption | exact St.tick (by assumption) | exact St.tick (St.tick (by assumption)))
        · have e2 := decide_eq_true h2
          have hcb : cutb keep torn n rows[i].b.bs = [] := by unfold cutb; rw [if_neg h1, if_neg fun e => h3 e.2]
          (repeat (first | (first | (with_reducible (first | refine w1 fun _ _ => ?_ | refine w3 fun _ _ _ => ?_ | refine w4 fun _ _ _ => ?_ | refine w11 fun _ _ _ => ?_ | refine stb_n ?_)) | ((with_reducible refine w2 ?_); try simp -implicitDefEqProofs only [EN, lsub, lget, stL, beq_self_eq_true, ne_eq, if_true, if_false, List.cons_append, List.nil_append, Option.isNone_some, Option.isNone_none]; intro _ _) | ((with_reducible (first | refine w5 ?_ ?_ | refine w6 ?_ ?_ | refine w7 ?_ ?_)); simp; refine ⟨_, rfl, ?_⟩) | ((with_reducible (first | refine w8 ?_ ?_ ?_ | refine w9 ?_ ?_ ?_ | refine w10 ?_ ?_ ?_)); exact rfl; simp) | ((with_reducible refine w12 ?_ ?_ ?_ fun _ _ => ?_); simp; simp; simp [oneC]) | ((with_reducible (first | refine eqs ?_ | refine nes ?_)); refine ⟨_, rfl, ?_⟩) | ((refine okF_i (bldP_eq rfl) ?_); try simp only [BLS, List.take_succ_cons, List.take_zero, List.drop_succ_cons, List.drop_zero, List.cons_append, List.nil_append, Nat.reduceAdd])) | simp -implicitDefEqProofs only [EN, lsub, lget, stL, beq_self_eq_true, ne_eq, if_true, if_false, List.cons_append, List.nil_append, Option.isNone_some, Option.isNone_none]))
          refine joinK_i ?_
          (repeat (first | (first | (with_reducible (first | refine w1 fun _ _ => ?_ | refine w3 fun _ _ _ => ?_ | refine w4 fun _ _ _ => ?_ | refine w11 fun _ _ _ => ?_ | refine stb_n ?_)) | ((with_reducible refine w2 ?_); try simp -implicitDefEqProofs only [EN, lsub, lget, stL, beq_self_eq_true, ne_eq, if_true, if_false, List.cons_append, List.nil_append, Option.isNone_some, Option.isNone_none, h1, e2, h3]; intro _ _) | ((with_reducible (first | refine w5 ?_ ?_ | refine w6 ?_ ?_ | refine w7 ?_ ?_)); simp; refine ⟨_, rfl, ?_⟩) | ((with_reducible (first | refine w8 ?_ ?_ ?_ | refine w9 ?_ ?_ ?_ | refine w10 ?_ ?_ ?_)); exact rfl; simp) | ((with_reducible refine w12 ?_ ?_ ?_ fun _ _ => ?_); simp; simp; simp [oneC]) | ((with_reducible (first | refine eqs ?_ | refine nes ?_)); refine ⟨_, rfl, ?_⟩) | ((refine okF_i (bldP_eq rfl) ?_); try simp only [BLS, List.take_succ_cons, List.take_zero, List.drop_succ_cons, List.drop_zero, List.cons_append, List.nil_append, Nat.reduceAdd])) | simp -implicitDefEqProofs only [EN, lsub, lget, stL, beq_self_eq_true, ne_eq, if_true, if_false, List.cons_append, List.nil_append, Option.isNone_some, Option.isNone_none, h1, e2, h3]))
          exact hJ3 ⟨none, 0, []⟩ _ hcb.symm hnil (by first | assumption | exact St.tick (by assumption) | exact St.tick (St.tick (by assumption)))
      · have e2 := decide_eq_false h2
        have hcb : cutb keep torn n rows[i].b.bs = [] := by unfold cutb; rw [if_neg h1, if_neg fun e => h2 e.1]
        (repeat (first | (first | (with_reducible (first | refine w1 fun _ _ => ?_ | refine w3 fun _ _ _ => ?_ | refine w4 fun _ _ _ => ?_ | refine w11 fun _ _ _ => ?_ | refine stb_n ?_)) | ((with_reducible refine w2 ?_); try simp -implicitDefEqProofs only [EN, lsub, lget, stL, beq_self_eq_true, ne_eq, if_true, if_false, List.cons_append, List.nil_append, Option.isNone_some, Option.isNone_none]; intro _ _) | ((with_reducible (first | refine w5 ?_ ?_ | refine w6 ?_ ?_ | refine w7 ?_ ?_)); simp; refine ⟨_, rfl, ?_⟩) | ((with_reducible (first | refine w8 ?_ ?_ ?_ | refine w9 ?_ ?_ ?_ | refine w10 ?_ ?_ ?_)); exact rfl; simp) | ((with_reducible refine w12 ?_ ?_ ?_ fun _ _ => ?_); simp; simp; simp [oneC]) | ((with_reducible (first | refine eqs ?_ | refine nes ?_)); refine ⟨_, rfl, ?_⟩) | ((refine okF_i (bldP_eq rfl) ?_); try simp only [BLS, List.take_succ_cons, List.take_zero, List.drop_succ_cons, List.drop_zero, List.cons_append, List.nil_append, Nat.reduceAdd])) | simp -implicitDefEqProofs only [EN, lsub, lget, stL, beq_self_eq_true, ne_eq, if_true, if_false, List.cons_append, List.nil_append, Option.isNone_some, Option.isNone_none]))
        refine joinK_i ?_
        (repeat (first | (first | (with_reducible (first | refine w1 fun _ _ => ?_ | refine w3 fun _ _ _ => ?_ | refine w4 fun _ _ _ => ?_ | refine w11 fun _ _ _ => ?_ | refine stb_n ?_)) | ((with_reducible refine w2 ?_); try simp -implicitDefEqProofs only [EN, lsub, lget, stL, beq_self_eq_true, ne_eq, if_true, if_false, List.cons_append, List.nil_append, Option.isNone_some, Option.isNone_none, h1, e2]; intro _ _) | ((with_reducible (first | refine w5 ?_ ?_ | refine w6 ?_ ?_ | refine w7 ?_ ?_)); simp; refine ⟨_, rfl, ?_⟩) | ((with_reducible (first | refine w8 ?_ ?_ ?_ | refine w9 ?_ ?_ ?_ | refine w10 ?_ ?_ ?_)); exact rfl; simp) | ((with_reducible refine w12 ?_ ?_ ?_ fun _ _ => ?_); simp; simp; simp [oneC]) | ((with_reducible (first | refine eqs ?_ | refine nes ?_)); refine ⟨_, rfl, ?_⟩) | ((refine okF_i (bldP_eq rfl) ?_); try simp only [BLS, List.take_succ_cons, List.take_zero, List.drop_succ_cons, List.drop_zero, List.cons_append, List.nil_append, Nat.reduceAdd])) | simp -implicitDefEqProofs only [EN, lsub, lget, stL, beq_self_eq_true, ne_eq, if_true, if_false, List.cons_append, List.nil_append, Option.isNone_some, Option.isNone_none, h1, e2]))
        exact hJ3 ⟨none, 0, []⟩ _ hcb.symm hnil (by first | assumption | exact St.tick (by assumption) | exact St.tick (St.tick (by assumption)))
  · have hil : i = rows.length := by omega
    subst hil
    rw [List.take_length, hw] at hacc
    rw [List.drop_length, List.append_nil] at h
    (repeat (first | (first | (with_reducible (first | refine w1 fun _ _ => ?_ | refine w3 fun _ _ _ => ?_ | refine w4 fun _ _ _ => ?_ | refine w11 fun _ _ _ => ?_ | refine stb_n ?_)) | ((with_reducible refine w2 ?_); try simp -implicitDefEqProofs only [EN, lsub, lget, stL, beq_self_eq_true, ne_eq, if_true, if_false, List.cons_append, List.nil_append, Option.isNone_some, Option.isNone_none, hlt]; intro _ _) | ((with_reducible (first | refine w5 ?_ ?_ | refine w6 ?_ ?_ | refine w7 ?_ ?_)); simp; refine ⟨_, rfl, ?_⟩) | ((with_reducible (first | refine w8 ?_ ?_ ?_ | refine w9 ?_ ?_ ?_ | refine w10 ?_ ?_ ?_)); exact rfl; simp) | ((with_reducible refine w12 ?_ ?_ ?_ fun _ _ => ?_); simp; simp; simp [oneC]) | ((with_reducible (first | refine eqs ?_ | refine nes ?_)); refine ⟨_, rfl, ?_⟩) | ((refine okF_i (bldP_eq rfl) ?_); try simp only [BLS, List.take_succ_cons, List.take_zero, List.drop_succ_cons, List.drop_zero, List.cons_append, List.nil_append, Nat.reduceAdd])) | simp -implicitDefEqProofs only [EN, lsub, lget, stL, beq_self_eq_true, ne_eq, if_true, if_false, List.cons_append, List.nil_append, Option.isNone_some, Option.isNone_none, hlt]))
    unfold S.rostrumref5_Disk_Crash.j1
    (repeat (first | (first | (with_reducible (first | refine w1 fun _ _ => ?_ | refine w3 fun _ _ _ => ?_ | refine w4 fun _ _ _ => ?_ | refine w11 fun _ _ _ => ?_ | refine stb_n ?_)) | ((with_reducible refine w2 ?_); try simp -implicitDefEqProofs only [EN, lsub, lget, stL, beq_self_eq_true, ne_eq, if_true, if_false, List.cons_append, List.nil_append, Option.isNone_some, Option.isNone_none]; intro _ _) | ((with_reducible (first | refine w5 ?_ ?_ | refine w6 ?_ ?_ | refine w7 ?_ ?_)); simp; refine ⟨_, rfl, ?_⟩) | ((with_reducible (first | refine w8 ?_ ?_ ?_ | refine w9 ?_ ?_ ?_ | refine w10 ?_ ?_ ?_)); exact rfl; simp) | ((with_reducible refine w12 ?_ ?_ ?_ fun _ _ => ?_); simp; simp; simp [oneC]) | ((with_reducible (first | refine eqs ?_ | refine nes ?_)); refine ⟨_, rfl, ?_⟩) | ((refine okF_i (bldP_eq rfl) ?_); try simp only [BLS, List.take_succ_cons, List.take_zero, List.drop_succ_cons, List.drop_zero, List.cons_append, List.nil_append, Nat.reduceAdd])) | simp -implicitDefEqProofs only [EN, lsub, lget, stL, beq_self_eq_true, ne_eq, if_true, if_false, List.cons_append, List.nil_append, Option.isNone_some, Option.isNone_none]))
    refine sto (b := q) (cs := rdc { r with off := true } (.slice wa rows.length wc)) (by first | assumption | exact St.tick (by assumption) | exact St.tick (St.tick (by assumption))) rfl (by rw [rdc_len (r := { r with off := true }) hl]; exact (by decide : 1001 + 1 ≤ 1004)) rfl fun W9 h => ?_
    rw [show vcells (.slice a1 acc.length c1) = [.slice a1 acc.length c1] from rfl, rdc_setw (r := { r with off := true }) hl] at h
    have e6 : ∀ v, rdc { r with off := true } v = rdc (r.crash keep torn) v := fun v => by unfold rdc; rfl
    rw [e6] at h
    have h : St W0 (cells q (rdc (r.crash keep torn) (.slice a1 acc.length c1)) T_rostrumref5_Disk :: arr RBL T_rostrumref5_write a1 c1 acc :: many fch (acc.map (fun x : RB => x.b)) :: L') W9 := St.wk h
    exact hk _ (h.ent (rk_ent (r := r.crash keep torn) hacc hl))
end
end Go.Proofs.Ythladblmjoaeoaa
