/- Texts of the claim ExecPlays, joined: CR21, CR22, CR23, CR24, CR25, CR26, CR27, CR28, ShP23, LExe6. -/
import Derived.Test.YtkjhccpanedccaaGreatBExecPlays8
import Derived.Test.YtkjhccpanedccaaGreatBExecPlays7
import Derived.Test.YtkjhccpanedccaaGreatBExecPlays1
namespace Go.Proofs.YtkjhccpanedccaaGreat
set_option linter.unusedVariables false
set_option linter.unusedSimpArgs false
open Go Go.Eng Go.Tar Go.Sort
theorem tw_eq {α : Type} {p : α → Bool} : ∀ {g : List α} {n : Nat}, n ≤ g.length → (∀ j (hj : j < g.length), j < n → p g[j] = true) → (∀ h : n < g.length, p g[n] = false) → g.takeWhile p = g.take n ∧ g.dropWhile p = g.drop n
 | [], n, hn, _, _ => by simp
 | x :: g, 0, _, _, h => by
  have := h (by simp)
  simp only [List.getElem_cons_zero] at this
  simp [this]
 | x :: g, n + 1, hn, h1, h2 => by
  have h0 := h1 0 (by simp) (by omega)
  simp only [List.getElem_cons_zero] at h0
  have ih := tw_eq (g := g) (n := n) (p := p) (by simpa using hn) (fun j hj hjn => h1 (j + 1) (by simpa using hj) (by omega)) (fun h => h2 (by simpa using h))
  simp [h0, ih.1, ih.2]
section
variable {α : Type} {A : Ly α} {t ts : TypeId} {W0 W : World} {L L' : List Asn} {a : Option Addr} {c : Nat} {vs : List (List α)}
theorem lg_snoc {rows : List (GSl α)} {y : GSl α} (hr : rows.map (·.l) = vs) (h : St W0 (arr GSY ts a c (rows ++ [y]) :: gch A t y :: many (gch A t) rows :: L) W) : St W0 (LG A t ts a c (vs ++ [y.l]) :: L) W :=
 (h.ent (ent.cons _ ((many_uncons (F := gch A t) y rows).trans (many_perm (F := gch A t) (List.perm_append_comm (l₁ := [y]) (l₂ := rows)))))).ent (lg_ent (by rw [List.map_append, hr]; rfl))
end
abbrev LGI (a : Option Addr) (c : Nat) (vs : List (List Ins)) : Asn := LG INS T_rostrumref18_Inst T_s_rostrumref18_Inst a c vs
def dnW (K : List Ins) (i k b : Nat) : Bool := doneR K i b || (decide (b < k) && memG K i b)
theorem tb_at2 {f : Nat → Nat → Bool} {r n i : Nat} {rows : List (GSl Bool)} (hrows : rows.map (·.l) = tbl r f n) (hi : i < n) (hr : i < r) : ∃ h : i < rows.length, rows[i].l = (List.range n).map (f i) := by
 have hl : rows.length = n := by have := congrArg List.length hrows; simpa [tbl_len] using this
 refine ⟨by omega, ?_⟩
 have : rows[i].l = (rows.map (·.l))[i]'(by simp; omega) := by simp
 rw [this]
 simp only [hrows]
 exact tbl_row hi hr
section
variable {W0 W : World} {L L' : List Asn} {k : Value → World → Prop}
theorem grpR_len (K : List Ins) (i k : Nat) : (grpR K i k).length ≤ k := by
 induction k with
 | zero => simp [grpR]
 | succ k ih =>
  unfold grpR
  split
  ·unfold insR
   have := congrArg List.length (List.takeWhile_append_dropWhile (p := fun y => decide (insLt y (K.getD k default))) (l := grpR K i k))
   rw [List.length_append] at this
   simp only [List.length_append, List.length_cons]
   omega
  ·omega
theorem groupsR_len (K : List Ins) (i : Nat) : (groupsR K i).length ≤ i := by
 induction i with
 | zero => simp [groupsR]
 | succ i ih =>
  unfold groupsR
  split
  ·omega
  ·simp; omega
set_option maxRecDepth 100000 in
set_option maxHeartbeats 8000000 in
theorem rIns {x0 x1 x5 x6 x7 : Value} {J : List Value → World → Prop} {k n : Nat} {a ga : Option Addr} {c gc : Nat} {l g : List Ins} (hkl : k < l.length) (hl : l.length ≤ 1000) (hg : g.length ≤ 1000) (h : St W0 (arr INS T_rostrumref18_Inst ga gc g :: L) W) [hr : Rd W0 L a INS l] {j : Nat} (hj : j ≤ g.length)
  (e1 : g.takeWhile (fun y => decide (insLt y l[k])) = g.take j) (e2 : g.dropWhile (fun y => decide (insLt y l[k])) = g.drop j)
  (hk : ∀ a' c' W', St W0 (arr INS T_rostrumref18_Inst a' c' (insR l[k] g) :: L) W' → J [x0, x1, x5, x6, x7, .slice a' (insR l[k] g).length c', .int .i64 (k : Int)] W') (hx0 : x0 = .slice a l.length c) :
  S.rostrumref18_groups.j5 J x0 x1 x5 x6 x7 (.slice ga g.length gc) (.int .i64 (k : Int)) (.int .i64 (j : Int)) W := by
 subst hx0
 have hgc := h.arrFacts.1
 unfold insR at hk
 rw [e1, e2] at hk
 unfold S.rostrumref18_groups.j5
 refine slcR (A := INS) (a := ga) (l := g) (by first | assumption | exact St.tick (by assumption) | exact St.tick (St.tick (by assumption))) rfl rfl (bnd_nat (by omega)) bnd_none (Nat.zero_le _) hj hgc fun a1 c1 hr1 => ?_
 rw [List.drop_zero] at hr1 ⊢
 refine ixA (i := k) (a := a) (l := l) (A := INS) (by first | assumption | exact St.tick (by assumption) | exact St.tick (St.tick (by assumption))) rfl rfl hkl fun g3 o3 ha => ?_
 subst ha
 refine ldA0 (i := k) (l := l) (A := INS) (by first | assumption | exact St.tick (by assumption) | exact St.tick (St.tick (by assumption))) rfl hkl (v := .agg (INS.row l[k]).toArray) rfl (by simp [INS]) ?_
 refine slcR (A := INS) (a := ga) (l := g) (by first | assumption | exact St.tick (by assumption) | exact St.tick (St.tick (by assumption))) rfl rfl bnd_none (bnd_nat hj) hj (Nat.le_refl _) hgc fun a2 c2 hr2 => ?_
 rw [List.take_length] at hr2 ⊢
 rw [show (INS.row l[k]).toArray = #[.int .i64 (l[k].d).rep, .int .i64 (l[k].d).n, .int .i64 l[k].s, .int .i64 (l[k].v).x0, .int .i64 (l[k].v).x1, .int .i64 (l[k].v).x2, .int .i64 (l[k].v).x3, .int .i64 (l[k].v).x4, .int .i64 (l[k].v).x5, .int .i64 (l[k].v).x6] from rfl]
 have eld : ∀ {w : World} {M : List Asn}, St W0 M w → ∀ [Rd W0 M (some ⟨g3, o3, none⟩) INS l], ∀ {R : World → Prop}, R w → stb PR [(8, true, (Instr.loadAt T_rostrumref18_Inst (.pointer (some ⟨g3, o3 + k * 10, none⟩))), .agg #[.int .i64 (l[k].d).rep, .int .i64 (l[k].d).n, .int .i64 l[k].s, .int .i64 (l[k].v).x0, .int .i64 (l[k].v).x1, .int .i64 (l[k].v).x2, .int .i64 (l[k].v).x3, .int .i64 (l[k].v).x4, .int .i64 (l[k].v).x5, .int .i64 (l[k].v).x6])] R w := fun h _ _ hR =>
  stb_ldA0 (i := k) (l := l) (A := INS) h rfl hkl (v := .agg #[.int .i64 (l[k].d).rep, .int .i64 (l[k].d).n, .int .i64 l[k].s, .int .i64 (l[k].v).x0, .int .i64 (l[k].v).x1, .int .i64 (l[k].v).x2, .int .i64 (l[k].v).x3, .int .i64 (l[k].v).x4, .int .i64 (l[k].v).x5, .int .i64 (l[k].v).x6]) rfl (by simp [INS]) (stb_n hR)
 have fin : ∀ a' c' W', St W0 (arr INS T_rostrumref18_Inst a' c' (g.take j ++ [l[k]] ++ g.drop j) :: L) W' → J [.slice (some ⟨g3, o3, none⟩) l.length c, x1, x5, x6, x7, .slice a' (g.take j ++ [l[k]] ++ g.drop j).length c', .int .i64 (k : Int)] W' := fun a' c' W' h => by
  have e : g.take j ++ [l[k]] ++ g.drop j = g.take j ++ l[k] :: g.drop j := by simp
  rw [e] at h ⊢
  exact hk a' c' W' h
 have hl1 : (g.take j).length ≤ 1000 := by simp; omega
 have hl2 : (g.drop j).length ≤ 1000 := by simp; omega
 have hl3 : (g.take j ++ [l[k]]).length ≤ 1001 := by rw [List.length_append]; simp only [List.length_cons, List.length_nil]; omega
 generalize l[k] = x at *
 generalize g.take j = g1 at *
 generalize g.drop j = g2 at *
 refine ⟨?_, ?_⟩
 ·refine bs0 INS (by first | assumption | exact St.tick (by assumption) | exact St.tick (St.tick (by assumption))) fun a3 c3 W3 h => ?_
  refine eld h ?_
  refine ⟨?_, ?_⟩
  ·refine appA (A := INS) (a := a3) (l := []) (m := g1) h rfl (by simp only [List.length_nil]; omega) (by simp only [List.length_nil, maxLen]; omega) fun a4 c4 W4 h => ?_
   rw [List.nil_append] at h ⊢
   refine eld h ?_
   refine bsA INS [x] (n := 1) h rfl rfl (by decide) (by decide) rfl fun a5 c5 W5 h => ?_
   refine appA (A := INS) (a := a4) (l := g1) (m := [x]) h rfl (by simp only [List.length_cons, List.length_nil]; omega) (by simp only [List.length_cons, List.length_nil, maxLen]; omega) fun a6 c6 W6 h => ?_
   refine appA (A := INS) (a := a6) (l := g1 ++ [x]) (m := g2) h rfl (by omega) (by simp only [maxLen]; omega) fun a7 c7 W7 h => ?_
   exact fin _ _ _ (St.wk h)
  ·refine bsA INS [x] (n := 1) h rfl rfl (by decide) (by decide) rfl fun a5 c5 W5 h => ?_
   refine appA (A := INS) (a := a3) (l := []) (m := g1) h rfl (by simp only [List.length_nil]; omega) (by simp only [List.length_nil, maxLen]; omega) fun a4 c4 W4 h => ?_
   rw [List.nil_append] at h ⊢
   refine appA (A := INS) (a := a4) (l := g1) (m := [x]) h rfl (by simp only [List.length_cons, List.length_nil]; omega) (by simp only [List.length_cons, List.length_nil, maxLen]; omega) fun a6 c6 W6 h => ?_
   refine appA (A := INS) (a := a6) (l := g1 ++ [x]) (m := g2) h rfl (by omega) (by simp only [maxLen]; omega) fun a7 c7 W7 h => ?_
   exact fin _ _ _ (St.wk h)
 ·refine bsA INS [x] (n := 1) (by first | assumption | exact St.tick (by assumption) | exact St.tick (St.tick (by assumption))) rfl rfl (by decide) (by decide) rfl fun a5 c5 W5 h => ?_
  refine bs0 INS h fun a3 c3 W3 h => ?_
  refine appA (A := INS) (a := a3) (l := []) (m := g1) h rfl (by simp only [List.length_nil]; omega) (by simp only [List.length_nil, maxLen]; omega) fun a4 c4 W4 h => ?_
  rw [List.nil_append] at h ⊢
  refine appA (A := INS) (a := a4) (l := g1) (m := [x]) h rfl (by simp only [List.length_cons, List.length_nil]; omega) (by simp only [List.length_cons, List.length_nil, maxLen]; omega) fun a6 c6 W6 h => ?_
  refine appA (A := INS) (a := a6) (l := g1 ++ [x]) (m := g2) h rfl (by omega) (by simp only [maxLen]; omega) fun a7 c7 W7 h => ?_
  exact fin _ _ _ (St.wk h)
end
end Go.Proofs.YtkjhccpanedccaaGreat
namespace Go.Proofs.YtkjhccpanedccaaGreat
set_option linter.unusedVariables false
set_option linter.unusedSimpArgs false
open Go Go.Eng Go.Tar Go.Sort
section
variable {W0 W : World} {L L' : List Asn} {k : Value → World → Prop}
set_option maxRecDepth 100000 in
set_option maxHeartbeats 8000000 in
theorem rGroups {a ta : Option Addr} {c tc : Nat} {l : List Ins} (h : St W0 (TB ta tc l.length (tab l) l.length :: L) W) [hr : Rd W0 L a INS l] (hl : l.length ≤ 1000)
  (hk : ∀ a' c' W', St W0 (LGI a' c' (groupsR l l.length) :: TB ta tc l.length (tab l) l.length :: L) W' → k (.slice a' (groupsR l l.length).length c') W') : callK PR F_rostrumref18_groups [.slice a l.length c, .slice ta l.length tc] k W := by
 apply S.rostrumref18_groups.call
 unfold S.rostrumref18_groups.body
 (repeat simp -implicitDefEqProofs only [SE, SU, SV])
 refine mkB h (by omega) fun da dc W1 h => ?_
 refine joinK_i ?_
 have h0 : List.replicate l.length false = (List.range l.length).map (doneR l 0) := by apply List.ext_getElem <;> simp [doneR]
 rw [h0] at h
 have h : St W0 (LGI none 0 [] :: arr BOO T_bool da dc ((List.range l.length).map (doneR l 0)) :: TB ta tc l.length (tab l) l.length :: L) W1 := h.ent lg_none
 refine loop_c (σ := List (List Ins) × Option Addr × Nat) l.length (fun i s => [.slice a l.length c, .slice ta l.length tc, .slice da l.length dc, .slice s.2.1 s.1.length s.2.2, .int .i64 (i : Int)])
  (fun i s W1 => s.1 = groupsR l i ∧ St W0 (LGI s.2.1 s.2.2 s.1 :: arr BOO T_bool da dc ((List.range l.length).map (doneR l i)) :: TB ta tc l.length (tab l) l.length :: L) W1) ([], none, 0) rfl ⟨rfl, h⟩ ?_
 clear h
 rintro K i ⟨gs, ra, rc⟩ W2 hi ⟨hgs, h⟩ hK
 simp -implicitDefEqProofs only [SE, SU, SV]
 unfold S.rostrumref18_groups.l1
 simp only at hgs h
 have ew : IntKind.i64.wrap ((i : Int) + 1) = ((i + 1 : Nat) : Int) := by rw [i64w]; omega
 by_cases hlt : (i : Int) < (l.length : Int)
 ·have hib : i < l.length := by omega
  have dl : ∀ p : Nat → Bool, ((List.range l.length).map p).length = l.length := fun p => by simp
  (repeat simp -implicitDefEqProofs only [SE, SU, SV, hlt])
  refine joinK_i ?_
  obtain ⟨gd, od, e⟩ := posAddr (i := i) (a := da) (A := BOO) (l := (List.range l.length).map (doneR l i)) (St.wk (L' := arr BOO T_bool da dc ((List.range l.length).map (doneR l i)) :: LGI ra rc gs :: TB ta tc l.length (tab l) l.length :: L) h) (by rw [dl]; exact hib)
  subst e
  (repeat simp -implicitDefEqProofs only [SE, SU, SV, ix2 hib])
  refine ldGb (i := i) (m := (List.range l.length).map (doneR l i)) (by rw [dl]; exact hib) (by first | assumption | exact St.tick (by assumption) | exact St.tick (St.tick (by assumption))) ?_
  rw [← getD_at (by rw [dl]; exact hib), mr_at hib]
  have hK := fun x' W' => hK x' W' hib
  rw [groupsR] at hK
  have hdn : ∀ b, doneR l (i + 1) b = (doneR l i b || (!doneR l i i && memG l i b)) := fun b => rfl
  cases hd : doneR l i i with
  | true =>
   rw [if_pos hd] at hK
   have e : (List.range l.length).map (doneR l (i + 1)) = (List.range l.length).map (doneR l i) := List.map_congr_left fun b _ => by rw [hdn, hd]; simp
   rw [e] at hK
   (repeat simp -implicitDefEqProofs only [SE, SU, SV])
   unfold S.rostrumref18_groups.j2
   (repeat simp -implicitDefEqProofs only [SE, SU, SV, ew])
   exact hK (gs, ra, rc) _ ⟨hgs, (by first | assumption | exact St.tick (by assumption) | exact St.tick (St.tick (by assumption)))⟩
  | false =>
  rw [if_neg (by rw [hd]; simp)] at hK
  (repeat simp -implicitDefEqProofs only [SE, SU, SV])
  refine joinK_i ?_
  have e0 : (List.range l.length).map (dnW l i 0) = (List.range l.length).map (doneR l i) := List.map_congr_left fun b _ => by simp [dnW]
  refine loop_c (σ := List Ins × Option Addr × Nat) l.length (fun u s => [.slice a l.length c, .slice ta l.length tc, .slice (some ⟨gd, od, none⟩) l.length dc, .slice ra gs.length rc, .int .i64 (i : Int), .slice s.2.1 s.1.length s.2.2, .int .i64 (u : Int)])
   (fun u s W1 => s.1 = grpR l i u ∧ St W0 (arr INS T_rostrumref18_Inst s.2.1 s.2.2 s.1 :: arr BOO T_bool (some ⟨gd, od, none⟩) dc ((List.range l.length).map (dnW l i u)) :: LGI ra rc gs :: TB ta tc l.length (tab l) l.length :: L) W1) ([], none, 0) rfl ⟨rfl, ?_⟩ ?_
  ·simp only [e0]
   exact (St.wk (L' := arr BOO T_bool (some ⟨gd, od, none⟩) dc ((List.range l.length).map (doneR l i)) :: LGI ra rc gs :: TB ta tc l.length (tab l) l.length :: L) (by first | assumption | exact St.tick (by assumption) | exact St.tick (St.tick (by assumption)))).ent (arr_nil _ _)
  clear h e0
  rintro K2 u ⟨g, ga, gc⟩ W3 hu ⟨hg, h⟩ hK2
  simp -implicitDefEqProofs only [SE, SU, SV]
  unfold S.rostrumref18_groups.l2
  simp only at hg h
  have hgl : g.length ≤ 1000 := by have := grpR_len l i u; rw [hg]; omega
  have ewu : IntKind.i64.wrap ((u : Int) + 1) = ((u + 1 : Nat) : Int) := by rw [i64w]; omega
  by_cases hltu : (u : Int) < (l.length : Int)
  ·have hub : u < l.length := by omega
   have hK2 := fun x' W' => hK2 x' W' hub
   rw [grpR] at hK2
   (repeat simp -implicitDefEqProofs only [SE, SU, SV, hltu])
   refine joinK_i ?_
   have hno : memG l i u = false → ∀ W', St W0 (arr INS T_rostrumref18_Inst ga gc g :: arr BOO T_bool (some ⟨gd, od, none⟩) dc ((List.range l.length).map (dnW l i u)) :: LGI ra rc gs :: TB ta tc l.length (tab l) l.length :: L) W' →
     S.rostrumref18_groups.j4 K2 (.slice a l.length c) (.slice ta l.length tc) (.slice (some ⟨gd, od, none⟩) l.length dc) (.slice ra gs.length rc) (.int .i64 (i : Int)) (.slice ga g.length gc) (.int .i64 (u : Int)) W' := fun hm W' h => by
    unfold S.rostrumref18_groups.j4
    rw [if_neg (by rw [hm]; simp)] at hK2
    have e : (List.range l.length).map (dnW l i (u + 1)) = (List.range l.length).map (dnW l i u) := List.map_congr_left fun b _ => by
     unfold dnW
     by_cases eb : b = u
     ·subst eb; rw [hm]; simp
     ·have : (b < u + 1) ↔ (b < u) := by omega
      simp only [this]
    rw [e] at hK2
    (repeat simp -implicitDefEqProofs only [SE, SU, SV, ewu])
    exact hK2 (g, ga, gc) _ ⟨hg, h⟩
   have hyes : memG l i u = true → ∀ W', St W0 (arr INS T_rostrumref18_Inst ga gc g :: arr BOO T_bool (some ⟨gd, od, none⟩) dc ((List.range l.length).map (dnW l i u)) :: LGI ra rc gs :: TB ta tc l.length (tab l) l.length :: L) W' →
     efK PR (Instr.storeAt T_bool (.pointer (some ⟨gd, od + u * 1, none⟩)) (.bool true)) (fun _ W =>
      joinK (fun s W => S.rostrumref18_groups.j5 (fun s W => S.rostrumref18_groups.j4 K2 (nthv s 0) (nthv s 1) (nthv s 2) (nthv s 3) (nthv s 4) (nthv s 5) (nthv s 6) W) (nthv s 0) (nthv s 1) (nthv s 2) (nthv s 3) (nthv s 4) (nthv s 5) (nthv s 6) (nthv s 7) W) (fun J5 =>
      loopK (fun K3 s W => S.rostrumref18_groups.l3 J5 K3 (nthv s 0) (nthv s 1) (nthv s 2) (nthv s 3) (nthv s 4) (nthv s 5) (nthv s 6) (nthv s 7) W) [.slice a l.length c, .slice ta l.length tc, .slice (some ⟨gd, od, none⟩) l.length dc, .slice ra gs.length rc, .int .i64 (i : Int), .slice ga g.length gc, .int .i64 (u : Int), (.int .i64 0)] W)) W' := fun hm W' h => by
    rw [if_pos hm, gd_at hub] at hK2
    have e : (List.range l.length).map (dnW l i (u + 1)) = ((List.range l.length).map (dnW l i u)).set u true := by
     rw [mr_set]
     refine List.map_congr_left fun b _ => ?_
     unfold dnW
     by_cases eb : b = u
     ·subst eb; rw [if_pos rfl, hm, decide_eq_true (Nat.lt_succ_self b)]; simp
     ·have : (b < u + 1) ↔ (b < u) := by omega
      rw [if_neg eb]
      simp only [this]
    rw [e] at hK2
    refine stGb (i := u) (m := (List.range l.length).map (dnW l i u)) (x := true) (by rw [dl]; exact hub) (by first | assumption | exact St.tick (by assumption) | exact St.tick (St.tick (by assumption))) fun W4 h => ?_
    refine joinK_i ?_
    generalize ((List.range l.length).map (dnW l i u)).set u true = dn at *
    have h := St.wk (L' := arr INS T_rostrumref18_Inst ga gc g :: arr BOO T_bool (some ⟨gd, od, none⟩) dc dn :: LGI ra rc gs :: TB ta tc l.length (tab l) l.length :: L) h
    refine loop_c (σ := Unit) g.length (fun j _ => [.slice a l.length c, .slice ta l.length tc, .slice (some ⟨gd, od, none⟩) l.length dc, .slice ra gs.length rc, .int .i64 (i : Int), .slice ga g.length gc, .int .i64 (u : Int), .int .i64 (j : Int)])
     (fun j _ W1 => (∀ q (hq : q < g.length), q < j → insLt g[q] l[u]) ∧ St W0 (arr INS T_rostrumref18_Inst ga gc g :: arr BOO T_bool (some ⟨gd, od, none⟩) dc dn :: LGI ra rc gs :: TB ta tc l.length (tab l) l.length :: L) W1) () rfl ⟨fun _ _ h => by omega, h⟩ ?_
    clear h
    rintro K3 j _ W5 hj ⟨hlts, h⟩ hK3
    simp -implicitDefEqProofs only [SE, SU, SV]
    unfold S.rostrumref18_groups.l3
    have ewj : IntKind.i64.wrap ((j : Int) + 1) = ((j + 1 : Nat) : Int) := by rw [i64w]; omega
    have fin : (∀ hj : j < g.length, ¬ insLt g[j] l[u]) → ∀ W', St W0 (arr INS T_rostrumref18_Inst ga gc g :: arr BOO T_bool (some ⟨gd, od, none⟩) dc dn :: LGI ra rc gs :: TB ta tc l.length (tab l) l.length :: L) W' →
      S.rostrumref18_groups.j5 (fun s W => S.rostrumref18_groups.j4 K2 (nthv s 0) (nthv s 1) (nthv s 2) (nthv s 3) (nthv s 4) (nthv s 5) (nthv s 6) W) (.slice a l.length c) (.slice ta l.length tc) (.slice (some ⟨gd, od, none⟩) l.length dc) (.slice ra gs.length rc) (.int .i64 (i : Int)) (.slice ga g.length gc) (.int .i64 (u : Int)) (.int .i64 (j : Int)) W' := fun hn W' h => by
     obtain ⟨t1, t2⟩ := tw_eq (g := g) (n := j) (p := fun y => decide (insLt y l[u])) hj (fun q hq hqj => decide_eq_true (hlts q hq hqj)) fun hj => decide_eq_false (hn hj)
     refine rIns (k := u) (n := 0) (a := a) (c := c) (l := l) (g := g) hub hl hgl h hj t1 t2 (fun a' c' W' h => ?_) rfl
     simp -implicitDefEqProofs only [SE, SU, SV]
     unfold S.rostrumref18_groups.j4
     (repeat simp -implicitDefEqProofs only [SE, SU, SV, ewu])
     exact hK2 (insR l[u] g, a', c') _ ⟨by rw [hg], h⟩
    by_cases hjl : (j : Int) < (g.length : Int)
    ·have hjg : j < g.length := by omega
     (repeat simp -implicitDefEqProofs only [SE, SU, SV, hjl])
     refine ixA (i := j) (a := ga) (l := g) (A := INS) (by first | assumption | exact St.tick (by assumption) | exact St.tick (St.tick (by assumption))) rfl rfl hjg fun g6 o6 hga => ?_
     subst hga
     refine ldA0 (i := j) (l := g) (A := INS) (by first | assumption | exact St.tick (by assumption) | exact St.tick (St.tick (by assumption))) rfl hjg (v := .agg (INS.row g[j]).toArray) rfl (by simp [INS]) ?_
     skip
     refine ixA (i := u) (a := a) (l := l) (A := INS) (by first | assumption | exact St.tick (by assumption) | exact St.tick (St.tick (by assumption))) rfl rfl hub fun g7 o7 hga => ?_
     subst hga
     refine ldA0 (i := u) (l := l) (A := INS) (by first | assumption | exact St.tick (by assumption) | exact St.tick (St.tick (by assumption))) rfl hub (v := .agg (INS.row l[u]).toArray) rfl (by simp [INS]) ?_
     skip
     refine rLess (x := g[j]) (y := l[u]) (by first | assumption | exact St.tick (by assumption) | exact St.tick (St.tick (by assumption))) fun W6 h => ?_
     by_cases hq : insLt g[j] l[u]
     ·rw [decide_eq_true hq]
      (repeat simp -implicitDefEqProofs only [SE, SU, SV, ewj])
      refine hK3 () _ hjg ⟨fun q hq2 hqj => ?_, h⟩
      by_cases e : q = j
      ·subst e; exact hq
      ·exact hlts q hq2 (by omega)
     ·rw [decide_eq_false hq]
      (repeat simp -implicitDefEqProofs only [SE, SU, SV])
      exact fin (fun _ => hq) _ h
    ·(repeat simp -implicitDefEqProofs only [SE, SU, SV, hjl])
     exact fin (fun hj2 => by omega) _ (by first | assumption | exact St.tick (by assumption) | exact St.tick (St.tick (by assumption)))
   by_cases hui : (u : Int) = (i : Int)
   ·have e : u = i := by omega
    subst e
    have : memG l u u = true := by unfold memG; rw [decide_eq_true rfl]; rfl
    (repeat simp -implicitDefEqProofs only [SE, SU, SV, ix2 hub])
    refine hyes this _ ?_
    exact (by first | assumption | exact St.tick (by assumption) | exact St.tick (St.tick (by assumption)))
   ·have hne : ¬ u = i := by omega
    have hm : memG l i u = (tab l i u && tab l u i) := by unfold memG; rw [decide_eq_false hne, Bool.false_or]
    obtain ⟨g8, o8, rows, hir, e, hrl, hrows, hrow, h⟩ := tb_row hib hib (St.wk (L' := TB ta tc l.length (tab l) l.length :: arr INS T_rostrumref18_Inst ga gc g :: arr BOO T_bool (some ⟨gd, od, none⟩) dc ((List.range l.length).map (dnW l i u)) :: LGI ra rc gs :: L) h)
    subst e
    obtain ⟨hur, hrowu⟩ := tb_at2 hrows hub hub
    have back : ∀ {W' : World}, St W0 (arr GSY T_s_bool (some ⟨g8, o8, none⟩) tc rows :: many (gch BOO T_bool) rows :: arr INS T_rostrumref18_Inst ga gc g :: arr BOO T_bool (some ⟨gd, od, none⟩) dc ((List.range l.length).map (dnW l i u)) :: LGI ra rc gs :: L) W' →
      St W0 (arr INS T_rostrumref18_Inst ga gc g :: arr BOO T_bool (some ⟨gd, od, none⟩) dc ((List.range l.length).map (dnW l i u)) :: LGI ra rc gs :: TB (some ⟨g8, o8, none⟩) tc l.length (tab l) l.length :: L) W' := fun h =>
     St.wk (h.ent (lg_ent hrows))
    (repeat simp -implicitDefEqProofs only [SE, SU, SV, hui, ix2 hib])
    refine ldH hir (by first | assumption | exact St.tick (by assumption) | exact St.tick (St.tick (by assumption))) ?_
    refine tb_ld hir hrow hub (by first | assumption | exact St.tick (by assumption) | exact St.tick (St.tick (by assumption))) ?_
    cases ht : tab l i u with
    | false =>
     rw [ht, Bool.false_and] at hm
     (repeat simp -implicitDefEqProofs only [SE, SU, SV])
     exact hno hm _ (back (by first | assumption | exact St.tick (by assumption) | exact St.tick (St.tick (by assumption))))
    | true =>
     rw [ht, Bool.true_and] at hm
     (repeat simp -implicitDefEqProofs only [SE, SU, SV, ix2 hub])
     refine ldH hur (by first | assumption | exact St.tick (by assumption) | exact St.tick (St.tick (by assumption))) ?_
     refine tb_ld hur hrowu hib (by first | assumption | exact St.tick (by assumption) | exact St.tick (St.tick (by assumption))) ?_
     cases ht2 : tab l u i with
     | false =>
      rw [ht2] at hm
      (repeat simp -implicitDefEqProofs only [SE, SU, SV])
      exact hno hm _ (back (by first | assumption | exact St.tick (by assumption) | exact St.tick (St.tick (by assumption))))
     | true =>
      rw [ht2] at hm
      (repeat simp -implicitDefEqProofs only [SE, SU, SV])
      refine hyes hm _ ?_
      exact back (by first | assumption | exact St.tick (by assumption) | exact St.tick (St.tick (by assumption)))
  ·have hu2 : u = l.length := by omega
   subst hu2
   have e : (List.range l.length).map (doneR l (i + 1)) = (List.range l.length).map (dnW l i l.length) := List.map_congr_left fun b hb => by
    rw [hdn, hd, dnW, decide_eq_true (List.mem_range.1 hb)]; rfl
   rw [e] at hK
   generalize (List.range l.length).map (dnW l i l.length) = dn at *
   (repeat simp -implicitDefEqProofs only [SE, SU, SV, hltu])
   unfold S.rostrumref18_groups.j3
   obtain ⟨rows, hrows, h⟩ := lg_at (St.wk (L' := LGI ra rc gs :: arr INS T_rostrumref18_Inst ga gc g :: arr BOO T_bool (some ⟨gd, od, none⟩) dc dn :: TB ta tc l.length (tab l) l.length :: L) h)
   have hrl : rows.length = gs.length := by rw [← hrows, List.length_map]
   have hgl2 := groupsR_len l i
   rw [← hgs] at hgl2
   rw [← hrl]
   refine bsA GSY [(⟨ga, gc, g⟩ : GSl Ins)] (n := 1) (by first | assumption | exact St.tick (by assumption) | exact St.tick (St.tick (by assumption))) rfl rfl (by decide) (by decide) rfl fun a5 c5 W5 h => ?_
   refine appA (A := GSY) (a := ra) (l := rows) (m := [(⟨ga, gc, g⟩ : GSl Ins)]) h rfl (by simp only [List.length_cons, List.length_nil]; omega) (by simp only [List.length_cons, List.length_nil, maxLen]; omega) fun a6 c6 W6 h => ?_
   unfold S.rostrumref18_groups.j2
   have el : (rows ++ [(⟨ga, gc, g⟩ : GSl Ins)]).length = (gs ++ [g]).length := by simp [hrl]
   rw [el]
   (repeat simp -implicitDefEqProofs only [SE, SU, SV, ew])
   refine hK (gs ++ [g], a6, c6) _ ⟨by rw [hgs, hg], ?_⟩
   exact lg_snoc (y := ⟨ga, gc, g⟩) hrows (St.wk (L' := arr GSY T_s_rostrumref18_Inst a6 c6 (rows ++ [(⟨ga, gc, g⟩ : GSl Ins)]) :: gch INS T_rostrumref18_Inst ⟨ga, gc, g⟩ :: many (gch INS T_rostrumref18_Inst) rows :: arr BOO T_bool (some ⟨gd, od, none⟩) dc dn :: TB ta tc l.length (tab l) l.length :: L) h)
 ·have hi2 : i = l.length := by omega
  subst hi2
  (repeat simp -implicitDefEqProofs only [SE, SU, SV, hlt])
  unfold S.rostrumref18_groups.j1
  subst hgs
  exact hk _ _ _ (St.wk (L' := LGI ra rc (groupsR l l.length) :: TB ta tc l.length (tab l) l.length :: L) h)
end
end Go.Proofs.YtkjhccpanedccaaGreat
namespace Go.Proofs.YtkjhccpanedccaaGreat
set_option linter.unusedVariables false
set_option linter.unusedSimpArgs false
open Go Go.Eng Go.Tar Go.Sort
def okd (K : List Ins) (x : Ins) (r n : Int) : Prop := (⟨r, n⟩ : Dot) = x.d ∨ ∃ y ∈ K, y.d = ⟨r, n⟩
abbrev q0O : Dot → Bool := isO (P7.all 0) []
structure RmS where
 K : List Ins
 a : Option Addr
 c : Nat
 m : Bool
structure RmI (l K : List Ins) (s : RmS) : Prop where
 sub : s.K.Sublist l
 kep : ∀ x ∈ keptO q0O l, x ∈ s.K
 yes : s.m = true → s.K.length < K.length
 no : s.m = false → s.K = K
theorem okd_shut {K : List Ins} (h : ∀ i (hi : i < K.length), ∀ r, r < 7 → ∀ n, n < (K[i].v.get r).toNat → okd K K[i] r ((n : Int) + 1)) : Shut K := by
 intro x hx d hd
 obtain ⟨i, hi, rfl⟩ := List.getElem_of_mem hx
 obtain ⟨h1, h2, h3⟩ := depsL_mem.1 hd
 have := h i hi d.rep.toNat (by omega) (d.n - 1).toNat (by omega)
 rw [show ((d.rep.toNat : Nat) : Int) = d.rep by omega, show (((d.n - 1).toNat : Nat) : Int) + 1 = d.n by omega] at this
 exact this.resolve_left h3
theorem rm_at {K : List Ins} {i : Nat} (hi : i < K.length) {x : Ins} (hx : x ∈ K) (hne : x ≠ K[i]) : x ∈ K.take i ++ K.drop (i + 1) := by
 have h := (permPick K hi).mem_iff.1 hx
 exact (List.mem_cons.1 h).resolve_left hne
theorem rm_sub {K : List Ins} (i : Nat) : (K.take i ++ K.drop (i + 1)).Sublist K := by rw [← List.eraseIdx_eq_take_drop_succ]; exact List.eraseIdx_sublist ..
theorem rm_inv {l K : List Ins} {i r n : Nat} {a : Option Addr} {c : Nat} (hi : i < K.length) (hs : K.Sublist l) (hk : ∀ x ∈ keptO q0O l, x ∈ K) (hr : r < 7) (hn : (n : Int) + 1 ≤ K[i].v.get r) (hd : (⟨r, (n : Int) + 1⟩ : Dot) ≠ K[i].d) (hp : plcO K ⟨r, (n : Int) + 1⟩ = none) : RmI l K ⟨K.take i ++ K.drop (i + 1), a, c, true⟩ := by
 refine ⟨(rm_sub i).trans hs, fun x hx => rm_at hi (hk x hx) fun e => ?_, fun _ => ?_, fun h => (nomatch h)⟩
 ·subst e
  obtain ⟨y, hy, e⟩ := kept_lack hx (d := ⟨r, (n : Int) + 1⟩) (depsL_mem.2 ⟨⟨by simp only; omega, by simp only; omega⟩, ⟨by simp only; omega, by simpa using hn⟩, hd⟩) hk
  exact plcO_none.1 hp y hy e
 ·simp only [List.length_append, List.length_take, List.length_drop]; omega
section
variable {W0 W : World} {L L' : List Asn}
set_option maxRecDepth 100000 in
set_option maxHeartbeats 16000000 in
theorem rRmv {R : Value → World → Prop} {vb : Nat} {a : Option Addr} {c : Nat} {l : List Ins} (hg : goodO l = true)
  (h : St W0 (arr INS T_rostrumref18_Inst a c l :: cells vb [.int .i64 (P7.all (0 : Int)).x0, .int .i64 (P7.all (0 : Int)).x1, .int .i64 (P7.all (0 : Int)).x2, .int .i64 (P7.all (0 : Int)).x3, .int .i64 (P7.all (0 : Int)).x4, .int .i64 (P7.all (0 : Int)).x5, .int .i64 (P7.all (0 : Int)).x6] T_a7_int64 :: L) W)
  (hk : ∀ K a' c' W', K.Sublist l → (∀ x ∈ keptO q0O l, x ∈ K) → Shut K → St W0 (arr INS T_rostrumref18_Inst a' c' K :: cells vb [.int .i64 (P7.all (0 : Int)).x0, .int .i64 (P7.all (0 : Int)).x1, .int .i64 (P7.all (0 : Int)).x2, .int .i64 (P7.all (0 : Int)).x3, .int .i64 (P7.all (0 : Int)).x4, .int .i64 (P7.all (0 : Int)).x5, .int .i64 (P7.all (0 : Int)).x6] T_a7_int64 :: L) W' → S.rostrumref18_Line.j2 R (.slice a' K.length c') W') :
  S.rostrumref18_Line.j1 R (.slice none 0 0) (.pointer (some ⟨vb, 0, none⟩)) (.slice a l.length c) W := by
 obtain ⟨hg1, hg2, hg3⟩ := goodO_iff.1 hg
 unfold S.rostrumref18_Line.j1
 refine joinK_i ?_
 refine loop_x (σ := RmS) (fun s => [.slice none 0 0, .pointer (some ⟨vb, 0, none⟩), .slice s.a s.K.length s.c, .bool s.m])
  (fun s W1 => (s.K.Sublist l ∧ (∀ x ∈ keptO q0O l, x ∈ s.K) ∧ (s.m = false → Shut s.K)) ∧ St W0 (arr INS T_rostrumref18_Inst s.a s.c s.K :: cells vb [.int .i64 (P7.all (0 : Int)).x0, .int .i64 (P7.all (0 : Int)).x1, .int .i64 (P7.all (0 : Int)).x2, .int .i64 (P7.all (0 : Int)).x3, .int .i64 (P7.all (0 : Int)).x4, .int .i64 (P7.all (0 : Int)).x5, .int .i64 (P7.all (0 : Int)).x6] T_a7_int64 :: L) W1)
  (fun s => if s.m = true then s.K.length + 1 else 0) ⟨l, a, c, true⟩ rfl ⟨⟨List.Sublist.refl _, fun x hx => (kept_mem.1 hx).1, fun h => nomatch h⟩, h⟩ ?_
 clear h
 rintro K4 ⟨K, a, c, m⟩ W1 ⟨⟨hsub, hkep, hsh⟩, h⟩ hK4
 simp only at hsub hkep hsh h
 simp -implicitDefEqProofs only [SE, SU, SV]
 unfold S.rostrumref18_Line.l4
 cases m with
 | false =>
  (repeat simp -implicitDefEqProofs only [SE, SU, SV])
  exact hk K a c _ hsub hkep (hsh rfl) h
 | true =>
 rw [if_pos rfl] at hK4
 clear hk hsh
 (repeat simp -implicitDefEqProofs only [SE, SU, SV])
 have hKl : K.length ≤ 1000 := Nat.le_trans hsub.length_le hg3
 refine loop_c (σ := RmS) K.length (fun i s => [.slice none 0 0, .pointer (some ⟨vb, 0, none⟩), .slice s.a s.K.length s.c, .bool s.m, .int .i64 (i : Int)])
  (fun i s W1 => (RmI l K s ∧ (s.m = false → ∀ j (hj : j < K.length), j < i → ∀ r, r < 7 → ∀ n, n < (K[j].v.get r).toNat → okd K K[j] r ((n : Int) + 1))) ∧ St W0 (arr INS T_rostrumref18_Inst s.a s.c s.K :: cells vb [.int .i64 (P7.all (0 : Int)).x0, .int .i64 (P7.all (0 : Int)).x1, .int .i64 (P7.all (0 : Int)).x2, .int .i64 (P7.all (0 : Int)).x3, .int .i64 (P7.all (0 : Int)).x4, .int .i64 (P7.all (0 : Int)).x5, .int .i64 (P7.all (0 : Int)).x6] T_a7_int64 :: L) W1)
  ⟨K, a, c, false⟩ rfl ⟨⟨⟨hsub, hkep, fun h => (nomatch h), fun _ => rfl⟩, fun _ _ _ h => by omega⟩, (by first | assumption | exact St.tick (by assumption) | exact St.tick (St.tick (by assumption)))⟩ ?_
 clear h hsub hkep
 rintro K5 i ⟨K', a', c', m'⟩ W2 hi ⟨⟨hI, hoki⟩, h⟩ hK5
 simp only at hoki h
 simp -implicitDefEqProofs only [SE, SU, SV]
 unfold S.rostrumref18_Line.l5
 have ewi : IntKind.i64.wrap ((i : Int) + 1) = ((i + 1 : Nat) : Int) := by rw [i64w]; omega
 cases m' with
 | true =>
  have out := fun W' h => hK4 ⟨K', a', c', true⟩ W' (by have := hI.yes rfl; simp only at this ⊢; rw [if_pos trivial]; omega) ⟨⟨hI.sub, hI.kep, fun h => (nomatch h)⟩, h⟩
  by_cases hlt : (i : Int) < (K'.length : Int)
  ·(repeat simp -implicitDefEqProofs only [SE, SU, SV, hlt])
   exact out _ (by first | assumption | exact St.tick (by assumption) | exact St.tick (St.tick (by assumption)))
  ·(repeat simp -implicitDefEqProofs only [SE, SU, SV, hlt])
   exact out _ (by first | assumption | exact St.tick (by assumption) | exact St.tick (St.tick (by assumption)))
 | false =>
 have e := hI.no rfl
 simp only at e
 subst e
 by_cases hlt : (i : Int) < (K'.length : Int)
 ·have hib : i < K'.length := by omega
  have hK5 := fun x' W' => hK5 x' W' hib
  clear hK4
  obtain ⟨hx1, hx2⟩ := hg1 _ (hI.sub.subset (List.getElem_mem hib))
  have hdv := (depsO_iff _).1 hx2
  (repeat simp -implicitDefEqProofs only [SE, SU, SV, hlt])
  refine joinK_i ?_
  refine loop_c (σ := RmS) 7 (fun r s => [.slice none 0 0, .pointer (some ⟨vb, 0, none⟩), .slice s.a s.K.length s.c, .bool s.m, .int .i64 (i : Int), .int .i64 (r : Int)])
   (fun r s W1 => (RmI l K' s ∧ (s.m = false → ∀ r', r' < r → ∀ n, n < (K'[i].v.get r').toNat → okd K' K'[i] r' ((n : Int) + 1))) ∧ St W0 (arr INS T_rostrumref18_Inst s.a s.c s.K :: cells vb [.int .i64 (P7.all (0 : Int)).x0, .int .i64 (P7.all (0 : Int)).x1, .int .i64 (P7.all (0 : Int)).x2, .int .i64 (P7.all (0 : Int)).x3, .int .i64 (P7.all (0 : Int)).x4, .int .i64 (P7.all (0 : Int)).x5, .int .i64 (P7.all (0 : Int)).x6] T_a7_int64 :: L) W1)
   ⟨K', a', c', false⟩ rfl ⟨⟨hI, fun _ _ h => by omega⟩, (by first | assumption | exact St.tick (by assumption) | exact St.tick (St.tick (by assumption)))⟩ ?_
  clear h
  rintro K6 r ⟨K2, a2, c2, m2⟩ W3 hr ⟨⟨hI2, hokr⟩, h⟩ hK6
  simp only at hokr h
  simp -implicitDefEqProofs only [SE, SU, SV]
  unfold S.rostrumref18_Line.l6
  have ewr : IntKind.i64.wrap ((r : Int) + 1) = ((r + 1 : Nat) : Int) := by rw [i64w]; omega
  cases m2 with
  | true =>
   have out := fun W' h => hK5 ⟨K2, a2, c2, true⟩ W' ⟨⟨hI2, fun h => (nomatch h)⟩, h⟩
   by_cases hlt7 : (r : Int) < 7
   ·(repeat simp -implicitDefEqProofs only [SE, SU, SV, hlt7])
    unfold S.rostrumref18_Line.j8
    (repeat simp -implicitDefEqProofs only [SE, SU, SV, ewi])
    exact out _ (by first | assumption | exact St.tick (by assumption) | exact St.tick (St.tick (by assumption)))
   ·(repeat simp -implicitDefEqProofs only [SE, SU, SV, hlt7])
    unfold S.rostrumref18_Line.j8
    (repeat simp -implicitDefEqProofs only [SE, SU, SV, ewi])
    exact out _ (by first | assumption | exact St.tick (by assumption) | exact St.tick (St.tick (by assumption)))
  | false =>
  have e := hI2.no rfl
  simp only at e
  subst e
  by_cases hlt7 : (r : Int) < 7
  ·have hr7 : r < 7 := by omega
   obtain ⟨v0, v1⟩ := hdv r hr7
   have hK6 := fun x' W' => hK6 x' W' hr7
   clear hK5
   (repeat simp -implicitDefEqProofs only [SE, SU, SV, hlt7])
   refine joinK_i ?_
   refine loop_c (σ := RmS) (K2[i].v.get r).toNat (fun n s => [.slice none 0 0, .pointer (some ⟨vb, 0, none⟩), .slice s.a s.K.length s.c, .bool s.m, .int .i64 (i : Int), .int .i64 (r : Int), .int .i64 ((n : Int) + 1)])
    (fun n s W1 => (RmI l K2 s ∧ (s.m = false → ∀ n', n' < n → okd K2 K2[i] r ((n' : Int) + 1))) ∧ St W0 (arr INS T_rostrumref18_Inst s.a s.c s.K :: cells vb [.int .i64 (P7.all (0 : Int)).x0, .int .i64 (P7.all (0 : Int)).x1, .int .i64 (P7.all (0 : Int)).x2, .int .i64 (P7.all (0 : Int)).x3, .int .i64 (P7.all (0 : Int)).x4, .int .i64 (P7.all (0 : Int)).x5, .int .i64 (P7.all (0 : Int)).x6] T_a7_int64 :: L) W1)
    ⟨K2, a2, c2, false⟩ rfl ⟨⟨hI2, fun _ _ h => by omega⟩, (by first | assumption | exact St.tick (by assumption) | exact St.tick (St.tick (by assumption)))⟩ ?_
   clear h
   rintro K7 n ⟨K3, a3, c3, m3⟩ W4 hn ⟨⟨hI3, hokn⟩, h⟩ hK7
   simp only at hokn h
   simp -implicitDefEqProofs only [SE, SU, SV]
   unfold S.rostrumref18_Line.l7
   have ewn : IntKind.i64.wrap ((n : Int) + 1 + 1) = ((n + 1 : Nat) : Int) + 1 := by rw [i64w]; omega
   cases m3 with
   | true =>
    have out := fun W' h => hK6 ⟨K3, a3, c3, true⟩ W' ⟨⟨hI3, fun h => (nomatch h)⟩, h⟩
    (repeat simp -implicitDefEqProofs only [SE, SU, SV])
    unfold S.rostrumref18_Line.j9
    (repeat simp -implicitDefEqProofs only [SE, SU, SV, ewr])
    exact out _ (by first | assumption | exact St.tick (by assumption) | exact St.tick (St.tick (by assumption)))
   | false =>
   have e := hI3.no rfl
   simp only at e
   subst e
   have ei : ∀ z o, idxA 7 1 (.pointer (some ⟨z, o + 3, none⟩)) (.int .i64 (r : Int)) = some (.pointer (some ⟨z, o + (3 + r), none⟩)) := fun z o => by
    rw [idxA_blk (by omega) (by omega), Nat.mul_one, Int.toNat_natCast, Nat.add_assoc]
   have hc3 := h.arrFacts.1
   (repeat simp -implicitDefEqProofs only [SE, SU, SV])
   refine ixA (i := i) (a := a3) (l := K3) (A := INS) (by first | assumption | exact St.tick (by assumption) | exact St.tick (St.tick (by assumption))) rfl rfl hib fun g o ha => ?_
   subst ha
   (repeat simp -implicitDefEqProofs only [SE, SU, SV, ei])
   refine ldA (i := i) (l := K3) (A := INS) (v := .int .i64 (K3[i].v.get r)) (by first | assumption | exact St.tick (by assumption) | exact St.tick (St.tick (by assumption))) rfl hib (getI7 hr7) (by simp) ?_
   by_cases hle : (n : Int) + 1 ≤ K3[i].v.get r
   ·have hnb : n < (K3[i].v.get r).toNat := by omega
    have hK7 := fun x' W' => hK7 x' W' hnb
    clear hK6
    haveI rn : ∀ M, Rd W0 M none DOT [] := fun M => Rd.nil _ _ _ _
    have hsame : okd K3 K3[i] r ((n : Int) + 1) → ∀ W', St W0 (arr INS T_rostrumref18_Inst (some ⟨g, o, none⟩) c3 K3 :: cells vb [.int .i64 (P7.all (0 : Int)).x0, .int .i64 (P7.all (0 : Int)).x1, .int .i64 (P7.all (0 : Int)).x2, .int .i64 (P7.all (0 : Int)).x3, .int .i64 (P7.all (0 : Int)).x4, .int .i64 (P7.all (0 : Int)).x5, .int .i64 (P7.all (0 : Int)).x6] T_a7_int64 :: L) W' → K7 [.slice none 0 0, .pointer (some ⟨vb, 0, none⟩), .slice (some ⟨g, o, none⟩) K3.length c3, .bool false, .int .i64 (i : Int), .int .i64 (r : Int), .int .i64 (((n + 1 : Nat) : Int) + 1)] W' := fun ho W' h =>
     hK7 ⟨K3, some ⟨g, o, none⟩, c3, false⟩ W' ⟨⟨⟨hI3.sub, hI3.kep, fun h => (nomatch h), fun _ => rfl⟩, fun _ n' hn' => by
      by_cases e : n' = n
      ·subst e; exact ho
      ·exact hokn rfl n' (by omega)⟩, h⟩
    have f2 := dot_eq (⟨r, (n : Int) + 1⟩ : Dot) K3[i].d
    simp only at f2
    (repeat simp -implicitDefEqProofs only [SE, SU, SV, hle])
    refine joinK_i ?_
    (repeat (first | ((with_reducible refine w11 ?_); intros) | ((with_reducible refine v5 ?_); refine ⟨_, rfl, ?_⟩) | ((with_reducible refine v12 ?_ ?_); exact rfl; intros) | ((with_reducible refine w5 ?_ ?_); simp; refine ⟨_, rfl, ?_⟩) | ((with_reducible refine w12 ?_ ?_ ?_ ?_); simp; simp; simp [oneC]; intros) | (refine okF_i (bldP_eq rfl) ?_; try simp only [BLS, SB, Nat.reduceAdd]) | simp -implicitDefEqProofs only [SE, SU, SV]))
    refine ixA (i := i) (a := some ⟨g, o, none⟩) (l := K3) (A := INS) (by first | assumption | exact St.tick (by assumption) | exact St.tick (St.tick (by assumption))) rfl rfl hib fun g2 o2 ha => ?_
    cases ha
    (repeat simp -implicitDefEqProofs only [SE, SU, SV])
    refine ldA0 (i := i) (l := K3) (A := INS) (by first | assumption | exact St.tick (by assumption) | exact St.tick (St.tick (by assumption))) rfl hib (v := .agg #[.int .i64 (K3[i].d).rep, .int .i64 (K3[i].d).n]) rfl (by simp [INS]) ?_
    by_cases hd : (⟨r, (n : Int) + 1⟩ : Dot) = K3[i].d
    ·rw [decide_eq_true hd] at f2
     (repeat (first | ((with_reducible refine vn ?_); refine ⟨_, rfl, ?_⟩) | simp -implicitDefEqProofs only [SE, SU, SV, f2]))
     unfold S.rostrumref18_Line.j10
     (repeat simp -implicitDefEqProofs only [SE, SU, SV, ewn])
     exact hsame (.inl hd) _ (St.wk (by first | assumption | exact St.tick (by assumption) | exact St.tick (St.tick (by assumption))))
    ·rw [decide_eq_false hd] at f2
     (repeat (first | ((with_reducible first | refine v5 ?_ | refine vn ?_); refine ⟨_, rfl, ?_⟩) | ((with_reducible refine w5 ?_ ?_); simp; refine ⟨_, rfl, ?_⟩) | simp -implicitDefEqProofs only [SE, SU, SV, f2]))
     refine rIs (v := P7.all 0) (d := ⟨r, (n : Int) + 1⟩) (a := none) (l := []) (c := 0) (by simp only; omega) (by simp only; omega) (by first | assumption | exact St.tick (by assumption) | exact St.tick (St.tick (by assumption))) (by decide) fun W6 h => ?_
     rw [show isO (P7.all 0) [] ⟨r, (n : Int) + 1⟩ = false from q0_no (by simp only; omega)]
     (repeat (first | ((with_reducible refine v5 ?_); refine ⟨_, rfl, ?_⟩) | ((with_reducible refine w5 ?_ ?_); simp; refine ⟨_, rfl, ?_⟩) | simp -implicitDefEqProofs only [SE, SU, SV]))
     refine rThere (a := some ⟨g, o, none⟩) (l := K3) (d := ⟨r, (n : Int) + 1⟩) (c := c3) (by first | assumption | exact St.tick (by assumption) | exact St.tick (St.tick (by assumption))) (by omega) fun W7 h => ?_
     cases hp : plcO K3 ⟨r, (n : Int) + 1⟩ with
     | some q =>
      obtain ⟨hq, e⟩ := plcO_some hp
      (repeat simp -implicitDefEqProofs only [SE, SU, SV])
      unfold S.rostrumref18_Line.j10
      (repeat simp -implicitDefEqProofs only [SE, SU, SV, ewn])
      exact hsame (.inr ⟨_, List.getElem_mem hq, e⟩) _ (St.wk (by first | assumption | exact St.tick (by assumption) | exact St.tick (St.tick (by assumption))))
     | none =>
      have hI4 := fun a c => rm_inv (a := a) (c := c) hib hI3.sub hI3.kep hr7 hle hd hp
      (repeat simp -implicitDefEqProofs only [SE, SU, SV])
      refine slcR (A := INS) (a := some ⟨g, o, none⟩) (l := K3) (by first | assumption | exact St.tick (by assumption) | exact St.tick (St.tick (by assumption))) rfl rfl (bnd_nat (by omega)) bnd_none (Nat.zero_le _) (by omega) hc3 fun a1 c1 hr1 => ?_
      rw [List.drop_zero] at hr1 ⊢
      (repeat simp -implicitDefEqProofs only [SE, SU, SV, ewi])
      refine slcR (A := INS) (a := some ⟨g, o, none⟩) (l := K3) (by first | assumption | exact St.tick (by assumption) | exact St.tick (St.tick (by assumption))) rfl rfl bnd_none (bnd_nat (by omega)) (by omega) (Nat.le_refl _) hc3 fun a4 c4 hr2 => ?_
      rw [List.take_length] at hr2 ⊢
      have hl1 : (K3.take i).length ≤ 1000 := by simp; omega
      have hl2 : (K3.drop (i + 1)).length ≤ 1000 := by simp; omega
      generalize K3.take i = g1 at *
      generalize K3.drop (i + 1) = g2 at *
      refine bs0 INS (by first | assumption | exact St.tick (by assumption) | exact St.tick (St.tick (by assumption))) fun a5 c5 W8 h => ?_
      refine appA (A := INS) (a := a5) (l := []) (m := g1) h rfl (by simp only [List.length_nil]; omega) (by simp only [List.length_nil, maxLen]; omega) fun a6 c6 W9 h => ?_
      rw [List.nil_append] at h ⊢
      refine appA (A := INS) (a := a6) (l := g1) (m := g2) h rfl (by omega) (by simp only [maxLen]; omega) fun a7 c7 W10 h => ?_
      unfold S.rostrumref18_Line.j10
      (repeat simp -implicitDefEqProofs only [SE, SU, SV, ewn])
      exact hK7 ⟨g1 ++ g2, a7, c7, true⟩ _ ⟨⟨hI4 _ _, fun h => (nomatch h)⟩, St.wk h⟩
   ·have out := fun W' h => hK6 ⟨K3, some ⟨g, o, none⟩, c3, false⟩ W' ⟨⟨⟨hI3.sub, hI3.kep, fun h => (nomatch h), fun _ => rfl⟩, fun _ r' hr' n' hn' => by
     by_cases e : r' = r
     ·subst e; exact hokn rfl n' (by omega)
     ·exact hokr rfl r' (by omega) n' hn'⟩, h⟩
    (repeat simp -implicitDefEqProofs only [SE, SU, SV, hle])
    unfold S.rostrumref18_Line.j9
    (repeat simp -implicitDefEqProofs only [SE, SU, SV, ewr])
    exact out _ (by first | assumption | exact St.tick (by assumption) | exact St.tick (St.tick (by assumption)))
  ·have out := fun W' h => hK5 ⟨K2, a2, c2, false⟩ W' ⟨⟨hI2, fun _ j hj hji r' hr' n' hn' => by
    by_cases e : j = i
    ·subst e; exact hokr rfl r' (by omega) n' hn'
    ·exact hoki rfl j hj (by omega) r' hr' n' hn'⟩, h⟩
   (repeat simp -implicitDefEqProofs only [SE, SU, SV, hlt7])
   unfold S.rostrumref18_Line.j8
   (repeat simp -implicitDefEqProofs only [SE, SU, SV, ewi])
   exact out _ (by first | assumption | exact St.tick (by assumption) | exact St.tick (St.tick (by assumption)))
 ·have out := fun W' h => hK4 ⟨K', a', c', false⟩ W' (by simp) ⟨⟨hI.sub, hI.kep, fun _ => okd_shut fun j hj => hoki rfl j hj (by have : j < K'.length := hj; omega)⟩, h⟩
  (repeat simp -implicitDefEqProofs only [SE, SU, SV, hlt])
  exact out _ (by first | assumption | exact St.tick (by assumption) | exact St.tick (St.tick (by assumption)))
end
end Go.Proofs.YtkjhccpanedccaaGreat
namespace Go.Proofs.YtkjhccpanedccaaGreat
set_option linter.unusedVariables false
set_option linter.unusedSimpArgs false
open Go Go.Eng Go.Tar Go.Sort
section
variable {K : List Ins} {B : List (List Ins)}
theorem plN_some (hK : Dk K) {x : Ins} (hx : x ∈ K) : plcO K x.d = some (plN K x) := by
 obtain ⟨k, hk, rfl⟩ := List.getElem_of_mem hx
 unfold plN
 rw [plcO_at hK.1 hk]; rfl
theorem hdB_row {rows : List (GSl Ins)} (h : rows.map (·.l) = B) {i : Nat} (hi : i < rows.length) (h0 : 0 < rows[i].l.length) : rows[i].l[0] = hdB B i := by
 unfold hdB
 have : B.getD i [] = rows[i].l := by rw [← h, List.getD_eq_getElem?_getD, List.getElem?_map, List.getElem?_eq_getElem hi]; rfl
 rw [this]
 generalize rows[i].l = l at h0
 cases l with
 | nil => simp at h0
 | cons x l => rfl
theorem row_ne (hB : Gs K B) {rows : List (GSl Ins)} (h : rows.map (·.l) = B) {i : Nat} (hi : i < rows.length) : 0 < rows[i].l.length := by
 have := hB.ne rows[i].l (by rw [← h]; exact List.mem_map.2 ⟨_, List.getElem_mem hi, rfl⟩)
 exact List.length_pos_iff.2 this
def tdB (T : List Nat) (b : Nat) : Bool := decide (b ∈ T)
theorem tdB_snoc (T : List Nat) (u n : Nat) : ((List.range n).map (tdB T)).set u true = (List.range n).map (tdB (T ++ [u])) := by
 rw [mr_set]
 refine List.map_congr_left fun b _ => ?_
 unfold tdB
 by_cases e : b = u
 ·subst e; simp
 ·rw [if_neg e]; simp [e]
end
theorem gdS {c : Value} {b : Bool} {A : (Value → World → Prop) → World → Prop} {k : Value → World → Prop} {W : World} (hw : wantd c b = true) (h : A k W) : gdK (wantd c b) A k W := by rw [hw]; exact h
section
variable {W0 W : World} {M : List Asn}
set_option maxRecDepth 100000 in
set_option maxHeartbeats 1000000 in
theorem rPick {R : Value → World → Prop} {K : List Ins} {ka ga ta : Option Addr} {kc gc tc : Nat} {rG : List (GSl Ins)} {rT : List (GSl Bool)} {B : List (List Ins)} (hK : Dk K) (hl : K.length ≤ 1000) (hB : Gs K B) (hbl : B.length ≤ 1000) (hBl : ∀ G ∈ B, G.length ≤ 1000) (hG : rG.map (·.l) = B) (hT : rT.map (·.l) = tbl K.length (tab K) K.length)
  [r1 : Rd W0 M ka INS K] [r2 : Rd W0 M ga GSY rG] (r3 : ∀ i (hi : i < rG.length), Rd W0 M rG[i].a INS rG[i].l) [r4 : Rd W0 M ta GSY rT] (r5 : ∀ i (hi : i < rT.length), Rd W0 M rT[i].a BOO rT[i].l) (h : St W0 M W)
  (hk : ∀ a' c' W', St W0 (arr DOT T_api_Dot a' c' ((mpB B (tdR K B B.length)).flatten.map (·.d)) :: M) W' → R (.slice a' ((mpB B (tdR K B B.length)).flatten.map (·.d)).length c') W') :
  efK PR (Instr.makeSlice T_s_bool (.int .i64 (B.length : Int)) (.int .i64 (B.length : Int))) (fun v122 W =>
   joinK (fun s W => S.rostrumref18_Line.j3 R (nthv s 0) W) (fun J3 =>
   loopK (fun K1 s W => S.rostrumref18_Line.l1 J3 K1 (nthv s 0) (nthv s 1) (nthv s 2) (nthv s 3) (nthv s 4) (nthv s 5) W) [.slice ka K.length kc, .slice ta K.length tc, .slice ga B.length gc, v122, (.slice none 0 0), (.int .i64 0)] W)) W := by
 have hgl : rG.length = B.length := by rw [← hG, List.length_map]
 have htl : rT.length = K.length := by have := congrArg List.length hT; simpa [tbl_len] using this
 refine mkB h (by omega) fun oa oc W1 h => ?_
 refine joinK_i ?_
 have h0 : List.replicate B.length false = (List.range B.length).map (tdB (tdR K B 0)) := by apply List.ext_getElem <;> simp [tdB, tdR]
 rw [h0] at h
 have h := h.ent (arr_nil DOT T_api_Dot)
 refine loop_c (σ := List Dot × Option Addr × Nat) B.length (fun n s => [.slice ka K.length kc, .slice ta K.length tc, .slice ga B.length gc, .slice oa B.length oc, .slice s.2.1 s.1.length s.2.2, .int .i64 (n : Int)])
  (fun n s W1 => (s.1 = (mpB B (tdR K B n)).flatten.map (·.d) ∧ s.1.length ≤ n * 1000) ∧ St W0 (arr DOT T_api_Dot s.2.1 s.2.2 s.1 :: arr BOO T_bool oa oc ((List.range B.length).map (tdB (tdR K B n))) :: M) W1) ([], none, 0) rfl ⟨⟨rfl, Nat.zero_le _⟩, h⟩ ?_
 clear h h0
 rintro K1 n ⟨out, xa, xc⟩ W2 hn ⟨⟨hout, hol⟩, h⟩ hK1
 simp -implicitDefEqProofs only [SE, SU, SV]
 unfold S.rostrumref18_Line.l1
 simp only at hout hol h
 have ewn : IntKind.i64.wrap ((n : Int) + 1) = ((n + 1 : Nat) : Int) := by rw [i64w]; omega
 by_cases hlt : (n : Int) < (B.length : Int)
 ·have hnb : n < B.length := by omega
  obtain ⟨u, hu, hub, huT, _⟩ := td_best hK hB (td_inv hK hB (by omega)) hnb
  have htd : tdR K B (n + 1) = tdR K B n ++ [u] := by rw [tdR, hu, Int.toNat_natCast]
  have hK1 := fun x' W' => hK1 x' W' hnb
  rw [htd] at hK1
  generalize tdR K B n = T at *
  have dl : ((List.range B.length).map (tdB T)).length = B.length := by simp
  (repeat simp -implicitDefEqProofs only [SE, SU, SV, hlt])
  refine joinK_i ?_
  refine joinK_i ?_
  obtain ⟨go, oo, e⟩ := posAddr (i := u) (a := oa) (A := BOO) (l := (List.range B.length).map (tdB T)) (St.wk (L' := arr BOO T_bool oa oc ((List.range B.length).map (tdB T)) :: arr DOT T_api_Dot xa xc out :: M) h) (by rw [dl]; exact hub)
  subst e
  refine loop_c (σ := Unit) B.length (fun i _ => [.slice ka K.length kc, .slice ta K.length tc, .slice ga B.length gc, .slice (some ⟨go, oo, none⟩) B.length oc, .slice xa out.length xc, .int .i64 (n : Int), .int .i64 (bsR K B T i), .int .i64 (i : Int)])
   (fun i _ W1 => St W0 (arr DOT T_api_Dot xa xc out :: arr BOO T_bool (some ⟨go, oo, none⟩) oc ((List.range B.length).map (tdB T)) :: M) W1) () rfl (by first | assumption | exact St.tick (by assumption) | exact St.tick (St.tick (by assumption))) ?_
  clear h
  rintro K2 i _ W3 hi h hK2
  simp -implicitDefEqProofs only [SE, SU, SV]
  unfold S.rostrumref18_Line.l2
  have ewi : IntKind.i64.wrap ((i : Int) + 1) = ((i + 1 : Nat) : Int) := by rw [i64w]; omega
  by_cases hlti : (i : Int) < (B.length : Int)
  ·have hib : i < B.length := by omega
   have hig : i < rG.length := by omega
   have hK2 := fun W' => hK2 () W' hib
   rw [bsR] at hK2
   haveI ri := r3 i hig
   have hi0 := row_ne hB hG hig
   have ehi := hdB_row hG hig hi0
   (repeat simp -implicitDefEqProofs only [SE, SU, SV, hlti])
   refine joinK_i ?_
   have skip : (i ∈ T ∨ (0 ≤ bsR K B T i ∧ ¬ insLt (hdB B i) (hdB B (bsR K B T i).toNat))) → ∀ W', St W0 (arr DOT T_api_Dot xa xc out :: arr BOO T_bool (some ⟨go, oo, none⟩) oc ((List.range B.length).map (tdB T)) :: M) W' →
     S.rostrumref18_Line.j6 K2 (.slice ka K.length kc) (.slice ta K.length tc) (.slice ga B.length gc) (.slice (some ⟨go, oo, none⟩) B.length oc) (.slice xa out.length xc) (.int .i64 (n : Int)) (.int .i64 (bsR K B T i)) (.int .i64 (i : Int)) W' := fun hs W' h => by
    unfold S.rostrumref18_Line.j6
    rw [if_pos hs] at hK2
    (repeat simp -implicitDefEqProofs only [SE, SU, SV, ewi])
    exact hK2 _ h
   have look : ¬ (i ∈ T ∨ (0 ≤ bsR K B T i ∧ ¬ insLt (hdB B i) (hdB B (bsR K B T i).toNat))) → ∀ W', St W0 (arr DOT T_api_Dot xa xc out :: arr BOO T_bool (some ⟨go, oo, none⟩) oc ((List.range B.length).map (tdB T)) :: M) W' →
     loopK (fun K3 s W => S.rostrumref18_Line.l3 (fun s W => S.rostrumref18_Line.j7 (fun s W => S.rostrumref18_Line.j6 K2 (nthv s 0) (nthv s 1) (nthv s 2) (nthv s 3) (nthv s 4) (nthv s 5) (nthv s 6) (nthv s 7) W) (nthv s 0) (nthv s 1) (nthv s 2) (nthv s 3) (nthv s 4) (nthv s 5) (nthv s 6) (nthv s 7) (nthv s 8) W) K3 (nthv s 0) (nthv s 1) (nthv s 2) (nthv s 3) (nthv s 4) (nthv s 5) (nthv s 6) (nthv s 7) (nthv s 8) (nthv s 9) W)
      [.slice ka K.length kc, .slice ta K.length tc, .slice ga B.length gc, .slice (some ⟨go, oo, none⟩) B.length oc, .slice xa out.length xc, .int .i64 (n : Int), .int .i64 (bsR K B T i), .int .i64 (i : Int), (.bool true), (.int .i64 0)] W' := fun hs W' h => by
    rw [if_neg hs] at hK2
    refine loop_c (σ := Unit) B.length (fun k _ => [.slice ka K.length kc, .slice ta K.length tc, .slice ga B.length gc, .slice (some ⟨go, oo, none⟩) B.length oc, .slice xa out.length xc, .int .i64 (n : Int), .int .i64 (bsR K B T i), .int .i64 (i : Int), .bool (frB K B T i k), .int .i64 (k : Int)])
     (fun k _ W1 => St W0 (arr DOT T_api_Dot xa xc out :: arr BOO T_bool (some ⟨go, oo, none⟩) oc ((List.range B.length).map (tdB T)) :: M) W1) () rfl h ?_
    clear h
    rintro K3 k _ W4 hkk h hK3
    simp -implicitDefEqProofs only [SE, SU, SV]
    unfold S.rostrumref18_Line.l3
    have ewk : IntKind.i64.wrap ((k : Int) + 1) = ((k + 1 : Nat) : Int) := by rw [i64w]; omega
    by_cases hltk : (k : Int) < (B.length : Int)
    ·have hkb : k < B.length := by omega
     have hkg : k < rG.length := by omega
     have hK3 := fun W' => hK3 () W' hkb
     rw [frB] at hK3
     cases hf : frB K B T i k with
     | false =>
      rw [hf, Bool.false_and] at hK3
      (repeat simp -implicitDefEqProofs only [SE, SU, SV, hltk, ewk])
      exact hK3 _ (by first | assumption | exact St.tick (by assumption) | exact St.tick (St.tick (by assumption)))
     | true =>
      rw [hf, Bool.true_and] at hK3
      by_cases hki : k = i
      ·subst hki
       rw [decide_eq_true rfl, Bool.true_or, Bool.true_or] at hK3
       (repeat simp -implicitDefEqProofs only [SE, SU, SV, hltk, ewk])
       exact hK3 _ (by first | assumption | exact St.tick (by assumption) | exact St.tick (St.tick (by assumption)))
      ·rw [decide_eq_false hki, Bool.false_or] at hK3
       have hki2 : ¬ (k : Int) = (i : Int) := by omega
       (repeat simp -implicitDefEqProofs only [SE, SU, SV, hltk, hki2, ix2 hkb])
       refine ldGb (i := k) (m := (List.range B.length).map (tdB T)) (by rw [dl]; exact hkb) (by first | assumption | exact St.tick (by assumption) | exact St.tick (St.tick (by assumption))) ?_
       rw [← getD_at (by rw [dl]; exact hkb), mr_at hkb]
       rw [show decide (k ∈ T) = tdB T k from rfl] at hK3
       cases hkT : tdB T k with
       | true =>
        rw [hkT, Bool.true_or] at hK3
        (repeat simp -implicitDefEqProofs only [SE, SU, SV, ewk])
        exact hK3 _ (by first | assumption | exact St.tick (by assumption) | exact St.tick (St.tick (by assumption)))
       | false =>
        rw [hkT, Bool.false_or] at hK3
        have hk0 := row_ne hB hG hkg
        have ehk := hdB_row hG hkg hk0
        obtain ⟨hp, _⟩ := plN_at hK (hdB_mem hB hib)
        obtain ⟨hq, _⟩ := plN_at hK (hdB_mem hB hkb)
        have ep := plN_some hK (hdB_mem hB hib)
        have eq_ := plN_some hK (hdB_mem hB hkb)
        have hhk : hkB K B i k = tab K (plN K (hdB B i)) (plN K (hdB B k)) := rfl
        rw [hhk] at hK3
        clear hhk hf hs
        generalize plN K (hdB B i) = p at *
        generalize plN K (hdB B k) = q at *
        generalize hdB B i = xi at *
        generalize hdB B k = xk at *
        have hpT : p < rT.length := by omega
        obtain ⟨_, hrow⟩ := tb_at2 hT hp hp
        have hql : q < rT[p].l.length := by rw [hrow]; simpa using hq
        haveI rk := r3 k hkg
        haveI rp := r5 _ hpT
        repeat (with_reducible refine gdS rfl ?_)
        refine ixA (i := i) (a := ga) (l := rG) (A := GSY) (by first | assumption | exact St.tick (by assumption) | exact St.tick (St.tick (by assumption))) rfl hgl.symm hig fun g1 o1 hga => ?_
        subst hga
        repeat (with_reducible refine gdS rfl ?_)
        refine ldH hig (by first | assumption | exact St.tick (by assumption) | exact St.tick (St.tick (by assumption))) ?_
        repeat (with_reducible refine gdS rfl ?_)
        refine ixA (i := 0) (a := rG[i].a) (l := rG[i].l) (A := INS) (by first | assumption | exact St.tick (by assumption) | exact St.tick (St.tick (by assumption))) rfl rfl hi0 fun g2 o2 ha2 => ?_
        rw [ha2] at ri
        repeat (with_reducible refine gdS rfl ?_)
        refine okF_i addrF_blk ?_
        repeat (with_reducible refine gdS rfl ?_)
        refine ldA (j := 0) (i := 0) (l := rG[i].l) (A := INS) (by first | assumption | exact St.tick (by assumption) | exact St.tick (St.tick (by assumption))) rfl hi0 (v := .agg #[.int .i64 xi.d.rep, .int .i64 xi.d.n]) (by rw [ehi]; rfl) (by simp [INS]) ?_
        repeat (with_reducible refine gdS rfl ?_)
        refine okF_i (ix2 hkb _ _ _) ?_
        repeat (with_reducible refine gdS rfl ?_)
        refine ldH hkg (by first | assumption | exact St.tick (by assumption) | exact St.tick (St.tick (by assumption))) ?_
        repeat (with_reducible refine gdS rfl ?_)
        refine ixA (i := 0) (a := rG[k].a) (l := rG[k].l) (A := INS) (by first | assumption | exact St.tick (by assumption) | exact St.tick (St.tick (by assumption))) rfl rfl hk0 fun g3 o3 ha3 => ?_
        rw [ha3] at rk
        repeat (with_reducible refine gdS rfl ?_)
        refine okF_i addrF_blk ?_
        repeat (with_reducible refine gdS rfl ?_)
        refine ldA (j := 0) (i := 0) (l := rG[k].l) (A := INS) (by first | assumption | exact St.tick (by assumption) | exact St.tick (St.tick (by assumption))) rfl hk0 (v := .agg #[.int .i64 xk.d.rep, .int .i64 xk.d.n]) (by rw [ehk]; rfl) (by simp [INS]) ?_
        repeat (with_reducible refine gdS rfl ?_)
        refine rPlace (a := ka) (l := K) (d := xi.d) (by first | assumption | exact St.tick (by assumption) | exact St.tick (St.tick (by assumption))) (by omega) fun W5 h => ?_
        rw [ep]
        refine stb_ldA0 (i := 0) (l := rG[k].l) (A := INS) h rfl hk0 (v := .agg #[.int .i64 xk.d.rep, .int .i64 xk.d.n]) (by rw [ehk]; rfl) (by simp [INS]) ?_
        refine stb_ldA0 (i := k) (l := rG) (A := GSY) h rfl hkg (v := rG[k].v) rfl (by simp) ?_
        repeat (with_reducible refine gdS rfl ?_)
        refine ixA (i := p) (a := ta) (l := rT) (A := GSY) (by first | assumption | exact St.tick (by assumption) | exact St.tick (St.tick (by assumption))) rfl htl.symm hpT fun g4 o4 hta => ?_
        subst hta
        repeat (with_reducible refine gdS rfl ?_)
        refine ldH hpT (by first | assumption | exact St.tick (by assumption) | exact St.tick (St.tick (by assumption))) ?_
        repeat (with_reducible refine gdS rfl ?_)
        refine rPlace (a := ka) (l := K) (d := xk.d) (by first | assumption | exact St.tick (by assumption) | exact St.tick (St.tick (by assumption))) (by omega) fun W6 h => ?_
        rw [eq_]
        refine stb_ldA0 (i := p) (l := rT) (A := GSY) h rfl hpT (v := rT[p].v) rfl (by simp) ?_
        repeat (with_reducible refine gdS rfl ?_)
        refine ixA (i := q) (a := rT[p].a) (l := rT[p].l) (A := BOO) (by first | assumption | exact St.tick (by assumption) | exact St.tick (St.tick (by assumption))) rfl rfl hql fun g5 o5 ha5 => ?_
        rw [ha5] at rp
        refine ldA0 (i := q) (l := rT[p].l) (A := BOO) (by first | assumption | exact St.tick (by assumption) | exact St.tick (St.tick (by assumption))) rfl hql (v := .bool (tab K p q)) (by simp only [hrow, List.getElem_map, List.getElem_range]; rfl) (by simp) ?_
        cases hh : tab K p q with
        | true =>
         rw [hh] at hK3
         (repeat simp -implicitDefEqProofs only [SE, SU, SV, ewk])
         exact hK3 _ (by first | assumption | exact St.tick (by assumption) | exact St.tick (St.tick (by assumption)))
        | false =>
         rw [hh] at hK3
         (repeat simp -implicitDefEqProofs only [SE, SU, SV, ewk])
         exact hK3 _ (by first | assumption | exact St.tick (by assumption) | exact St.tick (St.tick (by assumption)))
    ·have hk2 : k = B.length := by omega
     subst hk2
     (repeat simp -implicitDefEqProofs only [SE, SU, SV, hltk])
     unfold S.rostrumref18_Line.j7
     cases hf : frB K B T i B.length with
     | true =>
      rw [if_pos hf] at hK2
      (repeat simp -implicitDefEqProofs only [SE, SU, SV])
      unfold S.rostrumref18_Line.j6
      (repeat simp -implicitDefEqProofs only [SE, SU, SV, ewi])
      exact hK2 _ h
     | false =>
      rw [if_neg (by rw [hf]; simp)] at hK2
      (repeat simp -implicitDefEqProofs only [SE, SU, SV])
      unfold S.rostrumref18_Line.j6
      (repeat simp -implicitDefEqProofs only [SE, SU, SV, ewi])
      exact hK2 _ h
   (repeat simp -implicitDefEqProofs only [SE, SU, SV, ix2 hib])
   refine ldGb (i := i) (m := (List.range B.length).map (tdB T)) (by rw [dl]; exact hib) (by first | assumption | exact St.tick (by assumption) | exact St.tick (St.tick (by assumption))) ?_
   rw [← getD_at (by rw [dl]; exact hib), mr_at hib]
   cases hiT : tdB T i with
   | true =>
    (repeat simp -implicitDefEqProofs only [SE, SU, SV])
    refine skip (.inl (of_decide_eq_true hiT)) _ ?_
    exact (by first | assumption | exact St.tick (by assumption) | exact St.tick (St.tick (by assumption)))
   | false =>
    have hiT2 : i ∉ T := of_decide_eq_false hiT
    by_cases hb : 0 ≤ bsR K B T i
    ·obtain ⟨w, hw, hwi⟩ : ∃ w : Nat, bsR K B T i = w ∧ w < i := by
      rcases bsR_inv hK hB (T := T) (i := i) (by omega) with ⟨e, _⟩ | ⟨w, e, h1, _⟩
      ·omega
      ·exact ⟨w, e, h1⟩
     have hwg : w < rG.length := by omega
     have hw0 := row_ne hB hG hwg
     have ehw := hdB_row hG hwg hw0
     haveI rw_ := r3 w hwg
     rw [hw] at skip look ⊢
     rw [Int.toNat_natCast] at skip look
     have hb : (0 : Int) ≤ (w : Int) := by omega
     (repeat simp -implicitDefEqProofs only [SE, SU, SV, hb])
     refine ixA (i := i) (a := ga) (l := rG) (A := GSY) (by first | assumption | exact St.tick (by assumption) | exact St.tick (St.tick (by assumption))) rfl hgl.symm hig fun g1 o1 hga => ?_
     subst hga
     refine ldH hig (by first | assumption | exact St.tick (by assumption) | exact St.tick (St.tick (by assumption))) ?_
     skip
     refine ixA (i := 0) (a := rG[i].a) (l := rG[i].l) (A := INS) (by first | assumption | exact St.tick (by assumption) | exact St.tick (St.tick (by assumption))) rfl rfl hi0 fun g2 o2 ha2 => ?_
     rw [ha2] at ri
     refine ldA0 (i := 0) (l := rG[i].l) (A := INS) (by first | assumption | exact St.tick (by assumption) | exact St.tick (St.tick (by assumption))) rfl hi0 (v := .agg (INS.row (hdB B i)).toArray) (by rw [ehi]; rfl) (by simp [INS]) ?_
     (repeat simp -implicitDefEqProofs only [SE, SU, SV, ix2 (show w < B.length by omega)])
     refine ldH hwg (by first | assumption | exact St.tick (by assumption) | exact St.tick (St.tick (by assumption))) ?_
     skip
     refine ixA (i := 0) (a := rG[w].a) (l := rG[w].l) (A := INS) (by first | assumption | exact St.tick (by assumption) | exact St.tick (St.tick (by assumption))) rfl rfl hw0 fun g3 o3 ha3 => ?_
     rw [ha3] at rw_
     refine ldA0 (i := 0) (l := rG[w].l) (A := INS) (by first | assumption | exact St.tick (by assumption) | exact St.tick (St.tick (by assumption))) rfl hw0 (v := .agg (INS.row (hdB B w)).toArray) (by rw [ehw]; rfl) (by simp [INS]) ?_
     skip
     refine rLess (x := hdB B i) (y := hdB B w) (by first | assumption | exact St.tick (by assumption) | exact St.tick (St.tick (by assumption))) fun W6 h => ?_
     by_cases hlt2 : insLt (hdB B i) (hdB B w)
     ·rw [decide_eq_true hlt2]
      (repeat simp -implicitDefEqProofs only [SE, SU, SV])
      refine look (fun h => h.elim hiT2 fun h => h.2 hlt2) _ ?_
      exact (by first | assumption | exact St.tick (by assumption) | exact St.tick (St.tick (by assumption)))
     ·rw [decide_eq_false hlt2]
      (repeat simp -implicitDefEqProofs only [SE, SU, SV])
      refine skip (.inr ⟨hb, hlt2⟩) _ ?_
      exact (by first | assumption | exact St.tick (by assumption) | exact St.tick (St.tick (by assumption)))
    ·(repeat simp -implicitDefEqProofs only [SE, SU, SV, hb])
     refine look (fun h => h.elim hiT2 fun h => hb h.1) _ ?_
     exact (by first | assumption | exact St.tick (by assumption) | exact St.tick (St.tick (by assumption)))
  ·have hi2 : i = B.length := by omega
   subst hi2
   have hug : u < rG.length := by omega
   haveI ru := r3 u hug
   have hrow : B.getD u [] = rG[u].l := by rw [← hG, List.getD_eq_getElem?_getD, List.getElem?_map, List.getElem?_eq_getElem hug]; rfl
   have hrl : rG[u].l.length ≤ 1000 := hBl _ (by rw [← hG]; exact List.mem_map.2 ⟨_, List.getElem_mem hug, rfl⟩)
   rw [hu]
   (repeat simp -implicitDefEqProofs only [SE, SU, SV, hlti])
   unfold S.rostrumref18_Line.j5
   (repeat simp -implicitDefEqProofs only [SE, SU, SV, ix2 hub])
   refine stGb (i := u) (m := (List.range B.length).map (tdB T)) (x := true) (by rw [dl]; exact hub) (by first | assumption | exact St.tick (by assumption) | exact St.tick (St.tick (by assumption))) fun W5 h => ?_
   rw [tdB_snoc] at h
   refine ixA (i := u) (a := ga) (l := rG) (A := GSY) (by first | assumption | exact St.tick (by assumption) | exact St.tick (St.tick (by assumption))) rfl hgl.symm hug fun g1 o1 hga => ?_
   subst hga
   refine ldH hug (by first | assumption | exact St.tick (by assumption) | exact St.tick (St.tick (by assumption))) ?_
   refine rDots (a := rG[u].a) (l := rG[u].l) (by first | assumption | exact St.tick (by assumption) | exact St.tick (St.tick (by assumption))) (by omega) fun da dc W6 h => ?_
   have hml : (rG[u].l.map (fun x : Ins => x.d)).length ≤ 1000 := by simpa using hrl
   have hdd : rG[u].l.map (fun x : Ins => x.d) = (B.getD u []).map (fun x : Ins => x.d) := by rw [hrow]
   generalize rG[u].l.map (fun x : Ins => x.d) = dd at *
   refine appA (A := DOT) (a := xa) (l := out) (m := dd) h rfl (by omega) (by simp only [maxLen]; omega) fun a6 c6 W7 h => ?_
   unfold S.rostrumref18_Line.j4
   (repeat simp -implicitDefEqProofs only [SE, SU, SV, ewn])
   refine hK1 (out ++ dd, a6, c6) _ ⟨⟨?_, ?_⟩, St.wk h⟩
   ·rw [hout, hdd, mpB, mpB, List.map_append, List.flatten_append, List.map_append]
    simp
   ·simp only [List.length_append]; omega
 ·have hn2 : n = B.length := by omega
  subst hn2
  subst hout
  (repeat simp -implicitDefEqProofs only [SE, SU, SV, hlt])
  unfold S.rostrumref18_Line.j3
  exact hk _ _ _ (St.wk (L' := arr DOT T_api_Dot xa xc ((mpB B (tdR K B B.length)).flatten.map (·.d)) :: M) h)
end
end Go.Proofs.YtkjhccpanedccaaGreat
namespace Go.Proofs.YtkjhccpanedccaaGreat
set_option linter.unusedVariables false
set_option linter.unusedSimpArgs false
open Go Go.Eng Go.Tar Go.Sort
theorem good_rep {l : List Ins} (hg : goodO l = true) : ∀ x ∈ l, 0 ≤ x.d.rep ∧ x.d.rep < 7 ∧ 1 ≤ x.d.n := fun x hx => by
 have h := insOne_dot ((goodO_iff.1 hg).1 x hx).1
 exact ⟨h.1.1, h.1.2, h.2.1⟩
section
variable {W0 W : World} {L : List Asn}
set_option maxRecDepth 100000 in
set_option maxHeartbeats 4000000 in
theorem rLine {a : Option Addr} {c : Nat} {l : List Ins} {k : Value → World → Prop} (h : St W0 L W) [hr : Rd W0 L a INS l] (hl : l.length < 1000000)
  (hk : ∀ a' c' W', St W0 (arr DOT T_api_Dot a' c' (lineTop (P7.all 0) [] l) :: L) W' → k (.slice a' (lineTop (P7.all 0) [] l).length c') W') :
  callK PR F_rostrumref18_Line [.slice a l.length c, .agg #[.int .i64 (P7.all (0 : Int)).x0, .int .i64 (P7.all (0 : Int)).x1, .int .i64 (P7.all (0 : Int)).x2, .int .i64 (P7.all (0 : Int)).x3, .int .i64 (P7.all (0 : Int)).x4, .int .i64 (P7.all (0 : Int)).x5, .int .i64 (P7.all (0 : Int)).x6], .slice none 0 0] k W := by
 apply S.rostrumref18_Line.call
 unfold S.rostrumref18_Line.body
 refine bxa h fun vb W1 h => ?_
 have h : St W0 (cells vb [.int .i64 (P7.all (0 : Int)).x0, .int .i64 (P7.all (0 : Int)).x1, .int .i64 (P7.all (0 : Int)).x2, .int .i64 (P7.all (0 : Int)).x3, .int .i64 (P7.all (0 : Int)).x4, .int .i64 (P7.all (0 : Int)).x5, .int .i64 (P7.all (0 : Int)).x6] T_a7_int64 :: L) W1 := h
 refine rGood (a := a) (l := l) h (by omega) fun W2 h => ?_
 cases hg : goodO l with
 | false =>
  have e : lineTop (P7.all 0) [] l = [] := by unfold lineTop; rw [if_neg (by rw [hg]; simp)]
  rw [e] at hk
  (repeat simp -implicitDefEqProofs only [SE, SU, SV])
  exact hk none 0 _ ((St.drop h).ent (arr_nil DOT T_api_Dot))
 | true =>
 obtain ⟨hg1, hg2, hg3⟩ := goodO_iff.1 hg
 haveI rn : ∀ M, Rd W0 M none DOT [] := fun M => Rd.nil _ _ _ _
 (repeat simp -implicitDefEqProofs only [SE, SU, SV])
 refine joinK_i ?_
 refine loop_c (σ := List Ins × Option Addr × Nat) l.length (fun i s => [.slice a l.length c, .slice none 0 0, .pointer (some ⟨vb, 0, none⟩), .slice s.2.1 s.1.length s.2.2, .int .i64 (i : Int)])
  (fun i s W1 => s.1 = l.take i ∧ St W0 (arr INS T_rostrumref18_Inst s.2.1 s.2.2 s.1 :: cells vb [.int .i64 (P7.all (0 : Int)).x0, .int .i64 (P7.all (0 : Int)).x1, .int .i64 (P7.all (0 : Int)).x2, .int .i64 (P7.all (0 : Int)).x3, .int .i64 (P7.all (0 : Int)).x4, .int .i64 (P7.all (0 : Int)).x5, .int .i64 (P7.all (0 : Int)).x6] T_a7_int64 :: L) W1) ([], none, 0) rfl ⟨rfl, h.ent (arr_nil _ _)⟩ ?_
 clear h
 rintro K i ⟨acc, xa, xc⟩ W3 hi ⟨hacc, h⟩ hK
 simp -implicitDefEqProofs only [SE, SU, SV]
 unfold S.rostrumref18_Line.l8
 simp only at hacc h
 have hal : acc.length = i := by rw [hacc]; simp; omega
 by_cases hlt : (i : Int) < (l.length : Int)
 ·have hib : i < l.length := by omega
  have ew : IntKind.i64.wrap ((i : Int) + 1) = ((i + 1 : Nat) : Int) := by rw [i64w]; omega
  obtain ⟨d1, d2, d3⟩ := good_rep hg _ (List.getElem_mem hib)
  (repeat simp -implicitDefEqProofs only [SE, SU, SV, hlt])
  refine joinK_i ?_
  (repeat (first | ((with_reducible refine v5 ?_); refine ⟨_, rfl, ?_⟩) | simp -implicitDefEqProofs only [SE, SU, SV]))
  refine ixA (i := i) (a := a) (l := l) (A := INS) (by first | assumption | exact St.tick (by assumption) | exact St.tick (St.tick (by assumption))) rfl rfl hib fun g o ha => ?_
  subst ha
  (repeat simp -implicitDefEqProofs only [SE, SU, SV])
  refine ldA0 (i := i) (l := l) (A := INS) (by first | assumption | exact St.tick (by assumption) | exact St.tick (St.tick (by assumption))) rfl hib (v := .agg #[.int .i64 (l[i].d).rep, .int .i64 (l[i].d).n]) rfl (by simp [INS]) ?_
  refine rIs (v := P7.all 0) (d := l[i].d) (a := none) (l := []) (c := 0) d1 d2 (by first | assumption | exact St.tick (by assumption) | exact St.tick (St.tick (by assumption))) (by decide) fun W6 h => ?_
  rw [show isO (P7.all 0) [] l[i].d = false from q0_no d3]
  (repeat simp -implicitDefEqProofs only [SE, SU, SV])
  refine ixA (i := i) (a := some ⟨g, o, none⟩) (l := l) (A := INS) (by first | assumption | exact St.tick (by assumption) | exact St.tick (St.tick (by assumption))) rfl rfl hib fun g2 o2 ha => ?_
  cases ha
  refine ldA0 (i := i) (l := l) (A := INS) (by first | assumption | exact St.tick (by assumption) | exact St.tick (St.tick (by assumption))) rfl hib (v := .agg (INS.row l[i]).toArray) rfl (by simp [INS]) ?_
  refine bsA INS [l[i]] (n := 1) (by first | assumption | exact St.tick (by assumption) | exact St.tick (St.tick (by assumption))) rfl rfl (by decide) (by decide) rfl fun a5 c5 W12 h => ?_
  refine appA (A := INS) (a := xa) (l := acc) (m := [l[i]]) h rfl (by simp only [List.length_cons, List.length_nil]; omega) (by simp only [List.length_cons, List.length_nil, maxLen]; omega) fun a6 c6 W13 h => ?_
  unfold S.rostrumref18_Line.j11
  (repeat simp -implicitDefEqProofs only [SE, SU, SV, ew])
  exact hK (acc ++ [l[i]], a6, c6) _ hib ⟨by rw [hacc, List.take_succ_eq_append_getElem hib], St.wk h⟩
 ·have e : i = l.length := by omega
  subst e
  rw [List.take_length] at hacc
  subst hacc
  (repeat simp -implicitDefEqProofs only [SE, SU, SV, hlt])
  refine rRmv hg h fun K ka kc W4 hsub hkep hsh h => ?_
  have hKl : K.length ≤ 1000 := Nat.le_trans hsub.length_le hg3
  have hK : Dk K := ⟨hg2.sublist (hsub.map _), fun x hx => good_rep hg x (hsub.subset hx)⟩
  rw [← lineR_top hg hsub hkep hsh] at hk
  unfold S.rostrumref18_Line.j2
  refine rTable (a := ka) (l := K) (c := kc) (fun x hx => ⟨(hK.2 x hx).1, (hK.2 x hx).2.1⟩) h hKl fun ta tc W5 h => ?_
  refine rGroups (a := ka) (c := kc) (ta := ta) (l := K) h hKl fun ga gc W6 h => ?_
  obtain ⟨rT, hT, h⟩ := lg_at (St.wk (L' := TB ta tc K.length (tab K) K.length :: LGI ga gc (groupsR K K.length) :: arr INS T_rostrumref18_Inst ka kc K :: L) h)
  obtain ⟨rG, hG, h⟩ := lg_at (St.wk (L' := LGI ga gc (groupsR K K.length) :: arr GSY T_s_bool ta tc rT :: many (gch BOO T_bool) rT :: arr INS T_rostrumref18_Inst ka kc K :: L) h)
  have h := St.wk (L' := many (gch INS T_rostrumref18_Inst) rG :: arr GSY T_s_rostrumref18_Inst ga gc rG :: many (gch BOO T_bool) rT :: arr GSY T_s_bool ta tc rT :: arr INS T_rostrumref18_Inst ka kc K :: L) h
  have hgm : ∀ G ∈ groupsR K K.length, G.length ≤ 1000 := fun G hG => by
   obtain ⟨j, _, rfl⟩ := (groupsR_inv hK (Nat.le_refl _)).1 G hG
   have := grpR_len K j K.length
   omega
  have hgl := groupsR_len K K.length
  simp -implicitDefEqProofs only [SE, SU, SV]
  refine rPick (K := K) (ka := ka) (ga := ga) (ta := ta) (rG := rG) (rT := rT) (B := groupsR K K.length) hK hKl (groupsR_gs hK) (by omega) hgm hG hT (fun i hi => gch_rd (List.getElem_mem hi)) (fun i hi => ?_) h fun a' c' W7 h => ?_
  ·haveI := gch_rd (W0 := W0) (A := BOO) (t := T_bool) (L := arr GSY T_s_bool ta tc rT :: arr INS T_rostrumref18_Inst ka kc K :: L) (List.getElem_mem hi)
   infer_instance
  ·unfold lineR at hk
   exact hk a' c' _ (St.wk h)
end
end Go.Proofs.YtkjhccpanedccaaGreat
namespace Go.Proofs.YtkjhccpanedccaaGreat
set_option linter.unusedVariables false
set_option linter.unusedSimpArgs false
open Go Go.Eng Go.Tar Go.Sort
def KPT : Ly CmdX := ⟨18, by omega, fun x => [.int .i64 x.i.d.rep, .int .i64 x.i.d.n, .int .i64 x.i.s, .int .i64 x.i.v.x0, .int .i64 x.i.v.x1, .int .i64 x.i.v.x2, .int .i64 x.i.v.x3, .int .i64 x.i.v.x4, .int .i64 x.i.v.x5, .int .i64 x.i.v.x6, .int .i64 x.w.x0, .int .i64 x.w.x1, .int .i64 x.w.x2, .int .i64 x.w.x3, .int .i64 x.w.x4, .int .i64 x.w.x5, .int .i64 x.w.x6, x.b.v], fun _ => rfl, fun _ => rfl⟩
def rxo (p : Nat) (s : XS) : Asn := fun h => ∃ x : XX, x.ys.map CmdX.er = s.cs ∧ sep [cells p [.int .i64 s.have_.x0, .int .i64 s.have_.x1, .int .i64 s.have_.x2, .int .i64 s.have_.x3, .int .i64 s.have_.x4, .int .i64 s.have_.x5, .int .i64 s.have_.x6, .slice x.la x.ys.length x.lc, .slice x.da s.done.length x.dc] T_rostrumref18_Exec,
 arr KPT T_rostrumref18_kept x.la x.lc x.ys, arr DOT T_api_Dot x.da x.dc s.done, many fch (x.ys.map (·.b))] h
section
variable {W0 W : World} {L : List Asn} {p : Nat} {s : XS} {k : Value → World → Prop}
theorem rxo_at (h : St W0 (rxo p s :: L) W) : ∃ (ys : List CmdX) (la : Option Addr) (lc : Nat) (da : Option Addr) (dc : Nat), ys.map CmdX.er = s.cs ∧
  St W0 (cells p [.int .i64 s.have_.x0, .int .i64 s.have_.x1, .int .i64 s.have_.x2, .int .i64 s.have_.x3, .int .i64 s.have_.x4, .int .i64 s.have_.x5, .int .i64 s.have_.x6, .slice la ys.length lc, .slice da s.done.length dc] T_rostrumref18_Exec :: arr KPT T_rostrumref18_kept la lc ys :: arr DOT T_api_Dot da dc s.done :: many fch (ys.map (·.b)) :: L) W := by
 obtain ⟨⟨ys, r1, r2, m, la, lc, da, dc⟩, h⟩ := h.ex
 obtain ⟨h1, h⟩ := h.fact
 exact ⟨ys, la, lc, da, dc, h1, h.flat⟩
theorem rxo_of {ys : List CmdX} {la : Option Addr} {lc : Nat} {da : Option Addr} {dc : Nat} (hy : ys.map CmdX.er = s.cs)
  (h : St W0 (cells p [.int .i64 s.have_.x0, .int .i64 s.have_.x1, .int .i64 s.have_.x2, .int .i64 s.have_.x3, .int .i64 s.have_.x4, .int .i64 s.have_.x5, .int .i64 s.have_.x6, .slice la ys.length lc, .slice da s.done.length dc] T_rostrumref18_Exec :: arr KPT T_rostrumref18_kept la lc ys :: arr DOT T_api_Dot da dc s.done :: many fch (ys.map (·.b)) :: L) W) : St W0 (rxo p s :: L) W :=
 h.ent ((ent.pack [_, _, _, _] L).trans (ent.weak fun _ hp => ⟨⟨ys, 0, 0, [], la, lc, da, dc⟩, hy, hp⟩))
theorem rxo_new (h : St W0 (cells p [.int .i64 (P7.all (0 : Int)).x0, .int .i64 (P7.all (0 : Int)).x1, .int .i64 (P7.all (0 : Int)).x2, .int .i64 (P7.all (0 : Int)).x3, .int .i64 (P7.all (0 : Int)).x4, .int .i64 (P7.all (0 : Int)).x5, .int .i64 (P7.all (0 : Int)).x6, .slice none 0 0, .slice none 0 0] T_rostrumref18_Exec :: L) W) : St W0 (rxo p XS.new :: L) W := by
 have h := ((h.ent (arr_nil KPT T_rostrumref18_kept)).ent (arr_nil DOT T_api_Dot)).ent (many_nil (F := fch))
 exact rxo_of (s := XS.new) (ys := []) (la := none) (lc := 0) (da := none) (dc := 0) rfl (St.wk (L' := cells p [.int .i64 (P7.all (0 : Int)).x0, .int .i64 (P7.all (0 : Int)).x1, .int .i64 (P7.all (0 : Int)).x2, .int .i64 (P7.all (0 : Int)).x3, .int .i64 (P7.all (0 : Int)).x4, .int .i64 (P7.all (0 : Int)).x5, .int .i64 (P7.all (0 : Int)).x6, .slice none 0 0, .slice none 0 0] T_rostrumref18_Exec :: arr KPT T_rostrumref18_kept none 0 [] :: arr DOT T_api_Dot none 0 [] :: many fch [] :: L) h)
def findY (ys : List CmdX) (d : Dot) : Option Nat := ys.findIdx? fun y => decide (y.i.d = d)
theorem findY_some {ys : List CmdX} {d : Dot} {q : Nat} (h : findY ys d = some q) (hy : ys.map CmdX.er = s.cs) : ∃ hq : q < ys.length, s.find d = some ys[q].er := by
 unfold findY at h
 rw [List.findIdx?_eq_some_iff_getElem] at h
 obtain ⟨h1, h2, h3⟩ := h
 refine ⟨h1, ?_⟩
 rw [find_er hy]
 have : ys.find? (fun y => decide (y.i.d = d)) = some ys[q] := by
  rw [List.find?_eq_some_iff_getElem]
  exact ⟨h2, q, h1, rfl, fun j hj => by simpa using h3 j hj⟩
 rw [this]; rfl
theorem findY_none {ys : List CmdX} {d : Dot} (h : findY ys d = none) (hy : ys.map CmdX.er = s.cs) : s.find d = none := by
 unfold findY at h
 rw [List.findIdx?_eq_none_iff] at h
 rw [find_er hy, List.find?_eq_none.2 fun y hy => by simpa using h y hy]; rfl
set_option maxRecDepth 100000 in
set_option maxHeartbeats 4000000 in
theorem rFind {ys : List CmdX} {la : Option Addr} {lc : Nat} {dv : Value} {hv : P7 Int} {d : Dot} (hl : ys.length ≤ 1000) (h : St W0 (cells p [.int .i64 hv.x0, .int .i64 hv.x1, .int .i64 hv.x2, .int .i64 hv.x3, .int .i64 hv.x4, .int .i64 hv.x5, .int .i64 hv.x6, .slice la ys.length lc, dv] T_rostrumref18_Exec :: L) W) [hr : Rd W0 L la KPT ys]
  (hk : ∀ W', St W0 (cells p [.int .i64 hv.x0, .int .i64 hv.x1, .int .i64 hv.x2, .int .i64 hv.x3, .int .i64 hv.x4, .int .i64 hv.x5, .int .i64 hv.x6, .slice la ys.length lc, dv] T_rostrumref18_Exec :: L) W' → k (.int .i64 (match findY ys d with | some i => (i : Int) | none => -1)) W') :
  callK PR F_rostrumref18_Exec_find [.pointer (some ⟨p, 0, none⟩), .agg #[.int .i64 d.rep, .int .i64 d.n]] k W := by
 apply S.rostrumref18_Exec_find.call
 unfold S.rostrumref18_Exec_find.body
 refine bxa h fun db W1 h => ?_
 have h : St W0 (cells db [.int .i64 d.rep, .int .i64 d.n] T_api_Dot :: cells p [.int .i64 hv.x0, .int .i64 hv.x1, .int .i64 hv.x2, .int .i64 hv.x3, .int .i64 hv.x4, .int .i64 hv.x5, .int .i64 hv.x6, .slice la ys.length lc, dv] T_rostrumref18_Exec :: L) W1 := h
 refine loop_c (σ := Unit) ys.length (fun i _ => [.pointer (some ⟨p, 0, none⟩), .pointer (some ⟨db, 0, none⟩), .int .i64 (i : Int)])
  (fun i _ W1 => (∀ j (hj : j < ys.length), j < i → ys[j].i.d ≠ d) ∧ St W0 (cells db [.int .i64 d.rep, .int .i64 d.n] T_api_Dot :: cells p [.int .i64 hv.x0, .int .i64 hv.x1, .int .i64 hv.x2, .int .i64 hv.x3, .int .i64 hv.x4, .int .i64 hv.x5, .int .i64 hv.x6, .slice la ys.length lc, dv] T_rostrumref18_Exec :: L) W1) () rfl ⟨fun _ _ h => by omega, h⟩ ?_
 clear h
 rintro K i _ W2 hi ⟨hno, h⟩ hK
 simp -implicitDefEqProofs only [SE, SU, SV]
 unfold S.rostrumref18_Exec_find.l1
 by_cases hlt : (i : Int) < (ys.length : Int)
 ·have hib : i < ys.length := by omega
  have ew : IntKind.i64.wrap ((i : Int) + 1) = ((i + 1 : Nat) : Int) := by rw [i64w]; omega
  (repeat (first | ((with_reducible refine v5 ?_); refine ⟨_, rfl, ?_⟩) | simp -implicitDefEqProofs only [SE, SU, SV, hlt]))
  refine ixA (i := i) (a := la) (l := ys) (A := KPT) (by first | assumption | exact St.tick (by assumption) | exact St.tick (St.tick (by assumption))) rfl rfl hib fun g o ha => ?_
  subst ha
  (repeat simp -implicitDefEqProofs only [SE, SU, SV])
  refine ldA0 (i := i) (l := ys) (A := KPT) (by first | assumption | exact St.tick (by assumption) | exact St.tick (St.tick (by assumption))) rfl hib (v := .agg #[.int .i64 (ys[i].i.d).rep, .int .i64 (ys[i].i.d).n]) rfl (by simp [KPT]) ?_
  (repeat (first | ((with_reducible first | refine v5 ?_ | refine ve ?_); refine ⟨_, rfl, ?_⟩) | simp -implicitDefEqProofs only [SE, SU, SV]))
  have f2 := dot_eq ys[i].i.d d
  by_cases he : ys[i].i.d = d
  ·rw [decide_eq_true he] at f2
   have hp : findY ys d = some i := by
    unfold findY
    rw [List.findIdx?_eq_some_iff_getElem]
    exact ⟨hib, decide_eq_true he, fun j hj => by simpa using hno j (by omega) hj⟩
   rw [hp] at hk
   (repeat simp -implicitDefEqProofs only [SE, SU, SV, f2])
   exact hk _ (St.drop (by first | assumption | exact St.tick (by assumption) | exact St.tick (St.tick (by assumption))))
  ·rw [decide_eq_false he] at f2
   (repeat simp -implicitDefEqProofs only [SE, SU, SV, f2, ew])
   refine hK () _ hib ⟨fun j hj hji => ?_, (by first | assumption | exact St.tick (by assumption) | exact St.tick (St.tick (by assumption)))⟩
   by_cases e : j = i
   ·subst e; exact he
   ·exact hno j hj (by omega)
 ·have hp : findY ys d = none := by
   unfold findY
   rw [List.findIdx?_eq_none_iff]
   intro x hx
   obtain ⟨j, hj, rfl⟩ := List.getElem_of_mem hx
   simpa using hno j hj (by omega)
  rw [hp] at hk
  (repeat (first | ((with_reducible refine v5 ?_); refine ⟨_, rfl, ?_⟩) | simp -implicitDefEqProofs only [SE, SU, SV, hlt]))
  exact hk _ (St.drop (by first | assumption | exact St.tick (by assumption) | exact St.tick (St.tick (by assumption))))
end
end Go.Proofs.YtkjhccpanedccaaGreat
namespace Go.Proofs.YtkjhccpanedccaaGreat
set_option linter.unusedVariables false
set_option linter.unusedSimpArgs false
open Go Go.Eng Go.Tar Go.Sort
section
variable {W0 W : World} {L : List Asn} {p : Nat} {s : XS} {k : Value → World → Prop}
abbrev rxL (p : Nat) (s : XS) (ys : List CmdX) (la : Option Addr) (lc : Nat) (da : Option Addr) (dc : Nat) (L : List Asn) : List Asn :=
 cells p [.int .i64 s.have_.x0, .int .i64 s.have_.x1, .int .i64 s.have_.x2, .int .i64 s.have_.x3, .int .i64 s.have_.x4, .int .i64 s.have_.x5, .int .i64 s.have_.x6, .slice la ys.length lc, .slice da s.done.length dc] T_rostrumref18_Exec :: arr KPT T_rostrumref18_kept la lc ys :: arr DOT T_api_Dot da dc s.done :: many fch (ys.map (·.b)) :: L
set_option maxRecDepth 100000 in
set_option maxHeartbeats 4000000 in
theorem rBody {ys : List CmdX} {la da : Option Addr} {lc dc : Nat} {d : Dot} (hy : ys.map CmdX.er = s.cs) (hl : ys.length ≤ 1000) (h : St W0 (rxL p s ys la lc da dc L) W)
  (hk : ∀ a c W', St W0 (rxL p s ys la lc da dc L) W' → Rd W0 (rxL p s ys la lc da dc L) a B8 (s.bodyOf d) → k (.tuple #[.slice a (s.bodyOf d).length c, .bool (s.find d).isSome]) W') :
  callK PR F_rostrumref18_Exec_Body [.pointer (some ⟨p, 0, none⟩), .agg #[.int .i64 d.rep, .int .i64 d.n]] k W := by
 apply S.rostrumref18_Exec_Body.call
 unfold S.rostrumref18_Exec_Body.body
 refine bxa h fun db W1 h => ?_
 have h : St W0 (cells db [.int .i64 d.rep, .int .i64 d.n] T_api_Dot :: rxL p s ys la lc da dc L) W1 := h
 (repeat (first | ((with_reducible refine v5 ?_); refine ⟨_, rfl, ?_⟩) | simp -implicitDefEqProofs only [SE, SU, SV]))
 refine rFind (ys := ys) (la := la) (lc := lc) (d := d) (hv := s.have_) (dv := .slice da s.done.length dc) (L := cells db [.int .i64 d.rep, .int .i64 d.n] T_api_Dot :: arr KPT T_rostrumref18_kept la lc ys :: arr DOT T_api_Dot da dc s.done :: many fch (ys.map (·.b)) :: L) hl (St.wk (by first | assumption | exact St.tick (by assumption) | exact St.tick (St.tick (by assumption)))) fun W2 h => ?_
 unfold XS.bodyOf at hk
 cases hf : findY ys d with
 | none =>
  rw [findY_none hf hy] at hk
  have hlt : (-1 : Int) < 0 := by decide
  (repeat simp -implicitDefEqProofs only [SE, SU, SV, hlt])
  exact hk none 0 _ (St.wk h) (Rd.nil _ _ _ _)
 | some q =>
  obtain ⟨hq, e⟩ := findY_some hf hy
  rw [e] at hk
  have hlt : ¬ (q : Int) < 0 := by omega
  (repeat (first | ((with_reducible refine v5 ?_); refine ⟨_, rfl, ?_⟩) | simp -implicitDefEqProofs only [SE, SU, SV, hlt]))
  refine ixA (i := q) (a := la) (l := ys) (A := KPT) (by first | assumption | exact St.tick (by assumption) | exact St.tick (St.tick (by assumption))) rfl rfl hq fun g o ha => ?_
  subst ha
  (repeat simp -implicitDefEqProofs only [SE, SU, SV])
  refine ldA (i := q) (j := 17) (l := ys) (A := KPT) (by first | assumption | exact St.tick (by assumption) | exact St.tick (St.tick (by assumption))) rfl hq (v := ys[q].b.v) rfl (by simp [KPT]) ?_
  have hw := St.wk (L' := rxL p s ys (some ⟨g, o, none⟩) lc da dc L) h
  haveI hrd := rdMany (W0 := W0) (L := L) (x := ys[q].b) (B := ys.map (·.b)) (.inr (List.mem_map_of_mem (List.getElem_mem hq)))
  refine hk ys[q].b.a ys[q].b.c _ ?_ ?_
  ·first | exact hw | exact (by first | assumption | exact St.tick (by assumption) | exact St.tick (St.tick (by assumption)))
  ·show Rd W0 _ ys[q].b.a B8 ys[q].b.bs
   infer_instance
theorem rWaits {ys : List CmdX} {la da : Option Addr} {lc dc : Nat} (hy : ys.map CmdX.er = s.cs) (hl : ys.length ≤ 1000) (hd : s.done.length < 1000000) (h : St W0 (rxL p s ys la lc da dc L) W)
  (hk : ∀ W', St W0 (rxL p s ys la lc da dc L) W' → k (.int .i64 ((s.cs.length : Int) - s.done.length)) W') :
  callK PR F_rostrumref18_Exec_Waits [.pointer (some ⟨p, 0, none⟩)] k W := by
 apply S.rostrumref18_Exec_Waits.call
 unfold S.rostrumref18_Exec_Waits.body
 have hyl : ys.length = s.cs.length := by rw [← hy, List.length_map]
 rw [← hyl] at hk
 have ew : IntKind.i64.wrap ((ys.length : Int) - s.done.length) = (ys.length : Int) - s.done.length := by rw [i64w]; omega
 (repeat (first | ((with_reducible refine v5 ?_); refine ⟨_, rfl, ?_⟩) | simp -implicitDefEqProofs only [SE, SU, SV, ew]))
 refine hk _ ?_
 exact (by first | assumption | exact St.tick (by assumption) | exact St.tick (St.tick (by assumption)))
set_option maxRecDepth 100000 in
set_option maxHeartbeats 8000000 in
theorem rCommit {i : Ins} {w : P7 Int} {a : Option Addr} {c : Nat} {bs : List UInt8} {ys : List CmdX} {la da : Option Addr} {lc dc : Nat} (hy : ys.map CmdX.er = s.cs) (hl : ys.length ≤ 1000) (h : St W0 (rxL p s ys la lc da dc L) W) [hr : Rd W0 L a B8 bs]
  (hk : ∀ W', St W0 (rxo p (s.commit i w bs).1 :: L) W' → k (.int .i64 (s.commit i w bs).2) W') : callK PR F_rostrumref18_Exec_Commit [.pointer (some ⟨p, 0, none⟩), .agg #[.int .i64 i.d.rep, .int .i64 i.d.n, .int .i64 i.s, .int .i64 i.v.x0, .int .i64 i.v.x1, .int .i64 i.v.x2, .int .i64 i.v.x3, .int .i64 i.v.x4, .int .i64 i.v.x5, .int .i64 i.v.x6], .agg #[.int .i64 w.x0, .int .i64 w.x1, .int .i64 w.x2, .int .i64 w.x3, .int .i64 w.x4, .int .i64 w.x5, .int .i64 w.x6], .slice a bs.length c] k W := by
 apply S.rostrumref18_Exec_Commit.call
 unfold S.rostrumref18_Exec_Commit.body
 refine bxa h fun ib W1 h => ?_
 refine bxa h fun wb_ W1 h => ?_
 have h : St W0 (cells wb_ [.int .i64 w.x0, .int .i64 w.x1, .int .i64 w.x2, .int .i64 w.x3, .int .i64 w.x4, .int .i64 w.x5, .int .i64 w.x6] T_rostrumref7_Vec :: cells ib [.int .i64 i.d.rep, .int .i64 i.d.n, .int .i64 i.s, .int .i64 i.v.x0, .int .i64 i.v.x1, .int .i64 i.v.x2, .int .i64 i.v.x3, .int .i64 i.v.x4, .int .i64 i.v.x5, .int .i64 i.v.x6] T_rostrumref18_Inst :: rxL p s ys la lc da dc L) W1 := h
 have hyl : ys.length = s.cs.length := by rw [← hy, List.length_map]
 have fin : ∀ W', St W0 (rxL p s ys la lc da dc L) W' → St W0 (rxo p s :: L) W' := fun W' h => rxo_of hy h
 (repeat (first | ((with_reducible refine v5 ?_); refine ⟨_, rfl, ?_⟩) | simp -implicitDefEqProofs only [SE, SU, SV]))
 refine bsA INS [i] (n := 1) (by first | assumption | exact St.tick (by assumption) | exact St.tick (St.tick (by assumption))) rfl rfl (by decide) (by decide) rfl fun a1 c1 W2 h => ?_
 refine rGood (a := a1) (l := [i]) h (by simp) fun W3 h => ?_
 have h := St.wk (L' := cells wb_ [.int .i64 w.x0, .int .i64 w.x1, .int .i64 w.x2, .int .i64 w.x3, .int .i64 w.x4, .int .i64 w.x5, .int .i64 w.x6] T_rostrumref7_Vec :: cells ib [.int .i64 i.d.rep, .int .i64 i.d.n, .int .i64 i.s, .int .i64 i.v.x0, .int .i64 i.v.x1, .int .i64 i.v.x2, .int .i64 i.v.x3, .int .i64 i.v.x4, .int .i64 i.v.x5, .int .i64 i.v.x6] T_rostrumref18_Inst :: rxL p s ys la lc da dc L) h
 unfold XS.commit at hk
 cases hg : goodO [i] with
 | false =>
  rw [if_pos (.inl hg)] at hk
  (repeat simp -implicitDefEqProofs only [SE, SU, SV])
  exact hk _ (fin _ (St.wk (by first | assumption | exact St.tick (by assumption) | exact St.tick (St.tick (by assumption)))))
 | true =>
 (repeat (first | ((with_reducible refine v5 ?_); refine ⟨_, rfl, ?_⟩) | simp -implicitDefEqProofs only [SE, SU, SV]))
 refine rGood7 (v := w) (by first | assumption | exact St.tick (by assumption) | exact St.tick (St.tick (by assumption))) fun W4 h => ?_
 cases hw : goodV w with
 | false =>
  rw [if_pos (.inr (.inl hw))] at hk
  (repeat simp -implicitDefEqProofs only [SE, SU, SV])
  exact hk _ (fin _ (St.wk (by first | assumption | exact St.tick (by assumption) | exact St.tick (St.tick (by assumption)))))
 | true =>
 by_cases hl6 : (65536 : Int) < (bs.length : Int)
 ·rw [if_pos (.inr (.inr (by omega)))] at hk
  (repeat simp -implicitDefEqProofs only [SE, SU, SV, hl6])
  exact hk _ (fin _ (St.wk (by first | assumption | exact St.tick (by assumption) | exact St.tick (St.tick (by assumption)))))
 rw [if_neg (by rintro (h | h | h); rw [hg] at h; cases h; rw [hw] at h; cases h; omega)] at hk
 (repeat (first | ((with_reducible refine v5 ?_); refine ⟨_, rfl, ?_⟩) | simp -implicitDefEqProofs only [SE, SU, SV, hl6]))
 refine rBody (ys := ys) (la := la) (lc := lc) (da := da) (dc := dc) (d := i.d) (L := cells wb_ [.int .i64 w.x0, .int .i64 w.x1, .int .i64 w.x2, .int .i64 w.x3, .int .i64 w.x4, .int .i64 w.x5, .int .i64 w.x6] T_rostrumref7_Vec :: cells ib [.int .i64 i.d.rep, .int .i64 i.d.n, .int .i64 i.s, .int .i64 i.v.x0, .int .i64 i.v.x1, .int .i64 i.v.x2, .int .i64 i.v.x3, .int .i64 i.v.x4, .int .i64 i.v.x5, .int .i64 i.v.x6] T_rostrumref18_Inst :: L) hy hl (St.wk (by first | assumption | exact St.tick (by assumption) | exact St.tick (St.tick (by assumption)))) fun ba bc W5 h _ => ?_
 cases hf : (s.find i.d).isSome with
 | true =>
  rw [if_pos hf] at hk
  (repeat simp -implicitDefEqProofs only [SE, SU, SV])
  exact hk _ (fin _ (St.wk (by first | assumption | exact St.tick (by assumption) | exact St.tick (St.tick (by assumption)))))
 | false =>
  rw [if_neg (by rw [hf]; simp)] at hk
  by_cases h1000 : (1000 : Int) ≤ (ys.length : Int)
  ·rw [if_pos (by omega)] at hk
   (repeat (first | ((with_reducible refine v5 ?_); refine ⟨_, rfl, ?_⟩) | simp -implicitDefEqProofs only [SE, SU, SV, h1000]))
   exact hk _ (fin _ (St.wk (by first | assumption | exact St.tick (by assumption) | exact St.tick (St.tick (by assumption)))))
  rw [if_neg (by omega)] at hk
  (repeat (first | ((with_reducible refine v5 ?_); refine ⟨_, rfl, ?_⟩) | simp -implicitDefEqProofs only [SE, SU, SV, h1000]))
  refine ⟨?g1, ?g2⟩
  case' g1 =>
   refine bs0 KPT (by first | assumption | exact St.tick (by assumption) | exact St.tick (St.tick (by assumption))) fun a3 c3 W6 h => ?_
   (repeat (first | ((with_reducible refine stb_n ?_); intros) | ((with_reducible refine v8 ?_ ?_); exact rfl; intros)))
   refine ⟨?ga, ?gb⟩
  case' ga =>
   refine appA (A := KPT) (a := a3) (l := []) (m := ys) (by first | assumption | exact St.tick (by assumption) | exact St.tick (St.tick (by assumption))) rfl (by simp only [List.length_nil]; omega) (by simp only [List.length_nil, maxLen]; omega) fun a6 c6 W7 h => ?_
   rw [List.nil_append] at h ⊢
   (repeat (first | ((with_reducible refine stb_n ?_); intros) | ((with_reducible refine v8 ?_ ?_); exact rfl; intros)))
   refine bs0 B8 (by first | assumption | exact St.tick (by assumption) | exact St.tick (St.tick (by assumption))) fun a8 c8 W8 h => ?_
   (repeat (first | ((with_reducible refine stb_n ?_); intros) | ((with_reducible refine v8 ?_ ?_); exact rfl; intros)))
   refine appA (A := B8) (a := a8) (l := []) (m := bs) (by first | assumption | exact St.tick (by assumption) | exact St.tick (St.tick (by assumption))) rfl (by simp only [List.length_nil]; omega) (by simp only [List.length_nil, maxLen]; omega) fun a9 c9 W9 h => ?_
   rw [List.nil_append] at h ⊢
   (repeat (first | ((with_reducible refine stb_n ?_); intros) | ((with_reducible refine v8 ?_ ?_); exact rfl; intros) | (refine okF_i (bldP_eq rfl) ?_; try simp only [BLS, SB, Nat.reduceAdd])))
  case' gb =>
   refine bs0 B8 (by first | assumption | exact St.tick (by assumption) | exact St.tick (St.tick (by assumption))) fun a8 c8 W8 h => ?_
   (repeat (first | ((with_reducible refine stb_n ?_); intros) | ((with_reducible refine v8 ?_ ?_); exact rfl; intros)))
   refine appA (A := KPT) (a := a3) (l := []) (m := ys) (by first | assumption | exact St.tick (by assumption) | exact St.tick (St.tick (by assumption))) rfl (by simp only [List.length_nil]; omega) (by simp only [List.length_nil, maxLen]; omega) fun a6 c6 W7 h => ?_
   rw [List.nil_append] at h ⊢
   (repeat (first | ((with_reducible refine stb_n ?_); intros) | ((with_reducible refine v8 ?_ ?_); exact rfl; intros)))
   refine appA (A := B8) (a := a8) (l := []) (m := bs) (by first | assumption | exact St.tick (by assumption) | exact St.tick (St.tick (by assumption))) rfl (by simp only [List.length_nil]; omega) (by simp only [List.length_nil, maxLen]; omega) fun a9 c9 W9 h => ?_
   rw [List.nil_append] at h ⊢
   (repeat (first | ((with_reducible refine stb_n ?_); intros) | ((with_reducible refine v8 ?_ ?_); exact rfl; intros) | (refine okF_i (bldP_eq rfl) ?_; try simp only [BLS, SB, Nat.reduceAdd])))
  case' g2 =>
   refine bs0 B8 (by first | assumption | exact St.tick (by assumption) | exact St.tick (St.tick (by assumption))) fun a8 c8 W8 h => ?_
   (repeat (first | ((with_reducible refine stb_n ?_); intros) | ((with_reducible refine v8 ?_ ?_); exact rfl; intros)))
   refine bs0 KPT (by first | assumption | exact St.tick (by assumption) | exact St.tick (St.tick (by assumption))) fun a3 c3 W6 h => ?_
   (repeat (first | ((with_reducible refine stb_n ?_); intros) | ((with_reducible refine v8 ?_ ?_); exact rfl; intros)))
   refine appA (A := KPT) (a := a3) (l := []) (m := ys) (by first | assumption | exact St.tick (by assumption) | exact St.tick (St.tick (by assumption))) rfl (by simp only [List.length_nil]; omega) (by simp only [List.length_nil, maxLen]; omega) fun a6 c6 W7 h => ?_
   rw [List.nil_append] at h ⊢
   (repeat (first | ((with_reducible refine stb_n ?_); intros) | ((with_reducible refine v8 ?_ ?_); exact rfl; intros)))
   refine appA (A := B8) (a := a8) (l := []) (m := bs) (by first | assumption | exact St.tick (by assumption) | exact St.tick (St.tick (by assumption))) rfl (by simp only [List.length_nil]; omega) (by simp only [List.length_nil, maxLen]; omega) fun a9 c9 W9 h => ?_
   rw [List.nil_append] at h ⊢
   (repeat (first | ((with_reducible refine stb_n ?_); intros) | ((with_reducible refine v8 ?_ ?_); exact rfl; intros) | (refine okF_i (bldP_eq rfl) ?_; try simp only [BLS, SB, Nat.reduceAdd])))
  all_goals
   refine bsA KPT [(⟨i, w, ⟨a9, c9, bs⟩⟩ : CmdX)] (n := 1) (by first | assumption | exact St.tick (by assumption) | exact St.tick (St.tick (by assumption))) rfl rfl (by decide) (by decide) rfl fun a10 c10 W10 h => ?_
   refine appA (A := KPT) (a := a6) (l := ys) (m := [(⟨i, w, ⟨a9, c9, bs⟩⟩ : CmdX)]) (by first | assumption | exact St.tick (by assumption) | exact St.tick (St.tick (by assumption))) rfl (by simp only [List.length_cons, List.length_nil]; omega) (by simp only [List.length_cons, List.length_nil, maxLen]; omega) fun a11 c11 W11 h => ?_
   (repeat ((with_reducible refine v12 ?_ ?_); exact rfl; intros))
   rename_i W12 h
   (try simp only [BLS, SB, stL_a, stL_b, stL_c, List.append_nil, List.take_nil, List.drop_nil, Nat.reduceAdd] at h)
   have h := St.wk (L' := fch ⟨a9, c9, bs⟩ :: many fch (ys.map (·.b)) :: cells p [.int .i64 s.have_.x0, .int .i64 s.have_.x1, .int .i64 s.have_.x2, .int .i64 s.have_.x3, .int .i64 s.have_.x4, .int .i64 s.have_.x5, .int .i64 s.have_.x6, .slice a11 (ys ++ [(⟨i, w, ⟨a9, c9, bs⟩⟩ : CmdX)]).length c11, .slice da s.done.length dc] T_rostrumref18_Exec :: arr KPT T_rostrumref18_kept a11 c11 (ys ++ [(⟨i, w, ⟨a9, c9, bs⟩⟩ : CmdX)]) :: arr DOT T_api_Dot da dc s.done :: L) h
   have h := (h.ent (many_uncons (F := fch) _ _)).ent (many_perm (F := fch) (List.perm_append_comm (l₁ := [(⟨a9, c9, bs⟩ : BSl)]) (l₂ := ys.map CmdX.b)))
   have eb : ys.map (·.b) ++ [(⟨a9, c9, bs⟩ : BSl)] = (ys ++ [(⟨i, w, ⟨a9, c9, bs⟩⟩ : CmdX)]).map (·.b) := by simp
   rw [eb] at h
   exact hk _ (rxo_of (s := ⟨s.have_, s.cs ++ [⟨i, w, bs⟩], s.done⟩) (ys := ys ++ [⟨i, w, ⟨a9, c9, bs⟩⟩]) (la := a11) (lc := c11) (da := da) (dc := dc) (by show (ys ++ _).map CmdX.er = s.cs ++ _; rw [List.map_append, hy]; rfl) (St.wk h))
end
end Go.Proofs.YtkjhccpanedccaaGreat
namespace Go.Proofs.YtkjhccpanedccaaGreat
set_option linter.unusedVariables false
set_option linter.unusedSimpArgs false
open Go Go.Eng Go.Tar Go.Sort
noncomputable def XS.havesR (s : XS) (v : P7 Int) : XS × List Dot := (⟨(s.merge v).have_, s.cs, s.done ++ (s.merge v).now⟩, (s.merge v).now)
theorem nowF_in (s : XS) : ∀ {l : List Dot} {d : Dot}, d ∈ nowF s l → d ∈ l ∧ d ∉ s.done
 | e :: l, d, h => by
  rw [nowF_cons] at h
  split at h
  ·have := nowF_in s h; exact ⟨List.mem_cons_of_mem _ this.1, this.2⟩
  ·rename_i h1
   split at h
   ·rcases List.mem_cons.1 h with rfl | h
    ·exact ⟨List.mem_cons_self, h1⟩
    ·have := nowF_in s h; exact ⟨List.mem_cons_of_mem _ this.1, this.2⟩
   ·cases h
 | [], d, h => by cases h
theorem nowF_nodup (s : XS) : ∀ {l : List Dot}, l.Nodup → (nowF s l).Nodup
 | [], _ => by simp [nowF]
 | e :: l, h => by
  obtain ⟨h1, h2⟩ := List.nodup_cons.1 h
  rw [nowF_cons]
  split
  ·exact nowF_nodup s h2
  ·split
   ·exact List.nodup_cons.2 ⟨fun h => h1 (nowF_in s h).1, nowF_nodup s h2⟩
   ·simp
theorem mark_all : ∀ {l : List Dot} {s : XS}, l.Nodup → (∀ d ∈ l, d ∉ s.done ∧ (s.find d).isSome = true) → l.foldl XS.mark s = ⟨s.have_, s.cs, s.done ++ l⟩
 | [], s, _, _ => by simp
 | d :: l, s, hn, h => by
  obtain ⟨h1, h2⟩ := List.nodup_cons.1 hn
  obtain ⟨a, b⟩ := h d List.mem_cons_self
  have e : s.mark d = ⟨s.have_, s.cs, s.done ++ [d]⟩ := by unfold XS.mark; rw [if_pos (by simp [a, b])]
  rw [List.foldl_cons, e, mark_all (s := ⟨s.have_, s.cs, s.done ++ [d]⟩) h2 fun x hx => ⟨?_, (h x (List.mem_cons_of_mem _ hx)).2⟩]
  ·simp
  ·intro hm
   rcases List.mem_append.1 hm with hm | hm
   ·exact (h x (List.mem_cons_of_mem _ hx)).1 hm
   ·rw [List.mem_singleton] at hm; exact h1 (hm ▸ hx)
theorem line_find {s : XS} {d : Dot} (h : d ∈ lineTop (P7.all 0) [] s.ins) : (s.find d).isSome = true := by
 unfold lineTop at h
 split at h
 ·rw [lineO_eq] at h
  obtain ⟨x, hx, rfl⟩ := List.mem_map.1 h
  have hx := (kept_mem.1 (lineK_mem.1 hx)).1
  have hx := (List.mem_filter.1 hx).1
  obtain ⟨c, hc, rfl⟩ := List.mem_map.1 hx
  unfold XS.find
  rw [List.find?_isSome]
  exact ⟨c, hc, decide_eq_true rfl⟩
 ·cases h
theorem line_nodup {l : List Ins} : (lineTop (P7.all 0) [] l).Nodup := by
 unfold lineTop
 split
 ·rename_i hg
  rw [lineO_eq]
  exact lineK_nodup (kept_nodup ((goodO_iff.1 hg).2.1.sublist (List.filter_sublist.map _)))
 ·simp
theorem havesR_eq (s : XS) (v : P7 Int) : s.haves v = s.havesR v := by
 unfold XS.haves XS.havesR
 have hc : (s.merge v).cs = s.cs ∧ (s.merge v).done = s.done := by unfold XS.merge; split <;> exact ⟨rfl, rfl⟩
 have hm := mark_all (l := (s.merge v).now) (s := s.merge v) (nowF_nodup _ line_nodup) fun d hd => ⟨(nowF_in _ hd).2, line_find (nowF_in _ hd).1⟩
 rw [hm, hc.1, hc.2]
theorem line_rep {l : List Ins} {d : Dot} (h : d ∈ lineTop (P7.all 0) [] l) : 0 ≤ d.rep ∧ d.rep < 7 ∧ 1 ≤ d.n := by
 unfold lineTop at h
 split at h
 ·rename_i hg
  rw [lineO_eq] at h
  obtain ⟨x, hx, rfl⟩ := List.mem_map.1 h
  exact good_rep hg _ (List.mem_filter.1 (kept_mem.1 (lineK_mem.1 hx)).1).1
 ·cases h
section
variable {W0 W : World} {L : List Asn} {p : Nat} {s : XS} {k : Value → World → Prop}
set_option maxRecDepth 100000 in
set_option maxHeartbeats 8000000 in
theorem rHave {v : P7 Int} {ys : List CmdX} {la da : Option Addr} {lc dc : Nat} (hy : ys.map CmdX.er = s.cs) (hl : ys.length ≤ 1000) (hd : s.done.length ≤ 100000) (h : St W0 (rxL p s ys la lc da dc L) W)
  (hk : ∀ a c W', St W0 (arr DOT T_api_Dot a c (s.havesR v).2 :: rxo p (s.havesR v).1 :: L) W' → k (.slice a (s.havesR v).2.length c) W') : callK PR F_rostrumref18_Exec_Have [.pointer (some ⟨p, 0, none⟩), .agg #[.int .i64 v.x0, .int .i64 v.x1, .int .i64 v.x2, .int .i64 v.x3, .int .i64 v.x4, .int .i64 v.x5, .int .i64 v.x6]] k W := by
 apply S.rostrumref18_Exec_Have.call
 unfold S.rostrumref18_Exec_Have.body
 refine bxa h fun vb W1 h => ?_
 have h : St W0 (cells vb [.int .i64 v.x0, .int .i64 v.x1, .int .i64 v.x2, .int .i64 v.x3, .int .i64 v.x4, .int .i64 v.x5, .int .i64 v.x6] T_rostrumref7_Vec :: rxL p s ys la lc da dc L) W1 := h
 have hcd : (s.merge v).cs = s.cs ∧ (s.merge v).done = s.done := by unfold XS.merge; split <;> exact ⟨rfl, rfl⟩
 have key : ∀ W', St W0 (rxL p (s.merge v) ys la lc da dc L) W' → S.rostrumref18_Exec_Have.j1 k (.pointer (some ⟨p, 0, none⟩)) W' := by
  clear h
  intro W h
  unfold XS.havesR at hk
  rw [← hcd.1, ← hcd.2] at hk
  rw [← hcd.1] at hy
  rw [← hcd.2] at hd
  generalize s.merge v = s at *
  clear hcd
  unfold S.rostrumref18_Exec_Have.j1
  refine joinK_i ?_
  refine loop_c (σ := List Ins × Option Addr × Nat) ys.length (fun i x => [.pointer (some ⟨p, 0, none⟩), .slice x.2.1 x.1.length x.2.2, .int .i64 (i : Int)])
   (fun i x W1 => x.1 = (ys.take i).map (·.i) ∧ St W0 (arr INS T_rostrumref18_Inst x.2.1 x.2.2 x.1 :: rxL p s ys la lc da dc L) W1) ([], none, 0) rfl ⟨rfl, h.ent (arr_nil _ _)⟩ ?_
  clear h
  rintro K i ⟨acc, xa, xc⟩ W1 hi ⟨hacc, h⟩ hK
  simp -implicitDefEqProofs only [SE, SU, SV]
  unfold S.rostrumref18_Exec_Have.l2
  simp only at hacc h
  have hal : acc.length = i := by rw [hacc]; simp; omega
  by_cases hlt : (i : Int) < (ys.length : Int)
  ·have hib : i < ys.length := by omega
   have ew : IntKind.i64.wrap ((i : Int) + 1) = ((i + 1 : Nat) : Int) := by rw [i64w]; omega
   (repeat (first | ((with_reducible refine v5 ?_); refine ⟨_, rfl, ?_⟩) | simp -implicitDefEqProofs only [SE, SU, SV, hlt]))
   refine ixA (i := i) (a := la) (l := ys) (A := KPT) (by first | assumption | exact St.tick (by assumption) | exact St.tick (St.tick (by assumption))) rfl rfl hib fun g o ha => ?_
   subst ha
   (repeat simp -implicitDefEqProofs only [SE, SU, SV])
   refine ldA0 (i := i) (l := ys) (A := KPT) (by first | assumption | exact St.tick (by assumption) | exact St.tick (St.tick (by assumption))) rfl hib (v := .agg (INS.row ys[i].i).toArray) rfl (by simp [KPT]) ?_
   refine bsA INS [ys[i].i] (n := 1) (by first | assumption | exact St.tick (by assumption) | exact St.tick (St.tick (by assumption))) rfl rfl (by decide) (by decide) rfl fun a5 c5 W12 h => ?_
   refine appA (A := INS) (a := xa) (l := acc) (m := [ys[i].i]) h rfl (by simp only [List.length_cons, List.length_nil]; omega) (by simp only [List.length_cons, List.length_nil, maxLen]; omega) fun a6 c6 W13 h => ?_
   (repeat simp -implicitDefEqProofs only [SE, SU, SV, ew])
   exact hK (acc ++ [ys[i].i], a6, c6) _ hib ⟨by rw [hacc, List.take_succ_eq_append_getElem hib, List.map_append]; rfl, St.wk h⟩
  ·have e : i = ys.length := by omega
   subst e
   rw [List.take_length] at hacc
   have hins : acc = s.ins := by
    rw [hacc]; unfold XS.ins; rw [← hy, List.map_map]; rfl
   (repeat (first | ((with_reducible refine v5 ?_); refine ⟨_, rfl, ?_⟩) | simp -implicitDefEqProofs only [SE, SU, SV, hlt]))
   refine rLine (a := xa) (l := acc) (c := xc) (by first | assumption | exact St.tick (by assumption) | exact St.tick (St.tick (by assumption))) (by omega) fun al cl W2 h => ?_
   rw [hins] at h ⊢
   have hrep := fun d hd => line_rep (l := s.ins) (d := d) hd
   have hll : (lineTop (P7.all 0) [] s.ins).length ≤ ys.length := by
    have := line0_len (P7.all 0) [] s.ins
    rw [show s.ins.length = ys.length by rw [← hins, hal]] at this
    exact this
   have hfnd := fun d hd => line_find (s := s) (d := d) hd
   unfold XS.now at hk
   generalize lineTop (P7.all 0) [] s.ins = line at *
   have h := St.wk (L' := arr DOT T_api_Dot al cl line :: rxL p s ys la lc da dc L) h
   clear hins hacc hal hK
   have hJ3 : ∀ now xa xc W', now = nowF s line → St W0 (arr DOT T_api_Dot xa xc now :: rxL p s ys la lc da dc L) W' → S.rostrumref18_Exec_Have.j3 k (.pointer (some ⟨p, 0, none⟩)) (.slice xa now.length xc) W' := by
    clear h
    intro now xa xc W' hnow h
    subst hnow
    have hnl := nowF_len s line
    unfold S.rostrumref18_Exec_Have.j3
    refine bs0 DOT (by first | assumption | exact St.tick (by assumption) | exact St.tick (St.tick (by assumption))) fun a5 c5 W8 h => ?_
    (repeat (first | ((with_reducible refine v5 ?_); refine ⟨_, rfl, ?_⟩) | simp -implicitDefEqProofs only [SE, SU, SV]))
    refine appA (A := DOT) (a := a5) (l := []) (m := s.done) (by first | assumption | exact St.tick (by assumption) | exact St.tick (St.tick (by assumption))) rfl (by simp only [List.length_nil]; omega) (by simp only [List.length_nil, maxLen]; omega) fun a6 c6 W9 h => ?_
    rw [List.nil_append] at h ⊢
    refine appA (A := DOT) (a := a6) (l := s.done) (m := nowF s line) (by first | assumption | exact St.tick (by assumption) | exact St.tick (St.tick (by assumption))) rfl (by omega) (by simp only [maxLen]; omega) fun a7 c7 W10 h => ?_
    (repeat ((with_reducible refine v12 ?_ ?_); exact rfl; intros))
    rename_i W12 h
    (try simp only [BLS, SB, stL_a, stL_b, stL_c, List.append_nil, List.take_nil, List.drop_nil, Nat.reduceAdd] at h)
    refine hk xa xc _ ?_
    have h := St.wk (L' := cells p [.int .i64 s.have_.x0, .int .i64 s.have_.x1, .int .i64 s.have_.x2, .int .i64 s.have_.x3, .int .i64 s.have_.x4, .int .i64 s.have_.x5, .int .i64 s.have_.x6, .slice la ys.length lc, .slice a7 (s.done ++ nowF s line).length c7] T_rostrumref18_Exec :: arr KPT T_rostrumref18_kept la lc ys :: arr DOT T_api_Dot a7 c7 (s.done ++ nowF s line) :: many fch (ys.map (·.b)) :: arr DOT T_api_Dot xa xc (nowF s line) :: L) h
    exact St.wk (rxo_of (s := ⟨s.have_, s.cs, s.done ++ nowF s line⟩) (ys := ys) (la := la) (lc := lc) (da := a7) (dc := c7) hy h)
   refine joinK_i ?_
   refine loop_c (σ := List Dot × Option Addr × Nat) line.length (fun i x => [.pointer (some ⟨p, 0, none⟩), .slice al line.length cl, .slice x.2.1 x.1.length x.2.2, .int .i64 (i : Int)])
    (fun i x W1 => (nowF s line = x.1 ++ nowF s (line.drop i) ∧ x.1.length ≤ i) ∧ St W0 (arr DOT T_api_Dot x.2.1 x.2.2 x.1 :: arr DOT T_api_Dot al cl line :: rxL p s ys la lc da dc L) W1) ([], none, 0) rfl ⟨⟨rfl, Nat.zero_le _⟩, h.ent (arr_nil _ _)⟩ ?_
   clear h
   rintro K i ⟨acc, xa, xc⟩ W3 hi ⟨⟨hacc, hal⟩, h⟩ hK
   simp -implicitDefEqProofs only [SE, SU, SV]
   unfold S.rostrumref18_Exec_Have.l1
   simp only at hacc hal h
   have ew : IntKind.i64.wrap ((i : Int) + 1) = ((i + 1 : Nat) : Int) := by rw [i64w]; omega
   by_cases hlt3 : (i : Int) < (line.length : Int)
   ·have hib : i < line.length := by omega
    obtain ⟨d1, d2, d3⟩ := hrep _ (List.getElem_mem hib)
    have hff := hfnd _ (List.getElem_mem hib)
    rw [List.drop_eq_getElem_cons hib, nowF_cons] at hacc
    have eis : isO (P7.all 0) s.done line[i] = decide (line[i] ∈ s.done) := by
     have h0 : decide (line[i].n ≤ (P7.all (0 : Int)).get line[i].rep.toNat) = false := by
      have := q0_no d3
      unfold q0 isO at this
      simpa using this
     unfold isO
     rw [h0]; rfl
    (repeat simp -implicitDefEqProofs only [SE, SU, SV, hlt3])
    refine joinK_i ?_
    (repeat (first | ((with_reducible refine v5 ?_); refine ⟨_, rfl, ?_⟩) | (refine okF_i (bldP_eq rfl) ?_; try simp only [BLS, SB, Nat.reduceAdd]) | simp -implicitDefEqProofs only [SE, SU, SV]))
    refine ixA (i := i) (a := al) (l := line) (A := DOT) (by first | assumption | exact St.tick (by assumption) | exact St.tick (St.tick (by assumption))) rfl rfl hib fun g o ha => ?_
    subst ha
    refine ldA0 (i := i) (l := line) (A := DOT) (by first | assumption | exact St.tick (by assumption) | exact St.tick (St.tick (by assumption))) rfl hib (v := .agg #[.int .i64 (line[i]).rep, .int .i64 (line[i]).n]) rfl (by simp [DOT]) ?_
    refine rIs (v := P7.all 0) (d := line[i]) (a := da) (l := s.done) (c := dc) d1 d2 (by first | assumption | exact St.tick (by assumption) | exact St.tick (St.tick (by assumption))) (by omega) fun W6 h => ?_
    rw [eis]
    by_cases hin : line[i] ∈ s.done
    ·rw [if_pos hin] at hacc
     rw [decide_eq_true hin]
     (repeat simp -implicitDefEqProofs only [SE, SU, SV])
     unfold S.rostrumref18_Exec_Have.j4
     (repeat simp -implicitDefEqProofs only [SE, SU, SV, ew])
     exact hK (acc, xa, xc) _ hib ⟨⟨hacc, by simp only; omega⟩, (by first | assumption | exact St.tick (by assumption) | exact St.tick (St.tick (by assumption)))⟩
    ·rw [if_neg hin] at hacc
     rw [decide_eq_false hin]
     (repeat (first | ((with_reducible refine v5 ?_); refine ⟨_, rfl, ?_⟩) | simp -implicitDefEqProofs only [SE, SU, SV]))
     refine ixA (i := i) (a := some ⟨g, o, none⟩) (l := line) (A := DOT) (by first | assumption | exact St.tick (by assumption) | exact St.tick (St.tick (by assumption))) rfl rfl hib fun g2 o2 ha => ?_
     cases ha
     refine ldA0 (i := i) (l := line) (A := DOT) (by first | assumption | exact St.tick (by assumption) | exact St.tick (St.tick (by assumption))) rfl hib (v := .agg #[.int .i64 (line[i]).rep, .int .i64 (line[i]).n]) rfl (by simp [DOT]) ?_
     (repeat (first | ((with_reducible refine v5 ?_); refine ⟨_, rfl, ?_⟩) | simp -implicitDefEqProofs only [SE, SU, SV]))
     refine rFind (ys := ys) (la := la) (lc := lc) (d := line[i]) (hv := s.have_) (dv := .slice da s.done.length dc) (L := arr KPT T_rostrumref18_kept la lc ys :: arr DOT T_api_Dot da dc s.done :: many fch (ys.map (·.b)) :: arr DOT T_api_Dot xa xc acc :: arr DOT T_api_Dot (some ⟨g, o, none⟩) cl line :: L) hl (St.wk (by first | assumption | exact St.tick (by assumption) | exact St.tick (St.tick (by assumption)))) fun W7 h => ?_
     cases hf : findY ys line[i] with
     | none => rw [findY_none hf hy] at hff; cases hff
     | some q =>
     obtain ⟨hq, e⟩ := findY_some hf hy
     have hwo : s.waitOf line[i] = ys[q].w := by unfold XS.waitOf; rw [e]; rfl
     rw [hwo] at hacc
     (repeat (first | ((with_reducible refine stb_n ?_); intros) | ((with_reducible refine v8 ?_ ?_); exact rfl; intros) | simp -implicitDefEqProofs only [SE, SU, SV]))
     refine ixA (i := q) (a := la) (l := ys) (A := KPT) (by first | assumption | exact St.tick (by assumption) | exact St.tick (St.tick (by assumption))) rfl rfl hq fun g3 o3 ha => ?_
     subst ha
     (repeat simp -implicitDefEqProofs only [SE, SU, SV])
     refine ldA (i := q) (j := 10) (l := ys) (A := KPT) (by first | assumption | exact St.tick (by assumption) | exact St.tick (St.tick (by assumption))) rfl hq (v := .agg #[.int .i64 (ys[q].w).x0, .int .i64 (ys[q].w).x1, .int .i64 (ys[q].w).x2, .int .i64 (ys[q].w).x3, .int .i64 (ys[q].w).x4, .int .i64 (ys[q].w).x5, .int .i64 (ys[q].w).x6]) rfl (by simp [KPT]) ?_
     refine rLe7 (a := ys[q].w) (b := s.have_) (by first | assumption | exact St.tick (by assumption) | exact St.tick (St.tick (by assumption))) fun W8 h => ?_
     cases hlv : leV ys[q].w s.have_ with
     | true =>
      rw [if_pos hlv] at hacc
      (repeat simp -implicitDefEqProofs only [SE, SU, SV])
      refine ixA (i := i) (a := some ⟨g, o, none⟩) (l := line) (A := DOT) (by first | assumption | exact St.tick (by assumption) | exact St.tick (St.tick (by assumption))) rfl rfl hib fun g2 o2 ha => ?_
      cases ha
      refine ldA0 (i := i) (l := line) (A := DOT) (by first | assumption | exact St.tick (by assumption) | exact St.tick (St.tick (by assumption))) rfl hib (v := .agg #[.int .i64 (line[i]).rep, .int .i64 (line[i]).n]) rfl (by simp [DOT]) ?_
      refine bsA DOT [line[i]] (n := 1) (by first | assumption | exact St.tick (by assumption) | exact St.tick (St.tick (by assumption))) rfl rfl (by decide) (by decide) rfl fun a5 c5 W12 h => ?_
      refine appA (A := DOT) (a := xa) (l := acc) (m := [line[i]]) (by first | assumption | exact St.tick (by assumption) | exact St.tick (St.tick (by assumption))) rfl (by simp only [List.length_cons, List.length_nil]; omega) (by simp only [List.length_cons, List.length_nil, maxLen]; omega) fun a6 c6 W13 h => ?_
      unfold S.rostrumref18_Exec_Have.j4
      (repeat simp -implicitDefEqProofs only [SE, SU, SV, ew])
      exact hK (acc ++ [line[i]], a6, c6) _ hib ⟨⟨by rw [hacc]; simp, by simp; omega⟩, St.wk h⟩
     | false =>
      rw [if_neg (by rw [hlv]; simp), List.append_nil] at hacc
      (repeat simp -implicitDefEqProofs only [SE, SU, SV])
      exact hJ3 acc xa xc _ hacc.symm (St.wk (by first | assumption | exact St.tick (by assumption) | exact St.tick (St.tick (by assumption))))
   ·have hil : i = line.length := by omega
    subst hil
    rw [List.drop_length, show nowF s [] = [] from rfl, List.append_nil] at hacc
    (repeat simp -implicitDefEqProofs only [SE, SU, SV, hlt3])
    exact hJ3 acc xa xc _ hacc.symm (St.wk (by first | assumption | exact St.tick (by assumption) | exact St.tick (St.tick (by assumption))))
 refine joinK_i ?_
 (repeat (first | ((with_reducible refine v5 ?_); refine ⟨_, rfl, ?_⟩) | simp -implicitDefEqProofs only [SE, SU, SV]))
 refine rGood7 (v := v) (by first | assumption | exact St.tick (by assumption) | exact St.tick (St.tick (by assumption))) fun W3 h => ?_
 cases hg : goodV v with
 | false =>
  have hms : s.merge v = s := by unfold XS.merge; rw [if_neg (by rw [hg]; simp)]
  rw [hms] at key
  (repeat simp -implicitDefEqProofs only [SE, SU, SV])
  exact key _ (St.wk (by first | assumption | exact St.tick (by assumption) | exact St.tick (St.tick (by assumption))))
 | true =>
  have hms : s.merge v = ⟨vmerge s.have_ v, s.cs, s.done⟩ := by unfold XS.merge; rw [if_pos hg]
  rw [hms] at key
  (repeat (first | ((with_reducible refine v5 ?_); refine ⟨_, rfl, ?_⟩) | simp -implicitDefEqProofs only [SE, SU, SV]))
  refine rMerge7 (a := s.have_) (b := v) (by first | assumption | exact St.tick (by assumption) | exact St.tick (St.tick (by assumption))) fun W5 h => ?_
  (repeat ((with_reducible refine v12 ?_ ?_); exact rfl; intros))
  rename_i W6 h
  (try simp only [BLS, SB, stL_a, stL_b, stL_c, List.append_nil, List.take_nil, List.drop_nil, Nat.reduceAdd] at h)
  exact key _ (St.wk h)
end
end Go.Proofs.YtkjhccpanedccaaGreat
namespace Go.Proofs.YtkjhccpanedccaaGreat
set_option linter.unusedVariables false
set_option linter.unusedSimpArgs false
open Go.Eng
def S.rostrumlaw23_ExecPlays.j1 (R : Value → World → Prop) (K1 : List Value → World → Prop) (x0 x3 x5 x6 x7 : Value) (W : World) : Prop :=
 rdK PR (Instr.loadAt T_api_Dot x3) (fun v75 W =>
 callK PR F_exec_Exec_Body [x5, v75] (fun v76 W =>
 okF (extP 0 v76) fun v77 =>
 okF (extP 1 v76) fun v78 =>
 rdK PR (Instr.loadAt T_api_Dot x3) (fun v81 W =>
 callK PR F_rostrumref18_Exec_Body [x6, v81] (fun v82 W =>
 okF (extP 0 v82) fun v83 =>
 okF (extP 1 v82) fun v84 =>
 rdK PR (convert T_s_uint8 T_string v77) (fun v86 W =>
 rdK PR (convert T_s_uint8 T_string v83) (fun v88 W =>
 okF (binP .neq v86 v88) fun v89 =>
 gdK (wantd v89 false) (fun k W => k v78 W) (fun v91 W =>
 gdK (wantd v89 false) (fun k W => k v84 W) (fun v92 W =>
 gdK (wantd v89 false) (fun k W => okF (eqP .bool .neq v91 v92) fun v => k v W) (fun v93 W =>
 okF (pickP v89 (.bool true) v93) fun v94 =>
 gdK (wantd v94 false) (fun k W => k x5 W) (fun v96 W =>
 gdK (wantd v94 false) (fun k W => k x6 W) (fun v98 W =>
 gdK (wantd v94 false) (fun k W => callK PR F_exec_Exec_Waits [v96] k W) (fun v97 W =>
 gdK (wantd v94 false) (fun k W => callK PR F_rostrumref18_Exec_Waits [v98] k W) (fun v99 W =>
 gdK (wantd v94 false) (fun k W => okF (binP .neq v97 v99) fun v => k v W) (fun v100 W =>
 okF (pickP v94 (.bool true) v100) fun v101 =>
 gdK (wantd v101 false) (fun k W => k x5 W) (fun v103 W =>
 gdK (wantd v101 false) (fun k W => k x6 W) (fun v105 W =>
 gdK (wantd v101 false) (fun k W => okF (nilP v105) fun v => k v W) (fun v106 W =>
 gdK (wantd v101 false) (fun k W => okF (addrF 8 v106) fun v => k v W) (fun v107 W =>
 gdK (wantd v101 false) (fun k W => rdK PR (Instr.loadAt T_s_api_Dot v107) k W) (fun v108 W =>
 gdK (wantd v101 false) (fun k W => callK PR F_exec_Exec_Done [v103] (fun v W => stb PR [(23, (wantd v101 false), (Instr.loadAt T_s_api_Dot v107), v108)] (fun W => k v W) W) W) (fun v104 W =>
 gdK (wantd v101 false) (fun k W => callK PR F_rostrumlaw23_dots [v104, v108] k W) (fun v109 W =>
 gdK (wantd v101 false) (fun k W => okF (unP .not v109) fun v => k v W) (fun v110 W =>
 okF (pickP v101 (.bool true) v110) fun v111 =>
 ifK v111 (
 R (.bool false) W) (
 okF (binP .add x7 (.int .i64 1)) fun v26 =>
 K1 [x0, x3, x5, x6, v26] W)) W) W) W) W) W) W) W) W) W) W) W) W) W) W) W) W) W) (tick W)) W) W) W) W
def S.rostrumlaw23_ExecPlays.l1 (R : Value → World → Prop) (K1 : List Value → World → Prop) (x0 x3 x5 x6 x7 : Value) (W : World) : Prop :=
 okF (lenP (.slice T_rostrumlaw23_Act) x0) fun v23 =>
 okF (binP .lss x7 v23) fun v24 =>
 ifK v24 (
 okF (idxS 19 x0 x7) fun v29 =>
 rdK PR (Instr.loadAt T_rostrumlaw23_Act v29) (fun v30 W =>
 efK PR (Instr.alloc T_rostrumlaw23_Act true (.tuple #[])) (fun v8 W =>
 efK PR (Instr.storeAt T_rostrumlaw23_Act v8 v30) (fun _ W =>
 okF (addrF 18 v8) fun v31 =>
 rdK PR (Instr.loadAt T_s_uint8 v31) (fun v32 W =>
 okF (lenP (.slice T_uint8) v32) fun v33 =>
 okF (binP .gtr v33 (.int .i64 100)) fun v34 =>
 ifK v34 (
 R (.bool true) W) (
 joinK (fun s W => S.rostrumlaw23_ExecPlays.j1 R K1 (nthv s 0) (nthv s 1) (nthv s 2) (nthv s 3) (nthv s 4) W) (fun J1 =>
 okF (addrF 0 v8) fun v35 =>
 rdK PR (Instr.loadAt T_int v35) (fun v36 W =>
 okF (binP .eql v36 (.int .i64 0)) fun v37 =>
 ifK v37 (
 okF (addrF 1 v8) fun v39 =>
 rdK PR (Instr.loadAt T_order_Inst v39) (fun v40 W =>
 okF (addrF 11 v8) fun v41 =>
 rdK PR (Instr.loadAt T_vec_Vec v41) (fun v42 W =>
 okF (addrF 18 v8) fun v43 =>
 rdK PR (Instr.loadAt T_s_uint8 v43) (fun v44 W =>
 okF (addrF 1 v8) fun v47 =>
 okF (addrF 0 v47) fun v48 =>
 rdK PR (Instr.loadAt T_api_Dot v48) (fun v49 W =>
 okF (addrF 1 v8) fun v50 =>
 okF (addrF 2 v50) fun v51 =>
 rdK PR (Instr.loadAt T_int64 v51) (fun v52 W =>
 okF (addrF 1 v8) fun v53 =>
 okF (addrF 3 v53) fun v54 =>
 rdK PR (Instr.loadAt T_a7_int64 v54) (fun v55 W =>
 okF (bldP (fun i => ([(0, 2), (2, 1), (3, 7)] : List (Nat × Nat))[i]?) [.int .i64 0, .int .i64 0, .int .i64 0, .int .i64 0, .int .i64 0, .int .i64 0, .int .i64 0, .int .i64 0, .int .i64 0, .int .i64 0] [(0, v49), (1, v52), (2, v55)]) fun v56 =>
 okF (addrF 11 v8) fun v57 =>
 rdK PR (Instr.loadAt T_vec_Vec v57) (fun v58 W =>
 okF (addrF 18 v8) fun v59 =>
 rdK PR (Instr.loadAt T_s_uint8 v59) (fun v60 W =>
 callK PR F_exec_Exec_Commit [x5, v40, v42, v44] (fun v45 W =>
 stb PR [(22, true, (Instr.loadAt T_s_uint8 v59), v60), (20, true, (Instr.loadAt T_vec_Vec v57), v58), (17, true, (Instr.loadAt T_a7_int64 v54), v55), (14, true, (Instr.loadAt T_int64 v51), v52), (11, true, (Instr.loadAt T_api_Dot v48), v49)] (fun W =>
 callK PR F_rostrumref18_Exec_Commit [x6, v56, v58, v60] (fun v61 W =>
 okF (binP .neq v45 v61) fun v62 =>
 ifK v62 (
 R (.bool false) W) (
 J1 [x0, x3, x5, x6, x7] W)) W) W) W) W) W) W) W) W) W) W) (tick W)) (
 okF (addrF 11 v8) fun v64 =>
 rdK PR (Instr.loadAt T_vec_Vec v64) (fun v65 W =>
 okF (addrF 11 v8) fun v68 =>
 rdK PR (Instr.loadAt T_vec_Vec v68) (fun v69 W =>
 callK PR F_exec_Exec_Have [x5, v65] (fun v66 W =>
 stb PR [(6, true, (Instr.loadAt T_vec_Vec v68), v69)] (fun W =>
 callK PR F_rostrumref18_Exec_Have [x6, v69] (fun v70 W =>
 callK PR F_rostrumlaw23_dots [v66, v70] (fun v71 W =>
 okF (unP .not v71) fun v72 =>
 ifK v72 (
 R (.bool false) W) (
 J1 [x0, x3, x5, x6, x7] W)) W) W) W) W) W) (tick W))) W))) W) W) W) W) (
 R (.bool true) W)
def S.rostrumlaw23_ExecPlays.body (R : Value → World → Prop) (v0 v1 : Value) (W : World) : Prop :=
 efK PR (Instr.box T_api_Dot v1) (fun v3 W =>
 callK PR F_rostrumlaw23_awake [] (fun v13 W =>
 okF (unP .not v13) fun v14 =>
 ifK v14 (
 R (.bool false) W) (
 okF (lenP (.slice T_rostrumlaw23_Act) v0) fun v16 =>
 okF (binP .gtr v16 (.int .i64 30)) fun v17 =>
 ifK v17 (
 R (.bool true) W) (
 callK PR F_exec_New [] (fun v18 W =>
 okF (bldP (fun i => ([(0, 7), (7, 1), (8, 1)] : List (Nat × Nat))[i]?) [.int .i64 0, .int .i64 0, .int .i64 0, .int .i64 0, .int .i64 0, .int .i64 0, .int .i64 0, .slice none 0 0, .slice none 0 0] []) fun v19 =>
 efK PR (Instr.box T_rostrumref18_Exec v19) (fun v20 W =>
 loopK (fun K1 s W => S.rostrumlaw23_ExecPlays.l1 R K1 (nthv s 0) (nthv s 1) (nthv s 2) (nthv s 3) (nthv s 4) W) [v0, v3, v18, v20, (.int .i64 0)] W) W) W))) W) W
def S.rostrumlaw23_ExecPlays.hint : Hint := (.two .nil (.two (.two .nil (.two (.two .nil .nil) .nil)) (.two (.two .nil (.two (.two .nil .nil) .nil)) (.two .nil (.two (.two .nil (.at [0, 3, 5, 6, 7] (.two (.two .nil (.two .nil .nil)) (.two (.two .nil (.two (.two .nil (.two (.two .nil .nil) .nil)) (.at [0, 3, 5, 6, 7] (.two .nil (.two (.two .nil (.two (.two .nil .nil) .nil)) (.two .nil (.two (.two .nil .nil) .nil)))) (.two .nil (.two .nil (.two .nil (.two (.two .nil .nil) .nil))))))) .nil)) .nil)) (.two .nil .nil))))))
theorem S.rostrumlaw23_ExecPlays.ok (R : Value → World → Prop) (v0 v1 : Value) (W : World) : bodyK PR CB Tryz.f5 S.rostrumlaw23_ExecPlays.hint [v0, v1] R W = S.rostrumlaw23_ExecPlays.body R v0 v1 W := by kernel_rfl
theorem S.rostrumlaw23_ExecPlays.fn : PR.funcs[F_rostrumlaw23_ExecPlays]? = some Tryz.f5 := by kernel_rfl
theorem S.rostrumlaw23_ExecPlays.call {R : Value → World → Prop} {v0 v1 : Value} {W : World} (h : S.rostrumlaw23_ExecPlays.body R v0 v1 W) : callK PR F_rostrumlaw23_ExecPlays [v0, v1] R W :=
 callK_of_body (g := F_rostrumlaw23_ExecPlays) (fn := Tryz.f5) (args := [v0, v1]) (R := R) (w := W) mixed CBok S.rostrumlaw23_ExecPlays.fn S.rostrumlaw23_ExecPlays.hint (by rw [S.rostrumlaw23_ExecPlays.ok]; exact h)
end Go.Proofs.YtkjhccpanedccaaGreat
namespace Go.Proofs.YtkjhccpanedccaaGreat
set_option linter.unusedVariables false
set_option linter.unusedSimpArgs false
open Go Go.Eng Go.Tar Go.Sort Go.RowKit
theorem commit_bs {s : XS} {i : Ins} {w : P7 Int} {bs : List UInt8} {c : Cmd} (h : c ∈ (s.commit i w bs).1.cs) : c ∈ s.cs ∨ c.bs = bs := by
 unfold XS.commit at h
 split at h
 ·exact .inl h
 ·split at h
  ·exact .inl h
  ·split at h
   ·exact .inl h
   ·rcases List.mem_append.1 h with h | h
    ·exact .inl h
    ·rw [List.mem_singleton] at h; exact .inr (by rw [h])
theorem openDot {W : World} {v : Value} (h : GoodA W [.int .i64, .int .i64] true v) : ∃ d : Dot, v = .agg #[.int .i64 d.rep, .int .i64 d.n] := by
 obtain ⟨hl, ha, _⟩ := h
 obtain ⟨cs, rfl⟩ := ha rfl
 obtain ⟨_, _, e, h1, h⟩ := hl.cons'
 obtain ⟨_, _, rfl, h2, h⟩ := h.cons'
 obtain rfl := h.nil'
 obtain ⟨a, rfl, _⟩ := h1.int'
 obtain ⟨b, rfl, _⟩ := h2.int'
 have e : cs = _ := e
 subst e
 exact ⟨⟨a, b⟩, rfl⟩
set_option maxRecDepth 100000 in
set_option maxHeartbeats 4000000 in
theorem execPlays_walk {W : World} {v0 v1 : Value} (h0 : GoodA W [.sl ClA] false v0) (h1 : GoodA W [.int .i64, .int .i64] true v1) : callK PR F_rostrumlaw23_ExecPlays [v0, v1] (fun v W' => v = .bool true ∧ Lo W W') W := by
 obtain ⟨d, rfl⟩ := openDot h1
 obtain ⟨la, lc, l, rfl, hlc, hlm, hrd, hrg⟩ := openActs (goodAz h0)
 apply S.rostrumlaw23_ExecPlays.call
 unfold S.rostrumlaw23_ExecPlays.body
 have h00 : ({ W with drawn := 0 } : World).drawn = 0 := rfl
 have fin : ∀ (W' : World) (L : List Asn), St { W with drawn := 0 } L W' → Lo W W' := fun W' L h => St.lo h
 refine bxa (St.startz W) fun db W1 h => ?_
 generalize ({ W with drawn := 0 } : World) = W0 at *
 have h : St W0 [cells db [.int .i64 d.rep, .int .i64 d.n] T_api_Dot] W1 := h
 refine lawAwake23 h00 h fun W1 h => ?_
 by_cases c1 : (30 : Int) < (l.length : Int)
 ·(repeat (first | (first | ((with_reducible first | refine w1 ?_ | refine w3 ?_ | refine w4 ?_ | refine w11 ?_ | refine stb_n ?_); intros) | ((with_reducible first | refine v5 ?_ | refine v6 ?_ | refine v7 ?_ | refine ve ?_ | refine vn ?_); refine ⟨_, rfl, ?_⟩) | ((with_reducible first | refine v8 ?_ ?_ | refine v9 ?_ ?_ | refine v10 ?_ ?_ | refine v12 ?_ ?_); exact rfl; intros) | ((with_reducible refine w2 ?_); try simp -implicitDefEqProofs only [SE, SU, SV, c1]; intros) | ((with_reducible refine w5 ?_ ?_); simp; refine ⟨_, rfl, ?_⟩) | ((with_reducible refine w12 ?_ ?_ ?_ ?_); simp; simp; simp [oneC]; intros) | (refine okF_i (bldP_eq rfl) ?_; try simp only [BLS, SB, Nat.reduceAdd])) | simp -implicitDefEqProofs only [SE, SU, SV, c1]))
  exact fin _ _ (by first | assumption | exact St.tick (by assumption) | exact St.tick (St.tick (by assumption)))
 (repeat (first | (first | ((with_reducible first | refine w1 ?_ | refine w3 ?_ | refine w4 ?_ | refine w11 ?_ | refine stb_n ?_); intros) | ((with_reducible first | refine v5 ?_ | refine v6 ?_ | refine v7 ?_ | refine ve ?_ | refine vn ?_); refine ⟨_, rfl, ?_⟩) | ((with_reducible first | refine v8 ?_ ?_ | refine v9 ?_ ?_ | refine v10 ?_ ?_ | refine v12 ?_ ?_); exact rfl; intros) | ((with_reducible refine w2 ?_); try simp -implicitDefEqProofs only [SE, SU, SV, c1]; intros) | ((with_reducible refine w5 ?_ ?_); simp; refine ⟨_, rfl, ?_⟩) | ((with_reducible refine w12 ?_ ?_ ?_ ?_); simp; simp; simp [oneC]; intros) | (refine okF_i (bldP_eq rfl) ?_; try simp only [BLS, SB, Nat.reduceAdd])) | simp -implicitDefEqProofs only [SE, SU, SV, c1]))
 refine execNew (by first | assumption | exact St.tick (by assumption) | exact St.tick (St.tick (by assumption))) fun p W2 h => ?_
 (repeat (first | (first | ((with_reducible first | refine w1 ?_ | refine w3 ?_ | refine w4 ?_ | refine w11 ?_ | refine stb_n ?_); intros) | ((with_reducible first | refine v5 ?_ | refine v6 ?_ | refine v7 ?_ | refine ve ?_ | refine vn ?_); refine ⟨_, rfl, ?_⟩) | ((with_reducible first | refine v8 ?_ ?_ | refine v9 ?_ ?_ | refine v10 ?_ ?_ | refine v12 ?_ ?_); exact rfl; intros) | ((with_reducible refine w2 ?_); try simp -implicitDefEqProofs only [SE, SU, SV]; intros) | ((with_reducible refine w5 ?_ ?_); simp; refine ⟨_, rfl, ?_⟩) | ((with_reducible refine w12 ?_ ?_ ?_ ?_); simp; simp; simp [oneC]; intros) | (refine okF_i (bldP_eq rfl) ?_; try simp only [BLS, SB, Nat.reduceAdd])) | simp -implicitDefEqProofs only [SE, SU, SV]))
 rename_i q W3 h
 (try simp only [BLS, SB, stL_a, stL_b, stL_c, List.append_nil, List.take_nil, List.drop_nil, Nat.reduceAdd] at h)
 have hl30 : l.length ≤ 30 := by omega
 have h := rxo_new (p := q) (St.wk (L' := cells q [.int .i64 (P7.all (0 : Int)).x0, .int .i64 (P7.all (0 : Int)).x1, .int .i64 (P7.all (0 : Int)).x2, .int .i64 (P7.all (0 : Int)).x3, .int .i64 (P7.all (0 : Int)).x4, .int .i64 (P7.all (0 : Int)).x5, .int .i64 (P7.all (0 : Int)).x6, .slice none 0 0, .slice none 0 0] T_rostrumref18_Exec :: exo p XS.new :: cells db [.int .i64 d.rep, .int .i64 d.n] T_api_Dot :: []) h)
 refine loop_c (σ := Unit) l.length (fun i _ => [.slice la l.length lc, .pointer (some ⟨db, 0, none⟩), .pointer (some ⟨p, 0, none⟩), .pointer (some ⟨q, 0, none⟩), .int .i64 (i : Int)])
  (fun i _ W1 => (∀ c ∈ (runX (l.take i)).cs, c.bs.length ≤ 100) ∧ St W0 [rxo q (runX (l.take i)), exo p (runX (l.take i)), cells db [.int .i64 d.rep, .int .i64 d.n] T_api_Dot] W1) () rfl ⟨fun c hc => (by cases hc), h⟩ ?_
 clear h
 rintro K i _ W4 hi ⟨hbs, h⟩ hK
 simp -implicitDefEqProofs only [SE, SU, SV]
 unfold S.rostrumlaw23_ExecPlays.l1
 by_cases hlt : (i : Int) < (l.length : Int)
 ·have hib : i < l.length := by omega
  have ew : IntKind.i64.wrap ((i : Int) + 1) = ((i + 1 : Nat) : Int) := by rw [i64w]; omega
  have hxw0 := run_xw l (by omega) i hi
  have hxw := run_xw l (by omega) (i + 1) (by omega)
  have hsu := runX_succ l hib
  have hd0 := done_len hxw0 (by simp; omega)
  have hd1 := done_len hxw (by simp; omega)
  have hc0 := hxw0.len
  have hc1 := hxw.len
  rw [List.length_take] at hc0 hc1
  have hK9 := fun W' => hK () W' hib
  obtain ⟨g, o, e1⟩ := posAddr (i := i) (a := la) (A := AXL) (l := l) (St.start W0) hib
  subst e1
  have ei : idxS 19 (.slice (some ⟨g, o, none⟩) l.length lc) (.int .i64 (i : Int)) = some (.pointer (some ⟨g, o + i * 19, none⟩)) := by rw [idxS_blk (by omega) (by omega), Int.toNat_natCast]
  have hri : ro W0 g (o + i * 19) [.int .i64 l[i].op, .int .i64 (l[i].i.d).rep, .int .i64 (l[i].i.d).n, .int .i64 l[i].i.s, .int .i64 (l[i].i.v).x0, .int .i64 (l[i].i.v).x1, .int .i64 (l[i].i.v).x2, .int .i64 (l[i].i.v).x3, .int .i64 (l[i].i.v).x4, .int .i64 (l[i].i.v).x5, .int .i64 (l[i].i.v).x6, .int .i64 (l[i].v).x0, .int .i64 (l[i].v).x1, .int .i64 (l[i].v).x2, .int .i64 (l[i].v).x3, .int .i64 (l[i].v).x4, .int .i64 (l[i].v).x5, .int .i64 (l[i].v).x6, l[i].b.v] := Rd.row (A := AXL) (l := l) (St.start W0) hib
  obtain ⟨_, _, hrb⟩ := hrg l[i] (List.getElem_mem hib)
  generalize hs : runX (l.take i) = s at *
  generalize hs' : runX (l.take (i + 1)) = s' at *
  have hJ1 : (∀ c ∈ s'.cs, c.bs.length ≤ 100) → ∀ W', St W0 [rxo q s', exo p s', cells db [.int .i64 d.rep, .int .i64 d.n] T_api_Dot] W' →
    S.rostrumlaw23_ExecPlays.j1 (fun v W' => v = .bool true ∧ Lo W W') K (.slice (some ⟨g, o, none⟩) l.length lc) (.pointer (some ⟨db, 0, none⟩)) (.pointer (some ⟨p, 0, none⟩)) (.pointer (some ⟨q, 0, none⟩)) (.int .i64 (i : Int)) W' := by
   clear h
   intro hb2 W5 h
   unfold S.rostrumlaw23_ExecPlays.j1
   (repeat (first | (first | ((with_reducible first | refine w1 ?_ | refine w3 ?_ | refine w4 ?_ | refine w11 ?_ | refine stb_n ?_); intros) | ((with_reducible first | refine v5 ?_ | refine v6 ?_ | refine v7 ?_ | refine ve ?_ | refine vn ?_); refine ⟨_, rfl, ?_⟩) | ((with_reducible first | refine v8 ?_ ?_ | refine v9 ?_ ?_ | refine v10 ?_ ?_ | refine v12 ?_ ?_); exact rfl; intros) | ((with_reducible refine w2 ?_); try simp -implicitDefEqProofs only [SE, SU, SV]; intros) | ((with_reducible refine w5 ?_ ?_); simp; refine ⟨_, rfl, ?_⟩) | ((with_reducible refine w12 ?_ ?_ ?_ ?_); simp; simp; simp [oneC]; intros) | (refine okF_i (bldP_eq rfl) ?_; try simp only [BLS, SB, Nat.reduceAdd])) | simp -implicitDefEqProofs only [SE, SU, SV]))
   refine execBody (s := s') (d := d) (St.wk (L' := exo p s' :: rxo q s' :: cells db [.int .i64 d.rep, .int .i64 d.n] T_api_Dot :: []) (by first | assumption | exact St.tick (by assumption) | exact St.tick (St.tick (by assumption)))) (fun c hc => Nat.le_trans (hb2 c hc) (by omega)) fun ab cb W6 h => ?_
   (repeat (first | (first | ((with_reducible first | refine w1 ?_ | refine w3 ?_ | refine w4 ?_ | refine w11 ?_ | refine stb_n ?_); intros) | ((with_reducible first | refine v5 ?_ | refine v6 ?_ | refine v7 ?_ | refine ve ?_ | refine vn ?_); refine ⟨_, rfl, ?_⟩) | ((with_reducible first | refine v8 ?_ ?_ | refine v9 ?_ ?_ | refine v10 ?_ ?_ | refine v12 ?_ ?_); exact rfl; intros) | ((with_reducible refine w2 ?_); try simp -implicitDefEqProofs only [SE, SU, SV]; intros) | ((with_reducible refine w5 ?_ ?_); simp; refine ⟨_, rfl, ?_⟩) | ((with_reducible refine w12 ?_ ?_ ?_ ?_); simp; simp; simp [oneC]; intros) | (refine okF_i (bldP_eq rfl) ?_; try simp only [BLS, SB, Nat.reduceAdd])) | simp -implicitDefEqProofs only [SE, SU, SV]))
   obtain ⟨ys, ra, rc, da, dc, hy, h⟩ := rxo_at (St.wk (L' := rxo q s' :: arr B8 T_uint8 ab cb (s'.bodyOf d) :: exo p s' :: cells db [.int .i64 d.rep, .int .i64 d.n] T_api_Dot :: []) h)
   have hyl : ys.length = s'.cs.length := by rw [← hy, List.length_map]
   refine rBody (s := s') (ys := ys) (la := ra) (lc := rc) (da := da) (dc := dc) (d := d) (L := arr B8 T_uint8 ab cb (s'.bodyOf d) :: exo p s' :: cells db [.int .i64 d.rep, .int .i64 d.n] T_api_Dot :: []) hy (by omega) (by first | assumption | exact St.tick (by assumption) | exact St.tick (St.tick (by assumption))) fun a2 c2 W7 h hrd2 => ?_
   have hbl : (s'.bodyOf d).length ≤ 100 := by
    unfold XS.bodyOf
    cases hf : s'.find d with
    | none => simp
    | some c => exact hb2 c (List.mem_of_find?_eq_some hf)
   (repeat (first | (first | ((with_reducible first | refine w1 ?_ | refine w3 ?_ | refine w4 ?_ | refine w11 ?_ | refine stb_n ?_); intros) | ((with_reducible first | refine v5 ?_ | refine v6 ?_ | refine v7 ?_ | refine ve ?_ | refine vn ?_); refine ⟨_, rfl, ?_⟩) | ((with_reducible first | refine v8 ?_ ?_ | refine v9 ?_ ?_ | refine v10 ?_ ?_ | refine v12 ?_ ?_); exact rfl; intros) | ((with_reducible refine w2 ?_); try simp -implicitDefEqProofs only [SE, SU, SV]; intros) | ((with_reducible refine w5 ?_ ?_); simp; refine ⟨_, rfl, ?_⟩) | ((with_reducible refine w12 ?_ ?_ ?_ ?_); simp; simp; simp [oneC]; intros) | (refine okF_i (bldP_eq rfl) ?_; try simp only [BLS, SB, Nat.reduceAdd])) | simp -implicitDefEqProofs only [SE, SU, SV]))
   refine b2s (a := ab) (l := s'.bodyOf d) (by first | assumption | exact St.tick (by assumption) | exact St.tick (St.tick (by assumption))) ?_
   refine b2s (a := a2) (l := s'.bodyOf d) (by first | assumption | exact St.tick (by assumption) | exact St.tick (St.tick (by assumption))) ?_
   have h := St.wk (L' := exo p s' :: rxL q s' ys ra rc da dc (cells db [.int .i64 d.rep, .int .i64 d.n] T_api_Dot :: [])) h
   (repeat (first | (first | ((with_reducible first | refine w1 ?_ | refine w3 ?_ | refine w4 ?_ | refine w11 ?_ | refine stb_n ?_); intros) | ((with_reducible first | refine v5 ?_ | refine v6 ?_ | refine v7 ?_ | refine ve ?_ | refine vn ?_); refine ⟨_, rfl, ?_⟩) | ((with_reducible first | refine v8 ?_ ?_ | refine v9 ?_ ?_ | refine v10 ?_ ?_ | refine v12 ?_ ?_); exact rfl; intros) | ((with_reducible refine w2 ?_); try simp -implicitDefEqProofs only [SE, SU, SV]; intros) | ((with_reducible refine w5 ?_ ?_); simp; refine ⟨_, rfl, ?_⟩) | ((with_reducible refine w12 ?_ ?_ ?_ ?_); simp; simp; simp [oneC]; intros) | (refine okF_i (bldP_eq rfl) ?_; try simp only [BLS, SB, Nat.reduceAdd])) | simp -implicitDefEqProofs only [SE, SU, SV]))
   refine execWaits (s := s') (L := rxL q s' ys ra rc da dc (cells db [.int .i64 d.rep, .int .i64 d.n] T_api_Dot :: [])) (St.wk (by first | assumption | exact St.tick (by assumption) | exact St.tick (St.tick (by assumption)))) (by omega) (by omega) fun W8 h => ?_
   (repeat (first | (first | ((with_reducible first | refine w1 ?_ | refine w3 ?_ | refine w4 ?_ | refine w11 ?_ | refine stb_n ?_); intros) | ((with_reducible first | refine v5 ?_ | refine v6 ?_ | refine v7 ?_ | refine ve ?_ | refine vn ?_); refine ⟨_, rfl, ?_⟩) | ((with_reducible first | refine v8 ?_ ?_ | refine v9 ?_ ?_ | refine v10 ?_ ?_ | refine v12 ?_ ?_); exact rfl; intros) | ((with_reducible refine w2 ?_); try simp -implicitDefEqProofs only [SE, SU, SV]; intros) | ((with_reducible refine w5 ?_ ?_); simp; refine ⟨_, rfl, ?_⟩) | ((with_reducible refine w12 ?_ ?_ ?_ ?_); simp; simp; simp [oneC]; intros) | (refine okF_i (bldP_eq rfl) ?_; try simp only [BLS, SB, Nat.reduceAdd])) | simp -implicitDefEqProofs only [SE, SU, SV]))
   refine rWaits (s := s') (ys := ys) (la := ra) (lc := rc) (da := da) (dc := dc) (L := exo p s' :: cells db [.int .i64 d.rep, .int .i64 d.n] T_api_Dot :: []) hy (by omega) (by omega) (St.wk (by first | assumption | exact St.tick (by assumption) | exact St.tick (St.tick (by assumption)))) fun W9 h => ?_
   (repeat (first | (first | ((with_reducible first | refine w1 ?_ | refine w3 ?_ | refine w4 ?_ | refine w11 ?_ | refine stb_n ?_); intros) | ((with_reducible first | refine v5 ?_ | refine v6 ?_ | refine v7 ?_ | refine ve ?_ | refine vn ?_); refine ⟨_, rfl, ?_⟩) | ((with_reducible first | refine v8 ?_ ?_ | refine v9 ?_ ?_ | refine v10 ?_ ?_ | refine v12 ?_ ?_); exact rfl; intros) | ((with_reducible refine w2 ?_); try simp -implicitDefEqProofs only [SE, SU, SV]; intros) | ((with_reducible refine w5 ?_ ?_); simp; refine ⟨_, rfl, ?_⟩) | ((with_reducible refine w12 ?_ ?_ ?_ ?_); simp; simp; simp [oneC]; intros) | (refine okF_i (bldP_eq rfl) ?_; try simp only [BLS, SB, Nat.reduceAdd])) | simp -implicitDefEqProofs only [SE, SU, SV]))
   refine execDone (s := s') (L := rxL q s' ys ra rc da dc (cells db [.int .i64 d.rep, .int .i64 d.n] T_api_Dot :: [])) (St.wk (by first | assumption | exact St.tick (by assumption) | exact St.tick (St.tick (by assumption)))) (by omega) fun ad cd W10 h => ?_
   (repeat (first | (first | ((with_reducible first | refine w1 ?_ | refine w3 ?_ | refine w4 ?_ | refine w11 ?_ | refine stb_n ?_); intros) | ((with_reducible first | refine v5 ?_ | refine v6 ?_ | refine v7 ?_ | refine ve ?_ | refine vn ?_); refine ⟨_, rfl, ?_⟩) | ((with_reducible first | refine v8 ?_ ?_ | refine v9 ?_ ?_ | refine v10 ?_ ?_ | refine v12 ?_ ?_); exact rfl; intros) | ((with_reducible refine w2 ?_); try simp -implicitDefEqProofs only [SE, SU, SV]; intros) | ((with_reducible refine w5 ?_ ?_); simp; refine ⟨_, rfl, ?_⟩) | ((with_reducible refine w12 ?_ ?_ ?_ ?_); simp; simp; simp [oneC]; intros) | (refine okF_i (bldP_eq rfl) ?_; try simp only [BLS, SB, Nat.reduceAdd])) | simp -implicitDefEqProofs only [SE, SU, SV]))
   refine lawDots23 (a := ad) (b := da) (l := s'.done) (m := s'.done) (by first | assumption | exact St.tick (by assumption) | exact St.tick (St.tick (by assumption))) (by omega) fun W11 h => ?_
   rw [decide_eq_true rfl]
   have h := rxo_of (s := s') (ys := ys) (la := ra) (lc := rc) (da := da) (dc := dc) (p := q) (L := exo p s' :: cells db [.int .i64 d.rep, .int .i64 d.n] T_api_Dot :: []) hy (St.wk h)
   (repeat (first | (first | ((with_reducible first | refine w1 ?_ | refine w3 ?_ | refine w4 ?_ | refine w11 ?_ | refine stb_n ?_); intros) | ((with_reducible first | refine v5 ?_ | refine v6 ?_ | refine v7 ?_ | refine ve ?_ | refine vn ?_); refine ⟨_, rfl, ?_⟩) | ((with_reducible first | refine v8 ?_ ?_ | refine v9 ?_ ?_ | refine v10 ?_ ?_ | refine v12 ?_ ?_); exact rfl; intros) | ((with_reducible refine w2 ?_); try simp -implicitDefEqProofs only [SE, SU, SV, ew]; intros) | ((with_reducible refine w5 ?_ ?_); simp; refine ⟨_, rfl, ?_⟩) | ((with_reducible refine w12 ?_ ?_ ?_ ?_); simp; simp; simp [oneC]; intros) | (refine okF_i (bldP_eq rfl) ?_; try simp only [BLS, SB, Nat.reduceAdd])) | simp -implicitDefEqProofs only [SE, SU, SV, ew]))
   exact hK9 _ ⟨hb2, (by first | assumption | exact St.tick (by assumption) | exact St.tick (St.tick (by assumption)))⟩
  clear hK hK9
  generalize l[i] = x at *
  unfold XS.act at hsu
  haveI := hrb
  by_cases cb : (100 : Int) < (x.b.bs.length : Int)
  ·(repeat (first | (first | ((with_reducible first | refine w1 ?_ | refine w3 ?_ | refine w4 ?_ | refine w11 ?_ | refine stb_n ?_); intros) | ((with_reducible first | refine v5 ?_ | refine v6 ?_ | refine v7 ?_ | refine ve ?_ | refine vn ?_); refine ⟨_, rfl, ?_⟩) | ((with_reducible first | refine v8 ?_ ?_ | refine v9 ?_ ?_ | refine v10 ?_ ?_ | refine v12 ?_ ?_); exact rfl; intros) | ((with_reducible refine w2 ?_); try simp -implicitDefEqProofs only [SE, SU, SV, hlt, ei, cb]; intros) | ((with_reducible refine w5 ?_ ?_); simp; refine ⟨_, rfl, ?_⟩) | ((with_reducible refine w12 ?_ ?_ ?_ ?_); simp; simp; simp [oneC]; intros) | (refine okF_i (bldP_eq rfl) ?_; try simp only [BLS, SB, Nat.reduceAdd])) | simp -implicitDefEqProofs only [SE, SU, SV, hlt, ei, cb]))
   exact fin _ _ (by first | assumption | exact St.tick (by assumption) | exact St.tick (St.tick (by assumption)))
  (repeat (first | (first | ((with_reducible first | refine w1 ?_ | refine w3 ?_ | refine w4 ?_ | refine w11 ?_ | refine stb_n ?_); intros) | ((with_reducible first | refine v5 ?_ | refine v6 ?_ | refine v7 ?_ | refine ve ?_ | refine vn ?_); refine ⟨_, rfl, ?_⟩) | ((with_reducible first | refine v8 ?_ ?_ | refine v9 ?_ ?_ | refine v10 ?_ ?_ | refine v12 ?_ ?_); exact rfl; intros) | ((with_reducible refine w2 ?_); try simp -implicitDefEqProofs only [SE, SU, SV, hlt, ei, cb]; intros) | ((with_reducible refine w5 ?_ ?_); simp; refine ⟨_, rfl, ?_⟩) | ((with_reducible refine w12 ?_ ?_ ?_ ?_); simp; simp; simp [oneC]; intros) | (refine okF_i (bldP_eq rfl) ?_; try simp only [BLS, SB, Nat.reduceAdd])) | simp -implicitDefEqProofs only [SE, SU, SV, hlt, ei, cb]))
  refine joinK_i ?_
  rename_i vb _ _ W5 h
  (try simp only [BLS, SB, stL_a, stL_b, stL_c, List.append_nil, List.take_nil, List.drop_nil, Nat.reduceAdd] at h)
  by_cases c2 : x.op = 0
  ·rw [if_pos c2] at hsu
   have hb2 : ∀ c ∈ s'.cs, c.bs.length ≤ 100 := fun c hc => by
    rw [hsu] at hc
    rcases commit_bs hc with hc | hc
    ·exact hbs c hc
    ·rw [hc]; omega
   (repeat (first | (first | ((with_reducible first | refine w1 ?_ | refine w3 ?_ | refine w4 ?_ | refine w11 ?_ | refine stb_n ?_); intros) | ((with_reducible first | refine v5 ?_ | refine v6 ?_ | refine v7 ?_ | refine ve ?_ | refine vn ?_); refine ⟨_, rfl, ?_⟩) | ((with_reducible first | refine v8 ?_ ?_ | refine v9 ?_ ?_ | refine v10 ?_ ?_ | refine v12 ?_ ?_); exact rfl; intros) | ((with_reducible refine w2 ?_); try simp -implicitDefEqProofs only [SE, SU, SV, c2]; intros) | ((with_reducible refine w5 ?_ ?_); simp; refine ⟨_, rfl, ?_⟩) | ((with_reducible refine w12 ?_ ?_ ?_ ?_); simp; simp; simp [oneC]; intros) | (refine okF_i (bldP_eq rfl) ?_; try simp only [BLS, SB, Nat.reduceAdd])) | simp -implicitDefEqProofs only [SE, SU, SV, c2]))
   refine execCommit (s := s) (i := x.i) (w := x.v) (a := x.b.a) (bs := x.b.bs) (L := rxo q s :: cells vb [.int .i64 x.op, .int .i64 x.i.d.rep, .int .i64 x.i.d.n, .int .i64 x.i.s, .int .i64 x.i.v.x0, .int .i64 x.i.v.x1, .int .i64 x.i.v.x2, .int .i64 x.i.v.x3, .int .i64 x.i.v.x4, .int .i64 x.i.v.x5, .int .i64 x.i.v.x6, .int .i64 x.v.x0, .int .i64 x.v.x1, .int .i64 x.v.x2, .int .i64 x.v.x3, .int .i64 x.v.x4, .int .i64 x.v.x5, .int .i64 x.v.x6, x.b.v] T_rostrumlaw23_Act :: cells db [.int .i64 d.rep, .int .i64 d.n] T_api_Dot :: []) (St.wk (by first | assumption | exact St.tick (by assumption) | exact St.tick (St.tick (by assumption)))) fun W6 h => ?_
   (repeat (first | (first | ((with_reducible first | refine w1 ?_ | refine w3 ?_ | refine w4 ?_ | refine w11 ?_ | refine stb_n ?_); intros) | ((with_reducible first | refine v5 ?_ | refine v6 ?_ | refine v7 ?_ | refine ve ?_ | refine vn ?_); refine ⟨_, rfl, ?_⟩) | ((with_reducible first | refine v8 ?_ ?_ | refine v9 ?_ ?_ | refine v10 ?_ ?_ | refine v12 ?_ ?_); exact rfl; intros) | ((with_reducible refine w2 ?_); try simp -implicitDefEqProofs only [SE, SU, SV]; intros) | ((with_reducible refine w5 ?_ ?_); simp; refine ⟨_, rfl, ?_⟩) | ((with_reducible refine w12 ?_ ?_ ?_ ?_); simp; simp; simp [oneC]; intros) | (refine okF_i (bldP_eq rfl) ?_; try simp only [BLS, SB, Nat.reduceAdd])) | simp -implicitDefEqProofs only [SE, SU, SV]))
   obtain ⟨ys, ra, rc, da, dc, hy, h⟩ := rxo_at (St.wk (L' := rxo q s :: exo p (s.commit x.i x.v x.b.bs).1 :: cells db [.int .i64 d.rep, .int .i64 d.n] T_api_Dot :: []) (by first | assumption | exact St.tick (by assumption) | exact St.tick (St.tick (by assumption))))
   have hyl : ys.length = s.cs.length := by rw [← hy, List.length_map]
   refine rCommit (s := s) (i := x.i) (w := x.v) (a := x.b.a) (bs := x.b.bs) (ys := ys) (la := ra) (lc := rc) (da := da) (dc := dc) hy (by omega) (by first | assumption | exact St.tick (by assumption) | exact St.tick (St.tick (by assumption))) fun W7 h => ?_
   rw [← hsu] at h
   (repeat (first | (first | ((with_reducible first | refine w1 ?_ | refine w3 ?_ | refine w4 ?_ | refine w11 ?_ | refine stb_n ?_); intros) | ((with_reducible first | refine v5 ?_ | refine v6 ?_ | refine v7 ?_ | refine ve ?_ | refine vn ?_); refine ⟨_, rfl, ?_⟩) | ((with_reducible first | refine v8 ?_ ?_ | refine v9 ?_ ?_ | refine v10 ?_ ?_ | refine v12 ?_ ?_); exact rfl; intros) | ((with_reducible refine w2 ?_); try simp -implicitDefEqProofs only [SE, SU, SV]; intros) | ((with_reducible refine w5 ?_ ?_); simp; refine ⟨_, rfl, ?_⟩) | ((with_reducible refine w12 ?_ ?_ ?_ ?_); simp; simp; simp [oneC]; intros) | (refine okF_i (bldP_eq rfl) ?_; try simp only [BLS, SB, Nat.reduceAdd])) | simp -implicitDefEqProofs only [SE, SU, SV]))
   exact hJ1 hb2 _ (by first | assumption | exact St.tick (by assumption) | exact St.tick (St.tick (by assumption)))
  ·rw [if_neg c2] at hsu
   have hb2 : ∀ c ∈ s'.cs, c.bs.length ≤ 100 := fun c hc => hbs c (by rw [hsu, havesR_eq] at hc; exact hc)
   (repeat (first | (first | ((with_reducible first | refine w1 ?_ | refine w3 ?_ | refine w4 ?_ | refine w11 ?_ | refine stb_n ?_); intros) | ((with_reducible first | refine v5 ?_ | refine v6 ?_ | refine v7 ?_ | refine ve ?_ | refine vn ?_); refine ⟨_, rfl, ?_⟩) | ((with_reducible first | refine v8 ?_ ?_ | refine v9 ?_ ?_ | refine v10 ?_ ?_ | refine v12 ?_ ?_); exact rfl; intros) | ((with_reducible refine w2 ?_); try simp -implicitDefEqProofs only [SE, SU, SV, c2]; intros) | ((with_reducible refine w5 ?_ ?_); simp; refine ⟨_, rfl, ?_⟩) | ((with_reducible refine w12 ?_ ?_ ?_ ?_); simp; simp; simp [oneC]; intros) | (refine okF_i (bldP_eq rfl) ?_; try simp only [BLS, SB, Nat.reduceAdd])) | simp -implicitDefEqProofs only [SE, SU, SV, c2]))
   refine execHave (s := s) (v := x.v) (L := rxo q s :: cells vb [.int .i64 x.op, .int .i64 x.i.d.rep, .int .i64 x.i.d.n, .int .i64 x.i.s, .int .i64 x.i.v.x0, .int .i64 x.i.v.x1, .int .i64 x.i.v.x2, .int .i64 x.i.v.x3, .int .i64 x.i.v.x4, .int .i64 x.i.v.x5, .int .i64 x.i.v.x6, .int .i64 x.v.x0, .int .i64 x.v.x1, .int .i64 x.v.x2, .int .i64 x.v.x3, .int .i64 x.v.x4, .int .i64 x.v.x5, .int .i64 x.v.x6, x.b.v] T_rostrumlaw23_Act :: cells db [.int .i64 d.rep, .int .i64 d.n] T_api_Dot :: []) h00 (St.wk (by first | assumption | exact St.tick (by assumption) | exact St.tick (St.tick (by assumption)))) (by omega) hd0 (line0_len _ _) fun a5 c5 W6 h => ?_
   rw [← hsu] at h
   (repeat (first | (first | ((with_reducible first | refine w1 ?_ | refine w3 ?_ | refine w4 ?_ | refine w11 ?_ | refine stb_n ?_); intros) | ((with_reducible first | refine v5 ?_ | refine v6 ?_ | refine v7 ?_ | refine ve ?_ | refine vn ?_); refine ⟨_, rfl, ?_⟩) | ((with_reducible first | refine v8 ?_ ?_ | refine v9 ?_ ?_ | refine v10 ?_ ?_ | refine v12 ?_ ?_); exact rfl; intros) | ((with_reducible refine w2 ?_); try simp -implicitDefEqProofs only [SE, SU, SV]; intros) | ((with_reducible refine w5 ?_ ?_); simp; refine ⟨_, rfl, ?_⟩) | ((with_reducible refine w12 ?_ ?_ ?_ ?_); simp; simp; simp [oneC]; intros) | (refine okF_i (bldP_eq rfl) ?_; try simp only [BLS, SB, Nat.reduceAdd])) | simp -implicitDefEqProofs only [SE, SU, SV]))
   have h := St.wk (L' := rxo q s :: arr DOT T_api_Dot a5 c5 (s.haves x.v).2 :: exo p s' :: cells db [.int .i64 d.rep, .int .i64 d.n] T_api_Dot :: []) h
   obtain ⟨ys, ra, rc, da, dc, hy, h⟩ := rxo_at h
   have hyl : ys.length = s.cs.length := by rw [← hy, List.length_map]
   refine rHave (s := s) (v := x.v) (ys := ys) (la := ra) (lc := rc) (da := da) (dc := dc) hy (by omega) (by omega) h fun a6 c6 W7 h => ?_
   rw [← havesR_eq, ← hsu] at h
   rw [← havesR_eq]
   have hll : (s.haves x.v).2.length < 4611686018427387904 := by
    have e1 := nowF_len (s.merge x.v) (lineTop (P7.all 0) [] (s.merge x.v).ins)
    have e2 := line0_len (P7.all 0) [] (s.merge x.v).ins
    have e3 : (s.merge x.v).ins.length = s.cs.length := by unfold XS.merge XS.ins; split <;> simp
    show (nowF (s.merge x.v) (lineTop (P7.all 0) [] (s.merge x.v).ins)).length < _
    omega
   refine lawDots23 (a := a5) (b := a6) (l := (s.haves x.v).2) (m := (s.haves x.v).2) h hll fun W8 h => ?_
   rw [decide_eq_true rfl]
   (repeat (first | (first | ((with_reducible first | refine w1 ?_ | refine w3 ?_ | refine w4 ?_ | refine w11 ?_ | refine stb_n ?_); intros) | ((with_reducible first | refine v5 ?_ | refine v6 ?_ | refine v7 ?_ | refine ve ?_ | refine vn ?_); refine ⟨_, rfl, ?_⟩) | ((with_reducible first | refine v8 ?_ ?_ | refine v9 ?_ ?_ | refine v10 ?_ ?_ | refine v12 ?_ ?_); exact rfl; intros) | ((with_reducible refine w2 ?_); try simp -implicitDefEqProofs only [SE, SU, SV]; intros) | ((with_reducible refine w5 ?_ ?_); simp; refine ⟨_, rfl, ?_⟩) | ((with_reducible refine w12 ?_ ?_ ?_ ?_); simp; simp; simp [oneC]; intros) | (refine okF_i (bldP_eq rfl) ?_; try simp only [BLS, SB, Nat.reduceAdd])) | simp -implicitDefEqProofs only [SE, SU, SV]))
   exact hJ1 hb2 _ (St.wk (L' := rxo q s' :: exo p s' :: cells db [.int .i64 d.rep, .int .i64 d.n] T_api_Dot :: []) (by first | assumption | exact St.tick (by assumption) | exact St.tick (St.tick (by assumption))))
 ·(repeat (first | (first | ((with_reducible first | refine w1 ?_ | refine w3 ?_ | refine w4 ?_ | refine w11 ?_ | refine stb_n ?_); intros) | ((with_reducible first | refine v5 ?_ | refine v6 ?_ | refine v7 ?_ | refine ve ?_ | refine vn ?_); refine ⟨_, rfl, ?_⟩) | ((with_reducible first | refine v8 ?_ ?_ | refine v9 ?_ ?_ | refine v10 ?_ ?_ | refine v12 ?_ ?_); exact rfl; intros) | ((with_reducible refine w2 ?_); try simp -implicitDefEqProofs only [SE, SU, SV, hlt]; intros) | ((with_reducible refine w5 ?_ ?_); simp; refine ⟨_, rfl, ?_⟩) | ((with_reducible refine w12 ?_ ?_ ?_ ?_); simp; simp; simp [oneC]; intros) | (refine okF_i (bldP_eq rfl) ?_; try simp only [BLS, SB, Nat.reduceAdd])) | simp -implicitDefEqProofs only [SE, SU, SV, hlt]))
  exact fin _ _ (by first | assumption | exact St.tick (by assumption) | exact St.tick (St.tick (by assumption)))
end Go.Proofs.YtkjhccpanedccaaGreat
