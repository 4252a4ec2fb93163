/- Texts of the claim OrderParts, joined: COrd20, PLine3, LOrd, LOrd2, Opn, Opn2, Lz, ShLaw8, LOrd3, LOrd5p. -/
import Derived.Test.YtkjhccpanedccaaGreatBOrderParts8
import Derived.Test.YtkjhccpanedccaaGreatBOrderParts6
import Derived.Test.YtkjhccpanedccaaGreatBOrderParts2
import Derived.Deep.Slices
import Derived.OpenShut
import Derived.ShutString
import Derived.ChangeOld
import Derived.Carry
import Derived.Test.YtkjhccpanedccaaGreatBOrderParts1
namespace Go.Proofs.YtkjhccpanedccaaGreat
set_option linter.unusedVariables false
set_option linter.unusedSimpArgs false
open Go Go.Eng Go.Tar Go.Sort
/-- a slice of dots, as it lies -/
structure DSl where
  a : Option Addr
  c : Nat
  l : List Dot
abbrev DSl.v (x : DSl) : Value := .slice x.a x.l.length x.c
instance : Inhabited DSl := ⟨⟨none, 0, []⟩⟩
def DSY : Ly DSl := ⟨1, by omega, fun x => [x.v], fun _ => rfl, fun _ => rfl⟩
@[reducible] def dch (x : DSl) : Asn := arr DOT T_api_Dot x.a x.c x.l
/-- a slice of slices of dots that is owned with all its rows -/
def LD (a : Option Addr) (c : Nat) (vs : List (List Dot)) : Asn := fun h => ∃ rows : List DSl, rows.map (·.l) = vs ∧ sep [arr DSY T_s_api_Dot a c rows, many dch rows] h
def dotLt (x y : Dot) : Prop := x.rep < y.rep ∨ (x.rep = y.rep ∧ x.n < y.n)
instance (x y : Dot) : Decidable (dotLt x y) := by unfold dotLt; infer_instance
def hdD (l : List Dot) : Dot := l.headD ⟨0, 0⟩
def cmpD (x y : Dot) : Int := orI [cmpI x.rep y.rep, cmpI x.n y.n]
def sortD (gs : List (List Dot)) : List (List Dot) := isort (fun x y => !decide (dotLt (hdD y) (hdD x))) gs
theorem cmpD_lt (x y : Dot) : cmpD x y < 0 ↔ dotLt x y := by
  unfold cmpD dotLt
  simp only [orI]
  by_cases h4 : x.rep < y.rep
  · simp [cmpI, h4]
  · by_cases h5 : y.rep < x.rep
    · simp [cmpI, h4, h5]; omega
    · have h6 : x.rep = y.rep := by omega
      by_cases h7 : x.n < y.n
      · simp [cmpI, h6, h7]
      · by_cases h8 : y.n < x.n
        · simp [cmpI, h6, h7, h8]
        · simp [cmpI, h6, h7, h8]
theorem dotLt_same {x y : Dot} (h1 : ¬ dotLt x y) (h2 : ¬ dotLt y x) : x = y := by
  unfold dotLt at *
  obtain ⟨r, n⟩ := x
  obtain ⟨r', n'⟩ := y
  simp only [Dot.mk.injEq] at *
  omega
section
variable {W0 W : World} {L L' : List Asn} {a : Option Addr} {c n i g o : Nat} {vs gs m : List (List Dot)} {l : List Ins}
theorem ld_at (h : St W0 (LD a c vs :: L) W) : ∃ rows : List DSl, rows.map (·.l) = vs ∧ St W0 (arr DSY T_s_api_Dot a c rows :: many dch rows :: L) W := by
  obtain ⟨rows, h⟩ := h.ex
  obtain ⟨h1, h⟩ := h.fact
  exact ⟨rows, h1, h.flat⟩
theorem ld_ent {rows : List DSl} (h : rows.map (·.l) = vs) : ent (arr DSY T_s_api_Dot a c rows :: many dch rows :: L) (LD a c vs :: L) :=
  (ent.pack [_, _] L).trans (ent.weak fun _ hp => ⟨rows, h, hp⟩)
theorem ld_none : ent L (LD none 0 [] :: L) := ((many_nil (F := dch)).trans (arr_nil DSY T_s_api_Dot)).trans (ld_ent (rows := []) rfl)
theorem ld_snoc {rows : List DSl} {y : DSl} (hr : rows.map (·.l) = vs) (h : St W0 (arr DSY T_s_api_Dot a c (rows ++ [y]) :: dch y :: many dch rows :: L) W) : St W0 (LD a c (vs ++ [y.l]) :: L) W :=
  (h.ent ((ent.cons _ (many_uncons (F := dch) y rows)).trans (ent.cons _ (many_perm (F := dch) (List.perm_append_comm (l₁ := [y]) (l₂ := rows)))))).ent (ld_ent (by rw [List.map_append, hr]; rfl))
theorem dch_rd {rows : List DSl} {x : DSl} (hx : x ∈ rows) : Rd W0 (many dch rows :: L) x.a DOT x.l := ⟨fun W h => by
  obtain ⟨A, C, rfl⟩ := List.append_of_mem hx
  have h1 := h.ent ((many_perm (F := dch) (List.perm_middle (a := x) (l₁ := A) (l₂ := C))).trans (many_cons _ _))
  have hr : Rd W0 (arr DOT T_api_Dot x.a x.c x.l :: many dch (A ++ C) :: L) x.a DOT x.l := inferInstance
  exact hr.ok W h1⟩
theorem ixd {n : Nat} {v : Int} (hv : Vx n v) (g o c : Nat) : idxS 2 (.slice (some ⟨g, o, none⟩) n c) (.int .i64 v) = some (.pointer (some ⟨g, o + v.toNat * 2, none⟩)) := idxS_blk hv.1 hv.2
set_option maxRecDepth 100000 in
set_option maxHeartbeats 4000000 in
theorem ordGroups1 {x y : DSl} {rows : List DSl} (hx : x ∈ rows) (hy : y ∈ rows) (hx0 : x.l ≠ []) (hy0 : y.l ≠ []) (h : St W0 (many dch rows :: L) W) :
    callK PR F_order_Groups_1 [x.v, y.v] (fun v W' => v = .int .i64 (cmpD (hdD x.l) (hdD y.l)) ∧ St W [] W') W := by
  haveI hrx : Rd W [] x.a DOT x.l := Rd.base ((dch_rd (W0 := W0) (L := L) hx).ok W h)
  haveI hry : Rd W [] y.a DOT y.l := Rd.base ((dch_rd (W0 := W0) (L := L) hy).ok W h)
  have h1 : 0 < x.l.length := List.length_pos_iff.2 hx0
  have h2 : 0 < y.l.length := List.length_pos_iff.2 hy0
  have h := St.start W
  obtain ⟨xa, xc, xl⟩ := x
  obtain ⟨ya, yc, yl⟩ := y
  simp only at hrx hry h1 h2
  obtain ⟨g1, o1, e1⟩ := posAddr (i := 0) (a := xa) (A := DOT) (l := xl) h h1
  obtain ⟨g2, o2, e2⟩ := posAddr (i := 0) (a := ya) (A := DOT) (l := yl) h h2
  subst e1 e2
  have v1 : Vx xl.length 0 := ⟨by omega, by omega⟩
  have v2 : Vx yl.length 0 := ⟨by omega, by omega⟩
  have ex : xl[0] = hdD xl := by cases xl with
    | nil => simp at h1
    | cons b xl => rfl
  have ey : yl[0] = hdD yl := by cases yl with
    | nil => simp at h2
    | cons b yl => rfl
  apply S.order_Groups_1.call
  unfold S.order_Groups_1.body
  (repeat (first | (first | (with_reducible (first | refine w1 fun _ _ => ?_ | refine w3 fun _ _ _ => ?_ | refine w4 fun _ _ _ => ?_ | refine w11 fun _ _ _ => ?_ | refine stb_n ?_)) | ((with_reducible refine w2 ?_); try simp -implicitDefEqProofs only [EN, lsub, lget, stL, beq_self_eq_true, ne_eq, if_true, if_false, List.cons_append, List.nil_append, Option.isNone_some, Option.isNone_none, ixd v1]; intro _ _) | ((with_reducible (first | refine w5 ?_ ?_ | refine w6 ?_ ?_ | refine w7 ?_ ?_)); simp; refine ⟨_, rfl, ?_⟩) | ((with_reducible (first | refine w8 ?_ ?_ ?_ | refine w9 ?_ ?_ ?_ | refine w10 ?_ ?_ ?_)); exact rfl; simp) | ((with_reducible refine w12 ?_ ?_ ?_ fun _ _ => ?_); simp; simp; simp [oneC]) | ((with_reducible (first | refine eqs ?_ | refine nes ?_)); refine ⟨_, rfl, ?_⟩) | ((refine okF_i (bldP_eq rfl) ?_); try simp only [BLS, List.take_succ_cons, List.take_zero, List.drop_succ_cons, List.drop_zero, List.cons_append, List.nil_append, Nat.reduceAdd])) | simp -implicitDefEqProofs only [EN, lsub, lget, stL, beq_self_eq_true, ne_eq, if_true, if_false, List.cons_append, List.nil_append, Option.isNone_some, Option.isNone_none, ixd v1]))
  refine ldA0 (i := (0 : Int).toNat) (l := xl) (A := DOT) (by first | assumption | exact St.tick (by assumption) | exact St.tick (St.tick (by assumption))) rfl h1 (v := .int .i64 (hdD xl).rep) (by show getL _ (DOT.row xl[0]) _ _ = _; rw [ex]; rfl) (by simp) ?_
  (repeat (first | (first | (with_reducible (first | refine w1 fun _ _ => ?_ | refine w3 fun _ _ _ => ?_ | refine w4 fun _ _ _ => ?_ | refine w11 fun _ _ _ => ?_ | refine stb_n ?_)) | ((with_reducible refine w2 ?_); try simp -implicitDefEqProofs only [EN, lsub, lget, stL, beq_self_eq_true, ne_eq, if_true, if_false, List.cons_append, List.nil_append, Option.isNone_some, Option.isNone_none, ixd v2]; intro _ _) | ((with_reducible (first | refine w5 ?_ ?_ | refine w6 ?_ ?_ | refine w7 ?_ ?_)); simp; refine ⟨_, rfl, ?_⟩) | ((with_reducible (first | refine w8 ?_ ?_ ?_ | refine w9 ?_ ?_ ?_ | refine w10 ?_ ?_ ?_)); exact rfl; simp) | ((with_reducible refine w12 ?_ ?_ ?_ fun _ _ => ?_); simp; simp; simp [oneC]) | ((with_reducible (first | refine eqs ?_ | refine nes ?_)); refine ⟨_, rfl, ?_⟩) | ((refine okF_i (bldP_eq rfl) ?_); try simp only [BLS, List.take_succ_cons, List.take_zero, List.drop_succ_cons, List.drop_zero, List.cons_append, List.nil_append, Nat.reduceAdd])) | simp -implicitDefEqProofs only [EN, lsub, lget, stL, beq_self_eq_true, ne_eq, if_true, if_false, List.cons_append, List.nil_append, Option.isNone_some, Option.isNone_none, ixd v2]))
  refine ldA0 (i := (0 : Int).toNat) (l := yl) (A := DOT) (by first | assumption | exact St.tick (by assumption) | exact St.tick (St.tick (by assumption))) rfl h2 (v := .int .i64 (hdD yl).rep) (by show getL _ (DOT.row yl[0]) _ _ = _; rw [ey]; rfl) (by simp) ?_
  refine ldA (i := (0 : Int).toNat) (j := 1) (l := xl) (A := DOT) (by first | assumption | exact St.tick (by assumption) | exact St.tick (St.tick (by assumption))) rfl h1 (v := .int .i64 (hdD xl).n) (by show getL _ (DOT.row xl[0]) _ _ = _; rw [ex]; rfl) (by simp) ?_
  (repeat (first | (first | (with_reducible (first | refine w1 fun _ _ => ?_ | refine w3 fun _ _ _ => ?_ | refine w4 fun _ _ _ => ?_ | refine w11 fun _ _ _ => ?_ | refine stb_n ?_)) | ((with_reducible refine w2 ?_); try simp -implicitDefEqProofs only [EN, lsub, lget, stL, beq_self_eq_true, ne_eq, if_true, if_false, List.cons_append, List.nil_append, Option.isNone_some, Option.isNone_none, ixd v2]; intro _ _) | ((with_reducible (first | refine w5 ?_ ?_ | refine w6 ?_ ?_ | refine w7 ?_ ?_)); simp; refine ⟨_, rfl, ?_⟩) | ((with_reducible (first | refine w8 ?_ ?_ ?_ | refine w9 ?_ ?_ ?_ | refine w10 ?_ ?_ ?_)); exact rfl; simp) | ((with_reducible refine w12 ?_ ?_ ?_ fun _ _ => ?_); simp; simp; simp [oneC]) | ((with_reducible (first | refine eqs ?_ | refine nes ?_)); refine ⟨_, rfl, ?_⟩) | ((refine okF_i (bldP_eq rfl) ?_); try simp only [BLS, List.take_succ_cons, List.take_zero, List.drop_succ_cons, List.drop_zero, List.cons_append, List.nil_append, Nat.reduceAdd])) | simp -implicitDefEqProofs only [EN, lsub, lget, stL, beq_self_eq_true, ne_eq, if_true, if_false, List.cons_append, List.nil_append, Option.isNone_some, Option.isNone_none, ixd v2]))
  refine ldA (i := (0 : Int).toNat) (j := 1) (l := yl) (A := DOT) (by first | assumption | exact St.tick (by assumption) | exact St.tick (St.tick (by assumption))) rfl h2 (v := .int .i64 (hdD yl).n) (by show getL _ (DOT.row yl[0]) _ _ = _; rw [ey]; rfl) (by simp) ?_
  (repeat (first | (first | (with_reducible (first | refine w1 fun _ _ => ?_ | refine w3 fun _ _ _ => ?_ | refine w4 fun _ _ _ => ?_ | refine w11 fun _ _ _ => ?_ | refine stb_n ?_)) | ((with_reducible refine w2 ?_); try simp -implicitDefEqProofs only [EN, lsub, lget, stL, beq_self_eq_true, ne_eq, if_true, if_false, List.cons_append, List.nil_append, Option.isNone_some, Option.isNone_none]; intro _ _) | ((with_reducible (first | refine w5 ?_ ?_ | refine w6 ?_ ?_ | refine w7 ?_ ?_)); simp; refine ⟨_, rfl, ?_⟩) | ((with_reducible (first | refine w8 ?_ ?_ ?_ | refine w9 ?_ ?_ ?_ | refine w10 ?_ ?_ ?_)); exact rfl; simp) | ((with_reducible refine w12 ?_ ?_ ?_ fun _ _ => ?_); simp; simp; simp [oneC]) | ((with_reducible (first | refine eqs ?_ | refine nes ?_)); refine ⟨_, rfl, ?_⟩) | ((refine okF_i (bldP_eq rfl) ?_); try simp only [BLS, List.take_succ_cons, List.take_zero, List.drop_succ_cons, List.drop_zero, List.cons_append, List.nil_append, Nat.reduceAdd])) | simp -implicitDefEqProofs only [EN, lsub, lget, stL, beq_self_eq_true, ne_eq, if_true, if_false, List.cons_append, List.nil_append, Option.isNone_some, Option.isNone_none]))
  refine stb_ldA (i := (0 : Int).toNat) (j := 1) (l := yl) (A := DOT) (by first | assumption | exact St.tick (by assumption) | exact St.tick (St.tick (by assumption))) rfl h2 (by show getL _ (DOT.row yl[0]) _ _ = _; rw [ey]; rfl) (by simp) ?_
  refine stb_ldA (i := (0 : Int).toNat) (j := 1) (l := xl) (A := DOT) (by first | assumption | exact St.tick (by assumption) | exact St.tick (St.tick (by assumption))) rfl h1 (by show getL _ (DOT.row xl[0]) _ _ = _; rw [ex]; rfl) (by simp) ?_
  (repeat (first | (first | (with_reducible (first | refine w1 fun _ _ => ?_ | refine w3 fun _ _ _ => ?_ | refine w4 fun _ _ _ => ?_ | refine w11 fun _ _ _ => ?_ | refine stb_n ?_)) | ((with_reducible refine w2 ?_); try simp -implicitDefEqProofs only [EN, lsub, lget, stL, beq_self_eq_true, ne_eq, if_true, if_false, List.cons_append, List.nil_append, Option.isNone_some, Option.isNone_none]; intro _ _) | ((with_reducible (first | refine w5 ?_ ?_ | refine w6 ?_ ?_ | refine w7 ?_ ?_)); simp; refine ⟨_, rfl, ?_⟩) | ((with_reducible (first | refine w8 ?_ ?_ ?_ | refine w9 ?_ ?_ ?_ | refine w10 ?_ ?_ ?_)); exact rfl; simp) | ((with_reducible refine w12 ?_ ?_ ?_ fun _ _ => ?_); simp; simp; simp [oneC]) | ((with_reducible (first | refine eqs ?_ | refine nes ?_)); refine ⟨_, rfl, ?_⟩) | ((refine okF_i (bldP_eq rfl) ?_); try simp only [BLS, List.take_succ_cons, List.take_zero, List.drop_succ_cons, List.drop_zero, List.cons_append, List.nil_append, Nat.reduceAdd])) | simp -implicitDefEqProofs only [EN, lsub, lget, stL, beq_self_eq_true, ne_eq, if_true, if_false, List.cons_append, List.nil_append, Option.isNone_some, Option.isNone_none]))
  refine or2 (by first | assumption | exact St.tick (by assumption) | exact St.tick (St.tick (by assumption))) fun W4 h => ?_
  (first | exact St.nil (by first | assumption | exact St.tick (by assumption) | exact St.tick (St.tick (by assumption))) | exact ⟨rfl, St.nil (by first | assumption | exact St.tick (by assumption) | exact St.tick (St.tick (by assumption)))⟩)
theorem swoD {α : Type} (f : α → Dot) : SWO (Proofs.ltOf fun x y => cmpD (f x) (f y)) where
  irrefl x := by unfold Proofs.ltOf; rw [decide_eq_false_iff_not, cmpD_lt, dotLt]; omega
  trans x y z h1 h2 := by unfold Proofs.ltOf at *; rw [decide_eq_true_eq, cmpD_lt, dotLt] at *; omega
  ntrans x y z h1 h2 := by unfold Proofs.ltOf at *; rw [decide_eq_false_iff_not, cmpD_lt, dotLt] at *; omega
theorem sortD_perm (gs : List (List Dot)) : (sortD gs).Perm gs := isort_perm gs
theorem sortD_sorted (gs : List (List Dot)) : (sortD gs).Pairwise fun x y => ¬ dotLt (hdD y) (hdD x) :=
  (isort_sorted (fun a b c h1 h2 => by
    simp only [Bool.not_eq_true', decide_eq_false_iff_not] at *; unfold dotLt at *; omega) (fun a b => by
    simp only [Bool.or_eq_true, Bool.not_eq_true', decide_eq_false_iff_not]; unfold dotLt; omega) gs).imp fun {a b} h => by simpa using h
theorem sortD_one (hn : (gs.map hdD).Nodup) (h1 : m.Perm gs) (s1 : m.Pairwise fun x y => ¬ dotLt (hdD y) (hdD x)) : m = sortD gs :=
  List.Perm.eq_of_pairwise (le := fun x y => ¬ dotLt (hdD y) (hdD x)) (fun a b ha hb g1 g2 => map_inj hn (h1.mem_iff.1 ha) ((sortD_perm gs).mem_iff.1 hb) (dotLt_same g2 g1)) s1 (sortD_sorted gs) (h1.trans (sortD_perm gs).symm)
theorem ordSortD {k : Value → World → Prop} (h : St W0 (LD a c gs :: L) W) (hne : ∀ g ∈ gs, g ≠ []) (hn : (gs.map hdD).Nodup) (hl : gs.length < 1000000)
    (hk : ∀ W', St W0 (LD a c (sortD gs) :: L) W' → k (.tuple #[]) W') : callK PR F_slices_SortFunc_api_Dot_api_Dot [.slice a gs.length c, .func (.func F_order_Groups_1) #[] #[]] k W := by
  obtain ⟨rows, hrows, h⟩ := ld_at h
  have hrl : rows.length = gs.length := by rw [← hrows, List.length_map]
  have hnr : (rows.map fun r => hdD r.l).Nodup := by rw [← hrows, List.map_map] at hn; exact hn
  have hne' : ∀ r ∈ rows, r.l ≠ [] := fun r hr => hne r.l (by rw [← hrows]; exact List.mem_map_of_mem hr)
  rw [← hrl]
  refine sortIx1 (P := PR) (ρ := laySortGrd_ren) laySortGrd (A := DSY) (enc := DSl.v) (fun _ => rfl) (fun x y => cmpD (hdD x.l) (hdD y.l)) (l := rows) (swoD fun i : Fin rows.length => hdD (atF rows i).l) (fun i j h1 h2 => ?_) F_order_Groups_1 []
    (fun args w => callFunc_ok (CBok _ (by kernel_rfl)) w) h (fun x hx y hy W' h' => ordGroups1 hx hy (hne' x hx) (hne' y hy) h') (by omega) fun m W' hp hs h' => ?_
  · unfold Proofs.ltOf at h1 h2
    rw [decide_eq_false_iff_not, cmpD_lt] at h1 h2
    have h3 := List.getElem_inj (h₀ := by simp) (h₁ := by simp) (i := i.val) (j := j.val) hnr
    refine Fin.ext (h3.1 ?_)
    simp only [List.getElem_map]
    exact dotLt_same h1 h2
  · refine hk W' ?_
    have hm : m.map (·.l) = sortD gs := sortD_one hn (by rw [← hrows]; exact hp.map _) (List.pairwise_map.2 (hs.imp fun {x y} h => by rw [cmpD_lt] at h; exact h))
    exact (h'.ent (ent.cons _ (many_perm (F := dch) hp.symm))).ent (ld_ent hm)
/-- the groups of good instances -/
def groupsO (l : List Ins) : List (List Dot) := sortD ((groupsF (onL (sortO l))).map (dotsO (sortO l)))
def groupsTop (l : List Ins) : List (List Dot) := if goodO l = true then groupsO l else []
theorem dots_inj {sl : List Ins} (hn : (sl.map (·.d)).Nodup) {v w : Int} (hv : Vx sl.length v) (hw : Vx sl.length w) (e : (sl.getD v.toNat default).d = (sl.getD w.toNat default).d) : v = w := by
  have hvn : v.toNat < sl.length := by unfold Vx at hv; omega
  have hwn : w.toNat < sl.length := by unfold Vx at hw; omega
  rw [← getD_at hvn, ← getD_at hwn] at e
  have h3 := List.getElem_inj (h₀ := by simpa using hvn) (h₁ := by simpa using hwn) (i := v.toNat) (j := w.toNat) hn
  have := h3.1 (by simpa using e)
  unfold Vx at hv hw; omega
theorem dotsHd {sl : List Ins} {g : List Int} (h : g ≠ []) : hdD (dotsO sl g) = (sl.getD (hdZ g).toNat default).d := by
  cases g with
  | nil => exact absurd rfl h
  | cons x g => rfl
theorem groups_ok {sl : List Ins} (hn : (sl.map (·.d)).Nodup) : (∀ g ∈ (groupsF (onL sl)).map (dotsO sl), g ≠ []) ∧ (((groupsF (onL sl)).map (dotsO sl)).map hdD).Nodup := by
  have hG := groups_grp (onL_ok sl)
  constructor
  · intro g hg
    obtain ⟨x, hx, rfl⟩ := List.mem_map.1 hg
    have := (hG.gok x hx).1
    cases x with
    | nil => exact absurd rfl this
    | cons a x => simp [dotsO]
  · have h1 := hd_nodup _ (fun g hg => (hG.gok g hg).1) hG.nd
    rw [List.nodup_iff_pairwise_ne, List.map_map, List.pairwise_map]
    rw [List.nodup_iff_pairwise_ne, List.pairwise_map] at h1
    refine List.Pairwise.imp_of_mem (fun {x y} hx hy hxy e => ?_) h1
    have hx0 := (hG.gok x hx).1
    have hy0 := (hG.gok y hy).1
    simp only [Function.comp_def] at e
    rw [dotsHd hx0, dotsHd hy0] at e
    exact hxy (dots_inj hn ((hG.all _).1 (List.mem_flatten.2 ⟨x, hx, hdZ_mem hx0⟩)) ((hG.all _).1 (List.mem_flatten.2 ⟨y, hy, hdZ_mem hy0⟩)) e)
set_option maxRecDepth 100000 in
set_option maxHeartbeats 4000000 in
theorem ordGroupsTop (h00 : W0.drawn = 0) (h : St W0 L W) [hr : Rd W0 L a INS l] (hl : l.length < 1000000) {k : Value → World → Prop}
    (hk : ∀ a' c' W', St W0 (LD a' c' (groupsTop l) :: L) W' → k (.slice a' (groupsTop l).length c') W') : callK PR F_order_Groups [.slice a l.length c] k W := by
  apply S.order_Groups.call
  unfold S.order_Groups.body
  refine ordGood (a := a) (l := l) h (by omega) fun W2 h => ?_
  unfold groupsTop at hk
  cases hg : goodO l with
  | false =>
    rw [if_neg (by rw [hg]; simp)] at hk
    (repeat (first | (first | (with_reducible (first | refine w1 fun _ _ => ?_ | refine w3 fun _ _ _ => ?_ | refine w4 fun _ _ _ => ?_ | refine w11 fun _ _ _ => ?_ | refine stb_n ?_)) | ((with_reducible refine w2 ?_); try simp -implicitDefEqProofs only [EN, lsub, lget, stL, beq_self_eq_true, ne_eq, if_true, if_false, List.cons_append, List.nil_append, Option.isNone_some, Option.isNone_none]; intro _ _) | ((with_reducible (first | refine w5 ?_ ?_ | refine w6 ?_ ?_ | refine w7 ?_ ?_)); simp; refine ⟨_, rfl, ?_⟩) | ((with_reducible (first | refine w8 ?_ ?_ ?_ | refine w9 ?_ ?_ ?_ | refine w10 ?_ ?_ ?_)); exact rfl; simp) | ((with_reducible refine w12 ?_ ?_ ?_ fun _ _ => ?_); simp; simp; simp [oneC]) | ((with_reducible (first | refine eqs ?_ | refine nes ?_)); refine ⟨_, rfl, ?_⟩) | ((refine okF_i (bldP_eq rfl) ?_); try simp only [BLS, List.take_succ_cons, List.take_zero, List.drop_succ_cons, List.drop_zero, List.cons_append, List.nil_append, Nat.reduceAdd])) | simp -implicitDefEqProofs only [EN, lsub, lget, stL, beq_self_eq_true, ne_eq, if_true, if_false, List.cons_append, List.nil_append, Option.isNone_some, Option.isNone_none]))
    exact hk none 0 _ (h.ent ld_none)
  | true =>
  rw [if_pos hg] at hk
  obtain ⟨hg1, hg2, hg3⟩ := goodO_iff.1 hg
  unfold groupsO at hk
  (repeat (first | (first | (with_reducible (first | refine w1 fun _ _ => ?_ | refine w3 fun _ _ _ => ?_ | refine w4 fun _ _ _ => ?_ | refine w11 fun _ _ _ => ?_ | refine stb_n ?_)) | ((with_reducible refine w2 ?_); try simp -implicitDefEqProofs only [EN, lsub, lget, stL, beq_self_eq_true, ne_eq, if_true, if_false, List.cons_append, List.nil_append, Option.isNone_some, Option.isNone_none]; intro _ _) | ((with_reducible (first | refine w5 ?_ ?_ | refine w6 ?_ ?_ | refine w7 ?_ ?_)); simp; refine ⟨_, rfl, ?_⟩) | ((with_reducible (first | refine w8 ?_ ?_ ?_ | refine w9 ?_ ?_ ?_ | refine w10 ?_ ?_ ?_)); exact rfl; simp) | ((with_reducible refine w12 ?_ ?_ ?_ fun _ _ => ?_); simp; simp; simp [oneC]) | ((with_reducible (first | refine eqs ?_ | refine nes ?_)); refine ⟨_, rfl, ?_⟩) | ((refine okF_i (bldP_eq rfl) ?_); try simp only [BLS, List.take_succ_cons, List.take_zero, List.drop_succ_cons, List.drop_zero, List.cons_append, List.nil_append, Nat.reduceAdd])) | simp -implicitDefEqProofs only [EN, lsub, lget, stL, beq_self_eq_true, ne_eq, if_true, if_false, List.cons_append, List.nil_append, Option.isNone_some, Option.isNone_none]))
  refine ordWeave (a := a) (l := l) (by first | assumption | exact St.tick (by assumption) | exact St.tick (St.tick (by assumption))) hl hg2 fun p W3 h => ?_
  have hsl := sortO_len l
  have hsn := sortO_nodup hg2
  have hsd : ∀ x ∈ sortO l, depsO x = true := fun x hx => (hg1 x ((sortO_perm l).mem_iff.1 hx)).2
  generalize sortO l = sl at *
  have hO := onL_ok sl
  have hrl2 := onL_rl hsd
  refine joinK_i ?_
  refine ordOn (sl := sl) h (by omega) hsd fun a5 c5 W11 h => ?_
  refine ordGroups h00 (by rw [hO.len]; exact hO) (by rw [hO.len]; omega) (fun v => by have := hrl2 v; omega) h fun a6 c6 W12 h => ?_
  have hgo := groups_ok hsn
  have hG := groups_grp hO
  have hgl : (groupsF (onL sl)).length ≤ sl.length := Nat.le_trans (flat_len _ fun g hg => (hG.gok g hg).1) (nodup_len hG.nd fun x hx => (hG.all x).1 hx)
  have hgv : ∀ g ∈ groupsF (onL sl), (∀ v ∈ g, Vx sl.length v) ∧ g.length ≤ sl.length := fun g hg => by
    have h1 : ∀ v ∈ g, Vx sl.length v := fun v hv => (hG.all v).1 (List.mem_flatten.2 ⟨g, hg, hv⟩)
    exact ⟨h1, nodup_len (hG.nd.sublist (List.sublist_flatten_of_mem hg)) h1⟩
  generalize groupsF (onL sl) = gs at *
  obtain ⟨rows, hrows, h⟩ := li_at h
  have h := (St.wk (L' := arr ISY T_s_int a6 c6 rows :: many ich rows :: wb p sl :: L) h).ent ld_none
  have hrl : rows.length = gs.length := by rw [← hrows, List.length_map]
  (repeat (first | (first | (with_reducible (first | refine w1 fun _ _ => ?_ | refine w3 fun _ _ _ => ?_ | refine w4 fun _ _ _ => ?_ | refine w11 fun _ _ _ => ?_ | refine stb_n ?_)) | ((with_reducible refine w2 ?_); try simp -implicitDefEqProofs only [EN, lsub, lget, stL, beq_self_eq_true, ne_eq, if_true, if_false, List.cons_append, List.nil_append, Option.isNone_some, Option.isNone_none]; intro _ _) | ((with_reducible (first | refine w5 ?_ ?_ | refine w6 ?_ ?_ | refine w7 ?_ ?_)); simp; refine ⟨_, rfl, ?_⟩) | ((with_reducible (first | refine w8 ?_ ?_ ?_ | refine w9 ?_ ?_ ?_ | refine w10 ?_ ?_ ?_)); exact rfl; simp) | ((with_reducible refine w12 ?_ ?_ ?_ fun _ _ => ?_); simp; simp; simp [oneC]) | ((with_reducible (first | refine eqs ?_ | refine nes ?_)); refine ⟨_, rfl, ?_⟩) | ((refine okF_i (bldP_eq rfl) ?_); try simp only [BLS, List.take_succ_cons, List.take_zero, List.drop_succ_cons, List.drop_zero, List.cons_append, List.nil_append, Nat.reduceAdd])) | simp -implicitDefEqProofs only [EN, lsub, lget, stL, beq_self_eq_true, ne_eq, if_true, if_false, List.cons_append, List.nil_append, Option.isNone_some, Option.isNone_none]))
  refine loop_c (σ := Option Addr × Nat) gs.length (fun i x => [.pointer (some ⟨p, 0, none⟩), .slice x.1 ((gs.take i).map (dotsO sl)).length x.2, .slice a6 gs.length c6, .int .i64 gs.length, .int .i64 (i : Int)])
    (fun i x W1 => St W0 (LD x.1 x.2 ((gs.take i).map (dotsO sl)) :: arr ISY T_s_int a6 c6 rows :: many ich rows :: wb p sl :: L) W1) (none, 0) rfl h ?_
  clear h
  rintro K i ⟨ax, cx⟩ W13 hi h hK
  simp only at h
  simp -implicitDefEqProofs only [EN, lsub, lget, stL, beq_self_eq_true, ne_eq, if_true, if_false, List.cons_append, List.nil_append, Option.isNone_some, Option.isNone_none]
  unfold S.order_Groups.l1
  by_cases hlt : (i : Int) < (gs.length : Int)
  · have hib : i < gs.length := by omega
    have hir : i < rows.length := by omega
    have ew : IntKind.i64.wrap ((i : Int) + 1) = ((i + 1 : Nat) : Int) := by rw [i64w]; omega
    have hrow := row_at hir
    rw [hrows, ← getD_at hib] at hrow
    have hmr : rows[i] ∈ rows := List.getElem_mem hir
    have htk : (gs.take (i + 1)).map (dotsO sl) = (gs.take i).map (dotsO sl) ++ [dotsO sl rows[i].l] := by rw [List.take_succ_eq_append_getElem hib, List.map_append, hrow]; rfl
    obtain ⟨hv1, hv2⟩ := hgv gs[i] (List.getElem_mem hib)
    rw [← hrow] at hv1 hv2
    obtain ⟨gr, or', e1⟩ := posAddr (i := i) (a := a6) (A := ISY) (l := rows) h hir
    subst e1
    (repeat (first | (first | (with_reducible (first | refine w1 fun _ _ => ?_ | refine w3 fun _ _ _ => ?_ | refine w4 fun _ _ _ => ?_ | refine w11 fun _ _ _ => ?_ | refine stb_n ?_)) | ((with_reducible refine w2 ?_); try simp -implicitDefEqProofs only [EN, lsub, lget, stL, beq_self_eq_true, ne_eq, if_true, if_false, List.cons_append, List.nil_append, Option.isNone_some, Option.isNone_none, hlt, ix2 hib]; intro _ _) | ((with_reducible (first | refine w5 ?_ ?_ | refine w6 ?_ ?_ | refine w7 ?_ ?_)); simp; refine ⟨_, rfl, ?_⟩) | ((with_reducible (first | refine w8 ?_ ?_ ?_ | refine w9 ?_ ?_ ?_ | refine w10 ?_ ?_ ?_)); exact rfl; simp) | ((with_reducible refine w12 ?_ ?_ ?_ fun _ _ => ?_); simp; simp; simp [oneC]) | ((with_reducible (first | refine eqs ?_ | refine nes ?_)); refine ⟨_, rfl, ?_⟩) | ((refine okF_i (bldP_eq rfl) ?_); try simp only [BLS, List.take_succ_cons, List.take_zero, List.drop_succ_cons, List.drop_zero, List.cons_append, List.nil_append, Nat.reduceAdd])) | simp -implicitDefEqProofs only [EN, lsub, lget, stL, beq_self_eq_true, ne_eq, if_true, if_false, List.cons_append, List.nil_append, Option.isNone_some, Option.isNone_none, hlt, ix2 hib]))
    refine ldR hir (by first | assumption | exact St.tick (by assumption) | exact St.tick (St.tick (by assumption))) ?_
    generalize rows[i] = y at *
    obtain ⟨ya, yc, yl⟩ := y
    simp only at htk hv1 hv2
    haveI hrd := ich_rd (W0 := W0) (L := L) hmr
    have h := St.wk (L' := wb p sl :: LD ax cx ((gs.take i).map (dotsO sl)) :: arr ISY T_s_int (some ⟨gr, or', none⟩) c6 rows :: many ich rows :: L) (by first | assumption | exact St.tick (by assumption) | exact St.tick (St.tick (by assumption)))
    haveI hrd2 : Rd W0 (LD ax cx ((gs.take i).map (dotsO sl)) :: arr ISY T_s_int (some ⟨gr, or', none⟩) c6 rows :: many ich rows :: L) ya I64 yl := inferInstance
    refine ordDots (l := yl) h hv1 (by omega) fun a7 c7 W14 h => ?_
    refine bsA DSY [(⟨a7, c7, dotsO sl yl⟩ : DSl)] (n := 1) (by first | assumption | exact St.tick (by assumption) | exact St.tick (St.tick (by assumption))) rfl rfl (by decide) (by decide) rfl fun a8 c8 W15 h => ?_
    obtain ⟨rd, hrd3, h⟩ := ld_at (St.wk (L' := LD ax cx ((gs.take i).map (dotsO sl)) :: arr DSY T_s_api_Dot a8 c8 [(⟨a7, c7, dotsO sl yl⟩ : DSl)] :: arr DOT T_api_Dot a7 c7 (dotsO sl yl) :: arr ISY T_s_int (some ⟨gr, or', none⟩) c6 rows :: many ich rows :: wb p sl :: L) h)
    have hdl : rd.length = ((gs.take i).map (dotsO sl)).length := by rw [← hrd3, List.length_map]
    have hdl2 : rd.length ≤ gs.length := by rw [hdl, List.length_map, List.length_take]; omega
    rw [← hdl]
    refine appA (A := DSY) (a := ax) (l := rd) (m := [(⟨a7, c7, dotsO sl yl⟩ : DSl)]) h rfl (by simp only [List.length_cons, List.length_nil]; omega) (by simp only [List.length_cons, List.length_nil, maxLen]; omega) fun a9 c9 W16 h => ?_
    have h := ld_snoc (y := ⟨a7, c7, dotsO sl yl⟩) (a := a9) (c := c9) (L := arr ISY T_s_int (some ⟨gr, or', none⟩) c6 rows :: many ich rows :: wb p sl :: L) hrd3 (St.wk h)
    have hl9 : (rd ++ [(⟨a7, c7, dotsO sl yl⟩ : DSl)]).length = ((gs.take (i + 1)).map (dotsO sl)).length := by rw [htk, List.length_append, List.length_append, hdl]; rfl
    rw [hl9]
    (repeat (first | (first | (with_reducible (first | refine w1 fun _ _ => ?_ | refine w3 fun _ _ _ => ?_ | refine w4 fun _ _ _ => ?_ | refine w11 fun _ _ _ => ?_ | refine stb_n ?_)) | ((with_reducible refine w2 ?_); try simp -implicitDefEqProofs only [EN, lsub, lget, stL, beq_self_eq_true, ne_eq, if_true, if_false, List.cons_append, List.nil_append, Option.isNone_some, Option.isNone_none, ew]; intro _ _) | ((with_reducible (first | refine w5 ?_ ?_ | refine w6 ?_ ?_ | refine w7 ?_ ?_)); simp; refine ⟨_, rfl, ?_⟩) | ((with_reducible (first | refine w8 ?_ ?_ ?_ | refine w9 ?_ ?_ ?_ | refine w10 ?_ ?_ ?_)); exact rfl; simp) | ((with_reducible refine w12 ?_ ?_ ?_ fun _ _ => ?_); simp; simp; simp [oneC]) | ((with_reducible (first | refine eqs ?_ | refine nes ?_)); refine ⟨_, rfl, ?_⟩) | ((refine okF_i (bldP_eq rfl) ?_); try simp only [BLS, List.take_succ_cons, List.take_zero, List.drop_succ_cons, List.drop_zero, List.cons_append, List.nil_append, Nat.reduceAdd])) | simp -implicitDefEqProofs only [EN, lsub, lget, stL, beq_self_eq_true, ne_eq, if_true, if_false, List.cons_append, List.nil_append, Option.isNone_some, Option.isNone_none, ew]))
    rw [← htk] at h
    exact hK (a9, c9) _ hib h
  · have hil : i = gs.length := by omega
    subst hil
    rw [List.take_length] at h ⊢
    (repeat (first | (first | (with_reducible (first | refine w1 fun _ _ => ?_ | refine w3 fun _ _ _ => ?_ | refine w4 fun _ _ _ => ?_ | refine w11 fun _ _ _ => ?_ | refine stb_n ?_)) | ((with_reducible refine w2 ?_); try simp -implicitDefEqProofs only [EN, lsub, lget, stL, beq_self_eq_true, ne_eq, if_true, if_false, List.cons_append, List.nil_append, Option.isNone_some, Option.isNone_none, hlt]; intro _ _) | ((with_reducible (first | refine w5 ?_ ?_ | refine w6 ?_ ?_ | refine w7 ?_ ?_)); simp; refine ⟨_, rfl, ?_⟩) | ((with_reducible (first | refine w8 ?_ ?_ ?_ | refine w9 ?_ ?_ ?_ | refine w10 ?_ ?_ ?_)); exact rfl; simp) | ((with_reducible refine w12 ?_ ?_ ?_ fun _ _ => ?_); simp; simp; simp [oneC]) | ((with_reducible (first | refine eqs ?_ | refine nes ?_)); refine ⟨_, rfl, ?_⟩) | ((refine okF_i (bldP_eq rfl) ?_); try simp only [BLS, List.take_succ_cons, List.take_zero, List.drop_succ_cons, List.drop_zero, List.cons_append, List.nil_append, Nat.reduceAdd])) | simp -implicitDefEqProofs only [EN, lsub, lget, stL, beq_self_eq_true, ne_eq, if_true, if_false, List.cons_append, List.nil_append, Option.isNone_some, Option.isNone_none, hlt]))
    unfold S.order_Groups.j1
    refine ordSortD h hgo.1 hgo.2 (by simp; omega) fun W14 h => ?_
    have e : (sortD (gs.map (dotsO sl))).length = (gs.map (dotsO sl)).length := (sortD_perm _).length_eq
    have := hk ax cx W14 (St.wk h)
    rwa [e] at this
end
end Go.Proofs.YtkjhccpanedccaaGreat
namespace Go.Tar
set_option linter.unusedVariables false
set_option linter.unusedSimpArgs false
section
variable {on : List (List Int)} {n : Nat} {all gs : List (List Int)} {x y : Int}
def Same (on : List (List Int)) (x y : Int) : Prop := Rch on x y ∧ Rch on y x
theorem take_at {i : Nat} (h : x ∈ (gs.take i).flatten) : ∃ j, j < i ∧ x ∈ gs.getD j [] := by
  obtain ⟨l, hl, hx⟩ := List.mem_flatten.1 h
  obtain ⟨j, hj, rfl⟩ := List.getElem_of_mem hl
  have hj2 : j < i ∧ j < gs.length := by simp at hj; omega
  exact ⟨j, hj2.1, by rw [List.getD_eq_getElem?_getD, List.getElem?_eq_getElem hj2.2]; simpa using hx⟩
theorem Grp.down (h : Grp on n gs) {i j : Nat} (hr : Rch on x y) (hx : x ∈ gs.getD i []) (hy : y ∈ gs.getD j []) : j ≤ i := by
  have key : ∃ k, k ≤ i ∧ y ∈ gs.getD k [] := by
    refine Rch.stay (on := on) (x := x) (C := fun z => ∃ k, k ≤ i ∧ z ∈ gs.getD k []) (fun a ha b hb => ?_) hr ⟨i, Nat.le_refl _, hx⟩
    obtain ⟨k, hk, hak⟩ := ha
    obtain ⟨j, hj, hbj⟩ := take_at (h.cls k a hak b hb)
    exact ⟨j, by omega, hbj⟩
  obtain ⟨k, hk, hyk⟩ := key
  rw [flat_uniq gs h.nd j k y hy hyk]; exact hk
/-- those that reach one another are in one group -/
theorem Grp.same (h : Grp on n gs) {g : List Int} (hg : g ∈ gs) (hx : x ∈ g) (hy : Vx n y) : y ∈ g ↔ Same on x y := by
  obtain ⟨i, hi, rfl⟩ := List.getElem_of_mem hg
  have ei : gs.getD i [] = gs[i] := by rw [List.getD_eq_getElem?_getD, List.getElem?_eq_getElem hi]; rfl
  constructor
  · exact fun hy => ⟨h.scc _ hg _ hx _ hy, h.scc _ hg _ hy _ hx⟩
  · rintro ⟨h1, h2⟩
    obtain ⟨j, hj, hyj⟩ := flatAt ((h.all y).2 hy)
    have a1 := h.down h1 (by rw [ei]; exact hx) hyj
    have a2 := h.down h2 hyj (by rw [ei]; exact hx)
    have : i = j := by omega
    rw [← ei, this]; exact hyj
theorem told_pw {h : Nat → Nat → Bool} {m : Nat} (r : Nat → Nat) (hr : ∀ g k, g < m → k < m → k ≠ g → h g k = true → r k < r g) : ∀ i, i ≤ m → (toldG h m i).Pairwise fun g k => h g k = false
  | 0, _ => List.Pairwise.nil
  | i + 1, hi => by
    have ih := told_pw r hr i (by omega)
    have hT := told_ok r hr i (by omega)
    have hn := next_free (free_ex r hr (short_ex (T := toldG h m i) (by rw [hT.len]; omega)))
    show (toldG h m i ++ [nextG h m (toldG h m i)]).Pairwise _
    rw [List.pairwise_append]
    refine ⟨ih, by simp, fun g hg k hk => ?_⟩
    rw [List.mem_singleton] at hk
    subst hk
    have hf := (freeG_iff.1 hn.2.1).1
    refine Bool.eq_false_iff.2 fun hh => hf ((hT.shut g hg).2 _ hn.1 (fun e => hf (e ▸ hg)) hh)
theorem lineF_eq (hO : OnOk on on.length) : lineF on = ((toldG (hngOf on) (allOf on).length (allOf on).length).map fun g => (allOf on).getD g []).flatten := (line_law hO _ (Nat.le_refl _)).2.1
theorem told_all (hO : OnOk on on.length) {g : Nat} (hg : g < (allOf on).length) : g ∈ toldG (hngOf on) (allOf on).length (allOf on).length := by
  have hT := (line_law hO _ (Nat.le_refl _)).2.2.2
  refine Classical.byContradiction fun hn => ?_
  have h1 : (g :: toldG (hngOf on) (allOf on).length (allOf on).length).Nodup := List.nodup_cons.2 ⟨hn, hT.nd⟩
  have h2 : (g :: toldG (hngOf on) (allOf on).length (allOf on).length) ⊆ List.range (allOf on).length := fun x hx => by
    rcases List.mem_cons.1 hx with rfl | hx
    · exact List.mem_range.2 hg
    · exact List.mem_range.2 (hT.shut x hx).1
  have := h1.length_le_of_subset h2
  rw [List.length_cons, hT.len, List.length_range] at this; omega
theorem lineF_mem (hO : OnOk on on.length) : x ∈ lineF on ↔ Vx on.length x := by
  have hp := allOf_prt hO
  rw [lineF_eq hO]
  constructor
  · intro h
    obtain ⟨l, hl, hx⟩ := List.mem_flatten.1 h
    obtain ⟨g, _, rfl⟩ := List.mem_map.1 hl
    exact (hp.mem x).1 (memFlat hx)
  · intro h
    obtain ⟨g, hg, hx⟩ := flatAt ((hp.mem x).2 h)
    exact List.mem_flatten.2 ⟨_, List.mem_map.2 ⟨g, told_all hO hg, rfl⟩, hx⟩
theorem allOf_mem {g : List Int} : g ∈ allOf on ↔ g ∈ groupsF on := (sortHd_perm _).mem_iff
theorem getD_nil_or (gs : List (List Int)) (g : Nat) : gs.getD g [] = [] ∨ gs.getD g [] ∈ gs := by
  by_cases h : g < gs.length
  · right; rw [List.getD_eq_getElem?_getD, List.getElem?_eq_getElem h]; exact List.getElem_mem h
  · left; exact getD_ge (by omega)
/-- the order of a line -/
theorem lineF_pw (hO : OnOk on on.length) : (lineF on).Pairwise fun x y => (Same on x y ∧ x < y) ∨ (¬ Same on x y ∧ y ∉ rowOf on x) := by
  have hp := allOf_prt hO
  have hG := groups_grp hO
  have hr : ∀ g k, g < (allOf on).length → k < (allOf on).length → k ≠ g → hngOf on g k = true → rankOf on k < rankOf on g := fun g k hg hk hne h => rank_lt hO hg hk hne ((hng_iff hp hO).1 h)
  have hT := (line_law hO _ (Nat.le_refl _)).2.2.2
  have hpw := told_pw (rankOf on) hr _ (Nat.le_refl _)
  rw [lineF_eq hO, List.pairwise_flatten]
  refine ⟨fun l hl => ?_, ?_⟩
  · obtain ⟨g, _, rfl⟩ := List.mem_map.1 hl
    rcases getD_nil_or (allOf on) g with e | hm
    · rw [e]; exact List.Pairwise.nil
    · have h1 := (hp.gok _ hm).2
      have h2 : ((allOf on).getD g []).Nodup := hp.nd.sublist (List.sublist_flatten_of_mem hm)
      rw [List.nodup_iff_pairwise_ne] at h2
      refine List.Pairwise.imp_of_mem (fun {x y} hx hy hxy => ?_) (List.pairwise_and_iff.2 ⟨h1, h2⟩)
      have hmg := allOf_mem.1 hm
      exact .inl ⟨⟨hG.scc _ hmg _ hx _ hy, hG.scc _ hmg _ hy _ hx⟩, by have := hxy.1; have := hxy.2; omega⟩
  · rw [List.pairwise_map]
    refine List.Pairwise.imp_of_mem (fun {g k} hg hk hgk x hx y hy => .inr ⟨fun hs => ?_, fun hu => ?_⟩) (List.pairwise_and_iff.2 ⟨hpw, List.nodup_iff_pairwise_ne.1 hT.nd⟩)
    · rcases getD_nil_or (allOf on) g with e | hm
      · rw [e] at hx; cases hx
      · have := (hG.same (allOf_mem.1 hm) hx ((hp.mem y).1 (memFlat hy))).2 hs
        exact hgk.2 (flat_uniq _ hp.nd g k y this hy)
    · have h1 : hngOf on g k = true := (hng_iff hp hO).2 ⟨x, hx, y, hu, hy⟩
      rw [hgk.1] at h1; cases h1
theorem lineF_nodup (hO : OnOk on on.length) : (lineF on).Nodup := by
  have hp := allOf_prt hO
  have hT := (line_law hO _ (Nat.le_refl _)).2.2.2
  rw [lineF_eq hO, List.nodup_iff_pairwise_ne, List.pairwise_flatten]
  refine ⟨fun l hl => ?_, ?_⟩
  · obtain ⟨g, _, rfl⟩ := List.mem_map.1 hl
    rcases getD_nil_or (allOf on) g with e | hm
    · rw [e]; exact List.Pairwise.nil
    · exact List.nodup_iff_pairwise_ne.1 (hp.nd.sublist (List.sublist_flatten_of_mem hm))
  · rw [List.pairwise_map]
    refine (List.nodup_iff_pairwise_ne.1 hT.nd).imp fun {g k} hgk x hx y hy e => ?_
    subst e
    exact hgk (flat_uniq _ hp.nd g k x hx hy)
end
/-- two rows in one strict order, the one with all that is ahead of its own: it is a beginning -/
theorem prefix_of {α : Type} {R : α → α → Prop} (hR : ∀ x y, R x y → R y x → False) : ∀ (a b : List α), a.Pairwise R → b.Pairwise R → (∀ y ∈ b, y ∈ a) → (∀ y ∈ b, ∀ x ∈ a, R x y → x ∈ b) → b = a.take b.length
  | a, [], _, _, _, _ => by simp
  | [], y :: b, _, _, h, _ => absurd (h y (by simp)) (by simp)
  | x :: a, y :: b, ha, hb, hs, hd => by
    rw [List.pairwise_cons] at ha hb
    have hxy : y = x := by
      rcases List.mem_cons.1 (hs y (by simp)) with e | hy
      · exact e
      · have hxb := hd y (by simp) x (by simp) (ha.1 y hy)
        rcases List.mem_cons.1 hxb with e | hxb
        · exact e.symm
        · exact (hR _ _ (ha.1 y hy) (hb.1 x hxb)).elim
    subst hxy
    have irr : ∀ z, ¬ R z z := fun z h => hR z z h h
    rw [List.length_cons, List.take_succ_cons]
    congr 1
    refine prefix_of hR a b ha.2 hb.2 (fun z hz => ?_) fun z hz w hw h => ?_
    · rcases List.mem_cons.1 (hs z (by simp [hz])) with e | hz'
      · exact (irr y (by have := hb.1 z hz; rwa [e] at this)).elim
      · exact hz'
    · rcases List.mem_cons.1 (hd z (by simp [hz]) w (by simp [hw]) h) with e | hw'
      · exact (irr y (by have := ha.1 w hw; rwa [e] at this)).elim
      · exact hw'
end Go.Tar
namespace Go.Proofs.YtkjhccpanedccaaGreat
set_option linter.unusedVariables false
set_option linter.unusedSimpArgs false
open Go Go.Eng Go.Tar Go.Sort
/-- what is reached from x by what hangs on what, within K -/
inductive DR (K : List Ins) : Ins → Ins → Prop
  | refl (x : Ins) : DR K x x
  | step {x y z : Ins} : DR K x y → z ∈ K → z.d ∈ depsL y → DR K x z
def Mut (K : List Ins) (x y : Ins) : Prop := DR K x y ∧ DR K y x
section
variable {sl K M l : List Ins} {q : Dot → Bool} {x y z : Ins} {i j : Nat}
theorem DR.trans (h1 : DR K x y) (h2 : DR K y z) : DR K x z := by
  induction h2 with
  | refl => exact h1
  | step _ h3 h4 ih => exact .step ih h3 h4
theorem DR.one (h : y ∈ K) (hd : y.d ∈ depsL x) : DR K x y := .step (.refl x) h hd
theorem DR.mono (hs : ∀ x ∈ K, x ∈ M) (h : DR K x y) : DR M x y := by
  induction h with
  | refl => exact .refl _
  | step _ h3 h4 ih => exact .step ih (hs _ h3) h4
theorem DR.mem (h : DR K x y) (hx : x ∈ K) : y ∈ K := by
  cases h with
  | refl => exact hx
  | step _ h3 _ => exact h3
theorem Mut.symm (h : Mut K x y) : Mut K y x := ⟨h.2, h.1⟩
theorem edge_iff (hn : (sl.map (·.d)).Nodup) (hi : i < sl.length) (hj : j < sl.length) : (j : Int) ∈ rowOf (onL sl) (i : Int) ↔ sl[j].d ∈ depsL sl[i] := by
  rw [onRow_at sl hi, onRow_mem]
  constructor
  · rintro ⟨d, hd, k, hk, e⟩
    obtain ⟨h1, h2⟩ := plcO_some hk
    have : k = j := by omega
    subst this; rw [h2]; exact hd
  · exact fun h => ⟨_, h, j, plcO_at hn hj, rfl⟩
theorem at_inj (hn : (sl.map (·.d)).Nodup) (hi : i < sl.length) (hj : j < sl.length) (e : sl[i].d = sl[j].d) : i = j := by
  have h3 := List.getElem_inj (h₀ := by simpa using hi) (h₁ := by simpa using hj) (i := i) (j := j) hn
  exact h3.1 (by simpa using e)
theorem rch_dr (hn : (sl.map (·.d)).Nodup) (hi : i < sl.length) (hj : j < sl.length) : Rch (onL sl) (i : Int) (j : Int) ↔ DR sl sl[i] sl[j] := by
  constructor
  · intro h
    have key : ∀ a b : Int, Rch (onL sl) a b → Vx sl.length a → ∀ (ha : a.toNat < sl.length) (hb : b.toNat < sl.length), DR sl sl[a.toNat] sl[b.toNat] := by
      intro a b hr
      induction hr with
      | refl => exact fun _ _ _ => .refl _
      | @step b c hr hc ih =>
        intro hax ha hcl
        have hb := rch_vx (onL_ok sl) hr hax
        have hcx := (onL_ok sl).rng b c hc
        have hbn : b.toNat < sl.length := by unfold Vx at hb; omega
        refine .step (ih hax ha hbn) (List.getElem_mem _) ((edge_iff hn hbn hcl).1 ?_)
        rw [show ((c.toNat : Nat) : Int) = c by unfold Vx at hcx; omega, show ((b.toNat : Nat) : Int) = b by unfold Vx at hb; omega]
        exact hc
    exact key i j h ⟨by omega, by omega⟩ (by simpa using hi) (by simpa using hj)
  · intro h
    generalize hx : sl[i] = x at h
    generalize hy : sl[j] = y at h
    induction h generalizing j with
    | refl =>
      have := at_inj hn hi hj (by rw [hx, hy])
      subst this; exact .refl _
    | @step y z _ hz hd ih =>
      by_cases hym : y ∈ sl
      · obtain ⟨k, hk, rfl⟩ := List.getElem_of_mem hym
        exact .step (ih hk rfl) ((edge_iff hn hk hj).2 (by rw [hy]; exact hd))
      · rename_i h
        cases h with
        | refl => exact absurd (hx ▸ List.getElem_mem hi) hym
        | step _ h3 _ => exact absurd h3 hym
/-- a line, as instances -/
def lineS (sl : List Ins) : List Ins := (lineF (onL sl)).map fun v => sl.getD v.toNat default
theorem dots_lineS (sl : List Ins) : dotsO sl (lineF (onL sl)) = (lineS sl).map (·.d) := by
  unfold dotsO lineS; rw [List.map_map]; rfl
theorem onO (sl : List Ins) : OnOk (onL sl) (onL sl).length := by rw [(onL_ok sl).len]; exact onL_ok sl
theorem lineF_at (v : Int) : v ∈ lineF (onL sl) ↔ ∃ k : Nat, v = k ∧ k < sl.length := by
  rw [lineF_mem (onO sl), (onL_ok sl).len]
  exact ⟨fun h => ⟨v.toNat, by unfold Vx at h; omega, by unfold Vx at h; omega⟩, fun ⟨k, e, hk⟩ => by unfold Vx; omega⟩
theorem lineS_mem : x ∈ lineS sl ↔ x ∈ sl := by
  unfold lineS
  rw [List.mem_map]
  constructor
  · rintro ⟨v, hv, rfl⟩
    obtain ⟨k, rfl, hk⟩ := (lineF_at v).1 hv
    rw [Int.toNat_natCast, ← getD_at hk]; exact List.getElem_mem hk
  · intro h
    obtain ⟨k, hk, rfl⟩ := List.getElem_of_mem h
    exact ⟨k, (lineF_at _).2 ⟨k, rfl, hk⟩, by rw [Int.toNat_natCast, ← getD_at hk]⟩
theorem lineS_nodup (hn : (sl.map (·.d)).Nodup) : ((lineS sl).map (·.d)).Nodup := by
  unfold lineS
  rw [List.map_map, List.nodup_iff_pairwise_ne, List.pairwise_map]
  refine List.Pairwise.imp_of_mem (fun {a b} ha hb hab e => ?_) (List.nodup_iff_pairwise_ne.1 (lineF_nodup (onO sl)))
  obtain ⟨i, rfl, hi⟩ := (lineF_at a).1 ha
  obtain ⟨j, rfl, hj⟩ := (lineF_at b).1 hb
  simp only [Function.comp_def, Int.toNat_natCast] at e
  rw [← getD_at hi, ← getD_at hj] at e
  exact hab (by rw [at_inj hn hi hj e])
theorem lineS_pw (hn : (sl.map (·.d)).Nodup) (hs : insSorted sl) : (lineS sl).Pairwise fun x y => (Mut sl x y ∧ insLt x y) ∨ (¬ Mut sl x y ∧ y.d ∉ depsL x) := by
  unfold lineS
  rw [List.pairwise_map]
  refine List.Pairwise.imp_of_mem (fun {a b} ha hb hab => ?_) (lineF_pw (onO sl))
  obtain ⟨i, rfl, hi⟩ := (lineF_at a).1 ha
  obtain ⟨j, rfl, hj⟩ := (lineF_at b).1 hb
  rw [Int.toNat_natCast, Int.toNat_natCast, ← getD_at hi, ← getD_at hj]
  have hm : Same (onL sl) i j ↔ Mut sl sl[i] sl[j] := and_congr (rch_dr hn hi hj) (rch_dr hn hj hi)
  rw [hm, edge_iff hn hi hj] at hab
  rcases hab with ⟨h1, h2⟩ | h
  · refine .inl ⟨h1, ?_⟩
    have hlt : i < j := by omega
    have h3 := List.pairwise_iff_getElem.1 hs i j hi hj hlt
    refine Classical.byContradiction fun h4 => ?_
    have := at_inj hn hi hj (insLt_same h4 h3)
    omega
  · exact .inr h
/-! ### of any instances -/
def lineK (K : List Ins) : List Ins := lineS (sortO K)
theorem sortO_mem : x ∈ sortO K ↔ x ∈ K := (sortO_perm K).mem_iff
theorem dr_sort : DR (sortO K) x y ↔ DR K x y := ⟨DR.mono fun _ h => sortO_mem.1 h, DR.mono fun _ h => sortO_mem.2 h⟩
theorem lineK_mem : x ∈ lineK K ↔ x ∈ K := lineS_mem.trans sortO_mem
theorem lineK_nodup (hn : (K.map (·.d)).Nodup) : ((lineK K).map (·.d)).Nodup := lineS_nodup (sortO_nodup hn)
theorem lineK_pw (hn : (K.map (·.d)).Nodup) : (lineK K).Pairwise fun x y => (Mut K x y ∧ insLt x y) ∨ (¬ Mut K x y ∧ y.d ∉ depsL x) := by
  have := lineS_pw (sortO_nodup hn) (sortO_sorted K)
  unfold Mut at this ⊢
  simp only [dr_sort] at this
  exact this
theorem lineO_eq : lineO q l = (lineK (keptO q (l.filter fun x => !q x.d))).map (·.d) := by unfold lineO lineK; exact dots_lineS _
/-! ### what is kept -/
theorem kept_mem : x ∈ keptO q l ↔ x ∈ l ∧ ¬ Lk (sortO l) q x := by
  unfold keptO
  rw [List.mem_filter, sortO_mem]; simp
theorem kept_nodup (hn : (l.map (·.d)).Nodup) : ((keptO q l).map (·.d)).Nodup := (sortO_nodup hn).sublist (kept_sub.map _)
theorem kept_closed {d : Dot} (hx : x ∈ keptO q l) (hd : d ∈ depsL x) : q d = true ∨ ∃ y ∈ keptO q l, y.d = d := by
  obtain ⟨h1, h2⟩ := kept_mem.1 hx
  by_cases hy : ∃ y ∈ l, y.d = d
  · obtain ⟨y, hy, rfl⟩ := hy
    exact .inr ⟨y, kept_mem.2 ⟨hy, fun hL => h2 (.next (sortO_mem.2 h1) (sortO_mem.2 hy) hd hL)⟩, rfl⟩
  · left
    refine Classical.byContradiction fun hq => h2 (.miss (sortO_mem.2 h1) hd (fun y hy2 e => hy ⟨y, sortO_mem.1 hy2, e⟩) (by simpa using hq))
theorem kept_great {C : Ins → Prop} (hn : (l.map (·.d)).Nodup) (hq : ∀ y ∈ l, q y.d = false) (hs : ∀ x, C x → x ∈ l) (hc : ∀ x, C x → ∀ d ∈ depsL x, q d = true ∨ ∃ y, C y ∧ y.d = d) (hx : C x) : x ∈ keptO q l := by
  refine kept_mem.2 ⟨hs x hx, fun hL => ?_⟩
  induction hL with
  | @miss x d _ hd hno hqd =>
    rcases hc x hx d hd with h | ⟨y, hy, e⟩
    · rw [hqd] at h; cases h
    · exact hno y (sortO_mem.2 (hs y hy)) e
  | @next x y _ hy hd _ ih =>
    rcases hc x hx y.d hd with h | ⟨y', hy', e⟩
    · rw [hq y (sortO_mem.1 hy)] at h; cases h
    · exact ih (ins_inj hn (hs y' hy') (sortO_mem.1 hy) e ▸ hy')
theorem kept_all (hc : ∀ x ∈ l, ∀ d ∈ depsL x, q d = true ∨ ∃ y ∈ l, y.d = d) (hn : (l.map (·.d)).Nodup) (hq : ∀ y ∈ l, q y.d = false) : x ∈ keptO q l ↔ x ∈ l :=
  ⟨fun h => (kept_mem.1 h).1, fun h => kept_great (C := fun x => x ∈ l) hn hq (fun _ h => h) (fun x hx d hd => hc x hx d hd) h⟩
/-- within what is closed all that is reached lies -/
theorem dr_closed (hn : (K.map (·.d)).Nodup) (hs : ∀ x ∈ M, x ∈ K) (hc : ∀ x ∈ M, ∀ d ∈ depsL x, ∃ y ∈ M, y.d = d) (hx : x ∈ M) (h : DR K x y) : y ∈ M ∧ DR M x y := by
  induction h with
  | refl => exact ⟨hx, .refl _⟩
  | @step y z _ hz hd ih =>
    obtain ⟨z', hz', e⟩ := hc y ih.1 z.d hd
    have : z' = z := ins_inj hn (hs z' hz') hz e
    subst this
    exact ⟨hz', .step ih.2 hz' hd⟩
/-- T3: where each two hang together, the line of what is closed is a beginning -/
theorem line_prefix (hn : (K.map (·.d)).Nodup) (hnm : (M.map (·.d)).Nodup) (hs : ∀ x ∈ M, x ∈ K) (hc : ∀ x ∈ M, ∀ d ∈ depsL x, ∃ y ∈ M, y.d = d) (hT : ∀ x ∈ K, ∀ y ∈ K, x ≠ y → x.d ∈ depsL y ∨ y.d ∈ depsL x) :
    lineK M = (lineK K).take (lineK M).length := by
  have key : ∀ N : List Ins, (N.map (·.d)).Nodup → (∀ x ∈ N, x ∈ K) → (∀ x ∈ N, ∀ y ∈ N, (DR N x y ↔ DR K x y)) → (lineK N).Pairwise fun x y => (Mut K x y ∧ insLt x y) ∨ (¬ Mut K x y ∧ DR K y x) := by
    intro N hnn hsn hdr
    have h1 := lineK_pw hnn
    have h2 := List.nodup_iff_pairwise_ne.1 (lineK_nodup hnn)
    rw [List.pairwise_map] at h2
    refine List.Pairwise.imp_of_mem (fun {x y} hx hy hxy => ?_) (List.pairwise_and_iff.2 ⟨h1, h2⟩)
    have hx := lineK_mem.1 hx
    have hy := lineK_mem.1 hy
    have hm : Mut N x y ↔ Mut K x y := and_congr (hdr x hx y hy) (hdr y hy x hx)
    obtain ⟨h3, h4⟩ := hxy
    rw [hm] at h3
    rcases h3 with h3 | ⟨h3, h5⟩
    · exact .inl h3
    · rcases hT x (hsn x hx) y (hsn y hy) (fun e => h4 (by rw [e])) with h6 | h6
      · exact .inr ⟨h3, .one (hsn x hx) h6⟩
      · exact absurd h6 h5
  refine prefix_of (R := fun x y => (Mut K x y ∧ insLt x y) ∨ (¬ Mut K x y ∧ DR K y x)) (fun x y h1 h2 => ?_) (lineK K) (lineK M) (key K hn (fun _ h => h) fun _ _ _ _ => Iff.rfl)
    (key M hnm hs fun x hx y _ => ⟨DR.mono hs, fun h => (dr_closed hn hs hc hx h).2⟩) (fun y hy => lineK_mem.2 (hs y (lineK_mem.1 hy))) fun y hy x hx h => ?_
  · rcases h1 with ⟨a1, a2⟩ | ⟨a1, a2⟩ <;> rcases h2 with ⟨b1, b2⟩ | ⟨b1, b2⟩
    · unfold insLt at a2 b2; omega
    · exact b1 a1.symm
    · exact a1 b1.symm
    · exact a1 ⟨b2, a2⟩
  · have hy := lineK_mem.1 hy
    refine lineK_mem.2 ?_
    rcases h with ⟨h, _⟩ | ⟨_, h⟩
    · exact (dr_closed hn hs hc hy h.2).1
    · exact (dr_closed hn hs hc hy h).1
end
end Go.Proofs.YtkjhccpanedccaaGreat
namespace Go.Proofs.YtkjhccpanedccaaGreat
set_option linter.unusedVariables false
set_option linter.unusedSimpArgs false
open Go Go.Eng Go.Tar Go.Sort
def stepK (q : Dot → Bool) (K : List Ins) : List Ins := K.filter fun x => (depsL x).all fun d => q d || K.any fun y => decide (y.d = d)
def iterK (q : Dot → Bool) : Nat → List Ins → List Ins
  | 0, K => K
  | n + 1, K => iterK q n (stepK q K)
def keptC (q : Dot → Bool) (l : List Ins) : List Ins := iterK q l.length (sortO l)
section
variable {q : Dot → Bool} {K l : List Ins} {x : Ins}
theorem iterK_sub : ∀ (n : Nat) (K : List Ins), (iterK q n K).Sublist K
  | 0, K => List.Sublist.refl _
  | n + 1, K => (iterK_sub n (stepK q K)).trans List.filter_sublist
theorem iterK_fix : ∀ (n : Nat) (K : List Ins), K.length ≤ n → stepK q (iterK q n K) = iterK q n K
  | 0, K, h => by
    have : K = [] := List.eq_nil_of_length_eq_zero (by omega)
    subst this; rfl
  | n + 1, K, h => by
    show stepK q (iterK q n (stepK q K)) = iterK q n (stepK q K)
    by_cases e : stepK q K = K
    · rw [e]
      have : ∀ m, iterK q m K = K := fun m => by
        induction m with
        | zero => rfl
        | succ m ih => show iterK q m (stepK q K) = K; rw [e]; exact ih
      rw [this, e]
    · refine iterK_fix n _ ?_
      have h1 : (stepK q K).length ≤ K.length := List.length_filter_le _ _
      have h2 : (stepK q K).length ≠ K.length := fun e2 => e ((List.filter_sublist (l := K)).eq_of_length e2)
      omega
theorem stepK_mem : x ∈ stepK q K ↔ x ∈ K ∧ ∀ d ∈ depsL x, q d = true ∨ ∃ y ∈ K, y.d = d := by
  unfold stepK
  rw [List.mem_filter, List.all_eq_true]
  simp only [Bool.or_eq_true, List.any_eq_true, decide_eq_true_eq]
theorem iterK_great {C : Ins → Prop} (hc : ∀ x, C x → ∀ d ∈ depsL x, q d = true ∨ ∃ y, C y ∧ y.d = d) : ∀ (n : Nat) (K : List Ins), (∀ x, C x → x ∈ K) → ∀ x, C x → x ∈ iterK q n K
  | 0, K, h => h
  | n + 1, K, h => iterK_great hc n _ fun x hx => stepK_mem.2 ⟨h x hx, fun d hd => (hc x hx d hd).imp_right fun ⟨y, hy, e⟩ => ⟨y, h y hy, e⟩⟩
open Classical in
theorem sub_filter {α : Type} {S L : List α} (h : S.Sublist L) (hn : L.Nodup) : S = L.filter fun x => decide (x ∈ S) := by
  induction h with
  | slnil => rfl
  | @cons S L a h ih =>
    rw [List.nodup_cons] at hn
    rw [List.filter_cons, if_neg (by simpa using fun ha => hn.1 (h.mem ha))]
    exact ih hn.2
  | @cons_cons S L a h ih =>
    rw [List.nodup_cons] at hn
    rw [List.filter_cons, if_pos (by simp)]
    congr 1
    refine (ih hn.2).trans (List.filter_congr fun x hx => ?_)
    have : x ≠ a := fun e => hn.1 (e ▸ hx)
    simp [this]
theorem nodup_of_map {α β : Type} {f : α → β} {l : List α} (h : (l.map f).Nodup) : l.Nodup := by
  rw [List.nodup_iff_pairwise_ne, List.pairwise_map] at h
  rw [List.nodup_iff_pairwise_ne]
  exact h.imp fun {a b} hab e => hab (by rw [e])
theorem kept_eq (hn : (l.map (·.d)).Nodup) (hq : ∀ y ∈ l, q y.d = false) : keptO q l = keptC q l := by
  have h1 : ∀ x, x ∈ keptO q l ↔ x ∈ keptC q l := fun x => by
    constructor
    · exact fun h => iterK_great (C := fun x => x ∈ keptO q l) (fun x hx d hd => kept_closed hx hd) l.length (sortO l) (fun x hx => sortO_mem.2 (kept_mem.1 hx).1) x h
    · intro h
      refine kept_great (C := fun x => x ∈ keptC q l) hn hq (fun x hx => sortO_mem.1 ((iterK_sub _ _).mem hx)) (fun x hx d hd => ?_) h
      have hf := iterK_fix (q := q) l.length (sortO l) (by rw [sortO_len]; exact Nat.le_refl _)
      have hx2 : x ∈ stepK q (keptC q l) := by unfold keptC; rw [hf]; exact hx
      exact (stepK_mem.1 hx2).2 d hd
  have hnd := nodup_of_map (sortO_nodup hn)
  have e1 := sub_filter (S := keptO q l) kept_sub hnd
  have e2 := sub_filter (S := keptC q l) (iterK_sub l.length (sortO l)) hnd
  exact e1.trans ((List.filter_congr fun x _ => by rw [decide_eq_decide]; exact h1 x).trans e2.symm)
/-- the line, as a machine computes it -/
def lineC (done : P7 Int) (also : List Dot) (l : List Ins) : List Dot :=
  if goodO l = true then dotsO (sortO (keptC (isO done also) (l.filter fun x => !isO done also x.d))) (lineF (onL (sortO (keptC (isO done also) (l.filter fun x => !isO done also x.d))))) else []
theorem lineTop_eq (done : P7 Int) (also : List Dot) (l : List Ins) : lineTop done also l = lineC done also l := by
  unfold lineTop lineC
  by_cases h : goodO l = true
  · rw [if_pos h, if_pos h]
    have hn := (goodO_iff.1 h).2.1
    unfold lineO
    rw [kept_eq (hn.sublist (List.filter_sublist.map _)) fun y hy => by simpa using (List.mem_filter.1 hy).2]
  · rw [if_neg h, if_neg h]
def ringO : List Ins := [⟨⟨0, 1⟩, 2, ⟨0, 1, 0, 0, 0, 0, 0⟩⟩, ⟨⟨1, 1⟩, 1, ⟨1, 0, 0, 0, 0, 0, 0⟩⟩]
theorem ring_line : lineTop (P7.all 0) [] ringO = [⟨1, 1⟩, ⟨0, 1⟩] := by
  rw [lineTop_eq]; decide +kernel
theorem ring_groups : groupsTop ringO = [[⟨1, 1⟩, ⟨0, 1⟩]] := by decide +kernel
theorem ring_good : goodO ringO = true := by decide +kernel
end
end Go.Proofs.YtkjhccpanedccaaGreat
namespace Go.Eng
set_option linter.unusedVariables false
set_option linter.unusedSimpArgs false
open Go Go.RowKit Go.ChangeShapes Go.WideShapes Go.Deep

inductive Cl where
  | int (k : IntKind)
  | str
  | bool
  | sl (e : List Cl)

mutual
inductive GoodC (W : World) : Cl → Value → Prop where
  | int {k : IntKind} {n : Int} (h : (Lit.int k n).wf = true) : GoodC W (.int k) (.int k n)
  | str {s : ByteArray} (h : s.size ≤ maxLen) : GoodC W .str (.string s)
  | bool {b : Bool} : GoodC W .bool (.bool b)
  | sl {e : List Cl} {a : Option Addr} {n c : Nat} (rows : Nat → List Value) (hc : n ≤ c) (hm : c ≤ maxLen) (hn : a = none → c = 0)
      (hr : ∀ i, i < n → ∃ b o, a = some ⟨b, o, none⟩ ∧ ro W b (o + i * e.length) (rows i)) (hg : ∀ i, i < n → GoodL W e (rows i)) : GoodC W (.sl e) (.slice a n c)
inductive GoodL (W : World) : List Cl → List Value → Prop where
  | nil : GoodL W [] []
  | cons {c : Cl} {cs : List Cl} {v : Value} {vs : List Value} (h : GoodC W c v) (hs : GoodL W cs vs) : GoodL W (c :: cs) (v :: vs)
end

theorem GoodL.app {W : World} : ∀ {l : List Cl} {vs : List Value} {l' : List Cl} {vs' : List Value}, GoodL W l vs → GoodL W l' vs' → GoodL W (l ++ l') (vs ++ vs')
  | _, _, _, _, .nil, h => h
  | _, _, _, _, .cons h hs, h' => .cons h (hs.app h')
theorem GoodL.len {W : World} : ∀ {l : List Cl} {vs : List Value}, GoodL W l vs → vs.length = l.length
  | _, _, .nil => rfl
  | _, _, .cons h hs => by simp [hs.len]

def clF (P : Program) (g : TypeId → Option (List Cl)) : List Field → Nat → Option (List Cl)
  | [], _ => some []
  | f :: r, off => match Nat.beq f.offset off with
    | false => none
    | true => match g f.type with
      | some ks => match Nat.beq (P.cellsOf f.type) ks.length with
        | true => (match clF P g r (off + ks.length) with | some l => some (ks ++ l) | none => none)
        | false => none
      | none => none
/-- the cells of a type -/
def cls (P : Program) : Nat → TypeId → Option (List Cl)
  | 0, _ => none
  | d + 1, t => match P.underlying t with
    | some (.int k) => some [.int k]
    | some .string => some [.str]
    | some .bool => some [.bool]
    | some (.slice e) => (match cls P d e with | some l => (match Nat.beq (P.cellsOf e) l.length && !Nat.beq l.length 0 with | true => some [.sl l] | false => none) | none => none)
    | some (.struct fs) => (match clF P (cls P d) fs.toList 0 with | some l => (match Nat.beq (P.cellsOf t) l.length with | true => some l | false => none) | none => none)
    | some (.array n e) => (match cls P d e with | some l => (match Nat.beq (P.cellsOf e) l.length && Nat.beq (P.cellsOf t) (n * l.length) with | true => some (List.replicate n l).flatten | false => none) | none => none)
    | _ => none

section
variable {P : Program} {w : World} {H : Type} {enc : TypeId × Value → H}

theorem good_fields {g : TypeId → Option (List Cl)} {n : Nat} {cs : List Value}
    (hg : ∀ t l, g t = some l → ∀ cs x, DataW.trod enc P w 0 (fun _ => true) true n t cs = some x → GoodL w l cs) :
    ∀ (fs : List Field) (off : Nat) (l : List Cl), clF P g fs off = some l → (∀ f ∈ fs, ∃ x, DataW.trod enc P w 0 (fun _ => true) true n f.type ((cs.drop f.offset).take (P.cellsOf f.type)) = some x) →
      GoodL w l ((cs.drop off).take l.length)
  | [], off, l, h, _ => by simp only [clF, Option.some.injEq] at h; subst h; simpa using GoodL.nil
  | f :: fs, off, l, h, hx => by
    simp only [clF] at h
    split at h
    · cases h
    · rename_i ho
      have ho := Nat.eq_of_beq_eq_true ho
      split at h
      · rename_i ks hks
        split at h
        · rename_i hsz
          have hsz := Nat.eq_of_beq_eq_true hsz
          split at h
          · rename_i l' hl'
            simp only [Option.some.injEq] at h
            subst h
            obtain ⟨x, hx0⟩ := hx f (by simp)
            rw [hsz, ho] at hx0
            have h1 := hg _ _ hks _ _ hx0
            have h2 := good_fields hg fs _ _ hl' (fun f' hf' => hx f' (List.mem_cons_of_mem _ hf'))
            have := h1.app h2
            rw [← List.drop_drop, ← List.take_add] at this
            simpa using this
          · cases h
        · cases h
      · cases h

theorem open_cls : ∀ (m : Nat) (t : TypeId) (l : List Cl), cls P m t = some l → ∀ (fuel : Nat) (cs : List Value) (x : DataW H × List MemPlace), DataW.trod enc P w 0 (fun _ => true) true fuel t cs = some x → GoodL w l cs
  | 0, _, _, h => by simp [cls] at h
  | m + 1, t, l, h => by
    intro fuel cs x hx
    simp only [cls] at h
    cases ht : P.underlying t with
    | none => rw [ht] at h; cases h
    | some d =>
      rw [ht] at h
      cases d <;> simp only at h <;> try (cases h; done)
      case int k =>
        simp only [Option.some.injEq] at h
        subst h
        obtain ⟨n, rfl, _, hw⟩ := DataW.trod_int ht hx
        exact .cons (.int hw) .nil
      case string =>
        simp only [Option.some.injEq] at h
        subst h
        obtain ⟨n, rfl, _, hw⟩ := DataW.trod_string ht hx
        exact .cons (.str hw) .nil
      case bool =>
        simp only [Option.some.injEq] at h
        subst h
        obtain ⟨n, rfl, _⟩ := DataW.trod_bool ht hx
        exact .cons .bool .nil
      case slice e =>
        split at h
        · rename_i le hle
          split at h
          · rename_i hb
            simp only [Bool.and_eq_true, Bool.not_eq_true'] at hb
            have hsz := Nat.eq_of_beq_eq_true hb.1
            have hpos : 0 < le.length := Nat.pos_of_ne_zero fun e => by rw [e] at hb; simp at hb
            simp only [Option.some.injEq] at h
            subst h
            rcases open_slice ht hx with ⟨rfl, _⟩ | ⟨a, len, cap, mm, n, D, Pl, rfl, hb0, hl, hmx, hmm, rfl, hel⟩
            · exact .cons (.sl (fun _ => []) (by omega) (by simp [maxLen]) (fun _ => rfl) (fun i hi => by omega) (fun i hi => by omega)) .nil
            · simp only [if_true] at hmm
              subst hmm
              rw [hsz] at hel
              obtain ⟨rows, hrows⟩ := choose_lt (α := List Value) (p := fun i cs' => w.cells? 0 (a.add (i * le.length)) le.length = some cs' ∧ DataW.trod enc P w 0 (fun _ => true) true n e cs' = some (D i, Pl i)) hel
              refine .cons (.sl rows hl hmx (fun h => by cases h) (fun i hi => ?_) (fun i hi => open_cls m e le hle n _ _ (hrows i (by omega)).2)) .nil
              obtain ⟨_, hlen0, hcell0⟩ := World.cells?_some (hrows 0 (by omega)).1
              obtain ⟨_, hlen, hcell⟩ := World.cells?_some (hrows i (by omega)).1
              have h0 : ∃ v, w.cell? a = some v := by
                have := hcell0 0 hpos
                simp only [Nat.zero_mul, Addr.add, if_true] at this
                rw [this]
                exact ⟨(rows 0)[0]'(by omega), by simp⟩
              obtain ⟨v, hv⟩ := h0
              have hsp := World.cell?_spot hv
              obtain ⟨ab, ao, asp⟩ := a
              simp only at hsp
              subst hsp
              refine ⟨ab, ao, rfl, fun j hj => ?_⟩
              have := hcell j (by omega)
              rw [add_none, add_none] at this
              exact this
          · cases h
        · cases h
      case struct fs =>
        split at h
        · rename_i l' hl'
          split at h
          · rename_i hsz
            have hsz := Nat.eq_of_beq_eq_true hsz
            simp only [Option.some.injEq] at h
            subst h
            obtain ⟨xs, n, rfl, rfl, hlen, hxs, hf⟩ := DataW.trod_struct ht hx
            have := good_fields (cs := cs) (fun t l hl cs x hx => open_cls m t l hl n cs x hx) fs.toList 0 l' hl' (fun f hf' => by
              obtain ⟨i, hi, rfl⟩ := List.getElem_of_mem hf'
              have hi' : i < fs.size := by simpa using hi
              have := hf i fs[i] (by simp [hi'])
              rw [show fs.toList[i] = fs[i] by simp, this]
              exact ⟨xs[i]'(by omega), by simp⟩)
            rw [← hsz, ← hlen] at this
            simpa using this
          · cases h
        · cases h
      case array k e =>
        split at h
        · rename_i le hle
          split at h
          · rename_i hb
            simp only [Bool.and_eq_true] at hb
            have hsz := Nat.eq_of_beq_eq_true hb.1
            have hsz2 := Nat.eq_of_beq_eq_true hb.2
            simp only [Option.some.injEq] at h
            subst h
            obtain ⟨xs, n, rfl, rfl, hlen, hxs, hf⟩ := DataW.trod_array ht hx
            rw [hsz2] at hlen
            rw [hsz] at hf
            have key : ∀ j, j ≤ k → GoodL w (List.replicate j le).flatten (cs.take (j * le.length)) := by
              intro j
              induction j with
              | zero => intro _; simpa using GoodL.nil
              | succ j ih =>
                intro hj
                have h1 := hf j (by omega)
                have h2 : GoodL w le ((cs.drop (j * le.length)).take le.length) := by
                  refine open_cls m e le hle n _ (xs[j]'(by omega)) ?_
                  rw [h1]; simp
                have := (ih (by omega)).app h2
                rw [← List.take_add] at this
                rw [List.replicate_succ', List.flatten_append, Nat.succ_mul]
                simpa using this
            have := key k (Nat.le_refl _)
            rw [← hlen] at this
            simpa using this
          · cases h
        · cases h

/-- an argument of a law -/
def GoodA (w : World) (l : List Cl) (agg : Bool) (v : Value) : Prop := GoodL w l (vcells v) ∧ (agg = true → ∃ cs : List Value, v = .agg cs.toArray) ∧ (agg = false → vcells v = [v])
theorem open_arg {t : TypeId} {l : List Cl} {agg : Bool} {m : Nat} {v : Value} {d : DataW H} {ps : List MemPlace} {r : Reach} {b0 : Nat} (hl : cls P m t = some l) (ha : (P.underlying t).map aggB = some agg)
    (hval : Value.okWide P w r b0 t v) (h : DataW.Trod enc P w 0 (fun _ => true) true t v d ps) : GoodA w l agg v := by
  obtain ⟨fuel, hf⟩ := h
  obtain ⟨u, hu, hu'⟩ := Option.map_eq_some_iff.1 ha
  refine ⟨by have := open_cls m t l hl _ _ _ hf; rwa [vcells_eq] at this, fun hagg => ?_, fun hagg => ?_⟩
  · subst hagg
    cases u <;> simp only [aggB] at hu' <;> try (cases hu'; done)
    case struct fs =>
      obtain ⟨cs, rfl, _⟩ := okWide_struct hu hval
      exact ⟨cs.toList, rfl⟩
    case array n e =>
      simp only [Value.okWide, hu] at hval
      cases v <;> simp_all
      exact ⟨_, (Array.toArray_toList).symm⟩
  · subst hagg
    cases m with
    | zero => simp [cls] at hl
    | succ m =>
      simp only [cls, hu] at hl
      cases u <;> simp only [aggB] at hu' <;> simp only at hl <;> try (first | (cases hu'; done) | (cases hl; done))
      case int k => obtain ⟨n, rfl⟩ := okWide_int hu hval; rfl
      case string => obtain ⟨n, rfl⟩ := okWide_string hu hval; rfl
      case bool => obtain ⟨n, rfl⟩ := okWide_bool hu hval; rfl
      case slice e => obtain ⟨a, b, c, rfl⟩ := okWide_slice hu hval; rfl
theorem GoodL.cons' {c : Cl} {cs : List Cl} {vs : List Value} (h : GoodL w (c :: cs) vs) : ∃ v vs', vs = v :: vs' ∧ GoodC w c v ∧ GoodL w cs vs' := by
  cases h with | cons h1 h2 => exact ⟨_, _, rfl, h1, h2⟩
theorem GoodL.nil' {vs : List Value} (h : GoodL w [] vs) : vs = [] := by cases h; rfl
theorem GoodA.one {c : Cl} {v : Value} (h : GoodA w [c] false v) : GoodC w c v := by
  obtain ⟨h1, _, h2⟩ := h
  rw [h2 rfl] at h1
  cases h1 with | cons h _ => exact h
theorem GoodC.int' {k : IntKind} {v : Value} (h : GoodC w (.int k) v) : ∃ n, v = .int k n ∧ (Lit.int k n).wf = true := by
  cases h with | int h => exact ⟨_, rfl, h⟩
theorem GoodC.str' {v : Value} (h : GoodC w .str v) : ∃ s : ByteArray, v = .string s ∧ s.size ≤ maxLen := by
  cases h with | str h => exact ⟨_, rfl, h⟩
theorem GoodC.bool' {v : Value} (h : GoodC w .bool v) : ∃ b, v = .bool b := by
  cases h with | bool => exact ⟨_, rfl⟩
/-- a slice whose rows are of a kind -/
theorem GoodC.sl' {e : List Cl} {v : Value} {α : Type} [Inhabited α] {q : α → List Value → Prop} (h : GoodC w (.sl e) v) (hq : ∀ vs, GoodL w e vs → ∃ a, q a vs) :
    ∃ a n c, ∃ A : Nat → α, v = .slice a n c ∧ n ≤ c ∧ c ≤ maxLen ∧ (a = none → c = 0) ∧ ∀ i, i < n → ∃ b o vs, a = some ⟨b, o, none⟩ ∧ ro w b (o + i * e.length) vs ∧ q (A i) vs := by
  cases h with
  | sl rows hc hm hn hr hg =>
    obtain ⟨A, hA⟩ := choose_lt fun i hi => hq _ (hg i hi)
    exact ⟨_, _, _, A, rfl, hc, hm, hn, fun i hi => let ⟨b, o, h1, h2⟩ := hr i hi; ⟨b, o, rows i, h1, h2, hA i hi⟩⟩
theorem keep_all (hl : laidOutB P = true) : ∀ {ts : List TypeId} {vs : List Value} {ds : List (DataW H)} {ps : List MemPlace} {W W' : World}, ts.all (fun t => P.readableRec t && decide (t < P.types.size)) = true →
    DataW.TrodAll enc P W 0 (fun _ => true) true ts vs ds ps → Below W.heap.size W W' → DataW.TrodAll enc P W' 0 (fun b => decide (b < W.heap.size)) true ts vs ds ps
  | [], [], [], _, _, _, _, h, _ => h
  | [], [], _ :: _, _, _, _, _, h, _ => h.elim
  | [], _ :: _, _, _, _, _, _, h, _ => h.elim
  | _ :: _, [], _, _, _, _, _, h, _ => h.elim
  | _ :: _, _ :: _, [], _, _, _, _, h, _ => h.elim
  | t :: ts, v :: vs, d :: ds, ps, W, W', ha, h, hb => by
    obtain ⟨p, q, h1, h2, rfl⟩ := h
    simp only [List.all_cons, Bool.and_eq_true, decide_eq_true_eq] at ha
    have lt : ∀ x ∈ p, x.block < W.heap.size := by obtain ⟨m, hm⟩ := h1; exact DataW.trod_lt m _ _ _ hm
    exact ⟨p, q, Below.trod hl ha.1.1 ha.1.2 h1 hb lt, keep_all hl ha.2 h2 hb, rfl⟩
end
end Go.Eng
namespace Go.Eng
set_option linter.unusedVariables false
set_option linter.unusedSimpArgs false
open Go Go.RowKit

theorem wf64 {n : Int} (h : (Lit.int .i64 n).wf = true) : -9223372036854775808 ≤ n ∧ n ≤ 9223372036854775807 := by
  simp only [Lit.wf, Bool.and_eq_true, decide_eq_true_eq] at h
  exact h
theorem wf8 {n : Int} (h : (Lit.int .u8 n).wf = true) : 0 ≤ n ∧ n ≤ 255 := by
  simp only [Lit.wf, Bool.and_eq_true, decide_eq_true_eq] at h
  exact h
theorem ro_rows {α : Type} {A : Ly α} {w : World} {b o : Nat} : ∀ (l : List α), (∀ i (hi : i < l.length), ro w b (o + i * A.sz) (A.row l[i])) → ro w b o (A.rows l) := by
  intro l h j hj
  rw [Ly.rows_len] at hj
  have hp := A.pos
  have hi : j / A.sz < l.length := Nat.div_lt_of_lt_mul (by rw [Nat.mul_comm]; exact hj)
  have hr : j % A.sz < A.sz := Nat.mod_lt _ hp
  have h1 := h _ hi (j % A.sz) (by rw [A.len]; exact hr)
  have e : o + j / A.sz * A.sz + j % A.sz = o + j := by rw [Nat.add_assoc, Nat.div_add_mod']
  rw [e] at h1
  rw [h1, ← Ly.rows_at hi, List.getElem?_take_of_lt hr, List.getElem?_drop, Nat.div_add_mod']
theorem openArr {α : Type} [Inhabited α] (A : Ly α) {e : List Cl} (p : α → Prop) {w : World} {v : Value} (h : GoodC w (.sl e) v) (he : e.length = A.sz) (hq : ∀ vs, GoodL w e vs → ∃ a, vs = A.row a ∧ p a) :
    ∃ (a : Option Addr) (c : Nat) (l : List α), v = .slice a l.length c ∧ l.length ≤ c ∧ c ≤ maxLen ∧ Rd w [] a A l ∧ ∀ x ∈ l, p x := by
  obtain ⟨a, n, c, F, rfl, hn, hc, ha, hr⟩ := h.sl' (q := fun x vs => vs = A.row x ∧ p x) hq
  refine ⟨a, c, (List.range n).map F, by simp, by simpa using hn, hc, Rd.base ?_, fun x hx => ?_⟩
  · by_cases hn0 : n = 0
    · subst hn0; exact .inl rfl
    · right
      obtain ⟨b, o, vs, rfl, _⟩ := hr 0 (by omega)
      refine ⟨b, o, rfl, ro_rows _ fun i hi => ?_⟩
      obtain ⟨b', o', vs, h1, h2, h3, _⟩ := hr i (by simpa using hi)
      cases h1
      rw [he] at h2
      subst h3
      simpa using h2
  · obtain ⟨i, hi, rfl⟩ := List.mem_map.1 hx
    obtain ⟨_, _, _, _, _, _, h⟩ := hr i (by simpa using hi)
    exact h
/-- a slice of bytes -/
theorem openBytes {w : World} {v : Value} (h : GoodC w (.sl [.int .u8]) v) : ∃ (a : Option Addr) (c : Nat) (l : List UInt8), v = .slice a l.length c ∧ l.length ≤ c ∧ c ≤ maxLen ∧ Rd w [] a B8 l := by
  obtain ⟨a, c, l, h1, h2, h3, h4, _⟩ := openArr B8 (fun _ => True) h rfl fun vs hv => by
    obtain ⟨_, _, rfl, h1, h⟩ := hv.cons'
    obtain rfl := h.nil'
    obtain ⟨n, rfl, hn⟩ := h1.int'
    have := wf8 hn
    refine ⟨UInt8.ofNat n.toNat, ?_, trivial⟩
    have e : (UInt8.ofNat n.toNat).toNat = n.toNat := by simp [UInt8.toNat_ofNat']; omega
    show _ = [b8 _]
    simp only [b8, e]
    rw [Int.toNat_of_nonneg this.1]
  exact ⟨a, c, l, h1, h2, h3, h4⟩
end Go.Eng
namespace Go.Proofs.YtkjhccpanedccaaGreat
set_option linter.unusedVariables false
set_option linter.unusedSimpArgs false
open Go Go.Eng Go.RowKit
structure Lo (W W' : World) : Prop where
  below : Below W.heap.size W W'
theorem St.startz (W : World) : St { W with drawn := 0 } [] W := ⟨⟨⟨rfl, rfl, rfl, Nat.le_refl _, fun _ _ => rfl⟩, Nat.zero_le _⟩, fun _ => none, fun _ => rfl, fun b o h => by cases h⟩
theorem St.lo {W W' : World} {L : List Asn} (h : St { W with drawn := 0 } L W') : Lo W W' := ⟨⟨h.bel.os, h.bel.tape, h.bel.output, h.bel.size, h.bel.block⟩⟩
mutual
theorem goodCz {W : World} {c : Cl} {v : Value} : GoodC W c v → GoodC { W with drawn := 0 } c v
  | .int h => .int h
  | .str h => .str h
  | .bool => .bool
  | .sl rows hc hm hn hr hg => .sl rows hc hm hn hr fun i hi => goodLz (hg i hi)
theorem goodLz {W : World} {l : List Cl} {v : List Value} : GoodL W l v → GoodL { W with drawn := 0 } l v
  | .nil => .nil
  | .cons h hs => .cons (goodCz h) (goodLz hs)
end
theorem goodAz {W : World} {l : List Cl} {b : Bool} {v : Value} (h : GoodA W l b v) : GoodA { W with drawn := 0 } l b v := ⟨goodLz h.1, h.2⟩
end Go.Proofs.YtkjhccpanedccaaGreat
namespace Go.Proofs.YtkjhccpanedccaaGreat
set_option linter.unusedVariables false
set_option linter.unusedSimpArgs false
open Go.Eng
/-! ### rostrum/rostrumlaw18.OrderTurned (3) -/
def S.rostrumlaw18_OrderTurned.j2 (K1 : List Value → World → Prop) (x0 x7 x9 : Value) (W : World) : Prop :=
  okF (binP .add x9 (.int .i64 1)) fun v68 =>
  K1 [x0, x7, v68] W
def S.rostrumlaw18_OrderTurned.l2 (R : Value → World → Prop) (J2 : List Value → World → Prop) (K2 : List Value → World → Prop) (x0 x7 x9 x10 : Value) (W : World) : Prop :=
  okF (lenP (.slice T_api_Dot) x7) fun v73 =>
  okF (binP .lss x10 v73) fun v74 =>
  ifK v74 (
  okF (idxS 2 x7 x9) fun v80 =>
  rdK PR (Instr.loadAt T_api_Dot v80) (fun v81 W =>
  okF (idxS 2 x7 x10) fun v86 =>
  rdK PR (Instr.loadAt T_api_Dot v86) (fun v87 W =>
  callK PR F_rostrumlaw18_find [x0, v81] (fun v82 W =>
  stb PR [(10, true, (Instr.loadAt T_api_Dot v86), v87)] (fun W =>
  callK PR F_rostrumlaw18_find [x0, v87] (fun v88 W =>
  okF (binP .lss v82 (.int .i64 0)) fun v90 =>
  gdK (wantd v90 false) (fun k W => k v88 W) (fun v92 W =>
  gdK (wantd v90 false) (fun k W => okF (binP .lss v92 (.int .i64 0)) fun v => k v W) (fun v93 W =>
  okF (pickP v90 (.bool true) v93) fun v94 =>
  gdK (wantd v94 false) (fun k W => k x7 W) (fun v96 W =>
  gdK (wantd v94 false) (fun k W => k x9 W) (fun v97 W =>
  gdK (wantd v94 false) (fun k W => okF (idxS 2 v96 v97) fun v => k v W) (fun v98 W =>
  gdK (wantd v94 false) (fun k W => rdK PR (Instr.loadAt T_api_Dot v98) k W) (fun v99 W =>
  gdK (wantd v94 false) (fun k W => k x7 W) (fun v100 W =>
  gdK (wantd v94 false) (fun k W => k x10 W) (fun v101 W =>
  gdK (wantd v94 false) (fun k W => okF (idxS 2 v100 v101) fun v => k v W) (fun v102 W =>
  gdK (wantd v94 false) (fun k W => rdK PR (Instr.loadAt T_api_Dot v102) k W) (fun v103 W =>
  gdK (wantd v94 false) (fun k W => rdK PR (aggEq .eql T_api_Dot v99 v103) k W) (fun v104 W =>
  okF (pickP v94 (.bool true) v104) fun v105 =>
  ifK v105 (
  R (.bool false) W) (
  okF (idxS 2 x7 x10) fun v110 =>
  okF (addrF 0 v110) fun v111 =>
  rdK PR (Instr.loadAt T_int v111) (fun v112 W =>
  okF (idxS 10 x0 v82) fun v113 =>
  okF (addrF 3 v113) fun v114 =>
  okF (idxA 7 1 v114 v112) fun v115 =>
  rdK PR (Instr.loadAt T_int64 v115) (fun v116 W =>
  okF (idxS 2 x7 x10) fun v119 =>
  okF (addrF 1 v119) fun v120 =>
  rdK PR (Instr.loadAt T_int64 v120) (fun v121 W =>
  okF (binP .geq v116 v121) fun v122 =>
  gdK (wantd v122 true) (fun k W => k x0 W) (fun v124 W =>
  gdK (wantd v122 true) (fun k W => k x7 W) (fun v125 W =>
  gdK (wantd v122 true) (fun k W => k x9 W) (fun v126 W =>
  gdK (wantd v122 true) (fun k W => okF (idxS 2 v125 v126) fun v => k v W) (fun v127 W =>
  gdK (wantd v122 true) (fun k W => rdK PR (Instr.loadAt T_api_Dot v127) k W) (fun v128 W =>
  gdK (wantd v122 true) (fun k W => k x7 W) (fun v129 W =>
  gdK (wantd v122 true) (fun k W => k x10 W) (fun v130 W =>
  gdK (wantd v122 true) (fun k W => okF (idxS 2 v129 v130) fun v => k v W) (fun v131 W =>
  gdK (wantd v122 true) (fun k W => rdK PR (Instr.loadAt T_api_Dot v131) k W) (fun v132 W =>
  gdK (wantd v122 true) (fun k W => callK PR F_rostrumlaw18_together [v124, v128, v132] k W) (fun v133 W =>
  gdK (wantd v122 true) (fun k W => okF (unP .not v133) fun v => k v W) (fun v134 W =>
  okF (pickP v122 v134 (.bool false)) fun v135 =>
  ifK v135 (
  R (.bool false) W) (
  okF (binP .add x10 (.int .i64 1)) fun v76 =>
  K2 [x0, x7, x9, v76] W)) W) W) W) W) W) W) W) W) W) W) W) W) W) (tick W))) W) W) W) W) W) W) W) W) W) W) (tick W)) W) W) W) W) (tick W)) (
  J2 [x0, x7, x9] W)
def S.rostrumlaw18_OrderTurned.l1 (R : Value → World → Prop) (K1 : List Value → World → Prop) (x0 x7 x9 : Value) (W : World) : Prop :=
  okF (lenP (.slice T_api_Dot) x7) fun v65 =>
  okF (binP .lss x9 v65) fun v66 =>
  ifK v66 (
  joinK (fun s W => S.rostrumlaw18_OrderTurned.j2 K1 (nthv s 0) (nthv s 1) (nthv s 2) W) (fun J2 =>
  okF (binP .add x9 (.int .i64 1)) fun v70 =>
  loopK (fun K2 s W => S.rostrumlaw18_OrderTurned.l2 R J2 K2 (nthv s 0) (nthv s 1) (nthv s 2) (nthv s 3) W) [x0, x7, x9, v70] W)) (
  R (.bool true) W)
def S.rostrumlaw18_OrderTurned.j1 (R : Value → World → Prop) (x0 x5 : Value) (W : World) : Prop :=
  okF (bldP (fun i => some (i * 1, 1)) [.int .i64 0, .int .i64 0, .int .i64 0, .int .i64 0, .int .i64 0, .int .i64 0, .int .i64 0] []) fun v54 =>
  callK PR F_order_Line [x0, v54, (.slice none 0 0)] (fun v55 W =>
  okF (bldP (fun i => some (i * 1, 1)) [.int .i64 0, .int .i64 0, .int .i64 0, .int .i64 0, .int .i64 0, .int .i64 0, .int .i64 0] []) fun v57 =>
  callK PR F_order_Line [x5, v57, (.slice none 0 0)] (fun v58 W =>
  callK PR F_rostrumlaw18_dots [v55, v58] (fun v61 W =>
  okF (unP .not v61) fun v62 =>
  ifK v62 (
  R (.bool false) W) (
  loopK (fun K1 s W => S.rostrumlaw18_OrderTurned.l1 R K1 (nthv s 0) (nthv s 1) (nthv s 2) W) [x0, v55, (.int .i64 0)] W)) W) W) W
def S.rostrumlaw18_OrderTurned.l3 (J1 : List Value → World → Prop) (K3 : List Value → World → Prop) (x0 x1 x5 x6 : Value) (W : World) : Prop :=
  okF (lenP (.slice T_order_Inst) x0) fun v34 =>
  okF (binP .lss x6 v34) fun v35 =>
  ifK v35 (
  okF (lenP (.slice T_order_Inst) x0) fun v43 =>
  okF (binP .rem x1 v43) fun v44 =>
  okF (binP .add x6 v44) fun v45 =>
  okF (lenP (.slice T_order_Inst) x0) fun v47 =>
  okF (binP .rem v45 v47) fun v48 =>
  okF (idxS 10 x0 v48) fun v49 =>
  rdK PR (Instr.loadAt T_order_Inst v49) (fun v50 W =>
  efK PR (Instr.buildSlice T_s_order_Inst 1 #[(0, v50)]) (fun v51 W =>
  efK PR (Builtin.append_ #[T_s_order_Inst, T_s_order_Inst] T_s_order_Inst #[x5, v51]) (fun v52 W =>
  okF (binP .add x6 (.int .i64 1)) fun v37 =>
  K3 [x0, x1, v52, v37] W) W) W) W) (
  J1 [x0, x5] W)
def S.rostrumlaw18_OrderTurned.body (R : Value → World → Prop) (v0 v1 : Value) (W : World) : Prop :=
  callK PR F_rostrumlaw18_awake [] (fun v13 W =>
  okF (unP .not v13) fun v14 =>
  ifK v14 (
  R (.bool false) W) (
  okF (lenP (.slice T_order_Inst) v0) fun v16 =>
  okF (binP .lss v16 (.int .i64 1)) fun v17 =>
  gdK (wantd v17 false) (fun k W => k v0 W) (fun v19 W =>
  gdK (wantd v17 false) (fun k W => okF (lenP (.slice T_order_Inst) v19) fun v => k v W) (fun v20 W =>
  gdK (wantd v17 false) (fun k W => okF (binP .gtr v20 (.int .i64 25)) fun v => k v W) (fun v21 W =>
  okF (pickP v17 (.bool true) v21) fun v22 =>
  gdK (wantd v22 false) (fun k W => k v1 W) (fun v24 W =>
  gdK (wantd v22 false) (fun k W => okF (binP .lss v24 (.int .i64 0)) fun v => k v W) (fun v25 W =>
  okF (pickP v22 (.bool true) v25) fun v26 =>
  gdK (wantd v26 false) (fun k W => k v0 W) (fun v28 W =>
  gdK (wantd v26 false) (fun k W => callK PR F_order_Good [v28] k W) (fun v29 W =>
  gdK (wantd v26 false) (fun k W => okF (unP .not v29) fun v => k v W) (fun v30 W =>
  okF (pickP v26 (.bool true) v30) fun v31 =>
  ifK v31 (
  R (.bool true) W) (
  joinK (fun s W => S.rostrumlaw18_OrderTurned.j1 R (nthv s 0) (nthv s 1) W) (fun J1 =>
  loopK (fun K3 s W => S.rostrumlaw18_OrderTurned.l3 J1 K3 (nthv s 0) (nthv s 1) (nthv s 2) (nthv s 3) W) [v0, v1, (.slice none 0 0), (.int .i64 0)] W))) W) W) W) W) W) W) W) W)) W
def S.rostrumlaw18_OrderTurned.hint : Hint := (.two .nil (.two (.two .nil (.two (.two .nil .nil) .nil)) (.two (.two .nil (.two (.two .nil .nil) .nil)) (.two .nil (.at [0, 5] (.two .nil (.at [0, 1, 5, 6] (.two (.two .nil (.two .nil .nil)) (.two .nil .nil)) .nil)) (.two .nil (.two (.two .nil (.two (.two .nil .nil) .nil)) (.two (.two .nil (.at [0, 7, 9] (.two (.two .nil (.two .nil .nil)) (.at [0, 7, 9] (.two .nil (.at [0, 7, 9, 10] (.two (.two .nil (.two .nil .nil)) (.two (.two .nil (.two (.two .nil (.two (.two .nil .nil) .nil)) (.two .nil (.two (.two .nil .nil) .nil)))) .nil)) .nil)) .nil)) .nil)) (.two .nil .nil)))))))))
theorem S.rostrumlaw18_OrderTurned.ok (R : Value → World → Prop) (v0 v1 : Value) (W : World) : bodyK PR CB Tryz.f3 S.rostrumlaw18_OrderTurned.hint [v0, v1] R W = S.rostrumlaw18_OrderTurned.body R v0 v1 W := by kernel_rfl
theorem S.rostrumlaw18_OrderTurned.fn : PR.funcs[F_rostrumlaw18_OrderTurned]? = some Tryz.f3 := by kernel_rfl
theorem S.rostrumlaw18_OrderTurned.call {R : Value → World → Prop} {v0 v1 : Value} {W : World} (h : S.rostrumlaw18_OrderTurned.body R v0 v1 W) : callK PR F_rostrumlaw18_OrderTurned [v0, v1] R W :=
  callK_of_body (g := F_rostrumlaw18_OrderTurned) (fn := Tryz.f3) (args := [v0, v1]) (R := R) (w := W) mixed CBok S.rostrumlaw18_OrderTurned.fn S.rostrumlaw18_OrderTurned.hint (by rw [S.rostrumlaw18_OrderTurned.ok]; exact h)
/-! ### rostrum/rostrumlaw18.OrderParts (4) -/
def S.rostrumlaw18_OrderParts.j1 (R : Value → World → Prop) (x0 x4 x5 : Value) (W : World) : Prop :=
  okF (lenP (.slice T_order_Inst) x0) fun v85 =>
  okF (binP .eql x5 v85) fun v86 =>
  gdK (wantd v86 true) (fun k W => k x4 W) (fun v88 W =>
  gdK (wantd v86 true) (fun k W => okF (lenP (.slice T_api_Dot) v88) fun v => k v W) (fun v89 W =>
  gdK (wantd v86 true) (fun k W => k x0 W) (fun v90 W =>
  gdK (wantd v86 true) (fun k W => okF (lenP (.slice T_order_Inst) v90) fun v => k v W) (fun v91 W =>
  gdK (wantd v86 true) (fun k W => okF (binP .leq v89 v91) fun v => k v W) (fun v92 W =>
  okF (pickP v86 v92 (.bool false)) fun v93 =>
  R v93 W) W) W) W) W) W
def S.rostrumlaw18_OrderParts.j2 (K1 : List Value → World → Prop) (x0 x3 x4 x5 x6 : Value) (W : World) : Prop :=
  okF (binP .add x6 (.int .i64 1)) fun v30 =>
  K1 [x0, x3, x4, x5, v30] W
def S.rostrumlaw18_OrderParts.j3 (R : Value → World → Prop) (J2 : List Value → World → Prop) (x0 x3 x4 x5 x6 x7 : Value) (W : World) : Prop :=
  okF (binP .neq x7 (.int .i64 0)) fun v73 =>
  gdK (wantd v73 true) (fun k W => k x7 W) (fun v75 W =>
  gdK (wantd v73 true) (fun k W => k x3 W) (fun v76 W =>
  gdK (wantd v73 true) (fun k W => k x6 W) (fun v77 W =>
  gdK (wantd v73 true) (fun k W => okF (idxS 1 v76 v77) fun v => k v W) (fun v78 W =>
  gdK (wantd v73 true) (fun k W => rdK PR (Instr.loadAt T_s_api_Dot v78) k W) (fun v79 W =>
  gdK (wantd v73 true) (fun k W => okF (lenP (.slice T_api_Dot) v79) fun v => k v W) (fun v80 W =>
  gdK (wantd v73 true) (fun k W => okF (binP .neq v75 v80) fun v => k v W) (fun v81 W =>
  okF (pickP v73 v81 (.bool false)) fun v82 =>
  ifK v82 (
  R (.bool false) W) (
  J2 [x0, x3, x4, x5, x6] W)) W) W) W) W) W) W) W
def S.rostrumlaw18_OrderParts.j4 (K2 : List Value → World → Prop) (x0 x3 x4 x5 x6 x7 x8 : Value) (W : World) : Prop :=
  okF (binP .add x8 (.int .i64 1)) fun v39 =>
  K2 [x0, x3, x4, x5, x6, x7, v39] W
def S.rostrumlaw18_OrderParts.j5 (K3 : List Value → World → Prop) (x0 x3 x4 x5 x6 x7 x8 x9 : Value) (W : World) : Prop :=
  okF (binP .add x9 (.int .i64 1)) fun v57 =>
  K3 [x0, x3, x4, x5, x6, x7, x8, v57] W
def S.rostrumlaw18_OrderParts.l3 (J4 : List Value → World → Prop) (K3 : List Value → World → Prop) (x0 x3 x4 x5 x6 x7 x8 x9 : Value) (W : World) : Prop :=
  okF (lenP (.slice T_api_Dot) x4) fun v54 =>
  okF (binP .lss x9 v54) fun v55 =>
  ifK v55 (
  joinK (fun s W => S.rostrumlaw18_OrderParts.j5 K3 (nthv s 0) (nthv s 1) (nthv s 2) (nthv s 3) (nthv s 4) (nthv s 5) (nthv s 6) (nthv s 7) W) (fun J5 =>
  okF (idxS 2 x4 x9) fun v60 =>
  rdK PR (Instr.loadAt T_api_Dot v60) (fun v61 W =>
  okF (idxS 1 x3 x6) fun v64 =>
  rdK PR (Instr.loadAt T_s_api_Dot v64) (fun v65 W =>
  okF (idxS 2 v65 x8) fun v67 =>
  rdK PR (Instr.loadAt T_api_Dot v67) (fun v68 W =>
  rdK PR (aggEq .eql T_api_Dot v61 v68) (fun v69 W =>
  ifK v69 (
  okF (binP .add x7 (.int .i64 1)) fun v71 =>
  J5 [x0, x3, x4, x5, x6, v71, x8, x9] W) (
  J5 [x0, x3, x4, x5, x6, x7, x8, x9] W)) W) W) W) (tick W))) (
  J4 [x0, x3, x4, x5, x6, x7, x8] W)
def S.rostrumlaw18_OrderParts.l2 (R : Value → World → Prop) (J3 : List Value → World → Prop) (K2 : List Value → World → Prop) (x0 x3 x4 x5 x6 x7 x8 : Value) (W : World) : Prop :=
  okF (idxS 1 x3 x6) fun v34 =>
  rdK PR (Instr.loadAt T_s_api_Dot v34) (fun v35 W =>
  okF (lenP (.slice T_api_Dot) v35) fun v36 =>
  okF (binP .lss x8 v36) fun v37 =>
  ifK v37 (
  joinK (fun s W => S.rostrumlaw18_OrderParts.j4 K2 (nthv s 0) (nthv s 1) (nthv s 2) (nthv s 3) (nthv s 4) (nthv s 5) (nthv s 6) W) (fun J4 =>
  okF (binP .add x5 (.int .i64 1)) fun v41 =>
  okF (idxS 1 x3 x6) fun v45 =>
  rdK PR (Instr.loadAt T_s_api_Dot v45) (fun v46 W =>
  okF (idxS 2 v46 x8) fun v48 =>
  rdK PR (Instr.loadAt T_api_Dot v48) (fun v49 W =>
  callK PR F_rostrumlaw18_find [x0, v49] (fun v50 W =>
  okF (binP .lss v50 (.int .i64 0)) fun v51 =>
  ifK v51 (
  R (.bool false) W) (
  loopK (fun K3 s W => S.rostrumlaw18_OrderParts.l3 J4 K3 (nthv s 0) (nthv s 1) (nthv s 2) (nthv s 3) (nthv s 4) (nthv s 5) (nthv s 6) (nthv s 7) W) [x0, x3, x4, v41, x6, x7, x8, (.int .i64 0)] W)) W) W) W)) (
  J3 [x0, x3, x4, x5, x6, x7] W)) W
def S.rostrumlaw18_OrderParts.l1 (R : Value → World → Prop) (J1 : List Value → World → Prop) (K1 : List Value → World → Prop) (x0 x3 x4 x5 x6 : Value) (W : World) : Prop :=
  okF (lenP (.slice T_s_api_Dot) x3) fun v27 =>
  okF (binP .lss x6 v27) fun v28 =>
  ifK v28 (
  joinK (fun s W => S.rostrumlaw18_OrderParts.j2 K1 (nthv s 0) (nthv s 1) (nthv s 2) (nthv s 3) (nthv s 4) W) (fun J2 =>
  joinK (fun s W => S.rostrumlaw18_OrderParts.j3 R J2 (nthv s 0) (nthv s 1) (nthv s 2) (nthv s 3) (nthv s 4) (nthv s 5) W) (fun J3 =>
  loopK (fun K2 s W => S.rostrumlaw18_OrderParts.l2 R J3 K2 (nthv s 0) (nthv s 1) (nthv s 2) (nthv s 3) (nthv s 4) (nthv s 5) (nthv s 6) W) [x0, x3, x4, x5, x6, (.int .i64 0), (.int .i64 0)] W))) (
  J1 [x0, x4, x5] W)
def S.rostrumlaw18_OrderParts.body (R : Value → World → Prop) (v0 : Value) (W : World) : Prop :=
  callK PR F_rostrumlaw18_awake [] (fun v10 W =>
  okF (unP .not v10) fun v11 =>
  ifK v11 (
  R (.bool false) W) (
  okF (lenP (.slice T_order_Inst) v0) fun v13 =>
  okF (binP .gtr v13 (.int .i64 25)) fun v14 =>
  gdK (wantd v14 false) (fun k W => k v0 W) (fun v16 W =>
  gdK (wantd v14 false) (fun k W => callK PR F_order_Good [v16] k W) (fun v17 W =>
  gdK (wantd v14 false) (fun k W => okF (unP .not v17) fun v => k v W) (fun v18 W =>
  okF (pickP v14 (.bool true) v18) fun v19 =>
  ifK v19 (
  R (.bool true) W) (
  callK PR F_order_Groups [v0] (fun v21 W =>
  okF (bldP (fun i => some (i * 1, 1)) [.int .i64 0, .int .i64 0, .int .i64 0, .int .i64 0, .int .i64 0, .int .i64 0, .int .i64 0] []) fun v23 =>
  callK PR F_order_Line [v0, v23, (.slice none 0 0)] (fun v24 W =>
  joinK (fun s W => S.rostrumlaw18_OrderParts.j1 R (nthv s 0) (nthv s 1) (nthv s 2) W) (fun J1 =>
  loopK (fun K1 s W => S.rostrumlaw18_OrderParts.l1 R J1 K1 (nthv s 0) (nthv s 1) (nthv s 2) (nthv s 3) (nthv s 4) W) [v0, v21, v24, (.int .i64 0), (.int .i64 0)] W)) W) W)) W) W) W)) W
def S.rostrumlaw18_OrderParts.hint : Hint := (.two .nil (.two (.two .nil (.two (.two .nil .nil) .nil)) (.two (.two .nil (.two (.two .nil .nil) .nil)) (.two .nil (.two .nil (.two .nil (.at [0, 4, 5] (.two .nil (.at [0, 3, 4, 5, 6] (.two (.two .nil (.two .nil .nil)) (.at [0, 3, 4, 5, 6] (.two .nil (.at [0, 3, 4, 5, 6, 7] (.two .nil (.at [0, 3, 4, 5, 6, 7, 8] (.two (.two .nil (.two .nil .nil)) (.at [0, 3, 4, 5, 6, 7, 8] (.two .nil (.two (.two .nil (.two (.two .nil .nil) .nil)) (.two .nil (.at [0, 3, 4, 5, 6, 7, 8, 9] (.two (.two .nil (.two .nil .nil)) (.at [0, 3, 4, 5, 6, 7, 8, 9] (.two .nil (.two .nil .nil)) .nil)) .nil)))) .nil)) .nil)) (.two .nil (.two (.two .nil .nil) .nil)))) .nil)) .nil)) (.two .nil .nil))))))))
theorem S.rostrumlaw18_OrderParts.ok (R : Value → World → Prop) (v0 : Value) (W : World) : bodyK PR CB Tryz.f4 S.rostrumlaw18_OrderParts.hint [v0] R W = S.rostrumlaw18_OrderParts.body R v0 W := by kernel_rfl
theorem S.rostrumlaw18_OrderParts.fn : PR.funcs[F_rostrumlaw18_OrderParts]? = some Tryz.f4 := by kernel_rfl
theorem S.rostrumlaw18_OrderParts.call {R : Value → World → Prop} {v0 : Value} {W : World} (h : S.rostrumlaw18_OrderParts.body R v0 W) : callK PR F_rostrumlaw18_OrderParts [v0] R W :=
  callK_of_body (g := F_rostrumlaw18_OrderParts) (fn := Tryz.f4) (args := [v0]) (R := R) (w := W) mixed CBok S.rostrumlaw18_OrderParts.fn S.rostrumlaw18_OrderParts.hint (by rw [S.rostrumlaw18_OrderParts.ok]; exact h)
/-! ### rostrum/rostrumlaw18.awake (6) -/
def S.rostrumlaw18_awake.body (R : Value → World → Prop) (W : World) : Prop :=
  callK PR F_rostrumlaw18_ring [] (fun v3 W =>
  okF (bldP (fun i => some (i * 1, 1)) [.int .i64 0, .int .i64 0, .int .i64 0, .int .i64 0, .int .i64 0, .int .i64 0, .int .i64 0] []) fun v4 =>
  callK PR F_order_Line [v3, v4, (.slice none 0 0)] (fun v5 W =>
  callK PR F_rostrumlaw18_ring [] (fun v6 W =>
  callK PR F_order_Groups [v6] (fun v7 W =>
  okF (bldP (fun i => ([(0, 1), (1, 1)] : List (Nat × Nat))[i]?) [.int .i64 0, .int .i64 0] [(0, (.int .i64 1)), (1, (.int .i64 1))]) fun v9 =>
  okF (bldP (fun i => ([(0, 1), (1, 1)] : List (Nat × Nat))[i]?) [.int .i64 0, .int .i64 0] [(1, (.int .i64 1))]) fun v10 =>
  efK PR (Instr.buildSlice T_s_api_Dot 2 #[(0, v9), (1, v10)]) (fun v11 W =>
  callK PR F_rostrumlaw18_dots [v5, v11] (fun v12 W =>
  gdK (wantd v12 true) (fun k W => k v7 W) (fun v14 W =>
  gdK (wantd v12 true) (fun k W => okF (lenP (.slice T_s_api_Dot) v14) fun v => k v W) (fun v15 W =>
  gdK (wantd v12 true) (fun k W => okF (binP .eql v15 (.int .i64 1)) fun v => k v W) (fun v16 W =>
  okF (pickP v12 v16 (.bool false)) fun v17 =>
  gdK (wantd v17 true) (fun k W => k v7 W) (fun v19 W =>
  gdK (wantd v17 true) (fun k W => okF (idxS 1 v19 (.int .i64 0)) fun v => k v W) (fun v20 W =>
  gdK (wantd v17 true) (fun k W => rdK PR (Instr.loadAt T_s_api_Dot v20) k W) (fun v21 W =>
  gdK (wantd v17 true) (fun k W => k v5 W) (fun v22 W =>
  gdK (wantd v17 true) (fun k W => callK PR F_rostrumlaw18_dots [v21, v22] k W) (fun v23 W =>
  okF (pickP v17 v23 (.bool false)) fun v24 =>
  gdK (wantd v24 true) (fun k W => callK PR F_rostrumlaw18_ring [] k W) (fun v26 W =>
  gdK (wantd v24 true) (fun k W => callK PR F_order_Good [v26] k W) (fun v27 W =>
  okF (pickP v24 v27 (.bool false)) fun v28 =>
  R v28 W) W) W) W) W) W) W) W) W) W) W) W) W) W) W) W) W
def S.rostrumlaw18_awake.hint : Hint := (.two .nil (.two .nil (.two .nil (.two .nil .nil))))
theorem S.rostrumlaw18_awake.ok (R : Value → World → Prop) (W : World) : bodyK PR CB Tryz.f6 S.rostrumlaw18_awake.hint [] R W = S.rostrumlaw18_awake.body R  W := by kernel_rfl
theorem S.rostrumlaw18_awake.fn : PR.funcs[F_rostrumlaw18_awake]? = some Tryz.f6 := by kernel_rfl
theorem S.rostrumlaw18_awake.call {R : Value → World → Prop} {W : World} (h : S.rostrumlaw18_awake.body R  W) : callK PR F_rostrumlaw18_awake [] R W :=
  callK_of_body (g := F_rostrumlaw18_awake) (fn := Tryz.f6) (args := []) (R := R) (w := W) mixed CBok S.rostrumlaw18_awake.fn S.rostrumlaw18_awake.hint (by rw [S.rostrumlaw18_awake.ok]; exact h)
/-! ### rostrum/rostrumlaw18.dots (9) -/
def S.rostrumlaw18_dots.body (R : Value → World → Prop) (v0 v1 : Value) (W : World) : Prop :=
  callK PR F_rostrumref7_SameDots [v0, v1] (fun v7 W =>
  R v7 W) W
def S.rostrumlaw18_dots.hint : Hint := (.two .nil (.two .nil .nil))
theorem S.rostrumlaw18_dots.ok (R : Value → World → Prop) (v0 v1 : Value) (W : World) : bodyK PR CB Tryz.f9 S.rostrumlaw18_dots.hint [v0, v1] R W = S.rostrumlaw18_dots.body R v0 v1 W := by kernel_rfl
theorem S.rostrumlaw18_dots.fn : PR.funcs[F_rostrumlaw18_dots]? = some Tryz.f9 := by kernel_rfl
theorem S.rostrumlaw18_dots.call {R : Value → World → Prop} {v0 v1 : Value} {W : World} (h : S.rostrumlaw18_dots.body R v0 v1 W) : callK PR F_rostrumlaw18_dots [v0, v1] R W :=
  callK_of_body (g := F_rostrumlaw18_dots) (fn := Tryz.f9) (args := [v0, v1]) (R := R) (w := W) mixed CBok S.rostrumlaw18_dots.fn S.rostrumlaw18_dots.hint (by rw [S.rostrumlaw18_dots.ok]; exact h)
/-! ### rostrum/rostrumlaw18.find (10) -/
def S.rostrumlaw18_find.l1 (R : Value → World → Prop) (K1 : List Value → World → Prop) (x0 x3 x5 : Value) (W : World) : Prop :=
  okF (lenP (.slice T_order_Inst) x0) fun v8 =>
  okF (binP .lss x5 v8) fun v9 =>
  ifK v9 (
  okF (idxS 10 x0 x5) fun v14 =>
  okF (addrF 0 v14) fun v15 =>
  rdK PR (Instr.loadAt T_api_Dot v15) (fun v16 W =>
  rdK PR (Instr.loadAt T_api_Dot x3) (fun v17 W =>
  rdK PR (aggEq .eql T_api_Dot v16 v17) (fun v18 W =>
  ifK v18 (
  R x5 W) (
  okF (binP .add x5 (.int .i64 1)) fun v11 =>
  K1 [x0, x3, v11] W)) W) W) (tick W)) (
  R (.int .i64 (-1)) W)
def S.rostrumlaw18_find.body (R : Value → World → Prop) (v0 v1 : Value) (W : World) : Prop :=
  efK PR (Instr.box T_api_Dot v1) (fun v3 W =>
  loopK (fun K1 s W => S.rostrumlaw18_find.l1 R K1 (nthv s 0) (nthv s 1) (nthv s 2) W) [v0, v3, (.int .i64 0)] W) W
def S.rostrumlaw18_find.hint : Hint := (.two .nil (.two (.two .nil (.at [0, 3, 5] (.two (.two .nil (.two .nil .nil)) (.two (.two .nil (.two (.two .nil .nil) .nil)) .nil)) .nil)) (.two .nil .nil)))
theorem S.rostrumlaw18_find.ok (R : Value → World → Prop) (v0 v1 : Value) (W : World) : bodyK PR CB Tryz.f10 S.rostrumlaw18_find.hint [v0, v1] R W = S.rostrumlaw18_find.body R v0 v1 W := by kernel_rfl
theorem S.rostrumlaw18_find.fn : PR.funcs[F_rostrumlaw18_find]? = some Tryz.f10 := by kernel_rfl
theorem S.rostrumlaw18_find.call {R : Value → World → Prop} {v0 v1 : Value} {W : World} (h : S.rostrumlaw18_find.body R v0 v1 W) : callK PR F_rostrumlaw18_find [v0, v1] R W :=
  callK_of_body (g := F_rostrumlaw18_find) (fn := Tryz.f10) (args := [v0, v1]) (R := R) (w := W) mixed CBok S.rostrumlaw18_find.fn S.rostrumlaw18_find.hint (by rw [S.rostrumlaw18_find.ok]; exact h)
/-! ### rostrum/rostrumlaw18.together (11) -/
def S.rostrumlaw18_together.j1 (K1 : List Value → World → Prop) (x4 x5 x7 x8 : Value) (W : World) : Prop :=
  okF (binP .add x8 (.int .i64 1)) fun v19 =>
  K1 [x4, x5, x7, v19] W
def S.rostrumlaw18_together.j2 (R : Value → World → Prop) (J1 : List Value → World → Prop) (x4 x5 x7 x8 x9 x10 : Value) (W : World) : Prop :=
  gdK (wantd x9 true) (fun k W => k x10 W) (fun v55 W =>
  okF (pickP x9 v55 (.bool false)) fun v56 =>
  ifK v56 (
  R (.bool true) W) (
  J1 [x4, x5, x7, x8] W)) W
def S.rostrumlaw18_together.l2 (J2 : List Value → World → Prop) (K2 : List Value → World → Prop) (x4 x5 x7 x8 x9 x10 x11 : Value) (W : World) : Prop :=
  okF (idxS 1 x7 x8) fun v23 =>
  rdK PR (Instr.loadAt T_s_api_Dot v23) (fun v24 W =>
  okF (lenP (.slice T_api_Dot) v24) fun v25 =>
  okF (binP .lss x11 v25) fun v26 =>
  ifK v26 (
  gdK (wantd x9 false) (fun k W => k x7 W) (fun v31 W =>
  gdK (wantd x9 false) (fun k W => k x8 W) (fun v32 W =>
  gdK (wantd x9 false) (fun k W => okF (idxS 1 v31 v32) fun v => k v W) (fun v33 W =>
  gdK (wantd x9 false) (fun k W => rdK PR (Instr.loadAt T_s_api_Dot v33) k W) (fun v34 W =>
  gdK (wantd x9 false) (fun k W => k x11 W) (fun v35 W =>
  gdK (wantd x9 false) (fun k W => okF (idxS 2 v34 v35) fun v => k v W) (fun v36 W =>
  gdK (wantd x9 false) (fun k W => rdK PR (Instr.loadAt T_api_Dot v36) k W) (fun v37 W =>
  gdK (wantd x9 false) (fun k W => rdK PR (Instr.loadAt T_api_Dot x4) k W) (fun v38 W =>
  gdK (wantd x9 false) (fun k W => rdK PR (aggEq .eql T_api_Dot v37 v38) k W) (fun v39 W =>
  okF (pickP x9 (.bool true) v39) fun v40 =>
  gdK (wantd x10 false) (fun k W => k x7 W) (fun v43 W =>
  gdK (wantd x10 false) (fun k W => k x8 W) (fun v44 W =>
  gdK (wantd x10 false) (fun k W => okF (idxS 1 v43 v44) fun v => k v W) (fun v45 W =>
  gdK (wantd x10 false) (fun k W => rdK PR (Instr.loadAt T_s_api_Dot v45) k W) (fun v46 W =>
  gdK (wantd x10 false) (fun k W => k x11 W) (fun v47 W =>
  gdK (wantd x10 false) (fun k W => okF (idxS 2 v46 v47) fun v => k v W) (fun v48 W =>
  gdK (wantd x10 false) (fun k W => rdK PR (Instr.loadAt T_api_Dot v48) k W) (fun v49 W =>
  gdK (wantd x10 false) (fun k W => rdK PR (Instr.loadAt T_api_Dot x5) k W) (fun v50 W =>
  gdK (wantd x10 false) (fun k W => rdK PR (aggEq .eql T_api_Dot v49 v50) k W) (fun v51 W =>
  okF (pickP x10 (.bool true) v51) fun v52 =>
  okF (binP .add x11 (.int .i64 1)) fun v28 =>
  K2 [x4, x5, x7, x8, v40, v52, v28] W) W) W) W) W) W) W) W) W) W) W) W) W) W) W) W) W) W) (tick W)) (
  J2 [x4, x5, x7, x8, x9, x10] W)) W
def S.rostrumlaw18_together.l1 (R : Value → World → Prop) (K1 : List Value → World → Prop) (x4 x5 x7 x8 : Value) (W : World) : Prop :=
  okF (lenP (.slice T_s_api_Dot) x7) fun v16 =>
  okF (binP .lss x8 v16) fun v17 =>
  ifK v17 (
  joinK (fun s W => S.rostrumlaw18_together.j1 K1 (nthv s 0) (nthv s 1) (nthv s 2) (nthv s 3) W) (fun J1 =>
  joinK (fun s W => S.rostrumlaw18_together.j2 R J1 (nthv s 0) (nthv s 1) (nthv s 2) (nthv s 3) (nthv s 4) (nthv s 5) W) (fun J2 =>
  loopK (fun K2 s W => S.rostrumlaw18_together.l2 J2 K2 (nthv s 0) (nthv s 1) (nthv s 2) (nthv s 3) (nthv s 4) (nthv s 5) (nthv s 6) W) [x4, x5, x7, x8, (.bool false), (.bool false), (.int .i64 0)] W))) (
  R (.bool false) W)
def S.rostrumlaw18_together.body (R : Value → World → Prop) (v0 v1 v2 : Value) (W : World) : Prop :=
  efK PR (Instr.box T_api_Dot v1) (fun v4 W =>
  efK PR (Instr.box T_api_Dot v2) (fun v5 W =>
  callK PR F_order_Groups [v0] (fun v13 W =>
  loopK (fun K1 s W => S.rostrumlaw18_together.l1 R K1 (nthv s 0) (nthv s 1) (nthv s 2) (nthv s 3) W) [v4, v5, v13, (.int .i64 0)] W) W) W) W
def S.rostrumlaw18_together.hint : Hint := (.two .nil (.two .nil (.two (.two .nil (.at [4, 5, 7, 8] (.two (.two .nil (.two .nil .nil)) (.at [4, 5, 7, 8] (.two .nil (.at [4, 5, 7, 8, 9, 10] (.two .nil (.at [4, 5, 7, 8, 9, 10, 11] (.two (.two .nil (.two .nil .nil)) (.two .nil .nil)) .nil)) (.two .nil (.two (.two .nil .nil) .nil)))) .nil)) .nil)) (.two .nil .nil))))
theorem S.rostrumlaw18_together.ok (R : Value → World → Prop) (v0 v1 v2 : Value) (W : World) : bodyK PR CB Tryz.f11 S.rostrumlaw18_together.hint [v0, v1, v2] R W = S.rostrumlaw18_together.body R v0 v1 v2 W := by kernel_rfl
theorem S.rostrumlaw18_together.fn : PR.funcs[F_rostrumlaw18_together]? = some Tryz.f11 := by kernel_rfl
theorem S.rostrumlaw18_together.call {R : Value → World → Prop} {v0 v1 v2 : Value} {W : World} (h : S.rostrumlaw18_together.body R v0 v1 v2 W) : callK PR F_rostrumlaw18_together [v0, v1, v2] R W :=
  callK_of_body (g := F_rostrumlaw18_together) (fn := Tryz.f11) (args := [v0, v1, v2]) (R := R) (w := W) mixed CBok S.rostrumlaw18_together.fn S.rostrumlaw18_together.hint (by rw [S.rostrumlaw18_together.ok]; exact h)
/-! ### rostrum/rostrumlaw18.ring (25) -/
def S.rostrumlaw18_ring.body (R : Value → World → Prop) (W : World) : Prop :=
  okF (bldP (fun i => ([(0, 1), (1, 1)] : List (Nat × Nat))[i]?) [.int .i64 0, .int .i64 0] [(1, (.int .i64 1))]) fun v1 =>
  okF (bldP (fun i => some (i * 1, 1)) [.int .i64 0, .int .i64 0, .int .i64 0, .int .i64 0, .int .i64 0, .int .i64 0, .int .i64 0] [(0, (.int .i64 0)), (1, (.int .i64 1))]) fun v2 =>
  okF (bldP (fun i => ([(0, 2), (2, 1), (3, 7)] : List (Nat × Nat))[i]?) [.int .i64 0, .int .i64 0, .int .i64 0, .int .i64 0, .int .i64 0, .int .i64 0, .int .i64 0, .int .i64 0, .int .i64 0, .int .i64 0] [(0, v1), (1, (.int .i64 2)), (2, v2)]) fun v3 =>
  okF (bldP (fun i => ([(0, 1), (1, 1)] : List (Nat × Nat))[i]?) [.int .i64 0, .int .i64 0] [(0, (.int .i64 1)), (1, (.int .i64 1))]) fun v4 =>
  okF (bldP (fun i => some (i * 1, 1)) [.int .i64 0, .int .i64 0, .int .i64 0, .int .i64 0, .int .i64 0, .int .i64 0, .int .i64 0] [(0, (.int .i64 1))]) fun v5 =>
  okF (bldP (fun i => ([(0, 2), (2, 1), (3, 7)] : List (Nat × Nat))[i]?) [.int .i64 0, .int .i64 0, .int .i64 0, .int .i64 0, .int .i64 0, .int .i64 0, .int .i64 0, .int .i64 0, .int .i64 0, .int .i64 0] [(0, v4), (1, (.int .i64 1)), (2, v5)]) fun v6 =>
  efK PR (Instr.buildSlice T_s_order_Inst 2 #[(0, v3), (1, v6)]) (fun v7 W =>
  R v7 W) W
def S.rostrumlaw18_ring.hint : Hint := (.two .nil (.two .nil .nil))
theorem S.rostrumlaw18_ring.ok (R : Value → World → Prop) (W : World) : bodyK PR CB Tryz.f25 S.rostrumlaw18_ring.hint [] R W = S.rostrumlaw18_ring.body R  W := by kernel_rfl
theorem S.rostrumlaw18_ring.fn : PR.funcs[F_rostrumlaw18_ring]? = some Tryz.f25 := by kernel_rfl
theorem S.rostrumlaw18_ring.call {R : Value → World → Prop} {W : World} (h : S.rostrumlaw18_ring.body R  W) : callK PR F_rostrumlaw18_ring [] R W :=
  callK_of_body (g := F_rostrumlaw18_ring) (fn := Tryz.f25) (args := []) (R := R) (w := W) mixed CBok S.rostrumlaw18_ring.fn S.rostrumlaw18_ring.hint (by rw [S.rostrumlaw18_ring.ok]; exact h)
/-! ### rostrum/rostrumref7.SameDots (36) -/
def S.rostrumref7_SameDots.l1 (R : Value → World → Prop) (K1 : List Value → World → Prop) (x0 x1 x5 : Value) (W : World) : Prop :=
  okF (lenP (.slice T_api_Dot) x0) fun v13 =>
  okF (binP .lss x5 v13) fun v14 =>
  ifK v14 (
  okF (idxS 2 x0 x5) fun v19 =>
  rdK PR (Instr.loadAt T_api_Dot v19) (fun v20 W =>
  okF (idxS 2 x1 x5) fun v23 =>
  rdK PR (Instr.loadAt T_api_Dot v23) (fun v24 W =>
  rdK PR (aggEq .neq T_api_Dot v20 v24) (fun v25 W =>
  ifK v25 (
  R (.bool false) W) (
  okF (binP .add x5 (.int .i64 1)) fun v16 =>
  K1 [x0, x1, v16] W)) W) W) (tick W)) (
  R (.bool true) W)
def S.rostrumref7_SameDots.body (R : Value → World → Prop) (v0 v1 : Value) (W : World) : Prop :=
  okF (lenP (.slice T_api_Dot) v0) fun v7 =>
  okF (lenP (.slice T_api_Dot) v1) fun v9 =>
  okF (binP .neq v7 v9) fun v10 =>
  ifK v10 (
  R (.bool false) W) (
  loopK (fun K1 s W => S.rostrumref7_SameDots.l1 R K1 (nthv s 0) (nthv s 1) (nthv s 2) W) [v0, v1, (.int .i64 0)] W)
def S.rostrumref7_SameDots.hint : Hint := (.two .nil (.two (.two .nil (.two (.two .nil .nil) .nil)) (.two (.two .nil (.at [0, 1, 5] (.two (.two .nil (.two .nil .nil)) (.two (.two .nil (.two (.two .nil .nil) .nil)) .nil)) .nil)) (.two .nil .nil))))
theorem S.rostrumref7_SameDots.ok (R : Value → World → Prop) (v0 v1 : Value) (W : World) : bodyK PR CB Tryz.f36 S.rostrumref7_SameDots.hint [v0, v1] R W = S.rostrumref7_SameDots.body R v0 v1 W := by kernel_rfl
theorem S.rostrumref7_SameDots.fn : PR.funcs[F_rostrumref7_SameDots]? = some Tryz.f36 := by kernel_rfl
theorem S.rostrumref7_SameDots.call {R : Value → World → Prop} {v0 v1 : Value} {W : World} (h : S.rostrumref7_SameDots.body R v0 v1 W) : callK PR F_rostrumref7_SameDots [v0, v1] R W :=
  callK_of_body (g := F_rostrumref7_SameDots) (fn := Tryz.f36) (args := [v0, v1]) (R := R) (w := W) mixed CBok S.rostrumref7_SameDots.fn S.rostrumref7_SameDots.hint (by rw [S.rostrumref7_SameDots.ok]; exact h)
end Go.Proofs.YtkjhccpanedccaaGreat
namespace Go.Proofs.YtkjhccpanedccaaGreat
set_option linter.unusedVariables false
set_option linter.unusedSimpArgs false
open Go Go.Eng Go.Tar Go.Sort Go.RowKit
theorem dot_eq (x y : Dot) : (decide (x.rep = y.rep) && decide (x.n = y.n)) = decide (x = y) := by
  cases x; cases y
  rw [Bool.eq_iff_iff]
  simp
theorem take_step {α : Type} {l m : List α} {i : Nat} (h : l.take i = m.take i) (hi : i < l.length) (hj : i < m.length) (he : l[i] = m[i]) : l.take (i + 1) = m.take (i + 1) := by
  rw [List.take_succ_eq_append_getElem hi, List.take_succ_eq_append_getElem hj, h, he]
abbrev ClI : List Cl := [.int .i64, .int .i64, .int .i64, .int .i64, .int .i64, .int .i64, .int .i64, .int .i64, .int .i64, .int .i64]
def rgI (x : Ins) : Prop := (∀ i, i < 7 → -9223372036854775808 ≤ x.v.get i ∧ x.v.get i ≤ 9223372036854775807)
theorem openInsRow {W : World} (vs : List Value) (h : GoodL W ClI vs) : ∃ a : Ins, vs = INS.row a ∧ rgI a := by
  obtain ⟨_, _, rfl, h1, h⟩ := h.cons'
  obtain ⟨_, _, rfl, h2, h⟩ := h.cons'
  obtain ⟨_, _, rfl, h3, h⟩ := h.cons'
  obtain ⟨_, _, rfl, h4, h⟩ := h.cons'
  obtain ⟨_, _, rfl, h5, h⟩ := h.cons'
  obtain ⟨_, _, rfl, h6, h⟩ := h.cons'
  obtain ⟨_, _, rfl, h7, h⟩ := h.cons'
  obtain ⟨_, _, rfl, h8, h⟩ := h.cons'
  obtain ⟨_, _, rfl, h9, h⟩ := h.cons'
  obtain ⟨_, _, rfl, h10, h⟩ := h.cons'
  obtain rfl := h.nil'
  obtain ⟨a1, rfl, _⟩ := h1.int'
  obtain ⟨a2, rfl, _⟩ := h2.int'
  obtain ⟨a3, rfl, _⟩ := h3.int'
  obtain ⟨a4, rfl, w4⟩ := h4.int'
  obtain ⟨a5, rfl, w5⟩ := h5.int'
  obtain ⟨a6, rfl, w6⟩ := h6.int'
  obtain ⟨a7, rfl, w7⟩ := h7.int'
  obtain ⟨a8, rfl, w8⟩ := h8.int'
  obtain ⟨a9, rfl, w9⟩ := h9.int'
  obtain ⟨a10, rfl, w10⟩ := h10.int'
  refine ⟨⟨⟨a1, a2⟩, a3, ⟨a4, a5, a6, a7, a8, a9, a10⟩⟩, rfl, fun i hi => ?_⟩
  rcases P7.cases7 hi with rfl | rfl | rfl | rfl | rfl | rfl | rfl
  · exact Eng.wf64 w4
  · exact Eng.wf64 w5
  · exact Eng.wf64 w6
  · exact Eng.wf64 w7
  · exact Eng.wf64 w8
  · exact Eng.wf64 w9
  · exact Eng.wf64 w10
theorem openInss {W : World} {v : Value} (h : GoodA W [.sl ClI] false v) : ∃ (a : Option Addr) (c : Nat) (l : List Ins), v = .slice a l.length c ∧ l.length ≤ c ∧ c ≤ maxLen ∧ Rd W [] a INS l ∧ ∀ x ∈ l, rgI x := openArr INS rgI h.one rfl openInsRow
section
variable {W0 W : World} {L L' : List Asn}
set_option maxRecDepth 100000 in
set_option maxHeartbeats 4000000 in
theorem refSameDots {a b : Option Addr} {c d : Nat} {l m : List Dot} {k : Value → World → Prop} (h : St W0 L W) [hr : Rd W0 L a DOT l] [hr2 : Rd W0 L b DOT m] (hl : l.length < 4611686018427387904)
    (hk : ∀ W', St W0 L W' → k (.bool (decide (l = m))) W') : callK PR F_rostrumref7_SameDots [.slice a l.length c, .slice b m.length d] k W := by
  apply S.rostrumref7_SameDots.call
  unfold S.rostrumref7_SameDots.body
  by_cases hn : l.length = m.length
  · have f1 : decide ((l.length : Int) = (m.length : Int)) = true := decide_eq_true (by omega)
    (repeat (first | (first | (with_reducible (first | refine w1 fun _ _ => ?_ | refine w3 fun _ _ _ => ?_ | refine w4 fun _ _ _ => ?_ | refine w11 fun _ _ _ => ?_ | refine stb_n ?_)) | ((with_reducible refine w2 ?_); try simp -implicitDefEqProofs only [EN, lsub, lget, stL, beq_self_eq_true, ne_eq, if_true, if_false, List.cons_append, List.nil_append, Option.isNone_some, Option.isNone_none, f1]; intro _ _) | ((with_reducible (first | refine w5 ?_ ?_ | refine w6 ?_ ?_ | refine w7 ?_ ?_)); simp; refine ⟨_, rfl, ?_⟩) | ((with_reducible (first | refine w8 ?_ ?_ ?_ | refine w9 ?_ ?_ ?_ | refine w10 ?_ ?_ ?_)); exact rfl; simp) | ((with_reducible refine w12 ?_ ?_ ?_ fun _ _ => ?_); simp; simp; simp [oneC]) | ((with_reducible (first | refine eqs ?_ | refine nes ?_)); refine ⟨_, rfl, ?_⟩) | ((refine okF_i (bldP_eq rfl) ?_); try simp only [BLS, List.take_succ_cons, List.take_zero, List.drop_succ_cons, List.drop_zero, List.cons_append, List.nil_append, Nat.reduceAdd])) | simp -implicitDefEqProofs only [EN, lsub, lget, stL, beq_self_eq_true, ne_eq, if_true, if_false, List.cons_append, List.nil_append, Option.isNone_some, Option.isNone_none, f1]))
    refine loop_c (σ := Unit) l.length (fun i _ => [.slice a l.length c, .slice b m.length d, .int .i64 i]) (fun i _ W1 => l.take i = m.take i ∧ St W0 L W1) () rfl ⟨rfl, h⟩ ?_
    clear h
    rintro K i _ W2 hi ⟨ht, h⟩ hK
    simp -implicitDefEqProofs only [EN, lsub, lget, stL, beq_self_eq_true, ne_eq, if_true, if_false, List.cons_append, List.nil_append, Option.isNone_some, Option.isNone_none]
    unfold S.rostrumref7_SameDots.l1
    by_cases hlt : (i : Int) < (l.length : Int)
    · have hib : i < l.length := by omega
      have hjb : i < m.length := by omega
      have ew : IntKind.i64.wrap ((i : Int) + 1) = ((i + 1 : Nat) : Int) := by rw [i64w]; omega
      (repeat (first | (first | (with_reducible (first | refine w1 fun _ _ => ?_ | refine w3 fun _ _ _ => ?_ | refine w4 fun _ _ _ => ?_ | refine w11 fun _ _ _ => ?_ | refine stb_n ?_)) | ((with_reducible refine w2 ?_); try simp -implicitDefEqProofs only [EN, lsub, lget, stL, beq_self_eq_true, ne_eq, if_true, if_false, List.cons_append, List.nil_append, Option.isNone_some, Option.isNone_none, hlt]; intro _ _) | ((with_reducible (first | refine w5 ?_ ?_ | refine w6 ?_ ?_ | refine w7 ?_ ?_)); simp; refine ⟨_, rfl, ?_⟩) | ((with_reducible (first | refine w8 ?_ ?_ ?_ | refine w9 ?_ ?_ ?_ | refine w10 ?_ ?_ ?_)); exact rfl; simp) | ((with_reducible refine w12 ?_ ?_ ?_ fun _ _ => ?_); simp; simp; simp [oneC]) | ((with_reducible (first | refine eqs ?_ | refine nes ?_)); refine ⟨_, rfl, ?_⟩) | ((refine okF_i (bldP_eq rfl) ?_); try simp only [BLS, List.take_succ_cons, List.take_zero, List.drop_succ_cons, List.drop_zero, List.cons_append, List.nil_append, Nat.reduceAdd])) | simp -implicitDefEqProofs only [EN, lsub, lget, stL, beq_self_eq_true, ne_eq, if_true, if_false, List.cons_append, List.nil_append, Option.isNone_some, Option.isNone_none, hlt]))
      refine ixA (i := i) (a := a) (l := l) (A := DOT) h.tick rfl rfl hib fun g o ha => ?_
      cases ha
      refine ldA0 (i := i) (l := l) (A := DOT) h.tick rfl hib (v := .agg #[.int .i64 (l[i]).rep, .int .i64 (l[i]).n]) rfl (by simp) ?_
      refine ixA (i := i) (a := b) (l := m) (A := DOT) h.tick rfl rfl hjb fun g' o' ha => ?_
      cases ha
      refine ldA0 (i := i) (l := m) (A := DOT) h.tick rfl hjb (v := .agg #[.int .i64 (m[i]).rep, .int .i64 (m[i]).n]) rfl (by simp) ?_
      generalize hx : l[i] = x at *
      generalize hy : m[i] = y at *
      by_cases he : x = y
      · have f2 : (decide (x.rep = y.rep) && decide (x.n = y.n)) = true := by rw [dot_eq]; exact decide_eq_true he
        (repeat (first | (first | (with_reducible (first | refine w1 fun _ _ => ?_ | refine w3 fun _ _ _ => ?_ | refine w4 fun _ _ _ => ?_ | refine w11 fun _ _ _ => ?_ | refine stb_n ?_)) | ((with_reducible refine w2 ?_); try simp -implicitDefEqProofs only [EN, lsub, lget, stL, beq_self_eq_true, ne_eq, if_true, if_false, List.cons_append, List.nil_append, Option.isNone_some, Option.isNone_none, f2, ew]; intro _ _) | ((with_reducible (first | refine w5 ?_ ?_ | refine w6 ?_ ?_ | refine w7 ?_ ?_)); simp; refine ⟨_, rfl, ?_⟩) | ((with_reducible (first | refine w8 ?_ ?_ ?_ | refine w9 ?_ ?_ ?_ | refine w10 ?_ ?_ ?_)); exact rfl; simp) | ((with_reducible refine w12 ?_ ?_ ?_ fun _ _ => ?_); simp; simp; simp [oneC]) | ((with_reducible (first | refine eqs ?_ | refine nes ?_)); refine ⟨_, rfl, ?_⟩) | ((refine okF_i (bldP_eq rfl) ?_); try simp only [BLS, List.take_succ_cons, List.take_zero, List.drop_succ_cons, List.drop_zero, List.cons_append, List.nil_append, Nat.reduceAdd])) | simp -implicitDefEqProofs only [EN, lsub, lget, stL, beq_self_eq_true, ne_eq, if_true, if_false, List.cons_append, List.nil_append, Option.isNone_some, Option.isNone_none, f2, ew]))
        refine hK () _ hib ⟨take_step ht hib hjb (by rw [hx, hy, he]), h.tick⟩
      · have f2 : (decide (x.rep = y.rep) && decide (x.n = y.n)) = false := by rw [dot_eq]; exact decide_eq_false he
        have hne : decide (l = m) = false := decide_eq_false fun e => he (by subst e; rw [← hx, ← hy])
        rw [hne] at hk
        (repeat (first | (first | (with_reducible (first | refine w1 fun _ _ => ?_ | refine w3 fun _ _ _ => ?_ | refine w4 fun _ _ _ => ?_ | refine w11 fun _ _ _ => ?_ | refine stb_n ?_)) | ((with_reducible refine w2 ?_); try simp -implicitDefEqProofs only [EN, lsub, lget, stL, beq_self_eq_true, ne_eq, if_true, if_false, List.cons_append, List.nil_append, Option.isNone_some, Option.isNone_none, f2]; intro _ _) | ((with_reducible (first | refine w5 ?_ ?_ | refine w6 ?_ ?_ | refine w7 ?_ ?_)); simp; refine ⟨_, rfl, ?_⟩) | ((with_reducible (first | refine w8 ?_ ?_ ?_ | refine w9 ?_ ?_ ?_ | refine w10 ?_ ?_ ?_)); exact rfl; simp) | ((with_reducible refine w12 ?_ ?_ ?_ fun _ _ => ?_); simp; simp; simp [oneC]) | ((with_reducible (first | refine eqs ?_ | refine nes ?_)); refine ⟨_, rfl, ?_⟩) | ((refine okF_i (bldP_eq rfl) ?_); try simp only [BLS, List.take_succ_cons, List.take_zero, List.drop_succ_cons, List.drop_zero, List.cons_append, List.nil_append, Nat.reduceAdd])) | simp -implicitDefEqProofs only [EN, lsub, lget, stL, beq_self_eq_true, ne_eq, if_true, if_false, List.cons_append, List.nil_append, Option.isNone_some, Option.isNone_none, f2]))
        exact hk _ h.tick
    · (repeat (first | (first | (with_reducible (first | refine w1 fun _ _ => ?_ | refine w3 fun _ _ _ => ?_ | refine w4 fun _ _ _ => ?_ | refine w11 fun _ _ _ => ?_ | refine stb_n ?_)) | ((with_reducible refine w2 ?_); try simp -implicitDefEqProofs only [EN, lsub, lget, stL, beq_self_eq_true, ne_eq, if_true, if_false, List.cons_append, List.nil_append, Option.isNone_some, Option.isNone_none, hlt]; intro _ _) | ((with_reducible (first | refine w5 ?_ ?_ | refine w6 ?_ ?_ | refine w7 ?_ ?_)); simp; refine ⟨_, rfl, ?_⟩) | ((with_reducible (first | refine w8 ?_ ?_ ?_ | refine w9 ?_ ?_ ?_ | refine w10 ?_ ?_ ?_)); exact rfl; simp) | ((with_reducible refine w12 ?_ ?_ ?_ fun _ _ => ?_); simp; simp; simp [oneC]) | ((with_reducible (first | refine eqs ?_ | refine nes ?_)); refine ⟨_, rfl, ?_⟩) | ((refine okF_i (bldP_eq rfl) ?_); try simp only [BLS, List.take_succ_cons, List.take_zero, List.drop_succ_cons, List.drop_zero, List.cons_append, List.nil_append, Nat.reduceAdd])) | simp -implicitDefEqProofs only [EN, lsub, lget, stL, beq_self_eq_true, ne_eq, if_true, if_false, List.cons_append, List.nil_append, Option.isNone_some, Option.isNone_none, hlt]))
      have hall : l = m := by
        have := ht
        rw [List.take_of_length_le (by omega), List.take_of_length_le (by omega)] at this
        exact this
      rw [decide_eq_true hall] at hk
      exact hk _ h
  · have f1 : decide ((l.length : Int) = (m.length : Int)) = false := decide_eq_false (by omega)
    have hne : decide (l = m) = false := decide_eq_false fun e => hn (by rw [e])
    rw [hne] at hk
    (repeat (first | (first | (with_reducible (first | refine w1 fun _ _ => ?_ | refine w3 fun _ _ _ => ?_ | refine w4 fun _ _ _ => ?_ | refine w11 fun _ _ _ => ?_ | refine stb_n ?_)) | ((with_reducible refine w2 ?_); try simp -implicitDefEqProofs only [EN, lsub, lget, stL, beq_self_eq_true, ne_eq, if_true, if_false, List.cons_append, List.nil_append, Option.isNone_some, Option.isNone_none, f1]; intro _ _) | ((with_reducible (first | refine w5 ?_ ?_ | refine w6 ?_ ?_ | refine w7 ?_ ?_)); simp; refine ⟨_, rfl, ?_⟩) | ((with_reducible (first | refine w8 ?_ ?_ ?_ | refine w9 ?_ ?_ ?_ | refine w10 ?_ ?_ ?_)); exact rfl; simp) | ((with_reducible refine w12 ?_ ?_ ?_ fun _ _ => ?_); simp; simp; simp [oneC]) | ((with_reducible (first | refine eqs ?_ | refine nes ?_)); refine ⟨_, rfl, ?_⟩) | ((refine okF_i (bldP_eq rfl) ?_); try simp only [BLS, List.take_succ_cons, List.take_zero, List.drop_succ_cons, List.drop_zero, List.cons_append, List.nil_append, Nat.reduceAdd])) | simp -implicitDefEqProofs only [EN, lsub, lget, stL, beq_self_eq_true, ne_eq, if_true, if_false, List.cons_append, List.nil_append, Option.isNone_some, Option.isNone_none, f1]))
    exact hk _ h
theorem lawDots {a b : Option Addr} {c d : Nat} {l m : List Dot} {k : Value → World → Prop} (h : St W0 L W) [hr : Rd W0 L a DOT l] [hr2 : Rd W0 L b DOT m] (hl : l.length < 4611686018427387904)
    (hk : ∀ W', St W0 L W' → k (.bool (decide (l = m))) W') : callK PR F_rostrumlaw18_dots [.slice a l.length c, .slice b m.length d] k W := by
  apply S.rostrumlaw18_dots.call
  unfold S.rostrumlaw18_dots.body
  refine refSameDots (a := a) (b := b) (l := l) (m := m) h hl fun W1 h => ?_
  (repeat (first | (first | (with_reducible (first | refine w1 fun _ _ => ?_ | refine w3 fun _ _ _ => ?_ | refine w4 fun _ _ _ => ?_ | refine w11 fun _ _ _ => ?_ | refine stb_n ?_)) | ((with_reducible refine w2 ?_); try simp -implicitDefEqProofs only [EN, lsub, lget, stL, beq_self_eq_true, ne_eq, if_true, if_false, List.cons_append, List.nil_append, Option.isNone_some, Option.isNone_none]; intro _ _) | ((with_reducible (first | refine w5 ?_ ?_ | refine w6 ?_ ?_ | refine w7 ?_ ?_)); simp; refine ⟨_, rfl, ?_⟩) | ((with_reducible (first | refine w8 ?_ ?_ ?_ | refine w9 ?_ ?_ ?_ | refine w10 ?_ ?_ ?_)); exact rfl; simp) | ((with_reducible refine w12 ?_ ?_ ?_ fun _ _ => ?_); simp; simp; simp [oneC]) | ((with_reducible (first | refine eqs ?_ | refine nes ?_)); refine ⟨_, rfl, ?_⟩) | ((refine okF_i (bldP_eq rfl) ?_); try simp only [BLS, List.take_succ_cons, List.take_zero, List.drop_succ_cons, List.drop_zero, List.cons_append, List.nil_append, Nat.reduceAdd])) | simp -implicitDefEqProofs only [EN, lsub, lget, stL, beq_self_eq_true, ne_eq, if_true, if_false, List.cons_append, List.nil_append, Option.isNone_some, Option.isNone_none]))
  exact hk _ h
theorem lawRing {k : Value → World → Prop} (h : St W0 L W) (hk : ∀ a c W', St W0 (arr INS T_order_Inst a c ringO :: L) W' → k (.slice a ringO.length c) W') : callK PR F_rostrumlaw18_ring [] k W := by
  apply S.rostrumlaw18_ring.call
  unfold S.rostrumlaw18_ring.body
  (repeat (first | (first | (with_reducible (first | refine w1 fun _ _ => ?_ | refine w3 fun _ _ _ => ?_ | refine w4 fun _ _ _ => ?_ | refine w11 fun _ _ _ => ?_ | refine stb_n ?_)) | ((with_reducible refine w2 ?_); try simp -implicitDefEqProofs only [EN, lsub, lget, stL, beq_self_eq_true, ne_eq, if_true, if_false, List.cons_append, List.nil_append, Option.isNone_some, Option.isNone_none]; intro _ _) | ((with_reducible (first | refine w5 ?_ ?_ | refine w6 ?_ ?_ | refine w7 ?_ ?_)); simp; refine ⟨_, rfl, ?_⟩) | ((with_reducible (first | refine w8 ?_ ?_ ?_ | refine w9 ?_ ?_ ?_ | refine w10 ?_ ?_ ?_)); exact rfl; simp) | ((with_reducible refine w12 ?_ ?_ ?_ fun _ _ => ?_); simp; simp; simp [oneC]) | ((with_reducible (first | refine eqs ?_ | refine nes ?_)); refine ⟨_, rfl, ?_⟩) | ((refine okF_i (bldP_eq rfl) ?_); try simp only [BLS, List.take_succ_cons, List.take_zero, List.drop_succ_cons, List.drop_zero, List.cons_append, List.nil_append, Nat.reduceAdd])) | simp -implicitDefEqProofs only [EN, lsub, lget, stL, beq_self_eq_true, ne_eq, if_true, if_false, List.cons_append, List.nil_append, Option.isNone_some, Option.isNone_none]))
  refine bsA INS ringO (n := 2) (by first | assumption | exact St.tick (by assumption) | exact St.tick (St.tick (by assumption))) rfl rfl (by decide) (by decide) rfl fun a c W1 h => ?_
  (repeat (first | (first | (with_reducible (first | refine w1 fun _ _ => ?_ | refine w3 fun _ _ _ => ?_ | refine w4 fun _ _ _ => ?_ | refine w11 fun _ _ _ => ?_ | refine stb_n ?_)) | ((with_reducible refine w2 ?_); try simp -implicitDefEqProofs only [EN, lsub, lget, stL, beq_self_eq_true, ne_eq, if_true, if_false, List.cons_append, List.nil_append, Option.isNone_some, Option.isNone_none]; intro _ _) | ((with_reducible (first | refine w5 ?_ ?_ | refine w6 ?_ ?_ | refine w7 ?_ ?_)); simp; refine ⟨_, rfl, ?_⟩) | ((with_reducible (first | refine w8 ?_ ?_ ?_ | refine w9 ?_ ?_ ?_ | refine w10 ?_ ?_ ?_)); exact rfl; simp) | ((with_reducible refine w12 ?_ ?_ ?_ fun _ _ => ?_); simp; simp; simp [oneC]) | ((with_reducible (first | refine eqs ?_ | refine nes ?_)); refine ⟨_, rfl, ?_⟩) | ((refine okF_i (bldP_eq rfl) ?_); try simp only [BLS, List.take_succ_cons, List.take_zero, List.drop_succ_cons, List.drop_zero, List.cons_append, List.nil_append, Nat.reduceAdd])) | simp -implicitDefEqProofs only [EN, lsub, lget, stL, beq_self_eq_true, ne_eq, if_true, if_false, List.cons_append, List.nil_append, Option.isNone_some, Option.isNone_none]))
  exact hk a c _ h
theorem ordLine0 {a : Option Addr} {c : Nat} {l : List Ins} (done : P7 Int) (h00 : W0.drawn = 0) (h : St W0 L W) [hr : Rd W0 L a INS l] (hl : l.length < 1000000) {k : Value → World → Prop}
    (hk : ∀ a' c' W', St W0 (arr DOT T_api_Dot a' c' (lineTop done [] l) :: L) W' → k (.slice a' (lineTop done [] l).length c') W') : callK PR F_order_Line [.slice a l.length c, .agg #[.int .i64 done.x0, .int .i64 done.x1, .int .i64 done.x2, .int .i64 done.x3, .int .i64 done.x4, .int .i64 done.x5, .int .i64 done.x6], .slice none 0 0] k W := by
  haveI : Rd W0 L none DOT [] := Rd.nil _ _ _ _
  exact ordLine (a2 := none) (c2 := 0) (also := []) (done := done) h00 h hl (by decide) hk
theorem ordLine00 {c : Nat} (done : P7 Int) (h00 : W0.drawn = 0) (h : St W0 L W) {k : Value → World → Prop}
    (hk : ∀ a' c' W', St W0 (arr DOT T_api_Dot a' c' (lineTop done [] []) :: L) W' → k (.slice a' (lineTop done [] []).length c') W') : callK PR F_order_Line [.slice none 0 c, .agg #[.int .i64 done.x0, .int .i64 done.x1, .int .i64 done.x2, .int .i64 done.x3, .int .i64 done.x4, .int .i64 done.x5, .int .i64 done.x6], .slice none 0 0] k W := by
  haveI : Rd W0 L none INS [] := Rd.nil _ _ _ _
  exact ordLine0 (l := []) done h00 h (by decide) hk
theorem ordGood0 {c : Nat} (h : St W0 L W) {k : Value → World → Prop} (hk : ∀ W', St W0 L W' → k (.bool (goodO [])) W') : callK PR F_order_Good [.slice none 0 c] k W := by
  haveI : Rd W0 L none INS [] := Rd.nil _ _ _ _
  exact ordGood (l := []) h (by decide) hk
set_option maxRecDepth 100000 in
set_option maxHeartbeats 4000000 in
theorem lawAwake (h00 : W0.drawn = 0) {k : Value → World → Prop} (h : St W0 L W) (hk : ∀ W', St W0 L W' → k (.bool true) W') : callK PR F_rostrumlaw18_awake [] k W := by
  apply S.rostrumlaw18_awake.call
  unfold S.rostrumlaw18_awake.body
  refine lawRing h fun a1 c1 W1 h => ?_
  (repeat (first | (first | (with_reducible (first | refine w1 fun _ _ => ?_ | refine w3 fun _ _ _ => ?_ | refine w4 fun _ _ _ => ?_ | refine w11 fun _ _ _ => ?_ | refine stb_n ?_)) | ((with_reducible refine w2 ?_); try simp -implicitDefEqProofs only [EN, lsub, lget, stL, beq_self_eq_true, ne_eq, if_true, if_false, List.cons_append, List.nil_append, Option.isNone_some, Option.isNone_none]; intro _ _) | ((with_reducible (first | refine w5 ?_ ?_ | refine w6 ?_ ?_ | refine w7 ?_ ?_)); simp; refine ⟨_, rfl, ?_⟩) | ((with_reducible (first | refine w8 ?_ ?_ ?_ | refine w9 ?_ ?_ ?_ | refine w10 ?_ ?_ ?_)); exact rfl; simp) | ((with_reducible refine w12 ?_ ?_ ?_ fun _ _ => ?_); simp; simp; simp [oneC]) | ((with_reducible (first | refine eqs ?_ | refine nes ?_)); refine ⟨_, rfl, ?_⟩) | ((refine okF_i (bldP_eq rfl) ?_); try simp only [BLS, List.take_succ_cons, List.take_zero, List.drop_succ_cons, List.drop_zero, List.cons_append, List.nil_append, Nat.reduceAdd])) | simp -implicitDefEqProofs only [EN, lsub, lget, stL, beq_self_eq_true, ne_eq, if_true, if_false, List.cons_append, List.nil_append, Option.isNone_some, Option.isNone_none]))
  haveI : Rd W0 (arr INS T_order_Inst a1 c1 ringO :: L) none DOT [] := Rd.nil _ _ _ _
  refine ordLine (l := ringO) (a := a1) (done := P7.all 0) (also := []) (a2 := none) (c2 := 0) h00 (by first | assumption | exact St.tick (by assumption) | exact St.tick (St.tick (by assumption))) (by decide) (by decide) fun a2 c2 W2 h => ?_
  rw [ring_line] at h ⊢
  refine lawRing h fun a3 c3 W3 h => ?_
  refine ordGroupsTop (l := ringO) (a := a3) h00 h (by decide) fun a4 c4 W4 h => ?_
  rw [ring_groups] at h ⊢
  (repeat (first | (first | (with_reducible (first | refine w1 fun _ _ => ?_ | refine w3 fun _ _ _ => ?_ | refine w4 fun _ _ _ => ?_ | refine w11 fun _ _ _ => ?_ | refine stb_n ?_)) | ((with_reducible refine w2 ?_); try simp -implicitDefEqProofs only [EN, lsub, lget, stL, beq_self_eq_true, ne_eq, if_true, if_false, List.cons_append, List.nil_append, Option.isNone_some, Option.isNone_none]; intro _ _) | ((with_reducible (first | refine w5 ?_ ?_ | refine w6 ?_ ?_ | refine w7 ?_ ?_)); simp; refine ⟨_, rfl, ?_⟩) | ((with_reducible (first | refine w8 ?_ ?_ ?_ | refine w9 ?_ ?_ ?_ | refine w10 ?_ ?_ ?_)); exact rfl; simp) | ((with_reducible refine w12 ?_ ?_ ?_ fun _ _ => ?_); simp; simp; simp [oneC]) | ((with_reducible (first | refine eqs ?_ | refine nes ?_)); refine ⟨_, rfl, ?_⟩) | ((refine okF_i (bldP_eq rfl) ?_); try simp only [BLS, List.take_succ_cons, List.take_zero, List.drop_succ_cons, List.drop_zero, List.cons_append, List.nil_append, Nat.reduceAdd])) | simp -implicitDefEqProofs only [EN, lsub, lget, stL, beq_self_eq_true, ne_eq, if_true, if_false, List.cons_append, List.nil_append, Option.isNone_some, Option.isNone_none]))
  refine bsA DOT [(⟨1, 1⟩ : Dot), ⟨0, 1⟩] (n := 2) (by first | assumption | exact St.tick (by assumption) | exact St.tick (St.tick (by assumption))) rfl rfl (by decide) (by decide) rfl fun a5 c5 W5 h => ?_
  refine lawDots (a := a2) (b := a5) (l := [(⟨1, 1⟩ : Dot), ⟨0, 1⟩]) (m := [(⟨1, 1⟩ : Dot), ⟨0, 1⟩]) h (by decide) fun W6 h => ?_
  obtain ⟨rows, hrows, h⟩ := ld_at (St.wk (L' := LD a4 c4 [[(⟨1, 1⟩ : Dot), ⟨0, 1⟩]] :: arr DOT T_api_Dot a2 c2 [(⟨1, 1⟩ : Dot), ⟨0, 1⟩] :: L) h)
  have hr1 : rows.length = 1 := by have := congrArg List.length hrows; simpa using this
  obtain ⟨r, rfl⟩ := List.length_eq_one_iff.1 hr1
  obtain ⟨ra, rc, rl⟩ := r
  have erl : rl = [(⟨1, 1⟩ : Dot), ⟨0, 1⟩] := by simpa using hrows
  subst erl
  obtain ⟨g4, o4, e4⟩ := posAddr (i := 0) (a := a4) (A := DSY) (l := [(⟨ra, rc, [(⟨1, 1⟩ : Dot), ⟨0, 1⟩]⟩ : DSl)]) h (by simp)
  subst e4
  have i4 := ix2 (n := 1) (i := 0) (by decide) g4 o4 c4
  haveI hrd := dch_rd (W0 := W0) (L := arr DOT T_api_Dot a2 c2 [(⟨1, 1⟩ : Dot), ⟨0, 1⟩] :: L) (List.mem_singleton.2 rfl : (⟨ra, rc, [(⟨1, 1⟩ : Dot), ⟨0, 1⟩]⟩ : DSl) ∈ [(⟨ra, rc, [(⟨1, 1⟩ : Dot), ⟨0, 1⟩]⟩ : DSl)])
  have i5 : idxS 1 (.slice (some ⟨g4, o4, none⟩) [[(⟨1, 1⟩ : Dot), ⟨0, 1⟩]].length c4) (.int .i64 0) = some (.pointer (some ⟨g4, o4 + 0 * 1, none⟩)) := i4
  have d1 : decide ((⟨1, 1⟩ :: [⟨0, 1⟩] : List Dot) = [⟨1, 1⟩, ⟨0, 1⟩]) = true := by decide
  have d2 : decide (([[⟨1, 1⟩, ⟨0, 1⟩]] : List (List Dot)).length = (1 : Int)) = true := by decide
  (repeat (first | (first | (with_reducible (first | refine w1 fun _ _ => ?_ | refine w3 fun _ _ _ => ?_ | refine w4 fun _ _ _ => ?_ | refine w11 fun _ _ _ => ?_ | refine stb_n ?_)) | ((with_reducible refine w2 ?_); try simp -implicitDefEqProofs only [EN, lsub, lget, stL, beq_self_eq_true, ne_eq, if_true, if_false, List.cons_append, List.nil_append, Option.isNone_some, Option.isNone_none, d1, d2, i5]; intro _ _) | ((with_reducible (first | refine w5 ?_ ?_ | refine w6 ?_ ?_ | refine w7 ?_ ?_)); simp; refine ⟨_, rfl, ?_⟩) | ((with_reducible (first | refine w8 ?_ ?_ ?_ | refine w9 ?_ ?_ ?_ | refine w10 ?_ ?_ ?_)); exact rfl; simp) | ((with_reducible refine w12 ?_ ?_ ?_ fun _ _ => ?_); simp; simp; simp [oneC]) | ((with_reducible (first | refine eqs ?_ | refine nes ?_)); refine ⟨_, rfl, ?_⟩) | ((refine okF_i (bldP_eq rfl) ?_); try simp only [BLS, List.take_succ_cons, List.take_zero, List.drop_succ_cons, List.drop_zero, List.cons_append, List.nil_append, Nat.reduceAdd])) | simp -implicitDefEqProofs only [EN, lsub, lget, stL, beq_self_eq_true, ne_eq, if_true, if_false, List.cons_append, List.nil_append, Option.isNone_some, Option.isNone_none, d1, d2, i5]))
  refine ldA0 (i := 0) (l := [(⟨ra, rc, [(⟨1, 1⟩ : Dot), ⟨0, 1⟩]⟩ : DSl)]) (A := DSY) (by first | assumption | exact St.tick (by assumption) | exact St.tick (St.tick (by assumption))) rfl (by simp) (v := (⟨ra, rc, [(⟨1, 1⟩ : Dot), ⟨0, 1⟩]⟩ : DSl).v) rfl (by simp) ?_
  refine lawDots (a := ra) (b := a2) (l := [(⟨1, 1⟩ : Dot), ⟨0, 1⟩]) (m := [(⟨1, 1⟩ : Dot), ⟨0, 1⟩]) (by first | assumption | exact St.tick (by assumption) | exact St.tick (St.tick (by assumption))) (by decide) fun W7 h => ?_
  (repeat (first | (first | (with_reducible (first | refine w1 fun _ _ => ?_ | refine w3 fun _ _ _ => ?_ | refine w4 fun _ _ _ => ?_ | refine w11 fun _ _ _ => ?_ | refine stb_n ?_)) | ((with_reducible refine w2 ?_); try simp -implicitDefEqProofs only [EN, lsub, lget, stL, beq_self_eq_true, ne_eq, if_true, if_false, List.cons_append, List.nil_append, Option.isNone_some, Option.isNone_none, d1]; intro _ _) | ((with_reducible (first | refine w5 ?_ ?_ | refine w6 ?_ ?_ | refine w7 ?_ ?_)); simp; refine ⟨_, rfl, ?_⟩) | ((with_reducible (first | refine w8 ?_ ?_ ?_ | refine w9 ?_ ?_ ?_ | refine w10 ?_ ?_ ?_)); exact rfl; simp) | ((with_reducible refine w12 ?_ ?_ ?_ fun _ _ => ?_); simp; simp; simp [oneC]) | ((with_reducible (first | refine eqs ?_ | refine nes ?_)); refine ⟨_, rfl, ?_⟩) | ((refine okF_i (bldP_eq rfl) ?_); try simp only [BLS, List.take_succ_cons, List.take_zero, List.drop_succ_cons, List.drop_zero, List.cons_append, List.nil_append, Nat.reduceAdd])) | simp -implicitDefEqProofs only [EN, lsub, lget, stL, beq_self_eq_true, ne_eq, if_true, if_false, List.cons_append, List.nil_append, Option.isNone_some, Option.isNone_none, d1]))
  refine lawRing (by first | assumption | exact St.tick (by assumption) | exact St.tick (St.tick (by assumption))) fun a6 c6 W8 h => ?_
  refine ordGood (a := a6) (l := ringO) h (by decide) fun W9 h => ?_
  rw [ring_good]
  (repeat (first | (first | (with_reducible (first | refine w1 fun _ _ => ?_ | refine w3 fun _ _ _ => ?_ | refine w4 fun _ _ _ => ?_ | refine w11 fun _ _ _ => ?_ | refine stb_n ?_)) | ((with_reducible refine w2 ?_); try simp -implicitDefEqProofs only [EN, lsub, lget, stL, beq_self_eq_true, ne_eq, if_true, if_false, List.cons_append, List.nil_append, Option.isNone_some, Option.isNone_none]; intro _ _) | ((with_reducible (first | refine w5 ?_ ?_ | refine w6 ?_ ?_ | refine w7 ?_ ?_)); simp; refine ⟨_, rfl, ?_⟩) | ((with_reducible (first | refine w8 ?_ ?_ ?_ | refine w9 ?_ ?_ ?_ | refine w10 ?_ ?_ ?_)); exact rfl; simp) | ((with_reducible refine w12 ?_ ?_ ?_ fun _ _ => ?_); simp; simp; simp [oneC]) | ((with_reducible (first | refine eqs ?_ | refine nes ?_)); refine ⟨_, rfl, ?_⟩) | ((refine okF_i (bldP_eq rfl) ?_); try simp only [BLS, List.take_succ_cons, List.take_zero, List.drop_succ_cons, List.drop_zero, List.cons_append, List.nil_append, Nat.reduceAdd])) | simp -implicitDefEqProofs only [EN, lsub, lget, stL, beq_self_eq_true, ne_eq, if_true, if_false, List.cons_append, List.nil_append, Option.isNone_some, Option.isNone_none]))
  exact hk _ (St.wk (by first | assumption | exact St.tick (by assumption) | exact St.tick (St.tick (by assumption))))
end
end Go.Proofs.YtkjhccpanedccaaGreat
namespace Go.Proofs.YtkjhccpanedccaaGreat
set_option linter.unusedVariables false
set_option linter.unusedSimpArgs false
open Go Go.Eng Go.Tar Go.Sort Go.RowKit
section
variable {l m : List Ins} {x y : Ins} {d : Dot}
theorem depsL_mem : d ∈ depsL x ↔ (0 ≤ d.rep ∧ d.rep < 7) ∧ (1 ≤ d.n ∧ d.n ≤ x.v.get d.rep.toNat) ∧ d ≠ x.d := by
  unfold depsL depsR
  simp only [List.mem_flatMap, List.mem_range, List.mem_filter, List.mem_map, Bool.not_eq_true', decide_eq_false_iff_not]
  constructor
  · rintro ⟨r, hr, ⟨k, hk, rfl⟩, hne⟩
    refine ⟨⟨by simp only; omega, by simp only; omega⟩, ⟨by simp only; omega, ?_⟩, hne⟩
    simp only [Int.toNat_natCast]; omega
  · rintro ⟨⟨h1, h2⟩, ⟨h3, h4⟩, h5⟩
    obtain ⟨r, n⟩ := d
    simp only at h1 h2 h3 h4
    refine ⟨r.toNat, by omega, ⟨(n - 1).toNat, by omega, ?_⟩, h5⟩
    rw [Dot.mk.injEq]
    constructor <;> omega
theorem insOne_dot (h : insOne x = true) : (0 ≤ x.d.rep ∧ x.d.rep < 7) ∧ 1 ≤ x.d.n ∧ x.d.n ≤ 1000 := by
  unfold insOne dotO at h
  simp only [Bool.and_eq_true, decide_eq_true_eq] at h
  exact ⟨⟨h.1.1.1.1.1, h.1.1.1.1.2⟩, h.1.1.1.2, h.1.1.2⟩
def q0 : Dot → Bool := isO (P7.all 0) []
theorem q0_no (h : 1 ≤ d.n) : q0 d = false := by
  unfold q0 isO
  rw [P7.get_all, decide_eq_false (by omega)]; simp
theorem q0_deps (h : d ∈ depsL x) : q0 d = false := q0_no (depsL_mem.1 h).2.1.1
theorem q0_good (hg : goodO l = true) : ∀ y ∈ l, q0 y.d = false := fun y hy => q0_no (insOne_dot ((goodO_iff.1 hg).1 y hy).1).2.1
theorem q0_all (hg : goodO l = true) : (l.filter fun x => !q0 x.d) = l := by
  rw [List.filter_eq_self]
  intro y hy
  rw [q0_good hg y hy]; rfl
theorem good_sub (hg : goodO l = true) (hs : m.Sublist l) : goodO m = true := by
  obtain ⟨h1, h2, h3⟩ := goodO_iff.1 hg
  exact goodO_iff.2 ⟨fun x hx => h1 x (hs.mem hx), h2.sublist (hs.map _), Nat.le_trans hs.length_le h3⟩
/-- the line of what is done nowhere -/
theorem line0_eq (hg : goodO l = true) : lineTop (P7.all 0) [] l = (lineK (keptO q0 l)).map (·.d) := by
  unfold lineTop
  rw [if_pos hg, show isO (P7.all 0) [] = q0 from rfl, lineO_eq, q0_all hg]
theorem kept0_closed (hx : x ∈ keptO q0 l) (hd : d ∈ depsL x) : ∃ y ∈ keptO q0 l, y.d = d := by
  rcases kept_closed hx hd with h | h
  · rw [q0_deps hd] at h; cases h
  · exact h
theorem kept0_mono (hn : (l.map (·.d)).Nodup) (hg : goodO l = true) (hs : ∀ x ∈ m, x ∈ l) : ∀ x ∈ keptO q0 m, x ∈ keptO q0 l := fun x hx =>
  kept_great (C := fun x => x ∈ keptO q0 m) hn (q0_good hg) (fun x hx => hs x (kept_mem.1 hx).1) (fun x hx d hd => .inr (kept0_closed hx hd)) hx
theorem line0_len (done : P7 Int) (also : List Dot) (l : List Ins) : (lineTop done also l).length ≤ l.length := by
  unfold lineTop
  split
  · rw [lineO_eq, List.length_map]
    unfold lineK lineS
    rw [List.length_map]
    refine Nat.le_trans (lineF_len (onL_ok _)) ?_
    rw [sortO_len]
    have h1 := (kept_sub (q := isO done also) (l := l.filter fun x => !isO done also x.d)).length_le
    rw [sortO_len] at h1
    exact Nat.le_trans h1 (List.length_filter_le _ _)
  · simp
theorem line0_prefix (hg : goodO l = true) (hgm : goodO m = true) (hs : ∀ x ∈ m, x ∈ l) (hT : ∀ x ∈ l, ∀ y ∈ l, x ≠ y → x.d ∈ depsL y ∨ y.d ∈ depsL x) :
    lineTop (P7.all 0) [] m = (lineTop (P7.all 0) [] l).take (lineTop (P7.all 0) [] m).length := by
  have hn := (goodO_iff.1 hg).2.1
  have hnm := (goodO_iff.1 hgm).2.1
  rw [line0_eq hg, line0_eq hgm, List.length_map, ← List.map_take]
  congr 1
  exact line_prefix (kept_nodup hn) (kept_nodup hnm) (kept0_mono hn hg hs) (fun x hx d hd => kept0_closed hx hd) fun x hx y hy hne => hT x (kept_mem.1 hx).1 y (kept_mem.1 hy).1 hne
/-- they hang together -/
def tog (x y : Ins) : Bool := !(decide (x.v.get y.d.rep.toNat < y.d.n) && decide (y.v.get x.d.rep.toNat < x.d.n))
theorem tog_deps (hx : insOne x = true) (hy : insOne y = true) (hne : x.d ≠ y.d) (h : tog x y = true) : x.d ∈ depsL y ∨ y.d ∈ depsL x := by
  have h1 := insOne_dot hx
  have h2 := insOne_dot hy
  unfold tog at h
  rw [Bool.not_eq_true', Bool.and_eq_false_iff, decide_eq_false_iff_not, decide_eq_false_iff_not] at h
  rcases h with h | h
  · exact .inr (depsL_mem.2 ⟨h2.1, ⟨h2.2.1, by omega⟩, fun e => hne e.symm⟩)
  · exact .inl (depsL_mem.2 ⟨h1.1, ⟨h1.2.1, by omega⟩, hne⟩)
theorem tog_all (hg : goodO l = true) (hT : ∀ i (hi : i < l.length) k (hk : k < i), tog l[i] l[k] = true) : ∀ x ∈ l, ∀ y ∈ l, x ≠ y → x.d ∈ depsL y ∨ y.d ∈ depsL x := by
  obtain ⟨h1, h2, _⟩ := goodO_iff.1 hg
  intro x hx y hy hne
  obtain ⟨i, hi, rfl⟩ := List.getElem_of_mem hx
  obtain ⟨k, hk, rfl⟩ := List.getElem_of_mem hy
  have hd : l[i].d ≠ l[k].d := fun e => hne (by have := at_inj h2 hi hk e; subst this; rfl)
  rcases Nat.lt_trichotomy i k with h | h | h
  · exact (tog_deps (h1 _ (List.getElem_mem hk)).1 (h1 _ (List.getElem_mem hi)).1 (fun e => hd e.symm) (hT k hk i h)).symm
  · subst h; exact absurd rfl hne
  · exact tog_deps (h1 _ (List.getElem_mem hi)).1 (h1 _ (List.getElem_mem hk)).1 hd (hT i hi k h)
/-- those that are taken -/
def takeM (l : List Ins) (s : List Bool) (i : Nat) : List Ins := ((l.zipIdx.take i).filter fun x => s.getD x.2 false).map (·.1)
theorem takeM_succ (s : List Bool) {i : Nat} (hi : i < l.length) : takeM l s (i + 1) = if s.getD i false = true then takeM l s i ++ [l[i]] else takeM l s i := by
  unfold takeM
  rw [List.take_succ_eq_append_getElem (by simpa using hi), List.filter_append, List.map_append]
  by_cases h : s.getD i false = true
  · rw [if_pos h]; simp at h; simp [h]
  · rw [if_neg h]; simp at h; simp [h]
theorem takeM_sub (l : List Ins) (s : List Bool) (i : Nat) : (takeM l s i).Sublist l := by
  have h1 : ((l.zipIdx.take i).filter fun x => s.getD x.2 false).Sublist l.zipIdx := List.filter_sublist.trans (List.take_sublist _ _)
  have h2 := h1.map (·.1)
  have h3 : l.zipIdx.map (·.1) = l := by apply List.ext_getElem <;> simp
  rw [h3] at h2
  exact h2
end
end Go.Proofs.YtkjhccpanedccaaGreat
