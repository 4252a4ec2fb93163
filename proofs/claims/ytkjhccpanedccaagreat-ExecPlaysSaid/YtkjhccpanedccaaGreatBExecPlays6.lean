/- Texts of the claim ExecPlays, joined: COrd12, COrd13, COrd14, COrd15, COrd16, COrd17, COrd18, COrd19, ShPack, CBytes, ShExec, CExe. -/
import Derived.Test.YtkjhccpanedccaaGreatBExecPlays5
import Derived.Test.YtkjhccpanedccaaGreatBExecPlays1
import Derived.Test.YtkjhccpanedccaaGreatBExecPlays2
import Derived.Test.YtkjhccpanedccaaGreatBExecPlays3
namespace Go.Proofs.YtkjhccpanedccaaGreat
set_option linter.unusedVariables false
set_option linter.unusedSimpArgs false
open Go Go.Eng Go.Tar Go.Sort
section
variable {W0 W : World} {L L' : List Asn} {a : Option Addr} {c n : Nat} {on gs : List (List Int)}
theorem ix2 {i : Nat} (hi : i < n) (g o c : Nat) : idxS 1 (.slice (some ⟨g, o, none⟩) n c) (.int .i64 (i : Int)) = some (.pointer (some ⟨g, o + i * 1, none⟩)) := by
 rw [idxS_blk (by omega) (by omega), Int.toNat_natCast]
theorem ldR {i g o : Nat} {rows : List ISl} (hi : i < rows.length) (h : St W0 L W) [hr : Rd W0 L (some ⟨g, o, none⟩) ISY rows] {k : Value → World → Prop} (hk : k rows[i].v W) : rdK PR (Instr.loadAt T_s_int (.pointer (some ⟨g, o + i * 1, none⟩))) k W :=
 ldA0 (i := i) (l := rows) (A := ISY) h rfl hi (v := rows[i].v) rfl (by simp) hk
theorem row_at {rows : List ISl} {i : Nat} (hi : i < rows.length) : rows[i].l = (rows.map (·.l)).getD i [] := by
 rw [List.getD_eq_getElem?_getD, List.getElem?_map, List.getElem?_eq_getElem hi]; rfl
theorem li_make {m : Nat} (h : St W0 (arr ISY T_s_int a c (List.replicate m (⟨none, 0, []⟩ : ISl)) :: L) W) : St W0 (LI a c (List.replicate m []) :: L) W :=
 (h.ent (ent.cons _ (many_none m))).ent (li_ent (by simp))
set_option maxRecDepth 100000 in
set_option maxHeartbeats 4000000 in
theorem ordTie (h00 : W0.drawn = 0) (hO : OnOk on on.length) (hn : on.length ≤ 1000) (hrl : ∀ v, (rowOf on v).length < 1000000) {k : Value → World → Prop} (h : St W0 (LI a c on :: L) W)
  (hk : ∀ p ag cg aw cw ab cb W', St W0 (cells p [.slice ag (allOf on).length cg, .slice aw (allOf on).length cw, .slice ab (allOf on).length cb] T_order_tied :: LI ag cg (allOf on) :: arr I64 T_int aw cw (tieOf on).1 :: LI ab cb (tieOf on).2 :: LI a c on :: L) W' →
   k (.pointer (some ⟨p, 0, none⟩)) W') : callK PR F_order_tie [.slice a on.length c] k W := by
 apply S.order_tie.call
 unfold S.order_tie.body
 have hG := groups_grp hO
 refine ordGroups h00 hO hn hrl h fun ag cg W1 h => ?_
 have hgl : (groupsF on).length = (allOf on).length := (sortHd_perm _).length_eq.symm
 have hall := all_len hO
 refine ordSortHd h (fun g hg => (hG.gok g hg).1) hG.nd (by omega) fun W2 h => ?_
 rw [hgl]
 have hp := allOf_prt hO
 have hp' := hp
 have h : St W0 (LI ag cg (allOf on) :: LI a c on :: L) W2 := h
 unfold tieOf at hk
 generalize allOf on = all at *
 obtain ⟨rg, hrg, h⟩ := li_at h
 obtain ⟨rows, hrows, h⟩ := li_at (St.wk (L' := LI a c on :: arr ISY T_s_int ag cg rg :: many ich rg :: L) h)
 have hrgl : rg.length = all.length := by rw [← hrg, List.length_map]
 have hrn : rows.length = on.length := by rw [← hrows, List.length_map]
 (repeat simp -implicitDefEqProofs only [SE, SU, SV])
 refine mkZ (by first | assumption | exact St.tick (by assumption) | exact St.tick (St.tick (by assumption))) (by omega) fun ao co W3 h => ?_
 refine joinK_i ?_
 skip
 have h : St W0 (arr I64 T_int ao co (ofF all on.length 0) :: arr ISY T_s_int a c rows :: many ich rows :: arr ISY T_s_int ag cg rg :: many ich rg :: L) W3 := h
 refine loop_c (σ := Unit) all.length (fun i _ => [.slice a on.length c, .slice ag all.length cg, .slice ao on.length co, .slice ag all.length cg, .int .i64 all.length, .int .i64 (i : Int)])
  (fun i _ W1 => St W0 (arr I64 T_int ao co (ofF all on.length i) :: arr ISY T_s_int a c rows :: many ich rows :: arr ISY T_s_int ag cg rg :: many ich rg :: L) W1) () rfl h ?_
 clear h
 rintro K i _ W4 hi h hK
 simp -implicitDefEqProofs only [SE, SU, SV]
 unfold S.order_tie.l4
 have hof := ofF_at hp i hi
 by_cases hlt : (i : Int) < (all.length : Int)
 ·have hib : i < all.length := by omega
  have hir : i < rg.length := by omega
  have ew : IntKind.i64.wrap ((i : Int) + 1) = ((i + 1 : Nat) : Int) := by rw [i64w]; omega
  have e : ofF all on.length (i + 1) = ofStep all (ofF all on.length i) i := by unfold ofF; rw [List.range_succ, List.foldl_append]; rfl
  have hrow := row_at hir
  rw [hrg] at hrow
  have hvs : ∀ v ∈ all.getD i [], Vx on.length v := fun v hv => (hp.mem v).1 (memFlat hv)
  have hlen : (all.getD i []).length ≤ on.length := nodup_len ((List.Sublist.nodup · hp.nd) (by
   rw [List.getD_eq_getElem?_getD, List.getElem?_eq_getElem hib]; exact List.sublist_flatten_of_mem (List.getElem_mem hib))) hvs
  unfold ofStep at e
  generalize ofF all on.length i = o at *
  have hmem : rg[i] ∈ rg := List.getElem_mem hir
  obtain ⟨gg, og, e1⟩ := posAddr (i := i) (a := ag) (A := ISY) (l := rg) h hir
  subst e1
  rw [← hrow] at e hvs hlen
  (repeat simp -implicitDefEqProofs only [SE, SU, SV, hlt])
  refine joinK_i ?_
  (repeat simp -implicitDefEqProofs only [SE, SU, SV, ix2 hib])
  refine ldR hir (by first | assumption | exact St.tick (by assumption) | exact St.tick (St.tick (by assumption))) ?_
  generalize rg[i] = x at *
  obtain ⟨xa, xc, xl⟩ := x
  simp only at e hvs hlen
  haveI hrd := ich_rd (W0 := W0) (L := L) hmem
  (repeat simp -implicitDefEqProofs only [SE, SU, SV])
  refine loop_c (σ := Unit) xl.length (fun j _ => [.slice a on.length c, .slice (some ⟨gg, og, none⟩) all.length cg, .slice ao on.length co, .int .i64 (i : Int), .slice (some ⟨gg, og, none⟩) all.length cg, .int .i64 all.length, .int .i64 (i : Int), .slice xa xl.length xc, .int .i64 xl.length, .int .i64 (j : Int)])
   (fun j _ W1 => St W0 (arr I64 T_int ao co ((xl.take j).foldl (fun o v => o.set v.toNat (i : Int)) o) :: arr ISY T_s_int a c rows :: many ich rows :: arr ISY T_s_int (some ⟨gg, og, none⟩) cg rg :: many ich rg :: L) W1) () rfl h ?_
  clear h
  rintro K2 j _ W5 hj h hK2
  simp -implicitDefEqProofs only [SE, SU, SV]
  unfold S.order_tie.l5
  by_cases hlt2 : (j : Int) < (xl.length : Int)
  ·have hjb : j < xl.length := by omega
   have ew2 : IntKind.i64.wrap ((j : Int) + 1) = ((j + 1 : Nat) : Int) := by rw [i64w]; omega
   have hvx := hvs xl[j] (List.getElem_mem hjb)
   have hvn : xl[j].toNat < on.length := by unfold Vx at hvx; omega
   have hol := (setAll (xl.take j) o (i : Int) hof.1 fun v hv => hvs v (List.mem_of_mem_take hv)).1
   have htk : (xl.take (j + 1)).foldl (fun o v => o.set v.toNat (i : Int)) o = ((xl.take j).foldl (fun o v => o.set v.toNat (i : Int)) o).set xl[j].toNat (i : Int) := by rw [List.take_succ_eq_append_getElem hjb, List.foldl_append]; rfl
   generalize (xl.take j).foldl (fun o v => o.set v.toNat (i : Int)) o = o2 at *
   obtain ⟨gx, ox, e2⟩ := posAddr (i := j) (a := xa) (A := I64) (l := xl) h hjb
   obtain ⟨gf, of_, e3⟩ := posAddr (i := xl[j].toNat) (a := ao) (A := I64) (l := o2) h (by rw [hol]; exact hvn)
   subst e2 e3
   (repeat simp -implicitDefEqProofs only [SE, SU, SV, hlt2, ix2 hjb])
   refine ldA0 (i := j) (l := xl) (A := I64) (by first | assumption | exact St.tick (by assumption) | exact St.tick (St.tick (by assumption))) rfl hjb (v := .int .i64 xl[j]) rfl (by simp) ?_
   (repeat simp -implicitDefEqProofs only [SE, SU, SV, ix1 hvx])
   refine stG (i := xl[j].toNat) (l := o2) (by rw [hol]; exact hvn) (by first | assumption | exact St.tick (by assumption) | exact St.tick (St.tick (by assumption))) fun W6 h => ?_
   (repeat simp -implicitDefEqProofs only [SE, SU, SV, ew2])
   rw [← htk] at h
   exact hK2 () _ hjb h
  ·have hjl : j = xl.length := by omega
   subst hjl
   rw [List.take_length, ← e] at h
   (repeat simp -implicitDefEqProofs only [SE, SU, SV, hlt2])
   unfold S.order_tie.j7
   (repeat simp -implicitDefEqProofs only [SE, SU, SV, ew])
   exact hK () _ hib h
 ·have hil : i = all.length := by omega
  subst hil
  (repeat simp -implicitDefEqProofs only [SE, SU, SV, hlt])
  unfold S.order_tie.j1
  have hox := fun u (hu : Vx on.length u) => of_vx hp hu
  have hol := hof.1
  generalize ofF all on.length all.length = of at *
  clear hof
  have h1000 : all.length ≤ 1000000 := by omega
  have hto : ∀ g, g < all.length → ∀ v ∈ all.getD g [], ∀ u ∈ rowOf on v, Vx all.length (of.getD u.toNat 0) := fun g _ v _ u hu => hox u (hO.rng v u hu)
  have key : ∀ (p : Nat) (aw ab : Option Addr) (cw cb : Nat) (W : World), St W0 (cells p [.slice ag all.length cg, .slice aw all.length cw, .slice ab all.length cb] T_order_tied :: arr I64 T_int aw cw (List.replicate all.length 0) :: LI ab cb (List.replicate all.length []) ::
    arr I64 T_int ao co of :: arr ISY T_s_int a c rows :: many ich rows :: arr ISY T_s_int ag cg rg :: many ich rg :: L) W → S.order_tie.j2 k (.slice a on.length c) (.slice ag all.length cg) (.slice ao on.length co) (.pointer (some ⟨p, 0, none⟩)) W := by
   clear h
   intro p aw ab cw cb W h
   unfold S.order_tie.j2
   refine joinK_i ?_
   (repeat simp -implicitDefEqProofs only [SE, SU, SV])
   refine loop_c (σ := Unit) all.length (fun i _ => [.slice a on.length c, .slice ag all.length cg, .slice ao on.length co, .pointer (some ⟨p, 0, none⟩), .slice ag all.length cg, .int .i64 all.length, .int .i64 (i : Int)])
    (fun i _ W1 => St W0 (cells p [.slice ag all.length cg, .slice aw all.length cw, .slice ab all.length cb] T_order_tied :: arr I64 T_int aw cw (tieF on of all i).1 :: LI ab cb (tieF on of all i).2 ::
     arr I64 T_int ao co of :: arr ISY T_s_int a c rows :: many ich rows :: arr ISY T_s_int ag cg rg :: many ich rg :: L) W1) () rfl h ?_
   clear h
   rintro K i _ W1 hi h hK
   simp -implicitDefEqProofs only [SE, SU, SV]
   unfold S.order_tie.l1
   have hTW := tieF_tw hto i hi
   by_cases hlt : (i : Int) < (all.length : Int)
   ·have hib : i < all.length := by omega
    have hir : i < rg.length := by omega
    have ew : IntKind.i64.wrap ((i : Int) + 1) = ((i + 1 : Nat) : Int) := by rw [i64w]; omega
    have e : tieF on of all (i + 1) = tieG on of all (tieF on of all i) i := by unfold tieF; rw [List.range_succ, List.foldl_append]; rfl
    have hrow := row_at hir
    rw [hrg] at hrow
    have hvs : ∀ v ∈ all.getD i [], Vx on.length v := fun v hv => (hp'.mem v).1 (memFlat hv)
    have hlen : (all.getD i []).length ≤ on.length := nodup_len ((List.Sublist.nodup · hp'.nd) (by
     rw [List.getD_eq_getElem?_getD, List.getElem?_eq_getElem hib]; exact List.sublist_flatten_of_mem (List.getElem_mem hib))) hvs
    generalize tieF on of all i = wb at *
    obtain ⟨w0, b0⟩ := wb
    have hst := (start_ti (w0 := w0) (b0 := b0) hib hTW.lw hTW.lb).1
    have hmem : rg[i] ∈ rg := List.getElem_mem hir
    obtain ⟨gg, og, e1⟩ := posAddr (i := i) (a := ag) (A := ISY) (l := rg) h hir
    subst e1
    unfold tieG at e
    rw [← hrow] at e hvs hlen
    have hvm : ∀ v ∈ rg[i].l, ∀ u ∈ rowOf on v, Vx all.length (of.getD u.toNat 0) := fun v _ u hu => hox u (hO.rng v u hu)
    (repeat simp -implicitDefEqProofs only [SE, SU, SV, hlt])
    refine joinK_i ?_
    (repeat simp -implicitDefEqProofs only [SE, SU, SV, ix2 hib])
    refine ldR hir (by first | assumption | exact St.tick (by assumption) | exact St.tick (St.tick (by assumption))) ?_
    generalize rg[i] = x at *
    obtain ⟨xa, xc, xl⟩ := x
    simp only at e hvs hlen hvm
    haveI hrd := ich_rd (W0 := W0) (L := L) hmem
    (repeat simp -implicitDefEqProofs only [SE, SU, SV])
    refine mkB (by first | assumption | exact St.tick (by assumption) | exact St.tick (St.tick (by assumption))) (by omega) fun ah ch W2 h => ?_
    obtain ⟨gh, oh, e2⟩ := posAddr (i := i) (a := ah) (A := BOO) (l := List.replicate all.length false) h (by simpa using hib)
    subst e2
    (repeat simp -implicitDefEqProofs only [SE, SU, SV, ix2 hib])
    refine stGb (i := i) (m := List.replicate all.length false) (x := true) (by simpa using hib) (by first | assumption | exact St.tick (by assumption) | exact St.tick (St.tick (by assumption))) fun W3 h => ?_
    skip
    have h := St.wk (L' := arr BOO T_bool (some ⟨gh, oh, none⟩) ch ((List.replicate all.length false).set i true) :: arr I64 T_int aw cw w0 :: LI ab cb b0 ::
     cells p [.slice (some ⟨gg, og, none⟩) all.length cg, .slice aw all.length cw, .slice ab all.length cb] T_order_tied ::
     arr I64 T_int ao co of :: arr ISY T_s_int a c rows :: many ich rows :: arr ISY T_s_int (some ⟨gg, og, none⟩) cg rg :: many ich rg :: L) (by first | assumption | exact St.tick (by assumption) | exact St.tick (St.tick (by assumption)))
    generalize hs0 : (⟨(List.replicate all.length false).set i true, w0, b0⟩ : TS) = s0 at *
    refine loop_c (σ := Unit) xl.length (fun j _ => [.slice a on.length c, .slice (some ⟨gg, og, none⟩) all.length cg, .slice ao on.length co, .pointer (some ⟨p, 0, none⟩), .int .i64 (i : Int), .slice (some ⟨gh, oh, none⟩) all.length ch, .slice (some ⟨gg, og, none⟩) all.length cg, .int .i64 all.length, .int .i64 (i : Int), .slice xa xl.length xc, .int .i64 xl.length, .int .i64 (j : Int)])
     (fun j _ W1 => St W0 (arr BOO T_bool (some ⟨gh, oh, none⟩) ch ((xl.take j).foldl (tieV on of i) s0).had :: arr I64 T_int aw cw ((xl.take j).foldl (tieV on of i) s0).waits :: LI ab cb ((xl.take j).foldl (tieV on of i) s0).back ::
     cells p [.slice (some ⟨gg, og, none⟩) all.length cg, .slice aw all.length cw, .slice ab all.length cb] T_order_tied ::
     arr I64 T_int ao co of :: arr ISY T_s_int a c rows :: many ich rows :: arr ISY T_s_int (some ⟨gg, og, none⟩) cg rg :: many ich rg :: L) W1) () rfl (by subst hs0; exact h) ?_
    clear h
    rintro K2 j _ W5 hj h hK2
    simp -implicitDefEqProofs only [SE, SU, SV]
    unfold S.order_tie.l2
    have hT1 := (tieVs_ti (on := on) (of := of) hib (xl.take j) s0 hst (fun v hv => hvm v (List.mem_of_mem_take hv))).1
    by_cases hlt2 : (j : Int) < (xl.length : Int)
    ·have hjb : j < xl.length := by omega
     have ew2 : IntKind.i64.wrap ((j : Int) + 1) = ((j + 1 : Nat) : Int) := by rw [i64w]; omega
     have hvx := hvs xl[j] (List.getElem_mem hjb)
     have hvn : xl[j].toNat < on.length := by unfold Vx at hvx; omega
     have hvr : xl[j].toNat < rows.length := by omega
     have htk : (xl.take (j + 1)).foldl (tieV on of i) s0 = (rowOf on xl[j]).foldl (fun s u => tieU i (of.getD u.toNat 0) s) ((xl.take j).foldl (tieV on of i) s0) := by rw [List.take_succ_eq_append_getElem hjb, List.foldl_append]; rfl
     have hum := hvm xl[j] (List.getElem_mem hjb)
     have hyx := hO.rng xl[j]
     have hro : rowOf on xl[j] = rows[xl[j].toNat].l := by unfold rowOf; rw [row_at hvr, hrows]
     have hul := hrl xl[j]
     rw [hro] at htk hum hul hyx
     have hmr : rows[xl[j].toNat] ∈ rows := List.getElem_mem hvr
     generalize (xl.take j).foldl (tieV on of i) s0 = s1 at *
     obtain ⟨gx, ox, e2⟩ := posAddr (i := j) (a := xa) (A := I64) (l := xl) h hjb
     obtain ⟨gr, or', e3⟩ := posAddr (i := xl[j].toNat) (a := a) (A := ISY) (l := rows) h hvr
     subst e2 e3
     (repeat simp -implicitDefEqProofs only [SE, SU, SV, hlt2])
     refine joinK_i ?_
     (repeat simp -implicitDefEqProofs only [SE, SU, SV, ix2 hjb])
     refine ldA0 (i := j) (l := xl) (A := I64) (by first | assumption | exact St.tick (by assumption) | exact St.tick (St.tick (by assumption))) rfl hjb (v := .int .i64 xl[j]) rfl (by simp) ?_
     (repeat simp -implicitDefEqProofs only [SE, SU, SV, ix1 hvx])
     refine ldR hvr (by first | assumption | exact St.tick (by assumption) | exact St.tick (St.tick (by assumption))) ?_
     generalize rows[xl[j].toNat] = y at *
     obtain ⟨ya, yc, yl⟩ := y
     simp only at htk hum hul hyx
     haveI hrd2 := ich_rd (W0 := W0) (L := arr ISY T_s_int (some ⟨gg, og, none⟩) cg rg :: many ich rg :: L) hmr
     (repeat simp -implicitDefEqProofs only [SE, SU, SV])
     refine loop_c (σ := Unit) yl.length (fun q _ => [.slice (some ⟨gr, or', none⟩) on.length c, .slice (some ⟨gg, og, none⟩) all.length cg, .slice ao on.length co, .pointer (some ⟨p, 0, none⟩), .int .i64 (i : Int), .slice (some ⟨gh, oh, none⟩) all.length ch, .slice (some ⟨gg, og, none⟩) all.length cg, .int .i64 all.length, .int .i64 (i : Int), .slice (some ⟨gx, ox, none⟩) xl.length xc, .int .i64 xl.length, .int .i64 (j : Int), .slice ya yl.length yc, .int .i64 yl.length, .int .i64 (q : Int)])
      (fun q _ W1 => St W0 (arr BOO T_bool (some ⟨gh, oh, none⟩) ch ((yl.take q).foldl (fun s u => tieU i (of.getD u.toNat 0) s) s1).had :: arr I64 T_int aw cw ((yl.take q).foldl (fun s u => tieU i (of.getD u.toNat 0) s) s1).waits :: LI ab cb ((yl.take q).foldl (fun s u => tieU i (of.getD u.toNat 0) s) s1).back ::
      cells p [.slice (some ⟨gg, og, none⟩) all.length cg, .slice aw all.length cw, .slice ab all.length cb] T_order_tied ::
      arr I64 T_int ao co of :: arr ISY T_s_int (some ⟨gr, or', none⟩) c rows :: many ich rows :: arr ISY T_s_int (some ⟨gg, og, none⟩) cg rg :: many ich rg :: L) W1) () rfl h ?_
     clear h
     rintro K3 q _ W6 hq h hK3
     simp -implicitDefEqProofs only [SE, SU, SV]
     unfold S.order_tie.l3
     have hT2 := (tieUs_ti (of := of) hib (yl.take q) s1 hT1 (fun u hu => hum u (List.mem_of_mem_take hu))).1
     by_cases hlt3 : (q : Int) < (yl.length : Int)
     ·have hqb : q < yl.length := by omega
      have ew3 : IntKind.i64.wrap ((q : Int) + 1) = ((q + 1 : Nat) : Int) := by rw [i64w]; omega
      have htk3 : (yl.take (q + 1)).foldl (fun s u => tieU i (of.getD u.toNat 0) s) s1 = tieU i (of.getD yl[q].toNat 0) ((yl.take q).foldl (fun s u => tieU i (of.getD u.toNat 0) s) s1) := by rw [List.take_succ_eq_append_getElem hqb, List.foldl_append]; rfl
      have hkx := hum yl[q] (List.getElem_mem hqb)
      have hux : Vx on.length yl[q] := hyx yl[q] (List.getElem_mem hqb)
      have hun : yl[q].toNat < of.length := by unfold Vx at hux; omega
      generalize (yl.take q).foldl (fun s u => tieU i (of.getD u.toNat 0) s) s1 = s2 at *
      obtain ⟨gy, oy, e2⟩ := posAddr (i := q) (a := ya) (A := I64) (l := yl) h hqb
      obtain ⟨gf, of_, e3⟩ := posAddr (i := yl[q].toNat) (a := ao) (A := I64) (l := of) h hun
      subst e2 e3
      (repeat simp -implicitDefEqProofs only [SE, SU, SV, hlt3])
      refine joinK_i ?_
      (repeat simp -implicitDefEqProofs only [SE, SU, SV, ix2 hqb])
      refine ldA0 (i := q) (l := yl) (A := I64) (by first | assumption | exact St.tick (by assumption) | exact St.tick (St.tick (by assumption))) rfl hqb (v := .int .i64 yl[q]) rfl (by simp) ?_
      (repeat simp -implicitDefEqProofs only [SE, SU, SV, ix1 hux])
      refine ldG (i := yl[q].toNat) (l := of) hun (by first | assumption | exact St.tick (by assumption) | exact St.tick (St.tick (by assumption))) ?_
      generalize of.getD yl[q].toNat 0 = kk at *
      have hkn : kk.toNat < all.length := by unfold Vx at hkx; omega
      (repeat simp -implicitDefEqProofs only [SE, SU, SV, ix1 hkx])
      refine ldGb (i := kk.toNat) (m := s2.had) (by rw [hT2.lh]; exact hkn) (by first | assumption | exact St.tick (by assumption) | exact St.tick (St.tick (by assumption))) ?_
      by_cases hh : s2.had.getD kk.toNat false = true
      ·have et : tieU i kk s2 = s2 := by unfold tieU; rw [if_pos hh]
       rw [et] at htk3
       rw [hh]
       (repeat simp -implicitDefEqProofs only [SE, SU, SV])
       unfold S.order_tie.j6
       (repeat simp -implicitDefEqProofs only [SE, SU, SV, ew3])
       refine hK3 () _ hqb ?_
       rw [htk3]; exact St.wk (by first | assumption | exact St.tick (by assumption) | exact St.tick (St.tick (by assumption)))
      ·have hhf : s2.had.getD kk.toNat false = false := Bool.eq_false_iff.2 hh
       have et : tieU i kk s2 = ⟨s2.had.set kk.toNat true, s2.waits.set i (s2.waits.getD i 0 + 1), s2.back.set kk.toNat (s2.back.getD kk.toNat [] ++ [(i : Int)])⟩ := by unfold tieU; rw [if_neg hh]
       rw [et] at htk3
       have hwb : 0 ≤ s2.waits.getD i 0 ∧ s2.waits.getD i 0 ≤ 1000 := by
        rw [hT2.ws i, if_pos rfl, hTW.ws i, if_neg (by omega)]
        have := cntR_nonneg all.length fun k => decide (k ≠ i) && s2.had.getD k false
        omega
       have ew4 : IntKind.i64.wrap (s2.waits.getD i 0 + 1) = s2.waits.getD i 0 + 1 := by rw [i64w]; omega
       have hbl : (s2.back.getD kk.toNat []).length ≤ 1000 := by
        rw [hT2.bs, hTW.bs _ hkn, List.length_append, List.length_map]
        have h1 := List.length_filter_le (fun j => decide (kk.toNat ≠ j) && hng on of all j kk.toNat) (List.range i)
        rw [List.length_range] at h1
        have h2 : (if kk.toNat ≠ i ∧ s2.had.getD kk.toNat false = true then [(i : Int)] else []).length ≤ 1 := by split <;> simp
        omega
       obtain ⟨gw, ow, e4⟩ := posAddr (i := i) (a := aw) (A := I64) (l := s2.waits) (by first | assumption | exact St.tick (by assumption) | exact St.tick (St.tick (by assumption))) (by rw [hT2.lw]; exact hib)
       subst e4
       rw [hhf]
       (repeat simp -implicitDefEqProofs only [SE, SU, SV])
       refine stGb (i := kk.toNat) (m := s2.had) (x := true) (by rw [hT2.lh]; exact hkn) (by first | assumption | exact St.tick (by assumption) | exact St.tick (St.tick (by assumption))) fun W7 h => ?_
       (repeat (first | ((with_reducible refine v5 ?_); refine ⟨_, rfl, ?_⟩) | simp -implicitDefEqProofs only [SE, SU, SV, ix2 hib]))
       refine ldG (i := i) (l := s2.waits) (by rw [hT2.lw]; exact hib) (by first | assumption | exact St.tick (by assumption) | exact St.tick (St.tick (by assumption))) ?_
       (repeat simp -implicitDefEqProofs only [SE, SU, SV, ew4, ix2 hib])
       refine stG (i := i) (l := s2.waits) (by rw [hT2.lw]; exact hib) (by first | assumption | exact St.tick (by assumption) | exact St.tick (St.tick (by assumption))) fun W8 h => ?_
       obtain ⟨rb, hrb, h⟩ := li_at (St.wk (L' := LI ab cb s2.back :: arr BOO T_bool (some ⟨gh, oh, none⟩) ch (s2.had.set kk.toNat true) :: arr I64 T_int (some ⟨gw, ow, none⟩) cw (s2.waits.set i (s2.waits.getD i 0 + 1)) ::
        cells p [.slice (some ⟨gg, og, none⟩) all.length cg, .slice (some ⟨gw, ow, none⟩) all.length cw, .slice ab all.length cb] T_order_tied ::
        arr I64 T_int (some ⟨gf, of_, none⟩) co of :: arr ISY T_s_int (some ⟨gr, or', none⟩) c rows :: many ich rows :: arr ISY T_s_int (some ⟨gg, og, none⟩) cg rg :: many ich rg :: L) (by first | assumption | exact St.tick (by assumption) | exact St.tick (St.tick (by assumption))))
       have hbn : rb.length = all.length := by rw [← hT2.lb, ← hrb, List.length_map]
       have hkb : kk.toNat < rb.length := by omega
       have hvi : s2.back.getD kk.toNat [] = rb[kk.toNat].l := by rw [row_at hkb, hrb]
       rw [hvi] at hbl htk3
       have h := h.ent (ent.cons _ (ich_pick rb hkb))
       obtain ⟨gb, ob, e5⟩ := posAddr (i := kk.toNat) (a := ab) (A := ISY) (l := rb) h hkb
       subst e5
       (repeat (first | ((with_reducible refine v5 ?_); refine ⟨_, rfl, ?_⟩) | simp -implicitDefEqProofs only [SE, SU, SV, ix1 hkx]))
       refine ldR hkb (by first | assumption | exact St.tick (by assumption) | exact St.tick (St.tick (by assumption))) ?_
       refine bsA I64 [(i : Int)] (n := 1) (by first | assumption | exact St.tick (by assumption) | exact St.tick (St.tick (by assumption))) rfl rfl (by decide) (by decide) rfl fun a5 c5 W9 h => ?_
       refine stb_ldA0 (i := kk.toNat) (l := rb) (A := ISY) h rfl hkb (v := rb[kk.toNat].v) rfl (by simp) ?_
       (repeat (first | ((with_reducible refine stb_n ?_); intros) | ((with_reducible refine v8 ?_ ?_); exact rfl; intros)))
       refine appA (A := I64) (a := rb[kk.toNat].a) (l := rb[kk.toNat].l) (m := [(i : Int)]) (by first | assumption | exact St.tick (by assumption) | exact St.tick (St.tick (by assumption))) rfl (by simp only [List.length_cons, List.length_nil]; omega) (by simp only [List.length_cons, List.length_nil, maxLen]; omega) fun a6 c6 W10 h => ?_
       (repeat (first | ((with_reducible refine stb_n ?_); intros) | ((with_reducible refine v8 ?_ ?_); exact rfl; intros)))
       have h := St.wk (L' := arr ISY T_s_int (some ⟨gb, ob, none⟩) cb rb :: ich ⟨a6, c6, rb[kk.toNat].l ++ [(i : Int)]⟩ :: many ich (rb.take kk.toNat ++ rb.drop (kk.toNat + 1)) :: arr BOO T_bool (some ⟨gh, oh, none⟩) ch (s2.had.set kk.toNat true) :: arr I64 T_int (some ⟨gw, ow, none⟩) cw (s2.waits.set i (s2.waits.getD i 0 + 1)) ::
        cells p [.slice (some ⟨gg, og, none⟩) all.length cg, .slice (some ⟨gw, ow, none⟩) all.length cw, .slice (some ⟨gb, ob, none⟩) all.length cb] T_order_tied ::
        arr I64 T_int (some ⟨gf, of_, none⟩) co of :: arr ISY T_s_int (some ⟨gr, or', none⟩) c rows :: many ich rows :: arr ISY T_s_int (some ⟨gg, og, none⟩) cg rg :: many ich rg :: L) (by first | assumption | exact St.tick (by assumption) | exact St.tick (St.tick (by assumption)))
       refine stA (i := kk.toNat) (x := (⟨a6, c6, rb[kk.toNat].l ++ [(i : Int)]⟩ : ISl)) (l := rb) (A := ISY) h rfl hkb rfl fun W11 h => ?_
       have h := (h.ent (ent.cons _ (ich_place rb hkb ⟨a6, c6, rb[kk.toNat].l ++ [(i : Int)]⟩))).ent (li_ent (vs := s2.back.set kk.toNat (rb[kk.toNat].l ++ [(i : Int)])) (by rw [List.map_set, hrb]))
       unfold S.order_tie.j6
       (repeat simp -implicitDefEqProofs only [SE, SU, SV, ew3])
       refine hK3 () _ hqb ?_
       rw [htk3]; exact St.wk h
     ·have hql : q = yl.length := by omega
      subst hql
      rw [List.take_length, ← htk] at h
      (repeat simp -implicitDefEqProofs only [SE, SU, SV, hlt3])
      unfold S.order_tie.j5
      (repeat simp -implicitDefEqProofs only [SE, SU, SV, ew2])
      exact hK2 () _ hjb h
    ·have hjl : j = xl.length := by omega
     subst hjl
     rw [List.take_length] at h
     have e1 : (tieF on of all (i + 1)).1 = (xl.foldl (tieV on of i) s0).waits := congrArg Prod.fst e
     have e2 : (tieF on of all (i + 1)).2 = (xl.foldl (tieV on of i) s0).back := congrArg Prod.snd e
     rw [← e1, ← e2] at h
     (repeat simp -implicitDefEqProofs only [SE, SU, SV, hlt2])
     unfold S.order_tie.j4
     (repeat simp -implicitDefEqProofs only [SE, SU, SV, ew])
     exact hK () _ hib (St.wk h)
   ·have hil : i = all.length := by omega
    subst hil
    (repeat simp -implicitDefEqProofs only [SE, SU, SV, hlt])
    unfold S.order_tie.j3
    skip
    refine hk p ag cg aw cw ab cb _ ?_
    have h9 := St.wk (L' := arr ISY T_s_int a c rows :: many ich rows :: arr ISY T_s_int ag cg rg :: many ich rg :: cells p [.slice ag all.length cg, .slice aw all.length cw, .slice ab all.length cb] T_order_tied ::
     arr I64 T_int aw cw (tieF on of all all.length).1 :: LI ab cb (tieF on of all all.length).2 :: L) (by first | assumption | exact St.tick (by assumption) | exact St.tick (St.tick (by assumption)))
    have h9 := h9.ent (li_ent hrows)
    have h10 : St W0 (arr ISY T_s_int ag cg rg :: many ich rg :: LI a c on :: cells p [.slice ag all.length cg, .slice aw all.length cw, .slice ab all.length cb] T_order_tied ::
     arr I64 T_int aw cw (tieF on of all all.length).1 :: LI ab cb (tieF on of all all.length).2 :: L) _ := St.wk h9
    exact St.wk (h10.ent (li_ent hrg))
  refine joinK_i ?_
  (repeat simp -implicitDefEqProofs only [SE, SU, SV])
  refine ⟨?_, ?_⟩
  ·refine mkZ (by first | assumption | exact St.tick (by assumption) | exact St.tick (St.tick (by assumption))) h1000 fun aw cw W5 h => ?_
   refine mkS (A := ISY) (⟨none, 0, []⟩ : ISl) all.length h rfl rfl h1000 (by omega) fun ab cb W6 h => ?_
   rw [List.length_replicate]
   have h := li_make h
   (repeat (first | ((with_reducible refine w3 ?_); intros) | (refine okF_i (bldP_eq rfl) ?_; try simp only [BLS, SB, Nat.reduceAdd])))
   rename_i p W7 h
   (try simp only [BLS, SB, stL_a, stL_b, stL_c, List.append_nil, List.take_nil, List.drop_nil, Nat.reduceAdd] at h)
   exact key p aw ab cw cb _ (St.wk h)
  ·refine mkS (A := ISY) (⟨none, 0, []⟩ : ISl) all.length (by first | assumption | exact St.tick (by assumption) | exact St.tick (St.tick (by assumption))) rfl rfl h1000 (by omega) fun ab cb W6 h => ?_
   rw [List.length_replicate]
   have h := li_make h
   refine mkZ h h1000 fun aw cw W5 h => ?_
   (repeat (first | ((with_reducible refine w3 ?_); intros) | (refine okF_i (bldP_eq rfl) ?_; try simp only [BLS, SB, Nat.reduceAdd])))
   rename_i p W7 h
   (try simp only [BLS, SB, stL_a, stL_b, stL_c, List.append_nil, List.take_nil, List.drop_nil, Nat.reduceAdd] at h)
   exact key p aw ab cw cb _ (St.wk h)
end
end Go.Proofs.YtkjhccpanedccaaGreat
namespace Go.Proofs.YtkjhccpanedccaaGreat
set_option linter.unusedVariables false
set_option linter.unusedSimpArgs false
open Go Go.Eng Go.Tar Go.Sort
section
variable {W0 W : World} {L L' : List Asn} {a : Option Addr} {c n : Nat} {on gs : List (List Int)}
theorem indexN {l : List Int} {x : Int} (hn : n = l.length) (h : St W0 L W) [hr : Rd W0 L a I64 l] (hl : l.length < 1000000) {k : Value → World → Prop} (hk : ∀ W', St W0 L W' → k (.int .i64 (if x ∈ l then (l.idxOf x : Int) else -1)) W') : callK PR F_slices_Index_int_int [.slice a n c, .int .i64 x] k W := by
 subst hn; exact indexZ h hl hk
set_option maxRecDepth 100000 in
set_option maxHeartbeats 4000000 in
theorem ordLineI (h00 : W0.drawn = 0) (hO : OnOk on on.length) (hn : on.length ≤ 1000) (hrl : ∀ v, (rowOf on v).length < 1000000) {k : Value → World → Prop} (h : St W0 (LI a c on :: L) W)
  (hk : ∀ ao co W', St W0 (arr I64 T_int ao co (lineF on) :: LI a c on :: L) W' → k (.slice ao (lineF on).length co) W') : callK PR F_order_line [.slice a on.length c] k W := by
 apply S.order_line.call
 unfold S.order_line.body
 refine ordTie h00 hO hn hrl h fun p ag cg aw cw ab cb W1 h => ?_
 have hp := allOf_prt hO
 have hlaw := line_law hO
 have hvals := line_vals hO
 obtain ⟨hwl, hbl, hbk0⟩ := back_ok hO
 have hall := all_len hO
 unfold lineF at hk
 generalize allOf on = all at *
 generalize tieOf on = wb at *
 obtain ⟨w0, bk0⟩ := wb
 simp only at hlaw hvals hwl hbl hbk0 hk h
 obtain ⟨rg, hrg, h⟩ := li_at (St.wk (L' := LI ag cg all :: cells p [.slice ag all.length cg, .slice aw all.length cw, .slice ab all.length cb] T_order_tied :: arr I64 T_int aw cw w0 :: LI ab cb bk0 :: LI a c on :: L) h)
 obtain ⟨rb, hrb, h⟩ := li_at (St.wk (L' := LI ab cb bk0 :: cells p [.slice ag all.length cg, .slice aw all.length cw, .slice ab all.length cb] T_order_tied :: arr I64 T_int aw cw w0 :: arr ISY T_s_int ag cg rg :: many ich rg :: LI a c on :: L) h)
 have hrgl : rg.length = all.length := by rw [← hrg, List.length_map]
 have hrbl : rb.length = all.length := by rw [← hbl, ← hrb, List.length_map]
 refine joinK_i ?_
 (repeat (first | ((with_reducible refine v5 ?_); refine ⟨_, rfl, ?_⟩) | simp -implicitDefEqProofs only [SE, SU, SV]))
 have h := h.ent (arr_nil I64 T_int)
 refine loop_c (σ := Option Addr × Nat) all.length (fun i x => [.pointer (some ⟨p, 0, none⟩), .slice x.1 (lineI all bk0 w0 i).2.length x.2, .int .i64 all.length, .int .i64 (i : Int)])
  (fun i x W1 => (lineI all bk0 w0 i).2.length ≤ i * 1000 ∧ St W0 (arr I64 T_int x.1 x.2 (lineI all bk0 w0 i).2 :: cells p [.slice ag all.length cg, .slice aw all.length cw, .slice ab all.length cb] T_order_tied :: arr I64 T_int aw cw (lineI all bk0 w0 i).1 :: arr ISY T_s_int ab cb rb :: many ich rb ::
   arr ISY T_s_int ag cg rg :: many ich rg :: LI a c on :: L) W1) (none, 0) rfl ⟨by simp [lineI], St.wk (L' := arr I64 T_int none 0 [] :: cells p [.slice ag all.length cg, .slice aw all.length cw, .slice ab all.length cb] T_order_tied :: arr I64 T_int aw cw w0 :: arr ISY T_s_int ab cb rb :: many ich rb :: arr ISY T_s_int ag cg rg :: many ich rg :: LI a c on :: L) h⟩ ?_
 clear h
 rintro K i ⟨ao, co⟩ W4 hi ⟨hol, h⟩ hK
 simp only at h
 simp -implicitDefEqProofs only [SE, SU, SV]
 unfold S.order_line.l1
 obtain ⟨law1, law2, law3, law4⟩ := hlaw i hi
 by_cases hlt : (i : Int) < (all.length : Int)
 ·have hib : i < all.length := by omega
  have ew : IntKind.i64.wrap ((i : Int) + 1) = ((i + 1 : Nat) : Int) := by rw [i64w]; omega
  have hnx : lineI all bk0 w0 (i + 1) = lineS all bk0 (lineI all bk0 w0 i) := rfl
  have hvi := hvals i hi
  obtain ⟨hg1, hg2⟩ := law3 hib
  rw [← hg1] at hg2
  generalize lineI all bk0 w0 i = s at *
  obtain ⟨w, out⟩ := s
  simp only at law1 law2 hg1 hg2 h hvi hol
  unfold lineS at hnx
  simp only at hnx
  have hm0 : (0 : Int) ∈ w := by
   refine Classical.byContradiction fun hno => ?_
   have := List.idxOf_eq_length hno
   omega
  have hgr : w.idxOf 0 < rg.length := by omega
  have hgb : w.idxOf 0 < rb.length := by omega
  have hrow := row_at hgr
  have hrowb := row_at hgb
  rw [hrg] at hrow
  rw [hrb] at hrowb
  have hmg : rg[w.idxOf 0] ∈ rg := List.getElem_mem hgr
  have hmb : rb[w.idxOf 0] ∈ rb := List.getElem_mem hgb
  have hidx := idxZ_eq w 0 hm0
  have hbk := hbk0 (w.idxOf 0) hg2
  have hlen : (all.getD (w.idxOf 0) []).length ≤ 1000 := Nat.le_trans (nodup_len ((List.Sublist.nodup · hp.nd) (by
   rw [List.getD_eq_getElem?_getD, List.getElem?_eq_getElem hg2]; exact List.sublist_flatten_of_mem (List.getElem_mem hg2))) fun v hv => (hp.mem v).1 (memFlat hv)) hn
  rw [← hrow] at hnx hlen
  rw [← hrowb] at hnx hbk
  obtain ⟨gg, og, e1⟩ := posAddr (i := w.idxOf 0) (a := ag) (A := ISY) (l := rg) h hgr
  obtain ⟨gb, ob, e2⟩ := posAddr (i := w.idxOf 0) (a := ab) (A := ISY) (l := rb) h hgb
  obtain ⟨gw, ow, e3⟩ := posAddr (i := w.idxOf 0) (a := aw) (A := I64) (l := w) h (by omega)
  subst e1 e2 e3
  (repeat simp -implicitDefEqProofs only [SE, SU, SV, hlt])
  refine joinK_i ?_
  (repeat ((with_reducible refine v5 ?_); refine ⟨_, rfl, ?_⟩))
  refine indexN (l := w) (x := 0) law1.symm (by first | assumption | exact St.tick (by assumption) | exact St.tick (St.tick (by assumption))) (by omega) fun W5 h => ?_
  rw [hidx]
  generalize w.idxOf 0 = g at *
  (repeat (first | ((with_reducible refine v5 ?_); refine ⟨_, rfl, ?_⟩) | simp -implicitDefEqProofs only [SE, SU, SV, ix2 hg2]))
  refine stG (i := g) (l := w) (by omega) (by first | assumption | exact St.tick (by assumption) | exact St.tick (St.tick (by assumption))) fun W6 h => ?_
  (repeat (first | ((with_reducible refine v5 ?_); refine ⟨_, rfl, ?_⟩) | simp -implicitDefEqProofs only [SE, SU, SV, ix2 hg2]))
  refine ldR hgr (by first | assumption | exact St.tick (by assumption) | exact St.tick (St.tick (by assumption))) ?_
  generalize rg[g] = x at *
  obtain ⟨xa, xc, xl⟩ := x
  simp only at hnx hlen
  haveI hrd := ich_rd (W0 := W0) (L := LI a c on :: L) hmg
  refine appA (A := I64) (a := ao) (l := out) (m := xl) (by first | assumption | exact St.tick (by assumption) | exact St.tick (St.tick (by assumption))) rfl (by omega) (by simp only [maxLen]; omega) fun a6 c6 W7 h => ?_
  (repeat (first | ((with_reducible refine v5 ?_); refine ⟨_, rfl, ?_⟩) | simp -implicitDefEqProofs only [SE, SU, SV, ix2 hg2]))
  refine ldR hgb (by first | assumption | exact St.tick (by assumption) | exact St.tick (St.tick (by assumption))) ?_
  generalize rb[g] = y at *
  obtain ⟨ya, yc, yl⟩ := y
  simp only at hnx hbk
  haveI hrd2 := ich_rd (W0 := W0) (L := arr ISY T_s_int (some ⟨gg, og, none⟩) cg rg :: many ich rg :: LI a c on :: L) hmb
  (repeat simp -implicitDefEqProofs only [SE, SU, SV])
  have hyl : yl.length ≤ all.length := nodup_len hbk.1 hbk.2
  have hrec : ∀ j, j ≤ yl.length → (decF (w.set g (-1)) (yl.take j)).length = all.length ∧ ∀ q, (decF (w.set g (-1)) (yl.take j)).getD q 0 = (w.set g (-1)).getD q 0 - if (q : Int) ∈ yl.take j then 1 else 0 := fun j _ =>
   dec_at (m := all.length) (yl.take j) (w.set g (-1)) (hbk.1.sublist (List.take_sublist _ _)) (fun v hv => hbk.2 v (List.mem_of_mem_take hv)) (by simpa using law1)
  refine loop_c (σ := Unit) yl.length (fun j _ => [.pointer (some ⟨p, 0, none⟩), .slice a6 (out ++ xl).length c6, .int .i64 all.length, .int .i64 (i : Int), .slice ya yl.length yc, .int .i64 yl.length, .int .i64 (j : Int)])
   (fun j _ W1 => St W0 (arr I64 T_int (some ⟨gw, ow, none⟩) cw (decF (w.set g (-1)) (yl.take j)) :: arr I64 T_int a6 c6 (out ++ xl) :: cells p [.slice (some ⟨gg, og, none⟩) all.length cg, .slice (some ⟨gw, ow, none⟩) all.length cw, .slice (some ⟨gb, ob, none⟩) all.length cb] T_order_tied ::
    arr ISY T_s_int (some ⟨gb, ob, none⟩) cb rb :: many ich rb :: arr ISY T_s_int (some ⟨gg, og, none⟩) cg rg :: many ich rg :: LI a c on :: L) W1) () rfl (St.wk (L' := arr I64 T_int (some ⟨gw, ow, none⟩) cw (w.set g (-1)) :: arr I64 T_int a6 c6 (out ++ xl) :: cells p [.slice (some ⟨gg, og, none⟩) all.length cg, .slice (some ⟨gw, ow, none⟩) all.length cw, .slice (some ⟨gb, ob, none⟩) all.length cb] T_order_tied ::
    arr ISY T_s_int (some ⟨gb, ob, none⟩) cb rb :: many ich rb :: arr ISY T_s_int (some ⟨gg, og, none⟩) cg rg :: many ich rg :: LI a c on :: L) (by first | assumption | exact St.tick (by assumption) | exact St.tick (St.tick (by assumption)))) ?_
  clear h
  rintro K2 j _ W8 hj h hK2
  simp -implicitDefEqProofs only [SE, SU, SV]
  unfold S.order_line.l2
  obtain ⟨r1, r2⟩ := hrec j hj
  by_cases hlt2 : (j : Int) < (yl.length : Int)
  ·have hjb : j < yl.length := by omega
   have ew2 : IntKind.i64.wrap ((j : Int) + 1) = ((j + 1 : Nat) : Int) := by rw [i64w]; omega
   have hvx := hbk.2 yl[j] (List.getElem_mem hjb)
   have hvn : yl[j].toNat < all.length := by unfold Vx at hvx; omega
   have htk : decF (w.set g (-1)) (yl.take (j + 1)) = (decF (w.set g (-1)) (yl.take j)).set yl[j].toNat ((decF (w.set g (-1)) (yl.take j)).getD yl[j].toNat 0 - 1) := by
    rw [List.take_succ_eq_append_getElem hjb]; unfold decF; rw [List.foldl_append]; rfl
   have hval := r2 yl[j].toNat
   generalize decF (w.set g (-1)) (yl.take j) = w2 at *
   have hb2 : -3 ≤ w2.getD yl[j].toNat 0 ∧ w2.getD yl[j].toNat 0 ≤ 1000 := by
    rw [hval, getD_set (by rw [law1]; exact hg2)]
    have := hvi yl[j].toNat hvn
    constructor <;> split <;> split <;> omega
   have ew3 : IntKind.i64.wrap (w2.getD yl[j].toNat 0 - 1) = w2.getD yl[j].toNat 0 - 1 := by rw [i64w]; omega
   obtain ⟨gy, oy, e5⟩ := posAddr (i := j) (a := ya) (A := I64) (l := yl) h hjb
   subst e5
   (repeat simp -implicitDefEqProofs only [SE, SU, SV, hlt2, ix2 hjb])
   refine ldA0 (i := j) (l := yl) (A := I64) (by first | assumption | exact St.tick (by assumption) | exact St.tick (St.tick (by assumption))) rfl hjb (v := .int .i64 yl[j]) rfl (by simp) ?_
   (repeat (first | ((with_reducible refine v5 ?_); refine ⟨_, rfl, ?_⟩) | simp -implicitDefEqProofs only [SE, SU, SV, ix1 hvx]))
   refine ldG (i := yl[j].toNat) (l := w2) (by rw [r1]; exact hvn) (by first | assumption | exact St.tick (by assumption) | exact St.tick (St.tick (by assumption))) ?_
   (repeat simp -implicitDefEqProofs only [SE, SU, SV, ew3, ix1 hvx])
   refine stG (i := yl[j].toNat) (l := w2) (by rw [r1]; exact hvn) (by first | assumption | exact St.tick (by assumption) | exact St.tick (St.tick (by assumption))) fun W9 h => ?_
   (repeat simp -implicitDefEqProofs only [SE, SU, SV, ew2])
   rw [← htk] at h
   exact hK2 () _ hjb (St.wk h)
  ·have hjl : j = yl.length := by omega
   subst hjl
   rw [List.take_length] at h
   (repeat simp -implicitDefEqProofs only [SE, SU, SV, hlt2])
   unfold S.order_line.j2
   (repeat simp -implicitDefEqProofs only [SE, SU, SV, ew])
   have e1 : (lineI all bk0 w0 (i + 1)).1 = decF (w.set g (-1)) yl := congrArg Prod.fst hnx
   have e2 : (lineI all bk0 w0 (i + 1)).2 = out ++ xl := congrArg Prod.snd hnx
   rw [← e1, ← e2] at h
   rw [← e2]
   exact hK (a6, c6) _ hib ⟨by rw [e2, List.length_append]; omega, St.wk h⟩
 ·have hil : i = all.length := by omega
  subst hil
  (repeat simp -implicitDefEqProofs only [SE, SU, SV, hlt])
  unfold S.order_line.j1
  refine hk ao co _ ?_
  exact St.wk (by first | assumption | exact St.tick (by assumption) | exact St.tick (St.tick (by assumption)))
end
end Go.Proofs.YtkjhccpanedccaaGreat
namespace Go.Proofs.YtkjhccpanedccaaGreat
set_option linter.unusedVariables false
set_option linter.unusedSimpArgs false
open Go Go.Eng Go.Tar Go.Sort
def DoneF (C : Asn) (fv : Value) (q : Dot → Bool) : Prop :=
 ∀ (d : Dot) (W0 : World) (L : List Asn) (W : World) (k : Value → World → Prop), 0 ≤ d.rep → d.rep < 7 → St W0 (C :: L) W → (∀ W', St W0 (C :: L) W' → k (.bool (q d)) W') → vcK PR fv [KD d] k W
def kC (b3 b5 p : Nat) (fv : Value) (C : Asn) : Asn := sep [cells b3 [fv] T_t63, cells b5 [.pointer (some ⟨p, 0, none⟩)] T_p_order_web, C]
section
variable {W0 W : World} {L L' : List Asn} {C : Asn} {q : Dot → Bool} {p b3 b5 g : Nat} {caps : Array Value} {sl : List Ins}
set_option maxRecDepth 100000 in
set_option maxHeartbeats 4000000 in
theorem ordKept1 (hD : DoneF C (.func (.func g) #[] caps) q) {d : Dot} (h1 : 0 ≤ d.rep) (h2 : d.rep < 7) {k : Value → World → Prop} (h : St W0 (kC b3 b5 p (.func (.func g) #[] caps) C :: wb p sl :: L) W)
  (hk : ∀ W', St W0 (kC b3 b5 p (.func (.func g) #[] caps) C :: wb p sl :: L) W' → k (.bool ((plcO sl d).isSome || q d)) W') : callK PR F_order_kept_1 [KD d, .pointer (some ⟨b5, 0, none⟩), .pointer (some ⟨b3, 0, none⟩)] k W := by
 apply S.order_kept_1.call
 unfold S.order_kept_1.body
 have h : St W0 (cells b3 [.func (.func g) #[] caps] T_t63 :: cells b5 [.pointer (some ⟨p, 0, none⟩)] T_p_order_web :: C :: wb p sl :: L) W := h.flat
 obtain ⟨wa, wc, wr, h⟩ := wb_at (St.wk (L' := wb p sl :: cells b3 [.func (.func g) #[] caps] T_t63 :: cells b5 [.pointer (some ⟨p, 0, none⟩)] T_p_order_web :: C :: L) h)
 refine bxa h fun db W1 h => ?_
 (repeat (first | ((with_reducible refine v5 ?_); refine ⟨_, rfl, ?_⟩) | simp -implicitDefEqProofs only [SE, SU, SV]))
 refine lkpOk (K := KD) (z := .int .i64 0) d (by first | assumption | exact St.tick (by assumption) | exact St.tick (St.tick (by assumption))) ?_
 rw [plcO_mget]
 cases hp : plcO sl d with
 | some j =>
  rw [hp] at hk
  simp only [Option.map_some, Option.getD_some, Option.isSome_some]
  (repeat simp -implicitDefEqProofs only [SE, SU, SV])
  refine hk _ ?_
  have h5 := St.wk (L' := cells p [.slice wa sl.length wc, .map (some wr)] T_order_web :: arr INS T_order_Inst wa wc sl :: mp KD wr (plL sl) :: cells b3 [.func (.func g) #[] caps] T_t63 :: cells b5 [.pointer (some ⟨p, 0, none⟩)] T_p_order_web :: C :: L) (by first | assumption | exact St.tick (by assumption) | exact St.tick (St.tick (by assumption)))
  have h6 := h5.ent wb_ent
  have h7 := St.wk (L' := cells b3 [.func (.func g) #[] caps] T_t63 :: cells b5 [.pointer (some ⟨p, 0, none⟩)] T_p_order_web :: C :: wb p sl :: L) h6
  exact (h7.ent (ent.pack [_, _, _] _)).tick
 | none =>
  rw [hp] at hk
  simp only [Option.map_none, Option.getD_none, Option.isSome_none, Bool.false_or] at hk ⊢
  (repeat (first | ((with_reducible refine v5 ?_); refine ⟨_, rfl, ?_⟩) | simp -implicitDefEqProofs only [SE, SU, SV]))
  refine hD d W0 _ _ _ h1 h2 (St.wk (L' := C :: cells b3 [.func (.func g) #[] caps] T_t63 :: cells b5 [.pointer (some ⟨p, 0, none⟩)] T_p_order_web :: cells p [.slice wa sl.length wc, .map (some wr)] T_order_web :: arr INS T_order_Inst wa wc sl :: mp KD wr (plL sl) :: L) (by first | assumption | exact St.tick (by assumption) | exact St.tick (St.tick (by assumption)))) fun W2 h => ?_
  skip
  refine hk _ ?_
  have h5 := St.wk (L' := cells p [.slice wa sl.length wc, .map (some wr)] T_order_web :: arr INS T_order_Inst wa wc sl :: mp KD wr (plL sl) :: cells b3 [.func (.func g) #[] caps] T_t63 :: cells b5 [.pointer (some ⟨p, 0, none⟩)] T_p_order_web :: C :: L) (by first | assumption | exact St.tick (by assumption) | exact St.tick (St.tick (by assumption)))
  have h6 := h5.ent wb_ent
  have h7 := St.wk (L' := cells b3 [.func (.func g) #[] caps] T_t63 :: cells b5 [.pointer (some ⟨p, 0, none⟩)] T_p_order_web :: C :: wb p sl :: L) h6
  exact h7.ent (ent.pack [_, _, _] _)
theorem eachAll (q : Dot → Bool) : ∀ ds : List Dot, eachF (fun (_ : Unit) d => q d) (fun s _ => s) ds () = (ds.all q, ())
 | [] => rfl
 | d :: ds => by
  unfold eachF
  rw [eachAll q ds, List.all_cons]
  cases q d <;> simp
def lack0 (q : Dot → Bool) (sl : List Ins) (x : Ins) : Bool := !(depsL x).all fun d => (plcO sl d).isSome || q d
theorem ordKeptE (hD : DoneF C (.func (.func g) #[] caps) q) {i : Nat} {k : Value → World → Prop} (hi : i < sl.length) (hd : depsO sl[i] = true) (h : St W0 (kC b3 b5 p (.func (.func g) #[] caps) C :: wb p sl :: L) W)
  (hk : ∀ W', St W0 (kC b3 b5 p (.func (.func g) #[] caps) C :: wb p sl :: L) W' → k (.bool (!lack0 q sl sl[i])) W') :
  callK PR F_order_web_each [.pointer (some ⟨p, 0, none⟩), .int .i64 (i : Int), .func (.func F_order_kept_1) #[] #[.pointer (some ⟨b5, 0, none⟩), .pointer (some ⟨b3, 0, none⟩)]] k W := by
 refine ordEach (σ := Unit) (C := fun _ => kC b3 b5 p (.func (.func g) #[] caps) C) (q := fun _ d => (plcO sl d).isSome || q d) (t := fun s _ => s) (I := fun _ _ => True) (s := ()) (fun _ _ _ _ => trivial) trivial ?_ h hi hd fun W' h' => ?_
 ·rintro m _ d W k _ ⟨h1, h2⟩ _ h hk
  exact ⟨CBok _ (by kernel_rfl), ordKept1 hD h1 h2 h hk⟩
 ·rw [eachAll]
  have := hk W' h'
  rwa [lack0, Bool.not_not] at this
end
end Go.Proofs.YtkjhccpanedccaaGreat
namespace Go.Proofs.YtkjhccpanedccaaGreat
set_option linter.unusedVariables false
set_option linter.unusedSimpArgs false
open Go Go.Eng Go.Tar Go.Sort
section
variable {sl : List Ins} {n i : Nat} {on : List (List Int)} {lk : Nat → Bool} {b : List Bool} {td : List Int}
theorem plcO_some {d : Dot} {k : Nat} (h : plcO sl d = some k) : ∃ hk : k < sl.length, sl[k].d = d := by
 unfold plcO at h
 rw [List.findIdx?_eq_some_iff_getElem] at h
 obtain ⟨h1, h2, _⟩ := h
 exact ⟨h1, by simpa using h2⟩
theorem plcO_none {d : Dot} : plcO sl d = none ↔ ∀ x ∈ sl, x.d ≠ d := by
 unfold plcO
 rw [List.findIdx?_eq_none_iff]
 simp
theorem plcO_at (hn : (sl.map (·.d)).Nodup) {k : Nat} (hk : k < sl.length) : plcO sl sl[k].d = some k := by
 cases h : plcO sl sl[k].d with
 | none => exact absurd rfl (plcO_none.1 h _ (List.getElem_mem hk))
 | some j =>
  obtain ⟨h1, h2⟩ := plcO_some h
  have h3 := List.getElem_inj (h₀ := by simpa using h1) (h₁ := by simpa using hk) (i := j) (j := k) hn
  rw [h3.1 (by simpa using h2)]
theorem depsR_len (x : Ins) (r : Nat) (h : x.v.get r ≤ 1000) : (depsR x r).length ≤ 1000 := by
 unfold depsR
 refine Nat.le_trans (List.length_filter_le _ _) ?_
 simp; omega
theorem flatMap_len {α β : Type} (f : α → List β) (c : Nat) : ∀ l : List α, (∀ x ∈ l, (f x).length ≤ c) → (l.flatMap f).length ≤ l.length * c
 | [], _ => by simp
 | x :: l, h => by
  have h1 := flatMap_len f c l fun y hy => h y (by simp [hy])
  have h2 := h x (by simp)
  rw [List.flatMap_cons, List.length_append, List.length_cons, Nat.succ_mul]; omega
theorem depsL_len {x : Ins} (hx : depsO x = true) : (depsL x).length ≤ 7000 := by
 have := flatMap_len (depsR x) 1000 (List.range 7) fun r hr => depsR_len x r ((depsO_iff x).1 hx r (List.mem_range.1 hr)).2
 rw [List.length_range] at this
 exact this
theorem onRow_at (sl : List Ins) {i : Nat} (hi : i < sl.length) : rowOf (onL sl) (i : Int) = onRow sl sl[i] := by
 unfold rowOf onL
 rw [Int.toNat_natCast, List.getD_eq_getElem?_getD, List.getElem?_map, List.getElem?_eq_getElem hi]; rfl
theorem onRow_mem {x : Ins} {u : Int} : u ∈ onRow sl x ↔ ∃ d ∈ depsL x, ∃ k : Nat, plcO sl d = some k ∧ (k : Int) = u := by
 unfold onRow
 simp only [List.mem_filterMap, Option.map_eq_some_iff]
theorem onL_ok (sl : List Ins) : OnOk (onL sl) sl.length where
 len := by simp [onL]
 rng v u hu := by
  unfold rowOf onL at hu
  rw [List.getD_eq_getElem?_getD, List.getElem?_map] at hu
  cases he : sl[v.toNat]? with
  | none => rw [he] at hu; cases hu
  | some x =>
   rw [he] at hu
   obtain ⟨d, _, k, hk, rfl⟩ := onRow_mem.1 (show u ∈ onRow sl x from hu)
   obtain ⟨h1, _⟩ := plcO_some hk
   unfold Vx; omega
theorem onL_rl (hd : ∀ x ∈ sl, depsO x = true) (v : Int) : (rowOf (onL sl) v).length ≤ 7000 := by
 unfold rowOf onL
 rw [List.getD_eq_getElem?_getD, List.getElem?_map]
 cases he : sl[v.toNat]? with
 | none => simp
 | some x =>
  show (onRow sl x).length ≤ 7000
  unfold onRow
  exact Nat.le_trans (List.length_filterMap_le _ _) (depsL_len (hd x (List.mem_of_getElem? he)))
structure KB (on : List (List Int)) (n : Nat) (lk : Nat → Bool) (i : Nat) (b : List Bool) (td : List Int) : Prop where
 lb : b.length = n
 it : i ≤ td.length
 tb : ∀ k, Vx n k → (b.getD k.toNat false = true ↔ k ∈ td)
 rg : ∀ k ∈ td, Vx n k
 nd : td.Nodup
 sd : ∀ k ∈ td, ∃ y, Rch on k y ∧ Vx n y ∧ lk y.toNat = true
 st : ∀ y, y < n → lk y = true → (y : Int) ∈ td
 cl : ∀ j, j < i → ∀ k, Vx n k → td.getD j 0 ∈ rowOf on k → k ∈ td
theorem Rch.head {x y z : Int} (h : y ∈ rowOf on x) (h2 : Rch on y z) : Rch on x z := (Rch.one h).trans h2
theorem kb_add {k v : Int} (h : KB on n lk i b td) (hk : Vx n k) (hv : v ∈ td) (hvk : v ∈ rowOf on k) (hn : k ∉ td) : KB on n lk i (b.set k.toNat true) (td ++ [k]) := by
 refine ⟨by simp [h.lb], by simp; have := h.it; omega, fun x hx => ?_, fun x hx => ?_, ?_, fun x hx => ?_, fun y hy hl => List.mem_append.2 (.inl (h.st y hy hl)), fun j hj x hx hm => ?_⟩
 ·rw [setAt h.lb hk hx]
  by_cases e : x = k
  ·simp [e]
  ·rw [if_neg e, h.tb x hx]; simp [e]
 ·rcases List.mem_append.1 hx with hx | hx
  ·exact h.rg x hx
  ·rw [List.mem_singleton.1 hx]; exact hk
 ·rw [List.nodup_append]
  refine ⟨h.nd, by simp, fun a ha c hc e => ?_⟩
  rw [List.mem_singleton] at hc
  subst hc; subst e; exact hn ha
 ·rcases List.mem_append.1 hx with hx | hx
  ·exact h.sd x hx
  ·rw [List.mem_singleton.1 hx]
   obtain ⟨y, h1, h2, h3⟩ := h.sd v hv
   exact ⟨y, Rch.head hvk h1, h2, h3⟩
 ·have hit := h.it
  rw [List.getD_eq_getElem?_getD, List.getElem?_append_left (by omega), ← List.getD_eq_getElem?_getD] at hm
  exact List.mem_append.2 (.inl (h.cl j hj x hx hm))
theorem rch_vx (hO : OnOk on n) {x y : Int} (h : Rch on x y) (hx : Vx n x) : Vx n y := Rch.stay (C := Vx n) (fun a _ c hc => hO.rng a c hc) h hx
theorem kb_end (hO : OnOk on n) (h : KB on n lk td.length b td) {k : Int} (hk : Vx n k) : b.getD k.toNat false = true ↔ ∃ y, Rch on k y ∧ Vx n y ∧ lk y.toNat = true := by
 rw [h.tb k hk]
 refine ⟨h.sd k, ?_⟩
 rintro ⟨y, h1, h2, h3⟩
 have hy : y ∈ td := by
  have := h.st y.toNat (by unfold Vx at h2; omega) h3
  rwa [show ((y.toNat : Nat) : Int) = y by unfold Vx at h2; omega] at this
 have key : ∀ x y, Rch on x y → Vx n x → y ∈ td → x ∈ td := by
  intro x y hr
  induction hr with
  | refl => exact fun _ h => h
  | @step y z hr hz ih =>
   intro hx hzt
   refine ih hx ?_
   obtain ⟨j, hj, e⟩ := List.getElem_of_mem hzt
   refine h.cl j hj y (rch_vx hO hr hx) ?_
   rw [List.getD_eq_getElem?_getD, List.getElem?_eq_getElem hj]
   show td[j] ∈ rowOf on y
   rw [e]; exact hz
 exact key k y h1 hk hy
structure BK (on : List (List Int)) (n i j : Nat) (bk : List (List Int)) : Prop where
 lb : bk.length = n
 snd : ∀ v, ∀ x ∈ bk.getD v [], Vx n x ∧ (v : Int) ∈ rowOf on x
 cmp : ∀ x v : Nat, x < i → v < n → (v : Int) ∈ rowOf on x → (x : Int) ∈ bk.getD v []
 cmj : ∀ v : Nat, v < n → (v : Int) ∈ (rowOf on i).take j → (i : Int) ∈ bk.getD v []
 len : ∀ v, (bk.getD v []).length ≤ i * 7000 + j
theorem bk_start (n : Nat) : BK on n 0 0 (List.replicate n []) := by
 have h0 : ∀ v : Nat, (List.replicate n ([] : List Int)).getD v [] = [] := fun v => repAt
 refine ⟨by simp, fun v x hx => ?_, fun x v hx => by omega, fun v _ hm => by simp at hm, fun v => by rw [h0]; simp⟩
 rw [h0] at hx; cases hx
theorem bk_step {bk : List (List Int)} {j : Nat} {v : Int} (h : BK on n i j bk) (hi : i < n) (hv : Vx n v) (hj : (rowOf on i)[j]? = some v) : BK on n i (j + 1) (bk.set v.toNat (bk.getD v.toNat [] ++ [(i : Int)])) := by
 have hvn : v.toNat < bk.length := by rw [h.lb]; unfold Vx at hv; omega
 have ev : ((v.toNat : Nat) : Int) = v := by unfold Vx at hv; omega
 have hg : ∀ w, (bk.set v.toNat (bk.getD v.toNat [] ++ [(i : Int)])).getD w [] = if w = v.toNat then bk.getD v.toNat [] ++ [(i : Int)] else bk.getD w [] := fun w => getD_set hvn
 have hsub : ∀ w (x : Int), x ∈ bk.getD w [] → x ∈ (bk.set v.toNat (bk.getD v.toNat [] ++ [(i : Int)])).getD w [] := fun w x hx => by
  rw [hg]; split
  ·rename_i e; rw [e] at hx; exact List.mem_append.2 (.inl hx)
  ·exact hx
 refine ⟨by simp [h.lb], fun w x hx => ?_, fun x w hx hw hm => hsub _ _ (h.cmp x w hx hw hm), fun w hw hm => ?_, fun w => ?_⟩
 ·rw [hg] at hx
  by_cases e : w = v.toNat
  ·rw [if_pos e] at hx
   rcases List.mem_append.1 hx with hx | hx
   ·rw [e]; exact h.snd _ x hx
   ·rw [List.mem_singleton.1 hx, e, ev]
    exact ⟨⟨by omega, by omega⟩, List.mem_of_getElem? hj⟩
  ·rw [if_neg e] at hx; exact h.snd w x hx
 ·have hjl := (List.getElem?_eq_some_iff.1 hj).1
  rw [List.take_succ_eq_append_getElem hjl] at hm
  rcases List.mem_append.1 hm with hm | hm
  ·exact hsub _ _ (h.cmj w hw hm)
  ·have e2 := List.mem_singleton.1 hm
   rw [(List.getElem?_eq_some_iff.1 hj).2] at e2
   have : w = v.toNat := by omega
   rw [hg, if_pos this]; simp
 ·rw [hg]
  have := h.len w
  have := h.len v.toNat
  split
  ·rw [List.length_append, List.length_singleton]; omega
  ·omega
theorem bk_next {bk : List (List Int)} (h : BK on n i (rowOf on i).length bk) (hr : (rowOf on i).length ≤ 7000) : BK on n (i + 1) 0 bk := by
 refine ⟨h.lb, h.snd, fun x v hx hv hm => ?_, fun v _ hm => by simp at hm, fun v => ?_⟩
 ·by_cases e : x = i
  ·subst e; exact h.cmj v hv (by rw [List.take_length]; exact hm)
  ·exact h.cmp x v (by omega) hv hm
 ·have h1 := h.len v
  rw [Nat.add_mul, Nat.one_mul]
  generalize i * 7000 = z at *
  exact Nat.le_trans h1 (Nat.add_le_add_left hr z)
def lkL (lk : Nat → Bool) (n i : Nat) : List Bool := (List.range n).map fun j => decide (j < i) && lk j
def tdL (lk : Nat → Bool) (i : Nat) : List Int := ((List.range i).filter lk).map fun j : Nat => (j : Int)
theorem lkL_at {j : Nat} (hj : j < n) : (lkL lk n i).getD j false = (decide (j < i) && lk j) := by
 unfold lkL
 rw [List.getD_eq_getElem?_getD, List.getElem?_map, List.getElem?_range hj]; rfl
theorem lkL_set (hi : i < n) (h : lk i = true) : (lkL lk n i).set i true = lkL lk n (i + 1) := by
 apply List.ext_getElem
 ·simp [lkL]
 ·intro j h1 h2
  have hj : j < n := by simpa [lkL] using h2
  rw [List.getElem_set]
  by_cases e : i = j
  ·subst e; simp [lkL, h]
  ·rw [if_neg e]; simp only [lkL, List.getElem_map, List.getElem_range]
   congr 1; rw [decide_eq_decide]; omega
theorem lkL_not (h : lk i = false) : lkL lk n i = lkL lk n (i + 1) := by
 unfold lkL
 refine List.map_congr_left fun j _ => ?_
 by_cases e : j = i
 ·subst e; simp [h]
 ·congr 1; rw [decide_eq_decide]; omega
theorem tdL_yes (h : lk i = true) : tdL lk (i + 1) = tdL lk i ++ [(i : Int)] := by simp [tdL, List.range_succ, List.filter_append, h]
theorem tdL_no (h : lk i = false) : tdL lk (i + 1) = tdL lk i := by simp [tdL, List.range_succ, List.filter_append, h]
theorem tdL_len : (tdL lk i).length ≤ i := by
 unfold tdL; rw [List.length_map]
 have := List.length_filter_le lk (List.range i)
 simpa using this
theorem kb_start : KB on n lk 0 (lkL lk n n) (tdL lk n) := by
 have hm : ∀ k, Vx n k → (k ∈ tdL lk n ↔ lk k.toNat = true) := fun k hk => by
  unfold tdL
  simp only [List.mem_map, List.mem_filter, List.mem_range]
  constructor
  ·rintro ⟨x, ⟨_, h⟩, rfl⟩; simpa using h
  ·intro h; exact ⟨k.toNat, ⟨by unfold Vx at hk; omega, h⟩, by unfold Vx at hk; omega⟩
 have hr : ∀ k ∈ tdL lk n, Vx n k := fun k hk => by
  unfold tdL at hk
  simp only [List.mem_map, List.mem_filter, List.mem_range] at hk
  obtain ⟨x, ⟨h, _⟩, rfl⟩ := hk
  unfold Vx; omega
 refine ⟨by simp [lkL], Nat.zero_le _, fun k hk => ?_, hr, ?_, fun k hk => ⟨k, .refl k, hr k hk, (hm k (hr k hk)).1 hk⟩, fun y hy h => (hm y ⟨by omega, by omega⟩).2 (by simpa using h), fun j hj => by omega⟩
 ·have hkn : k.toNat < n := by unfold Vx at hk; omega
  rw [lkL_at hkn, hm k hk, decide_eq_true hkn, Bool.true_and]
 ·unfold tdL
  rw [List.nodup_iff_pairwise_ne]
  exact List.pairwise_map.2 (((List.nodup_range).filter _).imp fun {a b} hab => by omega)
theorem kb_len (h : KB on n lk i b td) : td.length ≤ n := nodup_len h.nd h.rg
theorem kb_next (h : KB on n lk i b td) (hi : i < td.length) (hc : ∀ k, Vx n k → td.getD i 0 ∈ rowOf on k → k ∈ td) : KB on n lk (i + 1) b td := by
 refine ⟨h.lb, hi, h.tb, h.rg, h.nd, h.sd, h.st, fun j hj k hk hm => ?_⟩
 by_cases e : j = i
 ·subst e; exact hc k hk hm
 ·exact h.cl j (by omega) k hk hm
def keepL (sl : List Ins) (b : List Bool) : List Ins := (sl.zipIdx.filter fun x => !b.getD x.2 false).map (·.1)
end
end Go.Proofs.YtkjhccpanedccaaGreat
namespace Go.Proofs.YtkjhccpanedccaaGreat
set_option linter.unusedVariables false
set_option linter.unusedSimpArgs false
open Go Go.Eng Go.Tar Go.Sort
section
variable {W0 W : World} {L L' : List Asn} {C : Asn} {q : Dot → Bool} {p b3 b5 g : Nat} {caps : Array Value} {sl l : List Ins} {a : Option Addr} {c : Nat}
def lkB (q : Dot → Bool) (sl : List Ins) (i : Nat) : Bool := match sl[i]? with
 | some x => lack0 q sl x
 | none => false
theorem lkB_at {i : Nat} (hi : i < sl.length) : lkB q sl i = lack0 q sl sl[i] := by unfold lkB; rw [List.getElem?_eq_getElem hi]
def keepT (sl : List Ins) (b : List Bool) (i : Nat) : List Ins := ((sl.zipIdx.take i).filter fun x => !b.getD x.2 false).map (·.1)
theorem keepT_all (sl : List Ins) (b : List Bool) : keepT sl b sl.length = keepL sl b := by
 unfold keepT keepL; rw [List.take_of_length_le (by simp)]
theorem keepT_succ (b : List Bool) {i : Nat} (hi : i < sl.length) : keepT sl b (i + 1) = if b.getD i false = true then keepT sl b i else keepT sl b i ++ [sl[i]] := by
 unfold keepT
 rw [List.take_succ_eq_append_getElem (by simpa using hi), List.filter_append, List.map_append]
 by_cases h : b.getD i false = true
 ·rw [if_pos h]; simp at h; simp [h]
 ·rw [if_neg h]; simp at h; simp [h]
theorem keepT_len (sl : List Ins) (b : List Bool) (i : Nat) : (keepT sl b i).length ≤ sl.length := by
 unfold keepT
 rw [List.length_map]
 refine Nat.le_trans (List.length_filter_le _ _) ?_
 rw [List.length_take, List.length_zipIdx]
 exact Nat.min_le_right _ _
theorem kC_ent {p b3 b5 : Nat} {fv : Value} {L : List Asn} : ent (cells b3 [fv] T_t63 :: cells b5 [.pointer (some ⟨p, 0, none⟩)] T_p_order_web :: C :: L) (kC b3 b5 p fv C :: L) := ent.pack [_, _, _] L
set_option maxRecDepth 100000 in
set_option maxHeartbeats 8000000 in
theorem ordKept (hD : DoneF C (.func (.func g) #[] caps) q) (hl : l.length ≤ 1000) (hn : (l.map (·.d)).Nodup) (hd : ∀ x ∈ l, depsO x = true) {k : Value → World → Prop} (h : St W0 (C :: L) W) [hr : Rd W0 L a INS l]
  (hk : ∀ (b : List Bool) (td : List Int) a' c' W', KB (onL (sortO l)) (sortO l).length (lkB q (sortO l)) td.length b td → St W0 (arr INS T_order_Inst a' c' (keepL (sortO l) b) :: C :: L) W' → k (.slice a' (keepL (sortO l) b).length c') W') :
  callK PR F_order_kept [.slice a l.length c, .func (.func g) #[] caps] k W := by
 apply S.order_kept.call
 unfold S.order_kept.body
 refine bx h fun b3 W1 h => ?_
 have h : St W0 (cells b3 [.func (.func g) #[] caps] T_t63 :: C :: L) W1 := h
 refine ordWeave (a := a) (l := l) h (by omega) hn fun p W2 h => ?_
 have hln := sortO_len l
 have hds : ∀ x ∈ sortO l, depsO x = true := fun x hx => hd x ((sortO_perm l).mem_iff.1 hx)
 have hO := onL_ok (sortO l)
 have hrl := onL_rl hds
 have honl : (onL (sortO l)).length = (sortO l).length := hO.len
 rw [← hln]
 have hl2 : (sortO l).length ≤ 1000 := by omega
 generalize sortO l = sl at *
 (repeat (first | ((with_reducible refine w11 ?_); intros) | ((with_reducible refine v5 ?_); refine ⟨_, rfl, ?_⟩) | ((with_reducible refine v12 ?_ ?_); exact rfl; intros) | ((with_reducible refine w5 ?_ ?_); simp; refine ⟨_, rfl, ?_⟩) | ((with_reducible refine w12 ?_ ?_ ?_ ?_); simp; simp; simp [oneC]; intros) | simp -implicitDefEqProofs only [SE, SU, SV]))
 rename_i b5 _ _ W4 h
 (try simp only [BLS, SB, stL_a, stL_b, stL_c, List.append_nil, List.take_nil, List.drop_nil, Nat.reduceAdd] at h)
 refine ordOn (St.wk (L' := wb p sl :: cells b5 [.pointer (some ⟨p, 0, none⟩)] T_p_order_web :: cells b3 [.func (.func g) #[] caps] T_t63 :: C :: L) (by first | assumption | exact St.tick (by assumption) | exact St.tick (St.tick (by assumption)))) hl2 hds fun ao co W5 h => ?_
 skip
 refine mkS (A := ISY) (⟨none, 0, []⟩ : ISl) sl.length (by first | assumption | exact St.tick (by assumption) | exact St.tick (St.tick (by assumption))) rfl rfl (by omega) (by omega) fun ab cb W6 h => ?_
 rw [List.length_replicate]
 have h := li_make h
 skip
 refine mkB h (by omega) fun ak ck W7 h => ?_
 have hD' := hD
 generalize hfv : Value.func (.func g) #[] caps = fv at hD' h
 have hlk : ∀ i (hi : i < sl.length), lkB q sl i = lack0 q sl sl[i] := fun i hi => lkB_at hi
 generalize lkB q sl = lk at *
 have e0 : lkL lk sl.length 0 = List.replicate sl.length false := by apply List.ext_getElem <;> simp [lkL]
 rw [← e0] at h
 obtain ⟨rows, hrows, h⟩ := li_at (St.wk (L' := LI ao co (onL sl) :: arr BOO T_bool ak ck (lkL lk sl.length 0) :: LI ab cb (List.replicate sl.length []) :: cells b3 [fv] T_t63 :: cells b5 [.pointer (some ⟨p, 0, none⟩)] T_p_order_web :: C :: wb p sl :: L) h)
 have hrn : rows.length = sl.length := by rw [← honl, ← hrows, List.length_map]
 have hro : ∀ i (hi : i < sl.length), rowOf (onL sl) (i : Int) = (rows[i]'(by rw [hrn]; exact hi)).l := fun i hi => by unfold rowOf; rw [Int.toNat_natCast, row_at (by rw [hrn]; exact hi), hrows]
 refine joinK_i ?_
 obtain ⟨wa, wc, wr, h⟩ := wb_at (St.wk (L' := wb p sl :: arr ISY T_s_int ao co rows :: many ich rows :: arr BOO T_bool ak ck (lkL lk sl.length 0) :: LI ab cb (List.replicate sl.length []) :: cells b3 [fv] T_t63 :: cells b5 [.pointer (some ⟨p, 0, none⟩)] T_p_order_web :: C :: L) h)
 (repeat (first | ((with_reducible refine v5 ?_); refine ⟨_, rfl, ?_⟩) | simp -implicitDefEqProofs only [SE, SU, SV]))
 have h := St.wk (L' := cells p [.slice wa sl.length wc, .map (some wr)] T_order_web :: arr INS T_order_Inst wa wc sl :: mp KD wr (plL sl) :: arr ISY T_s_int ao co rows :: many ich rows :: arr BOO T_bool ak ck (lkL lk sl.length 0) :: LI ab cb (List.replicate sl.length []) :: cells b3 [fv] T_t63 :: cells b5 [.pointer (some ⟨p, 0, none⟩)] T_p_order_web :: C :: L) (by first | assumption | exact St.tick (by assumption) | exact St.tick (St.tick (by assumption)))
 have h := (h.ent wb_ent).ent (arr_nil I64 T_int)
 refine loop_c (σ := List (List Int) × Option Addr × Nat) sl.length (fun i x => [.pointer (some ⟨b3, 0, none⟩), .pointer (some ⟨b5, 0, none⟩), .slice ao (onL sl).length co, .slice ab sl.length cb, .slice ak sl.length ck, .slice x.2.1 (tdL lk i).length x.2.2, .int .i64 sl.length, .int .i64 (i : Int)])
  (fun i x W1 => BK (onL sl) sl.length i 0 x.1 ∧ St W0 (arr I64 T_int x.2.1 x.2.2 (tdL lk i) :: arr BOO T_bool ak ck (lkL lk sl.length i) :: LI ab cb x.1 :: wb p sl :: cells b3 [fv] T_t63 :: cells b5 [.pointer (some ⟨p, 0, none⟩)] T_p_order_web :: C :: arr ISY T_s_int ao co rows :: many ich rows :: L) W1)
  (List.replicate sl.length [], none, 0) rfl ⟨bk_start _, St.wk (L' := arr I64 T_int none 0 [] :: arr BOO T_bool ak ck (lkL lk sl.length 0) :: LI ab cb (List.replicate sl.length []) :: wb p sl :: cells b3 [fv] T_t63 :: cells b5 [.pointer (some ⟨p, 0, none⟩)] T_p_order_web :: C :: arr ISY T_s_int ao co rows :: many ich rows :: L) h⟩ ?_
 clear h
 rintro K i ⟨bk, at_, ct⟩ W8 hi ⟨hbk, h⟩ hK
 simp only at hbk h
 simp -implicitDefEqProofs only [SE, SU, SV]
 unfold S.order_kept.l4
 by_cases hlt : (i : Int) < (sl.length : Int)
 ·have hib : i < sl.length := by omega
  have hir : i < rows.length := by omega
  have ew : IntKind.i64.wrap ((i : Int) + 1) = ((i + 1 : Nat) : Int) := by rw [i64w]; omega
  have hmr : rows[i] ∈ rows := List.getElem_mem hir
  have hrow := hro i hib
  have hil : i < (onL sl).length := by omega
  have hrl2 := hrl (i : Int)
  obtain ⟨gr, or', e1⟩ := posAddr (i := i) (a := ao) (A := ISY) (l := rows) h hir
  subst e1
  (repeat simp -implicitDefEqProofs only [SE, SU, SV, hlt])
  refine joinK_i ?_
  refine joinK_i ?_
  (repeat simp -implicitDefEqProofs only [SE, SU, SV, ix2 hil])
  refine ldR hir (by first | assumption | exact St.tick (by assumption) | exact St.tick (St.tick (by assumption))) ?_
  generalize rows[i] = y at *
  obtain ⟨ya, yc, yl⟩ := y
  simp only at hrow
  haveI hrd := ich_rd (W0 := W0) (L := L) hmr
  have hyx : ∀ v ∈ yl, Vx sl.length v := fun v hv => hO.rng (i : Int) v (by rw [hrow]; exact hv)
  have hyl : yl.length ≤ 7000 := by rw [← hrow]; exact hrl2
  (repeat simp -implicitDefEqProofs only [SE, SU, SV])
  refine loop_c (σ := List (List Int)) yl.length (fun j _ => [.pointer (some ⟨b3, 0, none⟩), .pointer (some ⟨b5, 0, none⟩), .slice (some ⟨gr, or', none⟩) (onL sl).length co, .slice ab sl.length cb, .slice ak sl.length ck, .slice at_ (tdL lk i).length ct, .int .i64 (i : Int), .int .i64 sl.length, .int .i64 (i : Int), .slice ya yl.length yc, .int .i64 yl.length, .int .i64 (j : Int)])
   (fun j z W1 => BK (onL sl) sl.length i j z ∧ St W0 (LI ab cb z :: arr I64 T_int at_ ct (tdL lk i) :: arr BOO T_bool ak ck (lkL lk sl.length i) :: wb p sl :: cells b3 [fv] T_t63 :: cells b5 [.pointer (some ⟨p, 0, none⟩)] T_p_order_web :: C :: arr ISY T_s_int (some ⟨gr, or', none⟩) co rows :: many ich rows :: L) W1)
   bk rfl ⟨hbk, St.wk h⟩ ?_
  clear h hbk
  rintro K2 j z W9 hj ⟨hbk, h⟩ hK2
  simp -implicitDefEqProofs only [SE, SU, SV]
  unfold S.order_kept.l5
  by_cases hlt2 : (j : Int) < (yl.length : Int)
  ·have hjb : j < yl.length := by omega
   have ew2 : IntKind.i64.wrap ((j : Int) + 1) = ((j + 1 : Nat) : Int) := by rw [i64w]; omega
   have hvx := hyx yl[j] (List.getElem_mem hjb)
   have hst := bk_step hbk hib hvx (by rw [hrow, List.getElem?_eq_getElem hjb])
   have hbl := hbk.len yl[j].toNat
   obtain ⟨gy, oy, e5⟩ := posAddr (i := j) (a := ya) (A := I64) (l := yl) h hjb
   subst e5
   obtain ⟨rb, hrb, h⟩ := li_at h
   have hrbl : rb.length = sl.length := by rw [← hbk.lb, ← hrb, List.length_map]
   have hvn : yl[j].toNat < rb.length := by unfold Vx at hvx; omega
   obtain ⟨gb, ob, e6⟩ := posAddr (i := yl[j].toNat) (a := ab) (A := ISY) (l := rb) h hvn
   subst e6
   have hvi : z.getD yl[j].toNat [] = rb[yl[j].toNat].l := by rw [row_at hvn, hrb]
   rw [hvi] at hbl hst
   have hbl2 : rb[yl[j].toNat].l.length < 100000000 := by
    have h7 : i * 7000 ≤ 1000 * 7000 := Nat.mul_le_mul_right _ (by omega)
    generalize i * 7000 = zz at *
    omega
   have h := h.ent (ent.cons _ (ich_pick rb hvn))
   (repeat simp -implicitDefEqProofs only [SE, SU, SV, hlt2, ix2 hjb])
   refine ldA0 (i := j) (l := yl) (A := I64) (by first | assumption | exact St.tick (by assumption) | exact St.tick (St.tick (by assumption))) rfl hjb (v := .int .i64 yl[j]) rfl (by simp) ?_
   (repeat simp -implicitDefEqProofs only [SE, SU, SV, ix1 hvx])
   refine ldR hvn (by first | assumption | exact St.tick (by assumption) | exact St.tick (St.tick (by assumption))) ?_
   refine bsA I64 [(i : Int)] (n := 1) (by first | assumption | exact St.tick (by assumption) | exact St.tick (St.tick (by assumption))) rfl rfl (by decide) (by decide) rfl fun a5 c5 W10 h => ?_
   skip
   refine appA (A := I64) (a := rb[yl[j].toNat].a) (l := rb[yl[j].toNat].l) (m := [(i : Int)]) (by first | assumption | exact St.tick (by assumption) | exact St.tick (St.tick (by assumption))) rfl (by simp only [List.length_cons, List.length_nil]; omega) (by simp only [List.length_cons, List.length_nil, maxLen]; omega) fun a6 c6 W11 h => ?_
   skip
   have h := St.wk (L' := arr ISY T_s_int (some ⟨gb, ob, none⟩) cb rb :: ich ⟨a6, c6, rb[yl[j].toNat].l ++ [(i : Int)]⟩ :: many ich (rb.take yl[j].toNat ++ rb.drop (yl[j].toNat + 1)) :: arr I64 T_int at_ ct (tdL lk i) :: arr BOO T_bool ak ck (lkL lk sl.length i) :: wb p sl :: cells b3 [fv] T_t63 :: cells b5 [.pointer (some ⟨p, 0, none⟩)] T_p_order_web :: C :: arr ISY T_s_int (some ⟨gr, or', none⟩) co rows :: many ich rows :: L) (by first | assumption | exact St.tick (by assumption) | exact St.tick (St.tick (by assumption)))
   refine stA (i := yl[j].toNat) (x := (⟨a6, c6, rb[yl[j].toNat].l ++ [(i : Int)]⟩ : ISl)) (l := rb) (A := ISY) h rfl hvn rfl fun W12 h => ?_
   have h := (h.ent (ent.cons _ (ich_place rb hvn ⟨a6, c6, rb[yl[j].toNat].l ++ [(i : Int)]⟩))).ent (li_ent (vs := z.set yl[j].toNat (rb[yl[j].toNat].l ++ [(i : Int)])) (by rw [List.map_set, hrb]))
   (repeat simp -implicitDefEqProofs only [SE, SU, SV, ew2])
   exact hK2 _ _ hjb ⟨hst, h⟩
  ·have hjl : j = yl.length := by omega
   subst hjl
   have hbk2 := bk_next (by rw [hrow]; exact hbk) (by rw [hrow]; exact hyl)
   have hdi := hds sl[i] (List.getElem_mem hib)
   have hki := hlk i hib
   (repeat simp -implicitDefEqProofs only [SE, SU, SV, hlt2])
   unfold S.order_kept.j8
   (repeat (first | ((with_reducible refine v5 ?_); refine ⟨_, rfl, ?_⟩) | simp -implicitDefEqProofs only [SE, SU, SV]))
   subst hfv
   have h := St.wk (L' := cells b3 [.func (.func g) #[] caps] T_t63 :: cells b5 [.pointer (some ⟨p, 0, none⟩)] T_p_order_web :: C :: wb p sl :: LI ab cb z :: arr I64 T_int at_ ct (tdL lk i) :: arr BOO T_bool ak ck (lkL lk sl.length i) :: arr ISY T_s_int (some ⟨gr, or', none⟩) co rows :: many ich rows :: L) (by first | assumption | exact St.tick (by assumption) | exact St.tick (St.tick (by assumption)))
   refine ordKeptE hD hib hdi (h.ent kC_ent) fun W10 h => ?_
   have h := h.flat
   simp only [List.cons_append, List.nil_append] at h
   rw [← hki]
   cases hlki : lk i with
   | true =>
    have el := lkL_set hib hlki
    have etd := tdL_yes hlki
    have hlen := tdL_len (lk := lk) (i := i)
    obtain ⟨gk, ok, e6⟩ := posAddr (i := i) (a := ak) (A := BOO) (l := lkL lk sl.length i) h (by simpa [lkL] using hib)
    subst e6
    have h := St.wk (L' := arr I64 T_int at_ ct (tdL lk i) :: arr BOO T_bool (some ⟨gk, ok, none⟩) ck (lkL lk sl.length i) :: LI ab cb z :: wb p sl :: cells b3 [.func (.func g) #[] caps] T_t63 :: cells b5 [.pointer (some ⟨p, 0, none⟩)] T_p_order_web :: C :: arr ISY T_s_int (some ⟨gr, or', none⟩) co rows :: many ich rows :: L) h
    (repeat simp -implicitDefEqProofs only [SE, SU, SV, ix2 hib])
    refine stGb (i := i) (m := lkL lk sl.length i) (x := true) (by simpa [lkL] using hib) (by first | assumption | exact St.tick (by assumption) | exact St.tick (St.tick (by assumption))) fun W11 h => ?_
    rw [el] at h
    refine bsA I64 [(i : Int)] (n := 1) (by first | assumption | exact St.tick (by assumption) | exact St.tick (St.tick (by assumption))) rfl rfl (by decide) (by decide) rfl fun a5 c5 W12 h => ?_
    refine appA (A := I64) (a := at_) (l := tdL lk i) (m := [(i : Int)]) (by first | assumption | exact St.tick (by assumption) | exact St.tick (St.tick (by assumption))) rfl (by simp only [List.length_cons, List.length_nil]; omega) (by simp only [List.length_cons, List.length_nil, maxLen]; omega) fun a6 c6 W13 h => ?_
    rw [← etd] at h ⊢
    unfold S.order_kept.j7
    (repeat simp -implicitDefEqProofs only [SE, SU, SV, ew])
    exact hK (z, a6, c6) _ hib ⟨hbk2, St.wk h⟩
   | false =>
    have el := lkL_not (n := sl.length) hlki
    have etd := tdL_no hlki
    (repeat simp -implicitDefEqProofs only [SE, SU, SV])
    unfold S.order_kept.j7
    (repeat simp -implicitDefEqProofs only [SE, SU, SV, ew])
    rw [etd] at hK
    rw [el] at h
    exact hK (z, at_, ct) _ hib ⟨hbk2, St.wk h⟩
 ·have hil : i = sl.length := by omega
  subst hil
  (repeat simp -implicitDefEqProofs only [SE, SU, SV, hlt])
  unfold S.order_kept.j1
  have hkb := kb_start (on := onL sl) (n := sl.length) (lk := lk)
  generalize tdL lk sl.length = td0 at *
  generalize lkL lk sl.length sl.length = b0 at *
  obtain ⟨rb, hrb, h⟩ := li_at (St.wk (L' := LI ab cb bk :: arr BOO T_bool ak ck b0 :: arr I64 T_int at_ ct td0 :: wb p sl :: cells b5 [.pointer (some ⟨p, 0, none⟩)] T_p_order_web :: C :: L) h)
  have hrbl : rb.length = sl.length := by rw [← hbk.lb, ← hrb, List.length_map]
  refine joinK_i ?_
  refine loop_c (σ := List Bool × List Int × Option Addr × Nat) sl.length (fun i x => [.pointer (some ⟨b5, 0, none⟩), .slice ab sl.length cb, .slice ak sl.length ck, .slice x.2.2.1 x.2.1.length x.2.2.2, .int .i64 (i : Int)])
   (fun i x W1 => KB (onL sl) sl.length lk i x.1 x.2.1 ∧ St W0 (arr I64 T_int x.2.2.1 x.2.2.2 x.2.1 :: arr BOO T_bool ak ck x.1 :: arr ISY T_s_int ab cb rb :: many ich rb :: wb p sl :: cells b5 [.pointer (some ⟨p, 0, none⟩)] T_p_order_web :: C :: L) W1)
   (b0, td0, at_, ct) rfl ⟨hkb, St.wk h⟩ ?_
  clear h hkb
  rintro K i ⟨b, td, at2, ct2⟩ W9 hi ⟨hkb, h⟩ hK
  simp only at hkb h
  simp -implicitDefEqProofs only [SE, SU, SV]
  unfold S.order_kept.l2
  have htl := kb_len hkb
  by_cases hlt : (i : Int) < (td.length : Int)
  ·have hib : i < td.length := by omega
   have hin : i < sl.length := by omega
   have ew : IntKind.i64.wrap ((i : Int) + 1) = ((i + 1 : Nat) : Int) := by rw [i64w]; omega
   have hvx := hkb.rg td[i] (List.getElem_mem hib)
   have hvn : td[i].toNat < rb.length := by unfold Vx at hvx; omega
   have hti : td.getD i 0 = td[i] := (getD_at hib).symm
   have hrow : bk.getD td[i].toNat [] = rb[td[i].toNat].l := by rw [row_at hvn, hrb]
   have hmr : rb[td[i].toNat] ∈ rb := List.getElem_mem hvn
   have hsnd := hbk.snd td[i].toNat
   have hcmp : ∀ k, Vx sl.length k → td[i] ∈ rowOf (onL sl) k → k ∈ bk.getD td[i].toNat [] := fun k hk hm => by
    have ek : ((k.toNat : Nat) : Int) = k := by unfold Vx at hk; omega
    have ev : ((td[i].toNat : Nat) : Int) = td[i] := by unfold Vx at hvx; omega
    have := hbk.cmp k.toNat td[i].toNat (by unfold Vx at hk; omega) (by omega) (by rw [ek, ev]; exact hm)
    rwa [ek] at this
   have evt : ((td[i].toNat : Nat) : Int) = td[i] := by unfold Vx at hvx; omega
   have hlen := hbk.len td[i].toNat
   have hvm : td[i] ∈ td := List.getElem_mem hib
   rw [hrow] at hsnd hcmp hlen
   rw [evt] at hsnd
   obtain ⟨gt, ot, e1⟩ := posAddr (i := i) (a := at2) (A := I64) (l := td) h hib
   obtain ⟨gb, ob, e2⟩ := posAddr (i := td[i].toNat) (a := ab) (A := ISY) (l := rb) h hvn
   subst e1 e2
   (repeat simp -implicitDefEqProofs only [SE, SU, SV, hlt])
   refine joinK_i ?_
   (repeat simp -implicitDefEqProofs only [SE, SU, SV, ix2 hib])
   refine ldA0 (i := i) (l := td) (A := I64) (by first | assumption | exact St.tick (by assumption) | exact St.tick (St.tick (by assumption))) rfl hib (v := .int .i64 td[i]) rfl (by simp) ?_
   (repeat simp -implicitDefEqProofs only [SE, SU, SV, ix1 hvx])
   refine ldR hvn (by first | assumption | exact St.tick (by assumption) | exact St.tick (St.tick (by assumption))) ?_
   generalize rb[td[i].toNat] = y at *
   obtain ⟨ya, yc, yl⟩ := y
   simp only at hrow hsnd hcmp hlen
   haveI hrd := ich_rd (W0 := W0) (L := wb p sl :: cells b5 [.pointer (some ⟨p, 0, none⟩)] T_p_order_web :: C :: L) hmr
   have hyl : yl.length < 100000000 := by
    have h7 : sl.length * 7000 ≤ 1000 * 7000 := Nat.mul_le_mul_right _ (by omega)
    generalize sl.length * 7000 = zz at *
    omega
   generalize td[i] = v at *
   (repeat simp -implicitDefEqProofs only [SE, SU, SV])
   refine loop_c (σ := List Bool × List Int × Option Addr × Nat) yl.length (fun j x => [.pointer (some ⟨b5, 0, none⟩), .slice (some ⟨gb, ob, none⟩) sl.length cb, .slice ak sl.length ck, .slice x.2.2.1 x.2.1.length x.2.2.2, .int .i64 (i : Int), .slice ya yl.length yc, .int .i64 yl.length, .int .i64 (j : Int)])
    (fun j x W1 => (KB (onL sl) sl.length lk i x.1 x.2.1 ∧ i < x.2.1.length ∧ x.2.1.getD i 0 = v ∧ v ∈ x.2.1 ∧ ∀ k ∈ yl.take j, k ∈ x.2.1) ∧ St W0 (arr I64 T_int x.2.2.1 x.2.2.2 x.2.1 :: arr BOO T_bool ak ck x.1 :: arr ISY T_s_int (some ⟨gb, ob, none⟩) cb rb :: many ich rb :: wb p sl :: cells b5 [.pointer (some ⟨p, 0, none⟩)] T_p_order_web :: C :: L) W1)
    (b, td, some ⟨gt, ot, none⟩, ct2) rfl ⟨⟨hkb, hib, hti, hvm, by simp⟩, h⟩ ?_
   clear h hkb hti hib hvm hlt htl
   rintro K2 j ⟨b, td, at3, ct3⟩ W10 hj ⟨⟨hkb, hib, hti, hvm, hdone⟩, h⟩ hK2
   simp only at hkb hib hti hvm hdone h
   simp -implicitDefEqProofs only [SE, SU, SV]
   unfold S.order_kept.l3
   have htl := kb_len hkb
   by_cases hlt2 : (j : Int) < (yl.length : Int)
   ·have hjb : j < yl.length := by omega
    have ew2 : IntKind.i64.wrap ((j : Int) + 1) = ((j + 1 : Nat) : Int) := by rw [i64w]; omega
    have hkx := hsnd yl[j] (List.getElem_mem hjb)
    have hkn : yl[j].toNat < b.length := by rw [hkb.lb]; have := hkx.1; unfold Vx at this; omega
    have htb := hkb.tb yl[j] hkx.1
    have htk : yl.take (j + 1) = yl.take j ++ [yl[j]] := List.take_succ_eq_append_getElem hjb
    obtain ⟨gy, oy, e5⟩ := posAddr (i := j) (a := ya) (A := I64) (l := yl) h hjb
    obtain ⟨gk, ok, e6⟩ := posAddr (i := yl[j].toNat) (a := ak) (A := BOO) (l := b) h hkn
    subst e5 e6
    have hbl : sl.length = b.length := hkb.lb.symm
    (repeat simp -implicitDefEqProofs only [SE, SU, SV, hlt2, ix2 hjb])
    refine joinK_i ?_
    (repeat simp -implicitDefEqProofs only [SE, SU, SV, ix2 hjb])
    refine ldA0 (i := j) (l := yl) (A := I64) (by first | assumption | exact St.tick (by assumption) | exact St.tick (St.tick (by assumption))) rfl hjb (v := .int .i64 yl[j]) rfl (by simp) ?_
    (repeat simp -implicitDefEqProofs only [SE, SU, SV, ix1 hkx.1])
    refine ldGb (i := yl[j].toNat) (m := b) hkn (by first | assumption | exact St.tick (by assumption) | exact St.tick (St.tick (by assumption))) ?_
    cases hbb : b.getD yl[j].toNat false with
    | true =>
     have hin2 := htb.1 hbb
     (repeat simp -implicitDefEqProofs only [SE, SU, SV])
     unfold S.order_kept.j6
     (repeat simp -implicitDefEqProofs only [SE, SU, SV, ew2])
     refine hK2 (b, td, at3, ct3) _ hjb ⟨⟨hkb, hib, hti, hvm, fun k hk => ?_⟩, (by first | assumption | exact St.tick (by assumption) | exact St.tick (St.tick (by assumption)))⟩
     rw [htk] at hk
     rcases List.mem_append.1 hk with hk | hk
     ·exact hdone k hk
     ·rw [List.mem_singleton.1 hk]; exact hin2
    | false =>
     have hnin : yl[j] ∉ td := fun hm => by rw [htb.2 hm] at hbb; cases hbb
     have hadd := kb_add hkb hkx.1 hvm hkx.2 hnin
     (repeat simp -implicitDefEqProofs only [SE, SU, SV, ix1 hkx.1])
     refine stGb (i := yl[j].toNat) (m := b) (x := true) hkn (by first | assumption | exact St.tick (by assumption) | exact St.tick (St.tick (by assumption))) fun W11 h => ?_
     refine bsA I64 [yl[j]] (n := 1) (by first | assumption | exact St.tick (by assumption) | exact St.tick (St.tick (by assumption))) rfl rfl (by decide) (by decide) rfl fun a5 c5 W12 h => ?_
     refine appA (A := I64) (a := at3) (l := td) (m := [yl[j]]) (by first | assumption | exact St.tick (by assumption) | exact St.tick (St.tick (by assumption))) rfl (by simp only [List.length_cons, List.length_nil]; omega) (by simp only [List.length_cons, List.length_nil, maxLen]; omega) fun a6 c6 W13 h => ?_
     unfold S.order_kept.j6
     (repeat simp -implicitDefEqProofs only [SE, SU, SV, ew2])
     refine hK2 (b.set yl[j].toNat true, td ++ [yl[j]], a6, c6) _ hjb ⟨⟨hadd, by simp; omega, ?_, by simp [hvm], fun k hk => ?_⟩, St.wk (by first | assumption | exact St.tick (by assumption) | exact St.tick (St.tick (by assumption)))⟩
     ·simp only
      rw [List.getD_eq_getElem?_getD, List.getElem?_append_left hib, ← List.getD_eq_getElem?_getD]; exact hti
     ·rw [htk] at hk
      rcases List.mem_append.1 hk with hk | hk
      ·exact List.mem_append.2 (.inl (hdone k hk))
      ·exact List.mem_append.2 (.inr hk)
   ·have hjl : j = yl.length := by omega
    subst hjl
    rw [List.take_length] at hdone
    have hnx := kb_next hkb hib fun k hk hm => hdone k (hcmp k hk (by rw [← hti]; exact hm))
    (repeat simp -implicitDefEqProofs only [SE, SU, SV, hlt2])
    unfold S.order_kept.j5
    (repeat simp -implicitDefEqProofs only [SE, SU, SV, ew])
    exact hK (b, td, at3, ct3) _ hin ⟨hnx, h⟩
  ·have hil : i = td.length := by have := hkb.it; omega
   subst hil
   have hk := hk b td
   have hbl : b.length = sl.length := hkb.lb
   obtain ⟨wa, wc, wr, h⟩ := wb_at (St.wk (L' := wb p sl :: arr BOO T_bool ak ck b :: cells b5 [.pointer (some ⟨p, 0, none⟩)] T_p_order_web :: C :: L) h)
   (repeat simp -implicitDefEqProofs only [SE, SU, SV, hlt])
   unfold S.order_kept.j2
   refine joinK_i ?_
   (repeat (first | ((with_reducible refine v5 ?_); refine ⟨_, rfl, ?_⟩) | simp -implicitDefEqProofs only [SE, SU, SV]))
   have h := St.wk (L' := arr INS T_order_Inst none 0 [] :: arr INS T_order_Inst wa wc sl :: arr BOO T_bool ak ck b :: C :: L) (h.ent (arr_nil INS T_order_Inst))
   refine loop_c (σ := Option Addr × Nat) sl.length (fun i x => [.slice ak sl.length ck, .slice x.1 (keepT sl b i).length x.2, .slice wa sl.length wc, .int .i64 sl.length, .int .i64 (i : Int)])
    (fun i x W1 => St W0 (arr INS T_order_Inst x.1 x.2 (keepT sl b i) :: arr INS T_order_Inst wa wc sl :: arr BOO T_bool ak ck b :: C :: L) W1) (none, 0) rfl h ?_
   clear h
   rintro K i ⟨ax, cx⟩ W10 hi h hK
   simp only at h
   simp -implicitDefEqProofs only [SE, SU, SV]
   unfold S.order_kept.l1
   have htl := keepT_len sl b i
   by_cases hlt : (i : Int) < (sl.length : Int)
   ·have hib : i < sl.length := by omega
    have hik : i < b.length := by omega
    have ew : IntKind.i64.wrap ((i : Int) + 1) = ((i + 1 : Nat) : Int) := by rw [i64w]; omega
    have hst := keepT_succ b hib
    obtain ⟨gk, ok, e6⟩ := posAddr (i := i) (a := ak) (A := BOO) (l := b) h hik
    subst e6
    (repeat simp -implicitDefEqProofs only [SE, SU, SV, hlt])
    refine joinK_i ?_
    refine ixA (i := i) (a := wa) (l := sl) (A := INS) (by first | assumption | exact St.tick (by assumption) | exact St.tick (St.tick (by assumption))) rfl rfl hib fun g1 o1 ha => ?_
    cases ha
    refine ldA0 (l := sl) (A := INS) (by first | assumption | exact St.tick (by assumption) | exact St.tick (St.tick (by assumption))) rfl hib (getL_val rfl (by decide) _) (by simp [INS]) ?_
    refine newV (A := INS) sl[i] (by first | assumption | exact St.tick (by assumption) | exact St.tick (St.tick (by assumption))) rfl (by decide) rfl fun vb W11 h => ?_
    (repeat simp -implicitDefEqProofs only [SE, SU, SV, ix2 hib])
    refine ldGb (i := i) (m := b) hik (by first | assumption | exact St.tick (by assumption) | exact St.tick (St.tick (by assumption))) ?_
    cases hbb : b.getD i false with
    | true =>
     rw [if_pos hbb] at hst
     (repeat simp -implicitDefEqProofs only [SE, SU, SV])
     unfold S.order_kept.j4
     (repeat simp -implicitDefEqProofs only [SE, SU, SV, ew])
     rw [hst] at hK
     exact hK (ax, cx) _ hib (St.wk (by first | assumption | exact St.tick (by assumption) | exact St.tick (St.tick (by assumption))))
    | false =>
     rw [if_neg (by rw [hbb]; simp)] at hst
     (repeat (first | ((with_reducible refine v5 ?_); refine ⟨_, rfl, ?_⟩) | simp -implicitDefEqProofs only [SE, SU, SV]))
     refine ldV (A := INS) sl[i] (by first | assumption | exact St.tick (by assumption) | exact St.tick (St.tick (by assumption))) rfl (by decide) ?_
     refine bsA INS [sl[i]] (n := 1) (by first | assumption | exact St.tick (by assumption) | exact St.tick (St.tick (by assumption))) rfl rfl (by decide) (by decide) rfl fun a5 c5 W12 h => ?_
     refine appA (A := INS) (a := ax) (l := keepT sl b i) (m := [sl[i]]) (by first | assumption | exact St.tick (by assumption) | exact St.tick (St.tick (by assumption))) rfl (by simp only [List.length_cons, List.length_nil]; omega) (by simp only [List.length_cons, List.length_nil, maxLen]; omega) fun a6 c6 W13 h => ?_
     unfold S.order_kept.j4
     (repeat simp -implicitDefEqProofs only [SE, SU, SV, ew])
     rw [hst] at hK
     exact hK (a6, c6) _ hib (St.wk (by first | assumption | exact St.tick (by assumption) | exact St.tick (St.tick (by assumption))))
   ·have hil : i = sl.length := by omega
    subst hil
    (repeat simp -implicitDefEqProofs only [SE, SU, SV, hlt])
    unfold S.order_kept.j3
    rw [keepT_all] at h ⊢
    exact hk ax cx _ hkb (St.wk h)
end
end Go.Proofs.YtkjhccpanedccaaGreat
namespace Go.Proofs.YtkjhccpanedccaaGreat
set_option linter.unusedVariables false
set_option linter.unusedSimpArgs false
open Go Go.Eng Go.Tar Go.Sort
def DOT : Ly Dot := ⟨2, by omega, fun d => [.int .i64 d.rep, .int .i64 d.n], fun _ => rfl, fun _ => rfl⟩
def dotsO (sl : List Ins) (l : List Int) : List Dot := l.map fun v => (sl.getD v.toNat default).d
section
variable {W0 W : World} {L L' : List Asn} {C : Asn} {q : Dot → Bool} {p g c n : Nat} {a : Option Addr} {sl : List Ins} {l : List Int}
set_option maxRecDepth 100000 in
set_option maxHeartbeats 4000000 in
theorem ordDots (h : St W0 (wb p sl :: L) W) [hr : Rd W0 L a I64 l] (hv : ∀ v ∈ l, Vx sl.length v) (hl : l.length < 1000000) {k : Value → World → Prop}
  (hk : ∀ a' c' W', St W0 (arr DOT T_api_Dot a' c' (dotsO sl l) :: wb p sl :: L) W' → k (.slice a' (dotsO sl l).length c') W') : callK PR F_order_web_dots [.pointer (some ⟨p, 0, none⟩), .slice a l.length c] k W := by
 apply S.order_web_dots.call
 unfold S.order_web_dots.body
 refine joinK_i ?_
 (repeat simp -implicitDefEqProofs only [SE, SU, SV])
 have h := h.ent (arr_nil DOT T_api_Dot)
 refine loop_c (σ := Option Addr × Nat) l.length (fun i x => [.pointer (some ⟨p, 0, none⟩), .slice x.1 (dotsO sl (l.take i)).length x.2, .slice a l.length c, .int .i64 l.length, .int .i64 (i : Int)])
  (fun i x W1 => St W0 (arr DOT T_api_Dot x.1 x.2 (dotsO sl (l.take i)) :: wb p sl :: L) W1) (none, 0) rfl h ?_
 clear h
 rintro K i ⟨ax, cx⟩ W1 hi h hK
 simp only at h
 simp -implicitDefEqProofs only [SE, SU, SV]
 unfold S.order_web_dots.l1
 by_cases hlt : (i : Int) < (l.length : Int)
 ·have hib : i < l.length := by omega
  have ew : IntKind.i64.wrap ((i : Int) + 1) = ((i + 1 : Nat) : Int) := by rw [i64w]; omega
  have hvx := hv l[i] (List.getElem_mem hib)
  have hvn : l[i].toNat < sl.length := by unfold Vx at hvx; omega
  have htk : dotsO sl (l.take (i + 1)) = dotsO sl (l.take i) ++ [sl[l[i].toNat].d] := by
   rw [List.take_succ_eq_append_getElem hib]; unfold dotsO; rw [List.map_append, List.map_singleton, ← getD_at hvn]
  have hlen : (dotsO sl (l.take i)).length ≤ l.length := by unfold dotsO; simp; omega
  obtain ⟨gl, ol, e1⟩ := posAddr (i := i) (a := a) (A := I64) (l := l) h hib
  subst e1
  obtain ⟨wa, wc, wr, h⟩ := wb_at (St.wk (L' := wb p sl :: arr DOT T_api_Dot ax cx (dotsO sl (l.take i)) :: L) h)
  obtain ⟨gw, ow, e2⟩ := posAddr (i := l[i].toNat) (a := wa) (A := INS) (l := sl) h hvn
  subst e2
  have ei : idxS 10 (.slice (some ⟨gw, ow, none⟩) sl.length wc) (.int .i64 l[i]) = some (.pointer (some ⟨gw, ow + l[i].toNat * 10, none⟩)) := idxS_blk hvx.1 hvx.2
  (repeat simp -implicitDefEqProofs only [SE, SU, SV, hlt, ix2 hib])
  refine ldA0 (i := i) (l := l) (A := I64) (by first | assumption | exact St.tick (by assumption) | exact St.tick (St.tick (by assumption))) rfl hib (v := .int .i64 l[i]) rfl (by simp) ?_
  (repeat (first | ((with_reducible refine v5 ?_); refine ⟨_, rfl, ?_⟩) | simp -implicitDefEqProofs only [SE, SU, SV, ei]))
  refine ldA0 (i := l[i].toNat) (l := sl) (A := INS) (by first | assumption | exact St.tick (by assumption) | exact St.tick (St.tick (by assumption))) rfl hvn (v := .agg #[.int .i64 (sl[l[i].toNat].d).rep, .int .i64 (sl[l[i].toNat].d).n]) rfl (by simp [INS]) ?_
  refine bsA DOT [sl[l[i].toNat].d] (n := 1) (by first | assumption | exact St.tick (by assumption) | exact St.tick (St.tick (by assumption))) rfl rfl (by decide) (by decide) rfl fun a5 c5 W5 h => ?_
  refine appA (A := DOT) (a := ax) (l := dotsO sl (l.take i)) (m := [sl[l[i].toNat].d]) (by first | assumption | exact St.tick (by assumption) | exact St.tick (St.tick (by assumption))) rfl (by simp only [List.length_cons, List.length_nil]; omega) (by simp only [List.length_cons, List.length_nil, maxLen]; omega) fun a6 c6 W6 h => ?_
  (repeat simp -implicitDefEqProofs only [SE, SU, SV, ew])
  rw [← htk] at h ⊢
  have h := St.wk (L' := cells p [.slice (some ⟨gw, ow, none⟩) sl.length wc, .map (some wr)] T_order_web :: arr INS T_order_Inst (some ⟨gw, ow, none⟩) wc sl :: mp KD wr (plL sl) :: arr DOT T_api_Dot a6 c6 (dotsO sl (l.take (i + 1))) :: L) (by first | assumption | exact St.tick (by assumption) | exact St.tick (St.tick (by assumption)))
  have h := h.ent wb_ent
  exact hK (a6, c6) _ hib (St.wk h)
 ·have hil : i = l.length := by omega
  subst hil
  rw [List.take_length] at h ⊢
  (repeat simp -implicitDefEqProofs only [SE, SU, SV, hlt])
  unfold S.order_web_dots.j1
  exact hk ax cx _ h
end
end Go.Proofs.YtkjhccpanedccaaGreat
namespace Go.Proofs.YtkjhccpanedccaaGreat
set_option linter.unusedVariables false
set_option linter.unusedSimpArgs false
open Go Go.Eng Go.Tar Go.Sort
inductive Lk (sl : List Ins) (q : Dot → Bool) : Ins → Prop
 | miss {x : Ins} {d : Dot} : x ∈ sl → d ∈ depsL x → (∀ y ∈ sl, y.d ≠ d) → q d = false → Lk sl q x
 | next {x y : Ins} : x ∈ sl → y ∈ sl → y.d ∈ depsL x → Lk sl q y → Lk sl q x
theorem lk_iff {sl : List Ins} {q : Dot → Bool} (hn : (sl.map (·.d)).Nodup) {i : Nat} (hi : i < sl.length) : (∃ y, Rch (onL sl) (i : Int) y ∧ Vx sl.length y ∧ lkB q sl y.toNat = true) ↔ Lk sl q sl[i] := by
 have edge : ∀ (v z : Nat) (hv : v < sl.length) (hz : z < sl.length), (z : Int) ∈ rowOf (onL sl) (v : Int) ↔ sl[z].d ∈ depsL sl[v] := fun v z hv hz => by
  rw [onRow_at sl hv, onRow_mem]
  constructor
  ·rintro ⟨d, hd, k, hk, e⟩
   obtain ⟨h1, h2⟩ := plcO_some hk
   have : k = z := by omega
   subst this; rw [h2]; exact hd
  ·exact fun h => ⟨_, h, z, plcO_at hn hz, rfl⟩
 have base : ∀ (v : Nat) (hv : v < sl.length), lkB q sl v = true ↔ ∃ d ∈ depsL sl[v], (∀ y ∈ sl, y.d ≠ d) ∧ q d = false := fun v hv => by
  rw [lkB_at hv]
  unfold lack0
  rw [Bool.not_eq_true', List.all_eq_false]
  constructor
  ·rintro ⟨d, hd, h⟩
   simp only [Bool.or_eq_true, not_or, Bool.not_eq_true, Option.isSome_eq_false_iff, Option.isNone_iff_eq_none] at h
   exact ⟨d, hd, plcO_none.1 h.1, h.2⟩
  ·rintro ⟨d, hd, h1, h2⟩
   refine ⟨d, hd, ?_⟩
   rw [plcO_none.2 h1, h2]; simp
 constructor
 ·rintro ⟨y, h1, h2, h3⟩
  have key : ∀ x y : Int, Rch (onL sl) x y → Vx sl.length x → ∀ hy : y.toNat < sl.length, Lk sl q sl[y.toNat] → ∀ hx : x.toNat < sl.length, Lk sl q sl[x.toNat] := by
   intro x y hr
   induction hr with
   | refl => exact fun _ _ h _ => h
   | @step y z hr hz ih =>
    intro hx hzl hL hxl
    have hy := rch_vx (onL_ok sl) hr hx
    have hzx := (onL_ok sl).rng y z hz
    have hyn : y.toNat < sl.length := by unfold Vx at hy; omega
    refine ih hx hyn (.next (List.getElem_mem _) (List.getElem_mem _) ((edge y.toNat z.toNat hyn hzl).1 ?_) hL) hxl
    rw [show ((z.toNat : Nat) : Int) = z by unfold Vx at hzx; omega, show ((y.toNat : Nat) : Int) = y by unfold Vx at hy; omega]
    exact hz
  have hyn : y.toNat < sl.length := by unfold Vx at h2; omega
  obtain ⟨d, hd, h4, h5⟩ := (base y.toNat hyn).1 h3
  exact key (i : Int) y h1 ⟨by omega, by omega⟩ hyn (.miss (List.getElem_mem _) hd h4 h5) (by simpa using hi)
 ·intro h
  generalize hx : sl[i] = x at h
  induction h generalizing i with
  | @miss x d hm hd h1 h2 =>
   exact ⟨i, .refl _, ⟨by omega, by omega⟩, by rw [Int.toNat_natCast, base i hi, hx]; exact ⟨d, hd, h1, h2⟩⟩
  | @next x y hm hy hd hL ih =>
   obtain ⟨j, hj, rfl⟩ := List.getElem_of_mem hy
   obtain ⟨z, h1, h2, h3⟩ := ih hj rfl
   exact ⟨z, Rch.head ((edge i j hi hj).2 (by rw [hx]; exact hd)) h1, h2, h3⟩
open Classical in
noncomputable def keptO (q : Dot → Bool) (l : List Ins) : List Ins := (sortO l).filter fun x => !decide (Lk (sortO l) q x)
theorem keep_kept {q : Dot → Bool} {l : List Ins} (hn : (l.map (·.d)).Nodup) {b : List Bool} {td : List Int} (h : KB (onL (sortO l)) (sortO l).length (lkB q (sortO l)) td.length b td) : keepL (sortO l) b = keptO q l := by
 have hnd := sortO_nodup hn
 unfold keptO
 generalize sortO l = sl at *
 have hb : ∀ (i : Nat) (hi : i < sl.length), (!b.getD i false) = !@decide (Lk sl q sl[i]) (Classical.propDecidable _) := fun i hi => by
  have h1 := kb_end (onL_ok sl) h (k := (i : Int)) ⟨by omega, by omega⟩
  rw [Int.toNat_natCast, lk_iff hnd hi] at h1
  by_cases hL : Lk sl q sl[i]
  ·rw [h1.2 hL]; simp [hL]
  ·have : b.getD i false = false := Bool.eq_false_iff.2 fun e => hL (h1.1 e)
   rw [this]; simp [hL]
 unfold keepL
 have key : ∀ (s : List Ins) (n : Nat) (f : Nat → Bool) (p : Ins → Bool), (∀ i (hi : i < s.length), f (n + i) = p s[i]) → ((s.zipIdx n).filter fun x => f x.2).map (·.1) = s.filter p := by
  intro s
  induction s with
  | nil => intros; rfl
  | cons x s ih =>
   intro n f p hf
   have h0 := hf 0 (by simp)
   rw [List.zipIdx_cons, List.filter_cons, List.filter_cons]
   simp only [Nat.add_zero, List.getElem_cons_zero] at h0
   have ih2 := ih (n + 1) f p fun i hi => by
    have := hf (i + 1) (by simpa using hi)
    rw [show n + 1 + i = n + (i + 1) by omega]; simpa using this
   rw [h0]
   by_cases hp : p x = true
   ·rw [if_pos hp, if_pos hp, List.map_cons, ih2]
   ·rw [if_neg hp, if_neg hp, ih2]
 exact key sl 0 (fun i => !b.getD i false) _ fun i hi => by rw [Nat.zero_add]; exact hb i hi
theorem kept_sub {q : Dot → Bool} {l : List Ins} : (keptO q l).Sublist (sortO l) := List.filter_sublist
def isO (done : P7 Int) (also : List Dot) (d : Dot) : Bool := decide (d.n ≤ done.get d.rep.toNat) || decide (d ∈ also)
def isC (b4 b7 : Nat) (done : P7 Int) (also : List Dot) : Asn := fun h => ∃ x : Nat × List (Dot × Value), (∀ d, (mget x.2 d).getD (.bool false) = .bool (decide (d ∈ also))) ∧ sep [cells b4 [.int .i64 done.x0, .int .i64 done.x1, .int .i64 done.x2, .int .i64 done.x3, .int .i64 done.x4, .int .i64 done.x5, .int .i64 done.x6] T_a7_int64, cells b7 [.map (some x.1)] T_m_api_Dot_bool, mp KD x.1 x.2] h
section
variable {W0 W : World} {L L' : List Asn} {C : Asn} {q : Dot → Bool} {p g c n b4 b7 : Nat} {a : Option Addr} {sl : List Ins} {done : P7 Int} {also : List Dot}
theorem isC_at (h : St W0 (isC b4 b7 done also :: L) W) : ∃ r m, (∀ d, (mget m d).getD (.bool false) = .bool (decide (d ∈ also))) ∧ St W0 (cells b4 [.int .i64 done.x0, .int .i64 done.x1, .int .i64 done.x2, .int .i64 done.x3, .int .i64 done.x4, .int .i64 done.x5, .int .i64 done.x6] T_a7_int64 :: cells b7 [.map (some r)] T_m_api_Dot_bool :: mp KD r m :: L) W := by
 obtain ⟨x, h⟩ := h.ex
 obtain ⟨h1, h⟩ := h.fact
 exact ⟨x.1, x.2, h1, h.flat⟩
theorem isC_ent {r : Nat} {m : List (Dot × Value)} (hm : ∀ d, (mget m d).getD (.bool false) = .bool (decide (d ∈ also))) : ent (cells b4 [.int .i64 done.x0, .int .i64 done.x1, .int .i64 done.x2, .int .i64 done.x3, .int .i64 done.x4, .int .i64 done.x5, .int .i64 done.x6] T_a7_int64 :: cells b7 [.map (some r)] T_m_api_Dot_bool :: mp KD r m :: L) (isC b4 b7 done also :: L) :=
 (ent.pack [_, _, _] L).trans (ent.weak fun _ hp => ⟨⟨r, m⟩, hm, hp⟩)
abbrev isFV (b4 b7 : Nat) : Value := .func (.func F_order_Line_1) #[] #[.pointer (some ⟨b4, 0, none⟩), .pointer (some ⟨b7, 0, none⟩)]
set_option maxRecDepth 100000 in
set_option maxHeartbeats 4000000 in
theorem isDone : DoneF (isC b4 b7 done also) (isFV b4 b7) (isO done also) := by
 intro d W0 L W k h1 h2 h hk
 refine ⟨CBok _ (by kernel_rfl), ?_⟩
 show callK PR F_order_Line_1 [KD d, .pointer (some ⟨b4, 0, none⟩), .pointer (some ⟨b7, 0, none⟩)] k W
 apply S.order_Line_1.call
 unfold S.order_Line_1.body
 obtain ⟨r, m, hm, h⟩ := isC_at h
 refine bxa h fun db W1 h => ?_
 have ei := idxA7i (z := b4) h1 h2
 have hlt : d.rep.toNat < 7 := by omega
 unfold isO at hk
 have fin : ∀ W', St W0 (cells db [.int .i64 d.rep, .int .i64 d.n] T_api_Dot :: cells b4 [.int .i64 done.x0, .int .i64 done.x1, .int .i64 done.x2, .int .i64 done.x3, .int .i64 done.x4, .int .i64 done.x5, .int .i64 done.x6] T_a7_int64 :: cells b7 [.map (some r)] T_m_api_Dot_bool :: mp KD r m :: L) W' → St W0 (isC b4 b7 done also :: L) W' := fun W' h => (h.drop).ent (isC_ent hm)
 (repeat (first | ((with_reducible refine v5 ?_); refine ⟨_, rfl, ?_⟩) | simp -implicitDefEqProofs only [SE, SU, SV, ei]))
 have e7 : getL false [.int .i64 done.x0, .int .i64 done.x1, .int .i64 done.x2, .int .i64 done.x3, .int .i64 done.x4, .int .i64 done.x5, .int .i64 done.x6] d.rep.toNat 1 = some (.int .i64 (done.get d.rep.toNat)) := by rcases P7.cases7 hlt with h | h | h | h | h | h | h <;> rw [h] <;> rfl
 refine w5 (by simp) ⟨_, e7, ?_⟩
 by_cases hle : d.n ≤ done.get d.rep.toNat
 ·have ed : decide (d.n ≤ done.get d.rep.toNat) = true := decide_eq_true hle
  rw [ed, Bool.true_or] at hk
  (repeat simp -implicitDefEqProofs only [SE, SU, SV, ed])
  exact hk _ (fin _ (by first | assumption | exact St.tick (by assumption) | exact St.tick (St.tick (by assumption))))
 ·have ed : decide (d.n ≤ done.get d.rep.toNat) = false := decide_eq_false hle
  rw [ed, Bool.false_or] at hk
  (repeat (first | ((with_reducible refine v5 ?_); refine ⟨_, rfl, ?_⟩) | simp -implicitDefEqProofs only [SE, SU, SV, ed]))
  refine lkp (K := KD) (z := .bool false) d (by first | assumption | exact St.tick (by assumption) | exact St.tick (St.tick (by assumption))) ?_
  rw [hm d]
  skip
  exact hk _ (fin _ (by first | assumption | exact St.tick (by assumption) | exact St.tick (St.tick (by assumption))))
end
end Go.Proofs.YtkjhccpanedccaaGreat
namespace Go.Proofs.YtkjhccpanedccaaGreat
set_option linter.unusedVariables false
set_option linter.unusedSimpArgs false
open Go Go.Eng Go.Tar Go.Sort
theorem goodO_iff {l : List Ins} : goodO l = true ↔ (∀ x ∈ l, insOne x = true ∧ depsO x = true) ∧ (l.map (·.d)).Nodup ∧ l.length ≤ 1000 := by
 unfold goodO
 simp only [Bool.and_eq_true, decide_eq_true_eq, List.all_eq_true, and_assoc]
theorem insOne_rep {x : Ins} (h : insOne x = true) : 0 ≤ x.d.rep ∧ x.d.rep < 7 := by
 unfold insOne dotO at h
 simp only [Bool.and_eq_true, decide_eq_true_eq] at h
 exact ⟨h.1.1.1.1.1, h.1.1.1.1.2⟩
noncomputable def lineO (q : Dot → Bool) (l : List Ins) : List Dot := dotsO (sortO (keptO q (l.filter fun x => !q x.d))) (lineF (onL (sortO (keptO q (l.filter fun x => !q x.d)))))
noncomputable def lineTop (done : P7 Int) (also : List Dot) (l : List Ins) : List Dot := if goodO l = true then lineO (isO done also) l else []
section
variable {W0 W : World} {L L' : List Asn} {C : Asn} {q : Dot → Bool} {p g c c2 n b4 b7 b10 : Nat} {a a2 : Option Addr} {l : List Ins} {done : P7 Int} {also : List Dot}
theorem lineF_vx {on : List (List Int)} (hO : OnOk on n) : ∀ v ∈ lineF on, Vx n v := by
 intro v hv
 obtain rfl := hO.len
 have hp := allOf_prt hO
 have := (line_law hO _ (Nat.le_refl _)).2.1
 unfold lineF at hv
 rw [this] at hv
 obtain ⟨g, hg, hv⟩ := List.mem_flatten.1 hv
 obtain ⟨i, _, rfl⟩ := List.mem_map.1 hg
 exact (hp.mem v).1 (memFlat hv)
theorem lineF_len {on : List (List Int)} (hO : OnOk on n) : (lineF on).length ≤ n := by
 obtain rfl := hO.len
 have hp := allOf_prt hO
 have hl := line_law hO _ (Nat.le_refl _)
 refine nodup_len ?_ (lineF_vx hO)
 unfold lineF
 rw [hl.2.1]
 have key : ∀ T : List Nat, T.Nodup → ((T.map fun g => (allOf on).getD g []).flatten).Nodup := by
  intro T
  induction T with
  | nil => intro _; simp
  | cons g T ih =>
   intro hn
   rw [List.nodup_cons] at hn
   rw [List.map_cons, List.flatten_cons, List.nodup_append]
   refine ⟨?_, ih hn.2, fun x hx y hy e => ?_⟩
   ·have hg : (allOf on).getD g [] = [] ∨ (allOf on).getD g [] ∈ allOf on := by
     by_cases h : g < (allOf on).length
     ·right; rw [List.getD_eq_getElem?_getD, List.getElem?_eq_getElem h]; exact List.getElem_mem h
     ·left; exact getD_ge (by omega)
    rcases hg with hg | hg
    ·rw [hg]; simp
    ·exact hp.nd.sublist (List.sublist_flatten_of_mem hg)
   ·subst e
    obtain ⟨t, ht, hxt⟩ := List.mem_flatten.1 hy
    obtain ⟨g', hg', rfl⟩ := List.mem_map.1 ht
    have := flat_uniq _ hp.nd g g' x hx hxt
    subst this; exact hn.1 hg'
 exact key _ hl.2.2.2.nd
theorem isPred (hl : ∀ x ∈ l, 0 ≤ x.d.rep ∧ x.d.rep < 7) : PredL PR INS true (sep [cells b10 [isFV b4 b7] T_t63, isC b4 b7 done also]) (.func (.func F_order_Line_2) #[] #[.pointer (some ⟨b10, 0, none⟩)]) (fun x => isO done also x.d) l := by
 intro x hx W0 L W k h hk
 refine ⟨CBok _ (by kernel_rfl), ?_⟩
 show callK PR F_order_Line_2 [.agg (INS.row x).toArray, .pointer (some ⟨b10, 0, none⟩)] k W
 obtain ⟨h1, h2⟩ := hl x hx
 have h : St W0 (cells b10 [isFV b4 b7] T_t63 :: isC b4 b7 done also :: L) W := h.flat
 apply S.order_Line_2.call
 unfold S.order_Line_2.body
 refine bxa h fun vb W1 h => ?_
 have h : St W0 (cells vb [.int .i64 x.d.rep, .int .i64 x.d.n, .int .i64 x.s, .int .i64 x.v.x0, .int .i64 x.v.x1, .int .i64 x.v.x2, .int .i64 x.v.x3, .int .i64 x.v.x4, .int .i64 x.v.x5, .int .i64 x.v.x6] T_order_Inst :: cells b10 [isFV b4 b7] T_t63 :: isC b4 b7 done also :: L) W1 := h
 (repeat (first | ((with_reducible refine v5 ?_); refine ⟨_, rfl, ?_⟩) | simp -implicitDefEqProofs only [SE, SU, SV]))
 refine isDone x.d W0 _ _ _ h1 h2 (St.wk (L' := isC b4 b7 done also :: cells b10 [isFV b4 b7] T_t63 :: L) (by first | assumption | exact St.tick (by assumption) | exact St.tick (St.tick (by assumption)))) fun W2 h => ?_
 skip
 exact hk _ ((St.wk (L' := cells b10 [isFV b4 b7] T_t63 :: isC b4 b7 done also :: L) (by first | assumption | exact St.tick (by assumption) | exact St.tick (St.tick (by assumption)))).ent (ent.pack [_, _] L))
set_option maxRecDepth 100000 in
set_option maxHeartbeats 4000000 in
theorem ordLine (h00 : W0.drawn = 0) (h : St W0 L W) [hr : Rd W0 L a INS l] [hr2 : Rd W0 L a2 DOT also] (hl : l.length < 1000000) (hal : also.length < 1000000) {k : Value → World → Prop}
  (hk : ∀ a' c' W', St W0 (arr DOT T_api_Dot a' c' (lineTop done also l) :: L) W' → k (.slice a' (lineTop done also l).length c') W') : callK PR F_order_Line [.slice a l.length c, .agg #[.int .i64 done.x0, .int .i64 done.x1, .int .i64 done.x2, .int .i64 done.x3, .int .i64 done.x4, .int .i64 done.x5, .int .i64 done.x6], .slice a2 also.length c2] k W := by
 apply S.order_Line.call
 unfold S.order_Line.body
 refine bxa h fun b4 W1 h => ?_
 have h : St W0 (cells b4 [.int .i64 done.x0, .int .i64 done.x1, .int .i64 done.x2, .int .i64 done.x3, .int .i64 done.x4, .int .i64 done.x5, .int .i64 done.x6] T_a7_int64 :: L) W1 := h
 refine ordGood (a := a) (l := l) h (by omega) fun W2 h => ?_
 unfold lineTop at hk
 cases hg : goodO l with
 | false =>
  rw [if_neg (by rw [hg]; simp)] at hk
  (repeat simp -implicitDefEqProofs only [SE, SU, SV])
  exact hk none 0 _ ((St.drop h).ent (arr_nil DOT T_api_Dot))
 | true =>
 rw [if_pos hg] at hk
 obtain ⟨hg1, hg2, hg3⟩ := goodO_iff.1 hg
 (repeat simp -implicitDefEqProofs only [SE, SU, SV])
 refine mkMap (K := KD) (by first | assumption | exact St.tick (by assumption) | exact St.tick (St.tick (by assumption))) fun r W3 h => ?_
 (repeat (first | ((with_reducible refine w11 ?_); intros) | ((with_reducible refine v12 ?_ ?_); exact rfl; intros) | ((with_reducible refine w12 ?_ ?_ ?_ ?_); simp; simp; simp [oneC]; intros)))
 rename_i b7 _ _ W4 h
 (try simp only [BLS, SB, stL_a, stL_b, stL_c, List.append_nil, List.take_nil, List.drop_nil, Nat.reduceAdd] at h)
 refine joinK_i ?_
 skip
 refine loop_c (σ := List (Dot × Value)) also.length (fun i _ => [.slice a l.length c, .pointer (some ⟨b4, 0, none⟩), .pointer (some ⟨b7, 0, none⟩), .slice a2 also.length c2, .int .i64 also.length, .int .i64 (i : Int)])
  (fun i m W1 => (∀ d, (mget m d).getD (.bool false) = .bool (decide (d ∈ also.take i))) ∧ St W0 (cells b4 [.int .i64 done.x0, .int .i64 done.x1, .int .i64 done.x2, .int .i64 done.x3, .int .i64 done.x4, .int .i64 done.x5, .int .i64 done.x6] T_a7_int64 :: cells b7 [.map (some r)] T_m_api_Dot_bool :: mp KD r m :: L) W1) [] rfl ⟨fun d => by simp [mget], St.wk (L' := cells b4 [.int .i64 done.x0, .int .i64 done.x1, .int .i64 done.x2, .int .i64 done.x3, .int .i64 done.x4, .int .i64 done.x5, .int .i64 done.x6] T_a7_int64 :: cells b7 [.map (some r)] T_m_api_Dot_bool :: mp KD r [] :: L) h⟩ ?_
 clear h
 rintro K i m W5 hi ⟨hm, h⟩ hK
 simp -implicitDefEqProofs only [SE, SU, SV]
 unfold S.order_Line.l1
 by_cases hlt : (i : Int) < (also.length : Int)
 ·have hib : i < also.length := by omega
  have ew : IntKind.i64.wrap ((i : Int) + 1) = ((i + 1 : Nat) : Int) := by rw [i64w]; omega
  (repeat simp -implicitDefEqProofs only [SE, SU, SV, hlt])
  refine ixA (i := i) (a := a2) (l := also) (A := DOT) (by first | assumption | exact St.tick (by assumption) | exact St.tick (St.tick (by assumption))) rfl rfl hib fun g1 o1 ha => ?_
  cases ha
  refine ldA0 (l := also) (A := DOT) (by first | assumption | exact St.tick (by assumption) | exact St.tick (St.tick (by assumption))) rfl hib (getL_val rfl (by decide) _) (by simp [DOT]) ?_
  refine newV (A := DOT) also[i] (by first | assumption | exact St.tick (by assumption) | exact St.tick (St.tick (by assumption))) rfl (by decide) rfl fun vb W11 h => ?_
  (repeat ((with_reducible refine v5 ?_); refine ⟨_, rfl, ?_⟩))
  refine ldV (A := DOT) also[i] (by first | assumption | exact St.tick (by assumption) | exact St.tick (St.tick (by assumption))) rfl (by decide) ?_
  refine mset (K := KD) also[i] (by first | assumption | exact St.tick (by assumption) | exact St.tick (St.tick (by assumption))) fun W6 h => ?_
  (repeat simp -implicitDefEqProofs only [SE, SU, SV, ew])
  refine hK (mput m also[i] (.bool true)) _ hib ⟨fun d => ?_, St.wk (by first | assumption | exact St.tick (by assumption) | exact St.tick (St.tick (by assumption)))⟩
  rw [List.take_succ_eq_append_getElem hib]
  rw [mget_mput]
  by_cases e : also[i] = d
  ·rw [if_pos e, decide_eq_true (List.mem_append.2 (.inr (by rw [e]; exact List.mem_singleton.2 rfl)))]; rfl
  ·have hiff : d ∈ also.take i ++ [also[i]] ↔ d ∈ also.take i := by
    rw [List.mem_append, List.mem_singleton]
    exact ⟨fun h => h.resolve_right fun h => e h.symm, .inl⟩
   rw [if_neg e, hm d, decide_eq_decide.2 hiff]
 ·have hil : i = also.length := by omega
  subst hil
  rw [List.take_length] at hm
  have h := h.ent (isC_ent (done := done) hm)
  (repeat simp -implicitDefEqProofs only [SE, SU, SV, hlt])
  unfold S.order_Line.j1
  (repeat (first | ((with_reducible refine w11 ?_); intros) | ((with_reducible refine v12 ?_ ?_); exact rfl; intros)))
  rename_i b10 _ h
  refine w12 ?_ ?_ ?_ (fun W6 h => ?_) h
  ·rfl
  ·exact Nat.le_refl 1
  ·rfl
  (try simp only [BLS, SB, stL_a, stL_b, stL_c, List.append_nil, List.take_nil, List.drop_nil, Nat.reduceAdd] at h)
  refine insClone (a := a) (l := l) h hl fun a3 c3 W7 h => ?_
  have h : St W0 (arr INS T_order_Inst a3 c3 l :: cells b10 [isFV b4 b7] T_t63 :: isC b4 b7 done also :: L) W7 := h
  have h := St.wk (L' := cells b10 [isFV b4 b7] T_t63 :: isC b4 b7 done also :: arr INS T_order_Inst a3 c3 l :: L) h
  have h := h.ent (ent.pack [_, _] _)
  refine deleteFunc_order_Inst_order_Inst (A := INS) (p := fun x => isO done also x.d) rfl h (isPred fun x hx => insOne_rep (hg1 x hx).1) (by omega) fun W8 h => ?_
  have h := h.flat
  simp only [List.cons_append, List.nil_append] at h
  have hrl : (l.filter fun x => !isO done also x.d).length ≤ 1000 := Nat.le_trans (List.length_filter_le _ _) hg3
  have hrn : ((l.filter fun x => !isO done also x.d).map (·.d)).Nodup := hg2.sublist (List.filter_sublist.map _)
  have hrd : ∀ x ∈ (l.filter fun x => !isO done also x.d), depsO x = true := fun x hx => (hg1 x (List.mem_filter.1 hx).1).2
  unfold lineO at hk
  generalize (l.filter fun x => !isO done also x.d) = rest at *
  (repeat ((with_reducible refine v5 ?_); refine ⟨_, rfl, ?_⟩))
  have h := St.wk (L' := isC b4 b7 done also :: cells b10 [isFV b4 b7] T_t63 :: arr INS T_order_Inst a3 c3 rest :: L) (by first | assumption | exact St.tick (by assumption) | exact St.tick (St.tick (by assumption)))
  refine ordKept (a := a3) (l := rest) isDone hrl hrn hrd h fun b td a4 c4 W9 hkb h => ?_
  rw [keep_kept hrn hkb] at h ⊢
  clear hkb
  have hks : (keptO (isO done also) rest).Sublist (sortO rest) := kept_sub
  have hkl : (keptO (isO done also) rest).length ≤ 1000 := by have := hks.length_le; rw [sortO_len] at this; omega
  have hkn : ((keptO (isO done also) rest).map (·.d)).Nodup := (sortO_nodup hrn).sublist (hks.map _)
  have hkd : ∀ x ∈ keptO (isO done also) rest, depsO x = true := fun x hx => hrd x ((sortO_perm rest).mem_iff.1 (hks.mem hx))
  generalize keptO (isO done also) rest = kp at *
  refine ordWeave (a := a4) (l := kp) h (by omega) hkn fun p W10 h => ?_
  have hsl := sortO_len kp
  have hsd : ∀ x ∈ sortO kp, depsO x = true := fun x hx => hkd x ((sortO_perm kp).mem_iff.1 hx)
  generalize sortO kp = sl at *
  have hO := onL_ok sl
  have hrl2 := onL_rl hsd
  refine ordOn (sl := sl) h (by omega) hsd fun a5 c5 W11 h => ?_
  refine ordLineI h00 (by rw [hO.len]; exact hO) (by rw [hO.len]; omega) (fun v => by have := hrl2 v; omega) h fun a6 c6 W12 h => ?_
  have hvx := lineF_vx hO
  have hvl := lineF_len hO
  have h := St.wk (L' := wb p sl :: arr I64 T_int a6 c6 (lineF (onL sl)) :: L) h
  refine ordDots (l := lineF (onL sl)) h hvx (by omega) fun a7 c7 W13 h => ?_
  exact hk a7 c7 _ (St.wk h)
end
end Go.Proofs.YtkjhccpanedccaaGreat
namespace Go.Proofs.YtkjhccpanedccaaGreat
set_option linter.unusedVariables false
set_option linter.unusedSimpArgs false
open Go.Eng
def S.bytes_Clone.body (R : Value → World → Prop) (v0 : Value) (W : World) : Prop :=
 okF (eqP (.slice T_uint8) .eql v0 (.slice none 0 0)) fun v4 =>
 ifK v4 (
 R (.slice none 0 0) W) (
 efK PR (Instr.buildSlice T_s_uint8 0 #[]) (fun v5 W =>
 efK PR (Builtin.append_ #[T_s_uint8, T_s_uint8] T_s_uint8 #[v5, v0]) (fun v7 W =>
 R v7 W) W) W)
def S.bytes_Clone.hint : Hint := (.two .nil (.two (.two .nil (.two (.two .nil .nil) .nil)) (.two .nil .nil)))
theorem S.bytes_Clone.ok (R : Value → World → Prop) (v0 : Value) (W : World) : bodyK PR CB Tryz.f44 S.bytes_Clone.hint [v0] R W = S.bytes_Clone.body R v0 W := by kernel_rfl
theorem S.bytes_Clone.fn : PR.funcs[F_bytes_Clone]? = some Tryz.f44 := by kernel_rfl
theorem S.bytes_Clone.call {R : Value → World → Prop} {v0 : Value} {W : World} (h : S.bytes_Clone.body R v0 W) : callK PR F_bytes_Clone [v0] R W :=
 callK_of_body (g := F_bytes_Clone) (fn := Tryz.f44) (args := [v0]) (R := R) (w := W) mixed CBok S.bytes_Clone.fn S.bytes_Clone.hint (by rw [S.bytes_Clone.ok]; exact h)
end Go.Proofs.YtkjhccpanedccaaGreat
namespace Go.Proofs.YtkjhccpanedccaaGreat
set_option linter.unusedVariables false
set_option linter.unusedSimpArgs false
open Go Go.Eng
section
variable {W0 W : World} {L L' : List Asn}
theorem bytesClone {a : Option Addr} {l : List UInt8} {c : Nat} {k : Value → World → Prop} (h : St W0 L W) [hr : Rd W0 L a B8 l] (hl : l.length < 70368744177664)
  (hk : ∀ a' c' W', St W0 (arr B8 T_uint8 a' c' l :: L) W' → k (.slice a' l.length c') W') : callK PR F_bytes_Clone [.slice a l.length c] k W := by
 apply S.bytes_Clone.call
 unfold S.bytes_Clone.body
 cases a with
 | none =>
  have hl0 : l = [] := by
   rcases Classical.em (l = []) with h0 | h0
   ·exact h0
   ·obtain ⟨g, o, h1, _⟩ := Rd.at (A := B8) (l := l) (a := none) h h0
    cases h1
  subst hl0
  simp -implicitDefEqProofs only [SE, SU, SV]
  exact hk none 0 W (h.ent (arr_nil _ _))
 | some ad =>
  simp -implicitDefEqProofs only [SE, SU, SV]
  refine bs0 B8 h fun a1 c1 W1 h1 => ?_
  refine appA (a := a1) (l := []) (m := l) h1 rfl (by simp; omega) (by simp [maxLen]; omega) fun a2 c2 W2 h2 => ?_
  exact hk a2 c2 W2 h2
@[reducible] def fch (x : BSl) : Asn := arr B8 T_uint8 x.a x.c x.bs
def InB (x : BSl) (B : List BSl) : Prop := x.bs = [] ∨ x ∈ B
theorem InB.cons {x y : BSl} {B : List BSl} (h : InB x B) : InB x (y :: B) := h.imp id fun h => List.mem_cons_of_mem _ h
theorem InB.head (x : BSl) (B : List BSl) : InB x (x :: B) := .inr (by simp)
theorem InB.nil (x : BSl) (B : List BSl) (h : x.bs = []) : InB x B := .inl h
theorem rdMany {x : BSl} {B : List BSl} (hx : InB x B) : Rd W0 (many fch B :: L) x.a B8 x.bs := ⟨fun W h => by
 rcases hx with hx | hx
 ·rw [hx]; exact .inl rfl
 ·obtain ⟨A, C, rfl⟩ := List.append_of_mem hx
  have h1 := h.ent ((many_perm (F := fch) (List.perm_middle (a := x) (l₁ := A) (l₂ := C))).trans (many_cons _ _))
  have hr : Rd W0 (arr B8 T_uint8 x.a x.c x.bs :: many fch (A ++ C) :: L) x.a B8 x.bs := inferInstance
  exact hr.ok W h1⟩
end
end Go.Proofs.YtkjhccpanedccaaGreat
namespace Go.Proofs.YtkjhccpanedccaaGreat
set_option linter.unusedVariables false
set_option linter.unusedSimpArgs false
open Go.Eng
def S.exec_New.body (R : Value → World → Prop) (W : World) : Prop :=
 efK PR (Instr.makeMap T_m_api_Dot_exec_command none) (fun v1 W =>
 efK PR (Instr.makeMap T_m_api_Dot_bool none) (fun v2 W =>
 okF (bldP (fun i => ([(0, 7), (7, 1), (8, 1), (9, 1), (10, 1)] : List (Nat × Nat))[i]?) [.int .i64 0, .int .i64 0, .int .i64 0, .int .i64 0, .int .i64 0, .int .i64 0, .int .i64 0, .map none, .slice none 0 0, .map none, .slice none 0 0] [(1, v1), (3, v2)]) fun v3 =>
 efK PR (Instr.box T_exec_Exec v3) (fun v4 W =>
 R v4 W) W) W) W
def S.exec_New.hint : Hint := (.two .nil (.two .nil .nil))
theorem S.exec_New.ok (R : Value → World → Prop) (W : World) : bodyK PR CB Tryz.f14 S.exec_New.hint [] R W = S.exec_New.body R  W := by kernel_rfl
theorem S.exec_New.fn : PR.funcs[F_exec_New]? = some Tryz.f14 := by kernel_rfl
theorem S.exec_New.call {R : Value → World → Prop} {W : World} (h : S.exec_New.body R  W) : callK PR F_exec_New [] R W :=
 callK_of_body (g := F_exec_New) (fn := Tryz.f14) (args := []) (R := R) (w := W) mixed CBok S.exec_New.fn S.exec_New.hint (by rw [S.exec_New.ok]; exact h)
def S.exec_Exec_Commit.body (R : Value → World → Prop) (v0 v1 v2 v3 : Value) (W : World) : Prop :=
 efK PR (Instr.box T_order_Inst v1) (fun v5 W =>
 efK PR (Instr.box T_vec_Vec v2) (fun v6 W =>
 rdK PR (Instr.loadAt T_order_Inst v5) (fun v11 W =>
 efK PR (Instr.buildSlice T_s_order_Inst 1 #[(0, v11)]) (fun v12 W =>
 callK PR F_order_Good [v12] (fun v13 W =>
 okF (unP .not v13) fun v14 =>
 gdK (wantd v14 false) (fun k W => rdK PR (Instr.loadAt T_vec_Vec v6) k W) (fun v16 W =>
 gdK (wantd v14 false) (fun k W => callK PR F_vec_Good [v16] k W) (fun v17 W =>
 gdK (wantd v14 false) (fun k W => okF (unP .not v17) fun v => k v W) (fun v18 W =>
 okF (pickP v14 (.bool true) v18) fun v19 =>
 gdK (wantd v19 false) (fun k W => k v3 W) (fun v21 W =>
 gdK (wantd v19 false) (fun k W => okF (lenP (.slice T_uint8) v21) fun v => k v W) (fun v22 W =>
 gdK (wantd v19 false) (fun k W => okF (binP .gtr v22 (.int .i64 65536)) fun v => k v W) (fun v23 W =>
 okF (pickP v19 (.bool true) v23) fun v24 =>
 ifK v24 (
 R (.int .i64 1) W) (
 okF (nilP v0) fun v27 =>
 okF (addrF 7 v27) fun v28 =>
 rdK PR (Instr.loadAt T_m_api_Dot_exec_command v28) (fun v29 W =>
 okF (addrF 0 v5) fun v30 =>
 rdK PR (Instr.loadAt T_api_Dot v30) (fun v31 W =>
 rdK PR (Instr.lookup T_m_api_Dot_exec_command v29 v31 true) (fun v32 W =>
 okF (extP 0 v32) fun v33 =>
 okF (extP 1 v32) fun v34 =>
 efK PR (Instr.alloc T_exec_command true (.tuple #[])) (fun v9 W =>
 stb PR [(6, true, (Instr.lookup T_m_api_Dot_exec_command v29 v31 true), v32), (5, true, (Instr.loadAt T_api_Dot v30), v31), (3, true, (Instr.loadAt T_m_api_Dot_exec_command v28), v29)] (fun W =>
 efK PR (Instr.storeAt T_exec_command v9 v33) (fun _ W =>
 ifK v34 (
 R (.int .i64 5) W) (
 okF (nilP v0) fun v37 =>
 okF (addrF 7 v37) fun v38 =>
 rdK PR (Instr.loadAt T_m_api_Dot_exec_command v38) (fun v39 W =>
 rdK PR (Builtin.len_ #[T_m_api_Dot_exec_command] T_int #[v39]) (fun v40 W =>
 okF (binP .geq v40 (.int .i64 1000)) fun v41 =>
 ifK v41 (
 R (.int .i64 2) W) (
 okF (nilP v0) fun v43 =>
 okF (addrF 7 v43) fun v44 =>
 rdK PR (Instr.loadAt T_m_api_Dot_exec_command v44) (fun v45 W =>
 okF (addrF 0 v5) fun v46 =>
 rdK PR (Instr.loadAt T_api_Dot v46) (fun v47 W =>
 rdK PR (Instr.loadAt T_order_Inst v5) (fun v48 W =>
 rdK PR (Instr.loadAt T_vec_Vec v6) (fun v49 W =>
 callK PR F_bytes_Clone [v3] (fun v51 W =>
 stb PR [(7, true, (Instr.loadAt T_vec_Vec v6), v49), (6, true, (Instr.loadAt T_order_Inst v5), v48), (5, true, (Instr.loadAt T_api_Dot v46), v47), (3, true, (Instr.loadAt T_m_api_Dot_exec_command v44), v45)] (fun W =>
 okF (bldP (fun i => ([(0, 10), (10, 7), (17, 1)] : List (Nat × Nat))[i]?) [.int .i64 0, .int .i64 0, .int .i64 0, .int .i64 0, .int .i64 0, .int .i64 0, .int .i64 0, .int .i64 0, .int .i64 0, .int .i64 0, .int .i64 0, .int .i64 0, .int .i64 0, .int .i64 0, .int .i64 0, .int .i64 0, .int .i64 0, .slice none 0 0] [(0, v48), (1, v49), (2, v51)]) fun v52 =>
 efK PR (Instr.mapUpdate T_m_api_Dot_exec_command v45 v47 v52) (fun _ W =>
 okF (nilP v0) fun v55 =>
 okF (addrF 8 v55) fun v56 =>
 rdK PR (Instr.loadAt T_s_order_Inst v56) (fun v57 W =>
 rdK PR (Instr.loadAt T_order_Inst v5) (fun v58 W =>
 efK PR (Instr.buildSlice T_s_order_Inst 1 #[(0, v58)]) (fun v59 W =>
 stb PR [(4, true, (Instr.loadAt T_s_order_Inst v56), v57)] (fun W =>
 efK PR (Builtin.append_ #[T_s_order_Inst, T_s_order_Inst] T_s_order_Inst #[v57, v59]) (fun v60 W =>
 okF (nilP v0) fun v61 =>
 okF (addrF 8 v61) fun v62 =>
 efK PR (Instr.storeAt T_s_order_Inst v62 v60) (fun _ W =>
 R (.int .i64 0) W) W) W) W) W) W) (tick W)) W) W) W) W) W) W) (tick W))) W) W)) W) W) W) W) W) (tick W))) W) W) W) W) W) W) W) W) W) W) W
def S.exec_Exec_Commit.hint : Hint := (.two .nil (.two (.two .nil (.two (.two .nil .nil) .nil)) (.two (.two .nil (.two .nil (.two (.two .nil .nil) .nil))) (.two (.two .nil (.two (.two .nil .nil) .nil)) (.two .nil (.two .nil (.two .nil .nil)))))))
theorem S.exec_Exec_Commit.ok (R : Value → World → Prop) (v0 v1 v2 v3 : Value) (W : World) : bodyK PR CB Tryz.f15 S.exec_Exec_Commit.hint [v0, v1, v2, v3] R W = S.exec_Exec_Commit.body R v0 v1 v2 v3 W := by kernel_rfl
theorem S.exec_Exec_Commit.fn : PR.funcs[F_exec_Exec_Commit]? = some Tryz.f15 := by kernel_rfl
theorem S.exec_Exec_Commit.call {R : Value → World → Prop} {v0 v1 v2 v3 : Value} {W : World} (h : S.exec_Exec_Commit.body R v0 v1 v2 v3 W) : callK PR F_exec_Exec_Commit [v0, v1, v2, v3] R W :=
 callK_of_body (g := F_exec_Exec_Commit) (fn := Tryz.f15) (args := [v0, v1, v2, v3]) (R := R) (w := W) mixed CBok S.exec_Exec_Commit.fn S.exec_Exec_Commit.hint (by rw [S.exec_Exec_Commit.ok]; exact h)
def S.exec_Exec_Have.j3 (R : Value → World → Prop) (x5 : Value) (W : World) : Prop :=
 R x5 W
def S.exec_Exec_Have.l1 (J3 : List Value → World → Prop) (K1 : List Value → World → Prop) (x0 x5 x56 x57 x58 : Value) (W : World) : Prop :=
 okF (binP .lss x58 x57) fun v59 =>
 ifK v59 (
 okF (idxS 2 x56 x58) fun v60 =>
 rdK PR (Instr.loadAt T_api_Dot v60) (fun v61 W =>
 efK PR (Instr.alloc T_api_Dot true (.tuple #[])) (fun v9 W =>
 efK PR (Instr.storeAt T_api_Dot v9 v61) (fun _ W =>
 rdK PR (Instr.loadAt T_api_Dot v9) (fun v63 W =>
 callK PR F_exec_Exec_Mark [x0, v63] (fun v64 W =>
 okF (binP .add x58 (.int .i64 1)) fun v65 =>
 K1 [x0, x5, x56, x57, v65] W) W) W) W) W) W) (
 J3 [x5] W)
def S.exec_Exec_Have.j2 (R : Value → World → Prop) (x0 x5 : Value) (W : World) : Prop :=
 joinK (fun s W => S.exec_Exec_Have.j3 R (nthv s 0) W) (fun J3 =>
 okF (lenP (.slice T_api_Dot) x5) fun v57 =>
 loopK (fun K1 s W => S.exec_Exec_Have.l1 J3 K1 (nthv s 0) (nthv s 1) (nthv s 2) (nthv s 3) (nthv s 4) W) [x0, x5, x5, v57, (.int .i64 0)] W)
def S.exec_Exec_Have.j4 (K2 : List Value → World → Prop) (x0 x5 x26 x27 x28 : Value) (W : World) : Prop :=
 okF (binP .add x28 (.int .i64 1)) fun v55 =>
 K2 [x0, x5, x26, x27, v55] W
def S.exec_Exec_Have.l2 (J2 : List Value → World → Prop) (K2 : List Value → World → Prop) (x0 x5 x26 x27 x28 : Value) (W : World) : Prop :=
 okF (binP .lss x28 x27) fun v29 =>
 ifK v29 (
 joinK (fun s W => S.exec_Exec_Have.j4 K2 (nthv s 0) (nthv s 1) (nthv s 2) (nthv s 3) (nthv s 4) W) (fun J4 =>
 okF (idxS 2 x26 x28) fun v30 =>
 rdK PR (Instr.loadAt T_api_Dot v30) (fun v31 W =>
 efK PR (Instr.alloc T_api_Dot true (.tuple #[])) (fun v7 W =>
 efK PR (Instr.storeAt T_api_Dot v7 v31) (fun _ W =>
 okF (nilP x0) fun v33 =>
 okF (addrF 9 v33) fun v34 =>
 rdK PR (Instr.loadAt T_m_api_Dot_bool v34) (fun v35 W =>
 rdK PR (Instr.loadAt T_api_Dot v7) (fun v36 W =>
 rdK PR (Instr.lookup T_m_api_Dot_bool v35 v36 false) (fun v37 W =>
 ifK v37 (
 J4 [x0, x5, x26, x27, x28] W) (
 okF (nilP x0) fun v39 =>
 okF (addrF 7 v39) fun v40 =>
 rdK PR (Instr.loadAt T_m_api_Dot_exec_command v40) (fun v41 W =>
 rdK PR (Instr.loadAt T_api_Dot v7) (fun v42 W =>
 rdK PR (Instr.lookup T_m_api_Dot_exec_command v41 v42 false) (fun v43 W =>
 okF (fldV true 10 7 v43) fun v44 =>
 okF (nilP x0) fun v46 =>
 okF (addrF 0 v46) fun v47 =>
 rdK PR (Instr.loadAt T_vec_Vec v47) (fun v48 W =>
 callK PR F_vec_Le [v44, v48] (fun v49 W =>
 okF (unP .not v49) fun v50 =>
 ifK v50 (
 J2 [x0, x5] W) (
 rdK PR (Instr.loadAt T_api_Dot v7) (fun v52 W =>
 efK PR (Instr.buildSlice T_s_api_Dot 1 #[(0, v52)]) (fun v53 W =>
 efK PR (Builtin.append_ #[T_s_api_Dot, T_s_api_Dot] T_s_api_Dot #[x5, v53]) (fun v54 W =>
 J4 [x0, v54, x26, x27, x28] W) W) W) W)) W) W) W) W) (tick W))) W) W) (tick W)) W) W) W)) (
 J2 [x0, x5] W)
def S.exec_Exec_Have.j1 (R : Value → World → Prop) (x0 : Value) (W : World) : Prop :=
 joinK (fun s W => S.exec_Exec_Have.j2 R (nthv s 0) (nthv s 1) W) (fun J2 =>
 okF (nilP x0) fun v22 =>
 okF (addrF 8 v22) fun v23 =>
 rdK PR (Instr.loadAt T_s_order_Inst v23) (fun v24 W =>
 okF (bldP (fun i => some (i * 1, 1)) [.int .i64 0, .int .i64 0, .int .i64 0, .int .i64 0, .int .i64 0, .int .i64 0, .int .i64 0] []) fun v25 =>
 callK PR F_order_Line [v24, v25, (.slice none 0 0)] (fun v26 W =>
 okF (lenP (.slice T_api_Dot) v26) fun v27 =>
 loopK (fun K2 s W => S.exec_Exec_Have.l2 J2 K2 (nthv s 0) (nthv s 1) (nthv s 2) (nthv s 3) (nthv s 4) W) [x0, (.slice none 0 0), v26, v27, (.int .i64 0)] W) W) W)
def S.exec_Exec_Have.body (R : Value → World → Prop) (v0 v1 : Value) (W : World) : Prop :=
 efK PR (Instr.box T_vec_Vec v1) (fun v3 W =>
 joinK (fun s W => S.exec_Exec_Have.j1 R (nthv s 0) W) (fun J1 =>
 rdK PR (Instr.loadAt T_vec_Vec v3) (fun v10 W =>
 callK PR F_vec_Good [v10] (fun v11 W =>
 ifK v11 (
 okF (nilP v0) fun v14 =>
 okF (addrF 0 v14) fun v15 =>
 rdK PR (Instr.loadAt T_vec_Vec v15) (fun v16 W =>
 rdK PR (Instr.loadAt T_vec_Vec v3) (fun v17 W =>
 callK PR F_vec_Merge [v16, v17] (fun v18 W =>
 okF (nilP v0) fun v19 =>
 okF (addrF 0 v19) fun v20 =>
 efK PR (Instr.storeAt T_vec_Vec v20 v18) (fun _ W =>
 J1 [v0] W) W) W) W) (tick W)) (
 J1 [v0] W)) W) W)) W
def S.exec_Exec_Have.hint : Hint := (.two .nil (.at [0] (.two .nil (.two .nil .nil)) (.two .nil (.at [0, 5] (.two .nil (.at [0, 5, 26, 27, 28] (.two .nil (.two (.two .nil .nil) (.at [0, 5, 26, 27, 28] (.two .nil (.two (.two .nil (.two .nil .nil)) (.two (.two .nil (.two .nil .nil)) .nil))) .nil))) .nil)) (.at [5] (.two .nil (.at [0, 5, 56, 57, 58] (.two .nil (.two (.two .nil .nil) (.two (.two .nil .nil) .nil))) .nil)) (.two .nil .nil))))))
theorem S.exec_Exec_Have.ok (R : Value → World → Prop) (v0 v1 : Value) (W : World) : bodyK PR CB Tryz.f18 S.exec_Exec_Have.hint [v0, v1] R W = S.exec_Exec_Have.body R v0 v1 W := by kernel_rfl
theorem S.exec_Exec_Have.fn : PR.funcs[F_exec_Exec_Have]? = some Tryz.f18 := by kernel_rfl
theorem S.exec_Exec_Have.call {R : Value → World → Prop} {v0 v1 : Value} {W : World} (h : S.exec_Exec_Have.body R v0 v1 W) : callK PR F_exec_Exec_Have [v0, v1] R W :=
 callK_of_body (g := F_exec_Exec_Have) (fn := Tryz.f18) (args := [v0, v1]) (R := R) (w := W) mixed CBok S.exec_Exec_Have.fn S.exec_Exec_Have.hint (by rw [S.exec_Exec_Have.ok]; exact h)
def S.exec_Exec_Waits.body (R : Value → World → Prop) (v0 : Value) (W : World) : Prop :=
 okF (nilP v0) fun v4 =>
 okF (addrF 8 v4) fun v5 =>
 rdK PR (Instr.loadAt T_s_order_Inst v5) (fun v6 W =>
 okF (lenP (.slice T_order_Inst) v6) fun v7 =>
 okF (nilP v0) fun v9 =>
 okF (addrF 10 v9) fun v10 =>
 rdK PR (Instr.loadAt T_s_api_Dot v10) (fun v11 W =>
 okF (lenP (.slice T_api_Dot) v11) fun v12 =>
 okF (binP .sub v7 v12) fun v13 =>
 R v13 W) W) (tick W)
def S.exec_Exec_Waits.hint : Hint := (.two .nil (.two .nil .nil))
theorem S.exec_Exec_Waits.ok (R : Value → World → Prop) (v0 : Value) (W : World) : bodyK PR CB Tryz.f22 S.exec_Exec_Waits.hint [v0] R W = S.exec_Exec_Waits.body R v0 W := by kernel_rfl
theorem S.exec_Exec_Waits.fn : PR.funcs[F_exec_Exec_Waits]? = some Tryz.f22 := by kernel_rfl
theorem S.exec_Exec_Waits.call {R : Value → World → Prop} {v0 : Value} {W : World} (h : S.exec_Exec_Waits.body R v0 W) : callK PR F_exec_Exec_Waits [v0] R W :=
 callK_of_body (g := F_exec_Exec_Waits) (fn := Tryz.f22) (args := [v0]) (R := R) (w := W) mixed CBok S.exec_Exec_Waits.fn S.exec_Exec_Waits.hint (by rw [S.exec_Exec_Waits.ok]; exact h)
def S.exec_Exec_Body.body (R : Value → World → Prop) (v0 v1 : Value) (W : World) : Prop :=
 efK PR (Instr.box T_api_Dot v1) (fun v3 W =>
 okF (nilP v0) fun v10 =>
 okF (addrF 7 v10) fun v11 =>
 rdK PR (Instr.loadAt T_m_api_Dot_exec_command v11) (fun v12 W =>
 rdK PR (Instr.loadAt T_api_Dot v3) (fun v13 W =>
 rdK PR (Instr.lookup T_m_api_Dot_exec_command v12 v13 true) (fun v14 W =>
 okF (extP 0 v14) fun v15 =>
 okF (extP 1 v14) fun v16 =>
 efK PR (Instr.alloc T_exec_command true (.tuple #[])) (fun v6 W =>
 stb PR [(5, true, (Instr.lookup T_m_api_Dot_exec_command v12 v13 true), v14), (4, true, (Instr.loadAt T_api_Dot v3), v13), (3, true, (Instr.loadAt T_m_api_Dot_exec_command v11), v12)] (fun W =>
 efK PR (Instr.storeAt T_exec_command v6 v15) (fun _ W =>
 okF (addrF 17 v6) fun v17 =>
 rdK PR (Instr.loadAt T_s_uint8 v17) (fun v18 W =>
 callK PR F_bytes_Clone [v18] (fun v19 W =>
 R (.tuple #[v19, v16]) W) W) W) W) W) W) W) W) (tick W)) W
def S.exec_Exec_Body.hint : Hint := (.two .nil (.two .nil (.two .nil .nil)))
theorem S.exec_Exec_Body.ok (R : Value → World → Prop) (v0 v1 : Value) (W : World) : bodyK PR CB Tryz.f20 S.exec_Exec_Body.hint [v0, v1] R W = S.exec_Exec_Body.body R v0 v1 W := by kernel_rfl
theorem S.exec_Exec_Body.fn : PR.funcs[F_exec_Exec_Body]? = some Tryz.f20 := by kernel_rfl
theorem S.exec_Exec_Body.call {R : Value → World → Prop} {v0 v1 : Value} {W : World} (h : S.exec_Exec_Body.body R v0 v1 W) : callK PR F_exec_Exec_Body [v0, v1] R W :=
 callK_of_body (g := F_exec_Exec_Body) (fn := Tryz.f20) (args := [v0, v1]) (R := R) (w := W) mixed CBok S.exec_Exec_Body.fn S.exec_Exec_Body.hint (by rw [S.exec_Exec_Body.ok]; exact h)
def S.exec_Exec_Done.body (R : Value → World → Prop) (v0 : Value) (W : World) : Prop :=
 okF (nilP v0) fun v4 =>
 okF (addrF 10 v4) fun v5 =>
 rdK PR (Instr.loadAt T_s_api_Dot v5) (fun v6 W =>
 callK PR F_slices_Clone_api_Dot_api_Dot [v6] (fun v7 W =>
 R v7 W) W) W
def S.exec_Exec_Done.hint : Hint := (.two .nil (.two .nil .nil))
theorem S.exec_Exec_Done.ok (R : Value → World → Prop) (v0 : Value) (W : World) : bodyK PR CB Tryz.f24 S.exec_Exec_Done.hint [v0] R W = S.exec_Exec_Done.body R v0 W := by kernel_rfl
theorem S.exec_Exec_Done.fn : PR.funcs[F_exec_Exec_Done]? = some Tryz.f24 := by kernel_rfl
theorem S.exec_Exec_Done.call {R : Value → World → Prop} {v0 : Value} {W : World} (h : S.exec_Exec_Done.body R v0 W) : callK PR F_exec_Exec_Done [v0] R W :=
 callK_of_body (g := F_exec_Exec_Done) (fn := Tryz.f24) (args := [v0]) (R := R) (w := W) mixed CBok S.exec_Exec_Done.fn S.exec_Exec_Done.hint (by rw [S.exec_Exec_Done.ok]; exact h)
def S.exec_Exec_Mark.body (R : Value → World → Prop) (v0 v1 : Value) (W : World) : Prop :=
 efK PR (Instr.box T_api_Dot v1) (fun v3 W =>
 okF (nilP v0) fun v9 =>
 okF (addrF 7 v9) fun v10 =>
 rdK PR (Instr.loadAt T_m_api_Dot_exec_command v10) (fun v11 W =>
 rdK PR (Instr.loadAt T_api_Dot v3) (fun v12 W =>
 rdK PR (Instr.lookup T_m_api_Dot_exec_command v11 v12 true) (fun v13 W =>
 okF (extP 0 v13) fun v14 =>
 okF (extP 1 v13) fun v15 =>
 efK PR (Instr.alloc T_exec_command true (.tuple #[])) (fun v5 W =>
 stb PR [(5, true, (Instr.lookup T_m_api_Dot_exec_command v11 v12 true), v13), (4, true, (Instr.loadAt T_api_Dot v3), v12), (3, true, (Instr.loadAt T_m_api_Dot_exec_command v10), v11)] (fun W =>
 efK PR (Instr.storeAt T_exec_command v5 v14) (fun _ W =>
 okF (unP .not v15) fun v17 =>
 gdK (wantd v17 false) (fun k W => k v0 W) (fun v19 W =>
 gdK (wantd v17 false) (fun k W => okF (nilP v19) fun v => k v W) (fun v20 W =>
 gdK (wantd v17 false) (fun k W => okF (addrF 9 v20) fun v => k v W) (fun v21 W =>
 gdK (wantd v17 false) (fun k W => rdK PR (Instr.loadAt T_m_api_Dot_bool v21) k W) (fun v22 W =>
 gdK (wantd v17 false) (fun k W => rdK PR (Instr.loadAt T_api_Dot v3) k W) (fun v23 W =>
 gdK (wantd v17 false) (fun k W => rdK PR (Instr.lookup T_m_api_Dot_bool v22 v23 false) k W) (fun v24 W =>
 okF (pickP v17 (.bool true) v24) fun v25 =>
 ifK v25 (
 R (.bool false) W) (
 okF (nilP v0) fun v27 =>
 okF (addrF 9 v27) fun v28 =>
 rdK PR (Instr.loadAt T_m_api_Dot_bool v28) (fun v29 W =>
 rdK PR (Instr.loadAt T_api_Dot v3) (fun v30 W =>
 efK PR (Instr.mapUpdate T_m_api_Dot_bool v29 v30 (.bool true)) (fun _ W =>
 okF (nilP v0) fun v33 =>
 okF (addrF 10 v33) fun v34 =>
 rdK PR (Instr.loadAt T_s_api_Dot v34) (fun v35 W =>
 rdK PR (Instr.loadAt T_api_Dot v3) (fun v36 W =>
 efK PR (Instr.buildSlice T_s_api_Dot 1 #[(0, v36)]) (fun v37 W =>
 stb PR [(4, true, (Instr.loadAt T_s_api_Dot v34), v35)] (fun W =>
 efK PR (Builtin.append_ #[T_s_api_Dot, T_s_api_Dot] T_s_api_Dot #[v35, v37]) (fun v38 W =>
 okF (nilP v0) fun v39 =>
 okF (addrF 10 v39) fun v40 =>
 efK PR (Instr.storeAt T_s_api_Dot v40 v38) (fun _ W =>
 R (.bool true) W) W) W) W) W) W) (tick W)) W) W) (tick W))) W) W) W) W) W) (tick W)) W) W) W) W) W) (tick W)) W
def S.exec_Exec_Mark.hint : Hint := (.two .nil (.two .nil (.two (.two .nil (.two (.two .nil .nil) .nil)) (.two .nil (.two .nil (.two .nil .nil))))))
theorem S.exec_Exec_Mark.ok (R : Value → World → Prop) (v0 v1 : Value) (W : World) : bodyK PR CB Tryz.f49 S.exec_Exec_Mark.hint [v0, v1] R W = S.exec_Exec_Mark.body R v0 v1 W := by kernel_rfl
theorem S.exec_Exec_Mark.fn : PR.funcs[F_exec_Exec_Mark]? = some Tryz.f49 := by kernel_rfl
theorem S.exec_Exec_Mark.call {R : Value → World → Prop} {v0 v1 : Value} {W : World} (h : S.exec_Exec_Mark.body R v0 v1 W) : callK PR F_exec_Exec_Mark [v0, v1] R W :=
 callK_of_body (g := F_exec_Exec_Mark) (fn := Tryz.f49) (args := [v0, v1]) (R := R) (w := W) mixed CBok S.exec_Exec_Mark.fn S.exec_Exec_Mark.hint (by rw [S.exec_Exec_Mark.ok]; exact h)
def S.slices_Clone_api_Dot_api_Dot.body (R : Value → World → Prop) (v0 : Value) (W : World) : Prop :=
 okF (eqP (.slice T_api_Dot) .eql v0 (.slice none 0 0)) fun v4 =>
 ifK v4 (
 R (.slice none 0 0) W) (
 efK PR (Instr.buildSlice T_s_api_Dot 0 #[]) (fun v5 W =>
 efK PR (Builtin.append_ #[T_s_api_Dot, T_s_api_Dot] T_s_api_Dot #[v5, v0]) (fun v7 W =>
 R v7 W) W) W)
def S.slices_Clone_api_Dot_api_Dot.hint : Hint := (.two .nil (.two (.two .nil (.two (.two .nil .nil) .nil)) (.two .nil .nil)))
theorem S.slices_Clone_api_Dot_api_Dot.ok (R : Value → World → Prop) (v0 : Value) (W : World) : bodyK PR CB Tryz.f55 S.slices_Clone_api_Dot_api_Dot.hint [v0] R W = S.slices_Clone_api_Dot_api_Dot.body R v0 W := by kernel_rfl
theorem S.slices_Clone_api_Dot_api_Dot.fn : PR.funcs[F_slices_Clone_api_Dot_api_Dot]? = some Tryz.f55 := by kernel_rfl
theorem S.slices_Clone_api_Dot_api_Dot.call {R : Value → World → Prop} {v0 : Value} {W : World} (h : S.slices_Clone_api_Dot_api_Dot.body R v0 W) : callK PR F_slices_Clone_api_Dot_api_Dot [v0] R W :=
 callK_of_body (g := F_slices_Clone_api_Dot_api_Dot) (fn := Tryz.f55) (args := [v0]) (R := R) (w := W) mixed CBok S.slices_Clone_api_Dot_api_Dot.fn S.slices_Clone_api_Dot_api_Dot.hint (by rw [S.slices_Clone_api_Dot_api_Dot.ok]; exact h)
end Go.Proofs.YtkjhccpanedccaaGreat
namespace Go.Proofs.YtkjhccpanedccaaGreat
set_option linter.unusedVariables false
set_option linter.unusedSimpArgs false
open Go Go.Eng Go.Tar Go.Sort
structure Cmd where
 i : Ins
 w : P7 Int
 bs : List UInt8
structure CmdX where
 i : Ins
 w : P7 Int
 b : BSl
def CmdX.er (c : CmdX) : Cmd := ⟨c.i, c.w, c.b.bs⟩
abbrev CmdX.val (c : CmdX) : Value := .agg #[.int .i64 c.i.d.rep, .int .i64 c.i.d.n, .int .i64 c.i.s, .int .i64 c.i.v.x0, .int .i64 c.i.v.x1, .int .i64 c.i.v.x2, .int .i64 c.i.v.x3, .int .i64 c.i.v.x4, .int .i64 c.i.v.x5, .int .i64 c.i.v.x6, .int .i64 c.w.x0, .int .i64 c.w.x1, .int .i64 c.w.x2, .int .i64 c.w.x3, .int .i64 c.w.x4, .int .i64 c.w.x5, .int .i64 c.w.x6, c.b.v]
structure XS where
 have_ : P7 Int
 cs : List Cmd
 done : List Dot
abbrev XS.ins (s : XS) : List Ins := s.cs.map (·.i)
def XS.new : XS := ⟨P7.all 0, [], []⟩
def XS.find (s : XS) (d : Dot) : Option Cmd := s.cs.find? fun c => decide (c.i.d = d)
abbrev cmd0 : Value := .agg #[.int .i64 0, .int .i64 0, .int .i64 0, .int .i64 0, .int .i64 0, .int .i64 0, .int .i64 0, .int .i64 0, .int .i64 0, .int .i64 0, .int .i64 0, .int .i64 0, .int .i64 0, .int .i64 0, .int .i64 0, .int .i64 0, .int .i64 0, .slice none 0 0]
structure XX where
 ys : List CmdX
 r1 : Nat
 r2 : Nat
 m : List (Dot × Value)
 la : Option Addr
 lc : Nat
 da : Option Addr
 dc : Nat
abbrev kv (ys : List CmdX) : List (Dot × Value) := ys.map fun y => (y.i.d, y.val)
def XX.ok (x : XX) (s : XS) : Prop := x.ys.map CmdX.er = s.cs ∧ ∀ d, (mget x.m d).getD (.bool false) = .bool (decide (d ∈ s.done))
def exo (p : Nat) (s : XS) : Asn := fun h => ∃ x : XX, x.ok s ∧ sep [cells p [.int .i64 s.have_.x0, .int .i64 s.have_.x1, .int .i64 s.have_.x2, .int .i64 s.have_.x3, .int .i64 s.have_.x4, .int .i64 s.have_.x5, .int .i64 s.have_.x6, .map (some x.r1), .slice x.la s.cs.length x.lc, .map (some x.r2), .slice x.da s.done.length x.dc] T_exec_Exec,
 mp KD x.r1 (kv x.ys), mp KD x.r2 x.m, arr INS T_order_Inst x.la x.lc s.ins, arr DOT T_api_Dot x.da x.dc s.done, many fch (x.ys.map (·.b))] h
section
variable {W0 W : World} {L L' : List Asn} {p : Nat} {s : XS}
theorem exo_at (h : St W0 (exo p s :: L) W) : ∃ x : XX, x.ok s ∧ St W0 (cells p [.int .i64 s.have_.x0, .int .i64 s.have_.x1, .int .i64 s.have_.x2, .int .i64 s.have_.x3, .int .i64 s.have_.x4, .int .i64 s.have_.x5, .int .i64 s.have_.x6, .map (some x.r1), .slice x.la s.cs.length x.lc, .map (some x.r2), .slice x.da s.done.length x.dc] T_exec_Exec ::
  mp KD x.r1 (kv x.ys) :: mp KD x.r2 x.m :: arr INS T_order_Inst x.la x.lc s.ins :: arr DOT T_api_Dot x.da x.dc s.done :: many fch (x.ys.map (·.b)) :: L) W := by
 obtain ⟨x, h⟩ := h.ex
 obtain ⟨h1, h⟩ := h.fact
 exact ⟨x, h1, h.flat⟩
theorem exo_of (x : XX) (hx : x.ok s) (h : St W0 (cells p [.int .i64 s.have_.x0, .int .i64 s.have_.x1, .int .i64 s.have_.x2, .int .i64 s.have_.x3, .int .i64 s.have_.x4, .int .i64 s.have_.x5, .int .i64 s.have_.x6, .map (some x.r1), .slice x.la s.cs.length x.lc, .map (some x.r2), .slice x.da s.done.length x.dc] T_exec_Exec ::
  mp KD x.r1 (kv x.ys) :: mp KD x.r2 x.m :: arr INS T_order_Inst x.la x.lc s.ins :: arr DOT T_api_Dot x.da x.dc s.done :: many fch (x.ys.map (·.b)) :: L) W) : St W0 (exo p s :: L) W :=
 h.ent ((ent.pack [_, _, _, _, _, _] L).trans (ent.weak fun _ hp => ⟨x, hx, hp⟩))
theorem mlen {P : Program} {κ : Type} {t kt et ty : TypeId} {K : κ → Value} {r : Nat} {l : List (κ × Value)} [hT : MapT P t kt et] {k : Value → World → Prop} (h : St W0 L W) [hm : Tk (Eng.mp K r) L l L'] (hk : k (.int .i64 l.length) W) : rdK P (Builtin.len_ #[t] ty #[.map (some r)]) k W := by
 obtain ⟨es, clock, h1, h2, h3⟩ := (h.perm hm.perm).mp
 have hb := h3.blk.2
 have hl : es.size = l.length := by have := congrArg List.length h1; simpa [mpL] using this
 refine ⟨.int .i64 l.length, ?_, hk⟩
 simp [Builtin.len_, run_underlying hT.ok, MapKept.run_getObj_map hb, goInt, hl]
theorem stb_lkpOk {P : Program} {κ : Type} {t kt et : TypeId} {K : κ → Value} {r : Nat} {l : List (κ × Value)} [DecidableEq κ] [hT : MapT P t kt et] [hK : KeyT P kt K] {z : Value} [hz : TyZ P et z] (a : κ) {ii : Nat} {bb : Bool} {hl : List HoldV} {R : World → Prop} (h : St W0 L W) [hm : Tk (Eng.mp K r) L l L'] (hk : stb P hl R W) :
  stb P ((ii, bb, Instr.lookup t (.map (some r)) (K a) true, .tuple #[(mget l a).getD z, .bool (mget l a).isSome]) :: hl) R W := ⟨fun _ => by rw [lookup_run (a := a) true (h.perm hm.perm)]; rfl, hk⟩
theorem stb_kv {ys : List CmdX} {r : Nat} {d : Dot} {v : Value} {ii : Nat} {bb : Bool} {hl : List HoldV} {R : World → Prop} (h : St W0 L W) [hm : Tk (Eng.mp KD r) L (kv ys) L'] (hv : v = .tuple #[(mget (kv ys) d).getD cmd0, .bool (mget (kv ys) d).isSome]) (hk : stb PR hl R W) :
  stb PR ((ii, bb, Instr.lookup T_m_api_Dot_exec_command (.map (some r)) (KD d) true, v) :: hl) R W := by
 subst hv; exact stb_lkpOk (K := KD) (z := cmd0) d h hk
theorem kv_get (ys : List CmdX) (d : Dot) : mget (kv ys) d = (ys.find? fun y => decide (y.i.d = d)).map CmdX.val := by
 induction ys with
 | nil => rfl
 | cons y ys ih =>
  simp only [kv, List.map_cons, mget, List.find?_cons]
  by_cases h : y.i.d = d
  ·simp [h]
  ·simp only [if_neg h, decide_eq_false h]; exact ih
theorem find_er {ys : List CmdX} (h : ys.map CmdX.er = s.cs) (d : Dot) : s.find d = (ys.find? fun y => decide (y.i.d = d)).map CmdX.er := by
 unfold XS.find
 rw [← h, List.find?_map]; rfl
theorem execNew {k : Value → World → Prop} (h : St W0 L W) (hk : ∀ p W', St W0 (exo p XS.new :: L) W' → k (.pointer (some ⟨p, 0, none⟩)) W') : callK PR F_exec_New [] k W := by
 apply S.exec_New.call
 unfold S.exec_New.body
 refine mkMap (K := KD) h fun r1 W1 h => ?_
 refine mkMap (K := KD) h fun r2 W2 h => ?_
 (repeat (first | ((with_reducible refine w3 ?_); intros) | (refine okF_i (bldP_eq rfl) ?_; try simp only [BLS, SB, Nat.reduceAdd])))
 rename_i p W3 h
 (try simp only [BLS, SB, stL_a, stL_b, stL_c, List.append_nil, List.take_nil, List.drop_nil, Nat.reduceAdd] at h)
 have h := ((h.ent (arr_nil INS T_order_Inst)).ent (arr_nil DOT T_api_Dot)).ent (many_nil (F := fch))
 exact hk p _ (exo_of (s := XS.new) ⟨[], r1, r2, [], none, 0, none, 0⟩ ⟨rfl, fun d => rfl⟩ (St.wk (L' := cells p [.int .i64 0, .int .i64 0, .int .i64 0, .int .i64 0, .int .i64 0, .int .i64 0, .int .i64 0, .map (some r1), .slice none 0 0, .map (some r2), .slice none 0 0] T_exec_Exec :: mp KD r1 [] :: mp KD r2 [] :: arr INS T_order_Inst none 0 [] :: arr DOT T_api_Dot none 0 [] :: many fch [] :: L) h))
def XS.commit (s : XS) (i : Ins) (w : P7 Int) (bs : List UInt8) : XS × Int :=
 if goodO [i] = false ∨ goodV w = false ∨ 65536 < bs.length then (s, 1)
 else if (s.find i.d).isSome then (s, 5)
 else if 1000 ≤ s.cs.length then (s, 2)
 else (⟨s.have_, s.cs ++ [⟨i, w, bs⟩], s.done⟩, 0)
set_option maxRecDepth 100000 in
set_option maxHeartbeats 8000000 in
theorem execCommit {i : Ins} {w : P7 Int} {a : Option Addr} {c : Nat} {bs : List UInt8} {k : Value → World → Prop} (h : St W0 (exo p s :: L) W) [hr : Rd W0 L a B8 bs]
  (hk : ∀ W', St W0 (exo p (s.commit i w bs).1 :: L) W' → k (.int .i64 (s.commit i w bs).2) W') : callK PR F_exec_Exec_Commit [.pointer (some ⟨p, 0, none⟩), .agg #[.int .i64 i.d.rep, .int .i64 i.d.n, .int .i64 i.s, .int .i64 i.v.x0, .int .i64 i.v.x1, .int .i64 i.v.x2, .int .i64 i.v.x3, .int .i64 i.v.x4, .int .i64 i.v.x5, .int .i64 i.v.x6], .agg #[.int .i64 w.x0, .int .i64 w.x1, .int .i64 w.x2, .int .i64 w.x3, .int .i64 w.x4, .int .i64 w.x5, .int .i64 w.x6], .slice a bs.length c] k W := by
 apply S.exec_Exec_Commit.call
 unfold S.exec_Exec_Commit.body
 refine bxa h fun ib W1 h => ?_
 refine bxa h fun wb_ W1 h => ?_
 have h : St W0 (cells wb_ [.int .i64 w.x0, .int .i64 w.x1, .int .i64 w.x2, .int .i64 w.x3, .int .i64 w.x4, .int .i64 w.x5, .int .i64 w.x6] T_vec_Vec :: cells ib [.int .i64 i.d.rep, .int .i64 i.d.n, .int .i64 i.s, .int .i64 i.v.x0, .int .i64 i.v.x1, .int .i64 i.v.x2, .int .i64 i.v.x3, .int .i64 i.v.x4, .int .i64 i.v.x5, .int .i64 i.v.x6] T_order_Inst :: exo p s :: L) W1 := h
 (repeat (first | ((with_reducible refine v5 ?_); refine ⟨_, rfl, ?_⟩) | simp -implicitDefEqProofs only [SE, SU, SV]))
 refine bsA INS [i] (n := 1) (by first | assumption | exact St.tick (by assumption) | exact St.tick (St.tick (by assumption))) rfl rfl (by decide) (by decide) rfl fun a1 c1 W2 h => ?_
 refine ordGood (a := a1) (l := [i]) h (by simp) fun W3 h => ?_
 have h := St.wk (L' := cells wb_ [.int .i64 w.x0, .int .i64 w.x1, .int .i64 w.x2, .int .i64 w.x3, .int .i64 w.x4, .int .i64 w.x5, .int .i64 w.x6] T_vec_Vec :: cells ib [.int .i64 i.d.rep, .int .i64 i.d.n, .int .i64 i.s, .int .i64 i.v.x0, .int .i64 i.v.x1, .int .i64 i.v.x2, .int .i64 i.v.x3, .int .i64 i.v.x4, .int .i64 i.v.x5, .int .i64 i.v.x6] T_order_Inst :: exo p s :: L) h
 unfold XS.commit at hk
 cases hg : goodO [i] with
 | false =>
  rw [if_pos (.inl hg)] at hk
  (repeat simp -implicitDefEqProofs only [SE, SU, SV])
  exact hk _ (St.wk (by first | assumption | exact St.tick (by assumption) | exact St.tick (St.tick (by assumption))))
 | true =>
 cases hw : goodV w with
 | false =>
  rw [if_pos (.inr (.inl hw))] at hk
  have hw2 : goodV ⟨w.x0, w.x1, w.x2, w.x3, w.x4, w.x5, w.x6⟩ = false := hw
  (repeat (first | ((with_reducible refine w1 ?_); intros) | ((with_reducible refine v5 ?_); refine ⟨_, rfl, ?_⟩) | simp -implicitDefEqProofs only [SE, SU, SV, hw2]))
  exact hk _ (St.wk (by first | assumption | exact St.tick (by assumption) | exact St.tick (St.tick (by assumption))))
 | true =>
 have hw2 : goodV ⟨w.x0, w.x1, w.x2, w.x3, w.x4, w.x5, w.x6⟩ = true := hw
 by_cases hl : (65536 : Int) < (bs.length : Int)
 ·rw [if_pos (.inr (.inr (by omega)))] at hk
  (repeat (first | ((with_reducible refine w1 ?_); intros) | ((with_reducible refine v5 ?_); refine ⟨_, rfl, ?_⟩) | simp -implicitDefEqProofs only [SE, SU, SV, hw2, hl]))
  exact hk _ (St.wk (by first | assumption | exact St.tick (by assumption) | exact St.tick (St.tick (by assumption))))
 rw [if_neg (by rintro (h | h | h); rw [hg] at h; cases h; rw [hw] at h; cases h; omega)] at hk
 (repeat (first | ((with_reducible refine w1 ?_); intros) | ((with_reducible refine v5 ?_); refine ⟨_, rfl, ?_⟩) | simp -implicitDefEqProofs only [SE, SU, SV, hw2, hl]))
 obtain ⟨⟨ys, r1, r2, m, la, lc, da, dc⟩, hx, h⟩ := exo_at (St.wk (L' := exo p s :: cells wb_ [.int .i64 w.x0, .int .i64 w.x1, .int .i64 w.x2, .int .i64 w.x3, .int .i64 w.x4, .int .i64 w.x5, .int .i64 w.x6] T_vec_Vec :: cells ib [.int .i64 i.d.rep, .int .i64 i.d.n, .int .i64 i.s, .int .i64 i.v.x0, .int .i64 i.v.x1, .int .i64 i.v.x2, .int .i64 i.v.x3, .int .i64 i.v.x4, .int .i64 i.v.x5, .int .i64 i.v.x6] T_order_Inst :: L) (by first | assumption | exact St.tick (by assumption) | exact St.tick (St.tick (by assumption))))
 obtain ⟨hy, hm⟩ := hx
 simp only at hy hm h
 have hgk := kv_get ys i.d
 have hyl : ys.length = s.cs.length := by rw [← hy, List.length_map]
 rw [find_er hy] at hk
 have fin : ∀ W', St W0 (cells p [.int .i64 s.have_.x0, .int .i64 s.have_.x1, .int .i64 s.have_.x2, .int .i64 s.have_.x3, .int .i64 s.have_.x4, .int .i64 s.have_.x5, .int .i64 s.have_.x6, .map (some r1), .slice la s.cs.length lc, .map (some r2), .slice da s.done.length dc] T_exec_Exec :: mp KD r1 (kv ys) :: mp KD r2 m :: arr INS T_order_Inst la lc s.ins :: arr DOT T_api_Dot da dc s.done :: many fch (ys.map (·.b)) :: L) W' → St W0 (exo p s :: L) W' := fun W' h =>
  exo_of ⟨ys, r1, r2, m, la, lc, da, dc⟩ ⟨hy, hm⟩ h
 (repeat (first | ((with_reducible refine v5 ?_); refine ⟨_, rfl, ?_⟩) | simp -implicitDefEqProofs only [SE, SU, SV]))
 refine lkpOk (K := KD) (z := cmd0) i.d (by first | assumption | exact St.tick (by assumption) | exact St.tick (St.tick (by assumption))) ?_
 cases hf : ys.find? (fun y => decide (y.i.d = i.d)) with
 | some y =>
  rw [hf] at hgk hk
  rw [if_pos (by rfl)] at hk
  rw [Option.map_some] at hgk
  rw [hgk]
  simp only [Option.getD_some, Option.isSome_some]
  (repeat (first | ((with_reducible refine w11 ?_); intros) | simp -implicitDefEqProofs only [SE, SU, SV]))
  refine stb_kv (ys := ys) (d := i.d) (by first | assumption | exact St.tick (by assumption) | exact St.tick (St.tick (by assumption))) (by rw [hgk]; rfl) ?_
  (repeat (first | ((with_reducible refine stb_n ?_); intros) | ((with_reducible first | refine v8 ?_ ?_ | refine v12 ?_ ?_); exact rfl; intros) | ((with_reducible refine w12 ?_ ?_ ?_ ?_); simp; simp; simp [oneC]; intros)))
  exact hk _ (fin _ (St.wk (by first | assumption | exact St.tick (by assumption) | exact St.tick (St.tick (by assumption)))))
 | none =>
  rw [hf] at hgk hk
  rw [if_neg (by simp)] at hk
  rw [Option.map_none] at hgk
  rw [hgk]
  simp only [Option.getD_none, Option.isSome_none]
  (repeat (first | ((with_reducible refine w11 ?_); intros) | simp -implicitDefEqProofs only [SE, SU, SV]))
  refine stb_kv (ys := ys) (d := i.d) (by first | assumption | exact St.tick (by assumption) | exact St.tick (St.tick (by assumption))) (by rw [hgk]; rfl) ?_
  (repeat (first | ((with_reducible refine stb_n ?_); intros) | ((with_reducible refine v5 ?_); refine ⟨_, rfl, ?_⟩) | ((with_reducible first | refine v8 ?_ ?_ | refine v12 ?_ ?_); exact rfl; intros) | ((with_reducible refine w12 ?_ ?_ ?_ ?_); simp; simp; simp [oneC]; intros)))
  refine mlen (K := KD) (l := kv ys) (by first | assumption | exact St.tick (by assumption) | exact St.tick (St.tick (by assumption))) ?_
  have ekl : (kv ys).length = s.cs.length := by simp [kv, hyl]
  rw [ekl]
  by_cases h1000 : (1000 : Int) ≤ (s.cs.length : Int)
  ·rw [if_pos (by omega)] at hk
   (repeat simp -implicitDefEqProofs only [SE, SU, SV, h1000])
   exact hk _ (fin _ (St.wk (by first | assumption | exact St.tick (by assumption) | exact St.tick (St.tick (by assumption)))))
  rw [if_neg (by omega)] at hk
  (repeat (first | ((with_reducible refine v5 ?_); refine ⟨_, rfl, ?_⟩) | simp -implicitDefEqProofs only [SE, SU, SV, h1000]))
  refine bytesClone (a := a) (l := bs) (by first | assumption | exact St.tick (by assumption) | exact St.tick (St.tick (by assumption))) (by omega) fun a9 c9 W9 h => ?_
  (repeat (first | ((with_reducible refine stb_n ?_); intros) | ((with_reducible refine v8 ?_ ?_); exact rfl; intros) | (refine okF_i (bldP_eq rfl) ?_; try simp only [BLS, SB, Nat.reduceAdd])))
  refine mset (K := KD) i.d (by first | assumption | exact St.tick (by assumption) | exact St.tick (St.tick (by assumption))) fun W10 h => ?_
  have hno : ∀ q ∈ kv ys, q.1 ≠ i.d := fun q hq e => by
   obtain ⟨y, hym, rfl⟩ := List.mem_map.1 hq
   exact List.find?_eq_none.1 hf y hym (decide_eq_true e)
  rw [mput_new hno] at h
  have hins : s.ins.length = s.cs.length := by unfold XS.ins; rw [List.length_map]
  (repeat (first | ((with_reducible refine v5 ?_); refine ⟨_, rfl, ?_⟩) | simp -implicitDefEqProofs only [SE, SU, SV]))
  refine bsA INS [i] (n := 1) (by first | assumption | exact St.tick (by assumption) | exact St.tick (St.tick (by assumption))) rfl rfl (by decide) (by decide) rfl fun a5 c5 W11 h => ?_
  (repeat (first | ((with_reducible refine stb_n ?_); intros) | ((with_reducible refine v8 ?_ ?_); exact rfl; intros)))
  rw [← hins]
  refine appA (A := INS) (a := la) (l := s.ins) (m := [i]) (by first | assumption | exact St.tick (by assumption) | exact St.tick (St.tick (by assumption))) rfl (by simp only [List.length_cons, List.length_nil]; omega) (by simp only [List.length_cons, List.length_nil, maxLen]; omega) fun a6 c6 W12 h => ?_
  (repeat ((with_reducible refine v12 ?_ ?_); exact rfl; intros))
  rename_i W13 h
  (try simp only [BLS, SB, stL_a, stL_b, stL_c, List.append_nil, List.take_nil, List.drop_nil, Nat.reduceAdd] at h)
  refine hk _ ?_
  have hl6 : (s.ins ++ [i]).length = (s.cs ++ [(⟨i, w, bs⟩ : Cmd)]).length := by simp [hins]
  rw [hl6] at h
  have h := St.wk (L' := fch ⟨a9, c9, bs⟩ :: many fch (ys.map (·.b)) :: cells p [.int .i64 s.have_.x0, .int .i64 s.have_.x1, .int .i64 s.have_.x2, .int .i64 s.have_.x3, .int .i64 s.have_.x4, .int .i64 s.have_.x5, .int .i64 s.have_.x6, .map (some r1), .slice a6 (s.cs ++ [(⟨i, w, bs⟩ : Cmd)]).length c6, .map (some r2), .slice da s.done.length dc] T_exec_Exec ::
   mp KD r1 (kv ys ++ [(i.d, CmdX.val ⟨i, w, ⟨a9, c9, bs⟩⟩)]) :: mp KD r2 m :: arr INS T_order_Inst a6 c6 (s.ins ++ [i]) :: arr DOT T_api_Dot da dc s.done :: L) h
  have h := (h.ent (many_uncons (F := fch) _ _)).ent (many_perm (F := fch) (List.perm_append_comm (l₁ := [(⟨a9, c9, bs⟩ : BSl)]) (l₂ := ys.map CmdX.b)))
  have ek : kv ys ++ [(i.d, CmdX.val ⟨i, w, ⟨a9, c9, bs⟩⟩)] = kv (ys ++ [⟨i, w, ⟨a9, c9, bs⟩⟩]) := by simp [kv]
  have eb : ys.map (·.b) ++ [(⟨a9, c9, bs⟩ : BSl)] = (ys ++ [(⟨i, w, ⟨a9, c9, bs⟩⟩ : CmdX)]).map (·.b) := by simp
  have ei : s.ins ++ [i] = XS.ins ⟨s.have_, s.cs ++ [⟨i, w, bs⟩], s.done⟩ := by simp [XS.ins]
  rw [ek, eb, ei] at h
  refine exo_of (p := p) (L := L) (s := ⟨s.have_, s.cs ++ [⟨i, w, bs⟩], s.done⟩) ⟨ys ++ [⟨i, w, ⟨a9, c9, bs⟩⟩], r1, r2, m, a6, c6, da, dc⟩ ⟨by show (ys ++ _).map CmdX.er = s.cs ++ _; rw [List.map_append, hy]; rfl, hm⟩ ?_
  exact St.wk h
end
end Go.Proofs.YtkjhccpanedccaaGreat
