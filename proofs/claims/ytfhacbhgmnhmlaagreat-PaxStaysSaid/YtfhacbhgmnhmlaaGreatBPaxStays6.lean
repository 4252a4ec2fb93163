/- Texts of the claim PaxStays, joined: COrd13, COrd14, COrd15, COrd16, COrd17, ShSlD, CKeys, CInst2, CInst3, CInst4. -/
import Derived.Test.YtfhacbhgmnhmlaaGreatBPaxStays5
import Derived.Test.YtfhacbhgmnhmlaaGreatBPaxStays1
import Derived.Test.YtfhacbhgmnhmlaaGreatBPaxStays3
namespace Go.Proofs.YtfhacbhgmnhmlaaGreat
set_option linter.unusedVariables false
set_option linter.unusedSimpArgs false
open Go Go.Eng Go.Tar Go.Sort
section
variable {W0 W : World} {L L' : List Asn} {a : Option Addr} {c n : Nat} {on gs : List (List Int)}
theorem indexN {l : List Int} {x : Int} (hn : n = l.length) (h : St W0 L W) [hr : Rd W0 L a I64 l] (hl : l.length < 1000000) {k : Value → World → Prop} (hk : ∀ W', St W0 L W' → k (.int .i64 (if x ∈ l then (l.idxOf x : Int) else -1)) W') : callK PR F_slices_Index_int_int [.slice a n c, .int .i64 x] k W := by
 subst hn; exact indexZ h hl hk
set_option maxRecDepth 100000 in
set_option maxHeartbeats 4000000 in
theorem ordLineI (h00 : W0.drawn = 0) (hO : OnOk on on.length) (hn : on.length ≤ 1000) (hrl : ∀ v, (rowOf on v).length < 1000000) {k : Value → World → Prop} (h : St W0 (LI a c on :: L) W)
  (hk : ∀ ao co W', St W0 (arr I64 T_int ao co (lineF on) :: LI a c on :: L) W' → k (.slice ao (lineF on).length co) W') : callK PR F_order_line [.slice a on.length c] k W := by
 apply S.order_line.call
 delta S.order_line.body oK oA rD lD eF eU sT cL vC gD gX gP gA gR gL gE gU gC gV hL sB nI
 refine ordTie h00 hO hn hrl h fun p ag cg aw cw ab cb W1 h => ?_
 have hp := allOf_prt hO
 have hlaw := line_law hO
 have hvals := line_vals hO
 obtain ⟨hwl, hbl, hbk0⟩ := back_ok hO
 have hall := all_len hO
 unfold lineF at hk
 generalize allOf on = all at *
 generalize tieOf on = wb at *
 obtain ⟨w0, bk0⟩ := wb
 simp only at hlaw hvals hwl hbl hbk0 hk h
 obtain ⟨rg, hrg, h⟩ := li_at (St.wk (L' := LI ag cg all :: cells p [.slice ag all.length cg, .slice aw all.length cw, .slice ab all.length cb] T_order_tied :: arr I64 T_int aw cw w0 :: LI ab cb bk0 :: LI a c on :: L) h)
 obtain ⟨rb, hrb, h⟩ := li_at (St.wk (L' := LI ab cb bk0 :: cells p [.slice ag all.length cg, .slice aw all.length cw, .slice ab all.length cb] T_order_tied :: arr I64 T_int aw cw w0 :: arr ISY T_s_int ag cg rg :: many ich rg :: LI a c on :: L) h)
 have hrgl : rg.length = all.length := by rw [← hrg, List.length_map]
 have hrbl : rb.length = all.length := by rw [← hbl, ← hrb, List.length_map]
 refine joinK_i ?_
 (repeat (first | ((with_reducible refine v5 ?_); refine ⟨_, rfl, ?_⟩) | simp -implicitDefEqProofs only [SE, SU, SV]))
 have h := h.ent (arr_nil I64 T_int)
 refine loop_c (σ := Option Addr × Nat) all.length (fun i x => [.pointer (some ⟨p, 0, none⟩), .slice x.1 (lineI all bk0 w0 i).2.length x.2, .int .i64 all.length, .int .i64 (i : Int)])
  (fun i x W1 => (lineI all bk0 w0 i).2.length ≤ i * 1000 ∧ St W0 (arr I64 T_int x.1 x.2 (lineI all bk0 w0 i).2 :: cells p [.slice ag all.length cg, .slice aw all.length cw, .slice ab all.length cb] T_order_tied :: arr I64 T_int aw cw (lineI all bk0 w0 i).1 :: arr ISY T_s_int ab cb rb :: many ich rb ::
   arr ISY T_s_int ag cg rg :: many ich rg :: LI a c on :: L) W1) (none, 0) rfl ⟨by simp [lineI], St.wk (L' := arr I64 T_int none 0 [] :: cells p [.slice ag all.length cg, .slice aw all.length cw, .slice ab all.length cb] T_order_tied :: arr I64 T_int aw cw w0 :: arr ISY T_s_int ab cb rb :: many ich rb :: arr ISY T_s_int ag cg rg :: many ich rg :: LI a c on :: L) h⟩ ?_
 clear h
 rintro K i ⟨ao, co⟩ W4 hi ⟨hol, h⟩ hK
 simp only at h
 simp -implicitDefEqProofs only [SE, SU, SV]
 delta S.order_line.l1 oK oA rD lD eF eU sT cL vC gD gX gP gA gR gL gE gU gC gV hL sB nI
 obtain ⟨law1, law2, law3, law4⟩ := hlaw i hi
 by_cases hlt : (i : Int) < (all.length : Int)
 ·have hib : i < all.length := by omega
  have ew : IntKind.i64.wrap ((i : Int) + 1) = ((i + 1 : Nat) : Int) := by rw [i64w]; omega
  have hnx : lineI all bk0 w0 (i + 1) = lineS all bk0 (lineI all bk0 w0 i) := rfl
  have hvi := hvals i hi
  obtain ⟨hg1, hg2⟩ := law3 hib
  rw [← hg1] at hg2
  generalize lineI all bk0 w0 i = s at *
  obtain ⟨w, out⟩ := s
  simp only at law1 law2 hg1 hg2 h hvi hol
  unfold lineS at hnx
  simp only at hnx
  have hm0 : (0 : Int) ∈ w := by
   refine Classical.byContradiction fun hno => ?_
   have := List.idxOf_eq_length hno
   omega
  have hgr : w.idxOf 0 < rg.length := by omega
  have hgb : w.idxOf 0 < rb.length := by omega
  have hrow := row_at hgr
  have hrowb := row_at hgb
  rw [hrg] at hrow
  rw [hrb] at hrowb
  have hmg : rg[w.idxOf 0] ∈ rg := List.getElem_mem hgr
  have hmb : rb[w.idxOf 0] ∈ rb := List.getElem_mem hgb
  have hidx := idxZ_eq w 0 hm0
  have hbk := hbk0 (w.idxOf 0) hg2
  have hlen : (all.getD (w.idxOf 0) []).length ≤ 1000 := Nat.le_trans (nodup_len ((List.Sublist.nodup · hp.nd) (by
   rw [List.getD_eq_getElem?_getD, List.getElem?_eq_getElem hg2]; exact List.sublist_flatten_of_mem (List.getElem_mem hg2))) fun v hv => (hp.mem v).1 (memFlat hv)) hn
  rw [← hrow] at hnx hlen
  rw [← hrowb] at hnx hbk
  obtain ⟨gg, og, e1⟩ := posAddr (i := w.idxOf 0) (a := ag) (A := ISY) (l := rg) h hgr
  obtain ⟨gb, ob, e2⟩ := posAddr (i := w.idxOf 0) (a := ab) (A := ISY) (l := rb) h hgb
  obtain ⟨gw, ow, e3⟩ := posAddr (i := w.idxOf 0) (a := aw) (A := I64) (l := w) h (by omega)
  subst e1 e2 e3
  (repeat simp -implicitDefEqProofs only [SE, SU, SV, hlt])
  refine joinK_i ?_
  (repeat ((with_reducible refine v5 ?_); refine ⟨_, rfl, ?_⟩))
  refine indexN (l := w) (x := 0) law1.symm (by assumption) (by omega) fun W5 h => ?_
  rw [hidx]
  generalize w.idxOf 0 = g at *
  (repeat (first | ((with_reducible refine v5 ?_); refine ⟨_, rfl, ?_⟩) | simp -implicitDefEqProofs only [SE, SU, SV, ix2 hg2]))
  refine stG (i := g) (l := w) (by omega) (by assumption) fun W6 h => ?_
  (repeat (first | ((with_reducible refine v5 ?_); refine ⟨_, rfl, ?_⟩) | simp -implicitDefEqProofs only [SE, SU, SV, ix2 hg2]))
  refine ldR hgr (by assumption) ?_
  generalize rg[g] = x at *
  obtain ⟨xa, xc, xl⟩ := x
  simp only at hnx hlen
  haveI hrd := ich_rd (W0 := W0) (L := LI a c on :: L) hmg
  refine appA (A := I64) (a := ao) (l := out) (m := xl) (by assumption) rfl (by omega) (by simp only [maxLen]; omega) fun a6 c6 W7 h => ?_
  (repeat (first | ((with_reducible refine v5 ?_); refine ⟨_, rfl, ?_⟩) | simp -implicitDefEqProofs only [SE, SU, SV, ix2 hg2]))
  refine ldR hgb (by assumption) ?_
  generalize rb[g] = y at *
  obtain ⟨ya, yc, yl⟩ := y
  simp only at hnx hbk
  haveI hrd2 := ich_rd (W0 := W0) (L := arr ISY T_s_int (some ⟨gg, og, none⟩) cg rg :: many ich rg :: LI a c on :: L) hmb
  (repeat simp -implicitDefEqProofs only [SE, SU, SV])
  have hyl : yl.length ≤ all.length := nodup_len hbk.1 hbk.2
  have hrec : ∀ j, j ≤ yl.length → (decF (w.set g (-1)) (yl.take j)).length = all.length ∧ ∀ q, (decF (w.set g (-1)) (yl.take j)).getD q 0 = (w.set g (-1)).getD q 0 - if (q : Int) ∈ yl.take j then 1 else 0 := fun j _ =>
   dec_at (m := all.length) (yl.take j) (w.set g (-1)) (hbk.1.sublist (List.take_sublist _ _)) (fun v hv => hbk.2 v (List.mem_of_mem_take hv)) (by simpa using law1)
  refine loop_c (σ := Unit) yl.length (fun j _ => [.pointer (some ⟨p, 0, none⟩), .slice a6 (out ++ xl).length c6, .int .i64 all.length, .int .i64 (i : Int), .slice ya yl.length yc, .int .i64 yl.length, .int .i64 (j : Int)])
   (fun j _ W1 => St W0 (arr I64 T_int (some ⟨gw, ow, none⟩) cw (decF (w.set g (-1)) (yl.take j)) :: arr I64 T_int a6 c6 (out ++ xl) :: cells p [.slice (some ⟨gg, og, none⟩) all.length cg, .slice (some ⟨gw, ow, none⟩) all.length cw, .slice (some ⟨gb, ob, none⟩) all.length cb] T_order_tied ::
    arr ISY T_s_int (some ⟨gb, ob, none⟩) cb rb :: many ich rb :: arr ISY T_s_int (some ⟨gg, og, none⟩) cg rg :: many ich rg :: LI a c on :: L) W1) () rfl (St.wk (L' := arr I64 T_int (some ⟨gw, ow, none⟩) cw (w.set g (-1)) :: arr I64 T_int a6 c6 (out ++ xl) :: cells p [.slice (some ⟨gg, og, none⟩) all.length cg, .slice (some ⟨gw, ow, none⟩) all.length cw, .slice (some ⟨gb, ob, none⟩) all.length cb] T_order_tied ::
    arr ISY T_s_int (some ⟨gb, ob, none⟩) cb rb :: many ich rb :: arr ISY T_s_int (some ⟨gg, og, none⟩) cg rg :: many ich rg :: LI a c on :: L) (by assumption)) ?_
  clear h
  rintro K2 j _ W8 hj h hK2
  simp -implicitDefEqProofs only [SE, SU, SV]
  delta S.order_line.l2 oK oA rD lD eF eU sT cL vC gD gX gP gA gR gL gE gU gC gV hL sB nI
  obtain ⟨r1, r2⟩ := hrec j hj
  by_cases hlt2 : (j : Int) < (yl.length : Int)
  ·have hjb : j < yl.length := by omega
   have ew2 : IntKind.i64.wrap ((j : Int) + 1) = ((j + 1 : Nat) : Int) := by rw [i64w]; omega
   have hvx := hbk.2 yl[j] (List.getElem_mem hjb)
   have hvn : yl[j].toNat < all.length := by unfold Vx at hvx; omega
   have htk : decF (w.set g (-1)) (yl.take (j + 1)) = (decF (w.set g (-1)) (yl.take j)).set yl[j].toNat ((decF (w.set g (-1)) (yl.take j)).getD yl[j].toNat 0 - 1) := by
    rw [List.take_succ_eq_append_getElem hjb]; unfold decF; rw [List.foldl_append]; rfl
   have hval := r2 yl[j].toNat
   generalize decF (w.set g (-1)) (yl.take j) = w2 at *
   have hb2 : -3 ≤ w2.getD yl[j].toNat 0 ∧ w2.getD yl[j].toNat 0 ≤ 1000 := by
    rw [hval, getD_set (by rw [law1]; exact hg2)]
    have := hvi yl[j].toNat hvn
    constructor <;> split <;> split <;> omega
   have ew3 : IntKind.i64.wrap (w2.getD yl[j].toNat 0 - 1) = w2.getD yl[j].toNat 0 - 1 := by rw [i64w]; omega
   obtain ⟨gy, oy, e5⟩ := posAddr (i := j) (a := ya) (A := I64) (l := yl) h hjb
   subst e5
   (repeat simp -implicitDefEqProofs only [SE, SU, SV, hlt2, ix2 hjb])
   refine ldA0 (i := j) (l := yl) (A := I64) (by assumption) rfl hjb (v := .int .i64 yl[j]) rfl (by simp) ?_
   (repeat (first | ((with_reducible refine v5 ?_); refine ⟨_, rfl, ?_⟩) | simp -implicitDefEqProofs only [SE, SU, SV, ix1 hvx]))
   refine ldG (i := yl[j].toNat) (l := w2) (by rw [r1]; exact hvn) (by assumption) ?_
   (repeat simp -implicitDefEqProofs only [SE, SU, SV, ew3, ix1 hvx])
   refine stG (i := yl[j].toNat) (l := w2) (by rw [r1]; exact hvn) (by assumption) fun W9 h => ?_
   (repeat simp -implicitDefEqProofs only [SE, SU, SV, ew2])
   rw [← htk] at h
   exact hK2 () _ hjb (St.wk h)
  ·have hjl : j = yl.length := by omega
   subst hjl
   rw [List.take_length] at h
   (repeat simp -implicitDefEqProofs only [SE, SU, SV, hlt2])
   delta S.order_line.j2 oK oA rD lD eF eU sT cL vC gD gX gP gA gR gL gE gU gC gV hL sB nI
   (repeat simp -implicitDefEqProofs only [SE, SU, SV, ew])
   have e1 : (lineI all bk0 w0 (i + 1)).1 = decF (w.set g (-1)) yl := congrArg Prod.fst hnx
   have e2 : (lineI all bk0 w0 (i + 1)).2 = out ++ xl := congrArg Prod.snd hnx
   rw [← e1, ← e2] at h
   rw [← e2]
   exact hK (a6, c6) _ hib ⟨by rw [e2, List.length_append]; omega, St.wk h⟩
 ·have hil : i = all.length := by omega
  subst hil
  (repeat simp -implicitDefEqProofs only [SE, SU, SV, hlt])
  delta S.order_line.j1 oK oA rD lD eF eU sT cL vC gD gX gP gA gR gL gE gU gC gV hL sB nI
  refine hk ao co _ ?_
  exact St.wk (by assumption)
end
end Go.Proofs.YtfhacbhgmnhmlaaGreat
namespace Go.Proofs.YtfhacbhgmnhmlaaGreat
set_option linter.unusedVariables false
set_option linter.unusedSimpArgs false
open Go Go.Eng Go.Tar Go.Sort
def DoneF (C : Asn) (fv : Value) (q : Dot → Bool) : Prop :=
 ∀ (d : Dot) (W0 : World) (L : List Asn) (W : World) (k : Value → World → Prop), 0 ≤ d.rep → d.rep < 7 → St W0 (C :: L) W → (∀ W', St W0 (C :: L) W' → k (.bool (q d)) W') → vcK PR fv [KD d] k W
def kC (b3 b5 p : Nat) (fv : Value) (C : Asn) : Asn := sep [cells b3 [fv] T_t82, cells b5 [.pointer (some ⟨p, 0, none⟩)] T_p_order_web, C]
section
variable {W0 W : World} {L L' : List Asn} {C : Asn} {q : Dot → Bool} {p b3 b5 g : Nat} {caps : Array Value} {sl : List Ins}
set_option maxRecDepth 100000 in
set_option maxHeartbeats 4000000 in
theorem ordKept1 (hD : DoneF C (.func (.func g) #[] caps) q) {d : Dot} (h1 : 0 ≤ d.rep) (h2 : d.rep < 7) {k : Value → World → Prop} (h : St W0 (kC b3 b5 p (.func (.func g) #[] caps) C :: wb p sl :: L) W)
  (hk : ∀ W', St W0 (kC b3 b5 p (.func (.func g) #[] caps) C :: wb p sl :: L) W' → k (.bool ((plcO sl d).isSome || q d)) W') : callK PR F_order_kept_1 [KD d, .pointer (some ⟨b5, 0, none⟩), .pointer (some ⟨b3, 0, none⟩)] k W := by
 apply S.order_kept_1.call
 delta S.order_kept_1.body oK oA rD lD eF eU sT cL vC gD gX gP gA gR gL gE gU gC gV hL sB nI
 have h : St W0 (cells b3 [.func (.func g) #[] caps] T_t82 :: cells b5 [.pointer (some ⟨p, 0, none⟩)] T_p_order_web :: C :: wb p sl :: L) W := h.flat
 obtain ⟨wa, wc, wr, h⟩ := wb_at (St.wk (L' := wb p sl :: cells b3 [.func (.func g) #[] caps] T_t82 :: cells b5 [.pointer (some ⟨p, 0, none⟩)] T_p_order_web :: C :: L) h)
 refine bxa h fun db W1 h => ?_
 (repeat (first | ((with_reducible refine v5 ?_); refine ⟨_, rfl, ?_⟩) | simp -implicitDefEqProofs only [SE, SU, SV]))
 refine lkpOk (K := KD) (z := .int .i64 0) d (by exact St.tick (by assumption)) ?_
 rw [plcO_mget]
 cases hp : plcO sl d with
 | some j =>
  rw [hp] at hk
  simp only [Option.map_some, Option.getD_some, Option.isSome_some]
  (repeat simp -implicitDefEqProofs only [SE, SU, SV])
  refine hk _ ?_
  have h5 := St.wk (L' := cells p [.slice wa sl.length wc, .map (some wr)] T_order_web :: arr INS T_order_Inst wa wc sl :: mp KD wr (plL sl) :: cells b3 [.func (.func g) #[] caps] T_t82 :: cells b5 [.pointer (some ⟨p, 0, none⟩)] T_p_order_web :: C :: L) (by assumption)
  have h6 := h5.ent wb_ent
  have h7 := St.wk (L' := cells b3 [.func (.func g) #[] caps] T_t82 :: cells b5 [.pointer (some ⟨p, 0, none⟩)] T_p_order_web :: C :: wb p sl :: L) h6
  exact (h7.ent (ent.pack [_, _, _] _)).tick
 | none =>
  rw [hp] at hk
  simp only [Option.map_none, Option.getD_none, Option.isSome_none, Bool.false_or] at hk ⊢
  (repeat (first | ((with_reducible refine v5 ?_); refine ⟨_, rfl, ?_⟩) | simp -implicitDefEqProofs only [SE, SU, SV]))
  refine hD d W0 _ _ _ h1 h2 (St.wk (L' := C :: cells b3 [.func (.func g) #[] caps] T_t82 :: cells b5 [.pointer (some ⟨p, 0, none⟩)] T_p_order_web :: cells p [.slice wa sl.length wc, .map (some wr)] T_order_web :: arr INS T_order_Inst wa wc sl :: mp KD wr (plL sl) :: L) (by exact St.tick (by assumption))) fun W2 h => ?_
  skip
  refine hk _ ?_
  have h5 := St.wk (L' := cells p [.slice wa sl.length wc, .map (some wr)] T_order_web :: arr INS T_order_Inst wa wc sl :: mp KD wr (plL sl) :: cells b3 [.func (.func g) #[] caps] T_t82 :: cells b5 [.pointer (some ⟨p, 0, none⟩)] T_p_order_web :: C :: L) (by assumption)
  have h6 := h5.ent wb_ent
  have h7 := St.wk (L' := cells b3 [.func (.func g) #[] caps] T_t82 :: cells b5 [.pointer (some ⟨p, 0, none⟩)] T_p_order_web :: C :: wb p sl :: L) h6
  exact h7.ent (ent.pack [_, _, _] _)
theorem eachAll (q : Dot → Bool) : ∀ ds : List Dot, eachF (fun (_ : Unit) d => q d) (fun s _ => s) ds () = (ds.all q, ())
 | [] => rfl
 | d :: ds => by
  unfold eachF
  rw [eachAll q ds, List.all_cons]
  cases q d <;> simp
def lack0 (q : Dot → Bool) (sl : List Ins) (x : Ins) : Bool := !(depsL x).all fun d => (plcO sl d).isSome || q d
theorem ordKeptE (hD : DoneF C (.func (.func g) #[] caps) q) {i : Nat} {k : Value → World → Prop} (hi : i < sl.length) (hd : depsO sl[i] = true) (h : St W0 (kC b3 b5 p (.func (.func g) #[] caps) C :: wb p sl :: L) W)
  (hk : ∀ W', St W0 (kC b3 b5 p (.func (.func g) #[] caps) C :: wb p sl :: L) W' → k (.bool (!lack0 q sl sl[i])) W') :
  callK PR F_order_web_each [.pointer (some ⟨p, 0, none⟩), .int .i64 (i : Int), .func (.func F_order_kept_1) #[] #[.pointer (some ⟨b5, 0, none⟩), .pointer (some ⟨b3, 0, none⟩)]] k W := by
 refine ordEach (σ := Unit) (C := fun _ => kC b3 b5 p (.func (.func g) #[] caps) C) (q := fun _ d => (plcO sl d).isSome || q d) (t := fun s _ => s) (I := fun _ _ => True) (s := ()) (fun _ _ _ _ => trivial) trivial ?_ h hi hd fun W' h' => ?_
 ·rintro m _ d W k _ ⟨h1, h2⟩ _ h hk
  exact ⟨CBok _ (by kernel_rfl), ordKept1 hD h1 h2 h hk⟩
 ·rw [eachAll]
  have := hk W' h'
  rwa [lack0, Bool.not_not] at this
end
end Go.Proofs.YtfhacbhgmnhmlaaGreat
namespace Go.Proofs.YtfhacbhgmnhmlaaGreat
set_option linter.unusedVariables false
set_option linter.unusedSimpArgs false
open Go Go.Eng Go.Tar Go.Sort
section
variable {sl : List Ins} {n i : Nat} {on : List (List Int)} {lk : Nat → Bool} {b : List Bool} {td : List Int}
theorem plcO_some {d : Dot} {k : Nat} (h : plcO sl d = some k) : ∃ hk : k < sl.length, sl[k].d = d := by
 unfold plcO at h
 rw [List.findIdx?_eq_some_iff_getElem] at h
 obtain ⟨h1, h2, _⟩ := h
 exact ⟨h1, by simpa using h2⟩
theorem plcO_none {d : Dot} : plcO sl d = none ↔ ∀ x ∈ sl, x.d ≠ d := by
 unfold plcO
 rw [List.findIdx?_eq_none_iff]
 simp
theorem plcO_at (hn : (sl.map (·.d)).Nodup) {k : Nat} (hk : k < sl.length) : plcO sl sl[k].d = some k := by
 cases h : plcO sl sl[k].d with
 | none => exact absurd rfl (plcO_none.1 h _ (List.getElem_mem hk))
 | some j =>
  obtain ⟨h1, h2⟩ := plcO_some h
  have h3 := List.getElem_inj (h₀ := by simpa using h1) (h₁ := by simpa using hk) (i := j) (j := k) hn
  rw [h3.1 (by simpa using h2)]
theorem depsR_len (x : Ins) (r : Nat) (h : x.v.get r ≤ 1000) : (depsR x r).length ≤ 1000 := by
 unfold depsR
 refine Nat.le_trans (List.length_filter_le _ _) ?_
 simp; omega
theorem flatMap_len {α β : Type} (f : α → List β) (c : Nat) : ∀ l : List α, (∀ x ∈ l, (f x).length ≤ c) → (l.flatMap f).length ≤ l.length * c
 | [], _ => by simp
 | x :: l, h => by
  have h1 := flatMap_len f c l fun y hy => h y (by simp [hy])
  have h2 := h x (by simp)
  rw [List.flatMap_cons, List.length_append, List.length_cons, Nat.succ_mul]; omega
theorem depsL_len {x : Ins} (hx : depsO x = true) : (depsL x).length ≤ 7000 := by
 have := flatMap_len (depsR x) 1000 (List.range 7) fun r hr => depsR_len x r ((depsO_iff x).1 hx r (List.mem_range.1 hr)).2
 rw [List.length_range] at this
 exact this
theorem onRow_at (sl : List Ins) {i : Nat} (hi : i < sl.length) : rowOf (onL sl) (i : Int) = onRow sl sl[i] := by
 unfold rowOf onL
 rw [Int.toNat_natCast, List.getD_eq_getElem?_getD, List.getElem?_map, List.getElem?_eq_getElem hi]; rfl
theorem onRow_mem {x : Ins} {u : Int} : u ∈ onRow sl x ↔ ∃ d ∈ depsL x, ∃ k : Nat, plcO sl d = some k ∧ (k : Int) = u := by
 unfold onRow
 simp only [List.mem_filterMap, Option.map_eq_some_iff]
theorem onL_ok (sl : List Ins) : OnOk (onL sl) sl.length where
 len := by simp [onL]
 rng v u hu := by
  unfold rowOf onL at hu
  rw [List.getD_eq_getElem?_getD, List.getElem?_map] at hu
  cases he : sl[v.toNat]? with
  | none => rw [he] at hu; cases hu
  | some x =>
   rw [he] at hu
   obtain ⟨d, _, k, hk, rfl⟩ := onRow_mem.1 (show u ∈ onRow sl x from hu)
   obtain ⟨h1, _⟩ := plcO_some hk
   unfold Vx; omega
theorem onL_rl (hd : ∀ x ∈ sl, depsO x = true) (v : Int) : (rowOf (onL sl) v).length ≤ 7000 := by
 unfold rowOf onL
 rw [List.getD_eq_getElem?_getD, List.getElem?_map]
 cases he : sl[v.toNat]? with
 | none => simp
 | some x =>
  show (onRow sl x).length ≤ 7000
  unfold onRow
  exact Nat.le_trans (List.length_filterMap_le _ _) (depsL_len (hd x (List.mem_of_getElem? he)))
structure KB (on : List (List Int)) (n : Nat) (lk : Nat → Bool) (i : Nat) (b : List Bool) (td : List Int) : Prop where
 lb : b.length = n
 it : i ≤ td.length
 tb : ∀ k, Vx n k → (b.getD k.toNat false = true ↔ k ∈ td)
 rg : ∀ k ∈ td, Vx n k
 nd : td.Nodup
 sd : ∀ k ∈ td, ∃ y, Rch on k y ∧ Vx n y ∧ lk y.toNat = true
 st : ∀ y, y < n → lk y = true → (y : Int) ∈ td
 cl : ∀ j, j < i → ∀ k, Vx n k → td.getD j 0 ∈ rowOf on k → k ∈ td
theorem Rch.head {x y z : Int} (h : y ∈ rowOf on x) (h2 : Rch on y z) : Rch on x z := (Rch.one h).trans h2
theorem kb_add {k v : Int} (h : KB on n lk i b td) (hk : Vx n k) (hv : v ∈ td) (hvk : v ∈ rowOf on k) (hn : k ∉ td) : KB on n lk i (b.set k.toNat true) (td ++ [k]) := by
 refine ⟨by simp [h.lb], by simp; have := h.it; omega, fun x hx => ?_, fun x hx => ?_, ?_, fun x hx => ?_, fun y hy hl => List.mem_append.2 (.inl (h.st y hy hl)), fun j hj x hx hm => ?_⟩
 ·rw [setAt h.lb hk hx]
  by_cases e : x = k
  ·simp [e]
  ·rw [if_neg e, h.tb x hx]; simp [e]
 ·rcases List.mem_append.1 hx with hx | hx
  ·exact h.rg x hx
  ·rw [List.mem_singleton.1 hx]; exact hk
 ·rw [List.nodup_append]
  refine ⟨h.nd, by simp, fun a ha c hc e => ?_⟩
  rw [List.mem_singleton] at hc
  subst hc; subst e; exact hn ha
 ·rcases List.mem_append.1 hx with hx | hx
  ·exact h.sd x hx
  ·rw [List.mem_singleton.1 hx]
   obtain ⟨y, h1, h2, h3⟩ := h.sd v hv
   exact ⟨y, Rch.head hvk h1, h2, h3⟩
 ·have hit := h.it
  rw [List.getD_eq_getElem?_getD, List.getElem?_append_left (by omega), ← List.getD_eq_getElem?_getD] at hm
  exact List.mem_append.2 (.inl (h.cl j hj x hx hm))
theorem rch_vx (hO : OnOk on n) {x y : Int} (h : Rch on x y) (hx : Vx n x) : Vx n y := Rch.stay (C := Vx n) (fun a _ c hc => hO.rng a c hc) h hx
theorem kb_end (hO : OnOk on n) (h : KB on n lk td.length b td) {k : Int} (hk : Vx n k) : b.getD k.toNat false = true ↔ ∃ y, Rch on k y ∧ Vx n y ∧ lk y.toNat = true := by
 rw [h.tb k hk]
 refine ⟨h.sd k, ?_⟩
 rintro ⟨y, h1, h2, h3⟩
 have hy : y ∈ td := by
  have := h.st y.toNat (by unfold Vx at h2; omega) h3
  rwa [show ((y.toNat : Nat) : Int) = y by unfold Vx at h2; omega] at this
 have key : ∀ x y, Rch on x y → Vx n x → y ∈ td → x ∈ td := by
  intro x y hr
  induction hr with
  | refl => exact fun _ h => h
  | @step y z hr hz ih =>
   intro hx hzt
   refine ih hx ?_
   obtain ⟨j, hj, e⟩ := List.getElem_of_mem hzt
   refine h.cl j hj y (rch_vx hO hr hx) ?_
   rw [List.getD_eq_getElem?_getD, List.getElem?_eq_getElem hj]
   show td[j] ∈ rowOf on y
   rw [e]; exact hz
 exact key k y h1 hk hy
structure BK (on : List (List Int)) (n i j : Nat) (bk : List (List Int)) : Prop where
 lb : bk.length = n
 snd : ∀ v, ∀ x ∈ bk.getD v [], Vx n x ∧ (v : Int) ∈ rowOf on x
 cmp : ∀ x v : Nat, x < i → v < n → (v : Int) ∈ rowOf on x → (x : Int) ∈ bk.getD v []
 cmj : ∀ v : Nat, v < n → (v : Int) ∈ (rowOf on i).take j → (i : Int) ∈ bk.getD v []
 len : ∀ v, (bk.getD v []).length ≤ i * 7000 + j
theorem bk_start (n : Nat) : BK on n 0 0 (List.replicate n []) := by
 have h0 : ∀ v : Nat, (List.replicate n ([] : List Int)).getD v [] = [] := fun v => repAt
 refine ⟨by simp, fun v x hx => ?_, fun x v hx => by omega, fun v _ hm => by simp at hm, fun v => by rw [h0]; simp⟩
 rw [h0] at hx; cases hx
theorem bk_step {bk : List (List Int)} {j : Nat} {v : Int} (h : BK on n i j bk) (hi : i < n) (hv : Vx n v) (hj : (rowOf on i)[j]? = some v) : BK on n i (j + 1) (bk.set v.toNat (bk.getD v.toNat [] ++ [(i : Int)])) := by
 have hvn : v.toNat < bk.length := by rw [h.lb]; unfold Vx at hv; omega
 have ev : ((v.toNat : Nat) : Int) = v := by unfold Vx at hv; omega
 have hg : ∀ w, (bk.set v.toNat (bk.getD v.toNat [] ++ [(i : Int)])).getD w [] = if w = v.toNat then bk.getD v.toNat [] ++ [(i : Int)] else bk.getD w [] := fun w => getD_set hvn
 have hsub : ∀ w (x : Int), x ∈ bk.getD w [] → x ∈ (bk.set v.toNat (bk.getD v.toNat [] ++ [(i : Int)])).getD w [] := fun w x hx => by
  rw [hg]; split
  ·rename_i e; rw [e] at hx; exact List.mem_append.2 (.inl hx)
  ·exact hx
 refine ⟨by simp [h.lb], fun w x hx => ?_, fun x w hx hw hm => hsub _ _ (h.cmp x w hx hw hm), fun w hw hm => ?_, fun w => ?_⟩
 ·rw [hg] at hx
  by_cases e : w = v.toNat
  ·rw [if_pos e] at hx
   rcases List.mem_append.1 hx with hx | hx
   ·rw [e]; exact h.snd _ x hx
   ·rw [List.mem_singleton.1 hx, e, ev]
    exact ⟨⟨by omega, by omega⟩, List.mem_of_getElem? hj⟩
  ·rw [if_neg e] at hx; exact h.snd w x hx
 ·have hjl := (List.getElem?_eq_some_iff.1 hj).1
  rw [List.take_succ_eq_append_getElem hjl] at hm
  rcases List.mem_append.1 hm with hm | hm
  ·exact hsub _ _ (h.cmj w hw hm)
  ·have e2 := List.mem_singleton.1 hm
   rw [(List.getElem?_eq_some_iff.1 hj).2] at e2
   have : w = v.toNat := by omega
   rw [hg, if_pos this]; simp
 ·rw [hg]
  have := h.len w
  have := h.len v.toNat
  split
  ·rw [List.length_append, List.length_singleton]; omega
  ·omega
theorem bk_next {bk : List (List Int)} (h : BK on n i (rowOf on i).length bk) (hr : (rowOf on i).length ≤ 7000) : BK on n (i + 1) 0 bk := by
 refine ⟨h.lb, h.snd, fun x v hx hv hm => ?_, fun v _ hm => by simp at hm, fun v => ?_⟩
 ·by_cases e : x = i
  ·subst e; exact h.cmj v hv (by rw [List.take_length]; exact hm)
  ·exact h.cmp x v (by omega) hv hm
 ·have h1 := h.len v
  rw [Nat.add_mul, Nat.one_mul]
  generalize i * 7000 = z at *
  exact Nat.le_trans h1 (Nat.add_le_add_left hr z)
def lkL (lk : Nat → Bool) (n i : Nat) : List Bool := (List.range n).map fun j => decide (j < i) && lk j
def tdL (lk : Nat → Bool) (i : Nat) : List Int := ((List.range i).filter lk).map fun j : Nat => (j : Int)
theorem lkL_at {j : Nat} (hj : j < n) : (lkL lk n i).getD j false = (decide (j < i) && lk j) := by
 unfold lkL
 rw [List.getD_eq_getElem?_getD, List.getElem?_map, List.getElem?_range hj]; rfl
theorem lkL_set (hi : i < n) (h : lk i = true) : (lkL lk n i).set i true = lkL lk n (i + 1) := by
 apply List.ext_getElem
 ·simp [lkL]
 ·intro j h1 h2
  have hj : j < n := by simpa [lkL] using h2
  rw [List.getElem_set]
  by_cases e : i = j
  ·subst e; simp [lkL, h]
  ·rw [if_neg e]; simp only [lkL, List.getElem_map, List.getElem_range]
   congr 1; rw [decide_eq_decide]; omega
theorem lkL_not (h : lk i = false) : lkL lk n i = lkL lk n (i + 1) := by
 unfold lkL
 refine List.map_congr_left fun j _ => ?_
 by_cases e : j = i
 ·subst e; simp [h]
 ·congr 1; rw [decide_eq_decide]; omega
theorem tdL_yes (h : lk i = true) : tdL lk (i + 1) = tdL lk i ++ [(i : Int)] := by simp [tdL, List.range_succ, List.filter_append, h]
theorem tdL_no (h : lk i = false) : tdL lk (i + 1) = tdL lk i := by simp [tdL, List.range_succ, List.filter_append, h]
theorem tdL_len : (tdL lk i).length ≤ i := by
 unfold tdL; rw [List.length_map]
 have := List.length_filter_le lk (List.range i)
 simpa using this
theorem kb_start : KB on n lk 0 (lkL lk n n) (tdL lk n) := by
 have hm : ∀ k, Vx n k → (k ∈ tdL lk n ↔ lk k.toNat = true) := fun k hk => by
  unfold tdL
  simp only [List.mem_map, List.mem_filter, List.mem_range]
  constructor
  ·rintro ⟨x, ⟨_, h⟩, rfl⟩; simpa using h
  ·intro h; exact ⟨k.toNat, ⟨by unfold Vx at hk; omega, h⟩, by unfold Vx at hk; omega⟩
 have hr : ∀ k ∈ tdL lk n, Vx n k := fun k hk => by
  unfold tdL at hk
  simp only [List.mem_map, List.mem_filter, List.mem_range] at hk
  obtain ⟨x, ⟨h, _⟩, rfl⟩ := hk
  unfold Vx; omega
 refine ⟨by simp [lkL], Nat.zero_le _, fun k hk => ?_, hr, ?_, fun k hk => ⟨k, .refl k, hr k hk, (hm k (hr k hk)).1 hk⟩, fun y hy h => (hm y ⟨by omega, by omega⟩).2 (by simpa using h), fun j hj => by omega⟩
 ·have hkn : k.toNat < n := by unfold Vx at hk; omega
  rw [lkL_at hkn, hm k hk, decide_eq_true hkn, Bool.true_and]
 ·unfold tdL
  rw [List.nodup_iff_pairwise_ne]
  exact List.pairwise_map.2 (((List.nodup_range).filter _).imp fun {a b} hab => by omega)
theorem kb_len (h : KB on n lk i b td) : td.length ≤ n := nodup_len h.nd h.rg
theorem kb_next (h : KB on n lk i b td) (hi : i < td.length) (hc : ∀ k, Vx n k → td.getD i 0 ∈ rowOf on k → k ∈ td) : KB on n lk (i + 1) b td := by
 refine ⟨h.lb, hi, h.tb, h.rg, h.nd, h.sd, h.st, fun j hj k hk hm => ?_⟩
 by_cases e : j = i
 ·subst e; exact hc k hk hm
 ·exact h.cl j (by omega) k hk hm
def keepL (sl : List Ins) (b : List Bool) : List Ins := (sl.zipIdx.filter fun x => !b.getD x.2 false).map (·.1)
end
end Go.Proofs.YtfhacbhgmnhmlaaGreat
namespace Go.Proofs.YtfhacbhgmnhmlaaGreat
set_option linter.unusedVariables false
set_option linter.unusedSimpArgs false
open Go Go.Eng Go.Tar Go.Sort
section
variable {W0 W : World} {L L' : List Asn} {C : Asn} {q : Dot → Bool} {p b3 b5 g : Nat} {caps : Array Value} {sl l : List Ins} {a : Option Addr} {c : Nat}
def lkB (q : Dot → Bool) (sl : List Ins) (i : Nat) : Bool := match sl[i]? with
 | some x => lack0 q sl x
 | none => false
theorem lkB_at {i : Nat} (hi : i < sl.length) : lkB q sl i = lack0 q sl sl[i] := by unfold lkB; rw [List.getElem?_eq_getElem hi]
def keepT (sl : List Ins) (b : List Bool) (i : Nat) : List Ins := ((sl.zipIdx.take i).filter fun x => !b.getD x.2 false).map (·.1)
theorem keepT_all (sl : List Ins) (b : List Bool) : keepT sl b sl.length = keepL sl b := by
 unfold keepT keepL; rw [List.take_of_length_le (by simp)]
theorem keepT_succ (b : List Bool) {i : Nat} (hi : i < sl.length) : keepT sl b (i + 1) = if b.getD i false = true then keepT sl b i else keepT sl b i ++ [sl[i]] := by
 unfold keepT
 rw [List.take_succ_eq_append_getElem (by simpa using hi), List.filter_append, List.map_append]
 by_cases h : b.getD i false = true
 ·rw [if_pos h]; simp at h; simp [h]
 ·rw [if_neg h]; simp at h; simp [h]
theorem keepT_len (sl : List Ins) (b : List Bool) (i : Nat) : (keepT sl b i).length ≤ sl.length := by
 unfold keepT
 rw [List.length_map]
 refine Nat.le_trans (List.length_filter_le _ _) ?_
 rw [List.length_take, List.length_zipIdx]
 exact Nat.min_le_right _ _
theorem kC_ent {p b3 b5 : Nat} {fv : Value} {L : List Asn} : ent (cells b3 [fv] T_t82 :: cells b5 [.pointer (some ⟨p, 0, none⟩)] T_p_order_web :: C :: L) (kC b3 b5 p fv C :: L) := ent.pack [_, _, _] L
set_option maxRecDepth 100000 in
set_option maxHeartbeats 8000000 in
theorem ordKept (hD : DoneF C (.func (.func g) #[] caps) q) (hl : l.length ≤ 1000) (hn : (l.map (·.d)).Nodup) (hd : ∀ x ∈ l, depsO x = true) {k : Value → World → Prop} (h : St W0 (C :: L) W) [hr : Rd W0 L a INS l]
  (hk : ∀ (b : List Bool) (td : List Int) a' c' W', KB (onL (sortO l)) (sortO l).length (lkB q (sortO l)) td.length b td → St W0 (arr INS T_order_Inst a' c' (keepL (sortO l) b) :: C :: L) W' → k (.slice a' (keepL (sortO l) b).length c') W') :
  callK PR F_order_kept [.slice a l.length c, .func (.func g) #[] caps] k W := by
 apply S.order_kept.call
 delta S.order_kept.body oK oA rD lD eF eU sT cL vC gD gX gP gA gR gL gE gU gC gV hL sB nI
 refine bx h fun b3 W1 h => ?_
 have h : St W0 (cells b3 [.func (.func g) #[] caps] T_t82 :: C :: L) W1 := h
 refine ordWeave (a := a) (l := l) h (by omega) hn fun p W2 h => ?_
 have hln := sortO_len l
 have hds : ∀ x ∈ sortO l, depsO x = true := fun x hx => hd x ((sortO_perm l).mem_iff.1 hx)
 have hO := onL_ok (sortO l)
 have hrl := onL_rl hds
 have honl : (onL (sortO l)).length = (sortO l).length := hO.len
 rw [← hln]
 have hl2 : (sortO l).length ≤ 1000 := by omega
 generalize sortO l = sl at *
 (repeat (first | ((with_reducible refine w11 ?_); intros) | ((with_reducible refine v5 ?_); refine ⟨_, rfl, ?_⟩) | ((with_reducible refine v12 ?_ ?_); exact rfl; intros) | ((with_reducible refine w5 ?_ ?_); simp; refine ⟨_, rfl, ?_⟩) | ((with_reducible refine w12 ?_ ?_ ?_ ?_); simp; simp; simp [oneC]; intros) | simp -implicitDefEqProofs only [SE, SU, SV]))
 rename_i b5 _ _ W4 h
 (try simp only [BLS, SB, stL_a, stL_b, stL_c, lsub_a, lsub_b, lsub_c, List.append_nil, List.take_nil, List.drop_nil, Nat.reduceAdd] at h)
 refine ordOn (St.wk (L' := wb p sl :: cells b5 [.pointer (some ⟨p, 0, none⟩)] T_p_order_web :: cells b3 [.func (.func g) #[] caps] T_t82 :: C :: L) (by assumption)) hl2 hds fun ao co W5 h => ?_
 skip
 refine mkS (A := ISY) (⟨none, 0, []⟩ : ISl) sl.length (by assumption) rfl rfl (by omega) (by omega) fun ab cb W6 h => ?_
 rw [List.length_replicate]
 have h := li_make h
 skip
 refine mkB h (by omega) fun ak ck W7 h => ?_
 have hD' := hD
 generalize hfv : Value.func (.func g) #[] caps = fv at hD' h
 have hlk : ∀ i (hi : i < sl.length), lkB q sl i = lack0 q sl sl[i] := fun i hi => lkB_at hi
 generalize lkB q sl = lk at *
 have e0 : lkL lk sl.length 0 = List.replicate sl.length false := by apply List.ext_getElem <;> simp [lkL]
 rw [← e0] at h
 obtain ⟨rows, hrows, h⟩ := li_at (St.wk (L' := LI ao co (onL sl) :: arr BOO T_bool ak ck (lkL lk sl.length 0) :: LI ab cb (List.replicate sl.length []) :: cells b3 [fv] T_t82 :: cells b5 [.pointer (some ⟨p, 0, none⟩)] T_p_order_web :: C :: wb p sl :: L) h)
 have hrn : rows.length = sl.length := by rw [← honl, ← hrows, List.length_map]
 have hro : ∀ i (hi : i < sl.length), rowOf (onL sl) (i : Int) = (rows[i]'(by rw [hrn]; exact hi)).l := fun i hi => by unfold rowOf; rw [Int.toNat_natCast, row_at (by rw [hrn]; exact hi), hrows]
 refine joinK_i ?_
 obtain ⟨wa, wc, wr, h⟩ := wb_at (St.wk (L' := wb p sl :: arr ISY T_s_int ao co rows :: many ich rows :: arr BOO T_bool ak ck (lkL lk sl.length 0) :: LI ab cb (List.replicate sl.length []) :: cells b3 [fv] T_t82 :: cells b5 [.pointer (some ⟨p, 0, none⟩)] T_p_order_web :: C :: L) h)
 (repeat (first | ((with_reducible refine v5 ?_); refine ⟨_, rfl, ?_⟩) | simp -implicitDefEqProofs only [SE, SU, SV]))
 have h := St.wk (L' := cells p [.slice wa sl.length wc, .map (some wr)] T_order_web :: arr INS T_order_Inst wa wc sl :: mp KD wr (plL sl) :: arr ISY T_s_int ao co rows :: many ich rows :: arr BOO T_bool ak ck (lkL lk sl.length 0) :: LI ab cb (List.replicate sl.length []) :: cells b3 [fv] T_t82 :: cells b5 [.pointer (some ⟨p, 0, none⟩)] T_p_order_web :: C :: L) (by assumption)
 have h := (h.ent wb_ent).ent (arr_nil I64 T_int)
 refine loop_c (σ := List (List Int) × Option Addr × Nat) sl.length (fun i x => [.pointer (some ⟨b3, 0, none⟩), .pointer (some ⟨b5, 0, none⟩), .slice ao (onL sl).length co, .slice ab sl.length cb, .slice ak sl.length ck, .slice x.2.1 (tdL lk i).length x.2.2, .int .i64 sl.length, .int .i64 (i : Int)])
  (fun i x W1 => BK (onL sl) sl.length i 0 x.1 ∧ St W0 (arr I64 T_int x.2.1 x.2.2 (tdL lk i) :: arr BOO T_bool ak ck (lkL lk sl.length i) :: LI ab cb x.1 :: wb p sl :: cells b3 [fv] T_t82 :: cells b5 [.pointer (some ⟨p, 0, none⟩)] T_p_order_web :: C :: arr ISY T_s_int ao co rows :: many ich rows :: L) W1)
  (List.replicate sl.length [], none, 0) rfl ⟨bk_start _, St.wk (L' := arr I64 T_int none 0 [] :: arr BOO T_bool ak ck (lkL lk sl.length 0) :: LI ab cb (List.replicate sl.length []) :: wb p sl :: cells b3 [fv] T_t82 :: cells b5 [.pointer (some ⟨p, 0, none⟩)] T_p_order_web :: C :: arr ISY T_s_int ao co rows :: many ich rows :: L) h⟩ ?_
 clear h
 rintro K i ⟨bk, at_, ct⟩ W8 hi ⟨hbk, h⟩ hK
 simp only at hbk h
 simp -implicitDefEqProofs only [SE, SU, SV]
 delta S.order_kept.l4 oK oA rD lD eF eU sT cL vC gD gX gP gA gR gL gE gU gC gV hL sB nI
 by_cases hlt : (i : Int) < (sl.length : Int)
 ·have hib : i < sl.length := by omega
  have hir : i < rows.length := by omega
  have ew : IntKind.i64.wrap ((i : Int) + 1) = ((i + 1 : Nat) : Int) := by rw [i64w]; omega
  have hmr : rows[i] ∈ rows := List.getElem_mem hir
  have hrow := hro i hib
  have hil : i < (onL sl).length := by omega
  have hrl2 := hrl (i : Int)
  obtain ⟨gr, or', e1⟩ := posAddr (i := i) (a := ao) (A := ISY) (l := rows) h hir
  subst e1
  (repeat simp -implicitDefEqProofs only [SE, SU, SV, hlt])
  refine joinK_i ?_
  refine joinK_i ?_
  (repeat simp -implicitDefEqProofs only [SE, SU, SV, ix2 hil])
  refine ldR hir (by assumption) ?_
  generalize rows[i] = y at *
  obtain ⟨ya, yc, yl⟩ := y
  simp only at hrow
  haveI hrd := ich_rd (W0 := W0) (L := L) hmr
  have hyx : ∀ v ∈ yl, Vx sl.length v := fun v hv => hO.rng (i : Int) v (by rw [hrow]; exact hv)
  have hyl : yl.length ≤ 7000 := by rw [← hrow]; exact hrl2
  (repeat simp -implicitDefEqProofs only [SE, SU, SV])
  refine loop_c (σ := List (List Int)) yl.length (fun j _ => [.pointer (some ⟨b3, 0, none⟩), .pointer (some ⟨b5, 0, none⟩), .slice (some ⟨gr, or', none⟩) (onL sl).length co, .slice ab sl.length cb, .slice ak sl.length ck, .slice at_ (tdL lk i).length ct, .int .i64 (i : Int), .int .i64 sl.length, .int .i64 (i : Int), .slice ya yl.length yc, .int .i64 yl.length, .int .i64 (j : Int)])
   (fun j z W1 => BK (onL sl) sl.length i j z ∧ St W0 (LI ab cb z :: arr I64 T_int at_ ct (tdL lk i) :: arr BOO T_bool ak ck (lkL lk sl.length i) :: wb p sl :: cells b3 [fv] T_t82 :: cells b5 [.pointer (some ⟨p, 0, none⟩)] T_p_order_web :: C :: arr ISY T_s_int (some ⟨gr, or', none⟩) co rows :: many ich rows :: L) W1)
   bk rfl ⟨hbk, St.wk h⟩ ?_
  clear h hbk
  rintro K2 j z W9 hj ⟨hbk, h⟩ hK2
  simp -implicitDefEqProofs only [SE, SU, SV]
  delta S.order_kept.l5 oK oA rD lD eF eU sT cL vC gD gX gP gA gR gL gE gU gC gV hL sB nI
  by_cases hlt2 : (j : Int) < (yl.length : Int)
  ·have hjb : j < yl.length := by omega
   have ew2 : IntKind.i64.wrap ((j : Int) + 1) = ((j + 1 : Nat) : Int) := by rw [i64w]; omega
   have hvx := hyx yl[j] (List.getElem_mem hjb)
   have hst := bk_step hbk hib hvx (by rw [hrow, List.getElem?_eq_getElem hjb])
   have hbl := hbk.len yl[j].toNat
   obtain ⟨gy, oy, e5⟩ := posAddr (i := j) (a := ya) (A := I64) (l := yl) h hjb
   subst e5
   obtain ⟨rb, hrb, h⟩ := li_at h
   have hrbl : rb.length = sl.length := by rw [← hbk.lb, ← hrb, List.length_map]
   have hvn : yl[j].toNat < rb.length := by unfold Vx at hvx; omega
   obtain ⟨gb, ob, e6⟩ := posAddr (i := yl[j].toNat) (a := ab) (A := ISY) (l := rb) h hvn
   subst e6
   have hvi : z.getD yl[j].toNat [] = rb[yl[j].toNat].l := by rw [row_at hvn, hrb]
   rw [hvi] at hbl hst
   have hbl2 : rb[yl[j].toNat].l.length < 100000000 := by
    have h7 : i * 7000 ≤ 1000 * 7000 := Nat.mul_le_mul_right _ (by omega)
    generalize i * 7000 = zz at *
    omega
   have h := h.ent (ent.cons _ (ich_pick rb hvn))
   (repeat simp -implicitDefEqProofs only [SE, SU, SV, hlt2, ix2 hjb])
   refine ldA0 (i := j) (l := yl) (A := I64) (by assumption) rfl hjb (v := .int .i64 yl[j]) rfl (by simp) ?_
   (repeat simp -implicitDefEqProofs only [SE, SU, SV, ix1 hvx])
   refine ldR hvn (by assumption) ?_
   refine bsA I64 [(i : Int)] (n := 1) (by assumption) rfl rfl (by decide) (by decide) rfl fun a5 c5 W10 h => ?_
   skip
   refine appA (A := I64) (a := rb[yl[j].toNat].a) (l := rb[yl[j].toNat].l) (m := [(i : Int)]) (by assumption) rfl (by simp only [List.length_cons, List.length_nil]; omega) (by simp only [List.length_cons, List.length_nil, maxLen]; omega) fun a6 c6 W11 h => ?_
   skip
   have h := St.wk (L' := arr ISY T_s_int (some ⟨gb, ob, none⟩) cb rb :: ich ⟨a6, c6, rb[yl[j].toNat].l ++ [(i : Int)]⟩ :: many ich (rb.take yl[j].toNat ++ rb.drop (yl[j].toNat + 1)) :: arr I64 T_int at_ ct (tdL lk i) :: arr BOO T_bool ak ck (lkL lk sl.length i) :: wb p sl :: cells b3 [fv] T_t82 :: cells b5 [.pointer (some ⟨p, 0, none⟩)] T_p_order_web :: C :: arr ISY T_s_int (some ⟨gr, or', none⟩) co rows :: many ich rows :: L) (by assumption)
   refine stA (i := yl[j].toNat) (x := (⟨a6, c6, rb[yl[j].toNat].l ++ [(i : Int)]⟩ : ISl)) (l := rb) (A := ISY) h rfl hvn rfl fun W12 h => ?_
   have h := (h.ent (ent.cons _ (ich_place rb hvn ⟨a6, c6, rb[yl[j].toNat].l ++ [(i : Int)]⟩))).ent (li_ent (vs := z.set yl[j].toNat (rb[yl[j].toNat].l ++ [(i : Int)])) (by rw [List.map_set, hrb]))
   (repeat simp -implicitDefEqProofs only [SE, SU, SV, ew2])
   exact hK2 _ _ hjb ⟨hst, h⟩
  ·have hjl : j = yl.length := by omega
   subst hjl
   have hbk2 := bk_next (by rw [hrow]; exact hbk) (by rw [hrow]; exact hyl)
   have hdi := hds sl[i] (List.getElem_mem hib)
   have hki := hlk i hib
   (repeat simp -implicitDefEqProofs only [SE, SU, SV, hlt2])
   delta S.order_kept.j8 oK oA rD lD eF eU sT cL vC gD gX gP gA gR gL gE gU gC gV hL sB nI
   (repeat (first | ((with_reducible refine v5 ?_); refine ⟨_, rfl, ?_⟩) | simp -implicitDefEqProofs only [SE, SU, SV]))
   subst hfv
   have h := St.wk (L' := cells b3 [.func (.func g) #[] caps] T_t82 :: cells b5 [.pointer (some ⟨p, 0, none⟩)] T_p_order_web :: C :: wb p sl :: LI ab cb z :: arr I64 T_int at_ ct (tdL lk i) :: arr BOO T_bool ak ck (lkL lk sl.length i) :: arr ISY T_s_int (some ⟨gr, or', none⟩) co rows :: many ich rows :: L) (by assumption)
   refine ordKeptE hD hib hdi (h.ent kC_ent) fun W10 h => ?_
   have h := h.flat
   simp only [List.cons_append, List.nil_append] at h
   rw [← hki]
   cases hlki : lk i with
   | true =>
    have el := lkL_set hib hlki
    have etd := tdL_yes hlki
    have hlen := tdL_len (lk := lk) (i := i)
    obtain ⟨gk, ok, e6⟩ := posAddr (i := i) (a := ak) (A := BOO) (l := lkL lk sl.length i) h (by simpa [lkL] using hib)
    subst e6
    have h := St.wk (L' := arr I64 T_int at_ ct (tdL lk i) :: arr BOO T_bool (some ⟨gk, ok, none⟩) ck (lkL lk sl.length i) :: LI ab cb z :: wb p sl :: cells b3 [.func (.func g) #[] caps] T_t82 :: cells b5 [.pointer (some ⟨p, 0, none⟩)] T_p_order_web :: C :: arr ISY T_s_int (some ⟨gr, or', none⟩) co rows :: many ich rows :: L) h
    (repeat simp -implicitDefEqProofs only [SE, SU, SV, ix2 hib])
    refine stGb (i := i) (m := lkL lk sl.length i) (x := true) (by simpa [lkL] using hib) (by assumption) fun W11 h => ?_
    rw [el] at h
    refine bsA I64 [(i : Int)] (n := 1) (by assumption) rfl rfl (by decide) (by decide) rfl fun a5 c5 W12 h => ?_
    refine appA (A := I64) (a := at_) (l := tdL lk i) (m := [(i : Int)]) (by assumption) rfl (by simp only [List.length_cons, List.length_nil]; omega) (by simp only [List.length_cons, List.length_nil, maxLen]; omega) fun a6 c6 W13 h => ?_
    rw [← etd] at h ⊢
    delta S.order_kept.j7 oK oA rD lD eF eU sT cL vC gD gX gP gA gR gL gE gU gC gV hL sB nI
    (repeat simp -implicitDefEqProofs only [SE, SU, SV, ew])
    exact hK (z, a6, c6) _ hib ⟨hbk2, St.wk h⟩
   | false =>
    have el := lkL_not (n := sl.length) hlki
    have etd := tdL_no hlki
    (repeat simp -implicitDefEqProofs only [SE, SU, SV])
    delta S.order_kept.j7 oK oA rD lD eF eU sT cL vC gD gX gP gA gR gL gE gU gC gV hL sB nI
    (repeat simp -implicitDefEqProofs only [SE, SU, SV, ew])
    rw [etd] at hK
    rw [el] at h
    exact hK (z, at_, ct) _ hib ⟨hbk2, St.wk h⟩
 ·have hil : i = sl.length := by omega
  subst hil
  (repeat simp -implicitDefEqProofs only [SE, SU, SV, hlt])
  delta S.order_kept.j1 oK oA rD lD eF eU sT cL vC gD gX gP gA gR gL gE gU gC gV hL sB nI
  have hkb := kb_start (on := onL sl) (n := sl.length) (lk := lk)
  generalize tdL lk sl.length = td0 at *
  generalize lkL lk sl.length sl.length = b0 at *
  obtain ⟨rb, hrb, h⟩ := li_at (St.wk (L' := LI ab cb bk :: arr BOO T_bool ak ck b0 :: arr I64 T_int at_ ct td0 :: wb p sl :: cells b5 [.pointer (some ⟨p, 0, none⟩)] T_p_order_web :: C :: L) h)
  have hrbl : rb.length = sl.length := by rw [← hbk.lb, ← hrb, List.length_map]
  refine joinK_i ?_
  refine loop_c (σ := List Bool × List Int × Option Addr × Nat) sl.length (fun i x => [.pointer (some ⟨b5, 0, none⟩), .slice ab sl.length cb, .slice ak sl.length ck, .slice x.2.2.1 x.2.1.length x.2.2.2, .int .i64 (i : Int)])
   (fun i x W1 => KB (onL sl) sl.length lk i x.1 x.2.1 ∧ St W0 (arr I64 T_int x.2.2.1 x.2.2.2 x.2.1 :: arr BOO T_bool ak ck x.1 :: arr ISY T_s_int ab cb rb :: many ich rb :: wb p sl :: cells b5 [.pointer (some ⟨p, 0, none⟩)] T_p_order_web :: C :: L) W1)
   (b0, td0, at_, ct) rfl ⟨hkb, St.wk h⟩ ?_
  clear h hkb
  rintro K i ⟨b, td, at2, ct2⟩ W9 hi ⟨hkb, h⟩ hK
  simp only at hkb h
  simp -implicitDefEqProofs only [SE, SU, SV]
  delta S.order_kept.l2 oK oA rD lD eF eU sT cL vC gD gX gP gA gR gL gE gU gC gV hL sB nI
  have htl := kb_len hkb
  by_cases hlt : (i : Int) < (td.length : Int)
  ·have hib : i < td.length := by omega
   have hin : i < sl.length := by omega
   have ew : IntKind.i64.wrap ((i : Int) + 1) = ((i + 1 : Nat) : Int) := by rw [i64w]; omega
   have hvx := hkb.rg td[i] (List.getElem_mem hib)
   have hvn : td[i].toNat < rb.length := by unfold Vx at hvx; omega
   have hti : td.getD i 0 = td[i] := (getD_at hib).symm
   have hrow : bk.getD td[i].toNat [] = rb[td[i].toNat].l := by rw [row_at hvn, hrb]
   have hmr : rb[td[i].toNat] ∈ rb := List.getElem_mem hvn
   have hsnd := hbk.snd td[i].toNat
   have hcmp : ∀ k, Vx sl.length k → td[i] ∈ rowOf (onL sl) k → k ∈ bk.getD td[i].toNat [] := fun k hk hm => by
    have ek : ((k.toNat : Nat) : Int) = k := by unfold Vx at hk; omega
    have ev : ((td[i].toNat : Nat) : Int) = td[i] := by unfold Vx at hvx; omega
    have := hbk.cmp k.toNat td[i].toNat (by unfold Vx at hk; omega) (by omega) (by rw [ek, ev]; exact hm)
    rwa [ek] at this
   have evt : ((td[i].toNat : Nat) : Int) = td[i] := by unfold Vx at hvx; omega
   have hlen := hbk.len td[i].toNat
   have hvm : td[i] ∈ td := List.getElem_mem hib
   rw [hrow] at hsnd hcmp hlen
   rw [evt] at hsnd
   obtain ⟨gt, ot, e1⟩ := posAddr (i := i) (a := at2) (A := I64) (l := td) h hib
   obtain ⟨gb, ob, e2⟩ := posAddr (i := td[i].toNat) (a := ab) (A := ISY) (l := rb) h hvn
   subst e1 e2
   (repeat simp -implicitDefEqProofs only [SE, SU, SV, hlt])
   refine joinK_i ?_
   (repeat simp -implicitDefEqProofs only [SE, SU, SV, ix2 hib])
   refine ldA0 (i := i) (l := td) (A := I64) (by assumption) rfl hib (v := .int .i64 td[i]) rfl (by simp) ?_
   (repeat simp -implicitDefEqProofs only [SE, SU, SV, ix1 hvx])
   refine ldR hvn (by assumption) ?_
   generalize rb[td[i].toNat] = y at *
   obtain ⟨ya, yc, yl⟩ := y
   simp only at hrow hsnd hcmp hlen
   haveI hrd := ich_rd (W0 := W0) (L := wb p sl :: cells b5 [.pointer (some ⟨p, 0, none⟩)] T_p_order_web :: C :: L) hmr
   have hyl : yl.length < 100000000 := by
    have h7 : sl.length * 7000 ≤ 1000 * 7000 := Nat.mul_le_mul_right _ (by omega)
    generalize sl.length * 7000 = zz at *
    omega
   generalize td[i] = v at *
   (repeat simp -implicitDefEqProofs only [SE, SU, SV])
   refine loop_c (σ := List Bool × List Int × Option Addr × Nat) yl.length (fun j x => [.pointer (some ⟨b5, 0, none⟩), .slice (some ⟨gb, ob, none⟩) sl.length cb, .slice ak sl.length ck, .slice x.2.2.1 x.2.1.length x.2.2.2, .int .i64 (i : Int), .slice ya yl.length yc, .int .i64 yl.length, .int .i64 (j : Int)])
    (fun j x W1 => (KB (onL sl) sl.length lk i x.1 x.2.1 ∧ i < x.2.1.length ∧ x.2.1.getD i 0 = v ∧ v ∈ x.2.1 ∧ ∀ k ∈ yl.take j, k ∈ x.2.1) ∧ St W0 (arr I64 T_int x.2.2.1 x.2.2.2 x.2.1 :: arr BOO T_bool ak ck x.1 :: arr ISY T_s_int (some ⟨gb, ob, none⟩) cb rb :: many ich rb :: wb p sl :: cells b5 [.pointer (some ⟨p, 0, none⟩)] T_p_order_web :: C :: L) W1)
    (b, td, some ⟨gt, ot, none⟩, ct2) rfl ⟨⟨hkb, hib, hti, hvm, by simp⟩, h⟩ ?_
   clear h hkb hti hib hvm hlt htl
   rintro K2 j ⟨b, td, at3, ct3⟩ W10 hj ⟨⟨hkb, hib, hti, hvm, hdone⟩, h⟩ hK2
   simp only at hkb hib hti hvm hdone h
   simp -implicitDefEqProofs only [SE, SU, SV]
   delta S.order_kept.l3 oK oA rD lD eF eU sT cL vC gD gX gP gA gR gL gE gU gC gV hL sB nI
   have htl := kb_len hkb
   by_cases hlt2 : (j : Int) < (yl.length : Int)
   ·have hjb : j < yl.length := by omega
    have ew2 : IntKind.i64.wrap ((j : Int) + 1) = ((j + 1 : Nat) : Int) := by rw [i64w]; omega
    have hkx := hsnd yl[j] (List.getElem_mem hjb)
    have hkn : yl[j].toNat < b.length := by rw [hkb.lb]; have := hkx.1; unfold Vx at this; omega
    have htb := hkb.tb yl[j] hkx.1
    have htk : yl.take (j + 1) = yl.take j ++ [yl[j]] := List.take_succ_eq_append_getElem hjb
    obtain ⟨gy, oy, e5⟩ := posAddr (i := j) (a := ya) (A := I64) (l := yl) h hjb
    obtain ⟨gk, ok, e6⟩ := posAddr (i := yl[j].toNat) (a := ak) (A := BOO) (l := b) h hkn
    subst e5 e6
    have hbl : sl.length = b.length := hkb.lb.symm
    (repeat simp -implicitDefEqProofs only [SE, SU, SV, hlt2, ix2 hjb])
    refine joinK_i ?_
    (repeat simp -implicitDefEqProofs only [SE, SU, SV, ix2 hjb])
    refine ldA0 (i := j) (l := yl) (A := I64) (by assumption) rfl hjb (v := .int .i64 yl[j]) rfl (by simp) ?_
    (repeat simp -implicitDefEqProofs only [SE, SU, SV, ix1 hkx.1])
    refine ldGb (i := yl[j].toNat) (m := b) hkn (by assumption) ?_
    cases hbb : b.getD yl[j].toNat false with
    | true =>
     have hin2 := htb.1 hbb
     (repeat simp -implicitDefEqProofs only [SE, SU, SV])
     delta S.order_kept.j6 oK oA rD lD eF eU sT cL vC gD gX gP gA gR gL gE gU gC gV hL sB nI
     (repeat simp -implicitDefEqProofs only [SE, SU, SV, ew2])
     refine hK2 (b, td, at3, ct3) _ hjb ⟨⟨hkb, hib, hti, hvm, fun k hk => ?_⟩, (by assumption)⟩
     rw [htk] at hk
     rcases List.mem_append.1 hk with hk | hk
     ·exact hdone k hk
     ·rw [List.mem_singleton.1 hk]; exact hin2
    | false =>
     have hnin : yl[j] ∉ td := fun hm => by rw [htb.2 hm] at hbb; cases hbb
     have hadd := kb_add hkb hkx.1 hvm hkx.2 hnin
     (repeat simp -implicitDefEqProofs only [SE, SU, SV, ix1 hkx.1])
     refine stGb (i := yl[j].toNat) (m := b) (x := true) hkn (by assumption) fun W11 h => ?_
     refine bsA I64 [yl[j]] (n := 1) (by assumption) rfl rfl (by decide) (by decide) rfl fun a5 c5 W12 h => ?_
     refine appA (A := I64) (a := at3) (l := td) (m := [yl[j]]) (by assumption) rfl (by simp only [List.length_cons, List.length_nil]; omega) (by simp only [List.length_cons, List.length_nil, maxLen]; omega) fun a6 c6 W13 h => ?_
     delta S.order_kept.j6 oK oA rD lD eF eU sT cL vC gD gX gP gA gR gL gE gU gC gV hL sB nI
     (repeat simp -implicitDefEqProofs only [SE, SU, SV, ew2])
     refine hK2 (b.set yl[j].toNat true, td ++ [yl[j]], a6, c6) _ hjb ⟨⟨hadd, by simp; omega, ?_, by simp [hvm], fun k hk => ?_⟩, St.wk (by assumption)⟩
     ·simp only
      rw [List.getD_eq_getElem?_getD, List.getElem?_append_left hib, ← List.getD_eq_getElem?_getD]; exact hti
     ·rw [htk] at hk
      rcases List.mem_append.1 hk with hk | hk
      ·exact List.mem_append.2 (.inl (hdone k hk))
      ·exact List.mem_append.2 (.inr hk)
   ·have hjl : j = yl.length := by omega
    subst hjl
    rw [List.take_length] at hdone
    have hnx := kb_next hkb hib fun k hk hm => hdone k (hcmp k hk (by rw [← hti]; exact hm))
    (repeat simp -implicitDefEqProofs only [SE, SU, SV, hlt2])
    delta S.order_kept.j5 oK oA rD lD eF eU sT cL vC gD gX gP gA gR gL gE gU gC gV hL sB nI
    (repeat simp -implicitDefEqProofs only [SE, SU, SV, ew])
    exact hK (b, td, at3, ct3) _ hin ⟨hnx, h⟩
  ·have hil : i = td.length := by have := hkb.it; omega
   subst hil
   have hk := hk b td
   have hbl : b.length = sl.length := hkb.lb
   obtain ⟨wa, wc, wr, h⟩ := wb_at (St.wk (L' := wb p sl :: arr BOO T_bool ak ck b :: cells b5 [.pointer (some ⟨p, 0, none⟩)] T_p_order_web :: C :: L) h)
   (repeat simp -implicitDefEqProofs only [SE, SU, SV, hlt])
   delta S.order_kept.j2 oK oA rD lD eF eU sT cL vC gD gX gP gA gR gL gE gU gC gV hL sB nI
   refine joinK_i ?_
   (repeat (first | ((with_reducible refine v5 ?_); refine ⟨_, rfl, ?_⟩) | simp -implicitDefEqProofs only [SE, SU, SV]))
   have h := St.wk (L' := arr INS T_order_Inst none 0 [] :: arr INS T_order_Inst wa wc sl :: arr BOO T_bool ak ck b :: C :: L) (h.ent (arr_nil INS T_order_Inst))
   refine loop_c (σ := Option Addr × Nat) sl.length (fun i x => [.slice ak sl.length ck, .slice x.1 (keepT sl b i).length x.2, .slice wa sl.length wc, .int .i64 sl.length, .int .i64 (i : Int)])
    (fun i x W1 => St W0 (arr INS T_order_Inst x.1 x.2 (keepT sl b i) :: arr INS T_order_Inst wa wc sl :: arr BOO T_bool ak ck b :: C :: L) W1) (none, 0) rfl h ?_
   clear h
   rintro K i ⟨ax, cx⟩ W10 hi h hK
   simp only at h
   simp -implicitDefEqProofs only [SE, SU, SV]
   delta S.order_kept.l1 oK oA rD lD eF eU sT cL vC gD gX gP gA gR gL gE gU gC gV hL sB nI
   have htl := keepT_len sl b i
   by_cases hlt : (i : Int) < (sl.length : Int)
   ·have hib : i < sl.length := by omega
    have hik : i < b.length := by omega
    have ew : IntKind.i64.wrap ((i : Int) + 1) = ((i + 1 : Nat) : Int) := by rw [i64w]; omega
    have hst := keepT_succ b hib
    obtain ⟨gk, ok, e6⟩ := posAddr (i := i) (a := ak) (A := BOO) (l := b) h hik
    subst e6
    (repeat simp -implicitDefEqProofs only [SE, SU, SV, hlt])
    refine joinK_i ?_
    refine ixA (i := i) (a := wa) (l := sl) (A := INS) (by assumption) rfl rfl hib fun g1 o1 ha => ?_
    cases ha
    refine ldA0 (l := sl) (A := INS) (by assumption) rfl hib (getL_val rfl (by decide) _) (by simp [INS]) ?_
    refine newV (A := INS) sl[i] (by assumption) rfl (by decide) rfl fun vb W11 h => ?_
    (repeat simp -implicitDefEqProofs only [SE, SU, SV, ix2 hib])
    refine ldGb (i := i) (m := b) hik (by assumption) ?_
    cases hbb : b.getD i false with
    | true =>
     rw [if_pos hbb] at hst
     (repeat simp -implicitDefEqProofs only [SE, SU, SV])
     delta S.order_kept.j4 oK oA rD lD eF eU sT cL vC gD gX gP gA gR gL gE gU gC gV hL sB nI
     (repeat simp -implicitDefEqProofs only [SE, SU, SV, ew])
     rw [hst] at hK
     exact hK (ax, cx) _ hib (St.wk (by assumption))
    | false =>
     rw [if_neg (by rw [hbb]; simp)] at hst
     (repeat (first | ((with_reducible refine v5 ?_); refine ⟨_, rfl, ?_⟩) | simp -implicitDefEqProofs only [SE, SU, SV]))
     refine ldV (A := INS) sl[i] (by assumption) rfl (by decide) ?_
     refine bsA INS [sl[i]] (n := 1) (by assumption) rfl rfl (by decide) (by decide) rfl fun a5 c5 W12 h => ?_
     refine appA (A := INS) (a := ax) (l := keepT sl b i) (m := [sl[i]]) (by assumption) rfl (by simp only [List.length_cons, List.length_nil]; omega) (by simp only [List.length_cons, List.length_nil, maxLen]; omega) fun a6 c6 W13 h => ?_
     delta S.order_kept.j4 oK oA rD lD eF eU sT cL vC gD gX gP gA gR gL gE gU gC gV hL sB nI
     (repeat simp -implicitDefEqProofs only [SE, SU, SV, ew])
     rw [hst] at hK
     exact hK (a6, c6) _ hib (St.wk (by assumption))
   ·have hil : i = sl.length := by omega
    subst hil
    (repeat simp -implicitDefEqProofs only [SE, SU, SV, hlt])
    delta S.order_kept.j3 oK oA rD lD eF eU sT cL vC gD gX gP gA gR gL gE gU gC gV hL sB nI
    rw [keepT_all] at h ⊢
    exact hk ax cx _ hkb (St.wk h)
end
end Go.Proofs.YtfhacbhgmnhmlaaGreat
namespace Go.Proofs.YtfhacbhgmnhmlaaGreat
set_option linter.unusedVariables false
set_option linter.unusedSimpArgs false
open Go Go.Eng Go.Tar Go.Sort
def DOT : Ly Dot := ⟨2, by omega, fun d => [.int .i64 d.rep, .int .i64 d.n], fun _ => rfl, fun _ => rfl⟩
def dotsO (sl : List Ins) (l : List Int) : List Dot := l.map fun v => (sl.getD v.toNat default).d
section
variable {W0 W : World} {L L' : List Asn} {C : Asn} {q : Dot → Bool} {p g c n : Nat} {a : Option Addr} {sl : List Ins} {l : List Int}
set_option maxRecDepth 100000 in
set_option maxHeartbeats 4000000 in
theorem ordDots (h : St W0 (wb p sl :: L) W) [hr : Rd W0 L a I64 l] (hv : ∀ v ∈ l, Vx sl.length v) (hl : l.length < 1000000) {k : Value → World → Prop}
  (hk : ∀ a' c' W', St W0 (arr DOT T_api_Dot a' c' (dotsO sl l) :: wb p sl :: L) W' → k (.slice a' (dotsO sl l).length c') W') : callK PR F_order_web_dots [.pointer (some ⟨p, 0, none⟩), .slice a l.length c] k W := by
 apply S.order_web_dots.call
 delta S.order_web_dots.body oK oA rD lD eF eU sT cL vC gD gX gP gA gR gL gE gU gC gV hL sB nI
 refine joinK_i ?_
 (repeat simp -implicitDefEqProofs only [SE, SU, SV])
 have h := h.ent (arr_nil DOT T_api_Dot)
 refine loop_c (σ := Option Addr × Nat) l.length (fun i x => [.pointer (some ⟨p, 0, none⟩), .slice x.1 (dotsO sl (l.take i)).length x.2, .slice a l.length c, .int .i64 l.length, .int .i64 (i : Int)])
  (fun i x W1 => St W0 (arr DOT T_api_Dot x.1 x.2 (dotsO sl (l.take i)) :: wb p sl :: L) W1) (none, 0) rfl h ?_
 clear h
 rintro K i ⟨ax, cx⟩ W1 hi h hK
 simp only at h
 simp -implicitDefEqProofs only [SE, SU, SV]
 delta S.order_web_dots.l1 oK oA rD lD eF eU sT cL vC gD gX gP gA gR gL gE gU gC gV hL sB nI
 by_cases hlt : (i : Int) < (l.length : Int)
 ·have hib : i < l.length := by omega
  have ew : IntKind.i64.wrap ((i : Int) + 1) = ((i + 1 : Nat) : Int) := by rw [i64w]; omega
  have hvx := hv l[i] (List.getElem_mem hib)
  have hvn : l[i].toNat < sl.length := by unfold Vx at hvx; omega
  have htk : dotsO sl (l.take (i + 1)) = dotsO sl (l.take i) ++ [sl[l[i].toNat].d] := by
   rw [List.take_succ_eq_append_getElem hib]; unfold dotsO; rw [List.map_append, List.map_singleton, ← getD_at hvn]
  have hlen : (dotsO sl (l.take i)).length ≤ l.length := by unfold dotsO; simp; omega
  obtain ⟨gl, ol, e1⟩ := posAddr (i := i) (a := a) (A := I64) (l := l) h hib
  subst e1
  obtain ⟨wa, wc, wr, h⟩ := wb_at (St.wk (L' := wb p sl :: arr DOT T_api_Dot ax cx (dotsO sl (l.take i)) :: L) h)
  obtain ⟨gw, ow, e2⟩ := posAddr (i := l[i].toNat) (a := wa) (A := INS) (l := sl) h hvn
  subst e2
  have ei : idxS 10 (.slice (some ⟨gw, ow, none⟩) sl.length wc) (.int .i64 l[i]) = some (.pointer (some ⟨gw, ow + l[i].toNat * 10, none⟩)) := idxS_blk hvx.1 hvx.2
  (repeat simp -implicitDefEqProofs only [SE, SU, SV, hlt, ix2 hib])
  refine ldA0 (i := i) (l := l) (A := I64) (by assumption) rfl hib (v := .int .i64 l[i]) rfl (by simp) ?_
  (repeat (first | ((with_reducible refine v5 ?_); refine ⟨_, rfl, ?_⟩) | simp -implicitDefEqProofs only [SE, SU, SV, ei]))
  refine ldA0 (i := l[i].toNat) (l := sl) (A := INS) (by assumption) rfl hvn (v := .agg #[.int .i64 (sl[l[i].toNat].d).rep, .int .i64 (sl[l[i].toNat].d).n]) rfl (by simp [INS]) ?_
  refine bsA DOT [sl[l[i].toNat].d] (n := 1) (by assumption) rfl rfl (by decide) (by decide) rfl fun a5 c5 W5 h => ?_
  refine appA (A := DOT) (a := ax) (l := dotsO sl (l.take i)) (m := [sl[l[i].toNat].d]) (by assumption) rfl (by simp only [List.length_cons, List.length_nil]; omega) (by simp only [List.length_cons, List.length_nil, maxLen]; omega) fun a6 c6 W6 h => ?_
  (repeat simp -implicitDefEqProofs only [SE, SU, SV, ew])
  rw [← htk] at h ⊢
  have h := St.wk (L' := cells p [.slice (some ⟨gw, ow, none⟩) sl.length wc, .map (some wr)] T_order_web :: arr INS T_order_Inst (some ⟨gw, ow, none⟩) wc sl :: mp KD wr (plL sl) :: arr DOT T_api_Dot a6 c6 (dotsO sl (l.take (i + 1))) :: L) (by assumption)
  have h := h.ent wb_ent
  exact hK (a6, c6) _ hib (St.wk h)
 ·have hil : i = l.length := by omega
  subst hil
  rw [List.take_length] at h ⊢
  (repeat simp -implicitDefEqProofs only [SE, SU, SV, hlt])
  delta S.order_web_dots.j1 oK oA rD lD eF eU sT cL vC gD gX gP gA gR gL gE gU gC gV hL sB nI
  exact hk ax cx _ h
end
end Go.Proofs.YtfhacbhgmnhmlaaGreat
namespace Go.Proofs.YtfhacbhgmnhmlaaGreat
set_option linter.unusedVariables false
set_option linter.unusedSimpArgs false
open Go.Eng
def S.slices_DeleteFunc_api_Dot_api_Dot.j1 (R : VK) (x0 x5 : Value) (W : World) : Prop :=
oK (slcS 2 x0 (some x5) none none) fun v38=>
eF W (Builtin.clear_ #[T_s_api_Dot] T_t0 #[v38]) fun _ W=>
oK (slcS 2 x0 none (some x5) none) fun v41=>
R v41 W
def S.slices_DeleteFunc_api_Dot_api_Dot.j2 (K1 : LK) (x0 x1 x5 x6 : Value) (W : World) : Prop :=
oK (binP .add x6 (nI 1)) fun v21=>
K1 [x0, x1, x5, v21] W
def S.slices_DeleteFunc_api_Dot_api_Dot.l1 (J1 : LK) (K1 : LK) (x0 x1 x5 x6 : Value) (W : World) : Prop :=
oK (lenP (.slice T_api_Dot) x0) fun v18=>
oK (binP .lss x6 v18) fun v19=>
ifK v19 (
joinK (fun s W => S.slices_DeleteFunc_api_Dot_api_Dot.j2 K1 (nthv s 0) (nthv s 1) (nthv s 2) (nthv s 3) W) (fun J2 =>
oK (idxS 2 x0 x6) fun v24=>
lD W T_api_Dot v24 fun v25 W=>
eF W (Instr.alloc T_api_Dot true (.tuple #[])) fun v7 W=>
sT W T_api_Dot v7 v25 fun _ W=>
lD W T_api_Dot v7 fun v27 W=>
vC W x1 [v27] fun v28 W=>
oK (unP .not v28) fun v29=>
ifK v29 (
lD W T_api_Dot v7 fun v32 W=>
oK (idxS 2 x0 x5) fun v33=>
sT W T_api_Dot v33 v32 fun _ W=>
oK (binP .add x5 (nI 1)) fun v35=>
J2 [x0, x1, v35, x6] W) (
J2 [x0, x1, x5, x6] W))) (
J1 [x0, x5] W)
def S.slices_DeleteFunc_api_Dot_api_Dot.body (R : VK) (v0 v1 : Value) (W : World) : Prop :=
cL W F_slices_IndexFunc_api_Dot_api_Dot [v0, v1] fun v10 W=>
oK (binP .eql v10 (nI (-1))) fun v12=>
ifK v12 (
R v0 W) (
joinK (fun s W => S.slices_DeleteFunc_api_Dot_api_Dot.j1 R (nthv s 0) (nthv s 1) W) (fun J1 =>
oK (binP .add v10 (nI 1)) fun v15=>
loopK (fun K1 s W => S.slices_DeleteFunc_api_Dot_api_Dot.l1 J1 K1 (nthv s 0) (nthv s 1) (nthv s 2) (nthv s 3) W) [v0, v1, v10, v15] W))
theorem S.slices_DeleteFunc_api_Dot_api_Dot.call {R : VK} {v0 v1 : Value} {W : World} (h : S.slices_DeleteFunc_api_Dot_api_Dot.body R v0 v1 W) : callK PR F_slices_DeleteFunc_api_Dot_api_Dot [v0, v1] R W :=
callS (fn := Tryz.f43) (h := (.t (.t (.two (.t (.two (.t .n) .n)) (.at [0, 5] (.t (.at [0, 1, 5, 6] (.two (.t (.t .n)) (.at [0, 1, 5, 6] (.t (.t (.two (.t .n) .n))) .n)) .n)) (.t (.t .n))))))) h
def S.slices_IndexFunc_api_Dot_api_Dot.l1 (R : VK) (K1 : LK) (x0 x1 x7 x8 : Value) (W : World) : Prop :=
oK (binP .lss x8 x7) fun v9=>
ifK v9 (
oK (idxS 2 x0 x8) fun v14=>
lD W T_api_Dot v14 fun v15 W=>
vC W x1 [v15] fun v16 W=>
ifK v16 (
R x8 W) (
oK (binP .add x8 (nI 1)) fun v18=>
K1 [x0, x1, x7, v18] W)) (
R (nI (-1)) W)
def S.slices_IndexFunc_api_Dot_api_Dot.body (R : VK) (v0 v1 : Value) (W : World) : Prop :=
oK (lenP (.slice T_api_Dot) v0) fun v7=>
loopK (fun K1 s W => S.slices_IndexFunc_api_Dot_api_Dot.l1 R K1 (nthv s 0) (nthv s 1) (nthv s 2) (nthv s 3) W) [v0, v1, v7, (nI 0)] W
theorem S.slices_IndexFunc_api_Dot_api_Dot.call {R : VK} {v0 v1 : Value} {W : World} (h : S.slices_IndexFunc_api_Dot_api_Dot.body R v0 v1 W) : callK PR F_slices_IndexFunc_api_Dot_api_Dot [v0, v1] R W :=
callS (fn := Tryz.f79) (h := (.t (.two (.t (.at [0, 1, 7, 8] (.t (.two (.t .n) (.two (.t (.t (.two (.t .n) .n))) .n))) .n)) (.t .n)))) h
def S.maps_Keys_map_api_Dot_inst_Rec_api_Dot_inst_Rec.body (R : VK) (v0 : Value) (W : World) : Prop :=
eF W (Instr.box T_m_api_Dot_inst_Rec v0) fun v1 W=>
R (.func (.func F_maps_Keys_map_api_Dot_inst_Rec_api_Dot_inst_Rec_1) #[] #[v1]) W
theorem S.maps_Keys_map_api_Dot_inst_Rec_api_Dot_inst_Rec.call {R : VK} {v0 : Value} {W : World} (h : S.maps_Keys_map_api_Dot_inst_Rec_api_Dot_inst_Rec.body R v0 W) : callK PR F_maps_Keys_map_api_Dot_inst_Rec_api_Dot_inst_Rec [v0] R W :=
callS (fn := Tryz.f41) (h := (.t (.t .n))) h
def S.dots_Order.body (R : VK) (v0 v1 : Value) (W : World) : Prop :=
eF W (Instr.box T_api_Dot v0) fun v2 W=>
eF W (Instr.box T_api_Dot v1) fun v3 W=>
oA 0 v2 fun v5=>
lD (tick W) T_int v5 fun v6 W=>
oA 0 v3 fun v7=>
lD W T_int v7 fun v8 W=>
oA 1 v2 fun v10=>
lD W T_int64 v10 fun v11 W=>
oA 1 v3 fun v12=>
lD W T_int64 v12 fun v13 W=>
cL W F_cmp_Compare_int [v6, v8] fun v9 W=>
sB W [hL 8 T_int64 v12 v13, hL 6 T_int64 v10 v11] fun W=>
cL W F_cmp_Compare_int64 [v11, v13] fun v14 W=>
eF W (Instr.buildSlice T_s_int 2 #[(0, v9), (1, v14)]) fun v15 W=>
cL W F_cmp_Or_int [v15] fun v16 W=>
R v16 W
theorem S.dots_Order.call {R : VK} {v0 v1 : Value} {W : World} (h : S.dots_Order.body R v0 v1 W) : callK PR F_dots_Order [v0, v1] R W :=
callS (fn := Tryz.f42) (h := (.t (.t .n))) h
def S.slices_Collect_api_Dot.body (R : VK) (v0 : Value) (W : World) : Prop :=
cL W F_slices_AppendSeq_api_Dot_api_Dot [(.slice none 0 0), v0] fun v4 W=>
R v4 W
theorem S.slices_Collect_api_Dot.call {R : VK} {v0 : Value} {W : World} (h : S.slices_Collect_api_Dot.body R v0 W) : callK PR F_slices_Collect_api_Dot [v0] R W :=
callS (fn := Tryz.f73) (h := (.t (.t .n))) h
end Go.Proofs.YtfhacbhgmnhmlaaGreat
namespace Go.Proofs.YtfhacbhgmnhmlaaGreat
set_option linter.unusedVariables false
set_option linter.unusedSimpArgs false
open Go Go.Eng
def yC (F : Fence) (m : Nat) (W : World) (f : Value) (xs : List Value) (k : VK) : Prop := yvK F m PR f xs k W
def S.keys1.l1 (F : Fence) (m : Nat) (R : VK) (K1 : LK) (x0 x5 : Value) (W : World) : Prop :=
eF W (Instr.next x5 false T_t0) fun v6 W=>
oK (extP 0 v6) fun v7=>
ifK v7 (
eF W (Instr.entry x5) fun v8 W=>
oK (extP 0 v8) fun v9=>
eF W (Instr.alloc T_api_Dot true (.tuple #[])) fun v3 W=>
sT W T_api_Dot v3 v9 fun _ W=>
lD W T_api_Dot v3 fun v11 W=>
yC F m W x0 [v11] fun v12 W=>
oK (unP .not v12) fun v13=>
ifK v13 (
R (.tuple #[]) W) (
K1 [x0, x5] W)) (
R (.tuple #[]) W)
def S.keys1.body (F : Fence) (m : Nat) (R : VK) (v0 v1 : Value) (W : World) : Prop :=
lD W T_m_api_Dot_inst_Rec v1 fun v4 W=>
eF W (Instr.range T_m_api_Dot_inst_Rec v4) fun v5 W=>
loopK (fun K1 s W => S.keys1.l1 F m R K1 (nthv s 0) (nthv s 1) W) [v0, v5] W
theorem S.keys1.ok (F : Fence) (m : Nat) (R : VK) (v0 v1 : Value) (W : World) : bodyI F m PR CB Tryz.f75 (.t (.at [0, 5] (.t (.two (.t .n) (.t (.t (.t .n))))) .n)) [v0, v1] R W = S.keys1.body F m R v0 v1 W := by kernel_rfl
def YJ (F : Fence) (m : Nat) (lp N : Nat) (J : List Dot → Asn) : Prop := ∀ W0 L pre x W, pre.length < N → St W0 (J pre :: L) W → YieldAt F (m - 1) PR lp #[KD x] W fun e W' => e = .returned (.bool true) ∧ St W0 (J (pre ++ [x]) :: L) W'
theorem yv_i {F : Fence} {m l : Nat} {args : List Value} {k : VK} {W : World} (h : YieldAt F (m - 1) PR l args.toArray W fun e W' => ∃ v, e = .returned v ∧ k v W') : yvK F m PR (.func (.yield l) #[] #[]) args k W := by
 unfold yvK
 simpa using h
section
variable {W0 W : World} {L L' : List Asn} {F : Fence} {m : Nat}
abbrev FK1 : Nat := F_maps_Keys_map_api_Dot_inst_Rec_api_Dot_inst_Rec_1
theorem keys1 (hF : ∀ f, F.fn f) (hd : F.depth = none) (hro : F.round = none) {lp Bm r : Nat} {l : List (Dot × Value)} {J : List Dot → Asn} (hY : YJ F m lp l.length J)
  (h : St W0 (J [] :: cells Bm [.map (some r)] T_m_api_Dot_inst_Rec :: mp KD r l :: L) W) :
  CallsIn F m PR FK1 #[.func (.yield lp) #[] #[], .pointer (some ⟨Bm, 0, none⟩)] W fun e W' => (∃ v, e = .returned v) ∧ ∃ ks : List Dot, ks.Perm (l.map (·.1)) ∧ St W0 (J ks :: cells Bm [.map (some r)] T_m_api_Dot_inst_Rec :: mp KD r l :: L) W' := by
 have hc := callI_of_body (F := F) (m := m) (P := PR) hF hd hro CBok (g := FK1) (fn := Tryz.f75) (by kernel_rfl) (.t (.at [0, 5] (.t (.two (.t .n) (.t (.t (.t .n))))) .n)) (args := [.func (.yield lp) #[] #[], .pointer (some ⟨Bm, 0, none⟩)])
  (R := fun v W' => ∃ ks : List Dot, ks.Perm (l.map (·.1)) ∧ St W0 (J ks :: cells Bm [.map (some r)] T_m_api_Dot_inst_Rec :: mp KD r l :: L) W') (w := W) ?_
 ·exact hc.mono fun e w' ⟨v, h1, h2⟩ => ⟨⟨v, h1⟩, h2⟩
 rw [S.keys1.ok]
 delta S.keys1.body oK oA rD lD eF eU sT cL vC gD gX gP gA gR gL gE gU gC gV hL sB nI
 (repeat ((with_reducible refine v5 ?_); refine ⟨_, rfl, ?_⟩))
 refine rangeM (K := KD) h fun b W1 h => ?_
 refine loop_x (σ := List Dot × List (Dot × Value)) (fun x => [.func (.yield lp) #[] #[], .pointer (some ⟨b, 0, none⟩)])
  (fun x W1 => (x.1 ++ x.2.map (·.1)).Perm (l.map (·.1)) ∧ ∃ cur, St W0 (mpi KD r b l x.2 cur :: J x.1 :: cells Bm [.map (some r)] T_m_api_Dot_inst_Rec :: L) W1)
  (fun x => x.2.length) ([], l) rfl ⟨List.Perm.refl _, none, h⟩ ?_
 clear h
 rintro K ⟨ks, rem⟩ W3 ⟨hp, cur, h⟩ hK
 simp -implicitDefEqProofs only [SE, SU, SV]
 delta S.keys1.l1 yC oK oA rD lD eF eU sT cL vC gD gX gP gA gR gL gE gU gC gV hL sB nI
 refine nextM h (fun h0 => ?_) (fun pre o v post W4 h1 h => ?_)
 ·simp only at h0
  subst h0
  have h := St.mpiEnd h
  (repeat simp -implicitDefEqProofs only [SE, SU, SV])
  simp only [List.map_nil, List.append_nil] at hp
  exact ⟨ks, hp, h.perm ((List.Perm.swap _ _ _).trans ((List.Perm.swap _ _ _).cons _))⟩
 ·simp only at h1 h
  subst h1
  (repeat simp -implicitDefEqProofs only [SE, SU, SV])
  refine entryM (by assumption) ?_
  (repeat (first | ((with_reducible refine w11 ?_); intros) | ((with_reducible refine v5 ?_); refine ⟨_, rfl, ?_⟩) | ((with_reducible refine v12 ?_ ?_); exact rfl; intros) | ((with_reducible refine w5 ?_ ?_); simp; refine ⟨_, rfl, ?_⟩) | ((with_reducible refine w12 ?_ ?_ ?_ ?_); simp; simp; simp [oneC]; intros) | simp -implicitDefEqProofs only [SE, SU, SV]))
  rename_i b3 _ _ W5 h
  have hlen : ks.length < l.length := by
   have := hp.length_eq
   simp at this; omega
  refine yv_i ?_
  refine (hY W0 _ ks o W5 hlen (St.wk (L' := J ks :: mpi KD r b l (pre ++ post) (some (o, v)) :: cells Bm [.map (some r)] T_m_api_Dot_inst_Rec :: L) h)).mono fun e W' ⟨h1, h⟩ => ⟨_, h1, ?_⟩
  (repeat simp -implicitDefEqProofs only [SE, SU, SV])
  refine hK (ks ++ [o], pre ++ post) _ (by simp) ⟨?_, _, St.perm h (List.Perm.swap _ _ _)⟩
  refine List.Perm.trans ?_ hp
  simp only [List.map_append, List.map_cons, List.append_assoc]
  exact (List.perm_middle (l₁ := pre.map (·.1))).symm.append_left ks
def apA : Code := (Code.region 2 #[{ dst := some 5, op := Op.alloc T_api_Dot, type := 0, pos := "iter.go:51", after := #[], guard := none }, { dst := none, op := Op.store T_api_Dot (.tmp 5) (.tmp 7), type := 0, pos := "iter.go:51", after := #[{ on := 0, ground := .data }, { on := 0, ground := .phase }], guard := none }] false)
def apB : Code := (Code.block 1 (Code.region 3 #[{ dst := some 8, op := Op.load T_s_api_Dot (.tmp 2), type := T_s_api_Dot, pos := "iter.go:52", after := #[], guard := none }, { dst := some 9, op := Op.load T_api_Dot (.tmp 5), type := T_api_Dot, pos := "iter.go:52", after := #[], guard := none },
 { dst := some 10, op := Op.buildSlice T_s_api_Dot 1 #[(0, .tmp 9)], type := T_s_api_Dot, pos := "iter.go:52", after := #[{ on := 1, ground := .data }], guard := none },
 { dst := some 11, op := Op.call { callee := .builtin .append, args := #[.tmp 8, .tmp 10], argTypes := #[T_s_api_Dot, T_s_api_Dot] }, type := T_s_api_Dot, pos := "iter.go:52", after := #[{ on := 0, ground := .data }, { on := 2, ground := .data }], guard := none },
 { dst := none, op := Op.store T_s_api_Dot (.tmp 2) (.tmp 11), type := 0, pos := "iter.go:52", after := #[{ on := 3, ground := .data }, { on := 3, ground := .chain }, { on := 0, ground := .phase }, { on := 1, ground := .phase }, { on := 2, ground := .phase }, { on := 3, ground := .phase }], guard := none }] false))
def apR (fn : FuncId) (tmps : Array Value) (D : Nat) (st : LoopState) : Loop := { state := st, pending := none, fn := fn, tmps := tmps, params := #[7], assign := apA, body := apB, defers := D }
def apJ (Bs lp D : Nat) (fn : FuncId) (tmps : Array Value) (ks : List Dot) : Asn := fun p => ∃ x : Option Addr × Nat, sep [arr DOT T_api_Dot x.1 x.2 ks, cells Bs [.slice x.1 ks.length x.2] T_s_api_Dot, blk lp (.loop (apR fn tmps D .ready)), blk D (.deferred (some []))] p
abbrev apF (p v : Value) : Frm := upd (upd emp 2 p) 7 v
theorem apA_ok (F : Fence) (m : Nat) (p v : Value) (k : Frm → World → Prop) (W : World) : opsI F m PR CB 13 [{ dst := some 5, op := Op.alloc T_api_Dot, type := 0, pos := "iter.go:51", after := #[], guard := none }, { dst := none, op := Op.store T_api_Dot (.tmp 5) (.tmp 7), type := 0, pos := "iter.go:51", after := #[{ on := 0, ground := .data }, { on := 0, ground := .phase }], guard := none }] (apF p v) k W =
  efK PR (Instr.alloc T_api_Dot true (.tuple #[])) (fun b W => efK PR (Instr.storeAt T_api_Dot b v) (fun _ W => k (upd (apF p v) 5 b) W) W) W := by kernel_rfl
abbrev apBo : List Oper := [{ dst := some 8, op := Op.load T_s_api_Dot (.tmp 2), type := T_s_api_Dot, pos := "iter.go:52", after := #[], guard := none }, { dst := some 9, op := Op.load T_api_Dot (.tmp 5), type := T_api_Dot, pos := "iter.go:52", after := #[], guard := none },
 { dst := some 10, op := Op.buildSlice T_s_api_Dot 1 #[(0, .tmp 9)], type := T_s_api_Dot, pos := "iter.go:52", after := #[{ on := 1, ground := .data }], guard := none },
 { dst := some 11, op := Op.call { callee := .builtin .append, args := #[.tmp 8, .tmp 10], argTypes := #[T_s_api_Dot, T_s_api_Dot] }, type := T_s_api_Dot, pos := "iter.go:52", after := #[{ on := 0, ground := .data }, { on := 2, ground := .data }], guard := none },
 { dst := none, op := Op.store T_s_api_Dot (.tmp 2) (.tmp 11), type := 0, pos := "iter.go:52", after := #[{ on := 3, ground := .data }, { on := 3, ground := .chain }, { on := 0, ground := .phase }, { on := 1, ground := .phase }, { on := 2, ground := .phase }, { on := 3, ground := .phase }], guard := none }]
theorem apB_ok (F : Fence) (m : Nat) (p v b : Value) (k : World → Prop) (W : World) : opsI F m PR CB 13 apBo (upd (apF p v) 5 b) (fun _ W => k W) W =
  rdK PR (Instr.loadAt T_s_api_Dot p) (fun s W => rdK PR (Instr.loadAt T_api_Dot b) (fun d W => efK PR (Instr.buildSlice T_s_api_Dot 1 #[(0, d)]) (fun y W => efK PR (Builtin.append_ #[T_s_api_Dot, T_s_api_Dot] T_s_api_Dot #[s, y]) (fun z W => efK PR (Instr.storeAt T_s_api_Dot p z) (fun _ W => k W) W) W) W) W) W := by kernel_rfl
theorem ap_fits {tmps : Array Value} {p v : Value} (hs : tmps.size = 13) (h2 : tmps[2]? = some p) : Fits 13 (apF p v) { tmps := tmps.setIfInBounds 7 v, defers := [] } := by
 refine ⟨by simp [hs], rfl, fun i u hi => ?_⟩
 have hi : (bif Nat.beq i 7 then some v else bif Nat.beq i 2 then some p else none) = some u := hi
 by_cases e7 : i = 7
 ·subst e7
  simp only [Nat.beq_refl, cond_true, Option.some.injEq] at hi
  subst hi
  simp [hs]
 ·have b7 : Nat.beq i 7 = false := by cases hb : Nat.beq i 7 with | false => rfl | true => exact absurd (Nat.eq_of_beq_eq_true hb) e7
  rw [b7] at hi
  by_cases e2 : i = 2
  ·subst e2
   simp only [Nat.beq_refl, cond_true, cond_false, Option.some.injEq] at hi
   subst hi
   simpa using h2
  ·have b2 : Nat.beq i 2 = false := by cases hb : Nat.beq i 2 with | false => rfl | true => exact absurd (Nat.eq_of_beq_eq_true hb) e2
   rw [b2] at hi
   cases hi
theorem apY {Bs lp D : Nat} {fn : FuncId} {tmps : Array Value} (hs : tmps.size = 13) (h2 : tmps[2]? = some (.pointer (some ⟨Bs, 0, none⟩))) {N : Nat} (hN : N < 1000000) : YJ Fence.wide m lp N (apJ Bs lp D fn tmps) := by
 intro W0 L pre x W hlen h
 obtain ⟨⟨a, c⟩, h⟩ := h.ex
 have h := h.flat
 simp only [List.cons_append, List.nil_append] at h
 have hl := (St.wk (L' := blk lp (.loop (apR fn tmps D .ready)) :: arr DOT T_api_Dot a c pre :: cells Bs [.slice a pre.length c] T_s_api_Dot :: blk D (.deferred (some [])) :: L) h)
 refine ⟨fn, tmps.setIfInBounds 7 (KD x), apA, apB, by simpa [apR] using run_yield (P := PR) (args := #[KD x]) hl.blk.2 rfl, roundIn_of_wpIn trivial ?_⟩
 refine regI [] (n := 13) (fun f => trivial) rfl CBok rfl (ap_fits (v := KD x) hs h2) (K := fun f w => ∃ b, f = upd (apF (.pointer (some ⟨Bs, 0, none⟩)) (KD x)) 5 (.pointer (some ⟨b, 0, none⟩)) ∧ St W0 (cells b [.int .i64 x.rep, .int .i64 x.n] T_api_Dot :: blk lp (.loop (apR fn tmps D .ready)) :: arr DOT T_api_Dot a c pre :: cells Bs [.slice a pre.length c] T_s_api_Dot :: blk D (.deferred (some [])) :: L) w) ?_ ?_
 ·rw [apA_ok]
  (repeat (first | ((with_reducible refine w11 ?_); intros) | ((with_reducible refine v12 ?_ ?_); exact rfl; intros) | ((with_reducible refine w12 ?_ ?_ ?_ ?_); simp; simp; simp [oneC]; intros)))
  rename_i b _ _ W3 h
  (try simp only [BLS, SB, stL_a, stL_b, stL_c, lsub_a, lsub_b, lsub_c, List.append_nil, List.take_nil, List.drop_nil, Nat.reduceAdd] at h)
  exact ⟨b, rfl, St.wk h⟩
 ·rintro f a1 w1 ⟨b, rfl, h⟩ ha hf
  have h := St.perm h (List.Perm.swap _ _ _)
  have hb := run_beginRound (P := PR) h.blk.2 rfl
  have h := h.setBlk (.loop { apR fn tmps D .ready with state := .busy })
  refine ⟨_, hb, wpIn_block ?_⟩
  generalize hw2 : w1.putObj lp (.loop { apR fn tmps D .ready with state := .busy }) = w2
  have h : St W0 (blk lp (.loop { apR fn tmps D .ready with state := .busy }) :: cells b [.int .i64 x.rep, .int .i64 x.n] T_api_Dot :: arr DOT T_api_Dot a c pre :: cells Bs [.slice a pre.length c] T_s_api_Dot :: blk D (.deferred (some [])) :: L) w2 := hw2 ▸ h
  refine regI [] (n := 13) (fun f => trivial) rfl CBok ha hf (K := fun _ w => ∃ a' c', St W0 (blk lp (.loop { apR fn tmps D .ready with state := .busy }) :: arr DOT T_api_Dot a' c' (pre ++ [x]) :: cells Bs [.slice a' (pre ++ [x]).length c'] T_s_api_Dot :: blk D (.deferred (some [])) :: L) w) ?_ ?_
  ·refine (apB_ok _ _ _ _ _ _ _).symm ▸ ?_
   (repeat (first | ((with_reducible refine v5 ?_); refine ⟨_, rfl, ?_⟩) | simp -implicitDefEqProofs only [SE, SU, SV]))
   refine bsA DOT [x] (n := 1) (by assumption) rfl rfl (by decide) (by decide) rfl fun a2 c2 W3 h => ?_
   refine appA (a := a) (l := pre) (m := [x]) h rfl (by simp; omega) (by simp [maxLen]; omega) fun a' c' W4 h => ?_
   (repeat ((with_reducible refine v12 ?_ ?_); exact rfl; intros))
   rename_i h
   (try simp only [BLS, SB, stL_a, stL_b, stL_c, lsub_a, lsub_b, lsub_c, List.append_nil, List.take_nil, List.drop_nil, Nat.reduceAdd] at h)
   exact ⟨a', c', St.wk h⟩
  ·rintro f a3 w3 ⟨a', c', h⟩ _ _
   simp only [Exit.inBlock, roundPost]
   refine ⟨_, _, run_endRound none h.blk.2, rfl, ?_⟩
   have h := h.setBlk (.loop (apR fn tmps D .ready))
   have h := St.wk (L' := arr DOT T_api_Dot a' c' (pre ++ [x]) :: cells Bs [.slice a' (pre ++ [x]).length c'] T_s_api_Dot :: blk lp (.loop (apR fn tmps D .ready)) :: blk D (.deferred (some [])) :: L) h
   exact h.ent ((ent.pack [_, _, _, _] L).trans (ent.weak fun _ hp => ⟨(a', c'), hp⟩))
def apC : Code := (Code.region 0 #[{ dst := some 2, op := Op.box T_s_api_Dot (.tmp 0), type := 0, pos := "iter.go:50", after := #[], guard := none }, { dst := some 4, op := Op.assign (.const (.slice none 0 0)), type := T_s_api_Dot, pos := "iter.go:50", after := #[], guard := none }] false).seq
 (((Code.region 1 #[{ dst := some 6, op := Op.move (.tmp 1), type := 101, pos := "iter.go:51", after := #[], guard := none }] false).seq (Code.block 0 (Code.rangeFunc (.tmp 6) #[7] apA apB))).seq
  ((Code.region 4 #[{ dst := some 12, op := Op.load T_s_api_Dot (.tmp 2), type := T_s_api_Dot, pos := "iter.go:54", after := #[], guard := none }, { dst := some 4, op := Op.assign (.tmp 12), type := T_s_api_Dot, pos := "iter.go:54", after := #[{ on := 0, ground := .data }, { on := 0, ground := .phase }], guard := none }] false).seq Code.ret))
theorem apC_ok : Tryz.f97.body = some apC := by kernel_rfl
theorem ap0_ok (F : Fence) (m : Nat) (v0 v1 : Value) (k : Frm → World → Prop) (W : World) : opsI F m PR CB 13 [{ dst := some 2, op := Op.box T_s_api_Dot (.tmp 0), type := 0, pos := "iter.go:50", after := #[], guard := none }, { dst := some 4, op := Op.assign (.const (.slice none 0 0)), type := T_s_api_Dot, pos := "iter.go:50", after := #[], guard := none }] (argF [v0, v1] 0) k W =
  efK PR (Instr.box T_s_api_Dot v0) (fun b W => k (upd (upd (argF [v0, v1] 0) 2 b) 4 (.slice none 0 0)) W) W := by kernel_rfl
abbrev apG (v0 v1 b : Value) : Frm := upd (upd (upd (argF [v0, v1] 0) 2 b) 4 (.slice none 0 0)) 6 v1
theorem ap1_ok (F : Fence) (m : Nat) (v0 v1 b : Value) (k : Frm → World → Prop) (W : World) : opsI F m PR CB 13 [{ dst := some 6, op := Op.move (.tmp 1), type := 101, pos := "iter.go:51", after := #[], guard := none }] (upd (upd (argF [v0, v1] 0) 2 b) 4 (.slice none 0 0)) k W = k (apG v0 v1 b) W := by kernel_rfl
theorem ap4_ok (F : Fence) (m : Nat) (v0 v1 b : Value) (k : Frm → World → Prop) (W : World) : opsI F m PR CB 13 [{ dst := some 12, op := Op.load T_s_api_Dot (.tmp 2), type := T_s_api_Dot, pos := "iter.go:54", after := #[], guard := none }, { dst := some 4, op := Op.assign (.tmp 12), type := T_s_api_Dot, pos := "iter.go:54", after := #[{ on := 0, ground := .data }, { on := 0, ground := .phase }], guard := none }] (apG v0 v1 b) k W =
  rdK PR (Instr.loadAt T_s_api_Dot b) (fun s W => k (upd (upd (apG v0 v1 b) 12 s) 4 s) W) W := by kernel_rfl
abbrev FAp : Nat := F_slices_AppendSeq_api_Dot_api_Dot
theorem appSeq {r Bm : Nat} {l : List (Dot × Value)} (hl : l.length < 1000000) (h : St W0 (cells Bm [.map (some r)] T_m_api_Dot_inst_Rec :: mp KD r l :: L) W) :
  CallsIn Fence.wide m PR FAp #[.slice none 0 0, .func (.func FK1) #[] #[.pointer (some ⟨Bm, 0, none⟩)]] W fun e W' => ∃ a c, ∃ ks : List Dot, e = .returned (.slice a ks.length c) ∧ ks.Perm (l.map (·.1)) ∧ St W0 (arr DOT T_api_Dot a c ks :: cells Bm [.map (some r)] T_m_api_Dot_inst_Rec :: mp KD r l :: L) W' := by
 refine callsIn_of_wp_marks (fn := Tryz.f97) (c := apC) (by kernel_rfl) apC_ok trivial ?_ rfl
 unfold apC
 refine wpIn_seq (regI [] (n := 13) (fun f => trivial) rfl CBok rfl (fits_args (args := [.slice none 0 0, .func (.func FK1) #[] #[.pointer (some ⟨Bm, 0, none⟩)]]) (by simp))
  (K := fun f w => ∃ b, f = upd (upd (argF [.slice none 0 0, .func (.func FK1) #[] #[.pointer (some ⟨Bm, 0, none⟩)]] 0) 2 (.pointer (some ⟨b, 0, none⟩))) 4 (.slice none 0 0) ∧ St W0 (cells b [.slice none 0 0] T_s_api_Dot :: cells Bm [.map (some r)] T_m_api_Dot_inst_Rec :: mp KD r l :: L) w) ?_ ?_)
 ·rw [ap0_ok]
  refine bx h fun b W1 h => ⟨b, rfl, h⟩
 rintro f a1 w1 ⟨b, rfl, h⟩ ha hf
 refine wpIn_seq (wpIn_seq (regI [] (n := 13) (fun f => trivial) rfl CBok ha hf (K := fun f w => f = apG (.slice none 0 0) (.func (.func FK1) #[] #[.pointer (some ⟨Bm, 0, none⟩)]) (.pointer (some ⟨b, 0, none⟩)) ∧ St W0 (cells b [.slice none 0 0] T_s_api_Dot :: cells Bm [.map (some r)] T_m_api_Dot_inst_Rec :: mp KD r l :: L) w) ?_ ?_))
 ·rw [ap1_ok]
  exact ⟨rfl, h⟩
 clear h hf ha
 rintro f a2 w2 ⟨rfl, h⟩ ha hf
 refine wpIn_block (wpIn_rangeFunc fun fn _ => ?_)
 have h1 := (h.alloc (.deferred (some []))).alloc (.loop { state := .ready, pending := none, fn := fn, tmps := a2.tmps, params := #[7], assign := apA, body := apB, defers := w2.heap.size })
 generalize hw3 : ((w2.alloc (.deferred (some []))).alloc (.loop { state := .ready, pending := none, fn := fn, tmps := a2.tmps, params := #[7], assign := apA, body := apB, defers := w2.heap.size })) = w3 at h1
 have h6 : a2.eval (.tmp 6) = .func (.func FK1) #[] #[.pointer (some ⟨Bm, 0, none⟩)] := hf.eval (a := { a2 with defers := [] }) (x := .tmp 6) rfl
 refine ⟨w2.heap.size + 1, [{ target := .collected w2.heap.size, args := #[] }], w3, { target := .fn (.func FK1) #[.pointer (some ⟨Bm, 0, none⟩)], args := #[.func (.yield (w2.heap.size + 1)) #[] #[]] }, w3, FK1, #[.func (.yield (w2.heap.size + 1)) #[] #[], .pointer (some ⟨Bm, 0, none⟩)], w3, ?_, ?_, ?_, ?_, fun hc => (by cases hc), ?_⟩
 ·rw [← hw3]; exact run_enterLoop_outer _ _ _ _ _
 ·have h6' := hf.tmps 6 _ rfl
  simp only at h6'
  simp [resolve, rangeCall, Deferred.ofValue, Act.eval, h6']
 ·intro f' hf'; trivial
 ·have := callFunc_ok (P := PR) (g := FK1) (args := #[.func (.yield (w2.heap.size + 1)) #[] #[], .pointer (some ⟨Bm, 0, none⟩)]) (CBok _ (by kernel_rfl)) w3
  simpa [invoke] using this
 have hsz : a2.tmps.size = 13 := hf.size
 have h2 : a2.tmps[2]? = some (.pointer (some ⟨b, 0, none⟩)) := hf.tmps 2 _ rfl
 have hJ : St W0 (apJ b (w2.heap.size + 1) w2.heap.size fn a2.tmps [] :: cells Bm [.map (some r)] T_m_api_Dot_inst_Rec :: mp KD r l :: L) w3 := by
  rw [World.size_alloc] at h1
  have h1 : St W0 (arr DOT T_api_Dot none 0 [] :: blk (w2.heap.size + 1) (.loop (apR fn a2.tmps w2.heap.size .ready)) :: blk w2.heap.size (.deferred (some [])) :: cells b [.slice none 0 0] T_s_api_Dot :: cells Bm [.map (some r)] T_m_api_Dot_inst_Rec :: mp KD r l :: L) w3 := (h1.ent (arr_nil DOT T_api_Dot))
  have h1 := St.wk (L' := arr DOT T_api_Dot none 0 [] :: cells b [.slice none 0 0] T_s_api_Dot :: blk (w2.heap.size + 1) (.loop (apR fn a2.tmps w2.heap.size .ready)) :: blk w2.heap.size (.deferred (some [])) :: cells Bm [.map (some r)] T_m_api_Dot_inst_Rec :: mp KD r l :: L) h1
  exact h1.ent ((ent.pack [_, _, _, _] _).trans (ent.weak fun _ hp => ⟨(none, 0), hp⟩))
 refine (keys1 (F := Fence.wide) (fun f => trivial) rfl rfl (apY hsz h2 hl) hJ).mono ?_
 rintro e w4 ⟨⟨v, rfl⟩, ks, hp, h⟩
 obtain ⟨⟨a, c⟩, h⟩ := h.ex
 have h := h.flat
 simp only [List.cons_append, List.nil_append] at h
 have h := St.wk (L' := blk (w2.heap.size + 1) (.loop (apR fn a2.tmps w2.heap.size .ready)) :: blk w2.heap.size (.deferred (some [])) :: cells b [.slice a ks.length c] T_s_api_Dot :: arr DOT T_api_Dot a c ks :: cells Bm [.map (some r)] T_m_api_Dot_inst_Rec :: mp KD r l :: L) h
 have he := run_endLoop (P := PR) h.blk.2 (by simp [apR])
 have h := (h.setBlk (.loop { apR fn a2.tmps w2.heap.size .ready with state := .exhausted })).drop
 refine ⟨_, _, he, ?_⟩
 generalize hw5 : w4.putObj (w2.heap.size + 1) (.loop { apR fn a2.tmps w2.heap.size .ready with state := .exhausted }) = w5
 have h : St W0 (blk w2.heap.size (.deferred (some [])) :: cells b [.slice a ks.length c] T_s_api_Dot :: arr DOT T_api_Dot a c ks :: cells Bm [.map (some r)] T_m_api_Dot_inst_Rec :: mp KD r l :: L) w5 := hw5 ▸ h
 simp only [apR, Exit.inBlock, Exit.then]
 have hD : a2.defers = [] := ha
 refine wpIn_seq (regI [{ target := .collected w2.heap.size, args := #[] }] (n := 13) (fun f => trivial) rfl CBok (by simp [hD]) hf (K := fun f w => f 4 = some (.slice a ks.length c) ∧ St W0 (blk w2.heap.size (.deferred (some [])) :: arr DOT T_api_Dot a c ks :: cells Bm [.map (some r)] T_m_api_Dot_inst_Rec :: mp KD r l :: L) w) ?_ ?_)
 ·rw [ap4_ok]
  (repeat ((with_reducible refine v5 ?_); refine ⟨_, rfl, ?_⟩))
  exact ⟨rfl, St.wk (by assumption)⟩
 clear h hf ha
 rintro f a5 w6 ⟨h4, h⟩ ha hf
 refine wpIn_ret ?_
 have ht4 : a5.tmps.getD 4 undef = .slice a ks.length c := by
  have := hf.tmps 4 _ h4
  rw [Array.getD_eq_getD_getElem?, this]; rfl
 show LeavesInM Fence.wide m PR Tryz.f97 a5.tmps _ a5.defers .returning w6
 rw [ha]
 refine ⟨by simp, .inl ⟨_, _, rfl, run_takeDeferred h.blk.2, ?_⟩⟩
 have h := (h.setBlk (.deferred none)).drop
 refine ⟨_, results_tmp rfl _ _ _, a, c, ks, by rw [ht4], hp, ?_⟩
 exact St.wk h
end
end Go.Proofs.YtfhacbhgmnhmlaaGreat
namespace Go.Proofs.YtfhacbhgmnhmlaaGreat
set_option linter.unusedVariables false
set_option linter.unusedSimpArgs false
open Go Go.Eng
abbrev Rec.v (r : Rec BSl) : Value := .agg #[.int .i64 r.st, r.cmd.v, .int .i64 r.seq, .int .i64 r.deps.x0, .int .i64 r.deps.x1, .int .i64 r.deps.x2, .int .i64 r.deps.x3, .int .i64 r.deps.x4, .int .i64 r.deps.x5, .int .i64 r.deps.x6, .int .i64 r.bal.1, .int .i64 r.bal.2, .int .i64 r.ab.1, .int .i64 r.ab.2]
abbrev rvs (fs : List (Dot × Rec BSl)) : List (Dot × Value) := fs.map fun q => (q.1, q.2.v)
abbrev rts (fs : List (Dot × Rec BSl)) : Tbl := fs.map fun q => (q.1, q.2.map BSl.bs)
structure TX where
 r : Nat
 fs : List (Dot × Rec BSl)
 B : List BSl
def tb (p : Nat) (T : Tbl) : Asn := fun h => ∃ x : TX, (rts x.fs = T ∧ Tok T ∧ ∀ q ∈ x.fs, InB q.2.cmd x.B) ∧ sep [cells p [.map (some x.r)] T_inst_Table, mp KD x.r (rvs x.fs), many fch x.B] h
section
variable {W0 W : World} {L L' : List Asn}
theorem tb_at {p : Nat} {T : Tbl} (h : St W0 (tb p T :: L) W) : ∃ r fs B, (rts fs = T ∧ Tok T ∧ ∀ q ∈ fs, InB q.2.cmd B) ∧ St W0 (cells p [.map (some r)] T_inst_Table :: mp KD r (rvs fs) :: many fch B :: L) W := by
 obtain ⟨x, h⟩ := h.ex
 obtain ⟨h1, h⟩ := h.fact
 exact ⟨x.r, x.fs, x.B, h1, h.flat⟩
theorem tb_ent {p r : Nat} {fs : List (Dot × Rec BSl)} {B : List BSl} {T : Tbl} (h : rts fs = T ∧ Tok T ∧ ∀ q ∈ fs, InB q.2.cmd B) :
  ent (cells p [.map (some r)] T_inst_Table :: mp KD r (rvs fs) :: many fch B :: L) (tb p T :: L) :=
 (ent.pack [_, _, _] L).trans (ent.weak fun _ hp => ⟨⟨r, fs, B⟩, h, hp⟩)
theorem instNew {k : Value → World → Prop} (h : St W0 L W) (hk : ∀ p W', St W0 (tb p [] :: L) W' → k (.pointer (some ⟨p, 0, none⟩)) W') : callK PR F_inst_New [] k W := by
 apply S.inst_New.call
 delta S.inst_New.body oK oA rD lD eF eU sT cL vC gD gX gP gA gR gL gE gU gC gV hL sB nI
 refine mkMap (K := KD) h fun r W1 h => ?_
 (repeat (first | ((with_reducible refine w3 ?_); intros) | (refine okF_i (bldP_eq rfl) ?_; try simp only [BLS, SB, Nat.reduceAdd])))
 rename_i h
 exact hk _ _ (h.ent ((ent.cons _ (ent.cons _ (many_nil (F := fch)))).trans (tb_ent (T := []) (r := r) (fs := []) (B := []) ⟨rfl, (fun q hq => nomatch hq), fun q hq => nomatch hq⟩)))
theorem instCopied {r : Rec BSl} {k : Value → World → Prop} (h : St W0 L W) [hr : Rd W0 L r.cmd.a B8 r.cmd.bs] (hl : r.cmd.bs.length < 1099511627776)
  (hk : ∀ (x : BSl) W', x.bs = r.cmd.bs → St W0 (fch x :: L) W' → k (.agg #[.int .i64 ({ r with cmd := x }).st, ({ r with cmd := x }).cmd.v, .int .i64 ({ r with cmd := x }).seq, .int .i64 (({ r with cmd := x }).deps).x0, .int .i64 (({ r with cmd := x }).deps).x1, .int .i64 (({ r with cmd := x }).deps).x2, .int .i64 (({ r with cmd := x }).deps).x3, .int .i64 (({ r with cmd := x }).deps).x4, .int .i64 (({ r with cmd := x }).deps).x5, .int .i64 (({ r with cmd := x }).deps).x6, .int .i64 (({ r with cmd := x }).bal).1, .int .i64 (({ r with cmd := x }).bal).2, .int .i64 (({ r with cmd := x }).ab).1, .int .i64 (({ r with cmd := x }).ab).2]) W') : callK PR F_inst_copied [.agg #[.int .i64 r.st, r.cmd.v, .int .i64 r.seq, .int .i64 r.deps.x0, .int .i64 r.deps.x1, .int .i64 r.deps.x2, .int .i64 r.deps.x3, .int .i64 r.deps.x4, .int .i64 r.deps.x5, .int .i64 r.deps.x6, .int .i64 r.bal.1, .int .i64 r.bal.2, .int .i64 r.ab.1, .int .i64 r.ab.2]] k W := by
 apply S.inst_copied.call
 delta S.inst_copied.body oK oA rD lD eF eU sT cL vC gD gX gP gA gR gL gE gU gC gV hL sB nI
 refine bxa h fun b W1 h => ?_
 (repeat (first | ((with_reducible refine w11 ?_); intros) | ((with_reducible refine v5 ?_); refine ⟨_, rfl, ?_⟩) | simp -implicitDefEqProofs only [SE, SU, SV]))
 refine bytesClone (a := r.cmd.a) (l := r.cmd.bs) (by assumption) (by omega) fun a c W2 h => ?_
 (repeat (first | ((with_reducible refine v5 ?_); refine ⟨_, rfl, ?_⟩) | ((with_reducible refine v12 ?_ ?_); exact rfl; intros) | ((with_reducible refine w5 ?_ ?_); simp; refine ⟨_, rfl, ?_⟩) | ((with_reducible refine w12 ?_ ?_ ?_ ?_); simp; simp; simp [oneC]; intros) | simp -implicitDefEqProofs only [SE, SU, SV]))
 exact hk ⟨a, c, r.cmd.bs⟩ _ rfl (St.wk (L' := arr B8 T_uint8 a c r.cmd.bs :: L) (by assumption))
theorem instWould {p : Nat} {T : Tbl} {d : Dot} {k : Value → World → Prop} (h : St W0 L W) [ht : Tk (tb p) L T L'] (hk : ∀ W', St W0 (tb p T :: L') W' → k (.tuple #[.int .i64 (would T d).1, .agg #[.int .i64 ((would T d).2).x0, .int .i64 ((would T d).2).x1, .int .i64 ((would T d).2).x2, .int .i64 ((would T d).2).x3, .int .i64 ((would T d).2).x4, .int .i64 ((would T d).2).x5, .int .i64 ((would T d).2).x6]]) W') :
  callK PR F_inst_Table_Would [.pointer (some ⟨p, 0, none⟩), .agg #[.int .i64 d.rep, .int .i64 d.n]] k W := by
 apply S.inst_Table_Would.call
 delta S.inst_Table_Would.body oK oA rD lD eF eU sT cL vC gD gX gP gA gR gL gE gU gC gV hL sB nI
 obtain ⟨r, fs, B, hT, h⟩ := tb_at (h.perm ht.perm)
 refine bxa h fun db W1 h => ?_
 refine al h fun ob W1 h => ?_
 (repeat (first | ((with_reducible refine w11 ?_); intros) | ((with_reducible refine v12 ?_ ?_); exact rfl; intros) | ((with_reducible refine w12 ?_ ?_ ?_ ?_); simp; simp; simp [oneC]; intros) | (refine okF_i (bldP_eq rfl) ?_; try simp only [BLS, SB, Nat.reduceAdd]) | simp -implicitDefEqProofs only [SE, SU, SV]))
 rename_i sb _ _ W2 h
 (try simp only [BLS, SB, stL_a, stL_b, stL_c, lsub_a, lsub_b, lsub_c, List.append_nil, List.take_nil, List.drop_nil, Nat.reduceAdd] at h)
 refine joinK_i ?_
 (repeat ((with_reducible refine v5 ?_); refine ⟨_, rfl, ?_⟩))
 refine rangeM (K := KD) h fun b W1 h => ?_
 refine loop_x (σ := (Int × P7 Int) × List (Dot × Rec BSl)) (fun x => [.pointer (some ⟨db, 0, none⟩), .pointer (some ⟨ob, 0, none⟩), .int .i64 x.1.1, .pointer (some ⟨sb, 0, none⟩), .pointer (some ⟨b, 0, none⟩)])
  (fun x W1 => (rts x.2).foldl (wouldStep d) x.1 = would T d ∧ (∀ q ∈ x.2, q.1.okI = true) ∧ ∃ cur, St W0 (mpi KD r b (rvs fs) (rvs x.2) cur :: cells sb [.int .i64 x.1.2.x0, .int .i64 x.1.2.x1, .int .i64 x.1.2.x2, .int .i64 x.1.2.x3, .int .i64 x.1.2.x4, .int .i64 x.1.2.x5, .int .i64 x.1.2.x6] T_vec_Vec :: cells ob [.int .i64 (P7.all 0).x0, .int .i64 (P7.all 0).x1, .int .i64 (P7.all 0).x2, .int .i64 (P7.all 0).x3, .int .i64 (P7.all 0).x4, .int .i64 (P7.all 0).x5, .int .i64 (P7.all 0).x6] T_vec_Vec :: cells db [.int .i64 d.rep, .int .i64 d.n] T_api_Dot :: cells p [.map (some r)] T_inst_Table :: many fch B :: L') W1)
  (fun x => x.2.length) ((0, P7.all 0), fs) rfl ⟨by rw [hT.1]; rfl, fun q hq => (hT.2.1 (q.1, q.2.map BSl.bs) (by rw [← hT.1]; exact List.mem_map.2 ⟨q, hq, rfl⟩)).1, none, St.wk h⟩ ?_
 clear h
 rintro K ⟨acc, gs⟩ W3 ⟨hf, hok, cur, h⟩ hK
 simp -implicitDefEqProofs only [SE, SU, SV]
 delta S.inst_Table_Would.l1 oK oA rD lD eF eU sT cL vC gD gX gP gA gR gL gE gU gC gV hL sB nI
 refine nextM h (fun h0 => ?_) (fun pre o v post W4 h1 h => ?_)
 ·have : gs = [] := by simpa using h0
  subst this
  simp only [List.map_nil, List.foldl_nil] at hf
  have h := St.mpiEnd h
  (repeat simp -implicitDefEqProofs only [SE, SU, SV])
  delta S.inst_Table_Would.j1 oK oA rD lD eF eU sT cL vC gD gX gP gA gR gL gE gU gC gV hL sB nI
  (repeat (first | ((with_reducible refine v5 ?_); refine ⟨_, rfl, ?_⟩) | ((with_reducible refine v12 ?_ ?_); exact rfl; intros) | ((with_reducible refine w5 ?_ ?_); simp; refine ⟨_, rfl, ?_⟩) | simp -implicitDefEqProofs only [SE, SU, SV]))
  rename_i h
  rw [hf]
  exact hk _ ((St.wk (L' := cells p [.map (some r)] T_inst_Table :: mp KD r (rvs fs) :: many fch B :: L') h).ent (tb_ent hT))
 ·obtain ⟨A, tl, rfl, rfl, h2⟩ := List.map_eq_append_iff.1 h1
  obtain ⟨x, C, rfl, h3, rfl⟩ := List.map_eq_cons_iff.1 h2
  simp only [Prod.mk.injEq] at h3
  obtain ⟨rfl, rfl⟩ := h3
  simp only at hf hok h
  have hx := hok x (by simp)
  have hpk : (rts (A ++ C)).foldl (wouldStep d) (wouldStep d acc (x.1, x.2.map BSl.bs)) = would T d := by
   rw [← hf, rts, List.map_append, rts, List.map_append, List.map_cons, would_pick]
  have hgo : ∀ acc' n o W', wouldStep d acc (x.1, x.2.map BSl.bs) = acc' → acc'.1 = n →
    St W0 (mpi KD r b (rvs fs) (List.map (fun q => (q.1, q.2.v)) A ++ List.map (fun q => (q.1, q.2.v)) C) o :: cells sb [.int .i64 acc'.2.x0, .int .i64 acc'.2.x1, .int .i64 acc'.2.x2, .int .i64 acc'.2.x3, .int .i64 acc'.2.x4, .int .i64 acc'.2.x5, .int .i64 acc'.2.x6] T_vec_Vec :: cells ob [.int .i64 (P7.all 0).x0, .int .i64 (P7.all 0).x1, .int .i64 (P7.all 0).x2, .int .i64 (P7.all 0).x3, .int .i64 (P7.all 0).x4, .int .i64 (P7.all 0).x5, .int .i64 (P7.all 0).x6] T_vec_Vec :: cells db [.int .i64 d.rep, .int .i64 d.n] T_api_Dot :: cells p [.map (some r)] T_inst_Table :: many fch B :: L') W' →
    K [.pointer (some ⟨db, 0, none⟩), .pointer (some ⟨ob, 0, none⟩), .int .i64 n, .pointer (some ⟨sb, 0, none⟩), .pointer (some ⟨b, 0, none⟩)] W' := by
   intro acc' n o W' e en h
   subst e en
   refine hK (_, A ++ C) W' (by simp) ⟨hpk, fun q hq => hok q (by simp at hq ⊢; rcases hq with h | h <;> simp [h]), o, ?_⟩
   rw [show rvs (A ++ C) = List.map (fun q => (q.1, q.2.v)) A ++ List.map (fun q => (q.1, q.2.v)) C from List.map_append]
   exact h
  clear hK hf hpk
  (repeat simp -implicitDefEqProofs only [SE, SU, SV, KD, Rec.v])
  refine entryM h ?_
  (repeat (first | ((with_reducible refine w11 ?_); intros) | ((with_reducible first | refine v5 ?_ | refine ve ?_); refine ⟨_, rfl, ?_⟩) | ((with_reducible refine v12 ?_ ?_); exact rfl; intros) | ((with_reducible refine w5 ?_ ?_); simp; refine ⟨_, rfl, ?_⟩) | ((with_reducible refine w12 ?_ ?_ ?_ ?_); simp; simp; simp [oneC]; intros) | simp -implicitDefEqProofs only [SE, SU, SV, KD, Rec.v]))
  have ed : (decide (x.1.rep = d.rep) && decide (x.1.n = d.n)) = decide (x.1 = d) := by
   rw [Bool.eq_iff_iff]; cases x.1; cases d; simp
  by_cases hd : x.1 = d
  ·rw [decide_eq_true hd] at ed
   (repeat simp -implicitDefEqProofs only [SE, SU, SV, ed])
   exact hgo acc _ (some (x.1, x.2.v)) _ (by unfold wouldStep; rw [if_pos (.inl hd)]) rfl (St.wk (by assumption))
  rw [decide_eq_false hd] at ed
  by_cases h0 : x.2.st = 0
  ·(repeat (first | ((with_reducible refine v5 ?_); refine ⟨_, rfl, ?_⟩) | ((with_reducible refine w5 ?_ ?_); simp; refine ⟨_, rfl, ?_⟩) | simp -implicitDefEqProofs only [SE, SU, SV, ed, h0]))
   exact hgo acc _ (some (x.1, x.2.v)) _ (by unfold wouldStep; rw [if_pos (.inr h0)]) rfl (St.wk (by assumption))
  have hw : wouldStep d acc (x.1, x.2.map BSl.bs) = (imax acc.1 (IntKind.i64.wrap (x.2.seq + 1)), acc.2.set x.1.rep.toNat (imax (acc.2.get x.1.rep.toNat) x.1.n)) := by
   unfold wouldStep; rw [if_neg (by rintro (h | h); exact hd h; exact h0 h)]; rfl
  have hrep : 0 ≤ x.1.rep ∧ x.1.rep < 7 := by unfold Dot.okI at hx; simp at hx; omega
  have ia : idxA 7 1 (.pointer (some ⟨sb, 0, none⟩)) (.int .i64 x.1.rep) = some (.pointer (some ⟨sb, x.1.rep.toNat, none⟩)) := by rw [idxA_blk (by omega) (by omega)]; simp
  have hlt : x.1.rep.toNat < 7 := by omega
  (repeat (first | ((with_reducible refine v5 ?_); refine ⟨_, rfl, ?_⟩) | ((with_reducible refine w5 ?_ ?_); simp; refine ⟨_, rfl, ?_⟩) | simp -implicitDefEqProofs only [SE, SU, SV, ed, h0, ia, max2i]))
  generalize x.1.rep.toNat = i at *
  clear ia
  rcases P7.cases7 hlt with rfl | rfl | rfl | rfl | rfl | rfl | rfl
  all_goals
   (repeat (first | ((with_reducible refine v5 ?_); refine ⟨_, rfl, ?_⟩) | ((with_reducible refine v12 ?_ ?_); exact rfl; intros) | ((with_reducible refine w5 ?_ ?_); simp; refine ⟨_, rfl, ?_⟩) | simp -implicitDefEqProofs only [SE, SU, SV, max2i]))
   rename_i h
   (try simp only [BLS, SB, stL_a, stL_b, stL_c, lsub_a, lsub_b, lsub_c, List.append_nil, List.take_nil, List.drop_nil, Nat.reduceAdd] at h)
   refine hgo _ _ (some (x.1, x.2.v)) _ hw rfl ?_
   simp (decide := true) only [imax, if_true, if_false]
   exact St.wk h
end
end Go.Proofs.YtfhacbhgmnhmlaaGreat
namespace Go.Proofs.YtfhacbhgmnhmlaaGreat
set_option linter.unusedVariables false
set_option linter.unusedSimpArgs false
open Go Go.Eng
section
variable {W0 W : World} {L L' : List Asn}
theorem v7eq (v : P7 Int) : (decide (v.x0 = 0) && (decide (v.x1 = 0) && (decide (v.x2 = 0) && (decide (v.x3 = 0) && (decide (v.x4 = 0) && (decide (v.x5 = 0) && decide (v.x6 = 0))))))) = decide (v = P7.all 0) := by
 rw [Bool.eq_iff_iff]; cases v; simp [P7.all]
theorem instMay {m : Msg BSl} {k : Value → World → Prop} (h : St W0 L W) (hk : ∀ W', St W0 L W' → k (.bool (m.map BSl.bs).may) W') : callK PR F_inst_May [.agg #[.int .i64 m.kind, .int .i64 m.dot.rep, .int .i64 m.dot.n, .int .i64 m.bal.1, .int .i64 m.bal.2, m.cmd.v, .int .i64 m.seq, .int .i64 m.deps.x0, .int .i64 m.deps.x1, .int .i64 m.deps.x2, .int .i64 m.deps.x3, .int .i64 m.deps.x4, .int .i64 m.deps.x5, .int .i64 m.deps.x6]] k W := by
 apply S.inst_May.call
 delta S.inst_May.body oK oA rD lD eF eU sT cL vC gD gX gP gA gR gL gE gU gC gV hL sB nI
 have hk' : ∀ b c W', (m.map BSl.bs).may = b → St W0 (c :: L) W' → k (.bool b) W' := fun b c W' e h => e ▸ hk W' h.drop
 clear hk
 have hm : (m.map BSl.bs).may = (decide (1 ≤ m.kind ∧ m.kind ≤ 4) && m.dot.okI && goodB m.bal.1 m.bal.2 && contentOk m.cmd.bs.length m.seq m.deps && (decide (m.kind ≠ 4) || (decide (m.cmd.bs.length = 0) && decide (m.seq = 0) && decide (m.deps = P7.all 0)))) := rfl
 rw [hm] at hk'
 clear hm
 by_cases h1 : m.kind < 1
 ·(repeat (first | ((with_reducible refine w3 ?_); intros) | ((with_reducible refine v5 ?_); refine ⟨_, rfl, ?_⟩) | simp -implicitDefEqProofs only [SE, SU, SV, h1]))
  rename_i h
  exact hk' _ _ _ (by rw [decide_eq_false (by omega)]; rfl) h
 by_cases h2 : 4 < m.kind
 ·(repeat (first | ((with_reducible refine w3 ?_); intros) | ((with_reducible refine v5 ?_); refine ⟨_, rfl, ?_⟩) | simp -implicitDefEqProofs only [SE, SU, SV, h1, h2]))
  rename_i h
  exact hk' _ _ _ (by rw [decide_eq_false (by omega)]; rfl) h
 rw [decide_eq_true (show 1 ≤ m.kind ∧ m.kind ≤ 4 by omega), Bool.true_and] at hk'
 cases h3 : (Dot.okI ⟨m.dot.rep, m.dot.n⟩) with
 | false =>
  (repeat (first | ((with_reducible first | refine w1 ?_ | refine w3 ?_); intros) | ((with_reducible refine v5 ?_); refine ⟨_, rfl, ?_⟩) | simp -implicitDefEqProofs only [SE, SU, SV, h1, h2, h3]))
  rename_i h
  exact hk' _ _ _ (by rw [show m.dot.okI = false from h3]; rfl) h
 | true =>
 rw [show m.dot.okI = true from h3, Bool.true_and] at hk'
 cases h4 : goodB m.bal.1 m.bal.2 with
 | false =>
  (repeat (first | ((with_reducible first | refine w1 ?_ | refine w3 ?_); intros) | ((with_reducible refine v5 ?_); refine ⟨_, rfl, ?_⟩) | simp -implicitDefEqProofs only [SE, SU, SV, h1, h2, h3, h4]))
  rename_i h
  exact hk' _ _ _ (by rw [h4]; rfl) h
 | true =>
 rw [h4, Bool.true_and] at hk'
 (repeat (first | ((with_reducible first | refine w1 ?_ | refine w3 ?_); intros) | ((with_reducible refine v5 ?_); refine ⟨_, rfl, ?_⟩) | simp -implicitDefEqProofs only [SE, SU, SV, h1, h2, h3, h4]))
 refine instContent (by assumption) fun W1 h => ?_
 cases h5 : contentOk m.cmd.bs.length m.seq m.deps with
 | false =>
  (repeat simp -implicitDefEqProofs only [SE, SU, SV, h5])
  exact hk' _ _ _ (by rw [h5]; rfl) h
 | true =>
 rw [h5, Bool.true_and] at hk'
 by_cases h6 : m.kind = 4
 ·rw [decide_eq_false (show ¬ (m.kind ≠ 4) by omega), Bool.false_or] at hk'
  by_cases h7 : ((m.cmd.bs.length : Nat) : Int) = 0
  ·by_cases h8 : m.seq = 0
   ·(repeat (first | ((with_reducible first | refine v5 ?_ | refine ve ?_); refine ⟨_, rfl, ?_⟩) | (refine okF_i (bldP_eq rfl) ?_; try simp only [BLS, SB, Nat.reduceAdd]) | simp -implicitDefEqProofs only [SE, SU, SV, h6, h7, h8, v7eq]))
    refine hk' _ _ _ ?_ (by assumption)
    rw [decide_eq_true (show m.cmd.bs.length = 0 by omega), decide_eq_true h8]
    rfl
   ·(repeat (first | ((with_reducible refine v5 ?_); refine ⟨_, rfl, ?_⟩) | simp -implicitDefEqProofs only [SE, SU, SV, h6, h7, h8]))
    exact hk' _ _ _ (by rw [decide_eq_false h8, Bool.and_false]; rfl) (by assumption)
  ·(repeat (first | ((with_reducible refine v5 ?_); refine ⟨_, rfl, ?_⟩) | simp -implicitDefEqProofs only [SE, SU, SV, h6, h7]))
   exact hk' _ _ _ (by rw [decide_eq_false (show ¬ m.cmd.bs.length = 0 by omega)]; rfl) (by assumption)
 ·(repeat (first | ((with_reducible refine v5 ?_); refine ⟨_, rfl, ?_⟩) | simp -implicitDefEqProofs only [SE, SU, SV, h6]))
  exact hk' _ _ _ (by rw [decide_eq_true h6]; rfl) (by assumption)
theorem instOld {v : Value} {m : Msg BSl} {r : Rec BSl} {k : Value → World → Prop} (h : St W0 L W) [hr : Rd W0 L r.cmd.a B8 r.cmd.bs] (hl : r.cmd.bs.length < 1099511627776)
  (hn : old (m.map BSl.bs) (r.map BSl.bs) = none → ∀ v W', St W0 L W' → v = .agg #[.bool false, .int .i64 0, .int .i64 0, .int .i64 0, .slice none 0 0, .int .i64 0, .int .i64 (P7.all 0).x0, .int .i64 (P7.all 0).x1, .int .i64 (P7.all 0).x2, .int .i64 (P7.all 0).x3, .int .i64 (P7.all 0).x4, .int .i64 (P7.all 0).x5, .int .i64 (P7.all 0).x6, .int .i64 0, .int .i64 0, .int .i64 0, .int .i64 0] → k (.tuple #[v, .bool false]) W')
  (hs : ∀ ok, old (m.map BSl.bs) (r.map BSl.bs) = some ok → ∀ (x : BSl) W', x.bs = r.cmd.bs → St W0 (fch x :: L) W' → k (.tuple #[.agg #[.bool ok, .int .i64 r.bal.1, .int .i64 r.bal.2, .int .i64 ({ r with cmd := x }).st, ({ r with cmd := x }).cmd.v, .int .i64 ({ r with cmd := x }).seq, .int .i64 (({ r with cmd := x }).deps).x0, .int .i64 (({ r with cmd := x }).deps).x1, .int .i64 (({ r with cmd := x }).deps).x2, .int .i64 (({ r with cmd := x }).deps).x3, .int .i64 (({ r with cmd := x }).deps).x4, .int .i64 (({ r with cmd := x }).deps).x5, .int .i64 (({ r with cmd := x }).deps).x6, .int .i64 (({ r with cmd := x }).bal).1, .int .i64 (({ r with cmd := x }).bal).2, .int .i64 (({ r with cmd := x }).ab).1, .int .i64 (({ r with cmd := x }).ab).2], .bool true]) W') :
  callK PR F_inst_Table_old [v, .agg #[.int .i64 m.kind, .int .i64 m.dot.rep, .int .i64 m.dot.n, .int .i64 m.bal.1, .int .i64 m.bal.2, m.cmd.v, .int .i64 m.seq, .int .i64 m.deps.x0, .int .i64 m.deps.x1, .int .i64 m.deps.x2, .int .i64 m.deps.x3, .int .i64 m.deps.x4, .int .i64 m.deps.x5, .int .i64 m.deps.x6], .agg #[.int .i64 r.st, r.cmd.v, .int .i64 r.seq, .int .i64 r.deps.x0, .int .i64 r.deps.x1, .int .i64 r.deps.x2, .int .i64 r.deps.x3, .int .i64 r.deps.x4, .int .i64 r.deps.x5, .int .i64 r.deps.x6, .int .i64 r.bal.1, .int .i64 r.bal.2, .int .i64 r.ab.1, .int .i64 r.ab.2]] k W := by
 apply S.inst_Table_old.call
 delta S.inst_Table_old.body oK oA rD lD eF eU sT cL vC gD gX gP gA gR gL gE gU gC gV hL sB nI
 refine bxa h fun mb W1 h => ?_
 refine bxa h fun rb W1 h => ?_
 refine al h fun ab W1 h => ?_
 (try simp only [BLS, SB, stL_a, stL_b, stL_c, lsub_a, lsub_b, lsub_c, List.append_nil, List.take_nil, List.drop_nil, Nat.reduceAdd] at h)
 by_cases h3 : r.st = 3
 ·have hs := hs _ (old_3 (m := m.map BSl.bs) (r := r.map BSl.bs) h3)
  clear hn
  have e3 := decide_eq_true h3
  (repeat (first | ((with_reducible refine v5 ?_); refine ⟨_, rfl, ?_⟩) | simp -implicitDefEqProofs only [SE, SU, SV, e3]))
  refine instCopied (r := r) (by exact St.tick (by assumption)) hl fun x W2 hx h => ?_
  (repeat (first | ((with_reducible refine stb_n ?_); intros) | ((with_reducible refine v5 ?_); refine ⟨_, rfl, ?_⟩) | ((with_reducible first | refine v8 ?_ ?_ | refine v12 ?_ ?_); exact rfl; intros) | ((with_reducible refine w5 ?_ ?_); simp; refine ⟨_, rfl, ?_⟩) | (refine okF_i (bldP_eq rfl) ?_; try simp only [BLS, SB, Nat.reduceAdd]) | simp -implicitDefEqProofs only [SE, SU, SV]))
  exact hs x _ hx (St.wk (by assumption))
 have e3 := decide_eq_false h3
 by_cases hk3 : m.kind = 3
 ·have hn := hn (old_c (m := m.map BSl.bs) (r := r.map BSl.bs) h3 hk3)
  clear hs
  (repeat (first | ((with_reducible refine v5 ?_); refine ⟨_, rfl, ?_⟩) | ((with_reducible refine v12 ?_ ?_); exact rfl; intros) | ((with_reducible refine w5 ?_ ?_); simp; refine ⟨_, rfl, ?_⟩) | (refine okF_i (bldP_eq rfl) ?_; try simp only [BLS, SB, Nat.reduceAdd]) | simp -implicitDefEqProofs only [SE, SU, SV, e3, hk3]))
  exact hn _ _ (St.wk (by assumption)) rfl
 have ek3 := decide_eq_false hk3
 have hJ : ∀ b W', old (m.map BSl.bs) (r.map BSl.bs) = (if b then some false else if m.kind = 1 ∧ r.st = 1 ∧ r.ab = m.bal then some true else none) →
   St W0 (cells ab [.bool false, .int .i64 0, .int .i64 0, .int .i64 0, .slice none 0 0, .int .i64 0, .int .i64 0, .int .i64 0, .int .i64 0, .int .i64 0, .int .i64 0, .int .i64 0, .int .i64 0, .int .i64 0, .int .i64 0, .int .i64 0, .int .i64 0] T_inst_Answer :: cells rb [.int .i64 r.st, r.cmd.v, .int .i64 r.seq, .int .i64 r.deps.x0, .int .i64 r.deps.x1, .int .i64 r.deps.x2, .int .i64 r.deps.x3, .int .i64 r.deps.x4, .int .i64 r.deps.x5, .int .i64 r.deps.x6, .int .i64 r.bal.1, .int .i64 r.bal.2, .int .i64 r.ab.1, .int .i64 r.ab.2] T_inst_Rec :: cells mb [.int .i64 m.kind, .int .i64 m.dot.rep, .int .i64 m.dot.n, .int .i64 m.bal.1, .int .i64 m.bal.2, m.cmd.v, .int .i64 m.seq, .int .i64 m.deps.x0, .int .i64 m.deps.x1, .int .i64 m.deps.x2, .int .i64 m.deps.x3, .int .i64 m.deps.x4, .int .i64 m.deps.x5, .int .i64 m.deps.x6] T_inst_Msg :: L) W' →
   S.inst_Table_old.j1 k (.pointer (some ⟨mb, 0, none⟩)) (.pointer (some ⟨rb, 0, none⟩)) (.pointer (some ⟨ab, 0, none⟩)) (.bool b) W' := by
  intro b W' e h
  delta S.inst_Table_old.j1 oK oA rD lD eF eU sT cL vC gD gX gP gA gR gL gE gU gC gV hL sB nI
  cases b with
  | true =>
   have hs := hs _ e
   clear hn
   (repeat (first | ((with_reducible refine v5 ?_); refine ⟨_, rfl, ?_⟩) | simp -implicitDefEqProofs only [SE, SU, SV]))
   refine instCopied (r := r) (by exact St.tick (by assumption)) hl fun x W2 hx h => ?_
   (repeat (first | ((with_reducible refine stb_n ?_); intros) | ((with_reducible refine v5 ?_); refine ⟨_, rfl, ?_⟩) | ((with_reducible first | refine v8 ?_ ?_ | refine v12 ?_ ?_); exact rfl; intros) | ((with_reducible refine w5 ?_ ?_); simp; refine ⟨_, rfl, ?_⟩) | (refine okF_i (bldP_eq rfl) ?_; try simp only [BLS, SB, Nat.reduceAdd]) | simp -implicitDefEqProofs only [SE, SU, SV]))
   exact hs x _ hx (St.wk (by assumption))
  | false =>
   simp only [Bool.false_eq_true, if_false] at e
   by_cases hc : m.kind = 1 ∧ r.st = 1 ∧ r.ab = m.bal
   ·rw [if_pos hc] at e
    have hs := hs _ e
    clear hn
    obtain ⟨c1, c2, c3⟩ := hc
    have f1 := decide_eq_true c1
    have f2 := decide_eq_true c2
    have f3 : (decide (r.ab.1 = m.bal.1) && decide (r.ab.2 = m.bal.2)) = true := by rw [c3]; simp
    (repeat (first | ((with_reducible first | refine v5 ?_ | refine ve ?_); refine ⟨_, rfl, ?_⟩) | simp -implicitDefEqProofs only [SE, SU, SV, f1, f2, f3]))
    refine instCopied (r := r) (by exact St.tick (by assumption)) hl fun x W2 hx h => ?_
    (repeat (first | ((with_reducible refine stb_n ?_); intros) | ((with_reducible refine v5 ?_); refine ⟨_, rfl, ?_⟩) | ((with_reducible first | refine v8 ?_ ?_ | refine v12 ?_ ?_); exact rfl; intros) | ((with_reducible refine w5 ?_ ?_); simp; refine ⟨_, rfl, ?_⟩) | (refine okF_i (bldP_eq rfl) ?_; try simp only [BLS, SB, Nat.reduceAdd]) | simp -implicitDefEqProofs only [SE, SU, SV]))
    exact hs x _ hx (St.wk (by assumption))
   ·rw [if_neg hc] at e
    have hn := hn e
    clear hs
    by_cases c1 : m.kind = 1
    ·have f1 := decide_eq_true c1
     by_cases c2 : r.st = 1
     ·have f2 := decide_eq_true c2
      have f3 : (decide (r.ab.1 = m.bal.1) && decide (r.ab.2 = m.bal.2)) = false := by
       rw [Bool.eq_false_iff]
       intro h
       simp only [Bool.and_eq_true, decide_eq_true_eq] at h
       exact hc ⟨c1, c2, Prod.ext h.1 h.2⟩
      (repeat (first | ((with_reducible first | refine v5 ?_ | refine ve ?_); refine ⟨_, rfl, ?_⟩) | ((with_reducible refine v12 ?_ ?_); exact rfl; intros) | ((with_reducible refine w5 ?_ ?_); simp; refine ⟨_, rfl, ?_⟩) | (refine okF_i (bldP_eq rfl) ?_; try simp only [BLS, SB, Nat.reduceAdd]) | simp -implicitDefEqProofs only [SE, SU, SV, f1, f2, f3]))
      exact hn _ _ (St.wk (by assumption)) rfl
     ·have f2 := decide_eq_false c2
      (repeat (first | ((with_reducible refine v5 ?_); refine ⟨_, rfl, ?_⟩) | ((with_reducible refine v12 ?_ ?_); exact rfl; intros) | ((with_reducible refine w5 ?_ ?_); simp; refine ⟨_, rfl, ?_⟩) | (refine okF_i (bldP_eq rfl) ?_; try simp only [BLS, SB, Nat.reduceAdd]) | simp -implicitDefEqProofs only [SE, SU, SV, f1, f2]))
      exact hn _ _ (St.wk (by assumption)) rfl
    ·have f1 := decide_eq_false c1
     (repeat (first | ((with_reducible refine v5 ?_); refine ⟨_, rfl, ?_⟩) | ((with_reducible refine v12 ?_ ?_); exact rfl; intros) | ((with_reducible refine w5 ?_ ?_); simp; refine ⟨_, rfl, ?_⟩) | (refine okF_i (bldP_eq rfl) ?_; try simp only [BLS, SB, Nat.reduceAdd]) | simp -implicitDefEqProofs only [SE, SU, SV, f1]))
     exact hn _ _ (St.wk (by assumption)) rfl
 clear hn hs
 by_cases hl : cmpB m.bal.1 m.bal.2 r.bal.1 r.bal.2 < 0
 ·have el := decide_eq_true hl
  (repeat (first | ((with_reducible refine v5 ?_); refine ⟨_, rfl, ?_⟩) | simp -implicitDefEqProofs only [SE, SU, SV, e3, ek3]))
  refine joinK_i ?_
  (repeat (first | ((with_reducible refine w1 ?_); intros) | ((with_reducible refine v5 ?_); refine ⟨_, rfl, ?_⟩) | simp -implicitDefEqProofs only [SE, SU, SV, el]))
  exact hJ true _ (old_f (m := m.map BSl.bs) (r := r.map BSl.bs) h3 hk3 (.inl hl)) (by assumption)
 have el := decide_eq_false hl
 have hnn : ∀ b, (¬ (m.kind = 1 ∧ r.st = 2) → b = false) → ((m.kind = 1 ∧ r.st = 2) → b = true) → old (m.map BSl.bs) (r.map BSl.bs) = (if b then some false else if m.kind = 1 ∧ r.st = 1 ∧ r.ab = m.bal then some true else none) := by
  intro b h1 h2
  by_cases hc : m.kind = 1 ∧ r.st = 2
  ·rw [h2 hc]; exact old_f (m := m.map BSl.bs) (r := r.map BSl.bs) h3 hk3 (.inr hc)
  ·rw [h1 hc]
   by_cases hd : m.kind = 1 ∧ r.st = 1 ∧ r.ab = m.bal
   ·simp only [Bool.false_eq_true, if_false, if_pos hd]; exact old_t (m := m.map BSl.bs) (r := r.map BSl.bs) h3 hk3 (by rintro (h | h); exact hl h; exact hc h) hd
   ·simp only [Bool.false_eq_true, if_false, if_neg hd]; exact old_n (m := m.map BSl.bs) (r := r.map BSl.bs) h3 hk3 (by rintro (h | h); exact hl h; exact hc h) hd
 by_cases c1 : m.kind = 1
 ·have f1 := decide_eq_true c1
  by_cases c2 : r.st = 2
  ·have f2 := decide_eq_true c2
   (repeat (first | ((with_reducible refine v5 ?_); refine ⟨_, rfl, ?_⟩) | simp -implicitDefEqProofs only [SE, SU, SV, e3, ek3]))
   refine joinK_i ?_
   (repeat (first | ((with_reducible refine w1 ?_); intros) | ((with_reducible refine v5 ?_); refine ⟨_, rfl, ?_⟩) | simp -implicitDefEqProofs only [SE, SU, SV, el, f1, f2]))
   exact hJ true _ (hnn true (fun h => absurd ⟨c1, c2⟩ h) fun _ => rfl) (by assumption)
  ·have f2 := decide_eq_false c2
   (repeat (first | ((with_reducible refine v5 ?_); refine ⟨_, rfl, ?_⟩) | simp -implicitDefEqProofs only [SE, SU, SV, e3, ek3]))
   refine joinK_i ?_
   (repeat (first | ((with_reducible refine w1 ?_); intros) | ((with_reducible refine v5 ?_); refine ⟨_, rfl, ?_⟩) | simp -implicitDefEqProofs only [SE, SU, SV, el, f1, f2]))
   exact hJ false _ (hnn false (fun _ => rfl) fun h => absurd h.2 c2) (by assumption)
 ·have f1 := decide_eq_false c1
  (repeat (first | ((with_reducible refine v5 ?_); refine ⟨_, rfl, ?_⟩) | simp -implicitDefEqProofs only [SE, SU, SV, e3, ek3]))
  refine joinK_i ?_
  (repeat (first | ((with_reducible refine w1 ?_); intros) | ((with_reducible refine v5 ?_); refine ⟨_, rfl, ?_⟩) | simp -implicitDefEqProofs only [SE, SU, SV, el, f1]))
  exact hJ false _ (hnn false (fun _ => rfl) fun h => absurd h.1 c1) (by assumption)
end
end Go.Proofs.YtfhacbhgmnhmlaaGreat
namespace Go.Proofs.YtfhacbhgmnhmlaaGreat
set_option linter.unusedVariables false
set_option linter.unusedSimpArgs false
open Go Go.Eng
abbrev recZX : Rec BSl := ⟨0, nilS, 0, P7.all 0, (0, 0), (0, 0)⟩
section
variable {W0 W : World} {L L' : List Asn}
theorem mget_rvs (fs : List (Dot × Rec BSl)) (d : Dot) : (mget (rvs fs) d).getD (.agg #[.int .i64 recZX.st, recZX.cmd.v, .int .i64 recZX.seq, .int .i64 recZX.deps.x0, .int .i64 recZX.deps.x1, .int .i64 recZX.deps.x2, .int .i64 recZX.deps.x3, .int .i64 recZX.deps.x4, .int .i64 recZX.deps.x5, .int .i64 recZX.deps.x6, .int .i64 recZX.bal.1, .int .i64 recZX.bal.2, .int .i64 recZX.ab.1, .int .i64 recZX.ab.2]) = ((mget fs d).getD recZX).v := by
 rw [rvs, mget_map]
 cases mget fs d <;> rfl
theorem trec_rts (fs : List (Dot × Rec BSl)) (d : Dot) : trec (rts fs) d = ((mget fs d).getD recZX).map BSl.bs := by
 rw [trec, rts, mget_map]
 cases mget fs d <;> rfl
theorem mget_mem {κ β : Type} [DecidableEq κ] {l : List (κ × β)} {k : κ} {v : β} (h : mget l k = some v) : (k, v) ∈ l := by
 induction l with
 | nil => cases h
 | cons p l ih =>
  by_cases e : p.1 = k
  ·simp only [mget, if_pos e, Option.some.injEq] at h
   subst h e
   simp
  ·simp only [mget, if_neg e] at h
   exact List.mem_cons_of_mem _ (ih h)
theorem mem_mput {κ β : Type} [DecidableEq κ] {l : List (κ × β)} {k : κ} {v : β} {q : κ × β} (h : q ∈ mput l k v) : q = (k, v) ∨ q ∈ l := by
 induction l with
 | nil => simp [mput] at h; exact .inl h
 | cons p l ih =>
  by_cases e : p.1 = k
  ·simp only [mput, if_pos e, List.mem_cons] at h
   rcases h with h | h
   ·exact .inl h
   ·exact .inr (by simp [h])
  ·simp only [mput, if_neg e, List.mem_cons] at h
   rcases h with h | h
   ·exact .inr (by simp [h])
   ·exact (ih h).imp id fun h => by simp [h]
theorem recAt {fs : List (Dot × Rec BSl)} {B : List BSl} {T : Tbl} (d : Dot) (hT : rts fs = T ∧ Tok T ∧ ∀ q ∈ fs, InB q.2.cmd B) :
  ((mget fs d).getD recZX).map BSl.bs = trec T d ∧ InB ((mget fs d).getD recZX).cmd B ∧ ((mget fs d).getD recZX).cmd.bs.length ≤ 300 := by
 obtain ⟨rfl, h2, h3⟩ := hT
 refine ⟨(trec_rts fs d).symm, ?_⟩
 cases hm : mget fs d with
 | none => exact ⟨.inl rfl, Nat.zero_le _⟩
 | some R => exact ⟨h3 _ (mget_mem hm), (h2 (d, R.map BSl.bs) (List.mem_map.2 ⟨(d, R), mget_mem hm, rfl⟩)).2⟩
theorem instRec {p : Nat} {T : Tbl} {d : Dot} {k : Value → World → Prop} (h : St W0 L W) [ht : Tk (tb p) L T L']
  (hk : ∀ (x : Rec BSl) W', x.map BSl.bs = trec T d → St W0 (fch x.cmd :: tb p T :: L') W' → k (.agg #[.int .i64 x.st, x.cmd.v, .int .i64 x.seq, .int .i64 x.deps.x0, .int .i64 x.deps.x1, .int .i64 x.deps.x2, .int .i64 x.deps.x3, .int .i64 x.deps.x4, .int .i64 x.deps.x5, .int .i64 x.deps.x6, .int .i64 x.bal.1, .int .i64 x.bal.2, .int .i64 x.ab.1, .int .i64 x.ab.2]) W') : callK PR F_inst_Table_Rec [.pointer (some ⟨p, 0, none⟩), .agg #[.int .i64 d.rep, .int .i64 d.n]] k W := by
 apply S.inst_Table_Rec.call
 delta S.inst_Table_Rec.body oK oA rD lD eF eU sT cL vC gD gX gP gA gR gL gE gU gC gV hL sB nI
 obtain ⟨r, fs, B, hT, h⟩ := tb_at (h.perm ht.perm)
 obtain ⟨hR, hRB, hRl⟩ := recAt d hT
 refine bxa h fun db W1 h => ?_
 (repeat (first | ((with_reducible refine w11 ?_); intros) | ((with_reducible refine v5 ?_); refine ⟨_, rfl, ?_⟩) | simp -implicitDefEqProofs only [SE, SU, SV]))
 refine lkp (K := KD) (z := .agg #[.int .i64 recZX.st, recZX.cmd.v, .int .i64 recZX.seq, .int .i64 recZX.deps.x0, .int .i64 recZX.deps.x1, .int .i64 recZX.deps.x2, .int .i64 recZX.deps.x3, .int .i64 recZX.deps.x4, .int .i64 recZX.deps.x5, .int .i64 recZX.deps.x6, .int .i64 recZX.bal.1, .int .i64 recZX.bal.2, .int .i64 recZX.ab.1, .int .i64 recZX.ab.2]) d (by exact St.tick (by assumption)) ?_
 rw [mget_rvs]
 generalize (mget fs d).getD recZX = R at *
 haveI : Rd W0 (many fch B :: L') R.cmd.a B8 R.cmd.bs := rdMany hRB
 refine instCopied (r := R) (by exact St.tick (by assumption)) (by omega) fun x W2 hx h => ?_
 (repeat (first | ((with_reducible refine v5 ?_); refine ⟨_, rfl, ?_⟩) | ((with_reducible refine v12 ?_ ?_); exact rfl; intros) | ((with_reducible refine w5 ?_ ?_); simp; refine ⟨_, rfl, ?_⟩) | ((with_reducible refine w12 ?_ ?_ ?_ ?_); simp; simp; simp [oneC]; intros) | simp -implicitDefEqProofs only [SE, SU, SV]))
 refine hk { R with cmd := x } _ (by rw [← hR]; simp [Rec.map, hx]) ((St.wk (L' := fch x :: cells p [.map (some r)] T_inst_Table :: mp KD r (rvs fs) :: many fch B :: L') (by assumption)).ent (ent.cons _ (tb_ent hT)))
theorem bsBal {b c : Int × Int} {k : Value → World → Prop} (h : St W0 L W) (hk : ∀ a n W', St W0 (arr BAL T_ballot_Ballot a n [b, c] :: L) W' → k (.slice a ([b, c] : List (Int × Int)).length n) W') :
  efK PR (Instr.buildSlice T_s_ballot_Ballot 2 #[(0, .agg #[.int .i64 b.1, .int .i64 b.2]), (1, .agg #[.int .i64 c.1, .int .i64 c.2])]) k W :=
 bsA BAL [b, c] (n := 2) h rfl rfl (by decide) (by omega) rfl hk
theorem instDo_j1 {p r rb ab mb : Nat} {T : Tbl} {fs : List (Dot × Rec BSl)} {B : List BSl} {m : Msg BSl} {k : Value → World → Prop} {R' : Rec BSl} {x : BSl} (hm : (m.map BSl.bs).may = true) (hT : rts fs = T ∧ Tok T ∧ ∀ q ∈ fs, InB q.2.cmd B)
  (hk : ∀ (x : Ans BSl) W', x.map BSl.bs = ⟨true, R'.bal, R'.map BSl.bs⟩ → St W0 (fch x.rc.cmd :: tb p (mput T m.dot (R'.map BSl.bs)) :: L') W' → k (.tuple #[.agg #[.bool x.ok, .int .i64 x.bal.1, .int .i64 x.bal.2, .int .i64 x.rc.st, x.rc.cmd.v, .int .i64 x.rc.seq, .int .i64 x.rc.deps.x0, .int .i64 x.rc.deps.x1, .int .i64 x.rc.deps.x2, .int .i64 x.rc.deps.x3, .int .i64 x.rc.deps.x4, .int .i64 x.rc.deps.x5, .int .i64 x.rc.deps.x6, .int .i64 x.rc.bal.1, .int .i64 x.rc.bal.2, .int .i64 x.rc.ab.1, .int .i64 x.rc.ab.2], .int .i64 0]) W')
  (hx : InB R'.cmd (x :: B)) (hl : R'.cmd.bs.length ≤ 300) (h : St W0 (cells rb [.int .i64 R'.st, R'.cmd.v, .int .i64 R'.seq, .int .i64 R'.deps.x0, .int .i64 R'.deps.x1, .int .i64 R'.deps.x2, .int .i64 R'.deps.x3, .int .i64 R'.deps.x4, .int .i64 R'.deps.x5, .int .i64 R'.deps.x6, .int .i64 R'.bal.1, .int .i64 R'.bal.2, .int .i64 R'.ab.1, .int .i64 R'.ab.2] T_inst_Rec :: fch x :: cells ab [.bool false, .int .i64 0, .int .i64 0, .int .i64 recZX.st, recZX.cmd.v, .int .i64 recZX.seq, .int .i64 recZX.deps.x0, .int .i64 recZX.deps.x1, .int .i64 recZX.deps.x2, .int .i64 recZX.deps.x3, .int .i64 recZX.deps.x4, .int .i64 recZX.deps.x5, .int .i64 recZX.deps.x6, .int .i64 recZX.bal.1, .int .i64 recZX.bal.2, .int .i64 recZX.ab.1, .int .i64 recZX.ab.2] T_inst_Answer :: cells mb [.int .i64 m.kind, .int .i64 m.dot.rep, .int .i64 m.dot.n, .int .i64 m.bal.1, .int .i64 m.bal.2, m.cmd.v, .int .i64 m.seq, .int .i64 m.deps.x0, .int .i64 m.deps.x1, .int .i64 m.deps.x2, .int .i64 m.deps.x3, .int .i64 m.deps.x4, .int .i64 m.deps.x5, .int .i64 m.deps.x6] T_inst_Msg :: cells p [.map (some r)] T_inst_Table :: mp KD r (rvs fs) :: many fch B :: L') W) :
  S.inst_Table_Do.j1 k (.pointer (some ⟨p, 0, none⟩)) (.pointer (some ⟨mb, 0, none⟩)) (.pointer (some ⟨ab, 0, none⟩)) (.pointer (some ⟨rb, 0, none⟩)) W := by
 delta S.inst_Table_Do.j1 oK oA rD lD eF eU sT cL vC gD gX gP gA gR gL gE gU gC gV hL sB nI
 have h1 := (St.wk (L' := fch x :: many fch B :: cells rb [.int .i64 R'.st, R'.cmd.v, .int .i64 R'.seq, .int .i64 R'.deps.x0, .int .i64 R'.deps.x1, .int .i64 R'.deps.x2, .int .i64 R'.deps.x3, .int .i64 R'.deps.x4, .int .i64 R'.deps.x5, .int .i64 R'.deps.x6, .int .i64 R'.bal.1, .int .i64 R'.bal.2, .int .i64 R'.ab.1, .int .i64 R'.ab.2] T_inst_Rec :: cells ab [.bool false, .int .i64 0, .int .i64 0, .int .i64 recZX.st, recZX.cmd.v, .int .i64 recZX.seq, .int .i64 recZX.deps.x0, .int .i64 recZX.deps.x1, .int .i64 recZX.deps.x2, .int .i64 recZX.deps.x3, .int .i64 recZX.deps.x4, .int .i64 recZX.deps.x5, .int .i64 recZX.deps.x6, .int .i64 recZX.bal.1, .int .i64 recZX.bal.2, .int .i64 recZX.ab.1, .int .i64 recZX.ab.2] T_inst_Answer :: cells mb [.int .i64 m.kind, .int .i64 m.dot.rep, .int .i64 m.dot.n, .int .i64 m.bal.1, .int .i64 m.bal.2, m.cmd.v, .int .i64 m.seq, .int .i64 m.deps.x0, .int .i64 m.deps.x1, .int .i64 m.deps.x2, .int .i64 m.deps.x3, .int .i64 m.deps.x4, .int .i64 m.deps.x5, .int .i64 m.deps.x6] T_inst_Msg :: cells p [.map (some r)] T_inst_Table :: mp KD r (rvs fs) :: L') h).ent (many_uncons x B)
 clear h
 (repeat (first | ((with_reducible refine v5 ?_); refine ⟨_, rfl, ?_⟩) | simp -implicitDefEqProofs only [SE, SU, SV]))
 refine mset (K := KD) m.dot (by exact St.tick (by assumption)) fun W2 h => ?_
 clear h1
 (repeat (first | ((with_reducible refine v5 ?_); refine ⟨_, rfl, ?_⟩) | simp -implicitDefEqProofs only [SE, SU, SV]))
 haveI : Rd W0 (many fch (x :: B) :: cells rb [.int .i64 R'.st, R'.cmd.v, .int .i64 R'.seq, .int .i64 R'.deps.x0, .int .i64 R'.deps.x1, .int .i64 R'.deps.x2, .int .i64 R'.deps.x3, .int .i64 R'.deps.x4, .int .i64 R'.deps.x5, .int .i64 R'.deps.x6, .int .i64 R'.bal.1, .int .i64 R'.bal.2, .int .i64 R'.ab.1, .int .i64 R'.ab.2] T_inst_Rec :: cells ab [.bool false, .int .i64 0, .int .i64 0, .int .i64 recZX.st, recZX.cmd.v, .int .i64 recZX.seq, .int .i64 recZX.deps.x0, .int .i64 recZX.deps.x1, .int .i64 recZX.deps.x2, .int .i64 recZX.deps.x3, .int .i64 recZX.deps.x4, .int .i64 recZX.deps.x5, .int .i64 recZX.deps.x6, .int .i64 recZX.bal.1, .int .i64 recZX.bal.2, .int .i64 recZX.ab.1, .int .i64 recZX.ab.2] T_inst_Answer :: cells mb [.int .i64 m.kind, .int .i64 m.dot.rep, .int .i64 m.dot.n, .int .i64 m.bal.1, .int .i64 m.bal.2, m.cmd.v, .int .i64 m.seq, .int .i64 m.deps.x0, .int .i64 m.deps.x1, .int .i64 m.deps.x2, .int .i64 m.deps.x3, .int .i64 m.deps.x4, .int .i64 m.deps.x5, .int .i64 m.deps.x6] T_inst_Msg :: cells p [.map (some r)] T_inst_Table :: L') R'.cmd.a B8 R'.cmd.bs := rdMany hx
 refine instCopied (r := R') (by exact St.tick (by assumption)) (by omega) fun y W2 hy h => ?_
 (repeat (first | ((with_reducible refine stb_n ?_); intros) | ((with_reducible refine v5 ?_); refine ⟨_, rfl, ?_⟩) | ((with_reducible first | refine v8 ?_ ?_ | refine v12 ?_ ?_); exact rfl; intros) | ((with_reducible refine w5 ?_ ?_); simp; refine ⟨_, rfl, ?_⟩) | (refine okF_i (bldP_eq rfl) ?_; try simp only [BLS, SB, Nat.reduceAdd]) | simp -implicitDefEqProofs only [SE, SU, SV]))
 refine hk ⟨true, R'.bal, { R' with cmd := y }⟩ _ (by simp [Ans.map, Rec.map, hy]) ?_
 rename_i h
 have h2 := St.wk (L' := fch y :: cells p [.map (some r)] T_inst_Table :: mp KD r (mput (rvs fs) m.dot R'.v) :: many fch (x :: B) :: L') h
 rw [show mput (rvs fs) m.dot R'.v = rvs (mput fs m.dot R') from mput_map Rec.v fs m.dot R'] at h2
 refine h2.ent (ent.cons _ (tb_ent ⟨?_, fun q hq => ?_, fun q hq => ?_⟩))
 ·rw [← hT.1]; exact (mput_map (Rec.map BSl.bs) fs m.dot R').symm
 ·rcases mem_mput hq with rfl | hq
  ·exact ⟨(Msg.may_iff hm).2.1, hl⟩
  ·exact hT.2.1 q hq
 ·rcases mem_mput hq with rfl | hq
  ·exact hx
  ·exact (hT.2.2 q hq).cons
theorem instDo {p : Nat} {T : Tbl} {m : Msg BSl} {k : Value → World → Prop} (h : St W0 L W) [ht : Tk (tb p) L T L'] [hr : Rd W0 L' m.cmd.a B8 m.cmd.bs] (hl : m.cmd.bs.length < 1099511627776)
  (hk : ∀ (x : Ans BSl) W', x.map BSl.bs = (tdo T (m.map BSl.bs)).2.1 → St W0 (fch x.rc.cmd :: tb p (tdo T (m.map BSl.bs)).1 :: L') W' → k (.tuple #[.agg #[.bool x.ok, .int .i64 x.bal.1, .int .i64 x.bal.2, .int .i64 x.rc.st, x.rc.cmd.v, .int .i64 x.rc.seq, .int .i64 x.rc.deps.x0, .int .i64 x.rc.deps.x1, .int .i64 x.rc.deps.x2, .int .i64 x.rc.deps.x3, .int .i64 x.rc.deps.x4, .int .i64 x.rc.deps.x5, .int .i64 x.rc.deps.x6, .int .i64 x.rc.bal.1, .int .i64 x.rc.bal.2, .int .i64 x.rc.ab.1, .int .i64 x.rc.ab.2], .int .i64 (tdo T (m.map BSl.bs)).2.2]) W') :
  callK PR F_inst_Table_Do [.pointer (some ⟨p, 0, none⟩), .agg #[.int .i64 m.kind, .int .i64 m.dot.rep, .int .i64 m.dot.n, .int .i64 m.bal.1, .int .i64 m.bal.2, m.cmd.v, .int .i64 m.seq, .int .i64 m.deps.x0, .int .i64 m.deps.x1, .int .i64 m.deps.x2, .int .i64 m.deps.x3, .int .i64 m.deps.x4, .int .i64 m.deps.x5, .int .i64 m.deps.x6]] k W := by
 apply S.inst_Table_Do.call
 delta S.inst_Table_Do.body oK oA rD lD eF eU sT cL vC gD gX gP gA gR gL gE gU gC gV hL sB nI
 refine bxa (h.perm ht.perm) fun mb W1 h => ?_
 refine al h fun ab W1 h => ?_
 (try simp only [BLS, SB, stL_a, stL_b, stL_c, lsub_a, lsub_b, lsub_c, List.append_nil, List.take_nil, List.drop_nil, Nat.reduceAdd] at h)
 (repeat (first | ((with_reducible refine v5 ?_); refine ⟨_, rfl, ?_⟩) | simp -implicitDefEqProofs only [SE, SU, SV]))
 refine instMay (m := m) h fun W2 h => ?_
 cases hm : (m.map BSl.bs).may with
 | false =>
  have e : tdo T (m.map BSl.bs) = (T, ansZ, 1) := by unfold tdo; rw [if_pos hm]
  rw [e] at hk
  (repeat (first | ((with_reducible refine v5 ?_); refine ⟨_, rfl, ?_⟩) | ((with_reducible refine v12 ?_ ?_); exact rfl; intros) | ((with_reducible refine w5 ?_ ?_); simp; refine ⟨_, rfl, ?_⟩) | (refine okF_i (bldP_eq rfl) ?_; try simp only [BLS, SB, Nat.reduceAdd]) | simp -implicitDefEqProofs only [SE, SU, SV]))
  exact hk ⟨false, (0, 0), recZX⟩ _ rfl ((St.wk (L' := tb p T :: L') (by assumption)).ent (fch0 _))
 | true =>
 obtain ⟨r, fs, B, hT, h⟩ := tb_at (St.wk (L' := tb p T :: cells ab [.bool false, .int .i64 0, .int .i64 0, .int .i64 recZX.st, recZX.cmd.v, .int .i64 recZX.seq, .int .i64 recZX.deps.x0, .int .i64 recZX.deps.x1, .int .i64 recZX.deps.x2, .int .i64 recZX.deps.x3, .int .i64 recZX.deps.x4, .int .i64 recZX.deps.x5, .int .i64 recZX.deps.x6, .int .i64 recZX.bal.1, .int .i64 recZX.bal.2, .int .i64 recZX.ab.1, .int .i64 recZX.ab.2] T_inst_Answer :: cells mb [.int .i64 m.kind, .int .i64 m.dot.rep, .int .i64 m.dot.n, .int .i64 m.bal.1, .int .i64 m.bal.2, m.cmd.v, .int .i64 m.seq, .int .i64 m.deps.x0, .int .i64 m.deps.x1, .int .i64 m.deps.x2, .int .i64 m.deps.x3, .int .i64 m.deps.x4, .int .i64 m.deps.x5, .int .i64 m.deps.x6] T_inst_Msg :: L') h)
 obtain ⟨hR, hRB, hRl⟩ := recAt m.dot hT
 (repeat (first | ((with_reducible refine v5 ?_); refine ⟨_, rfl, ?_⟩) | simp -implicitDefEqProofs only [SE, SU, SV]))
 refine lkp (K := KD) (z := .agg #[.int .i64 recZX.st, recZX.cmd.v, .int .i64 recZX.seq, .int .i64 recZX.deps.x0, .int .i64 recZX.deps.x1, .int .i64 recZX.deps.x2, .int .i64 recZX.deps.x3, .int .i64 recZX.deps.x4, .int .i64 recZX.deps.x5, .int .i64 recZX.deps.x6, .int .i64 recZX.bal.1, .int .i64 recZX.bal.2, .int .i64 recZX.ab.1, .int .i64 recZX.ab.2]) m.dot (by exact St.tick (by assumption)) ?_
 (repeat (first | ((with_reducible refine w11 ?_); intros) | simp -implicitDefEqProofs only [SE, SU, SV]))
 refine stb_lkp (K := KD) (z := .agg #[.int .i64 recZX.st, recZX.cmd.v, .int .i64 recZX.seq, .int .i64 recZX.deps.x0, .int .i64 recZX.deps.x1, .int .i64 recZX.deps.x2, .int .i64 recZX.deps.x3, .int .i64 recZX.deps.x4, .int .i64 recZX.deps.x5, .int .i64 recZX.deps.x6, .int .i64 recZX.bal.1, .int .i64 recZX.bal.2, .int .i64 recZX.ab.1, .int .i64 recZX.ab.2]) m.dot (by assumption) ?_
 (repeat (first | ((with_reducible refine stb_n ?_); intros) | ((with_reducible first | refine v8 ?_ ?_ | refine v12 ?_ ?_); exact rfl; intros)))
 rw [mget_rvs]
 generalize (mget fs m.dot).getD recZX = R at *
 (repeat (first | ((with_reducible refine v5 ?_); refine ⟨_, rfl, ?_⟩) | ((with_reducible refine v12 ?_ ?_); exact rfl; intros) | ((with_reducible refine w5 ?_ ?_); simp; refine ⟨_, rfl, ?_⟩) | ((with_reducible refine w12 ?_ ?_ ?_ ?_); simp; simp; simp [oneC]; intros) | simp -implicitDefEqProofs only [SE, SU, SV]))
 rename_i rb _ _ W3 h
 (try simp only [BLS, SB, stL_a, stL_b, stL_c, lsub_a, lsub_b, lsub_c, List.append_nil, List.take_nil, List.drop_nil, Nat.reduceAdd] at h)
 haveI : Rd W0 (many fch B :: cells ab [.bool false, .int .i64 0, .int .i64 0, .int .i64 recZX.st, recZX.cmd.v, .int .i64 recZX.seq, .int .i64 recZX.deps.x0, .int .i64 recZX.deps.x1, .int .i64 recZX.deps.x2, .int .i64 recZX.deps.x3, .int .i64 recZX.deps.x4, .int .i64 recZX.deps.x5, .int .i64 recZX.deps.x6, .int .i64 recZX.bal.1, .int .i64 recZX.bal.2, .int .i64 recZX.ab.1, .int .i64 recZX.ab.2] T_inst_Answer :: cells mb [.int .i64 m.kind, .int .i64 m.dot.rep, .int .i64 m.dot.n, .int .i64 m.bal.1, .int .i64 m.bal.2, m.cmd.v, .int .i64 m.seq, .int .i64 m.deps.x0, .int .i64 m.deps.x1, .int .i64 m.deps.x2, .int .i64 m.deps.x3, .int .i64 m.deps.x4, .int .i64 m.deps.x5, .int .i64 m.deps.x6] T_inst_Msg :: L') R.cmd.a B8 R.cmd.bs := rdMany hRB
 refine instOld (m := m) (r := R) (by assumption) (by omega) (fun ho v W4 h hv => ?_) (fun ok ho x W4 hx h => ?_)
 ·subst hv
  rw [hR] at ho
  have e : tdo T (m.map BSl.bs) = (mput T m.dot (putRec T (m.map BSl.bs) (trec T m.dot)), ⟨true, (putRec T (m.map BSl.bs) (trec T m.dot)).bal, putRec T (m.map BSl.bs) (trec T m.dot)⟩, 0) := by
   unfold tdo; rw [if_neg (by simp [hm])]; simp only [show (m.map BSl.bs).dot = m.dot from rfl, ho]
  rw [e] at hk
  clear e ho
  (repeat (first | ((with_reducible refine w11 ?_); intros) | ((with_reducible refine v5 ?_); refine ⟨_, rfl, ?_⟩) | ((with_reducible refine v12 ?_ ?_); exact rfl; intros) | ((with_reducible refine w12 ?_ ?_ ?_ ?_); simp; simp; simp [oneC]; intros) | simp -implicitDefEqProofs only [SE, SU, SV]))
  refine bytesClone (a := m.cmd.a) (l := m.cmd.bs) (by assumption) (by omega) fun ca cc W5 h => ?_
  have h := St.wk (L' := cells rb [.int .i64 R.st, R.cmd.v, .int .i64 R.seq, .int .i64 R.deps.x0, .int .i64 R.deps.x1, .int .i64 R.deps.x2, .int .i64 R.deps.x3, .int .i64 R.deps.x4, .int .i64 R.deps.x5, .int .i64 R.deps.x6, .int .i64 R.bal.1, .int .i64 R.bal.2, .int .i64 R.ab.1, .int .i64 R.ab.2] T_inst_Rec :: fch ⟨ca, cc, m.cmd.bs⟩ :: cells ab [.bool false, .int .i64 0, .int .i64 0, .int .i64 recZX.st, recZX.cmd.v, .int .i64 recZX.seq, .int .i64 recZX.deps.x0, .int .i64 recZX.deps.x1, .int .i64 recZX.deps.x2, .int .i64 recZX.deps.x3, .int .i64 recZX.deps.x4, .int .i64 recZX.deps.x5, .int .i64 recZX.deps.x6, .int .i64 recZX.bal.1, .int .i64 recZX.bal.2, .int .i64 recZX.ab.1, .int .i64 recZX.ab.2] T_inst_Answer :: cells mb [.int .i64 m.kind, .int .i64 m.dot.rep, .int .i64 m.dot.n, .int .i64 m.bal.1, .int .i64 m.bal.2, m.cmd.v, .int .i64 m.seq, .int .i64 m.deps.x0, .int .i64 m.deps.x1, .int .i64 m.deps.x2, .int .i64 m.deps.x3, .int .i64 m.deps.x4, .int .i64 m.deps.x5, .int .i64 m.deps.x6] T_inst_Msg :: cells p [.map (some r)] T_inst_Table :: mp KD r (rvs fs) :: many fch B :: L') h
  refine joinK_i ?_
  obtain ⟨⟨hk1, hk4⟩, hmd, hmb, hmdp, hms1, hms2, hml⟩ := Msg.may_iff hm
  have hml : m.cmd.bs.length ≤ 300 := hml
  have hJ : ∀ (r : Nat) (fs : List (Dot × Rec BSl)) (B : List BSl) (R' : Rec BSl) W', (rts fs = T ∧ Tok T ∧ ∀ q ∈ fs, InB q.2.cmd B) → R'.map BSl.bs = putRec T (m.map BSl.bs) (trec T m.dot) → InB R'.cmd (⟨ca, cc, m.cmd.bs⟩ :: B) → R'.cmd.bs.length ≤ 300 →
    St W0 (cells rb [.int .i64 R'.st, R'.cmd.v, .int .i64 R'.seq, .int .i64 R'.deps.x0, .int .i64 R'.deps.x1, .int .i64 R'.deps.x2, .int .i64 R'.deps.x3, .int .i64 R'.deps.x4, .int .i64 R'.deps.x5, .int .i64 R'.deps.x6, .int .i64 R'.bal.1, .int .i64 R'.bal.2, .int .i64 R'.ab.1, .int .i64 R'.ab.2] T_inst_Rec :: fch ⟨ca, cc, m.cmd.bs⟩ :: cells ab [.bool false, .int .i64 0, .int .i64 0, .int .i64 recZX.st, recZX.cmd.v, .int .i64 recZX.seq, .int .i64 recZX.deps.x0, .int .i64 recZX.deps.x1, .int .i64 recZX.deps.x2, .int .i64 recZX.deps.x3, .int .i64 recZX.deps.x4, .int .i64 recZX.deps.x5, .int .i64 recZX.deps.x6, .int .i64 recZX.bal.1, .int .i64 recZX.bal.2, .int .i64 recZX.ab.1, .int .i64 recZX.ab.2] T_inst_Answer :: cells mb [.int .i64 m.kind, .int .i64 m.dot.rep, .int .i64 m.dot.n, .int .i64 m.bal.1, .int .i64 m.bal.2, m.cmd.v, .int .i64 m.seq, .int .i64 m.deps.x0, .int .i64 m.deps.x1, .int .i64 m.deps.x2, .int .i64 m.deps.x3, .int .i64 m.deps.x4, .int .i64 m.deps.x5, .int .i64 m.deps.x6] T_inst_Msg :: cells p [.map (some r)] T_inst_Table :: mp KD r (rvs fs) :: many fch B :: L') W' →
    S.inst_Table_Do.j1 k (.pointer (some ⟨p, 0, none⟩)) (.pointer (some ⟨mb, 0, none⟩)) (.pointer (some ⟨ab, 0, none⟩)) (.pointer (some ⟨rb, 0, none⟩)) W' := by
   intro r fs B R' W' hT e hI hL h
   refine instDo_j1 (x := ⟨ca, cc, m.cmd.bs⟩) hm hT (fun y W2 hy h => ?_) hI hL h
   rw [e] at h hy
   have eb : R'.bal = (putRec T (m.map BSl.bs) (trec T m.dot)).bal := by rw [← e]; rfl
   rw [eb] at hy
   exact hk y W2 hy h
  clear hk
  by_cases c1 : m.kind = 1
  ·have f1 := decide_eq_true c1
   have h1 := (St.wk (L' := cells p [.map (some r)] T_inst_Table :: mp KD r (rvs fs) :: many fch B :: cells rb [.int .i64 R.st, R.cmd.v, .int .i64 R.seq, .int .i64 R.deps.x0, .int .i64 R.deps.x1, .int .i64 R.deps.x2, .int .i64 R.deps.x3, .int .i64 R.deps.x4, .int .i64 R.deps.x5, .int .i64 R.deps.x6, .int .i64 R.bal.1, .int .i64 R.bal.2, .int .i64 R.ab.1, .int .i64 R.ab.2] T_inst_Rec :: fch ⟨ca, cc, m.cmd.bs⟩ :: cells ab [.bool false, .int .i64 0, .int .i64 0, .int .i64 recZX.st, recZX.cmd.v, .int .i64 recZX.seq, .int .i64 recZX.deps.x0, .int .i64 recZX.deps.x1, .int .i64 recZX.deps.x2, .int .i64 recZX.deps.x3, .int .i64 recZX.deps.x4, .int .i64 recZX.deps.x5, .int .i64 recZX.deps.x6, .int .i64 recZX.bal.1, .int .i64 recZX.bal.2, .int .i64 recZX.ab.1, .int .i64 recZX.ab.2] T_inst_Answer :: cells mb [.int .i64 m.kind, .int .i64 m.dot.rep, .int .i64 m.dot.n, .int .i64 m.bal.1, .int .i64 m.bal.2, m.cmd.v, .int .i64 m.seq, .int .i64 m.deps.x0, .int .i64 m.deps.x1, .int .i64 m.deps.x2, .int .i64 m.deps.x3, .int .i64 m.deps.x4, .int .i64 m.deps.x5, .int .i64 m.deps.x6] T_inst_Msg :: L') h).ent (tb_ent hT)
   clear h
   (repeat (first | ((with_reducible refine v5 ?_); refine ⟨_, rfl, ?_⟩) | simp -implicitDefEqProofs only [SE, SU, SV, f1]))
   refine instWould (d := m.dot) (by assumption) fun W6 h => ?_
   clear h1
   (repeat (first | ((with_reducible refine w11 ?_); intros) | ((with_reducible refine v5 ?_); refine ⟨_, rfl, ?_⟩) | ((with_reducible refine v12 ?_ ?_); exact rfl; intros) | ((with_reducible refine w5 ?_ ?_); simp; refine ⟨_, rfl, ?_⟩) | ((with_reducible refine w12 ?_ ?_ ?_ ?_); simp; simp; simp [oneC]; intros) | simp -implicitDefEqProofs only [SE, SU, SV, max2m]))
   refine vecMerge (by exact St.tick (by assumption)) fun W7 h => ?_
   (repeat (first | ((with_reducible refine stb_n ?_); intros) | ((with_reducible first | refine v8 ?_ ?_ | refine v12 ?_ ?_); exact rfl; intros) | (refine okF_i (bldP_eq rfl) ?_; try simp only [BLS, SB, Nat.reduceAdd])))
   rename_i h
   (try simp only [BLS, SB, stL_a, stL_b, stL_c, lsub_a, lsub_b, lsub_c, List.append_nil, List.take_nil, List.drop_nil, Nat.reduceAdd] at h)
   obtain ⟨r', fs', B', hT', h⟩ := tb_at (St.wk (L' := tb p T :: cells rb [.int .i64 1, .slice ca m.cmd.bs.length cc, .int .i64 (imax m.seq (would T m.dot).1), .int .i64 (vmerge m.deps (would T m.dot).2).x0, .int .i64 (vmerge m.deps (would T m.dot).2).x1, .int .i64 (vmerge m.deps (would T m.dot).2).x2, .int .i64 (vmerge m.deps (would T m.dot).2).x3, .int .i64 (vmerge m.deps (would T m.dot).2).x4, .int .i64 (vmerge m.deps (would T m.dot).2).x5, .int .i64 (vmerge m.deps (would T m.dot).2).x6, .int .i64 m.bal.1, .int .i64 m.bal.2, .int .i64 m.bal.1, .int .i64 m.bal.2] T_inst_Rec :: fch ⟨ca, cc, m.cmd.bs⟩ :: cells ab [.bool false, .int .i64 0, .int .i64 0, .int .i64 recZX.st, recZX.cmd.v, .int .i64 recZX.seq, .int .i64 recZX.deps.x0, .int .i64 recZX.deps.x1, .int .i64 recZX.deps.x2, .int .i64 recZX.deps.x3, .int .i64 recZX.deps.x4, .int .i64 recZX.deps.x5, .int .i64 recZX.deps.x6, .int .i64 recZX.bal.1, .int .i64 recZX.bal.2, .int .i64 recZX.ab.1, .int .i64 recZX.ab.2] T_inst_Answer :: cells mb [.int .i64 m.kind, .int .i64 m.dot.rep, .int .i64 m.dot.n, .int .i64 m.bal.1, .int .i64 m.bal.2, m.cmd.v, .int .i64 m.seq, .int .i64 m.deps.x0, .int .i64 m.deps.x1, .int .i64 m.deps.x2, .int .i64 m.deps.x3, .int .i64 m.deps.x4, .int .i64 m.deps.x5, .int .i64 m.deps.x6] T_inst_Msg :: L') h)
   exact hJ r' fs' B' ⟨1, ⟨ca, cc, m.cmd.bs⟩, imax m.seq (would T m.dot).1, vmerge m.deps (would T m.dot).2, m.bal, m.bal⟩ _ hT' (by unfold putRec; rw [if_pos (show (m.map BSl.bs).kind = 1 from c1)]; rfl) (InB.head _ _) hml (St.wk h)
  have f1 := decide_eq_false c1
  by_cases c2 : m.kind = 2
  ·have f2 := decide_eq_true c2
   (repeat (first | ((with_reducible refine v5 ?_); refine ⟨_, rfl, ?_⟩) | ((with_reducible refine v12 ?_ ?_); exact rfl; intros) | (refine okF_i (bldP_eq rfl) ?_; try simp only [BLS, SB, Nat.reduceAdd]) | simp -implicitDefEqProofs only [SE, SU, SV, f1, f2]))
   rename_i h
   (try simp only [BLS, SB, stL_a, stL_b, stL_c, lsub_a, lsub_b, lsub_c, List.append_nil, List.take_nil, List.drop_nil, Nat.reduceAdd] at h)
   exact hJ r fs B ⟨2, ⟨ca, cc, m.cmd.bs⟩, m.seq, m.deps, m.bal, m.bal⟩ _ hT (by unfold putRec; rw [if_neg (show ¬ (m.map BSl.bs).kind = 1 from c1), if_pos (show (m.map BSl.bs).kind = 2 from c2)]; rfl) (InB.head _ _) hml (St.wk h)
  have f2 := decide_eq_false c2
  by_cases c3 : m.kind = 3
  ·have f3 := decide_eq_true c3
   have hfin : ∀ (b1 b2 : Int × Int) W', b1 = most2 m.bal R.bal → b2 = most2 m.bal R.ab →
     St W0 (cells rb [.int .i64 3, .slice ca m.cmd.bs.length cc, .int .i64 m.seq, .int .i64 m.deps.x0, .int .i64 m.deps.x1, .int .i64 m.deps.x2, .int .i64 m.deps.x3, .int .i64 m.deps.x4, .int .i64 m.deps.x5, .int .i64 m.deps.x6, .int .i64 b1.1, .int .i64 b1.2, .int .i64 b2.1, .int .i64 b2.2] T_inst_Rec :: fch ⟨ca, cc, m.cmd.bs⟩ :: cells ab [.bool false, .int .i64 0, .int .i64 0, .int .i64 recZX.st, recZX.cmd.v, .int .i64 recZX.seq, .int .i64 recZX.deps.x0, .int .i64 recZX.deps.x1, .int .i64 recZX.deps.x2, .int .i64 recZX.deps.x3, .int .i64 recZX.deps.x4, .int .i64 recZX.deps.x5, .int .i64 recZX.deps.x6, .int .i64 recZX.bal.1, .int .i64 recZX.bal.2, .int .i64 recZX.ab.1, .int .i64 recZX.ab.2] T_inst_Answer :: cells mb [.int .i64 m.kind, .int .i64 m.dot.rep, .int .i64 m.dot.n, .int .i64 m.bal.1, .int .i64 m.bal.2, m.cmd.v, .int .i64 m.seq, .int .i64 m.deps.x0, .int .i64 m.deps.x1, .int .i64 m.deps.x2, .int .i64 m.deps.x3, .int .i64 m.deps.x4, .int .i64 m.deps.x5, .int .i64 m.deps.x6] T_inst_Msg :: cells p [.map (some r)] T_inst_Table :: mp KD r (rvs fs) :: many fch B :: L') W' →
     S.inst_Table_Do.j1 k (.pointer (some ⟨p, 0, none⟩)) (.pointer (some ⟨mb, 0, none⟩)) (.pointer (some ⟨ab, 0, none⟩)) (.pointer (some ⟨rb, 0, none⟩)) W' := by
    rintro _ _ W' rfl rfl h
    refine hJ r fs B ⟨3, ⟨ca, cc, m.cmd.bs⟩, m.seq, m.deps, most2 m.bal R.bal, most2 m.bal R.ab⟩ _ hT ?_ (InB.head _ _) hml h
    unfold putRec
    rw [if_neg (show ¬ (m.map BSl.bs).kind = 1 from c1), if_neg (show ¬ (m.map BSl.bs).kind = 2 from c2), if_pos (show (m.map BSl.bs).kind = 3 from c3), ← hR]
    rfl
   clear hJ
   (repeat (first | ((with_reducible refine v5 ?_); refine ⟨_, rfl, ?_⟩) | simp -implicitDefEqProofs only [SE, SU, SV, f1, f2, f3]))
   refine ⟨?_, ?_⟩
   ·refine bsBal (b := m.bal) (c := R.bal) (by exact St.tick (by assumption)) fun a1 n1 W1 h => ?_
    (repeat (first | ((with_reducible refine stb_n ?_); intros) | ((with_reducible refine v8 ?_ ?_); exact rfl; intros)))
    refine ⟨?_, ?_⟩
    ·refine balMost (a := a1) (l := [m.bal, R.bal]) (by assumption) (by simp) fun W2 h => ?_
     (repeat (first | ((with_reducible refine stb_n ?_); intros) | ((with_reducible refine v8 ?_ ?_); exact rfl; intros)))
     refine bsBal (b := m.bal) (c := R.ab) (by assumption) fun a2 n2 W3 h => ?_
     (repeat (first | ((with_reducible refine stb_n ?_); intros) | ((with_reducible refine v8 ?_ ?_); exact rfl; intros)))
     refine balMost (a := a2) (l := [m.bal, R.ab]) (by assumption) (by simp) fun W4 h => ?_
     (repeat (first | ((with_reducible refine stb_n ?_); intros) | ((with_reducible first | refine v8 ?_ ?_ | refine v12 ?_ ?_); exact rfl; intros) | (refine okF_i (bldP_eq rfl) ?_; try simp only [BLS, SB, Nat.reduceAdd])))
     rename_i h
     (try simp only [BLS, SB, stL_a, stL_b, stL_c, lsub_a, lsub_b, lsub_c, List.append_nil, List.take_nil, List.drop_nil, Nat.reduceAdd] at h)
     exact hfin (mostB [m.bal, R.bal]) (mostB [m.bal, R.ab]) _ rfl rfl (St.wk h)
    ·refine bsBal (b := m.bal) (c := R.ab) (by assumption) fun a2 n2 W3 h => ?_
     (repeat (first | ((with_reducible refine stb_n ?_); intros) | ((with_reducible refine v8 ?_ ?_); exact rfl; intros)))
     refine balMost (a := a1) (l := [m.bal, R.bal]) (by assumption) (by simp) fun W2 h => ?_
     (repeat (first | ((with_reducible refine stb_n ?_); intros) | ((with_reducible refine v8 ?_ ?_); exact rfl; intros)))
     refine balMost (a := a2) (l := [m.bal, R.ab]) (by assumption) (by simp) fun W4 h => ?_
     (repeat (first | ((with_reducible refine stb_n ?_); intros) | ((with_reducible first | refine v8 ?_ ?_ | refine v12 ?_ ?_); exact rfl; intros) | (refine okF_i (bldP_eq rfl) ?_; try simp only [BLS, SB, Nat.reduceAdd])))
     rename_i h
     (try simp only [BLS, SB, stL_a, stL_b, stL_c, lsub_a, lsub_b, lsub_c, List.append_nil, List.take_nil, List.drop_nil, Nat.reduceAdd] at h)
     exact hfin (mostB [m.bal, R.bal]) (mostB [m.bal, R.ab]) _ rfl rfl (St.wk h)
   ·refine bsBal (b := m.bal) (c := R.ab) (by exact St.tick (by assumption)) fun a2 n2 W3 h => ?_
    (repeat (first | ((with_reducible refine stb_n ?_); intros) | ((with_reducible refine v8 ?_ ?_); exact rfl; intros)))
    refine bsBal (b := m.bal) (c := R.bal) (by assumption) fun a1 n1 W1 h => ?_
    (repeat (first | ((with_reducible refine stb_n ?_); intros) | ((with_reducible refine v8 ?_ ?_); exact rfl; intros)))
    refine balMost (a := a1) (l := [m.bal, R.bal]) (by assumption) (by simp) fun W2 h => ?_
    (repeat (first | ((with_reducible refine stb_n ?_); intros) | ((with_reducible refine v8 ?_ ?_); exact rfl; intros)))
    refine balMost (a := a2) (l := [m.bal, R.ab]) (by assumption) (by simp) fun W4 h => ?_
    (repeat (first | ((with_reducible refine stb_n ?_); intros) | ((with_reducible first | refine v8 ?_ ?_ | refine v12 ?_ ?_); exact rfl; intros) | (refine okF_i (bldP_eq rfl) ?_; try simp only [BLS, SB, Nat.reduceAdd])))
    rename_i h
    (try simp only [BLS, SB, stL_a, stL_b, stL_c, lsub_a, lsub_b, lsub_c, List.append_nil, List.take_nil, List.drop_nil, Nat.reduceAdd] at h)
    exact hfin (mostB [m.bal, R.bal]) (mostB [m.bal, R.ab]) _ rfl rfl (St.wk h)
  have f3 := decide_eq_false c3
  (repeat (first | ((with_reducible refine v5 ?_); refine ⟨_, rfl, ?_⟩) | ((with_reducible refine v12 ?_ ?_); exact rfl; intros) | simp -implicitDefEqProofs only [SE, SU, SV, f1, f2, f3]))
  rename_i h
  (try simp only [BLS, SB, stL_a, stL_b, stL_c, lsub_a, lsub_b, lsub_c, List.append_nil, List.take_nil, List.drop_nil, Nat.reduceAdd] at h)
  refine hJ r fs B { R with bal := m.bal } _ hT ?_ (hRB.imp id fun h => List.mem_cons_of_mem _ h) hRl (St.wk h)
  unfold putRec
  rw [if_neg (show ¬ (m.map BSl.bs).kind = 1 from c1), if_neg (show ¬ (m.map BSl.bs).kind = 2 from c2), if_neg (show ¬ (m.map BSl.bs).kind = 3 from c3), ← hR]
  rfl
 ·rw [hR] at ho
  have e : tdo T (m.map BSl.bs) = (T, ⟨ok, (trec T m.dot).bal, trec T m.dot⟩, 0) := by
   unfold tdo; rw [if_neg (by simp [hm])]; simp only [show (m.map BSl.bs).dot = m.dot from rfl, ho]
  rw [e] at hk
  clear e ho
  (repeat (first | ((with_reducible refine w11 ?_); intros) | ((with_reducible refine v5 ?_); refine ⟨_, rfl, ?_⟩) | ((with_reducible refine v12 ?_ ?_); exact rfl; intros) | ((with_reducible refine w5 ?_ ?_); simp; refine ⟨_, rfl, ?_⟩) | ((with_reducible refine w12 ?_ ?_ ?_ ?_); simp; simp; simp [oneC]; intros) | simp -implicitDefEqProofs only [SE, SU, SV]))
  refine hk ⟨ok, R.bal, { R with cmd := x }⟩ _ ?_ ((St.wk (L' := fch x :: cells p [.map (some r)] T_inst_Table :: mp KD r (rvs fs) :: many fch B :: L') (by assumption)).ent (ent.cons _ (tb_ent hT)))
  rw [← hR]; simp [Ans.map, Rec.map, hx]
end
end Go.Proofs.YtfhacbhgmnhmlaaGreat
