/- Texts of the claim PaxStays, joined: DelFD, CInst5, PLead, COrd18, COrd19, PLine3, LOrd, LOrd2, PPax, ShLead, CLead, CLead2. -/
import Derived.Test.YtfhacbhgmnhmlaaGreatBPaxStays2
import Derived.Test.YtfhacbhgmnhmlaaGreatBPaxStays3
import Derived.Test.YtfhacbhgmnhmlaaGreatBPaxStays6
import Derived.Test.YtfhacbhgmnhmlaaGreatBPaxStays4
import Derived.Test.YtfhacbhgmnhmlaaGreatBPaxStays5
import Derived.Test.YtfhacbhgmnhmlaaGreatBPaxStays1
namespace Go.Proofs.YtfhacbhgmnhmlaaGreat
set_option linter.unusedVariables false
set_option linter.unusedSimpArgs false
open Go Go.Eng
section
variable {W0 W : World} {L L' : List Asn} {α : Type} {A : Ly α} {C : Asn} {fv : Value} {p : α → Bool}
theorem indexFunc_api_Dot_api_Dot {a : Option Addr} {c : Nat} {l : List α} {k : Value → World → Prop} (hs : A.sz = 2) (h : St W0 (C :: L) W) [hr : Rd W0 L a A l] (hp : PredL PR A true C fv p l) (hl : l.length < 4611686018427387904)
  (hk : ∀ W', St W0 (C :: L) W' → k (.int .i64 (match l.findIdx? p with | some i => (i : Int) | none => -1)) W') : callK PR F_slices_IndexFunc_api_Dot_api_Dot [.slice a l.length c, fv] k W := by
 apply S.slices_IndexFunc_api_Dot_api_Dot.call
 delta S.slices_IndexFunc_api_Dot_api_Dot.body oK oA rD lD eF eU sT cL vC gD gX gP gA gR gL gE gU gC gV hL sB nI
 simp -implicitDefEqProofs only [SE, SU, SV]
 refine loop_c (σ := Unit) l.length (fun i _ => [.slice a l.length c, fv, .int .i64 l.length, .int .i64 i]) (fun i _ W1 => (∀ j, (hj : j < l.length) → j < i → p l[j] = false) ∧ St W0 (C :: L) W1) () rfl ⟨fun j _ h => by omega, h⟩ ?_
 clear h
 rintro K i _ W1 hi ⟨hno, h⟩ hK
 simp -implicitDefEqProofs only [SE, SU, SV]
 delta S.slices_IndexFunc_api_Dot_api_Dot.l1 oK oA rD lD eF eU sT cL vC gD gX gP gA gR gL gE gU gC gV hL sB nI
 simp -implicitDefEqProofs only [SE, SU, SV]
 refine ifK_d (fun hlt => ?_) (fun hge => ?_)
 ·have hib : i < l.length := by omega
  refine ixA (i := i) (a := a) (l := l) (A := A) (by assumption) hs rfl hib fun g o ha => ?_
  cases ha
  refine ldA0 (l := l) (A := A) (by assumption) hs hib (getL_val hs (by decide) _) (by simp) ?_
  refine hp l[i] (List.getElem_mem hib) W0 L W1 _ h fun W2 h => ?_
  cases hpx : p l[i] with
  | true =>
   simp -implicitDefEqProofs only [SE, SU, SV]
   have : l.findIdx? p = some i := by
    rw [List.findIdx?_eq_some_iff_getElem]
    exact ⟨hib, hpx, fun j hj => by rw [hno j (by omega) hj]; simp⟩
   rw [this] at hk
   exact hk _ h
  | false =>
   have ew : IntKind.i64.wrap ((i : Int) + 1) = ((i + 1 : Nat) : Int) := by rw [i64w]; omega
   simp -implicitDefEqProofs only [SE, SU, SV, ew]
   refine hK () _ hib ⟨fun j hj hji => ?_, h⟩
   by_cases e : j = i
   ·subst e; exact hpx
   ·exact hno j hj (by omega)
 ·have : l.findIdx? p = none := by
   rw [List.findIdx?_eq_none_iff]
   intro x hx
   obtain ⟨j, hj, rfl⟩ := List.getElem_of_mem hx
   exact hno j hj (by omega)
  rw [this] at hk
  exact hk _ h
theorem deleteFunc_api_Dot_api_Dot {a : Option Addr} {c : Nat} {l : List α} {k : Value → World → Prop} (hs : A.sz = 2) (h : St W0 (C :: arr A T_api_Dot a c l :: L) W) (hp : PredL PR A true C fv p l) (hl : l.length < 4611686018427387904)
  (hk : ∀ W', St W0 (C :: arr A T_api_Dot a c (l.filter (!p ·)) :: L) W' → k (.slice a (l.filter (!p ·)).length c) W') : callK PR F_slices_DeleteFunc_api_Dot_api_Dot [.slice a l.length c, fv] k W := by
 apply S.slices_DeleteFunc_api_Dot_api_Dot.call
 delta S.slices_DeleteFunc_api_Dot_api_Dot.body oK oA rD lD eF eU sT cL vC gD gX gP gA gR gL gE gU gC gV hL sB nI
 refine indexFunc_api_Dot_api_Dot (a := a) (l := l) hs h hp hl fun W1 h => ?_
 cases hf : l.findIdx? p with
 | none =>
  have : l.filter (!p ·) = l := by
   rw [List.filter_eq_self]
   intro x hx
   rw [List.findIdx?_eq_none_iff] at hf
   simp [hf x hx]
  rw [this] at hk
  (repeat simp -implicitDefEqProofs only [SE, SU, SV])
  exact hk _ h
 | some i =>
  rw [List.findIdx?_eq_some_iff_getElem] at hf
  obtain ⟨hil, hpi, hno⟩ := hf
  have e1 : decide ((i : Int) = -1) = false := decide_eq_false (by omega)
  have ew : IntKind.i64.wrap ((i : Int) + 1) = ((i + 1 : Nat) : Int) := by rw [i64w]; omega
  simp only []
  simp -implicitDefEqProofs only [SE, SU, SV, e1]
  refine joinK_i ?_
  simp -implicitDefEqProofs only [SE, SU, SV, ew]
  have hpre : (l.take (i + 1)).filter (!p ·) = l.take i := by
   rw [List.take_succ_eq_append_getElem hil, List.filter_append]
   rw [show (l.take i).filter (!p ·) = l.take i by
    rw [List.filter_eq_self]
    intro x hx
    obtain ⟨j, hj, rfl⟩ := List.getElem_of_mem hx
    simp only [List.length_take] at hj
    rw [List.getElem_take]
    have := hno j (by omega)
    simpa using this]
   simp [hpi]
  refine loop_x (σ := Nat × Nat × List α) (fun x => [.slice a l.length c, fv, .int .i64 x.1, .int .i64 x.2.1])
   (fun x W1 => x.1 < x.2.1 ∧ x.2.1 ≤ l.length ∧ x.2.2.length = l.length ∧ x.2.2.take x.1 = (l.take x.2.1).filter (!p ·) ∧ (∀ j, x.2.1 ≤ j → x.2.2[j]? = l[j]?) ∧ St W0 (C :: arr A T_api_Dot a c x.2.2 :: L) W1)
   (fun x => l.length - x.2.1) (i, i + 1, l) rfl ⟨by simp, by simp only; omega, rfl, hpre.symm, fun _ _ => rfl, h⟩ ?_
  clear h hpre
  rintro K ⟨q, j, m⟩ W2 ⟨hqj, hjl, hml, hpre, hsuf, h⟩ hK
  simp only at hqj hjl hml hpre hsuf h hK ⊢
  simp -implicitDefEqProofs only [SE, SU, SV]
  delta S.slices_DeleteFunc_api_Dot_api_Dot.l1 oK oA rD lD eF eU sT cL vC gD gX gP gA gR gL gE gU gC gV hL sB nI
  simp -implicitDefEqProofs only [SE, SU, SV]
  refine ifK_d (fun hlt => ?_) (fun hge => ?_)
  ·have hjm : j < m.length := by omega
   have hjb : j < l.length := by omega
   have hmj : m[j] = l[j] := by
    have := hsuf j (Nat.le_refl _)
    rw [List.getElem?_eq_getElem hjm, List.getElem?_eq_getElem hjb] at this
    exact Option.some.inj this
   refine joinK_i ?_
   rw [← hml]
   refine ixA (i := j) (a := a) (l := m) (A := A) (by assumption) hs rfl hjm fun g o ha => ?_
   cases ha
   refine ldA0 (l := m) (A := A) (by assumption) hs hjm (getL_val hs (by decide) _) (by simp) ?_
   rw [hmj]
   have ew : IntKind.i64.wrap ((j : Int) + 1) = ((j + 1 : Nat) : Int) := by rw [i64w]; omega
   have ew2 : IntKind.i64.wrap ((q : Int) + 1) = ((q + 1 : Nat) : Int) := by rw [i64w]; omega
   refine newV (A := A) l[j] h hs (by decide) rfl fun b W3 h => ?_
   refine ldV (A := A) l[j] h hs (by decide) ?_
   refine hp l[j] (List.getElem_mem hjb) W0 _ _ _ (h.ent (ent.swap _ _ _)) fun W4 h => ?_
   cases hpx : p l[j] with
   | true =>
    simp -implicitDefEqProofs only [SE, SU, SV]
    delta S.slices_DeleteFunc_api_Dot_api_Dot.j2 oK oA rD lD eF eU sT cL vC gD gX gP gA gR gL gE gU gC gV hL sB nI
    simp -implicitDefEqProofs only [SE, SU, SV, ew]
    rw [hml]
    refine hK (q, j + 1, m) _ (by simp only; omega) ⟨by simp only; omega, by simp only; omega, hml, ?_, fun j' hj' => hsuf j' (by simp only at hj'; omega), h.drop2⟩
    simp only
    rw [hpre, List.take_succ_eq_append_getElem hjb, List.filter_append]
    simp [hpx]
   | false =>
    simp -implicitDefEqProofs only [SE, SU, SV]
    refine ldV (A := A) l[j] h hs (by decide) ?_
    refine ixA (i := q) (a := some ⟨g, o, none⟩) (l := m) (A := A) (by assumption) hs rfl (by omega) fun g' o' ha => ?_
    cases ha
    refine stA (g := g) (o := o) (agg := true) (l := m) (A := A) (x := l[j]) (by assumption) hs (by omega) (val_cells hs (by decide) _) fun W3 h => ?_
    simp -implicitDefEqProofs only [SE, SU, SV, ew2]
    delta S.slices_DeleteFunc_api_Dot_api_Dot.j2 oK oA rD lD eF eU sT cL vC gD gX gP gA gR gL gE gU gC gV hL sB nI
    simp -implicitDefEqProofs only [SE, SU, SV, ew]
    rw [hml]
    refine hK (q + 1, j + 1, m.set q l[j]) _ (by simp only; omega) ⟨by simp only; omega, by simp only; omega, by simp [hml], ?_, fun j' hj' => ?_, ?_⟩
    ·simp only
     rw [List.take_succ_eq_append_getElem (by rw [List.length_set]; omega), List.take_set_of_le (Nat.le_refl _), hpre, List.take_succ_eq_append_getElem hjb, List.filter_append]
     simp [hpx]
    ·simp only at hj' ⊢
     rw [List.getElem?_set_ne (by omega)]
     exact hsuf j' (by omega)
    ·exact (h.ent (ent.rot3 _ _ _ _)).drop2
  ·delta S.slices_DeleteFunc_api_Dot_api_Dot.j1 oK oA rD lD eF eU sT cL vC gD gX gP gA gR gL gE gU gC gV hL sB nI
   have hjn : j = l.length := by omega
   subst hjn
   rw [List.take_length] at hpre
   have hqc : q ≤ c := by have := (h.ent (ent.swap _ _ _)).arrFacts; omega
   refine okF_i (slcS_eq (n := l.length) (c := c) (l := q) (h := l.length) bnd_none (bnd_nat (by omega))) ?_
   refine clrA (a := a) (l := m) (L' := C :: L) (i := q) (A := A) (by assumption) hs rfl (by omega) rfl (by rw [hml]) fun W3 h => ?_
   rw [hpre] at h
   have hql : q = (l.filter (!p ·)).length := by rw [← hpre, List.length_take]; omega
   refine slc_pre (L := C :: L) (A := A) (e := T_api_Dot) h hqc ?_
   rw [hql]
   exact hk _ (h.ent (ent.swap _ _ _))
end
end Go.Proofs.YtfhacbhgmnhmlaaGreat
namespace Go.Proofs.YtfhacbhgmnhmlaaGreat
set_option linter.unusedVariables false
set_option linter.unusedSimpArgs false
open Go Go.Eng Go.Sort
def dotB (a b : Dot) : Bool := decide (a.rep < b.rep) || (decide (a.rep = b.rep) && decide (a.n < b.n))
def cmpDt (a b : Dot) : Int := orI [cmpI a.rep b.rep, cmpI a.n b.n]
def sortDt (l : List Dot) : List Dot := Go.Tar.isort (fun x y => !dotB y x) l
def promT (T : Tbl) : List Dot := sortDt (T.map (·.1))
def allT (T : Tbl) : List Dot := (promT T).filter fun d => !decide ((trec T d).st = 0)
abbrev Nd (T : Tbl) : Prop := (T.map (·.1)).Nodup
theorem dotB_iff (a b : Dot) : dotB a b = true ↔ a.rep < b.rep ∨ a.rep = b.rep ∧ a.n < b.n := by simp [dotB]
theorem cmpDt_lt (x y : Dot) : cmpDt x y < 0 ↔ x.rep < y.rep ∨ x.rep = y.rep ∧ x.n < y.n := by
 unfold cmpDt
 simp only [orI]
 by_cases h4 : x.rep < y.rep
 ·simp [cmpI, h4]
 ·by_cases h5 : y.rep < x.rep
  ·simp [cmpI, h4, h5]; omega
  ·have h6 : x.rep = y.rep := by omega
   by_cases h7 : x.n < y.n
   ·simp [cmpI, h6, h7]
   ·by_cases h8 : y.n < x.n
    ·simp [cmpI, h6, h7, h8]
    ·simp [cmpI, h6, h7, h8]
theorem ltDt (a b : Dot) : Proofs.ltOf cmpDt a b = dotB a b := by
 unfold Proofs.ltOf
 rw [Bool.eq_iff_iff, decide_eq_true_eq, cmpDt_lt, dotB_iff]
theorem dotB_same {a b : Dot} (h1 : dotB a b = false) (h2 : dotB b a = false) : a = b := by
 rw [Bool.eq_false_iff, ne_eq, dotB_iff] at h1 h2
 cases a; cases b
 simp only [Dot.mk.injEq] at *
 omega
theorem swoDt : SWO (Proofs.ltOf cmpDt) where
 irrefl x := by rw [ltDt, Bool.eq_false_iff, ne_eq, dotB_iff]; omega
 trans x y z h1 h2 := by rw [ltDt, dotB_iff] at *; omega
 ntrans x y z h1 h2 := by rw [ltDt, Bool.eq_false_iff, ne_eq, dotB_iff] at *; omega
theorem sortDt_perm (l : List Dot) : (sortDt l).Perm l := Go.Tar.isort_perm l
theorem sortDt_sorted (l : List Dot) : (sortDt l).Pairwise fun x y => dotB y x = false :=
 (Go.Tar.isort_sorted (fun a b c h1 h2 => by
  simp only [Bool.not_eq_true', Bool.eq_false_iff, ne_eq, dotB_iff] at *; omega) (fun a b => by
  simp only [Bool.or_eq_true, Bool.not_eq_true', Bool.eq_false_iff, ne_eq, dotB_iff]; omega) l).imp fun {a b} h => by simpa using h
theorem sortDt_eq {l m : List Dot} (h : m.Perm l) : (m.mergeSort fun x y => !(Proofs.ltOf cmpDt) y x) = sortDt l := by
 refine List.Perm.eq_of_pairwise (le := fun x y => dotB y x = false) (fun a b _ _ g1 g2 => dotB_same g2 g1) ?_ (sortDt_sorted l) (((List.mergeSort_perm _ _).trans h).trans (sortDt_perm l).symm)
 have h1 := List.pairwise_mergeSort (le := fun x y => !(Proofs.ltOf cmpDt) y x) (fun a b c h1 h2 => by
  simp only [ltDt, Bool.not_eq_true', Bool.eq_false_iff, ne_eq, dotB_iff] at *; omega) (fun a b => by
  simp only [ltDt, Bool.or_eq_true, Bool.not_eq_true', Bool.eq_false_iff, ne_eq, dotB_iff]; omega) m
 exact h1.imp fun {a b} h => by rw [ltDt] at h; simpa using h
theorem promT_mem {T : Tbl} {d : Dot} : d ∈ promT T ↔ ∃ r, (d, r) ∈ T := by
 unfold promT
 rw [(sortDt_perm _).mem_iff, List.mem_map]
 constructor
 ·rintro ⟨⟨a, r⟩, h, rfl⟩; exact ⟨r, h⟩
 ·rintro ⟨r, h⟩; exact ⟨_, h, rfl⟩
theorem tok_len {T : Tbl} (hn : Nd T) (ht : Tok T) : T.length ≤ 7000 := by
 have h2 : (T.map (·.1)) ⊆ (List.range 7).flatMap fun (r : Nat) => (List.range 1000).map fun (n : Nat) => (⟨(r : Int), (n : Int) + 1⟩ : Dot) := fun x hx => by
  obtain ⟨⟨d, r⟩, hp, rfl⟩ := List.mem_map.1 hx
  have := (ht _ hp).1
  unfold Dot.okI at this
  simp only [decide_eq_true_eq] at this
  simp only [List.mem_flatMap, List.mem_range, List.mem_map]
  exact ⟨d.rep.toNat, by omega, (d.n - 1).toNat, by omega, by cases d; simp only [Dot.mk.injEq] at *; omega⟩
 have := hn.length_le_of_subset h2
 rw [List.length_map, List.length_flatMap] at this
 simp only [List.length_map, List.length_range] at this
 exact Nat.le_trans this (by decide)
instance : Inhabited Dot := ⟨⟨0, 0⟩⟩
section
variable {W0 W : World} {L L' : List Asn}
theorem dotOrder (a b : Dot) (W : World) : callK PR F_dots_Order (.agg (DOT.row a).toArray :: .agg (DOT.row b).toArray :: []) (fun v W' => v = .int .i64 (cmpDt a b) ∧ St W [] W') W := by
 apply S.dots_Order.call
 delta S.dots_Order.body oK oA rD lD eF eU sT cL vC gD gX gP gA gR gL gE gU gC gV hL sB nI
 refine bxa (St.start W) fun p W1 h => ?_
 refine bxa h fun q W2 h => ?_
 have h : St W [cells q [.int .i64 b.rep, .int .i64 b.n] T_api_Dot, cells p [.int .i64 a.rep, .int .i64 a.n] T_api_Dot] W2 := h
 (repeat (first | ((with_reducible first | refine w1 ?_ | refine stb_n ?_); intros) | ((with_reducible refine v5 ?_); refine ⟨_, rfl, ?_⟩) | ((with_reducible refine v8 ?_ ?_); exact rfl; intros) | simp -implicitDefEqProofs only [SE, SU, SV]))
 refine or2 (by assumption) fun W3 h => ?_
 (first | exact St.nil (by assumption) | exact ⟨rfl, St.nil (by assumption)⟩)
theorem sortedKeys {r Bm : Nat} {l : List (Dot × Value)} {k : Value → World → Prop} (hl : l.length < 1000000) (h : St W0 (cells Bm [.map (some r)] T_m_api_Dot_inst_Rec :: mp KD r l :: L) W)
  (hk : ∀ a c W', St W0 (arr DOT T_api_Dot a c (sortDt (l.map (·.1))) :: mp KD r l :: L) W' → k (.slice a (sortDt (l.map (·.1))).length c) W') :
  callK PR F_slices_SortedFunc_api_Dot [.func (.func FK1) #[] #[.pointer (some ⟨Bm, 0, none⟩)], .func (.func F_dots_Order) #[] #[]] k W := by
 apply S.slices_SortedFunc_api_Dot.call
 delta S.slices_SortedFunc_api_Dot.body oK oA rD lD eF eU sT cL vC gD gX gP gA gR gL gE gU gC gV hL sB nI
 apply S.slices_Collect_api_Dot.call
 delta S.slices_Collect_api_Dot.body oK oA rD lD eF eU sT cL vC gD gX gP gA gR gL gE gU gC gV hL sB nI
 refine (callsIn_wide.1 (appSeq (m := 0) hl h)).mono ?_
 rintro e W1 ⟨a, c, ks, rfl, hp, h⟩
 have hkl : ks.length = l.length := by rw [hp.length_eq, List.length_map]
 obtain ⟨d, i, h1, h2, h3, h4⟩ := (inferInstance : TyI PR T_api_Dot true 2).ok
 refine sortFX (P := PR) (A := DOT) (ρ := laySortDot_ren) laySortDot (fun w => ?_) (fun w => ?_) cmpDt swoDt (fun x y g1 g2 => ?_) F_dots_Order [] (fun args w => callFunc_ok (CBok _ (by kernel_rfl)) w) h (fun x y W' _ => dotOrder x y W') (by omega) fun W' h => ?_
 ·have := run_isAgg' (P := PR) (w := w) h1
  rw [h2] at this
  exact this
 ·have := run_sizeOf' (P := PR) (w := w) h3
  rw [h4] at this
  exact this
 ·rw [ltDt] at g1 g2
  exact dotB_same g1 g2
 ·rw [sortDt_eq hp] at h
  have e : ks.length = (sortDt (l.map (·.1))).length := by rw [(sortDt_perm _).length_eq, hp.length_eq]
  rw [e]
  exact hk a c W' (St.wk h)
theorem rvs_keys (fs : List (Dot × Rec BSl)) {T : Tbl} (h : rts fs = T) : (rvs fs).map (·.1) = T.map (·.1) := by
 rw [← h]; simp
theorem instPromised {p : Nat} {T : Tbl} {k : Value → World → Prop} (h : St W0 L W) [ht : Tk (tb p) L T L'] (hl : Nd T)
  (hk : ∀ a c W', St W0 (arr DOT T_api_Dot a c (promT T) :: tb p T :: L') W' → k (.slice a (promT T).length c) W') : callK PR F_inst_Table_Promised [.pointer (some ⟨p, 0, none⟩)] k W := by
 apply S.inst_Table_Promised.call
 delta S.inst_Table_Promised.body oK oA rD lD eF eU sT cL vC gD gX gP gA gR gL gE gU gC gV hL sB nI
 obtain ⟨r, fs, B, hT, h⟩ := tb_at (h.perm ht.perm)
 have hlen : (rvs fs).length < 1000000 := by
  have := tok_len hl hT.2.1
  have e : (rvs fs).length = T.length := by rw [← hT.1]; simp
  omega
 (repeat (first | ((with_reducible refine v5 ?_); refine ⟨_, rfl, ?_⟩) | simp -implicitDefEqProofs only [SE, SU, SV]))
 apply S.maps_Keys_map_api_Dot_inst_Rec_api_Dot_inst_Rec.call
 delta S.maps_Keys_map_api_Dot_inst_Rec_api_Dot_inst_Rec.body oK oA rD lD eF eU sT cL vC gD gX gP gA gR gL gE gU gC gV hL sB nI
 refine bx h fun b W1 h => ?_
 have h : St W0 (cells b [.map (some r)] T_m_api_Dot_inst_Rec :: cells p [.map (some r)] T_inst_Table :: mp KD r (rvs fs) :: many fch B :: L') W1 := h
 (repeat simp -implicitDefEqProofs only [SE, SU, SV])
 refine sortedKeys hlen (St.wk (L' := cells b [.map (some r)] T_m_api_Dot_inst_Rec :: mp KD r (rvs fs) :: cells p [.map (some r)] T_inst_Table :: many fch B :: L') h) fun a c W2 h => ?_
 rw [rvs_keys fs hT.1] at h ⊢
 exact hk a c W2 ((St.wk (L' := arr DOT T_api_Dot a c (sortDt (T.map (·.1))) :: cells p [.map (some r)] T_inst_Table :: mp KD r (rvs fs) :: many fch B :: L') h).ent (ent.cons _ (tb_ent hT)))
theorem isNone_pred {vb p r : Nat} {fs : List (Dot × Rec BSl)} {B : List BSl} {T : Tbl} (hT : rts fs = T ∧ Tok T ∧ ∀ q ∈ fs, InB q.2.cmd B) (l : List Dot) :
  PredL PR DOT true (sep [cells vb [.pointer (some ⟨p, 0, none⟩)] T_p_inst_Table, cells p [.map (some r)] T_inst_Table, mp KD r (rvs fs), many fch B]) (.func (.func F_inst_Table_All_1) #[] #[.pointer (some ⟨vb, 0, none⟩)]) (fun d => decide ((trec T d).st = 0)) l := by
 intro d _ W0 L W k h hk
 refine ⟨CBok _ (by kernel_rfl), ?_⟩
 show callK PR F_inst_Table_All_1 [.agg (DOT.row d).toArray, .pointer (some ⟨vb, 0, none⟩)] k W
 have h := h.flat
 simp only [List.cons_append, List.nil_append] at h
 apply S.inst_Table_All_1.call
 delta S.inst_Table_All_1.body oK oA rD lD eF eU sT cL vC gD gX gP gA gR gL gE gU gC gV hL sB nI
 refine bxa h fun b W1 h => ?_
 have h : St W0 (cells b [.int .i64 d.rep, .int .i64 d.n] T_api_Dot :: cells vb [.pointer (some ⟨p, 0, none⟩)] T_p_inst_Table :: cells p [.map (some r)] T_inst_Table :: mp KD r (rvs fs) :: many fch B :: L) W1 := h
 (repeat (first | ((with_reducible refine v5 ?_); refine ⟨_, rfl, ?_⟩) | simp -implicitDefEqProofs only [SE, SU, SV]))
 refine lkp (K := KD) (z := .agg #[.int .i64 recZX.st, recZX.cmd.v, .int .i64 recZX.seq, .int .i64 recZX.deps.x0, .int .i64 recZX.deps.x1, .int .i64 recZX.deps.x2, .int .i64 recZX.deps.x3, .int .i64 recZX.deps.x4, .int .i64 recZX.deps.x5, .int .i64 recZX.deps.x6, .int .i64 recZX.bal.1, .int .i64 recZX.bal.2, .int .i64 recZX.ab.1, .int .i64 recZX.ab.2]) d (by exact St.tick (by assumption)) ?_
 rw [mget_rvs]
 obtain ⟨hR, _, _⟩ := recAt d hT
 generalize (mget fs d).getD recZX = R at *
 have hst : (trec T d).st = R.st := by rw [← hR]; rfl
 simp only [hst] at hk
 (repeat simp -implicitDefEqProofs only [SE, SU, SV])
 exact hk _ ((St.wk (L' := cells vb [.pointer (some ⟨p, 0, none⟩)] T_p_inst_Table :: cells p [.map (some r)] T_inst_Table :: mp KD r (rvs fs) :: many fch B :: L) (by exact St.tick (by assumption))).ent (ent.pack [_, _, _, _] L))
theorem instAll {p : Nat} {T : Tbl} {k : Value → World → Prop} (h : St W0 L W) [ht : Tk (tb p) L T L'] (hl : Nd T)
  (hk : ∀ a c W', St W0 (arr DOT T_api_Dot a c (allT T) :: tb p T :: L') W' → k (.slice a (allT T).length c) W') : callK PR F_inst_Table_All [.pointer (some ⟨p, 0, none⟩)] k W := by
 apply S.inst_Table_All.call
 delta S.inst_Table_All.body oK oA rD lD eF eU sT cL vC gD gX gP gA gR gL gE gU gC gV hL sB nI
 obtain ⟨r, fs, B, hT, h⟩ := tb_at (h.perm ht.perm)
 have hlen : (rvs fs).length < 1000000 := by
  have := tok_len hl hT.2.1
  have e : (rvs fs).length = T.length := by rw [← hT.1]; simp
  omega
 have hlp : (promT T).length < 4611686018427387904 := by
  have := tok_len hl hT.2.1
  unfold promT
  rw [(sortDt_perm _).length_eq, List.length_map]; omega
 refine bx h fun vb W1 h => ?_
 have h : St W0 (cells vb [.pointer (some ⟨p, 0, none⟩)] T_p_inst_Table :: cells p [.map (some r)] T_inst_Table :: mp KD r (rvs fs) :: many fch B :: L') W1 := h
 (repeat (first | ((with_reducible refine v5 ?_); refine ⟨_, rfl, ?_⟩) | simp -implicitDefEqProofs only [SE, SU, SV]))
 apply S.maps_Keys_map_api_Dot_inst_Rec_api_Dot_inst_Rec.call
 delta S.maps_Keys_map_api_Dot_inst_Rec_api_Dot_inst_Rec.body oK oA rD lD eF eU sT cL vC gD gX gP gA gR gL gE gU gC gV hL sB nI
 refine bx (by assumption) fun b W1 h => ?_
 have h : St W0 (cells b [.map (some r)] T_m_api_Dot_inst_Rec :: cells vb [.pointer (some ⟨p, 0, none⟩)] T_p_inst_Table :: cells p [.map (some r)] T_inst_Table :: mp KD r (rvs fs) :: many fch B :: L') W1 := h
 (repeat simp -implicitDefEqProofs only [SE, SU, SV])
 refine sortedKeys hlen (St.wk (L' := cells b [.map (some r)] T_m_api_Dot_inst_Rec :: mp KD r (rvs fs) :: cells vb [.pointer (some ⟨p, 0, none⟩)] T_p_inst_Table :: cells p [.map (some r)] T_inst_Table :: many fch B :: L') h) fun a c W2 h => ?_
 rw [rvs_keys fs hT.1] at h ⊢
 have h : St W0 (arr DOT T_api_Dot a c (promT T) :: mp KD r (rvs fs) :: cells vb [.pointer (some ⟨p, 0, none⟩)] T_p_inst_Table :: cells p [.map (some r)] T_inst_Table :: many fch B :: L') W2 := h
 have h := St.wk (L' := cells vb [.pointer (some ⟨p, 0, none⟩)] T_p_inst_Table :: cells p [.map (some r)] T_inst_Table :: mp KD r (rvs fs) :: many fch B :: arr DOT T_api_Dot a c (promT T) :: L') h
 change callK PR F_slices_DeleteFunc_api_Dot_api_Dot [.slice a (promT T).length c, .func (.func F_inst_Table_All_1) #[] #[.pointer (some ⟨vb, 0, none⟩)]] _ W2
 refine deleteFunc_api_Dot_api_Dot (A := DOT) rfl (h.ent (ent.pack [_, _, _, _] _)) (isNone_pred hT (promT T)) hlp fun W3 h => ?_
 skip
 have h := h.flat
 simp only [List.cons_append, List.nil_append] at h
 have h : St W0 (cells vb [.pointer (some ⟨p, 0, none⟩)] T_p_inst_Table :: cells p [.map (some r)] T_inst_Table :: mp KD r (rvs fs) :: many fch B :: arr DOT T_api_Dot a c (allT T) :: L') W3 := h
 exact hk a c _ ((St.wk (L' := arr DOT T_api_Dot a c (allT T) :: cells p [.map (some r)] T_inst_Table :: mp KD r (rvs fs) :: many fch B :: L') h).ent (ent.cons _ (tb_ent hT)))
end
end Go.Proofs.YtfhacbhgmnhmlaaGreat
namespace Go.Proofs.YtfhacbhgmnhmlaaGreat
set_option linter.unusedVariables false
set_option linter.unusedSimpArgs false
open Go Go.Eng
structure LD where
 n : Int
 rep : Int
 m : Msg Bs
 phase : Int
 fast : Bool
 apart : Bool
 recs : P7 (Option (Rec Bs))
 own : Rec Bs
def LD.dec (l : LD) (T : Tbl) (r : Rec Bs) (fast : Bool) : LD × Tbl :=
 ({ l with phase := 3, fast := fast, m := ⟨3, l.m.dot, l.m.bal, r.cmd, r.seq, r.deps⟩ }, (tdo T ⟨3, l.m.dot, l.m.bal, r.cmd, r.seq, r.deps⟩).1)
def LD.begin (l : LD) (T : Tbl) (phase : Int) (m : Msg Bs) : LD × Tbl :=
 let a := (tdo T m).2.1
 let l1 : LD := { l with phase := phase, m := m, apart := false, recs := P7.all none }
 if a.rc.st = 3 then l1.dec (tdo T m).1 a.rc false
 else if a.ok = false then ({ l1 with phase := 5 }, (tdo T m).1)
 else ({ l1 with own := a.rc, recs := l1.recs.set l.rep.toNat (some a.rc), m := if phase = 1 then { m with seq := a.rc.seq, deps := a.rc.deps } else m }, (tdo T m).1)
section
variable {l : LD} {T : Tbl} {ph : Int} {m : Msg Bs} {a : Ans Bs}
theorem LD.begin_3 (ha : (tdo T m).2.1 = a) (h : a.rc.st = 3) : l.begin T ph m = LD.dec { l with phase := ph, m := m, apart := false, recs := P7.all none } (tdo T m).1 a.rc false := by
 subst ha; unfold LD.begin; exact if_pos h
theorem LD.begin_f (ha : (tdo T m).2.1 = a) (h : ¬ a.rc.st = 3) (h1 : a.ok = false) : l.begin T ph m = ({ l with phase := 5, m := m, apart := false, recs := P7.all none }, (tdo T m).1) := by
 subst ha; unfold LD.begin; exact (if_neg h).trans (if_pos h1)
theorem LD.begin_t (ha : (tdo T m).2.1 = a) (h : ¬ a.rc.st = 3) (h1 : a.ok = true) :
  l.begin T ph m = ({ l with phase := ph, m := if ph = 1 then { m with seq := a.rc.seq, deps := a.rc.deps } else m, apart := false, recs := (P7.all none).set l.rep.toNat (some a.rc), own := a.rc }, (tdo T m).1) := by
 subst ha; unfold LD.begin; exact (if_neg h).trans (if_neg (by rw [h1]; simp))
end
def cnt {α : Type} (l : List (Option α)) : Int := ((l.filter Option.isSome).length : Int)
def LD.count (l : LD) : Int := cnt l.recs.list
def LD.maj (l : LD) : Bool := Decidable.decide (l.n.tdiv 2 + 1 ≤ l.count)
def LD.fits (l : LD) (r : Rec Bs) : Bool :=
 if l.phase = 1 then Decidable.decide (r.st = 1) && Decidable.decide (r.ab = l.m.bal)
 else if l.phase = 2 then Decidable.decide (r.st = 2) && Decidable.decide (r.ab = l.m.bal)
 else true
def accStep (m : Msg Bs) (r : Option (Rec Bs)) : Msg Bs := match r with
 | some r => { m with seq := imax m.seq r.seq, deps := vmerge m.deps r.deps }
 | none => m
def LD.accept (l : LD) (T : Tbl) : LD × Tbl := l.begin T 2 (l.recs.list.foldl accStep { l.m with kind := 2 })
def LD.heard (l : LD) (T : Tbl) : LD × Tbl :=
 if l.count = l.n ∧ l.apart = false ∧ l.m.bal.1 = 0 then l.dec T l.own true
 else if l.maj = true ∧ (l.apart = true ∨ 0 < l.m.bal.1) then l.accept T
 else (l, T)
def grStep {α : Type} (f : α → Rec Bs) (st : Int) (best : Option α) (r : Option α) : Option α := match r with
 | some r => if (f r).st = st ∧ (match best with | none => true | some b => Decidable.decide (0 < cmpB (f r).ab.1 (f r).ab.2 (f b).ab.1 (f b).ab.2)) = true then some r else best
 | none => best
theorem grStep_or {α : Type} (f : α → Rec Bs) (st : Int) (b : Option α) (y : α) : grStep f st b (some y) = some y ∨ grStep f st b (some y) = b := by
 unfold grStep
 simp only
 repeat' split
 all_goals first | exact .inl rfl | exact .inr rfl
def greatest {α : Type} (f : α → Rec Bs) (st : Int) (l : List (Option α)) : Option α := l.foldl (grStep f st) none
def likeR (own r : Rec Bs) : Bool := Decidable.decide (r.st = 1) && Decidable.decide (r.ab.1 = 0) && Decidable.decide (r.seq = own.seq) && Decidable.decide (r.deps = own.deps)
def LD.alike (l : LD) : Bool := l.recs.list.all fun r => match r with | some r => likeR l.own r | none => true
def firstR {α : Type} : List (Option α) → Option α
 | [] => none
 | some r :: _ => some r
 | none :: l => firstR l
def LD.withR (l : LD) (T : Tbl) (r : Rec Bs) : LD × Tbl := l.begin T 2 { l.m with kind := 2, cmd := r.cmd, seq := r.seq, deps := r.deps }
def LD.prepared (l : LD) (T : Tbl) : LD × Tbl :=
 match greatest id 2 l.recs.list with
 | some b => l.withR T b
 | none =>
  if l.alike then l.withR T ((firstR l.recs.list).getD recZ)
  else match greatest id 1 l.recs.list with
   | some b => l.begin T 1 { l.m with kind := 1, cmd := b.cmd }
   | none => l.begin T 2 { l.m with kind := 2, seq := (would T l.m.dot).1, deps := (would T l.m.dot).2 }
def LD.got (l : LD) (T : Tbl) (fr : Int) (a : Ans Bs) : (LD × Tbl) × Bool :=
 if l.phase = 3 ∨ l.phase = 5 ∨ fr < 0 ∨ l.n ≤ fr ∨ fr = l.rep ∨ (l.recs.get fr.toNat).isSome = true then ((l, T), false)
 else if a.ok = true ∧ (a.bal ≠ l.m.bal ∨ l.fits a.rc = false) then ((l, T), false)
 else if a.rc.st = 3 then (l.dec T a.rc false, true)
 else if a.ok = false then (if cmpB a.bal.1 a.bal.2 l.m.bal.1 l.m.bal.2 ≤ 0 then ((l, T), false) else (({ l with phase := 5 }, T), true))
 else
  let l1 : LD := { l with recs := l.recs.set fr.toNat (some a.rc) }
  if l.phase = 1 then ((LD.heard { l1 with apart := l.apart || Decidable.decide (a.rc.seq ≠ l.own.seq) || Decidable.decide (a.rc.deps ≠ l.own.deps) } T), true)
  else if l.phase = 2 then ((if l1.maj then l1.dec T ⟨0, l.m.cmd, l.m.seq, l.m.deps, (0, 0), (0, 0)⟩ false else (l1, T)), true)
  else if l.phase = 4 then ((if l1.maj then l1.prepared T else (l1, T)), true)
  else ((l1, T), true)
def LD.slow (l : LD) (T : Tbl) : (LD × Tbl) × Bool := if l.phase ≠ 1 ∨ l.maj = false then ((l, T), false) else (l.accept T, true)
def msgZ : Msg Bs := ⟨0, ⟨0, 0⟩, (0, 0), [], 0, P7.all 0⟩
def LD.msg (l : LD) : Msg Bs := if l.phase = 5 then msgZ else l.m
def goodL (n rep : Int) : Bool := decide (3 ≤ n ∧ n ≤ 7 ∧ 0 ≤ rep ∧ rep < n)
def ldZ (n rep : Int) : LD := ⟨n, rep, msgZ, 0, false, false, P7.all none, recZ⟩
def propose (n rep : Int) (d : Dot) (cmd : Bs) (T : Tbl) : (LD × Tbl) ⊕ Int :=
 let m : Msg Bs := ⟨1, d, (0, rep), cmd, 0, P7.all 0⟩
 if goodL n rep = false ∨ d.rep ≠ rep ∨ m.may = false then .inr 1
 else if 0 < (trec T d).st ∨ (trec T d).bal ≠ (0, 0) then .inr 5
 else .inl ((ldZ n rep).begin T 1 m)
def recover (n rep : Int) (d : Dot) (T : Tbl) : (LD × Tbl) ⊕ Int :=
 let m : Msg Bs := ⟨4, d, (0, 0), [], 0, P7.all 0⟩
 if goodL n rep = false ∨ n ≤ d.rep ∨ m.may = false then .inr 1
 else if (trec T d).st = 3 then .inr 5
 else if (nextB (trec T d).bal.1 (trec T d).bal.2 rep).2 ≠ 0 then .inr (nextB (trec T d).bal.1 (trec T d).bal.2 rep).2
 else .inl ((ldZ n rep).begin T 4 { m with bal := (nextB (trec T d).bal.1 (trec T d).bal.2 rep).1 })
end Go.Proofs.YtfhacbhgmnhmlaaGreat
namespace Go.Proofs.YtfhacbhgmnhmlaaGreat
set_option linter.unusedVariables false
set_option linter.unusedSimpArgs false
open Go Go.Eng Go.Tar Go.Sort
inductive Lk (sl : List Ins) (q : Dot → Bool) : Ins → Prop
 | miss {x : Ins} {d : Dot} : x ∈ sl → d ∈ depsL x → (∀ y ∈ sl, y.d ≠ d) → q d = false → Lk sl q x
 | next {x y : Ins} : x ∈ sl → y ∈ sl → y.d ∈ depsL x → Lk sl q y → Lk sl q x
theorem lk_iff {sl : List Ins} {q : Dot → Bool} (hn : (sl.map (·.d)).Nodup) {i : Nat} (hi : i < sl.length) : (∃ y, Rch (onL sl) (i : Int) y ∧ Vx sl.length y ∧ lkB q sl y.toNat = true) ↔ Lk sl q sl[i] := by
 have edge : ∀ (v z : Nat) (hv : v < sl.length) (hz : z < sl.length), (z : Int) ∈ rowOf (onL sl) (v : Int) ↔ sl[z].d ∈ depsL sl[v] := fun v z hv hz => by
  rw [onRow_at sl hv, onRow_mem]
  constructor
  ·rintro ⟨d, hd, k, hk, e⟩
   obtain ⟨h1, h2⟩ := plcO_some hk
   have : k = z := by omega
   subst this; rw [h2]; exact hd
  ·exact fun h => ⟨_, h, z, plcO_at hn hz, rfl⟩
 have base : ∀ (v : Nat) (hv : v < sl.length), lkB q sl v = true ↔ ∃ d ∈ depsL sl[v], (∀ y ∈ sl, y.d ≠ d) ∧ q d = false := fun v hv => by
  rw [lkB_at hv]
  unfold lack0
  rw [Bool.not_eq_true', List.all_eq_false]
  constructor
  ·rintro ⟨d, hd, h⟩
   simp only [Bool.or_eq_true, not_or, Bool.not_eq_true, Option.isSome_eq_false_iff, Option.isNone_iff_eq_none] at h
   exact ⟨d, hd, plcO_none.1 h.1, h.2⟩
  ·rintro ⟨d, hd, h1, h2⟩
   refine ⟨d, hd, ?_⟩
   rw [plcO_none.2 h1, h2]; simp
 constructor
 ·rintro ⟨y, h1, h2, h3⟩
  have key : ∀ x y : Int, Rch (onL sl) x y → Vx sl.length x → ∀ hy : y.toNat < sl.length, Lk sl q sl[y.toNat] → ∀ hx : x.toNat < sl.length, Lk sl q sl[x.toNat] := by
   intro x y hr
   induction hr with
   | refl => exact fun _ _ h _ => h
   | @step y z hr hz ih =>
    intro hx hzl hL hxl
    have hy := rch_vx (onL_ok sl) hr hx
    have hzx := (onL_ok sl).rng y z hz
    have hyn : y.toNat < sl.length := by unfold Vx at hy; omega
    refine ih hx hyn (.next (List.getElem_mem _) (List.getElem_mem _) ((edge y.toNat z.toNat hyn hzl).1 ?_) hL) hxl
    rw [show ((z.toNat : Nat) : Int) = z by unfold Vx at hzx; omega, show ((y.toNat : Nat) : Int) = y by unfold Vx at hy; omega]
    exact hz
  have hyn : y.toNat < sl.length := by unfold Vx at h2; omega
  obtain ⟨d, hd, h4, h5⟩ := (base y.toNat hyn).1 h3
  exact key (i : Int) y h1 ⟨by omega, by omega⟩ hyn (.miss (List.getElem_mem _) hd h4 h5) (by simpa using hi)
 ·intro h
  generalize hx : sl[i] = x at h
  induction h generalizing i with
  | @miss x d hm hd h1 h2 =>
   exact ⟨i, .refl _, ⟨by omega, by omega⟩, by rw [Int.toNat_natCast, base i hi, hx]; exact ⟨d, hd, h1, h2⟩⟩
  | @next x y hm hy hd hL ih =>
   obtain ⟨j, hj, rfl⟩ := List.getElem_of_mem hy
   obtain ⟨z, h1, h2, h3⟩ := ih hj rfl
   exact ⟨z, Rch.head ((edge i j hi hj).2 (by rw [hx]; exact hd)) h1, h2, h3⟩
open Classical in
noncomputable def keptO (q : Dot → Bool) (l : List Ins) : List Ins := (sortO l).filter fun x => !decide (Lk (sortO l) q x)
theorem keep_kept {q : Dot → Bool} {l : List Ins} (hn : (l.map (·.d)).Nodup) {b : List Bool} {td : List Int} (h : KB (onL (sortO l)) (sortO l).length (lkB q (sortO l)) td.length b td) : keepL (sortO l) b = keptO q l := by
 have hnd := sortO_nodup hn
 unfold keptO
 generalize sortO l = sl at *
 have hb : ∀ (i : Nat) (hi : i < sl.length), (!b.getD i false) = !@decide (Lk sl q sl[i]) (Classical.propDecidable _) := fun i hi => by
  have h1 := kb_end (onL_ok sl) h (k := (i : Int)) ⟨by omega, by omega⟩
  rw [Int.toNat_natCast, lk_iff hnd hi] at h1
  by_cases hL : Lk sl q sl[i]
  ·rw [h1.2 hL]; simp [hL]
  ·have : b.getD i false = false := Bool.eq_false_iff.2 fun e => hL (h1.1 e)
   rw [this]; simp [hL]
 unfold keepL
 have key : ∀ (s : List Ins) (n : Nat) (f : Nat → Bool) (p : Ins → Bool), (∀ i (hi : i < s.length), f (n + i) = p s[i]) → ((s.zipIdx n).filter fun x => f x.2).map (·.1) = s.filter p := by
  intro s
  induction s with
  | nil => intros; rfl
  | cons x s ih =>
   intro n f p hf
   have h0 := hf 0 (by simp)
   rw [List.zipIdx_cons, List.filter_cons, List.filter_cons]
   simp only [Nat.add_zero, List.getElem_cons_zero] at h0
   have ih2 := ih (n + 1) f p fun i hi => by
    have := hf (i + 1) (by simpa using hi)
    rw [show n + 1 + i = n + (i + 1) by omega]; simpa using this
   rw [h0]
   by_cases hp : p x = true
   ·rw [if_pos hp, if_pos hp, List.map_cons, ih2]
   ·rw [if_neg hp, if_neg hp, ih2]
 exact key sl 0 (fun i => !b.getD i false) _ fun i hi => by rw [Nat.zero_add]; exact hb i hi
theorem kept_sub {q : Dot → Bool} {l : List Ins} : (keptO q l).Sublist (sortO l) := List.filter_sublist
def isO (done : P7 Int) (also : List Dot) (d : Dot) : Bool := decide (d.n ≤ done.get d.rep.toNat) || decide (d ∈ also)
def isC (b4 b7 : Nat) (done : P7 Int) (also : List Dot) : Asn := fun h => ∃ x : Nat × List (Dot × Value), (∀ d, (mget x.2 d).getD (.bool false) = .bool (decide (d ∈ also))) ∧ sep [cells b4 [.int .i64 done.x0, .int .i64 done.x1, .int .i64 done.x2, .int .i64 done.x3, .int .i64 done.x4, .int .i64 done.x5, .int .i64 done.x6] T_a7_int64, cells b7 [.map (some x.1)] T_m_api_Dot_bool, mp KD x.1 x.2] h
section
variable {W0 W : World} {L L' : List Asn} {C : Asn} {q : Dot → Bool} {p g c n b4 b7 : Nat} {a : Option Addr} {sl : List Ins} {done : P7 Int} {also : List Dot}
theorem isC_at (h : St W0 (isC b4 b7 done also :: L) W) : ∃ r m, (∀ d, (mget m d).getD (.bool false) = .bool (decide (d ∈ also))) ∧ St W0 (cells b4 [.int .i64 done.x0, .int .i64 done.x1, .int .i64 done.x2, .int .i64 done.x3, .int .i64 done.x4, .int .i64 done.x5, .int .i64 done.x6] T_a7_int64 :: cells b7 [.map (some r)] T_m_api_Dot_bool :: mp KD r m :: L) W := by
 obtain ⟨x, h⟩ := h.ex
 obtain ⟨h1, h⟩ := h.fact
 exact ⟨x.1, x.2, h1, h.flat⟩
theorem isC_ent {r : Nat} {m : List (Dot × Value)} (hm : ∀ d, (mget m d).getD (.bool false) = .bool (decide (d ∈ also))) : ent (cells b4 [.int .i64 done.x0, .int .i64 done.x1, .int .i64 done.x2, .int .i64 done.x3, .int .i64 done.x4, .int .i64 done.x5, .int .i64 done.x6] T_a7_int64 :: cells b7 [.map (some r)] T_m_api_Dot_bool :: mp KD r m :: L) (isC b4 b7 done also :: L) :=
 (ent.pack [_, _, _] L).trans (ent.weak fun _ hp => ⟨⟨r, m⟩, hm, hp⟩)
abbrev isFV (b4 b7 : Nat) : Value := .func (.func F_order_Line_1) #[] #[.pointer (some ⟨b4, 0, none⟩), .pointer (some ⟨b7, 0, none⟩)]
set_option maxRecDepth 100000 in
set_option maxHeartbeats 4000000 in
theorem isDone : DoneF (isC b4 b7 done also) (isFV b4 b7) (isO done also) := by
 intro d W0 L W k h1 h2 h hk
 refine ⟨CBok _ (by kernel_rfl), ?_⟩
 show callK PR F_order_Line_1 [KD d, .pointer (some ⟨b4, 0, none⟩), .pointer (some ⟨b7, 0, none⟩)] k W
 apply S.order_Line_1.call
 delta S.order_Line_1.body oK oA rD lD eF eU sT cL vC gD gX gP gA gR gL gE gU gC gV hL sB nI
 obtain ⟨r, m, hm, h⟩ := isC_at h
 refine bxa h fun db W1 h => ?_
 have ei := idxA7i (z := b4) h1 h2
 have hlt : d.rep.toNat < 7 := by omega
 unfold isO at hk
 have fin : ∀ W', St W0 (cells db [.int .i64 d.rep, .int .i64 d.n] T_api_Dot :: cells b4 [.int .i64 done.x0, .int .i64 done.x1, .int .i64 done.x2, .int .i64 done.x3, .int .i64 done.x4, .int .i64 done.x5, .int .i64 done.x6] T_a7_int64 :: cells b7 [.map (some r)] T_m_api_Dot_bool :: mp KD r m :: L) W' → St W0 (isC b4 b7 done also :: L) W' := fun W' h => (h.drop).ent (isC_ent hm)
 (repeat (first | ((with_reducible refine v5 ?_); refine ⟨_, rfl, ?_⟩) | simp -implicitDefEqProofs only [SE, SU, SV, ei]))
 have e7 : getL false [.int .i64 done.x0, .int .i64 done.x1, .int .i64 done.x2, .int .i64 done.x3, .int .i64 done.x4, .int .i64 done.x5, .int .i64 done.x6] d.rep.toNat 1 = some (.int .i64 (done.get d.rep.toNat)) := by rcases P7.cases7 hlt with h | h | h | h | h | h | h <;> rw [h] <;> rfl
 refine w5 (by simp) ⟨_, e7, ?_⟩
 by_cases hle : d.n ≤ done.get d.rep.toNat
 ·have ed : decide (d.n ≤ done.get d.rep.toNat) = true := decide_eq_true hle
  rw [ed, Bool.true_or] at hk
  (repeat simp -implicitDefEqProofs only [SE, SU, SV, ed])
  exact hk _ (fin _ (by exact St.tick (by assumption)))
 ·have ed : decide (d.n ≤ done.get d.rep.toNat) = false := decide_eq_false hle
  rw [ed, Bool.false_or] at hk
  (repeat (first | ((with_reducible refine v5 ?_); refine ⟨_, rfl, ?_⟩) | simp -implicitDefEqProofs only [SE, SU, SV, ed]))
  refine lkp (K := KD) (z := .bool false) d (by exact St.tick (by assumption)) ?_
  rw [hm d]
  skip
  exact hk _ (fin _ (by exact St.tick (by assumption)))
end
end Go.Proofs.YtfhacbhgmnhmlaaGreat
namespace Go.Proofs.YtfhacbhgmnhmlaaGreat
set_option linter.unusedVariables false
set_option linter.unusedSimpArgs false
open Go Go.Eng Go.Tar Go.Sort
theorem goodO_iff {l : List Ins} : goodO l = true ↔ (∀ x ∈ l, insOne x = true ∧ depsO x = true) ∧ (l.map (·.d)).Nodup ∧ l.length ≤ 1000 := by
 unfold goodO
 simp only [Bool.and_eq_true, decide_eq_true_eq, List.all_eq_true, and_assoc]
theorem insOne_rep {x : Ins} (h : insOne x = true) : 0 ≤ x.d.rep ∧ x.d.rep < 7 := by
 unfold insOne dotO at h
 simp only [Bool.and_eq_true, decide_eq_true_eq] at h
 exact ⟨h.1.1.1.1.1, h.1.1.1.1.2⟩
noncomputable def lineO (q : Dot → Bool) (l : List Ins) : List Dot := dotsO (sortO (keptO q (l.filter fun x => !q x.d))) (lineF (onL (sortO (keptO q (l.filter fun x => !q x.d)))))
noncomputable def lineTop (done : P7 Int) (also : List Dot) (l : List Ins) : List Dot := if goodO l = true then lineO (isO done also) l else []
section
variable {W0 W : World} {L L' : List Asn} {C : Asn} {q : Dot → Bool} {p g c c2 n b4 b7 b10 : Nat} {a a2 : Option Addr} {l : List Ins} {done : P7 Int} {also : List Dot}
theorem lineF_vx {on : List (List Int)} (hO : OnOk on n) : ∀ v ∈ lineF on, Vx n v := by
 intro v hv
 obtain rfl := hO.len
 have hp := allOf_prt hO
 have := (line_law hO _ (Nat.le_refl _)).2.1
 unfold lineF at hv
 rw [this] at hv
 obtain ⟨g, hg, hv⟩ := List.mem_flatten.1 hv
 obtain ⟨i, _, rfl⟩ := List.mem_map.1 hg
 exact (hp.mem v).1 (memFlat hv)
theorem lineF_len {on : List (List Int)} (hO : OnOk on n) : (lineF on).length ≤ n := by
 obtain rfl := hO.len
 have hp := allOf_prt hO
 have hl := line_law hO _ (Nat.le_refl _)
 refine nodup_len ?_ (lineF_vx hO)
 unfold lineF
 rw [hl.2.1]
 have key : ∀ T : List Nat, T.Nodup → ((T.map fun g => (allOf on).getD g []).flatten).Nodup := by
  intro T
  induction T with
  | nil => intro _; simp
  | cons g T ih =>
   intro hn
   rw [List.nodup_cons] at hn
   rw [List.map_cons, List.flatten_cons, List.nodup_append]
   refine ⟨?_, ih hn.2, fun x hx y hy e => ?_⟩
   ·have hg : (allOf on).getD g [] = [] ∨ (allOf on).getD g [] ∈ allOf on := by
     by_cases h : g < (allOf on).length
     ·right; rw [List.getD_eq_getElem?_getD, List.getElem?_eq_getElem h]; exact List.getElem_mem h
     ·left; exact getD_ge (by omega)
    rcases hg with hg | hg
    ·rw [hg]; simp
    ·exact hp.nd.sublist (List.sublist_flatten_of_mem hg)
   ·subst e
    obtain ⟨t, ht, hxt⟩ := List.mem_flatten.1 hy
    obtain ⟨g', hg', rfl⟩ := List.mem_map.1 ht
    have := flat_uniq _ hp.nd g g' x hx hxt
    subst this; exact hn.1 hg'
 exact key _ hl.2.2.2.nd
theorem isPred (hl : ∀ x ∈ l, 0 ≤ x.d.rep ∧ x.d.rep < 7) : PredL PR INS true (sep [cells b10 [isFV b4 b7] T_t82, isC b4 b7 done also]) (.func (.func F_order_Line_2) #[] #[.pointer (some ⟨b10, 0, none⟩)]) (fun x => isO done also x.d) l := by
 intro x hx W0 L W k h hk
 refine ⟨CBok _ (by kernel_rfl), ?_⟩
 show callK PR F_order_Line_2 [.agg (INS.row x).toArray, .pointer (some ⟨b10, 0, none⟩)] k W
 obtain ⟨h1, h2⟩ := hl x hx
 have h : St W0 (cells b10 [isFV b4 b7] T_t82 :: isC b4 b7 done also :: L) W := h.flat
 apply S.order_Line_2.call
 delta S.order_Line_2.body oK oA rD lD eF eU sT cL vC gD gX gP gA gR gL gE gU gC gV hL sB nI
 refine bxa h fun vb W1 h => ?_
 have h : St W0 (cells vb [.int .i64 x.d.rep, .int .i64 x.d.n, .int .i64 x.s, .int .i64 x.v.x0, .int .i64 x.v.x1, .int .i64 x.v.x2, .int .i64 x.v.x3, .int .i64 x.v.x4, .int .i64 x.v.x5, .int .i64 x.v.x6] T_order_Inst :: cells b10 [isFV b4 b7] T_t82 :: isC b4 b7 done also :: L) W1 := h
 (repeat (first | ((with_reducible refine v5 ?_); refine ⟨_, rfl, ?_⟩) | simp -implicitDefEqProofs only [SE, SU, SV]))
 refine isDone x.d W0 _ _ _ h1 h2 (St.wk (L' := isC b4 b7 done also :: cells b10 [isFV b4 b7] T_t82 :: L) (by assumption)) fun W2 h => ?_
 skip
 exact hk _ ((St.wk (L' := cells b10 [isFV b4 b7] T_t82 :: isC b4 b7 done also :: L) (by assumption)).ent (ent.pack [_, _] L))
set_option maxRecDepth 100000 in
set_option maxHeartbeats 4000000 in
theorem ordLine (h00 : W0.drawn = 0) (h : St W0 L W) [hr : Rd W0 L a INS l] [hr2 : Rd W0 L a2 DOT also] (hl : l.length < 1000000) (hal : also.length < 1000000) {k : Value → World → Prop}
  (hk : ∀ a' c' W', St W0 (arr DOT T_api_Dot a' c' (lineTop done also l) :: L) W' → k (.slice a' (lineTop done also l).length c') W') : callK PR F_order_Line [.slice a l.length c, .agg #[.int .i64 done.x0, .int .i64 done.x1, .int .i64 done.x2, .int .i64 done.x3, .int .i64 done.x4, .int .i64 done.x5, .int .i64 done.x6], .slice a2 also.length c2] k W := by
 apply S.order_Line.call
 delta S.order_Line.body oK oA rD lD eF eU sT cL vC gD gX gP gA gR gL gE gU gC gV hL sB nI
 refine bxa h fun b4 W1 h => ?_
 have h : St W0 (cells b4 [.int .i64 done.x0, .int .i64 done.x1, .int .i64 done.x2, .int .i64 done.x3, .int .i64 done.x4, .int .i64 done.x5, .int .i64 done.x6] T_a7_int64 :: L) W1 := h
 refine ordGood (a := a) (l := l) h (by omega) fun W2 h => ?_
 unfold lineTop at hk
 cases hg : goodO l with
 | false =>
  rw [if_neg (by rw [hg]; simp)] at hk
  (repeat simp -implicitDefEqProofs only [SE, SU, SV])
  exact hk none 0 _ ((St.drop h).ent (arr_nil DOT T_api_Dot))
 | true =>
 rw [if_pos hg] at hk
 obtain ⟨hg1, hg2, hg3⟩ := goodO_iff.1 hg
 (repeat simp -implicitDefEqProofs only [SE, SU, SV])
 refine mkMap (K := KD) (by assumption) fun r W3 h => ?_
 (repeat (first | ((with_reducible refine w11 ?_); intros) | ((with_reducible refine v12 ?_ ?_); exact rfl; intros) | ((with_reducible refine w12 ?_ ?_ ?_ ?_); simp; simp; simp [oneC]; intros)))
 rename_i b7 _ _ W4 h
 (try simp only [BLS, SB, stL_a, stL_b, stL_c, lsub_a, lsub_b, lsub_c, List.append_nil, List.take_nil, List.drop_nil, Nat.reduceAdd] at h)
 refine joinK_i ?_
 skip
 refine loop_c (σ := List (Dot × Value)) also.length (fun i _ => [.slice a l.length c, .pointer (some ⟨b4, 0, none⟩), .pointer (some ⟨b7, 0, none⟩), .slice a2 also.length c2, .int .i64 also.length, .int .i64 (i : Int)])
  (fun i m W1 => (∀ d, (mget m d).getD (.bool false) = .bool (decide (d ∈ also.take i))) ∧ St W0 (cells b4 [.int .i64 done.x0, .int .i64 done.x1, .int .i64 done.x2, .int .i64 done.x3, .int .i64 done.x4, .int .i64 done.x5, .int .i64 done.x6] T_a7_int64 :: cells b7 [.map (some r)] T_m_api_Dot_bool :: mp KD r m :: L) W1) [] rfl ⟨fun d => by simp [mget], St.wk (L' := cells b4 [.int .i64 done.x0, .int .i64 done.x1, .int .i64 done.x2, .int .i64 done.x3, .int .i64 done.x4, .int .i64 done.x5, .int .i64 done.x6] T_a7_int64 :: cells b7 [.map (some r)] T_m_api_Dot_bool :: mp KD r [] :: L) h⟩ ?_
 clear h
 rintro K i m W5 hi ⟨hm, h⟩ hK
 simp -implicitDefEqProofs only [SE, SU, SV]
 delta S.order_Line.l1 oK oA rD lD eF eU sT cL vC gD gX gP gA gR gL gE gU gC gV hL sB nI
 by_cases hlt : (i : Int) < (also.length : Int)
 ·have hib : i < also.length := by omega
  have ew : IntKind.i64.wrap ((i : Int) + 1) = ((i + 1 : Nat) : Int) := by rw [i64w]; omega
  (repeat simp -implicitDefEqProofs only [SE, SU, SV, hlt])
  refine ixA (i := i) (a := a2) (l := also) (A := DOT) (by assumption) rfl rfl hib fun g1 o1 ha => ?_
  cases ha
  refine ldA0 (l := also) (A := DOT) (by assumption) rfl hib (getL_val rfl (by decide) _) (by simp [DOT]) ?_
  refine newV (A := DOT) also[i] (by assumption) rfl (by decide) rfl fun vb W11 h => ?_
  (repeat ((with_reducible refine v5 ?_); refine ⟨_, rfl, ?_⟩))
  refine ldV (A := DOT) also[i] (by assumption) rfl (by decide) ?_
  refine mset (K := KD) also[i] (by assumption) fun W6 h => ?_
  (repeat simp -implicitDefEqProofs only [SE, SU, SV, ew])
  refine hK (mput m also[i] (.bool true)) _ hib ⟨fun d => ?_, St.wk (by assumption)⟩
  rw [List.take_succ_eq_append_getElem hib]
  rw [mget_mput]
  by_cases e : also[i] = d
  ·rw [if_pos e, decide_eq_true (List.mem_append.2 (.inr (by rw [e]; exact List.mem_singleton.2 rfl)))]; rfl
  ·have hiff : d ∈ also.take i ++ [also[i]] ↔ d ∈ also.take i := by
    rw [List.mem_append, List.mem_singleton]
    exact ⟨fun h => h.resolve_right fun h => e h.symm, .inl⟩
   rw [if_neg e, hm d, decide_eq_decide.2 hiff]
 ·have hil : i = also.length := by omega
  subst hil
  rw [List.take_length] at hm
  have h := h.ent (isC_ent (done := done) hm)
  (repeat simp -implicitDefEqProofs only [SE, SU, SV, hlt])
  delta S.order_Line.j1 oK oA rD lD eF eU sT cL vC gD gX gP gA gR gL gE gU gC gV hL sB nI
  (repeat (first | ((with_reducible refine w11 ?_); intros) | ((with_reducible refine v12 ?_ ?_); exact rfl; intros)))
  rename_i b10 _ h
  refine w12 ?_ ?_ ?_ (fun W6 h => ?_) h
  ·rfl
  ·exact Nat.le_refl 1
  ·rfl
  (try simp only [BLS, SB, stL_a, stL_b, stL_c, lsub_a, lsub_b, lsub_c, List.append_nil, List.take_nil, List.drop_nil, Nat.reduceAdd] at h)
  refine insClone (a := a) (l := l) h hl fun a3 c3 W7 h => ?_
  have h : St W0 (arr INS T_order_Inst a3 c3 l :: cells b10 [isFV b4 b7] T_t82 :: isC b4 b7 done also :: L) W7 := h
  have h := St.wk (L' := cells b10 [isFV b4 b7] T_t82 :: isC b4 b7 done also :: arr INS T_order_Inst a3 c3 l :: L) h
  have h := h.ent (ent.pack [_, _] _)
  refine deleteFunc_order_Inst_order_Inst (A := INS) (p := fun x => isO done also x.d) rfl h (isPred fun x hx => insOne_rep (hg1 x hx).1) (by omega) fun W8 h => ?_
  have h := h.flat
  simp only [List.cons_append, List.nil_append] at h
  have hrl : (l.filter fun x => !isO done also x.d).length ≤ 1000 := Nat.le_trans (List.length_filter_le _ _) hg3
  have hrn : ((l.filter fun x => !isO done also x.d).map (·.d)).Nodup := hg2.sublist (List.filter_sublist.map _)
  have hrd : ∀ x ∈ (l.filter fun x => !isO done also x.d), depsO x = true := fun x hx => (hg1 x (List.mem_filter.1 hx).1).2
  unfold lineO at hk
  generalize (l.filter fun x => !isO done also x.d) = rest at *
  (repeat ((with_reducible refine v5 ?_); refine ⟨_, rfl, ?_⟩))
  have h := St.wk (L' := isC b4 b7 done also :: cells b10 [isFV b4 b7] T_t82 :: arr INS T_order_Inst a3 c3 rest :: L) (by assumption)
  refine ordKept (a := a3) (l := rest) isDone hrl hrn hrd h fun b td a4 c4 W9 hkb h => ?_
  rw [keep_kept hrn hkb] at h ⊢
  clear hkb
  have hks : (keptO (isO done also) rest).Sublist (sortO rest) := kept_sub
  have hkl : (keptO (isO done also) rest).length ≤ 1000 := by have := hks.length_le; rw [sortO_len] at this; omega
  have hkn : ((keptO (isO done also) rest).map (·.d)).Nodup := (sortO_nodup hrn).sublist (hks.map _)
  have hkd : ∀ x ∈ keptO (isO done also) rest, depsO x = true := fun x hx => hrd x ((sortO_perm rest).mem_iff.1 (hks.mem hx))
  generalize keptO (isO done also) rest = kp at *
  refine ordWeave (a := a4) (l := kp) h (by omega) hkn fun p W10 h => ?_
  have hsl := sortO_len kp
  have hsd : ∀ x ∈ sortO kp, depsO x = true := fun x hx => hkd x ((sortO_perm kp).mem_iff.1 hx)
  generalize sortO kp = sl at *
  have hO := onL_ok sl
  have hrl2 := onL_rl hsd
  refine ordOn (sl := sl) h (by omega) hsd fun a5 c5 W11 h => ?_
  refine ordLineI h00 (by rw [hO.len]; exact hO) (by rw [hO.len]; omega) (fun v => by have := hrl2 v; omega) h fun a6 c6 W12 h => ?_
  have hvx := lineF_vx hO
  have hvl := lineF_len hO
  have h := St.wk (L' := wb p sl :: arr I64 T_int a6 c6 (lineF (onL sl)) :: L) h
  refine ordDots (l := lineF (onL sl)) h hvx (by omega) fun a7 c7 W13 h => ?_
  exact hk a7 c7 _ (St.wk h)
end
end Go.Proofs.YtfhacbhgmnhmlaaGreat
namespace Go.Tar
set_option linter.unusedVariables false
set_option linter.unusedSimpArgs false
section
variable {on : List (List Int)} {n : Nat} {all gs : List (List Int)} {x y : Int}
end
end Go.Tar
namespace Go.Proofs.YtfhacbhgmnhmlaaGreat
set_option linter.unusedVariables false
set_option linter.unusedSimpArgs false
open Go Go.Eng Go.Tar Go.Sort
inductive DR (K : List Ins) : Ins → Ins → Prop
 | refl (x : Ins) : DR K x x
 | step {x y z : Ins} : DR K x y → z ∈ K → z.d ∈ depsL y → DR K x z
def Mut (K : List Ins) (x y : Ins) : Prop := DR K x y ∧ DR K y x
section
variable {sl K M l : List Ins} {q : Dot → Bool} {x y z : Ins} {i j : Nat}
theorem DR.trans (h1 : DR K x y) (h2 : DR K y z) : DR K x z := by
 induction h2 with
 | refl => exact h1
 | step _ h3 h4 ih => exact .step ih h3 h4
theorem DR.one (h : y ∈ K) (hd : y.d ∈ depsL x) : DR K x y := .step (.refl x) h hd
theorem DR.mono (hs : ∀ x ∈ K, x ∈ M) (h : DR K x y) : DR M x y := by
 induction h with
 | refl => exact .refl _
 | step _ h3 h4 ih => exact .step ih (hs _ h3) h4
theorem DR.mem (h : DR K x y) (hx : x ∈ K) : y ∈ K := by
 cases h with
 | refl => exact hx
 | step _ h3 _ => exact h3
theorem Mut.symm (h : Mut K x y) : Mut K y x := ⟨h.2, h.1⟩
def lineS (sl : List Ins) : List Ins := (lineF (onL sl)).map fun v => sl.getD v.toNat default
theorem sortO_mem : x ∈ sortO K ↔ x ∈ K := (sortO_perm K).mem_iff
theorem kept_mem : x ∈ keptO q l ↔ x ∈ l ∧ ¬ Lk (sortO l) q x := by
 unfold keptO
 rw [List.mem_filter, sortO_mem]; simp
theorem kept_closed {d : Dot} (hx : x ∈ keptO q l) (hd : d ∈ depsL x) : q d = true ∨ ∃ y ∈ keptO q l, y.d = d := by
 obtain ⟨h1, h2⟩ := kept_mem.1 hx
 by_cases hy : ∃ y ∈ l, y.d = d
 ·obtain ⟨y, hy, rfl⟩ := hy
  exact .inr ⟨y, kept_mem.2 ⟨hy, fun hL => h2 (.next (sortO_mem.2 h1) (sortO_mem.2 hy) hd hL)⟩, rfl⟩
 ·left
  refine Classical.byContradiction fun hq => h2 (.miss (sortO_mem.2 h1) hd (fun y hy2 e => hy ⟨y, sortO_mem.1 hy2, e⟩) (by simpa using hq))
theorem kept_great {C : Ins → Prop} (hn : (l.map (·.d)).Nodup) (hq : ∀ y ∈ l, q y.d = false) (hs : ∀ x, C x → x ∈ l) (hc : ∀ x, C x → ∀ d ∈ depsL x, q d = true ∨ ∃ y, C y ∧ y.d = d) (hx : C x) : x ∈ keptO q l := by
 refine kept_mem.2 ⟨hs x hx, fun hL => ?_⟩
 induction hL with
 | @miss x d _ hd hno hqd =>
  rcases hc x hx d hd with h | ⟨y, hy, e⟩
  ·rw [hqd] at h; cases h
  ·exact hno y (sortO_mem.2 (hs y hy)) e
 | @next x y _ hy hd _ ih =>
  rcases hc x hx y.d hd with h | ⟨y', hy', e⟩
  ·rw [hq y (sortO_mem.1 hy)] at h; cases h
  ·exact ih (ins_inj hn (hs y' hy') (sortO_mem.1 hy) e ▸ hy')
end
end Go.Proofs.YtfhacbhgmnhmlaaGreat
namespace Go.Proofs.YtfhacbhgmnhmlaaGreat
set_option linter.unusedVariables false
set_option linter.unusedSimpArgs false
open Go Go.Eng Go.Tar Go.Sort
def stepK (q : Dot → Bool) (K : List Ins) : List Ins := K.filter fun x => (depsL x).all fun d => q d || K.any fun y => decide (y.d = d)
def iterK (q : Dot → Bool) : Nat → List Ins → List Ins
 | 0, K => K
 | n + 1, K => iterK q n (stepK q K)
def keptC (q : Dot → Bool) (l : List Ins) : List Ins := iterK q l.length (sortO l)
section
variable {q : Dot → Bool} {K l : List Ins} {x : Ins}
theorem iterK_sub : ∀ (n : Nat) (K : List Ins), (iterK q n K).Sublist K
 | 0, K => List.Sublist.refl _
 | n + 1, K => (iterK_sub n (stepK q K)).trans List.filter_sublist
theorem iterK_fix : ∀ (n : Nat) (K : List Ins), K.length ≤ n → stepK q (iterK q n K) = iterK q n K
 | 0, K, h => by
  have : K = [] := List.eq_nil_of_length_eq_zero (by omega)
  subst this; rfl
 | n + 1, K, h => by
  show stepK q (iterK q n (stepK q K)) = iterK q n (stepK q K)
  by_cases e : stepK q K = K
  ·rw [e]
   have : ∀ m, iterK q m K = K := fun m => by
    induction m with
    | zero => rfl
    | succ m ih => show iterK q m (stepK q K) = K; rw [e]; exact ih
   rw [this, e]
  ·refine iterK_fix n _ ?_
   have h1 : (stepK q K).length ≤ K.length := List.length_filter_le _ _
   have h2 : (stepK q K).length ≠ K.length := fun e2 => e ((List.filter_sublist (l := K)).eq_of_length e2)
   omega
theorem stepK_mem : x ∈ stepK q K ↔ x ∈ K ∧ ∀ d ∈ depsL x, q d = true ∨ ∃ y ∈ K, y.d = d := by
 unfold stepK
 rw [List.mem_filter, List.all_eq_true]
 simp only [Bool.or_eq_true, List.any_eq_true, decide_eq_true_eq]
theorem iterK_great {C : Ins → Prop} (hc : ∀ x, C x → ∀ d ∈ depsL x, q d = true ∨ ∃ y, C y ∧ y.d = d) : ∀ (n : Nat) (K : List Ins), (∀ x, C x → x ∈ K) → ∀ x, C x → x ∈ iterK q n K
 | 0, K, h => h
 | n + 1, K, h => iterK_great hc n _ fun x hx => stepK_mem.2 ⟨h x hx, fun d hd => (hc x hx d hd).imp_right fun ⟨y, hy, e⟩ => ⟨y, h y hy, e⟩⟩
open Classical in
theorem sub_filter {α : Type} {S L : List α} (h : S.Sublist L) (hn : L.Nodup) : S = L.filter fun x => decide (x ∈ S) := by
 induction h with
 | slnil => rfl
 | @cons S L a h ih =>
  rw [List.nodup_cons] at hn
  rw [List.filter_cons, if_neg (by simpa using fun ha => hn.1 (h.mem ha))]
  exact ih hn.2
 | @cons_cons S L a h ih =>
  rw [List.nodup_cons] at hn
  rw [List.filter_cons, if_pos (by simp)]
  congr 1
  refine (ih hn.2).trans (List.filter_congr fun x hx => ?_)
  have : x ≠ a := fun e => hn.1 (e ▸ hx)
  simp [this]
theorem nodup_of_map {α β : Type} {f : α → β} {l : List α} (h : (l.map f).Nodup) : l.Nodup := by
 rw [List.nodup_iff_pairwise_ne, List.pairwise_map] at h
 rw [List.nodup_iff_pairwise_ne]
 exact h.imp fun {a b} hab e => hab (by rw [e])
theorem kept_eq (hn : (l.map (·.d)).Nodup) (hq : ∀ y ∈ l, q y.d = false) : keptO q l = keptC q l := by
 have h1 : ∀ x, x ∈ keptO q l ↔ x ∈ keptC q l := fun x => by
  constructor
  ·exact fun h => iterK_great (C := fun x => x ∈ keptO q l) (fun x hx d hd => kept_closed hx hd) l.length (sortO l) (fun x hx => sortO_mem.2 (kept_mem.1 hx).1) x h
  ·intro h
   refine kept_great (C := fun x => x ∈ keptC q l) hn hq (fun x hx => sortO_mem.1 ((iterK_sub _ _).mem hx)) (fun x hx d hd => ?_) h
   have hf := iterK_fix (q := q) l.length (sortO l) (by rw [sortO_len]; exact Nat.le_refl _)
   have hx2 : x ∈ stepK q (keptC q l) := by unfold keptC; rw [hf]; exact hx
   exact (stepK_mem.1 hx2).2 d hd
 have hnd := nodup_of_map (sortO_nodup hn)
 have e1 := sub_filter (S := keptO q l) kept_sub hnd
 have e2 := sub_filter (S := keptC q l) (iterK_sub l.length (sortO l)) hnd
 exact e1.trans ((List.filter_congr fun x _ => by rw [decide_eq_decide]; exact h1 x).trans e2.symm)
def lineC (done : P7 Int) (also : List Dot) (l : List Ins) : List Dot :=
 if goodO l = true then dotsO (sortO (keptC (isO done also) (l.filter fun x => !isO done also x.d))) (lineF (onL (sortO (keptC (isO done also) (l.filter fun x => !isO done also x.d))))) else []
theorem lineTop_eq (done : P7 Int) (also : List Dot) (l : List Ins) : lineTop done also l = lineC done also l := by
 unfold lineTop lineC
 by_cases h : goodO l = true
 ·rw [if_pos h, if_pos h]
  have hn := (goodO_iff.1 h).2.1
  unfold lineO
  rw [kept_eq (hn.sublist (List.filter_sublist.map _)) fun y hy => by simpa using (List.mem_filter.1 hy).2]
 ·rw [if_neg h, if_neg h]
end
end Go.Proofs.YtfhacbhgmnhmlaaGreat
namespace Go.Proofs.YtfhacbhgmnhmlaaGreat
set_option linter.unusedVariables false
set_option linter.unusedSimpArgs false
open Go Go.Eng
structure LdR where
 ld : LD
 last : P7 (Option (Ans Bs))
structure Grp where
 T : List Tbl
 ls : List (List LdR)
 used : List Int
def ldrZ : LdR := ⟨ldZ 0 0, P7.all none⟩
def gNew (n : Nat) : Grp := ⟨List.replicate n [], List.replicate n [], List.replicate n 0⟩
abbrev Grp.n (G : Grp) : Nat := G.T.length
def Grp.has (G : Grp) (i : Int) : Bool := decide (0 ≤ i) && decide (i < G.n)
abbrev tAt (T : List Tbl) (i : Nat) : Tbl := T.getD i []
abbrev Grp.t (G : Grp) (i : Nat) : Tbl := tAt G.T i
abbrev Grp.l (G : Grp) (i : Nat) : List LdR := G.ls.getD i []
def Grp.propose (G : Grp) (i : Nat) (b : UInt8) : Grp × Bool :=
 if 50 ≤ G.used.getD i 0 then (G, false)
 else match Go.Proofs.YtfhacbhgmnhmlaaGreat.propose G.n i ⟨i, G.used.getD i 0 + 1⟩ [b] (G.t i) with
  | .inl (l, T) => (⟨G.T.set i T, G.ls.set i (G.l i ++ [⟨l, P7.all none⟩]), G.used.set i (G.used.getD i 0 + 1)⟩, true)
  | .inr _ => (G, false)
def leadingL (ls : List LdR) (d : Dot) : Bool := ls.any fun x => decide (x.ld.m.dot = d) && decide (x.ld.phase ≠ 3) && decide (x.ld.phase ≠ 5)
def Grp.recover (G : Grp) (i : Nat) (d : Dot) : Grp × Bool :=
 if d.n < 1 ∨ 50 < d.n ∨ leadingL (G.l i) d = true then (G, false)
 else match Go.Proofs.YtfhacbhgmnhmlaaGreat.recover G.n i d (G.t i) with
  | .inl (l, T) => (⟨G.T.set i T, G.ls.set i (G.l i ++ [⟨l, P7.all none⟩]), G.used⟩, true)
  | .inr _ => (G, false)
structure TL where
 T : List Tbl
 x : LdR
def TL.ask (s : TL) (to : Nat) : TL × Option (Ans Bs) :=
 let o := tdo (tAt s.T to) s.x.ld.msg
 if o.2.2 = 0 then (⟨s.T.set to o.1, s.x.ld, s.x.last.set to (some o.2.1)⟩, some o.2.1) else (s, none)
def TL.got (s : TL) (n : Nat) (fr : Int) (a : Ans Bs) : TL :=
 ⟨s.T.set n (s.x.ld.got (tAt s.T n) fr a).1.2, (s.x.ld.got (tAt s.T n) fr a).1.1, s.x.last⟩
def TL.slow (s : TL) (n : Nat) : TL × Bool := (⟨s.T.set n (s.x.ld.slow (tAt s.T n)).1.2, (s.x.ld.slow (tAt s.T n)).1.1, s.x.last⟩, (s.x.ld.slow (tAt s.T n)).2)
def TL.told (s : TL) (n : Nat) (op to : Int) : TL × Bool :=
 if op = 2 ∨ op = 3 ∨ op = 4 then
  match s.ask to.toNat with
  | (s, none) => (s, false)
  | (s, some a) =>
   let s := if op = 3 then s else s.got n to a
   (if op = 4 then s.got n to a else s, true)
 else if op = 5 then match s.x.last.get to.toNat with
  | none => (s, false)
  | some a => (s.got n to a, true)
 else (s, false)
structure Act where
 op : Int
 n : Int
 a : Int
 b : Int
def Grp.tl (G : Grp) (n j : Nat) : TL := ⟨G.T, (G.l n).getD j ldrZ⟩
def Grp.put (G : Grp) (n j : Nat) (s : TL) : Grp := ⟨s.T, G.ls.set n ((G.l n).set j s.x), G.used⟩
def Grp.act (G : Grp) (a : Act) : Grp × Bool :=
 if G.has a.n = false then (G, false)
 else if a.op = 0 then G.propose a.n.toNat (UInt8.ofNat (a.b % 256).toNat)
 else if a.op = 1 then (if G.has a.a then G.recover a.n.toNat ⟨a.a, a.b⟩ else (G, false))
 else if a.a < 0 ∨ ((G.l a.n.toNat).length : Int) ≤ a.a then (G, false)
 else if a.op = 6 then (G.put a.n.toNat a.a.toNat ((G.tl a.n.toNat a.a.toNat).slow a.n.toNat).1, ((G.tl a.n.toNat a.a.toNat).slow a.n.toNat).2)
 else if a.op = 7 then (⟨G.T, G.ls.set a.n.toNat ((G.l a.n.toNat).eraseIdx a.a.toNat), G.used⟩, true)
 else if G.has a.b = true ∧ a.b ≠ a.n then (G.put a.n.toNat a.a.toNat ((G.tl a.n.toNat a.a.toNat).told a.n.toNat a.op a.b).1, ((G.tl a.n.toNat a.a.toNat).told a.n.toNat a.op a.b).2)
 else (G, false)
def comT (T : Tbl) : List Dot := (allT T).filter fun d => decide ((trec T d).st = 3)
def Grp.committed (G : Grp) (i : Int) : List Dot := if G.has i then comT (G.t i.toNat) else []
def Grp.recd (G : Grp) (i : Int) (d : Dot) : Rec Bs := if G.has i then trec (G.t i.toNat) d else recZ
def insOf (d : Dot) (r : Rec Bs) : Ins := ⟨d, r.seq, r.deps⟩
def Grp.line (G : Grp) (i : Int) : List Dot := lineC (P7.all 0) [] ((G.committed i).map fun d => insOf d (G.recd i d))
def mostS (T : Tbl) (v : P7 Int) (d : Dot) : P7 Int := if 0 < (trec T d).st ∨ (trec T d).bal ≠ (0, 0) then v.set d.rep.toNat (imax (v.get d.rep.toNat) d.n) else v
def openR (T : Tbl) (rep : Nat) (k : Int) : List Dot := ((List.range k.toNat).map fun (i : Nat) => (⟨rep, i + 1⟩ : Dot)).filter fun d => decide ((trec T d).st ≠ 3)
def openT (T : Tbl) : List Dot := (List.range 7).flatMap fun rep => openR T rep (((promT T).foldl (mostS T) (P7.all 0)).get rep)
def TL.one (n : Nat) (s : TL) (to : Nat) : TL := if to = n then s else match s.ask to with
 | (s', some a) => s'.got n to a
 | (s', none) => s'
def TL.round (s : TL) (n N : Nat) : TL := (List.range N).foldl (TL.one n) s
def TL.lead (n N : Nat) : Nat → Int → TL → TL
 | 0, _, s => s
 | f + 1, ph, s => if ph = s.x.ld.phase ∨ s.x.ld.phase = 5 then s
  else
   let s1 := s.round n N
   TL.lead n N f s.x.ld.phase (if s.x.ld.phase = 1 ∧ s1.x.ld.phase = 1 then (s1.slow n).1 else s1)
def spreadM (T : Tbl) (d : Dot) : Msg Bs := ⟨3, d, (trec T d).bal, (trec T d).cmd, (trec T d).seq, (trec T d).deps⟩
def spreadD (n : Nat) (T : List Tbl) (d : Dot) : List Tbl := (List.range T.length).foldl (fun T' to => if to = n then T' else T'.set to (tdo (tAt T' to) (spreadM (tAt T n) d)).1) T
def spreadT (n : Nat) (T : List Tbl) : List Tbl := (comT (tAt T n)).foldl (spreadD n) T
def Grp.leadJ (n : Nat) (G : Grp) (j : Nat) : Grp := G.put n j ((G.tl n j).lead n G.n 6 0)
def Grp.calm1 (G : Grp) (n : Nat) : Grp :=
 let G1 := (openT (G.t n)).foldl (fun G d => (G.recover n d).1) G
 let G2 := (List.range (G1.l n).length).foldl (Grp.leadJ n) G1
 ⟨spreadT n G2.T, G2.ls, G2.used⟩
def Grp.calmR (G : Grp) : Grp := (List.range G.n).foldl Grp.calm1 G
def Grp.calm : Nat → Grp → Grp
 | 0, G => G
 | k + 1, G => Grp.calm k G.calmR
def pA (n b : Int) : Act := ⟨0, n, 0, b⟩
def gAw : Grp := (((gNew 3).act (pA 0 1)).1.act (pA 1 2)).1.calm 3
set_option maxRecDepth 100000 in
theorem aw_com : (List.range 3).map (fun (i : Nat) => (gAw.committed i, (gAw.line i).length)) = List.replicate 3 ([⟨0, 1⟩, ⟨1, 1⟩], 2) := by kernel_rfl
theorem aw_rec : ((gAw.recd 2 ⟨0, 1⟩).cmd, (gAw.recd 2 ⟨1, 1⟩).cmd, (gAw.recd 2 ⟨0, 1⟩).deps.x1, (gAw.recd 2 ⟨1, 1⟩).deps.x0) = ([1], [2], 1, 1) := by kernel_rfl
end Go.Proofs.YtfhacbhgmnhmlaaGreat
namespace Go.Proofs.YtfhacbhgmnhmlaaGreat
set_option linter.unusedVariables false
set_option linter.unusedSimpArgs false
open Go.Eng
def S.lead_Lead_Slow.body (R : VK) (v0 : Value) (W : World) : Prop :=
oK (nilP v0) fun v4=>
oA 17 v4 fun v5=>
lD W T_int v5 fun v6 W=>
oK (binP .neq v6 (nI 1)) fun v7=>
gX W v7 false v0 fun v9 W=>
gC W v7 false F_lead_Lead_majority [v9] fun v10 W=>
gP W v7 false (unP .not v10) fun v11 W=>
oK (pickP v7 (.bool true) v11) fun v12=>
ifK v12 (
R (.bool false) W) (
cL W F_lead_Lead_accept [v0] fun v14 W=>
R (.bool true) W)
theorem S.lead_Lead_Slow.call {R : VK} {v0 : Value} {W : World} (h : S.lead_Lead_Slow.body R v0 W) : callK PR F_lead_Lead_Slow [v0] R W :=
callS (fn := Tryz.f21) (h := (.t (.two (.t (.two (.t .n) .n)) (.t (.t .n))))) h
def S.lead_Propose.j1 (R : VK) (x0 x1 x4 x7 x12 : Value) (W : World) : Prop :=
cL W F_lead_good [x0, x1] fun v23 W=>
oK (unP .not v23) fun v24=>
gA W v24 false 0 x7 fun v26 W=>
gL W v24 false T_int v26 fun v27 W=>
gX W v24 false x1 fun v28 W=>
gP W v24 false (binP .neq v27 v28) fun v29 W=>
oK (pickP v24 (.bool true) v29) fun v30=>
gL W v30 false T_inst_Msg x12 fun v32 W=>
gC W v30 false F_inst_May [v32] fun v33 W=>
gP W v30 false (unP .not v33) fun v34 W=>
oK (pickP v30 (.bool true) v34) fun v35=>
ifK v35 (
R (.tuple #[(.pointer none), (nI 1)]) W) (
lD W T_api_Dot x7 fun v37 W=>
cL W F_inst_Table_Rec [x4, v37] fun v38 W=>
eF W (Instr.alloc T_inst_Rec true (.tuple #[])) fun v13 W=>
sT W T_inst_Rec v13 v38 fun _ W=>
oA 0 v13 fun v39=>
lD W T_int v39 fun v40 W=>
oK (binP .gtr v40 (nI 0)) fun v41=>
gA W v41 false 10 v13 fun v43 W=>
gL W v41 false T_ballot_Ballot v43 fun v44 W=>
gP W v41 false (bldP (fun i => ([(0, 1), (1, 1)] : List (Nat × Nat))[i]?) [.int .i64 0, .int .i64 0] []) fun v45 W=>
gR W v41 false (aggEq .neq T_ballot_Ballot v44 v45) fun v46 W=>
oK (pickP v41 (.bool true) v46) fun v47=>
ifK v47 (
R (.tuple #[(.pointer none), (nI 5)]) W) (
oK (bldP (fun i => ([(0, 1), (1, 1), (2, 1), (3, 14), (17, 1), (18, 1), (19, 1), (20, 7), (27, 14)] : List (Nat × Nat))[i]?) [.int .i64 0, .int .i64 0, .pointer none, .int .i64 0, .int .i64 0, .int .i64 0, .int .i64 0, .int .i64 0, .slice none 0 0, .int .i64 0, .int .i64 0, .int .i64 0, .int .i64 0, .int .i64 0, .int .i64 0, .int .i64 0, .int .i64 0, .int .i64 0, .bool false, .bool false, .pointer none, .pointer none, .pointer none, .pointer none, .pointer none, .pointer none, .pointer none, .int .i64 0, .slice none 0 0, .int .i64 0, .int .i64 0, .int .i64 0, .int .i64 0, .int .i64 0, .int .i64 0, .int .i64 0, .int .i64 0, .int .i64 0, .int .i64 0, .int .i64 0, .int .i64 0] [(0, x0), (1, x1), (2, x4)]) fun v51=>
eF W (Instr.box T_lead_Lead v51) fun v52 W=>
lD W T_inst_Msg x12 fun v54 W=>
cL W F_lead_Lead_begin [v52, (nI 1), v54] fun v55 W=>
R (.tuple #[v52, (nI 0)]) W))
def S.lead_Propose.body (R : VK) (v0 v1 v2 v3 v4 : Value) (W : World) : Prop :=
eF W (Instr.box T_api_Dot v2) fun v7 W=>
joinK (fun s W => S.lead_Propose.j1 R (nthv s 0) (nthv s 1) (nthv s 2) (nthv s 3) (nthv s 4) W) (fun J1 =>
lD (tick W) T_api_Dot v7 fun v15 W=>
(cL W F_ballot_First [v1] fun v17 W=>
sB W [hL 0 T_api_Dot v7 v15] fun W=>
(cL W F_bytes_Clone [v3] fun v19 W=>
sB W [hL 0 T_api_Dot v7 v15] fun W=>
oK (bldP (fun i => ([(0, 1), (1, 2), (3, 2), (5, 1), (6, 1), (7, 7)] : List (Nat × Nat))[i]?) [.int .i64 0, .int .i64 0, .int .i64 0, .int .i64 0, .int .i64 0, .slice none 0 0, .int .i64 0, .int .i64 0, .int .i64 0, .int .i64 0, .int .i64 0, .int .i64 0, .int .i64 0, .int .i64 0] [(0, (nI 1)), (1, v15), (2, v17), (3, v19)]) fun v20=>
eF W (Instr.alloc T_inst_Msg true (.tuple #[])) fun v12 W=>
sB W [hL 0 T_api_Dot v7 v15] fun W=>
sT W T_inst_Msg v12 v20 fun _ W=>
J1 [v0, v1, v4, v7, v12] W) ∧ (eF W (Instr.alloc T_inst_Msg true (.tuple #[])) fun v12_1 W=>
sB W [hL 0 T_api_Dot v7 v15] fun W=>
cL W F_bytes_Clone [v3] fun v19_1 W=>
sB W [hL 0 T_api_Dot v7 v15] fun W=>
oK (bldP (fun i => ([(0, 1), (1, 2), (3, 2), (5, 1), (6, 1), (7, 7)] : List (Nat × Nat))[i]?) [.int .i64 0, .int .i64 0, .int .i64 0, .int .i64 0, .int .i64 0, .slice none 0 0, .int .i64 0, .int .i64 0, .int .i64 0, .int .i64 0, .int .i64 0, .int .i64 0, .int .i64 0, .int .i64 0] [(0, (nI 1)), (1, v15), (2, v17), (3, v19_1)]) fun v20_1=>
sT W T_inst_Msg v12_1 v20_1 fun _ W=>
J1 [v0, v1, v4, v7, v12_1] W)) ∧ (eF W (Instr.alloc T_inst_Msg true (.tuple #[])) fun v12_2 W=>
sB W [hL 0 T_api_Dot v7 v15] fun W=>
cL W F_ballot_First [v1] fun v17_1 W=>
sB W [hL 0 T_api_Dot v7 v15] fun W=>
cL W F_bytes_Clone [v3] fun v19_2 W=>
sB W [hL 0 T_api_Dot v7 v15] fun W=>
oK (bldP (fun i => ([(0, 1), (1, 2), (3, 2), (5, 1), (6, 1), (7, 7)] : List (Nat × Nat))[i]?) [.int .i64 0, .int .i64 0, .int .i64 0, .int .i64 0, .int .i64 0, .slice none 0 0, .int .i64 0, .int .i64 0, .int .i64 0, .int .i64 0, .int .i64 0, .int .i64 0, .int .i64 0, .int .i64 0] [(0, (nI 1)), (1, v15), (2, v17_1), (3, v19_2)]) fun v20_2=>
sT W T_inst_Msg v12_2 v20_2 fun _ W=>
J1 [v0, v1, v4, v7, v12_2] W))
theorem S.lead_Propose.call {R : VK} {v0 v1 v2 v3 v4 : Value} {W : World} (h : S.lead_Propose.body R v0 v1 v2 v3 v4 W) : callK PR F_lead_Propose [v0, v1, v2, v3, v4] R W :=
callS (fn := Tryz.f29) (h := (.t (.at [0, 1, 4, 7, 12] .n (.two (.t (.two (.t .n) .n)) (.two (.t (.t (.two (.t .n) .n))) (.t (.t (.t .n)))))))) h
def S.lead_Recover.body (R : VK) (v0 v1 v2 v3 : Value) (W : World) : Prop :=
eF W (Instr.box T_api_Dot v2) fun v6 W=>
lD W T_api_Dot v6 fun v15 W=>
oK (bldP (fun i => ([(0, 1), (1, 2), (3, 2), (5, 1), (6, 1), (7, 7)] : List (Nat × Nat))[i]?) [.int .i64 0, .int .i64 0, .int .i64 0, .int .i64 0, .int .i64 0, .slice none 0 0, .int .i64 0, .int .i64 0, .int .i64 0, .int .i64 0, .int .i64 0, .int .i64 0, .int .i64 0, .int .i64 0] [(0, (nI 4)), (1, v15)]) fun v16=>
eF W (Instr.alloc T_inst_Msg true (.tuple #[])) fun v10 W=>
sT W T_inst_Msg v10 v16 fun _ W=>
cL W F_lead_good [v0, v1] fun v19 W=>
oK (unP .not v19) fun v20=>
gA W v20 false 0 v6 fun v22 W=>
gL W v20 false T_int v22 fun v23 W=>
gX W v20 false v0 fun v24 W=>
gP W v20 false (binP .geq v23 v24) fun v25 W=>
oK (pickP v20 (.bool true) v25) fun v26=>
gL W v26 false T_inst_Msg v10 fun v28 W=>
gC W v26 false F_inst_May [v28] fun v29 W=>
gP W v26 false (unP .not v29) fun v30 W=>
oK (pickP v26 (.bool true) v30) fun v31=>
ifK v31 (
R (.tuple #[(.pointer none), (nI 1)]) W) (
lD W T_api_Dot v6 fun v33 W=>
cL W F_inst_Table_Rec [v3, v33] fun v34 W=>
eF W (Instr.alloc T_inst_Rec true (.tuple #[])) fun v11 W=>
sT W T_inst_Rec v11 v34 fun _ W=>
oA 0 v11 fun v35=>
lD W T_int v35 fun v36 W=>
oK (binP .eql v36 (nI 3)) fun v37=>
ifK v37 (
R (.tuple #[(.pointer none), (nI 5)]) W) (
oA 10 v11 fun v39=>
lD W T_ballot_Ballot v39 fun v40 W=>
cL W F_ballot_Next [v40, v1] fun v42 W=>
oK (extP 0 v42) fun v43=>
oK (extP 1 v42) fun v44=>
eF W (Instr.alloc T_ballot_Ballot true (.tuple #[])) fun v12 W=>
sT W T_ballot_Ballot v12 v43 fun _ W=>
oK (binP .neq v44 (nI 0)) fun v46=>
ifK v46 (
R (.tuple #[(.pointer none), v44]) W) (
lD W T_ballot_Ballot v12 fun v48 W=>
oA 3 v10 fun v49=>
sT W T_ballot_Ballot v49 v48 fun _ W=>
oK (bldP (fun i => ([(0, 1), (1, 1), (2, 1), (3, 14), (17, 1), (18, 1), (19, 1), (20, 7), (27, 14)] : List (Nat × Nat))[i]?) [.int .i64 0, .int .i64 0, .pointer none, .int .i64 0, .int .i64 0, .int .i64 0, .int .i64 0, .int .i64 0, .slice none 0 0, .int .i64 0, .int .i64 0, .int .i64 0, .int .i64 0, .int .i64 0, .int .i64 0, .int .i64 0, .int .i64 0, .int .i64 0, .bool false, .bool false, .pointer none, .pointer none, .pointer none, .pointer none, .pointer none, .pointer none, .pointer none, .int .i64 0, .slice none 0 0, .int .i64 0, .int .i64 0, .int .i64 0, .int .i64 0, .int .i64 0, .int .i64 0, .int .i64 0, .int .i64 0, .int .i64 0, .int .i64 0, .int .i64 0, .int .i64 0] [(0, v0), (1, v1), (2, v3)]) fun v53=>
eF W (Instr.box T_lead_Lead v53) fun v54 W=>
lD W T_inst_Msg v10 fun v56 W=>
cL W F_lead_Lead_begin [v54, (nI 4), v56] fun v57 W=>
R (.tuple #[v54, (nI 0)]) W)))
theorem S.lead_Recover.call {R : VK} {v0 v1 v2 v3 : Value} {W : World} (h : S.lead_Recover.body R v0 v1 v2 v3 W) : callK PR F_lead_Recover [v0, v1, v2, v3] R W :=
callS (fn := Tryz.f31) (h := (.t (.t (.two (.t (.two (.t .n) .n)) (.t (.two (.t (.two (.t .n) .n)) (.t (.two (.t (.two (.t .n) .n)) (.t (.t (.t (.t .n)))))))))))) h
def S.lead_Lead_majority.body (R : VK) (v0 : Value) (W : World) : Prop :=
oK (nilP v0) fun v6=>
oA 0 v6 fun v7=>
lD (tick W) T_int v7 fun v8 W=>
oK (binP .quo v8 (nI 2)) fun v9=>
oK (binP .add v9 (nI 1)) fun v10=>
cL W F_lead_Lead_count [v0] fun v4 W=>
sB W [hL 5 T_int v7 v8] fun W=>
oK (binP .geq v4 v10) fun v11=>
R v11 W
theorem S.lead_Lead_majority.call {R : VK} {v0 : Value} {W : World} (h : S.lead_Lead_majority.body R v0 W) : callK PR F_lead_Lead_majority [v0] R W :=
callS (fn := Tryz.f32) (h := (.t (.t .n))) h
def S.lead_Lead_accept.j1 (R : VK) (x0 x2 : Value) (W : World) : Prop :=
lD W T_inst_Msg x2 fun v37 W=>
cL W F_lead_Lead_begin [x0, (nI 2), v37] fun v38 W=>
R (.tuple #[]) W
def S.lead_Lead_accept.j2 (K1 : LK) (x0 x2 x13 x14 : Value) (W : World) : Prop :=
oK (binP .add x14 (nI 1)) fun v35=>
K1 [x0, x2, x13, v35] W
def S.lead_Lead_accept.l1 (J1 : LK) (K1 : LK) (x0 x2 x13 x14 : Value) (W : World) : Prop :=
oK (binP .lss x14 (nI 7)) fun v15=>
ifK v15 (
joinK (fun s W => S.lead_Lead_accept.j2 K1 (nthv s 0) (nthv s 1) (nthv s 2) (nthv s 3) W) (fun J2 =>
oK (idxV 7 false 1 x13 x14) fun v16=>
oK (eqP (.pointer T_inst_Rec) .neq v16 (.pointer none)) fun v18=>
ifK v18 (
oA 6 x2 fun v19=>
lD (tick W) T_int64 v19 fun v20 W=>
oK (nilP v16) fun v22=>
oA 2 v22 fun v23=>
lD W T_int64 v23 fun v24 W=>
oK (foldP max2P [v20, v24]) fun v25=>
oA 6 x2 fun v26=>
sT W T_int64 v26 v25 fun _ W=>
oA 7 x2 fun v27=>
lD (tick W) T_vec_Vec v27 fun v28 W=>
oK (nilP v16) fun v30=>
oA 3 v30 fun v31=>
lD W T_vec_Vec v31 fun v32 W=>
cL W F_vec_Merge [v28, v32] fun v33 W=>
oA 7 x2 fun v34=>
sT W T_vec_Vec v34 v33 fun _ W=>
J2 [x0, x2, x13, x14] W) (
J2 [x0, x2, x13, x14] W))) (
J1 [x0, x2] W)
def S.lead_Lead_accept.body (R : VK) (v0 : Value) (W : World) : Prop :=
oK (nilP v0) fun v6=>
oA 3 v6 fun v7=>
lD W T_inst_Msg v7 fun v8 W=>
eF W (Instr.alloc T_inst_Msg true (.tuple #[])) fun v2 W=>
sT W T_inst_Msg v2 v8 fun _ W=>
oA 0 v2 fun v9=>
sT W T_int v9 (nI 2) fun _ W=>
joinK (fun s W => S.lead_Lead_accept.j1 R (nthv s 0) (nthv s 1) W) (fun J1 =>
oK (nilP v0) fun v11=>
oA 20 v11 fun v12=>
lD W T_a7_p_inst_Rec v12 fun v13 W=>
loopK (fun K1 s W => S.lead_Lead_accept.l1 J1 K1 (nthv s 0) (nthv s 1) (nthv s 2) (nthv s 3) W) [v0, v2, v13, (nI 0)] W)
theorem S.lead_Lead_accept.call {R : VK} {v0 : Value} {W : World} (h : S.lead_Lead_accept.body R v0 W) : callK PR F_lead_Lead_accept [v0] R W :=
callS (fn := Tryz.f33) (h := (.t (.t (.at [0, 2] (.t (.at [0, 2, 13, 14] (.t (.two (.t .n) (.at [0, 2, 13, 14] (.t (.t (.two (.t .n) .n))) .n))) .n)) .n)))) h
def S.lead_Lead_Got.body (R : VK) (v0 v1 v2 : Value) (W : World) : Prop :=
eF W (Instr.box T_inst_Answer v2) fun v5 W=>
oK (nilP v0) fun v9=>
oA 17 v9 fun v10=>
lD W T_int v10 fun v11 W=>
oK (binP .eql v11 (nI 3)) fun v12=>
gX W v12 false v0 fun v14 W=>
gP W v12 false (nilP v14) fun v15 W=>
gA W v12 false 17 v15 fun v16 W=>
gL W v12 false T_int v16 fun v17 W=>
gP W v12 false (binP .eql v17 (nI 5)) fun v18 W=>
oK (pickP v12 (.bool true) v18) fun v19=>
gX W v19 false v1 fun v21 W=>
gP W v19 false (binP .lss v21 (nI 0)) fun v22 W=>
oK (pickP v19 (.bool true) v22) fun v23=>
gX W v23 false v1 fun v25 W=>
gX W v23 false v0 fun v26 W=>
gP W v23 false (nilP v26) fun v27 W=>
gA W v23 false 0 v27 fun v28 W=>
gL W v23 false T_int v28 fun v29 W=>
gP W v23 false (binP .geq v25 v29) fun v30 W=>
oK (pickP v23 (.bool true) v30) fun v31=>
gX W v31 false v1 fun v33 W=>
gX W v31 false v0 fun v34 W=>
gP W v31 false (nilP v34) fun v35 W=>
gA W v31 false 1 v35 fun v36 W=>
gL W v31 false T_int v36 fun v37 W=>
gP W v31 false (binP .eql v33 v37) fun v38 W=>
oK (pickP v31 (.bool true) v38) fun v39=>
gX W v39 false v0 fun v41 W=>
gX W v39 false v1 fun v42 W=>
gP W v39 false (nilP v41) fun v43 W=>
gA W v39 false 20 v43 fun v44 W=>
gP W v39 false (idxA 7 1 v44 v42) fun v45 W=>
gL W v39 false T_p_inst_Rec v45 fun v46 W=>
gP W v39 false (eqP (.pointer T_inst_Rec) .neq v46 (.pointer none)) fun v47 W=>
oK (pickP v39 (.bool true) v47) fun v48=>
ifK v48 (
R (.bool false) W) (
oA 0 v5 fun v50=>
lD (tick W) T_bool v50 fun v51 W=>
gA W v51 true 1 v5 fun v53 W=>
gL W v51 true T_ballot_Ballot v53 fun v54 W=>
gX W v51 true v0 fun v55 W=>
gP W v51 true (nilP v55) fun v56 W=>
gA W v51 true 3 v56 fun v57 W=>
gA W v51 true 3 v57 fun v58 W=>
gL W v51 true T_ballot_Ballot v58 fun v59 W=>
gR W v51 true (aggEq .neq T_ballot_Ballot v54 v59) fun v60 W=>
gX W v51 true v60 fun v61 W=>
gX W v61 false v0 fun v62 W=>
gA W v61 false 3 v5 fun v63 W=>
gL W v61 false T_inst_Rec v63 fun v64 W=>
gD W v61 false (fun k W => callK PR F_lead_Lead_fits [v62, v64] k W) fun v65 W=>
gP W v61 false (unP .not v65) fun v66 W=>
gP W v51 true (pickP v61 (.bool true) v66) fun v67 W=>
oK (pickP v51 v67 (.bool false)) fun v68=>
ifK v68 (
R (.bool false) W) (
oA 3 v5 fun v70=>
oA 0 v70 fun v71=>
lD W T_int v71 fun v72 W=>
oK (binP .eql v72 (nI 3)) fun v73=>
ifK v73 (
oA 3 v5 fun v75=>
lD W T_inst_Rec v75 fun v76 W=>
cL W F_lead_Lead_decide [v0, v76, (.bool false)] fun v77 W=>
R (.bool true) W) (
oA 0 v5 fun v79=>
lD W T_bool v79 fun v80 W=>
oK (unP .not v80) fun v81=>
ifK v81 (
oA 1 v5 fun v82=>
lD (tick W) T_ballot_Ballot v82 fun v83 W=>
oK (nilP v0) fun v85=>
oA 3 v85 fun v86=>
oA 3 v86 fun v87=>
lD W T_ballot_Ballot v87 fun v88 W=>
cL W F_ballot_Cmp [v83, v88] fun v89 W=>
oK (binP .leq v89 (nI 0)) fun v90=>
ifK v90 (
R (.bool false) W) (
oK (nilP v0) fun v92=>
oA 17 v92 fun v93=>
sT W T_int v93 (nI 5) fun _ W=>
R (.bool true) W)) (
oA 3 v5 fun v94=>
lD W T_inst_Rec v94 fun v95 W=>
eF W (Instr.alloc T_inst_Rec true (.tuple #[])) fun v7 W=>
sT W T_inst_Rec v7 v95 fun _ W=>
oA 1 v7 fun v96=>
lD W T_s_uint8 v96 fun v97 W=>
cL W F_bytes_Clone [v97] fun v98 W=>
oA 1 v7 fun v99=>
sT W T_s_uint8 v99 v98 fun _ W=>
oK (nilP v0) fun v102=>
oA 20 v102 fun v103=>
oK (idxA 7 1 v103 v1) fun v104=>
sT W T_p_inst_Rec v104 v7 fun _ W=>
oK (nilP v0) fun v106=>
oA 17 v106 fun v107=>
lD W T_int v107 fun v108 W=>
oK (binP .eql v108 (nI 1)) fun v110=>
ifK v110 (
oK (nilP v0) fun v113=>
oA 19 v113 fun v114=>
lD (tick W) T_bool v114 fun v115 W=>
gA W v115 false 2 v7 fun v117 W=>
gL W v115 false T_int64 v117 fun v118 W=>
gX W v115 false v0 fun v119 W=>
gP W v115 false (nilP v119) fun v120 W=>
gA W v115 false 27 v120 fun v121 W=>
gA W v115 false 2 v121 fun v122 W=>
gL W v115 false T_int64 v122 fun v123 W=>
gP W v115 false (binP .neq v118 v123) fun v124 W=>
oK (pickP v115 (.bool true) v124) fun v125=>
gA W v125 false 3 v7 fun v127 W=>
gL W v125 false T_vec_Vec v127 fun v128 W=>
gX W v125 false v0 fun v129 W=>
gP W v125 false (nilP v129) fun v130 W=>
gA W v125 false 27 v130 fun v131 W=>
gA W v125 false 3 v131 fun v132 W=>
gL W v125 false T_vec_Vec v132 fun v133 W=>
gR W v125 false (aggEq .neq T_vec_Vec v128 v133) fun v134 W=>
oK (pickP v125 (.bool true) v134) fun v135=>
oK (nilP v0) fun v136=>
oA 19 v136 fun v137=>
sT W T_bool v137 v135 fun _ W=>
cL W F_lead_Lead_heard [v0] fun v139 W=>
R (.bool true) W) (
oK (binP .eql v108 (nI 2)) fun v141=>
ifK v141 (
cL W F_lead_Lead_majority [v0] fun v143 W=>
ifK v143 (
oK (nilP v0) fun v146=>
oA 3 v146 fun v147=>
oA 5 v147 fun v148=>
lD (tick W) T_s_uint8 v148 fun v149 W=>
oK (nilP v0) fun v151=>
oA 3 v151 fun v152=>
oA 6 v152 fun v153=>
lD W T_int64 v153 fun v154 W=>
oK (nilP v0) fun v156=>
oA 3 v156 fun v157=>
oA 7 v157 fun v158=>
lD W T_vec_Vec v158 fun v159 W=>
oK (bldP (fun i => ([(0, 1), (1, 1), (2, 1), (3, 7), (10, 2), (12, 2)] : List (Nat × Nat))[i]?) [.int .i64 0, .slice none 0 0, .int .i64 0, .int .i64 0, .int .i64 0, .int .i64 0, .int .i64 0, .int .i64 0, .int .i64 0, .int .i64 0, .int .i64 0, .int .i64 0, .int .i64 0, .int .i64 0] [(1, v149), (2, v154), (3, v159)]) fun v160=>
cL W F_lead_Lead_decide [v0, v160, (.bool false)] fun v161 W=>
R (.bool true) W) (
R (.bool true) W)) (
oK (binP .eql v108 (nI 4)) fun v163=>
ifK v163 (
cL W F_lead_Lead_majority [v0] fun v165 W=>
ifK v165 (
cL W F_lead_Lead_prepared [v0] fun v167 W=>
R (.bool true) W) (
R (.bool true) W)) (
R (.bool true) W)))))))
theorem S.lead_Lead_Got.call {R : VK} {v0 v1 v2 : Value} {W : World} (h : S.lead_Lead_Got.body R v0 v1 v2 W) : callK PR F_lead_Lead_Got [v0, v1, v2] R W :=
callS (fn := Tryz.f35) (h := (.t (.two (.t (.two (.t .n) .n)) (.two (.t (.two (.t .n) (.t (.two (.t (.t .n)) (.t (.two (.two (.t (.two (.t .n) .n)) (.t (.t .n))) .n)))))) (.t (.t (.t (.two (.t (.t (.two (.t .n) (.t (.two (.t (.t .n)) (.t (.two (.t (.t .n)) .n))))))) (.t .n))))))))) h
def S.lead_Lead_Phase.body (R : VK) (v0 : Value) (W : World) : Prop :=
oK (nilP v0) fun v4=>
oA 17 v4 fun v5=>
lD W T_int v5 fun v6 W=>
R v6 W
theorem S.lead_Lead_Phase.call {R : VK} {v0 : Value} {W : World} (h : S.lead_Lead_Phase.body R v0 W) : callK PR F_lead_Lead_Phase [v0] R W :=
callS (fn := Tryz.f37) (h := (.t (.t .n))) h
def S.lead_good.body (R : VK) (v0 v1 : Value) (W : World) : Prop :=
oK (binP .geq v0 (nI 3)) fun v6=>
gX W v6 true v0 fun v8 W=>
gP W v6 true (binP .leq v8 (nI 7)) fun v9 W=>
oK (pickP v6 v9 (.bool false)) fun v10=>
gX W v10 true v1 fun v12 W=>
gP W v10 true (binP .geq v12 (nI 0)) fun v13 W=>
oK (pickP v10 v13 (.bool false)) fun v14=>
gX W v14 true v1 fun v16 W=>
gX W v14 true v0 fun v17 W=>
gP W v14 true (binP .lss v16 v17) fun v18 W=>
oK (pickP v14 v18 (.bool false)) fun v19=>
R v19 W
theorem S.lead_good.call {R : VK} {v0 v1 : Value} {W : World} (h : S.lead_good.body R v0 v1 W) : callK PR F_lead_good [v0, v1] R W :=
callS (fn := Tryz.f57) (h := (.t (.t .n))) h
def S.lead_Lead_begin.j1 (R : VK) (x0 x1 x6 : Value) (W : World) : Prop :=
oA 3 x6 fun v62=>
oA 0 v62 fun v63=>
lD W T_int v63 fun v64 W=>
oK (binP .eql v64 (nI 3)) fun v65=>
ifK v65 (
oA 3 x6 fun v67=>
lD W T_inst_Rec v67 fun v68 W=>
cL W F_lead_Lead_decide [x0, v68, (.bool false)] fun v69 W=>
R (.tuple #[]) W) (
oA 0 x6 fun v71=>
lD W T_bool v71 fun v72 W=>
oK (unP .not v72) fun v73=>
ifK v73 (
oK (nilP x0) fun v75=>
oA 17 v75 fun v76=>
sT W T_int v76 (nI 5) fun _ W=>
R (.tuple #[]) W) (
oA 3 x6 fun v33=>
lD W T_inst_Rec v33 fun v34 W=>
eF W (Instr.alloc T_inst_Rec true (.tuple #[])) fun v8 W=>
sT W T_inst_Rec v8 v34 fun _ W=>
lD W T_inst_Rec v8 fun v36 W=>
oK (nilP x0) fun v37=>
oA 27 v37 fun v38=>
sT W T_inst_Rec v38 v36 fun _ W=>
oK (nilP x0) fun v41=>
oA 1 v41 fun v42=>
lD (tick W) T_int v42 fun v43 W=>
oK (nilP x0) fun v44=>
oA 20 v44 fun v45=>
oK (idxA 7 1 v45 v43) fun v46=>
sT W T_p_inst_Rec v46 v8 fun _ W=>
oK (binP .eql x1 (nI 1)) fun v48=>
ifK v48 (
oA 2 v8 fun v51=>
lD W T_int64 v51 fun v52 W=>
oA 3 v8 fun v53=>
lD W T_vec_Vec v53 fun v54 W=>
oK (nilP x0) fun v55=>
oA 3 v55 fun v56=>
oA 6 v56 fun v57=>
sT W T_int64 v57 v52 fun _ W=>
oK (nilP x0) fun v58=>
oA 3 v58 fun v59=>
oA 7 v59 fun v60=>
sT W T_vec_Vec v60 v54 fun _ W=>
R (.tuple #[]) W) (
R (.tuple #[]) W)))
def S.lead_Lead_begin.body (R : VK) (v0 v1 v2 : Value) (W : World) : Prop :=
eF W (Instr.box T_inst_Msg v2) fun v5 W=>
lD (tick W) T_inst_Msg v5 fun v12 W=>
oK (nilP v0) fun v13=>
oA 17 v13 fun v14=>
sT W T_int v14 v1 fun _ W=>
sB W [hL 3 T_inst_Msg v5 v12] fun W=>
oK (nilP v0) fun v15=>
oA 3 v15 fun v16=>
sT W T_inst_Msg v16 v12 fun _ W=>
oK (nilP v0) fun v18=>
oA 19 v18 fun v19=>
sT W T_bool v19 (.bool false) fun _ W=>
oK (bldP (fun i => some (i * 1, 1)) [.pointer none, .pointer none, .pointer none, .pointer none, .pointer none, .pointer none, .pointer none] []) fun v21=>
oK (nilP v0) fun v22=>
oA 20 v22 fun v23=>
sT W T_a7_p_inst_Rec v23 v21 fun _ W=>
joinK (fun s W => S.lead_Lead_begin.j1 R (nthv s 0) (nthv s 1) (nthv s 2) W) (fun J1 =>
oK (nilP v0) fun v26=>
oA 2 v26 fun v27=>
lD (tick W) T_p_inst_Table v27 fun v28 W=>
lD W T_inst_Msg v5 fun v29 W=>
(cL W F_inst_Table_Do [v28, v29] fun v30 W=>
oK (extP 0 v30) fun v31=>
oK (extP 1 v30) fun v32=>
eF W (Instr.alloc T_inst_Answer true (.tuple #[])) fun v6 W=>
sT W T_inst_Answer v6 v31 fun _ W=>
J1 [v0, v1, v6] W) ∧ (eF W (Instr.alloc T_inst_Answer true (.tuple #[])) fun v6_1 W=>
sB W [hL 4 T_inst_Msg v5 v29, hL 3 T_p_inst_Table v27 v28] fun W=>
cL W F_inst_Table_Do [v28, v29] fun v30_1 W=>
oK (extP 0 v30_1) fun v31_1=>
oK (extP 1 v30_1) fun v32_1=>
sT W T_inst_Answer v6_1 v31_1 fun _ W=>
J1 [v0, v1, v6_1] W))
theorem S.lead_Lead_begin.call {R : VK} {v0 v1 v2 : Value} {W : World} (h : S.lead_Lead_begin.body R v0 v1 v2 W) : callK PR F_lead_Lead_begin [v0, v1, v2] R W :=
callS (fn := Tryz.f59) (h := (.t (.t (.t (.t (.at [0, 1, 6] .n (.t (.t (.t (.t (.t (.t (.t (.t (.t .n))))))))))))))) h
def S.lead_Lead_Dot.body (R : VK) (v0 : Value) (W : World) : Prop :=
eF W (Instr.alloc T_api_Dot true (.tuple #[])) fun v2 W=>
oK (nilP v0) fun v4=>
oA 3 v4 fun v5=>
oA 1 v5 fun v6=>
lD W T_api_Dot v6 fun v7 W=>
sT W T_api_Dot v2 v7 fun _ W=>
rdK PR (Instr.loadAt T_api_Dot v2) (fun r0 W =>
R r0 W) W
theorem S.lead_Lead_Dot.call {R : VK} {v0 : Value} {W : World} (h : S.lead_Lead_Dot.body R v0 W) : callK PR F_lead_Lead_Dot [v0] R W :=
callS (fn := Tryz.f60) (h := (.t (.t .n))) h
def S.lead_Lead_count.j1 (R : VK) (x3 : Value) (W : World) : Prop :=
R x3 W
def S.lead_Lead_count.j2 (K1 : LK) (x3 x9 x10 : Value) (W : World) : Prop :=
oK (binP .add x10 (nI 1)) fun v17=>
K1 [x3, x9, v17] W
def S.lead_Lead_count.l1 (J1 : LK) (K1 : LK) (x3 x9 x10 : Value) (W : World) : Prop :=
oK (binP .lss x10 (nI 7)) fun v11=>
ifK v11 (
joinK (fun s W => S.lead_Lead_count.j2 K1 (nthv s 0) (nthv s 1) (nthv s 2) W) (fun J2 =>
oK (idxV 7 false 1 x9 x10) fun v12=>
oK (eqP (.pointer T_inst_Rec) .neq v12 (.pointer none)) fun v14=>
ifK v14 (
oK (binP .add x3 (nI 1)) fun v16=>
J2 [v16, x9, x10] W) (
J2 [x3, x9, x10] W))) (
J1 [x3] W)
def S.lead_Lead_count.body (R : VK) (v0 : Value) (W : World) : Prop :=
joinK (fun s W => S.lead_Lead_count.j1 R (nthv s 0) W) (fun J1 =>
oK (nilP v0) fun v7=>
oA 20 v7 fun v8=>
lD W T_a7_p_inst_Rec v8 fun v9 W=>
loopK (fun K1 s W => S.lead_Lead_count.l1 J1 K1 (nthv s 0) (nthv s 1) (nthv s 2) W) [(nI 0), v9, (nI 0)] W)
theorem S.lead_Lead_count.call {R : VK} {v0 : Value} {W : World} (h : S.lead_Lead_count.body R v0 W) : callK PR F_lead_Lead_count [v0] R W :=
callS (fn := Tryz.f62) (h := (.t (.t (.at [3] (.t (.at [3, 9, 10] (.t (.two (.t .n) (.at [3, 9, 10] (.t (.t (.t .n))) .n))) .n)) (.t .n))))) h
def S.lead_Lead_Msg.body (R : VK) (v0 : Value) (W : World) : Prop :=
eF W (Instr.alloc T_inst_Msg true (.tuple #[])) fun v2 W=>
oK (nilP v0) fun v5=>
oA 17 v5 fun v6=>
lD W T_int v6 fun v7 W=>
oK (binP .eql v7 (nI 5)) fun v8=>
ifK v8 (
oK (bldP (fun i => ([(0, 1), (1, 2), (3, 2), (5, 1), (6, 1), (7, 7)] : List (Nat × Nat))[i]?) [.int .i64 0, .int .i64 0, .int .i64 0, .int .i64 0, .int .i64 0, .slice none 0 0, .int .i64 0, .int .i64 0, .int .i64 0, .int .i64 0, .int .i64 0, .int .i64 0, .int .i64 0, .int .i64 0] []) fun v9=>
sT W T_inst_Msg v2 v9 fun _ W=>
rdK PR (Instr.loadAt T_inst_Msg v2) (fun r0 W =>
R r0 W) W) (
oK (nilP v0) fun v11=>
oA 3 v11 fun v12=>
lD W T_inst_Msg v12 fun v13 W=>
eF W (Instr.alloc T_inst_Msg true (.tuple #[])) fun v3 W=>
sT W T_inst_Msg v3 v13 fun _ W=>
oA 5 v3 fun v14=>
lD W T_s_uint8 v14 fun v15 W=>
cL W F_bytes_Clone [v15] fun v16 W=>
oA 5 v3 fun v17=>
sT W T_s_uint8 v17 v16 fun _ W=>
lD W T_inst_Msg v3 fun v18 W=>
sT W T_inst_Msg v2 v18 fun _ W=>
rdK PR (Instr.loadAt T_inst_Msg v2) (fun r0 W =>
R r0 W) W)
theorem S.lead_Lead_Msg.call {R : VK} {v0 : Value} {W : World} (h : S.lead_Lead_Msg.body R v0 W) : callK PR F_lead_Lead_Msg [v0] R W :=
callS (fn := Tryz.f64) (h := (.t (.two (.t (.two (.t .n) .n)) (.t (.t (.t .n)))))) h
def S.lead_Lead_fits.body (R : VK) (v0 v1 : Value) (W : World) : Prop :=
eF W (Instr.box T_inst_Rec v1) fun v3 W=>
oK (nilP v0) fun v6=>
oA 17 v6 fun v7=>
lD W T_int v7 fun v8 W=>
oK (binP .eql v8 (nI 1)) fun v10=>
ifK v10 (
oA 0 v3 fun v11=>
lD (tick W) T_int v11 fun v12 W=>
oK (binP .eql v12 (nI 1)) fun v13=>
gA W v13 true 12 v3 fun v15 W=>
gL W v13 true T_ballot_Ballot v15 fun v16 W=>
gX W v13 true v0 fun v17 W=>
gP W v13 true (nilP v17) fun v18 W=>
gA W v13 true 3 v18 fun v19 W=>
gA W v13 true 3 v19 fun v20 W=>
gL W v13 true T_ballot_Ballot v20 fun v21 W=>
gR W v13 true (aggEq .eql T_ballot_Ballot v16 v21) fun v22 W=>
oK (pickP v13 v22 (.bool false)) fun v23=>
R v23 W) (
oK (binP .eql v8 (nI 2)) fun v25=>
ifK v25 (
oA 0 v3 fun v26=>
lD (tick W) T_int v26 fun v27 W=>
oK (binP .eql v27 (nI 2)) fun v28=>
gA W v28 true 12 v3 fun v30 W=>
gL W v28 true T_ballot_Ballot v30 fun v31 W=>
gX W v28 true v0 fun v32 W=>
gP W v28 true (nilP v32) fun v33 W=>
gA W v28 true 3 v33 fun v34 W=>
gA W v28 true 3 v34 fun v35 W=>
gL W v28 true T_ballot_Ballot v35 fun v36 W=>
gR W v28 true (aggEq .eql T_ballot_Ballot v31 v36) fun v37 W=>
oK (pickP v28 v37 (.bool false)) fun v38=>
R v38 W) (
R (.bool true) W))
theorem S.lead_Lead_fits.call {R : VK} {v0 v1 : Value} {W : World} (h : S.lead_Lead_fits.body R v0 v1 W) : callK PR F_lead_Lead_fits [v0, v1] R W :=
callS (fn := Tryz.f65) (h := (.t (.two (.t (.t (.two (.t .n) (.t (.two (.t .n) .n))))) (.t .n)))) h
def S.lead_Lead_decide.body (R : VK) (v0 v1 v2 : Value) (W : World) : Prop :=
eF W (Instr.box T_inst_Rec v1) fun v4 W=>
oK (nilP v0) fun v9=>
oA 17 v9 fun v10=>
sT W T_int v10 (nI 3) fun _ W=>
oK (nilP v0) fun v11=>
oA 18 v11 fun v12=>
sT W T_bool v12 v2 fun _ W=>
oK (nilP v0) fun v15=>
oA 3 v15 fun v16=>
oA 1 v16 fun v17=>
lD (tick W) T_api_Dot v17 fun v18 W=>
oK (nilP v0) fun v20=>
oA 3 v20 fun v21=>
oA 3 v21 fun v22=>
lD W T_ballot_Ballot v22 fun v23 W=>
oA 1 v4 fun v24=>
lD W T_s_uint8 v24 fun v25 W=>
oA 2 v4 fun v27=>
lD W T_int64 v27 fun v28 W=>
oA 3 v4 fun v29=>
lD W T_vec_Vec v29 fun v30 W=>
cL W F_bytes_Clone [v25] fun v26 W=>
sB W [hL 17 T_vec_Vec v29 v30, hL 15 T_int64 v27 v28, hL 10 T_ballot_Ballot v22 v23, hL 5 T_api_Dot v17 v18] fun W=>
oK (bldP (fun i => ([(0, 1), (1, 2), (3, 2), (5, 1), (6, 1), (7, 7)] : List (Nat × Nat))[i]?) [.int .i64 0, .int .i64 0, .int .i64 0, .int .i64 0, .int .i64 0, .slice none 0 0, .int .i64 0, .int .i64 0, .int .i64 0, .int .i64 0, .int .i64 0, .int .i64 0, .int .i64 0, .int .i64 0] [(0, (nI 3)), (1, v18), (2, v23), (3, v26), (4, v28), (5, v30)]) fun v31=>
oK (nilP v0) fun v32=>
oA 3 v32 fun v33=>
sT W T_inst_Msg v33 v31 fun _ W=>
oK (nilP v0) fun v35=>
oA 2 v35 fun v36=>
lD (tick W) T_p_inst_Table v36 fun v37 W=>
oK (nilP v0) fun v39=>
oA 3 v39 fun v40=>
lD W T_inst_Msg v40 fun v41 W=>
cL W F_inst_Table_Do [v37, v41] fun v42 W=>
R (.tuple #[]) W
theorem S.lead_Lead_decide.call {R : VK} {v0 v1 v2 : Value} {W : World} (h : S.lead_Lead_decide.body R v0 v1 v2 W) : callK PR F_lead_Lead_decide [v0, v1, v2] R W :=
callS (fn := Tryz.f66) (h := (.t (.t (.t .n)))) h
def S.lead_Lead_heard.body (R : VK) (v0 : Value) (W : World) : Prop :=
oK (nilP v0) fun v6=>
oA 0 v6 fun v7=>
lD (tick W) T_int v7 fun v8 W=>
cL W F_lead_Lead_count [v0] fun v4 W=>
sB W [hL 5 T_int v7 v8] fun W=>
oK (binP .eql v4 v8) fun v9=>
gX W v9 true v0 fun v11 W=>
gP W v9 true (nilP v11) fun v12 W=>
gA W v9 true 19 v12 fun v13 W=>
gL W v9 true T_bool v13 fun v14 W=>
gP W v9 true (unP .not v14) fun v15 W=>
oK (pickP v9 v15 (.bool false)) fun v16=>
gX W v16 true v0 fun v18 W=>
gP W v16 true (nilP v18) fun v19 W=>
gA W v16 true 3 v19 fun v20 W=>
gA W v16 true 3 v20 fun v21 W=>
gA W v16 true 0 v21 fun v22 W=>
gL W v16 true T_int64 v22 fun v23 W=>
gP W v16 true (binP .eql v23 (nI 0)) fun v24 W=>
oK (pickP v16 v24 (.bool false)) fun v25=>
ifK v25 (
oK (nilP v0) fun v28=>
oA 27 v28 fun v29=>
lD W T_inst_Rec v29 fun v30 W=>
cL W F_lead_Lead_decide [v0, v30, (.bool true)] fun v31 W=>
R (.tuple #[]) W) (
cL W F_lead_Lead_majority [v0] fun v34 W=>
gX W v34 true v0 fun v36 W=>
gP W v34 true (nilP v36) fun v37 W=>
gA W v34 true 19 v37 fun v38 W=>
gL W v34 true T_bool v38 fun v39 W=>
gX W v34 true v39 fun v40 W=>
gX W v40 false v0 fun v41 W=>
gP W v40 false (nilP v41) fun v42 W=>
gA W v40 false 3 v42 fun v43 W=>
gA W v40 false 3 v43 fun v44 W=>
gA W v40 false 0 v44 fun v45 W=>
gL W v40 false T_int64 v45 fun v46 W=>
gP W v40 false (binP .gtr v46 (nI 0)) fun v47 W=>
gP W v34 true (pickP v40 (.bool true) v47) fun v48 W=>
oK (pickP v34 v48 (.bool false)) fun v49=>
ifK v49 (
cL W F_lead_Lead_accept [v0] fun v51 W=>
R (.tuple #[]) W) (
R (.tuple #[]) W))
theorem S.lead_Lead_heard.call {R : VK} {v0 : Value} {W : World} (h : S.lead_Lead_heard.body R v0 W) : callK PR F_lead_Lead_heard [v0] R W :=
callS (fn := Tryz.f68) (h := (.t (.t (.t (.t .n))))) h
def S.lead_Lead_prepared.body (R : VK) (v0 : Value) (W : World) : Prop :=
eF W (Instr.box T_p_lead_Lead v0) fun v1 W=>
lD W T_p_lead_Lead v1 fun v6 W=>
oK (nilP v6) fun v7=>
oA 3 v7 fun v8=>
lD W T_inst_Msg v8 fun v9 W=>
eF W (Instr.alloc T_inst_Msg true (.tuple #[])) fun v2 W=>
sT W T_inst_Msg v2 v9 fun _ W=>
oA 0 v2 fun v10=>
sT W T_int v10 (nI 2) fun _ W=>
lD W T_p_lead_Lead v1 fun v12 W=>
cL W F_lead_Lead_greatest [v12, (nI 2)] fun v13 W=>
lD W T_p_lead_Lead v1 fun v14 W=>
cL W F_lead_Lead_greatest [v14, (nI 1)] fun v15 W=>
oK (eqP (.pointer T_inst_Rec) .neq v13 (.pointer none)) fun v33=>
ifK v33 (
vC W (.func (.func F_lead_Lead_prepared_1) #[] #[v2, v1]) [v13] fun v36 W=>
R (.tuple #[]) W) (
lD W T_p_lead_Lead v1 fun v38 W=>
cL W F_lead_Lead_alike [v38] fun v39 W=>
ifK v39 (
lD W T_p_lead_Lead v1 fun v41 W=>
cL W F_lead_Lead_first [v41] fun v42 W=>
vC W (.func (.func F_lead_Lead_prepared_1) #[] #[v2, v1]) [v42] fun v43 W=>
R (.tuple #[]) W) (
oK (eqP (.pointer T_inst_Rec) .neq v15 (.pointer none)) fun v46=>
ifK v46 (
oK (nilP v15) fun v48=>
oA 1 v48 fun v49=>
lD (tick W) T_s_uint8 v49 fun v50 W=>
oA 0 v2 fun v51=>
sT W T_int v51 (nI 1) fun _ W=>
sB W [hL 3 T_s_uint8 v49 v50] fun W=>
oA 5 v2 fun v52=>
sT W T_s_uint8 v52 v50 fun _ W=>
lD W T_p_lead_Lead v1 fun v53 W=>
lD W T_inst_Msg v2 fun v54 W=>
cL W F_lead_Lead_begin [v53, (nI 1), v54] fun v55 W=>
R (.tuple #[]) W) (
lD (tick W) T_p_lead_Lead v1 fun v17 W=>
oK (nilP v17) fun v18=>
oA 2 v18 fun v19=>
lD W T_p_inst_Table v19 fun v20 W=>
oA 1 v2 fun v21=>
lD W T_api_Dot v21 fun v22 W=>
cL W F_inst_Table_Would [v20, v22] fun v23 W=>
oK (extP 0 v23) fun v24=>
oK (extP 1 v23) fun v25=>
oA 6 v2 fun v26=>
sT W T_int64 v26 v24 fun _ W=>
oA 7 v2 fun v27=>
sT W T_vec_Vec v27 v25 fun _ W=>
lD W T_p_lead_Lead v1 fun v28 W=>
lD W T_inst_Msg v2 fun v29 W=>
cL W F_lead_Lead_begin [v28, (nI 2), v29] fun v30 W=>
R (.tuple #[]) W)))
theorem S.lead_Lead_prepared.call {R : VK} {v0 : Value} {W : World} (h : S.lead_Lead_prepared.body R v0 W) : callK PR F_lead_Lead_prepared [v0] R W :=
callS (fn := Tryz.f69) (h := (.t (.t (.t (.t (.t (.t (.t (.t (.t (.t (.t (.two (.t .n) (.t .n)))))))))))))) h
def S.lead_Lead_prepared_1.body (R : VK) (v0 v1 v2 : Value) (W : World) : Prop :=
oK (nilP v0) fun v5=>
oA 1 v5 fun v6=>
lD (tick W) T_s_uint8 v6 fun v7 W=>
oK (nilP v0) fun v9=>
oA 2 v9 fun v10=>
lD W T_int64 v10 fun v11 W=>
oK (nilP v0) fun v13=>
oA 3 v13 fun v14=>
lD W T_vec_Vec v14 fun v15 W=>
oA 5 v1 fun v16=>
sT W T_s_uint8 v16 v7 fun _ W=>
sB W [hL 11 T_vec_Vec v14 v15, hL 7 T_int64 v10 v11] fun W=>
oA 6 v1 fun v17=>
sT W T_int64 v17 v11 fun _ W=>
sB W [hL 11 T_vec_Vec v14 v15] fun W=>
oA 7 v1 fun v18=>
sT W T_vec_Vec v18 v15 fun _ W=>
lD W T_p_lead_Lead v2 fun v19 W=>
lD W T_inst_Msg v1 fun v20 W=>
cL W F_lead_Lead_begin [v19, (nI 2), v20] fun v21 W=>
R (.tuple #[]) W
theorem S.lead_Lead_prepared_1.call {R : VK} {v0 v1 v2 : Value} {W : World} (h : S.lead_Lead_prepared_1.body R v0 v1 v2 W) : callK PR F_lead_Lead_prepared_1 [v0, v1, v2] R W :=
callS (fn := Tryz.f93) (h := (.t .n)) h
def S.lead_Lead_greatest.j1 (R : VK) (x5 : Value) (W : World) : Prop :=
R x5 W
def S.lead_Lead_greatest.j2 (K1 : LK) (x1 x5 x11 x12 : Value) (W : World) : Prop :=
oK (binP .add x12 (nI 1)) fun v42=>
K1 [x1, x5, x11, v42] W
def S.lead_Lead_greatest.l1 (J1 : LK) (K1 : LK) (x1 x5 x11 x12 : Value) (W : World) : Prop :=
oK (binP .lss x12 (nI 7)) fun v13=>
ifK v13 (
joinK (fun s W => S.lead_Lead_greatest.j2 K1 (nthv s 0) (nthv s 1) (nthv s 2) (nthv s 3) W) (fun J2 =>
oK (idxV 7 false 1 x11 x12) fun v14=>
oK (eqP (.pointer T_inst_Rec) .neq v14 (.pointer none)) fun v16=>
gX (tick W) v16 true v14 fun v18 W=>
gP W v16 true (nilP v18) fun v19 W=>
gA W v16 true 0 v19 fun v20 W=>
gL W v16 true T_int v20 fun v21 W=>
gX W v16 true x1 fun v22 W=>
gP W v16 true (binP .eql v21 v22) fun v23 W=>
oK (pickP v16 v23 (.bool false)) fun v24=>
gX W v24 true x5 fun v26 W=>
gP W v24 true (eqP (.pointer T_inst_Rec) .eql v26 (.pointer none)) fun v27 W=>
gX W v24 true v27 fun v28 W=>
gX W v28 false v14 fun v29 W=>
gP W v28 false (nilP v29) fun v30 W=>
gA W v28 false 12 v30 fun v31 W=>
gL W v28 false T_ballot_Ballot v31 fun v32 W=>
gX W v28 false x5 fun v33 W=>
gP W v28 false (nilP v33) fun v34 W=>
gA W v28 false 12 v34 fun v35 W=>
gL W v28 false T_ballot_Ballot v35 fun v36 W=>
gD W v28 false (fun k W => callK PR F_ballot_Cmp [v32, v36] k W) fun v37 W=>
gP W v28 false (binP .gtr v37 (nI 0)) fun v38 W=>
gP W v24 true (pickP v28 (.bool true) v38) fun v39 W=>
oK (pickP v24 v39 (.bool false)) fun v40=>
ifK v40 (
J2 [x1, v14, x11, x12] W) (
J2 [x1, x5, x11, x12] W))) (
J1 [x5] W)
def S.lead_Lead_greatest.body (R : VK) (v0 v1 : Value) (W : World) : Prop :=
joinK (fun s W => S.lead_Lead_greatest.j1 R (nthv s 0) W) (fun J1 =>
oK (nilP v0) fun v9=>
oA 20 v9 fun v10=>
lD W T_a7_p_inst_Rec v10 fun v11 W=>
loopK (fun K1 s W => S.lead_Lead_greatest.l1 J1 K1 (nthv s 0) (nthv s 1) (nthv s 2) (nthv s 3) W) [v1, (.pointer none), v11, (nI 0)] W)
theorem S.lead_Lead_greatest.call {R : VK} {v0 v1 : Value} {W : World} (h : S.lead_Lead_greatest.body R v0 v1 W) : callK PR F_lead_Lead_greatest [v0, v1] R W :=
callS (fn := Tryz.f94) (h := (.t (.t (.at [5] (.t (.at [1, 5, 11, 12] (.t (.two (.t .n) (.at [1, 5, 11, 12] (.t (.t (.t .n))) .n))) .n)) (.t .n))))) h
def S.lead_Lead_alike.j1 (K1 : LK) (x0 x8 x9 : Value) (W : World) : Prop :=
oK (binP .add x9 (nI 1)) fun v51=>
K1 [x0, x8, v51] W
def S.lead_Lead_alike.l1 (R : VK) (K1 : LK) (x0 x8 x9 : Value) (W : World) : Prop :=
oK (binP .lss x9 (nI 7)) fun v10=>
ifK v10 (
joinK (fun s W => S.lead_Lead_alike.j1 K1 (nthv s 0) (nthv s 1) (nthv s 2) W) (fun J1 =>
oK (idxV 7 false 1 x8 x9) fun v11=>
oK (eqP (.pointer T_inst_Rec) .eql v11 (.pointer none)) fun v13=>
ifK v13 (
J1 [x0, x8, x9] W) (
oK (nilP v11) fun v15=>
oA 0 v15 fun v16=>
lD (tick W) T_int v16 fun v17 W=>
oK (binP .neq v17 (nI 1)) fun v18=>
gX W v18 false v11 fun v20 W=>
gP W v18 false (nilP v20) fun v21 W=>
gA W v18 false 12 v21 fun v22 W=>
gA W v18 false 0 v22 fun v23 W=>
gL W v18 false T_int64 v23 fun v24 W=>
gP W v18 false (binP .neq v24 (nI 0)) fun v25 W=>
oK (pickP v18 (.bool true) v25) fun v26=>
gX W v26 false v11 fun v28 W=>
gP W v26 false (nilP v28) fun v29 W=>
gA W v26 false 2 v29 fun v30 W=>
gL W v26 false T_int64 v30 fun v31 W=>
gX W v26 false x0 fun v32 W=>
gP W v26 false (nilP v32) fun v33 W=>
gA W v26 false 27 v33 fun v34 W=>
gA W v26 false 2 v34 fun v35 W=>
gL W v26 false T_int64 v35 fun v36 W=>
gP W v26 false (binP .neq v31 v36) fun v37 W=>
oK (pickP v26 (.bool true) v37) fun v38=>
gX W v38 false v11 fun v40 W=>
gP W v38 false (nilP v40) fun v41 W=>
gA W v38 false 3 v41 fun v42 W=>
gL W v38 false T_vec_Vec v42 fun v43 W=>
gX W v38 false x0 fun v44 W=>
gP W v38 false (nilP v44) fun v45 W=>
gA W v38 false 27 v45 fun v46 W=>
gA W v38 false 3 v46 fun v47 W=>
gL W v38 false T_vec_Vec v47 fun v48 W=>
gR W v38 false (aggEq .neq T_vec_Vec v43 v48) fun v49 W=>
oK (pickP v38 (.bool true) v49) fun v50=>
ifK v50 (
R (.bool false) W) (
J1 [x0, x8, x9] W)))) (
R (.bool true) W)
def S.lead_Lead_alike.body (R : VK) (v0 : Value) (W : World) : Prop :=
oK (nilP v0) fun v6=>
oA 20 v6 fun v7=>
lD W T_a7_p_inst_Rec v7 fun v8 W=>
loopK (fun K1 s W => S.lead_Lead_alike.l1 R K1 (nthv s 0) (nthv s 1) (nthv s 2) W) [v0, v8, (nI 0)] W
theorem S.lead_Lead_alike.call {R : VK} {v0 : Value} {W : World} (h : S.lead_Lead_alike.body R v0 W) : callK PR F_lead_Lead_alike [v0] R W :=
callS (fn := Tryz.f95) (h := (.t (.two (.t (.at [0, 8, 9] (.t (.two (.t .n) (.at [0, 8, 9] (.t (.two (.t (.t .n)) (.t (.two (.t .n) .n)))) .n))) .n)) (.t .n)))) h
def S.lead_Lead_first.l1 (R : VK) (K1 : LK) (x8 x9 : Value) (W : World) : Prop :=
oK (binP .lss x9 (nI 7)) fun v10=>
ifK v10 (
oK (idxV 7 false 1 x8 x9) fun v11=>
oK (eqP (.pointer T_inst_Rec) .neq v11 (.pointer none)) fun v13=>
ifK v13 (
R v11 W) (
oK (binP .add x9 (nI 1)) fun v15=>
K1 [x8, v15] W)) (
R (.pointer none) W)
def S.lead_Lead_first.body (R : VK) (v0 : Value) (W : World) : Prop :=
oK (nilP v0) fun v6=>
oA 20 v6 fun v7=>
lD W T_a7_p_inst_Rec v7 fun v8 W=>
loopK (fun K1 s W => S.lead_Lead_first.l1 R K1 (nthv s 0) (nthv s 1) W) [v8, (nI 0)] W
theorem S.lead_Lead_first.call {R : VK} {v0 : Value} {W : World} (h : S.lead_Lead_first.body R v0 W) : callK PR F_lead_Lead_first [v0] R W :=
callS (fn := Tryz.f96) (h := (.t (.two (.t (.at [8, 9] (.t (.two (.t .n) (.two (.t (.t (.two (.t .n) .n))) .n))) .n)) (.t .n)))) h
end Go.Proofs.YtfhacbhgmnhmlaaGreat
namespace Go.Proofs.YtfhacbhgmnhmlaaGreat
set_option linter.unusedVariables false
set_option linter.unusedSimpArgs false
open Go Go.Eng
abbrev RX := Option (Nat × Rec BSl)
@[reducible] def pa (r : RX) : Option Addr := match r with
 | some p => some ⟨p.1, 0, none⟩
 | none => none
@[reducible] def oc (r : RX) : Asn := match r with
 | some p => cells p.1 [.int .i64 p.2.st, p.2.cmd.v, .int .i64 p.2.seq, .int .i64 p.2.deps.x0, .int .i64 p.2.deps.x1, .int .i64 p.2.deps.x2, .int .i64 p.2.deps.x3, .int .i64 p.2.deps.x4, .int .i64 p.2.deps.x5, .int .i64 p.2.deps.x6, .int .i64 p.2.bal.1, .int .i64 p.2.bal.2, .int .i64 p.2.ab.1, .int .i64 p.2.ab.2] T_inst_Rec
 | none => fun h => ∀ x, h x = none
@[reducible] def rab (p : Nat × Rec BSl) : Rec Bs := p.2.map BSl.bs
structure LX where
 n : Int
 rep : Int
 t : Nat
 m : Msg BSl
 phase : Int
 fast : Bool
 apart : Bool
 rp : P7 RX
 own : Rec BSl
 B : List BSl
def LX.abs (X : LX) : LD := ⟨X.n, X.rep, X.m.map BSl.bs, X.phase, X.fast, X.apart, X.rp.map (Option.map rab), X.own.map BSl.bs⟩
structure LX.ok (X : LX) : Prop where
 rep : 3 ≤ X.n ∧ X.n ≤ 7 ∧ 0 ≤ X.rep ∧ X.rep < X.n
 m : InB X.m.cmd X.B
 own : InB X.own.cmd X.B
 rp : ∀ p, some p ∈ X.rp.list → InB p.2.cmd X.B
 len : ∀ x ∈ X.B, x.bs.length < 1099511627776
def ldc (q : Nat) (X : LX) : Asn := fun h => X.ok ∧ sep [cells q (.int .i64 X.n :: .int .i64 X.rep :: .pointer (some ⟨X.t, 0, none⟩) :: .int .i64 X.m.kind :: .int .i64 X.m.dot.rep :: .int .i64 X.m.dot.n :: .int .i64 X.m.bal.1 :: .int .i64 X.m.bal.2 :: X.m.cmd.v :: .int .i64 X.m.seq :: .int .i64 X.m.deps.x0 :: .int .i64 X.m.deps.x1 :: .int .i64 X.m.deps.x2 :: .int .i64 X.m.deps.x3 :: .int .i64 X.m.deps.x4 :: .int .i64 X.m.deps.x5 :: .int .i64 X.m.deps.x6 :: .int .i64 X.phase :: .bool X.fast :: .bool X.apart :: .pointer (pa X.rp.x0) :: .pointer (pa X.rp.x1) :: .pointer (pa X.rp.x2) :: .pointer (pa X.rp.x3) :: .pointer (pa X.rp.x4) :: .pointer (pa X.rp.x5) :: .pointer (pa X.rp.x6) :: .int .i64 X.own.st :: X.own.cmd.v :: .int .i64 X.own.seq :: .int .i64 X.own.deps.x0 :: .int .i64 X.own.deps.x1 :: .int .i64 X.own.deps.x2 :: .int .i64 X.own.deps.x3 :: .int .i64 X.own.deps.x4 :: .int .i64 X.own.deps.x5 :: .int .i64 X.own.deps.x6 :: .int .i64 X.own.bal.1 :: .int .i64 X.own.bal.2 :: .int .i64 X.own.ab.1 :: .int .i64 X.own.ab.2 :: []) T_lead_Lead, many oc X.rp.list, many fch X.B] h
section
variable {W0 W : World} {L L' L1 : List Asn} {q : Nat} {X : LX}
theorem InB.len {x : BSl} {B : List BSl} (h : InB x B) (hl : ∀ x ∈ B, x.bs.length < 1099511627776) : x.bs.length < 1099511627776 := by
 rcases h with h | h
 ·rw [h]; simp
 ·exact hl x h
theorem ldc_at (h : St W0 (ldc q X :: L) W) : X.ok ∧ St W0 (cells q (.int .i64 X.n :: .int .i64 X.rep :: .pointer (some ⟨X.t, 0, none⟩) :: .int .i64 X.m.kind :: .int .i64 X.m.dot.rep :: .int .i64 X.m.dot.n :: .int .i64 X.m.bal.1 :: .int .i64 X.m.bal.2 :: X.m.cmd.v :: .int .i64 X.m.seq :: .int .i64 X.m.deps.x0 :: .int .i64 X.m.deps.x1 :: .int .i64 X.m.deps.x2 :: .int .i64 X.m.deps.x3 :: .int .i64 X.m.deps.x4 :: .int .i64 X.m.deps.x5 :: .int .i64 X.m.deps.x6 :: .int .i64 X.phase :: .bool X.fast :: .bool X.apart :: .pointer (pa X.rp.x0) :: .pointer (pa X.rp.x1) :: .pointer (pa X.rp.x2) :: .pointer (pa X.rp.x3) :: .pointer (pa X.rp.x4) :: .pointer (pa X.rp.x5) :: .pointer (pa X.rp.x6) :: .int .i64 X.own.st :: X.own.cmd.v :: .int .i64 X.own.seq :: .int .i64 X.own.deps.x0 :: .int .i64 X.own.deps.x1 :: .int .i64 X.own.deps.x2 :: .int .i64 X.own.deps.x3 :: .int .i64 X.own.deps.x4 :: .int .i64 X.own.deps.x5 :: .int .i64 X.own.deps.x6 :: .int .i64 X.own.bal.1 :: .int .i64 X.own.bal.2 :: .int .i64 X.own.ab.1 :: .int .i64 X.own.ab.2 :: []) T_lead_Lead :: many oc X.rp.list :: many fch X.B :: L) W := by
 obtain ⟨h1, h⟩ := h.fact
 exact ⟨h1, h.flat⟩
theorem ldc_ent (h : X.ok) : ent (cells q (.int .i64 X.n :: .int .i64 X.rep :: .pointer (some ⟨X.t, 0, none⟩) :: .int .i64 X.m.kind :: .int .i64 X.m.dot.rep :: .int .i64 X.m.dot.n :: .int .i64 X.m.bal.1 :: .int .i64 X.m.bal.2 :: X.m.cmd.v :: .int .i64 X.m.seq :: .int .i64 X.m.deps.x0 :: .int .i64 X.m.deps.x1 :: .int .i64 X.m.deps.x2 :: .int .i64 X.m.deps.x3 :: .int .i64 X.m.deps.x4 :: .int .i64 X.m.deps.x5 :: .int .i64 X.m.deps.x6 :: .int .i64 X.phase :: .bool X.fast :: .bool X.apart :: .pointer (pa X.rp.x0) :: .pointer (pa X.rp.x1) :: .pointer (pa X.rp.x2) :: .pointer (pa X.rp.x3) :: .pointer (pa X.rp.x4) :: .pointer (pa X.rp.x5) :: .pointer (pa X.rp.x6) :: .int .i64 X.own.st :: X.own.cmd.v :: .int .i64 X.own.seq :: .int .i64 X.own.deps.x0 :: .int .i64 X.own.deps.x1 :: .int .i64 X.own.deps.x2 :: .int .i64 X.own.deps.x3 :: .int .i64 X.own.deps.x4 :: .int .i64 X.own.deps.x5 :: .int .i64 X.own.deps.x6 :: .int .i64 X.own.bal.1 :: .int .i64 X.own.bal.2 :: .int .i64 X.own.ab.1 :: .int .i64 X.own.ab.2 :: []) T_lead_Lead :: many oc X.rp.list :: many fch X.B :: L) (ldc q X :: L) :=
 (ent.pack [_, _, _] L).trans (ent.weak fun _ hp => ⟨h, hp⟩)
theorem oc_none : ent L (many oc (P7.all none).list :: L) := by
 have h1 : ∀ n (L : List Asn), ent L (many oc (List.replicate n none) :: L) := by
  intro n
  induction n with
  | zero => exact fun L => many_nil
  | succ n ih => exact fun L => (ih L).trans ((ent.emp (a := oc none) fun _ => rfl).trans (many_uncons (F := oc) none (List.replicate n none)))
 exact h1 7 L
theorem many_swap {β : Type} {F : β → Asn} (A C : List β) (o y : β) : entd (F y :: many F (A ++ o :: C) :: L) (many F (A ++ y :: C) :: L) :=
 (((ent.cons _ (many_perm (F := F) List.perm_middle)).trans (ent.cons _ (many_cons o _))).d.trans ((entd.cons _ (entd.drop _ _)))).trans ((many_uncons y _).trans (many_perm (F := F) List.perm_middle.symm)).d
theorem oc_set {i : Nat} (hi : i < 7) (rp : P7 RX) (b : Nat) (r : Rec BSl) : entd (cells b [.int .i64 r.st, r.cmd.v, .int .i64 r.seq, .int .i64 r.deps.x0, .int .i64 r.deps.x1, .int .i64 r.deps.x2, .int .i64 r.deps.x3, .int .i64 r.deps.x4, .int .i64 r.deps.x5, .int .i64 r.deps.x6, .int .i64 r.bal.1, .int .i64 r.bal.2, .int .i64 r.ab.1, .int .i64 r.ab.2] T_inst_Rec :: many oc rp.list :: L) (many oc (rp.set i (some (b, r))).list :: L) := by
 rcases P7.cases7 hi with rfl | rfl | rfl | rfl | rfl | rfl | rfl
 ·exact many_swap (F := oc) [] [rp.x1, rp.x2, rp.x3, rp.x4, rp.x5, rp.x6] rp.x0 (some (b, r))
 ·exact many_swap (F := oc) [rp.x0] [rp.x2, rp.x3, rp.x4, rp.x5, rp.x6] rp.x1 (some (b, r))
 ·exact many_swap (F := oc) [rp.x0, rp.x1] [rp.x3, rp.x4, rp.x5, rp.x6] rp.x2 (some (b, r))
 ·exact many_swap (F := oc) [rp.x0, rp.x1, rp.x2] [rp.x4, rp.x5, rp.x6] rp.x3 (some (b, r))
 ·exact many_swap (F := oc) [rp.x0, rp.x1, rp.x2, rp.x3] [rp.x5, rp.x6] rp.x4 (some (b, r))
 ·exact many_swap (F := oc) [rp.x0, rp.x1, rp.x2, rp.x3, rp.x4] [rp.x6] rp.x5 (some (b, r))
 ·exact many_swap (F := oc) [rp.x0, rp.x1, rp.x2, rp.x3, rp.x4, rp.x5] [] rp.x6 (some (b, r))
theorem oc_take {l : List RX} {p : Nat × Rec BSl} (h : some p ∈ l) : ∃ A C, l = A ++ some p :: C ∧ ∀ L, ent (many oc l :: L) (cells p.1 [.int .i64 p.2.st, p.2.cmd.v, .int .i64 p.2.seq, .int .i64 p.2.deps.x0, .int .i64 p.2.deps.x1, .int .i64 p.2.deps.x2, .int .i64 p.2.deps.x3, .int .i64 p.2.deps.x4, .int .i64 p.2.deps.x5, .int .i64 p.2.deps.x6, .int .i64 p.2.bal.1, .int .i64 p.2.bal.2, .int .i64 p.2.ab.1, .int .i64 p.2.ab.2] T_inst_Rec :: many oc (A ++ C) :: L) ∧ ent (cells p.1 [.int .i64 p.2.st, p.2.cmd.v, .int .i64 p.2.seq, .int .i64 p.2.deps.x0, .int .i64 p.2.deps.x1, .int .i64 p.2.deps.x2, .int .i64 p.2.deps.x3, .int .i64 p.2.deps.x4, .int .i64 p.2.deps.x5, .int .i64 p.2.deps.x6, .int .i64 p.2.bal.1, .int .i64 p.2.bal.2, .int .i64 p.2.ab.1, .int .i64 p.2.ab.2] T_inst_Rec :: many oc (A ++ C) :: L) (many oc l :: L) := by
 obtain ⟨A, C, rfl⟩ := List.append_of_mem h
 exact ⟨A, C, rfl, fun L => ⟨(many_perm (F := oc) List.perm_middle).trans (many_cons _ _), (many_uncons (F := oc) (some p) _).trans (many_perm (F := oc) List.perm_middle.symm)⟩⟩
theorem idxVp {rp : P7 RX} {i : Nat} (hi : i < 7) : idxV 7 false 1 (.agg #[.pointer (pa rp.x0), .pointer (pa rp.x1), .pointer (pa rp.x2), .pointer (pa rp.x3), .pointer (pa rp.x4), .pointer (pa rp.x5), .pointer (pa rp.x6)]) (.int .i64 (i : Int)) = some (.pointer (pa (rp.get i))) := by
 rcases P7.cases7 hi with rfl | rfl | rfl | rfl | rfl | rfl | rfl <;> rfl
theorem list7_drop {α : Type} (p : P7 α) {i : Nat} (hi : i < 7) : p.list.drop i = p.get i :: p.list.drop (i + 1) := by
 rcases P7.cases7 hi with rfl | rfl | rfl | rfl | rfl | rfl | rfl <;> rfl
theorem get7_mem {α : Type} (p : P7 α) {i : Nat} (hi : i < 7) : p.get i ∈ p.list := by
 rcases P7.cases7 hi with rfl | rfl | rfl | rfl | rfl | rfl | rfl <;> simp [P7.list, P7.get]
theorem stoRec {Y : LX} {i b : Nat} {r : Rec BSl} {Lf : List Value → List Asn} {k : Unit → World → Prop} (hi : i < 7) (h : St W0 L W) [hu : Cu q L (.int .i64 Y.n :: .int .i64 Y.rep :: .pointer (some ⟨Y.t, 0, none⟩) :: .int .i64 Y.m.kind :: .int .i64 Y.m.dot.rep :: .int .i64 Y.m.dot.n :: .int .i64 Y.m.bal.1 :: .int .i64 Y.m.bal.2 :: Y.m.cmd.v :: .int .i64 Y.m.seq :: .int .i64 Y.m.deps.x0 :: .int .i64 Y.m.deps.x1 :: .int .i64 Y.m.deps.x2 :: .int .i64 Y.m.deps.x3 :: .int .i64 Y.m.deps.x4 :: .int .i64 Y.m.deps.x5 :: .int .i64 Y.m.deps.x6 :: .int .i64 Y.phase :: .bool Y.fast :: .bool Y.apart :: .pointer (pa Y.rp.x0) :: .pointer (pa Y.rp.x1) :: .pointer (pa Y.rp.x2) :: .pointer (pa Y.rp.x3) :: .pointer (pa Y.rp.x4) :: .pointer (pa Y.rp.x5) :: .pointer (pa Y.rp.x6) :: .int .i64 Y.own.st :: Y.own.cmd.v :: .int .i64 Y.own.seq :: .int .i64 Y.own.deps.x0 :: .int .i64 Y.own.deps.x1 :: .int .i64 Y.own.deps.x2 :: .int .i64 Y.own.deps.x3 :: .int .i64 Y.own.deps.x4 :: .int .i64 Y.own.deps.x5 :: .int .i64 Y.own.deps.x6 :: .int .i64 Y.own.bal.1 :: .int .i64 Y.own.bal.2 :: .int .i64 Y.own.ab.1 :: .int .i64 Y.own.ab.2 :: []) T_lead_Lead Lf]
  (hk : ∀ W', St W0 (Lf (.int .i64 ({ Y with rp := Y.rp.set i (some (b, r)) }).n :: .int .i64 ({ Y with rp := Y.rp.set i (some (b, r)) }).rep :: .pointer (some ⟨({ Y with rp := Y.rp.set i (some (b, r)) }).t, 0, none⟩) :: .int .i64 (({ Y with rp := Y.rp.set i (some (b, r)) }).m).kind :: .int .i64 ((({ Y with rp := Y.rp.set i (some (b, r)) }).m).dot).rep :: .int .i64 ((({ Y with rp := Y.rp.set i (some (b, r)) }).m).dot).n :: .int .i64 ((({ Y with rp := Y.rp.set i (some (b, r)) }).m).bal).1 :: .int .i64 ((({ Y with rp := Y.rp.set i (some (b, r)) }).m).bal).2 :: (({ Y with rp := Y.rp.set i (some (b, r)) }).m).cmd.v :: .int .i64 (({ Y with rp := Y.rp.set i (some (b, r)) }).m).seq :: .int .i64 ((({ Y with rp := Y.rp.set i (some (b, r)) }).m).deps).x0 :: .int .i64 ((({ Y with rp := Y.rp.set i (some (b, r)) }).m).deps).x1 :: .int .i64 ((({ Y with rp := Y.rp.set i (some (b, r)) }).m).deps).x2 :: .int .i64 ((({ Y with rp := Y.rp.set i (some (b, r)) }).m).deps).x3 :: .int .i64 ((({ Y with rp := Y.rp.set i (some (b, r)) }).m).deps).x4 :: .int .i64 ((({ Y with rp := Y.rp.set i (some (b, r)) }).m).deps).x5 :: .int .i64 ((({ Y with rp := Y.rp.set i (some (b, r)) }).m).deps).x6 :: .int .i64 ({ Y with rp := Y.rp.set i (some (b, r)) }).phase :: .bool ({ Y with rp := Y.rp.set i (some (b, r)) }).fast :: .bool ({ Y with rp := Y.rp.set i (some (b, r)) }).apart :: .pointer (pa (({ Y with rp := Y.rp.set i (some (b, r)) }).rp).x0) :: .pointer (pa (({ Y with rp := Y.rp.set i (some (b, r)) }).rp).x1) :: .pointer (pa (({ Y with rp := Y.rp.set i (some (b, r)) }).rp).x2) :: .pointer (pa (({ Y with rp := Y.rp.set i (some (b, r)) }).rp).x3) :: .pointer (pa (({ Y with rp := Y.rp.set i (some (b, r)) }).rp).x4) :: .pointer (pa (({ Y with rp := Y.rp.set i (some (b, r)) }).rp).x5) :: .pointer (pa (({ Y with rp := Y.rp.set i (some (b, r)) }).rp).x6) :: .int .i64 (({ Y with rp := Y.rp.set i (some (b, r)) }).own).st :: (({ Y with rp := Y.rp.set i (some (b, r)) }).own).cmd.v :: .int .i64 (({ Y with rp := Y.rp.set i (some (b, r)) }).own).seq :: .int .i64 ((({ Y with rp := Y.rp.set i (some (b, r)) }).own).deps).x0 :: .int .i64 ((({ Y with rp := Y.rp.set i (some (b, r)) }).own).deps).x1 :: .int .i64 ((({ Y with rp := Y.rp.set i (some (b, r)) }).own).deps).x2 :: .int .i64 ((({ Y with rp := Y.rp.set i (some (b, r)) }).own).deps).x3 :: .int .i64 ((({ Y with rp := Y.rp.set i (some (b, r)) }).own).deps).x4 :: .int .i64 ((({ Y with rp := Y.rp.set i (some (b, r)) }).own).deps).x5 :: .int .i64 ((({ Y with rp := Y.rp.set i (some (b, r)) }).own).deps).x6 :: .int .i64 ((({ Y with rp := Y.rp.set i (some (b, r)) }).own).bal).1 :: .int .i64 ((({ Y with rp := Y.rp.set i (some (b, r)) }).own).bal).2 :: .int .i64 ((({ Y with rp := Y.rp.set i (some (b, r)) }).own).ab).1 :: .int .i64 ((({ Y with rp := Y.rp.set i (some (b, r)) }).own).ab).2 :: [])) W' → k () W') : efK PR (Instr.storeAt T_p_inst_Rec (.pointer (some ⟨q, 20 + i, none⟩)) (.pointer (some ⟨b, 0, none⟩))) k W := by
 rcases P7.cases7 hi with rfl | rfl | rfl | rfl | rfl | rfl | rfl
 all_goals exact sto h rfl (by simp) rfl fun W' h => hk W' h
theorem cnt_le {α : Type} (l : List (Option α)) : 0 ≤ cnt l ∧ cnt l ≤ l.length := by
 unfold cnt
 have := List.length_filter_le Option.isSome l
 omega
theorem cnt_map {α β : Type} (f : α → β) (l : List (Option α)) : cnt (l.map (Option.map f)) = cnt l := by
 unfold cnt
 rw [List.filter_map, List.length_map]
 congr 3
 funext r
 cases r <;> rfl
theorem leadCount {k : Value → World → Prop} (h : St W0 L W) [ht : Tk (ldc q) L X L'] (hk : ∀ W', St W0 (ldc q X :: L') W' → k (.int .i64 X.abs.count) W') : callK PR F_lead_Lead_count [.pointer (some ⟨q, 0, none⟩)] k W := by
 apply S.lead_Lead_count.call
 delta S.lead_Lead_count.body oK oA rD lD eF eU sT cL vC gD gX gP gA gR gL gE gU gC gV hL sB nI
 obtain ⟨hX, h⟩ := ldc_at (h.perm ht.perm)
 refine joinK_i ?_
 (repeat (first | ((with_reducible refine v5 ?_); refine ⟨_, rfl, ?_⟩) | simp -implicitDefEqProofs only [SE, SU, SV]))
 refine loop_c (σ := Unit) 7 (fun i _ => [.int .i64 (cnt (X.rp.list.take i)), .agg #[.pointer (pa X.rp.x0), .pointer (pa X.rp.x1), .pointer (pa X.rp.x2), .pointer (pa X.rp.x3), .pointer (pa X.rp.x4), .pointer (pa X.rp.x5), .pointer (pa X.rp.x6)], .int .i64 i]) (fun i _ W1 => St W0 (cells q (.int .i64 X.n :: .int .i64 X.rep :: .pointer (some ⟨X.t, 0, none⟩) :: .int .i64 X.m.kind :: .int .i64 X.m.dot.rep :: .int .i64 X.m.dot.n :: .int .i64 X.m.bal.1 :: .int .i64 X.m.bal.2 :: X.m.cmd.v :: .int .i64 X.m.seq :: .int .i64 X.m.deps.x0 :: .int .i64 X.m.deps.x1 :: .int .i64 X.m.deps.x2 :: .int .i64 X.m.deps.x3 :: .int .i64 X.m.deps.x4 :: .int .i64 X.m.deps.x5 :: .int .i64 X.m.deps.x6 :: .int .i64 X.phase :: .bool X.fast :: .bool X.apart :: .pointer (pa X.rp.x0) :: .pointer (pa X.rp.x1) :: .pointer (pa X.rp.x2) :: .pointer (pa X.rp.x3) :: .pointer (pa X.rp.x4) :: .pointer (pa X.rp.x5) :: .pointer (pa X.rp.x6) :: .int .i64 X.own.st :: X.own.cmd.v :: .int .i64 X.own.seq :: .int .i64 X.own.deps.x0 :: .int .i64 X.own.deps.x1 :: .int .i64 X.own.deps.x2 :: .int .i64 X.own.deps.x3 :: .int .i64 X.own.deps.x4 :: .int .i64 X.own.deps.x5 :: .int .i64 X.own.deps.x6 :: .int .i64 X.own.bal.1 :: .int .i64 X.own.bal.2 :: .int .i64 X.own.ab.1 :: .int .i64 X.own.ab.2 :: []) T_lead_Lead :: many oc X.rp.list :: many fch X.B :: L') W1) () rfl h ?_
 clear h
 rintro K i _ W2 hi h hK
 simp -implicitDefEqProofs only [SE, SU, SV]
 delta S.lead_Lead_count.l1 oK oA rD lD eF eU sT cL vC gD gX gP gA gR gL gE gU gC gV hL sB nI
 have hc := cnt_le (X.rp.list.take i)
 have hlen : (X.rp.list.take i).length ≤ 7 := by rw [List.length_take, P7.list_len]; omega
 have ew : IntKind.i64.wrap ((i : Int) + 1) = ((i + 1 : Nat) : Int) := by rw [i64w]; omega
 have ew2 : IntKind.i64.wrap (cnt (X.rp.list.take i) + 1) = cnt (X.rp.list.take i) + 1 := by rw [i64w]; omega
 by_cases hlt : (i : Int) < 7
 ·have e := idxVp (rp := X.rp) (i := i) (by omega)
  have hs : X.rp.list.take (i + 1) = X.rp.list.take i ++ [X.rp.get i] := by rw [List.take_add_one, P7.list_get _ (by omega)]; rfl
  have hcs : cnt (X.rp.list.take (i + 1)) = cnt (X.rp.list.take i) + if (X.rp.get i).isSome then 1 else 0 := by
   rw [hs]; unfold cnt; rw [List.filter_append, List.length_append]
   cases X.rp.get i <;> simp
  (repeat simp -implicitDefEqProofs only [SE, SU, SV, hlt])
  refine joinK_i ?_
  (repeat simp -implicitDefEqProofs only [SE, SU, SV, e])
  cases hg : X.rp.get i with
  | none =>
   rw [hg] at hcs
   (repeat simp -implicitDefEqProofs only [SE, SU, SV])
   delta S.lead_Lead_count.j2 oK oA rD lD eF eU sT cL vC gD gX gP gA gR gL gE gU gC gV hL sB nI
   (repeat simp -implicitDefEqProofs only [SE, SU, SV, ew])
   simpa [hcs] using hK () _ (by omega) h
  | some p =>
   rw [hg] at hcs
   (repeat simp -implicitDefEqProofs only [SE, SU, SV])
   delta S.lead_Lead_count.j2 oK oA rD lD eF eU sT cL vC gD gX gP gA gR gL gE gU gC gV hL sB nI
   (repeat simp -implicitDefEqProofs only [SE, SU, SV, ew, ew2])
   simpa [hcs] using hK () _ (by omega) h
 ·have : i = 7 := by omega
  subst this
  (repeat simp -implicitDefEqProofs only [SE, SU, SV, hlt])
  delta S.lead_Lead_count.j1 oK oA rD lD eF eU sT cL vC gD gX gP gA gR gL gE gU gC gV hL sB nI
  skip
  have := hk W2 (h.ent (ldc_ent hX))
  rw [show X.abs.count = cnt (X.rp.list.take 7) by unfold LD.count; rw [show X.abs.recs.list = X.rp.list.map (Option.map rab) from rfl, cnt_map]; rfl] at this
  exact this
end
end Go.Proofs.YtfhacbhgmnhmlaaGreat
namespace Go.Proofs.YtfhacbhgmnhmlaaGreat
set_option linter.unusedVariables false
set_option linter.unusedSimpArgs false
open Go Go.Eng
section
variable {W0 W : World} {L L' L1 : List Asn} {q : Nat} {X : LX}
theorem leadMaj {k : Value → World → Prop} (h : St W0 L W) [ht : Tk (ldc q) L X L'] (hk : ∀ W', St W0 (ldc q X :: L') W' → k (.bool X.abs.maj) W') : callK PR F_lead_Lead_majority [.pointer (some ⟨q, 0, none⟩)] k W := by
 apply S.lead_Lead_majority.call
 delta S.lead_Lead_majority.body oK oA rD lD eF eU sT cL vC gD gX gP gA gR gL gE gU gC gV hL sB nI
 obtain ⟨hX, h⟩ := ldc_at (h.perm ht.perm)
 have ht : X.n.tdiv 2 = X.n / 2 := Int.tdiv_eq_ediv_of_nonneg (by have := hX.rep; omega)
 have e1 : binP .quo (.int .i64 X.n) (.int .i64 2) = some (.int .i64 (X.n.tdiv 2)) := by
  rw [binP_quo (by omega)]
  have := hX.rep
  rw [show IntKind.i64.wrap (X.n.tdiv 2) = X.n.tdiv 2 by rw [i64w, ht]; omega]
 have e2 : IntKind.i64.wrap (X.n.tdiv 2 + 1) = X.n.tdiv 2 + 1 := by
  have := hX.rep
  rw [i64w, ht]; omega
 (repeat (first | ((with_reducible refine v5 ?_); refine ⟨_, rfl, ?_⟩) | simp -implicitDefEqProofs only [SE, SU, SV, e1, e2]))
 refine leadCount (X := X) (St.ent (by exact St.tick (by assumption)) (ldc_ent hX)) fun W2 h => ?_
 obtain ⟨hX, h⟩ := ldc_at h
 (repeat (first | ((with_reducible refine stb_n ?_); intros) | ((with_reducible refine v8 ?_ ?_); exact rfl; intros) | simp -implicitDefEqProofs only [SE, SU, SV]))
 exact hk _ (St.ent (by assumption) (ldc_ent hX))
theorem leadFits {r : Rec BSl} {k : Value → World → Prop} (h : St W0 L W) [ht : Tk (ldc q) L X L'] (hk : ∀ W', St W0 (ldc q X :: L') W' → k (.bool (X.abs.fits (r.map BSl.bs))) W') :
  callK PR F_lead_Lead_fits [.pointer (some ⟨q, 0, none⟩), .agg #[.int .i64 r.st, r.cmd.v, .int .i64 r.seq, .int .i64 r.deps.x0, .int .i64 r.deps.x1, .int .i64 r.deps.x2, .int .i64 r.deps.x3, .int .i64 r.deps.x4, .int .i64 r.deps.x5, .int .i64 r.deps.x6, .int .i64 r.bal.1, .int .i64 r.bal.2, .int .i64 r.ab.1, .int .i64 r.ab.2]] k W := by
 apply S.lead_Lead_fits.call
 delta S.lead_Lead_fits.body oK oA rD lD eF eU sT cL vC gD gX gP gA gR gL gE gU gC gV hL sB nI
 obtain ⟨hX, h⟩ := ldc_at (h.perm ht.perm)
 have hend : ∀ b c W', X.abs.fits (r.map BSl.bs) = b → St W0 (c :: cells q (.int .i64 X.n :: .int .i64 X.rep :: .pointer (some ⟨X.t, 0, none⟩) :: .int .i64 X.m.kind :: .int .i64 X.m.dot.rep :: .int .i64 X.m.dot.n :: .int .i64 X.m.bal.1 :: .int .i64 X.m.bal.2 :: X.m.cmd.v :: .int .i64 X.m.seq :: .int .i64 X.m.deps.x0 :: .int .i64 X.m.deps.x1 :: .int .i64 X.m.deps.x2 :: .int .i64 X.m.deps.x3 :: .int .i64 X.m.deps.x4 :: .int .i64 X.m.deps.x5 :: .int .i64 X.m.deps.x6 :: .int .i64 X.phase :: .bool X.fast :: .bool X.apart :: .pointer (pa X.rp.x0) :: .pointer (pa X.rp.x1) :: .pointer (pa X.rp.x2) :: .pointer (pa X.rp.x3) :: .pointer (pa X.rp.x4) :: .pointer (pa X.rp.x5) :: .pointer (pa X.rp.x6) :: .int .i64 X.own.st :: X.own.cmd.v :: .int .i64 X.own.seq :: .int .i64 X.own.deps.x0 :: .int .i64 X.own.deps.x1 :: .int .i64 X.own.deps.x2 :: .int .i64 X.own.deps.x3 :: .int .i64 X.own.deps.x4 :: .int .i64 X.own.deps.x5 :: .int .i64 X.own.deps.x6 :: .int .i64 X.own.bal.1 :: .int .i64 X.own.bal.2 :: .int .i64 X.own.ab.1 :: .int .i64 X.own.ab.2 :: []) T_lead_Lead :: many oc X.rp.list :: many fch X.B :: L') W' → k (.bool b) W' :=
  fun b c W' e h => e ▸ hk W' (h.drop.ent (ldc_ent hX))
 clear hk
 have ef : ∀ s : Int, (decide (r.st = s) && (decide (r.ab.1 = X.m.bal.1) && decide (r.ab.2 = X.m.bal.2))) = (decide (r.st = s) && decide (r.ab = X.m.bal)) := by
  intro s; congr 1; rw [Bool.eq_iff_iff]; simp [Prod.ext_iff]
 by_cases h1 : X.phase = 1
 ·have f1 := decide_eq_true h1
  have e : ∀ b, (decide (r.st = 1) && decide (r.ab = X.m.bal)) = b → X.abs.fits (r.map BSl.bs) = b := fun b h => by
   unfold LD.fits; rw [if_pos (show X.abs.phase = 1 from h1)]; exact h
  refine bxa h fun b W1 h => ?_
  by_cases h2 : r.st = 1
  ·have f2 := decide_eq_true h2
   (repeat (first | ((with_reducible first | refine v5 ?_ | refine ve ?_); refine ⟨_, rfl, ?_⟩) | simp -implicitDefEqProofs only [SE, SU, SV, f1, f2]))
   refine hend _ _ _ (e _ ?_) (by exact St.tick (by assumption))
   rw [f2, Bool.true_and, Bool.eq_iff_iff]; simp [Prod.ext_iff]
  ·have f2 := decide_eq_false h2
   (repeat (first | ((with_reducible refine v5 ?_); refine ⟨_, rfl, ?_⟩) | simp -implicitDefEqProofs only [SE, SU, SV, f1, f2]))
   exact hend _ _ _ (e _ (by rw [f2]; rfl)) (by exact St.tick (by assumption))
 have f1 := decide_eq_false h1
 by_cases h3 : X.phase = 2
 ·have f3 := decide_eq_true h3
  have e : ∀ b, (decide (r.st = 2) && decide (r.ab = X.m.bal)) = b → X.abs.fits (r.map BSl.bs) = b := fun b h => by
   unfold LD.fits; rw [if_neg (show ¬ X.abs.phase = 1 from h1), if_pos (show X.abs.phase = 2 from h3)]; exact h
  refine bxa h fun b W1 h => ?_
  by_cases h2 : r.st = 2
  ·have f2 := decide_eq_true h2
   (repeat (first | ((with_reducible first | refine v5 ?_ | refine ve ?_); refine ⟨_, rfl, ?_⟩) | simp -implicitDefEqProofs only [SE, SU, SV, f1, f2, f3]))
   refine hend _ _ _ (e _ ?_) (by exact St.tick (by assumption))
   rw [f2, Bool.true_and, Bool.eq_iff_iff]; simp [Prod.ext_iff]
  ·have f2 := decide_eq_false h2
   (repeat (first | ((with_reducible refine v5 ?_); refine ⟨_, rfl, ?_⟩) | simp -implicitDefEqProofs only [SE, SU, SV, f1, f2, f3]))
   exact hend _ _ _ (e _ (by rw [f2]; rfl)) (by exact St.tick (by assumption))
 have f3 := decide_eq_false h3
 refine bxa h fun b W1 h => ?_
 (repeat (first | ((with_reducible refine v5 ?_); refine ⟨_, rfl, ?_⟩) | simp -implicitDefEqProofs only [SE, SU, SV, f1, f3]))
 exact hend _ _ _ (by unfold LD.fits; rw [if_neg (show ¬ X.abs.phase = 1 from h1), if_neg (show ¬ X.abs.phase = 2 from h3)]) (by assumption)
theorem ldc_close {X : LX} {x : BSl} (hX : X.ok) (hl : x.bs.length < 1099511627776) (Y : LX) (hY : Y.B = x :: X.B) (hok : Y.ok) :
  ent (cells q (.int .i64 Y.n :: .int .i64 Y.rep :: .pointer (some ⟨Y.t, 0, none⟩) :: .int .i64 Y.m.kind :: .int .i64 Y.m.dot.rep :: .int .i64 Y.m.dot.n :: .int .i64 Y.m.bal.1 :: .int .i64 Y.m.bal.2 :: Y.m.cmd.v :: .int .i64 Y.m.seq :: .int .i64 Y.m.deps.x0 :: .int .i64 Y.m.deps.x1 :: .int .i64 Y.m.deps.x2 :: .int .i64 Y.m.deps.x3 :: .int .i64 Y.m.deps.x4 :: .int .i64 Y.m.deps.x5 :: .int .i64 Y.m.deps.x6 :: .int .i64 Y.phase :: .bool Y.fast :: .bool Y.apart :: .pointer (pa Y.rp.x0) :: .pointer (pa Y.rp.x1) :: .pointer (pa Y.rp.x2) :: .pointer (pa Y.rp.x3) :: .pointer (pa Y.rp.x4) :: .pointer (pa Y.rp.x5) :: .pointer (pa Y.rp.x6) :: .int .i64 Y.own.st :: Y.own.cmd.v :: .int .i64 Y.own.seq :: .int .i64 Y.own.deps.x0 :: .int .i64 Y.own.deps.x1 :: .int .i64 Y.own.deps.x2 :: .int .i64 Y.own.deps.x3 :: .int .i64 Y.own.deps.x4 :: .int .i64 Y.own.deps.x5 :: .int .i64 Y.own.deps.x6 :: .int .i64 Y.own.bal.1 :: .int .i64 Y.own.bal.2 :: .int .i64 Y.own.ab.1 :: .int .i64 Y.own.ab.2 :: []) T_lead_Lead :: many oc Y.rp.list :: fch x :: many fch X.B :: L) (ldc q Y :: L) := by
 refine ent.trans (ent.cons _ (ent.cons _ (many_uncons x X.B))) ?_
 rw [← hY]
 exact ldc_ent hok
theorem leadDec {T : Tbl} {r : Rec BSl} {fast : Bool} {k : Value → World → Prop} (h : St W0 L W) [ht : Tk (ldc q) L X L1] [ht2 : Tk (tb X.t) L1 T L'] [hr : Rd W0 (many fch X.B :: L1) r.cmd.a B8 r.cmd.bs] (hl : r.cmd.bs.length < 1099511627776)
  (hk : ∀ (X' : LX) W', X'.t = X.t → X'.abs = (X.abs.dec T (r.map BSl.bs) fast).1 → St W0 (ldc q X' :: tb X.t (X.abs.dec T (r.map BSl.bs) fast).2 :: L') W' → k (.tuple #[]) W') :
  callK PR F_lead_Lead_decide [.pointer (some ⟨q, 0, none⟩), .agg #[.int .i64 r.st, r.cmd.v, .int .i64 r.seq, .int .i64 r.deps.x0, .int .i64 r.deps.x1, .int .i64 r.deps.x2, .int .i64 r.deps.x3, .int .i64 r.deps.x4, .int .i64 r.deps.x5, .int .i64 r.deps.x6, .int .i64 r.bal.1, .int .i64 r.bal.2, .int .i64 r.ab.1, .int .i64 r.ab.2], .bool fast] k W := by
 apply S.lead_Lead_decide.call
 delta S.lead_Lead_decide.body oK oA rD lD eF eU sT cL vC gD gX gP gA gR gL gE gU gC gV hL sB nI
 obtain ⟨hX, h⟩ := ldc_at (h.perm ht.perm)
 refine bxa h fun b W1 h => ?_
 (repeat (first | ((with_reducible refine v5 ?_); refine ⟨_, rfl, ?_⟩) | ((with_reducible refine v12 ?_ ?_); exact rfl; intros) | ((with_reducible refine w5 ?_ ?_); simp; refine ⟨_, rfl, ?_⟩) | ((with_reducible refine w12 ?_ ?_ ?_ ?_); simp; simp; simp [oneC]; intros) | simp -implicitDefEqProofs only [SE, SU, SV]))
 refine bytesClone (a := r.cmd.a) (l := r.cmd.bs) (by exact St.tick (by assumption)) (by omega) fun ca cc W2 h => ?_
 (try simp only [BLS, SB, stL_a, stL_b, stL_c, lsub_a, lsub_b, lsub_c, List.append_nil, List.take_nil, List.drop_nil, Nat.reduceAdd] at h)
 (repeat (first | ((with_reducible refine stb_n ?_); intros) | ((with_reducible refine v5 ?_); refine ⟨_, rfl, ?_⟩) | ((with_reducible first | refine v8 ?_ ?_ | refine v12 ?_ ?_); exact rfl; intros) | ((with_reducible refine w5 ?_ ?_); simp; refine ⟨_, rfl, ?_⟩) | (refine okF_i (bldP_eq rfl) ?_; try simp only [BLS, SB, Nat.reduceAdd]) | simp -implicitDefEqProofs only [SE, SU, SV]))
 refine instDo (m := ⟨3, X.m.dot, X.m.bal, ⟨ca, cc, r.cmd.bs⟩, r.seq, r.deps⟩) (by exact St.tick (by assumption)) hl fun y W3 hy h => ?_
 skip
 let X' : LX := ⟨X.n, X.rep, X.t, ⟨3, X.m.dot, X.m.bal, ⟨ca, cc, r.cmd.bs⟩, r.seq, r.deps⟩, 3, fast, X.apart, X.rp, X.own, ⟨ca, cc, r.cmd.bs⟩ :: X.B⟩
 have hX' : X'.ok := ⟨hX.rep, InB.head _ _, hX.own.cons, fun p hp => (hX.rp p hp).cons, fun x hx => by
  rcases List.mem_cons.1 hx with rfl | hx
  ·exact hl
  ·exact hX.len x hx⟩
 refine hk X' _ rfl rfl ?_
 rename_i h
 (try simp only [BLS, SB, stL_a, stL_b, stL_c, lsub_a, lsub_b, lsub_c, List.append_nil, List.take_nil, List.drop_nil, Nat.reduceAdd] at h)
 have h2 := St.wk (L' := cells q (.int .i64 X'.n :: .int .i64 X'.rep :: .pointer (some ⟨X'.t, 0, none⟩) :: .int .i64 X'.m.kind :: .int .i64 X'.m.dot.rep :: .int .i64 X'.m.dot.n :: .int .i64 X'.m.bal.1 :: .int .i64 X'.m.bal.2 :: X'.m.cmd.v :: .int .i64 X'.m.seq :: .int .i64 X'.m.deps.x0 :: .int .i64 X'.m.deps.x1 :: .int .i64 X'.m.deps.x2 :: .int .i64 X'.m.deps.x3 :: .int .i64 X'.m.deps.x4 :: .int .i64 X'.m.deps.x5 :: .int .i64 X'.m.deps.x6 :: .int .i64 X'.phase :: .bool X'.fast :: .bool X'.apart :: .pointer (pa X'.rp.x0) :: .pointer (pa X'.rp.x1) :: .pointer (pa X'.rp.x2) :: .pointer (pa X'.rp.x3) :: .pointer (pa X'.rp.x4) :: .pointer (pa X'.rp.x5) :: .pointer (pa X'.rp.x6) :: .int .i64 X'.own.st :: X'.own.cmd.v :: .int .i64 X'.own.seq :: .int .i64 X'.own.deps.x0 :: .int .i64 X'.own.deps.x1 :: .int .i64 X'.own.deps.x2 :: .int .i64 X'.own.deps.x3 :: .int .i64 X'.own.deps.x4 :: .int .i64 X'.own.deps.x5 :: .int .i64 X'.own.deps.x6 :: .int .i64 X'.own.bal.1 :: .int .i64 X'.own.bal.2 :: .int .i64 X'.own.ab.1 :: .int .i64 X'.own.ab.2 :: []) T_lead_Lead :: many oc X.rp.list :: fch ⟨ca, cc, r.cmd.bs⟩ :: many fch X.B :: tb X.t (tdo T (Msg.map BSl.bs ⟨3, X.m.dot, X.m.bal, ⟨ca, cc, r.cmd.bs⟩, r.seq, r.deps⟩)).1 :: L') h
 exact h2.ent (ldc_close (x := ⟨ca, cc, r.cmd.bs⟩) hX hl X' rfl hX')
end
end Go.Proofs.YtfhacbhgmnhmlaaGreat
