/- 'ExecKnown' holds. Printed by an own tool (wip/tools/law.py), after the kit's shell. -/
import Derived.Test.YtkjhccpanedccaaBExecKnown9
import Derived.Test.YtkjhccpanedccaaBExecKnown2
import Derived.Deep.Slices
import Derived.OpenShut
import Derived.ShutString
import Derived.ChangeOld
import Derived.Carry
import Derived.Test.YtkjhccpanedccaaBExecKnown1
import Derived.Test.YtkjhccpanedccaaBExecKnown8
import Derived.Test.YtkjhccpanedccaaBExecKnown3
import Derived.Test.YtkjhccpanedccaaRows
import Derived.WalkKit
import Derived.ProofKit
namespace Go.Proofs.Ytkjhccpanedccaa
set_option linter.unusedVariables false
set_option linter.unusedSimpArgs false
open Go Go.Eng Go.Tar Go.Sort
/-- what is reached from x by what hangs on what, within K -/
inductive DR (K : List Ins) : Ins → Ins → Prop
  | refl (x : Ins) : DR K x x
  | step {x y z : Ins} : DR K x y → z ∈ K → z.d ∈ depsL y → DR K x z
def Mut (K : List Ins) (x y : Ins) : Prop := DR K x y ∧ DR K y x
section
variable {sl K M l : List Ins} {q : Dot → Bool} {x y z : Ins} {i j : Nat}
theorem DR.trans (h1 : DR K x y) (h2 : DR K y z) : DR K x z := by
  induction h2 with
  | refl => exact h1
  | step _ h3 h4 ih => exact .step ih h3 h4
theorem DR.one (h : y ∈ K) (hd : y.d ∈ depsL x) : DR K x y := .step (.refl x) h hd
theorem DR.mono (hs : ∀ x ∈ K, x ∈ M) (h : DR K x y) : DR M x y := by
  induction h with
  | refl => exact .refl _
  | step _ h3 h4 ih => exact .step ih (hs _ h3) h4
theorem DR.mem (h : DR K x y) (hx : x ∈ K) : y ∈ K := by
  cases h with
  | refl => exact hx
  | step _ h3 _ => exact h3
theorem Mut.symm (h : Mut K x y) : Mut K y x := ⟨h.2, h.1⟩
theorem edge_iff (hn : (sl.map (·.d)).Nodup) (hi : i < sl.length) (hj : j < sl.length) : (j : Int) ∈ rowOf (onL sl) (i : Int) ↔ sl[j].d ∈ depsL sl[i] := by
  rw [onRow_at sl hi, onRow_mem]
  constructor
  · rintro ⟨d, hd, k, hk, e⟩
    obtain ⟨h1, h2⟩ := plcO_some hk
    have : k = j := by omega
    subst this; rw [h2]; exact hd
  · exact fun h => ⟨_, h, j, plcO_at hn hj, rfl⟩
theorem at_inj (hn : (sl.map (·.d)).Nodup) (hi : i < sl.length) (hj : j < sl.length) (e : sl[i].d = sl[j].d) : i = j := by
  have h3 := List.getElem_inj (h₀ := by simpa using hi) (h₁ := by simpa using hj) (i := i) (j := j) hn
  exact h3.1 (by simpa using e)
theorem rch_dr (hn : (sl.map (·.d)).Nodup) (hi : i < sl.length) (hj : j < sl.length) : Rch (onL sl) (i : Int) (j : Int) ↔ DR sl sl[i] sl[j] := by
  constructor
  · intro h
    have key : ∀ a b : Int, Rch (onL sl) a b → Vx sl.length a → ∀ (ha : a.toNat < sl.length) (hb : b.toNat < sl.length), DR sl sl[a.toNat] sl[b.toNat] := by
      intro a b hr
      induction hr with
      | refl => exact fun _ _ _ => .refl _
      | @step b c hr hc ih =>
        intro hax ha hcl
        have hb := rch_vx (onL_ok sl) hr hax
        have hcx := (onL_ok sl).rng b c hc
        have hbn : b.toNat < sl.length := by unfold Vx at hb; omega
        refine .step (ih hax ha hbn) (List.getElem_mem _) ((edge_iff hn hbn hcl).1 ?_)
        rw [show ((c.toNat : Nat) : Int) = c by unfold Vx at hcx; omega, show ((b.toNat : Nat) : Int) = b by unfold Vx at hb; omega]
        exact hc
    exact key i j h ⟨by omega, by omega⟩ (by simpa using hi) (by simpa using hj)
  · intro h
    generalize hx : sl[i] = x at h
    generalize hy : sl[j] = y at h
    induction h generalizing j with
    | refl =>
      have := at_inj hn hi hj (by rw [hx, hy])
      subst this; exact .refl _
    | @step y z _ hz hd ih =>
      by_cases hym : y ∈ sl
      · obtain ⟨k, hk, rfl⟩ := List.getElem_of_mem hym
        exact .step (ih hk rfl) ((edge_iff hn hk hj).2 (by rw [hy]; exact hd))
      · rename_i h
        cases h with
        | refl => exact absurd (hx ▸ List.getElem_mem hi) hym
        | step _ h3 _ => exact absurd h3 hym
/-- a line, as instances -/
def lineS (sl : List Ins) : List Ins := (lineF (onL sl)).map fun v => sl.getD v.toNat default
theorem dots_lineS (sl : List Ins) : dotsO sl (lineF (onL sl)) = (lineS sl).map (·.d) := by
  unfold dotsO lineS; rw [List.map_map]; rfl
theorem onO (sl : List Ins) : OnOk (onL sl) (onL sl).length := by rw [(onL_ok sl).len]; exact onL_ok sl
theorem lineF_at (v : Int) : v ∈ lineF (onL sl) ↔ ∃ k : Nat, v = k ∧ k < sl.length := by
  rw [lineF_mem (onO sl), (onL_ok sl).len]
  exact ⟨fun h => ⟨v.toNat, by unfold Vx at h; omega, by unfold Vx at h; omega⟩, fun ⟨k, e, hk⟩ => by unfold Vx; omega⟩
theorem lineS_mem : x ∈ lineS sl ↔ x ∈ sl := by
  unfold lineS
  rw [List.mem_map]
  constructor
  · rintro ⟨v, hv, rfl⟩
    obtain ⟨k, rfl, hk⟩ := (lineF_at v).1 hv
    rw [Int.toNat_natCast, ← getD_at hk]; exact List.getElem_mem hk
  · intro h
    obtain ⟨k, hk, rfl⟩ := List.getElem_of_mem h
    exact ⟨k, (lineF_at _).2 ⟨k, rfl, hk⟩, by rw [Int.toNat_natCast, ← getD_at hk]⟩
theorem lineS_nodup (hn : (sl.map (·.d)).Nodup) : ((lineS sl).map (·.d)).Nodup := by
  unfold lineS
  rw [List.map_map, List.nodup_iff_pairwise_ne, List.pairwise_map]
  refine List.Pairwise.imp_of_mem (fun {a b} ha hb hab e => ?_) (List.nodup_iff_pairwise_ne.1 (lineF_nodup (onO sl)))
  obtain ⟨i, rfl, hi⟩ := (lineF_at a).1 ha
  obtain ⟨j, rfl, hj⟩ := (lineF_at b).1 hb
  simp only [Function.comp_def, Int.toNat_natCast] at e
  rw [← getD_at hi, ← getD_at hj] at e
  exact hab (by rw [at_inj hn hi hj e])
theorem lineS_pw (hn : (sl.map (·.d)).Nodup) (hs : insSorted sl) : (lineS sl).Pairwise fun x y => (Mut sl x y ∧ insLt x y) ∨ (¬ Mut sl x y ∧ y.d ∉ depsL x) := by
  unfold lineS
  rw [List.pairwise_map]
  refine List.Pairwise.imp_of_mem (fun {a b} ha hb hab => ?_) (lineF_pw (onO sl))
  obtain ⟨i, rfl, hi⟩ := (lineF_at a).1 ha
  obtain ⟨j, rfl, hj⟩ := (lineF_at b).1 hb
  rw [Int.toNat_natCast, Int.toNat_natCast, ← getD_at hi, ← getD_at hj]
  have hm : Same (onL sl) i j ↔ Mut sl sl[i] sl[j] := and_congr (rch_dr hn hi hj) (rch_dr hn hj hi)
  rw [hm, edge_iff hn hi hj] at hab
  rcases hab with ⟨h1, h2⟩ | h
  · refine .inl ⟨h1, ?_⟩
    have hlt : i < j := by omega
    have h3 := List.pairwise_iff_getElem.1 hs i j hi hj hlt
    refine Classical.byContradiction fun h4 => ?_
    have := at_inj hn hi hj (insLt_same h4 h3)
    omega
  · exact .inr h
/-! ### of any instances -/
def lineK (K : List Ins) : List Ins := lineS (sortO K)
theorem sortO_mem : x ∈ sortO K ↔ x ∈ K := (sortO_perm K).mem_iff
theorem dr_sort : DR (sortO K) x y ↔ DR K x y := ⟨DR.mono fun _ h => sortO_mem.1 h, DR.mono fun _ h => sortO_mem.2 h⟩
theorem lineK_mem : x ∈ lineK K ↔ x ∈ K := lineS_mem.trans sortO_mem
theorem lineK_nodup (hn : (K.map (·.d)).Nodup) : ((lineK K).map (·.d)).Nodup := lineS_nodup (sortO_nodup hn)
theorem lineK_pw (hn : (K.map (·.d)).Nodup) : (lineK K).Pairwise fun x y => (Mut K x y ∧ insLt x y) ∨ (¬ Mut K x y ∧ y.d ∉ depsL x) := by
  have := lineS_pw (sortO_nodup hn) (sortO_sorted K)
  unfold Mut at this ⊢
  simp only [dr_sort] at this
  exact this
theorem lineO_eq : lineO q l = (lineK (keptO q (l.filter fun x => !q x.d))).map (·.d) := by unfold lineO lineK; exact dots_lineS _
/-! ### what is kept -/
theorem kept_mem : x ∈ keptO q l ↔ x ∈ l ∧ ¬ Lk (sortO l) q x := by
  unfold keptO
  rw [List.mem_filter, sortO_mem]; simp
theorem kept_nodup (hn : (l.map (·.d)).Nodup) : ((keptO q l).map (·.d)).Nodup := (sortO_nodup hn).sublist (kept_sub.map _)
theorem kept_closed {d : Dot} (hx : x ∈ keptO q l) (hd : d ∈ depsL x) : q d = true ∨ ∃ y ∈ keptO q l, y.d = d := by
  obtain ⟨h1, h2⟩ := kept_mem.1 hx
  by_cases hy : ∃ y ∈ l, y.d = d
  · obtain ⟨y, hy, rfl⟩ := hy
    exact .inr ⟨y, kept_mem.2 ⟨hy, fun hL => h2 (.next (sortO_mem.2 h1) (sortO_mem.2 hy) hd hL)⟩, rfl⟩
  · left
    refine Classical.byContradiction fun hq => h2 (.miss (sortO_mem.2 h1) hd (fun y hy2 e => hy ⟨y, sortO_mem.1 hy2, e⟩) (by simpa using hq))
theorem kept_great {C : Ins → Prop} (hn : (l.map (·.d)).Nodup) (hq : ∀ y ∈ l, q y.d = false) (hs : ∀ x, C x → x ∈ l) (hc : ∀ x, C x → ∀ d ∈ depsL x, q d = true ∨ ∃ y, C y ∧ y.d = d) (hx : C x) : x ∈ keptO q l := by
  refine kept_mem.2 ⟨hs x hx, fun hL => ?_⟩
  induction hL with
  | @miss x d _ hd hno hqd =>
    rcases hc x hx d hd with h | ⟨y, hy, e⟩
    · rw [hqd] at h; cases h
    · exact hno y (sortO_mem.2 (hs y hy)) e
  | @next x y _ hy hd _ ih =>
    rcases hc x hx y.d hd with h | ⟨y', hy', e⟩
    · rw [hq y (sortO_mem.1 hy)] at h; cases h
    · exact ih (ins_inj hn (hs y' hy') (sortO_mem.1 hy) e ▸ hy')
theorem kept_all (hc : ∀ x ∈ l, ∀ d ∈ depsL x, q d = true ∨ ∃ y ∈ l, y.d = d) (hn : (l.map (·.d)).Nodup) (hq : ∀ y ∈ l, q y.d = false) : x ∈ keptO q l ↔ x ∈ l :=
  ⟨fun h => (kept_mem.1 h).1, fun h => kept_great (C := fun x => x ∈ l) hn hq (fun _ h => h) (fun x hx d hd => hc x hx d hd) h⟩
/-- within what is closed all that is reached lies -/
theorem dr_closed (hn : (K.map (·.d)).Nodup) (hs : ∀ x ∈ M, x ∈ K) (hc : ∀ x ∈ M, ∀ d ∈ depsL x, ∃ y ∈ M, y.d = d) (hx : x ∈ M) (h : DR K x y) : y ∈ M ∧ DR M x y := by
  induction h with
  | refl => exact ⟨hx, .refl _⟩
  | @step y z _ hz hd ih =>
    obtain ⟨z', hz', e⟩ := hc y ih.1 z.d hd
    have : z' = z := ins_inj hn (hs z' hz') hz e
    subst this
    exact ⟨hz', .step ih.2 hz' hd⟩
/-- T3: where each two hang together, the line of what is closed is a beginning -/
theorem line_prefix (hn : (K.map (·.d)).Nodup) (hnm : (M.map (·.d)).Nodup) (hs : ∀ x ∈ M, x ∈ K) (hc : ∀ x ∈ M, ∀ d ∈ depsL x, ∃ y ∈ M, y.d = d) (hT : ∀ x ∈ K, ∀ y ∈ K, x ≠ y → x.d ∈ depsL y ∨ y.d ∈ depsL x) :
    lineK M = (lineK K).take (lineK M).length := by
  have key : ∀ N : List Ins, (N.map (·.d)).Nodup → (∀ x ∈ N, x ∈ K) → (∀ x ∈ N, ∀ y ∈ N, (DR N x y ↔ DR K x y)) → (lineK N).Pairwise fun x y => (Mut K x y ∧ insLt x y) ∨ (¬ Mut K x y ∧ DR K y x) := by
    intro N hnn hsn hdr
    have h1 := lineK_pw hnn
    have h2 := List.nodup_iff_pairwise_ne.1 (lineK_nodup hnn)
    rw [List.pairwise_map] at h2
    refine List.Pairwise.imp_of_mem (fun {x y} hx hy hxy => ?_) (List.pairwise_and_iff.2 ⟨h1, h2⟩)
    have hx := lineK_mem.1 hx
    have hy := lineK_mem.1 hy
    have hm : Mut N x y ↔ Mut K x y := and_congr (hdr x hx y hy) (hdr y hy x hx)
    obtain ⟨h3, h4⟩ := hxy
    rw [hm] at h3
    rcases h3 with h3 | ⟨h3, h5⟩
    · exact .inl h3
    · rcases hT x (hsn x hx) y (hsn y hy) (fun e => h4 (by rw [e])) with h6 | h6
      · exact .inr ⟨h3, .one (hsn x hx) h6⟩
      · exact absurd h6 h5
  refine prefix_of (R := fun x y => (Mut K x y ∧ insLt x y) ∨ (¬ Mut K x y ∧ DR K y x)) (fun x y h1 h2 => ?_) (lineK K) (lineK M) (key K hn (fun _ h => h) fun _ _ _ _ => Iff.rfl)
    (key M hnm hs fun x hx y _ => ⟨DR.mono hs, fun h => (dr_closed hn hs hc hx h).2⟩) (fun y hy => lineK_mem.2 (hs y (lineK_mem.1 hy))) fun y hy x hx h => ?_
  · rcases h1 with ⟨a1, a2⟩ | ⟨a1, a2⟩ <;> rcases h2 with ⟨b1, b2⟩ | ⟨b1, b2⟩
    · unfold insLt at a2 b2; omega
    · exact b1 a1.symm
    · exact a1 b1.symm
    · exact a1 ⟨b2, a2⟩
  · have hy := lineK_mem.1 hy
    refine lineK_mem.2 ?_
    rcases h with ⟨h, _⟩ | ⟨_, h⟩
    · exact (dr_closed hn hs hc hy h.2).1
    · exact (dr_closed hn hs hc hy h).1
end
end Go.Proofs.Ytkjhccpanedccaa
namespace Go.Proofs.Ytkjhccpanedccaa
set_option linter.unusedVariables false
set_option linter.unusedSimpArgs false
open Go Go.Eng Go.Tar Go.Sort
def stepK (q : Dot → Bool) (K : List Ins) : List Ins := K.filter fun x => (depsL x).all fun d => q d || K.any fun y => decide (y.d = d)
def iterK (q : Dot → Bool) : Nat → List Ins → List Ins
  | 0, K => K
  | n + 1, K => iterK q n (stepK q K)
def keptC (q : Dot → Bool) (l : List Ins) : List Ins := iterK q l.length (sortO l)
section
variable {q : Dot → Bool} {K l : List Ins} {x : Ins}
theorem iterK_sub : ∀ (n : Nat) (K : List Ins), (iterK q n K).Sublist K
  | 0, K => List.Sublist.refl _
  | n + 1, K => (iterK_sub n (stepK q K)).trans List.filter_sublist
theorem iterK_fix : ∀ (n : Nat) (K : List Ins), K.length ≤ n → stepK q (iterK q n K) = iterK q n K
  | 0, K, h => by
    have : K = [] := List.eq_nil_of_length_eq_zero (by omega)
    subst this; rfl
  | n + 1, K, h => by
    show stepK q (iterK q n (stepK q K)) = iterK q n (stepK q K)
    by_cases e : stepK q K = K
    · rw [e]
      have : ∀ m, iterK q m K = K := fun m => by
        induction m with
        | zero => rfl
        | succ m ih => show iterK q m (stepK q K) = K; rw [e]; exact ih
      rw [this, e]
    · refine iterK_fix n _ ?_
      have h1 : (stepK q K).length ≤ K.length := List.length_filter_le _ _
      have h2 : (stepK q K).length ≠ K.length := fun e2 => e ((List.filter_sublist (l := K)).eq_of_length e2)
      omega
theorem stepK_mem : x ∈ stepK q K ↔ x ∈ K ∧ ∀ d ∈ depsL x, q d = true ∨ ∃ y ∈ K, y.d = d := by
  unfold stepK
  rw [List.mem_filter, List.all_eq_true]
  simp only [Bool.or_eq_true, List.any_eq_true, decide_eq_true_eq]
theorem iterK_great {C : Ins → Prop} (hc : ∀ x, C x → ∀ d ∈ depsL x, q d = true ∨ ∃ y, C y ∧ y.d = d) : ∀ (n : Nat) (K : List Ins), (∀ x, C x → x ∈ K) → ∀ x, C x → x ∈ iterK q n K
  | 0, K, h => h
  | n + 1, K, h => iterK_great hc n _ fun x hx => stepK_mem.2 ⟨h x hx, fun d hd => (hc x hx d hd).imp_right fun ⟨y, hy, e⟩ => ⟨y, h y hy, e⟩⟩
open Classical in
theorem sub_filter {α : Type} {S L : List α} (h : S.Sublist L) (hn : L.Nodup) : S = L.filter fun x => decide (x ∈ S) := by
  induction h with
  | slnil => rfl
  | @cons S L a h ih =>
    rw [List.nodup_cons] at hn
    rw [List.filter_cons, if_neg (by simpa using fun ha => hn.1 (h.mem ha))]
    exact ih hn.2
  | @cons_cons S L a h ih =>
    rw [List.nodup_cons] at hn
    rw [List.filter_cons, if_pos (by simp)]
    congr 1
    refine (ih hn.2).trans (List.filter_congr fun x hx => ?_)
    have : x ≠ a := fun e => hn.1 (e ▸ hx)
    simp [this]
theorem nodup_of_map {α β : Type} {f : α → β} {l : List α} (h : (l.map f).Nodup) : l.Nodup := by
  rw [List.nodup_iff_pairwise_ne, List.pairwise_map] at h
  rw [List.nodup_iff_pairwise_ne]
  exact h.imp fun {a b} hab e => hab (by rw [e])
theorem kept_eq (hn : (l.map (·.d)).Nodup) (hq : ∀ y ∈ l, q y.d = false) : keptO q l = keptC q l := by
  have h1 : ∀ x, x ∈ keptO q l ↔ x ∈ keptC q l := fun x => by
    constructor
    · exact fun h => iterK_great (C := fun x => x ∈ keptO q l) (fun x hx d hd => kept_closed hx hd) l.length (sortO l) (fun x hx => sortO_mem.2 (kept_mem.1 hx).1) x h
    · intro h
      refine kept_great (C := fun x => x ∈ keptC q l) hn hq (fun x hx => sortO_mem.1 ((iterK_sub _ _).mem hx)) (fun x hx d hd => ?_) h
      have hf := iterK_fix (q := q) l.length (sortO l) (by rw [sortO_len]; exact Nat.le_refl _)
      have hx2 : x ∈ stepK q (keptC q l) := by unfold keptC; rw [hf]; exact hx
      exact (stepK_mem.1 hx2).2 d hd
  have hnd := nodup_of_map (sortO_nodup hn)
  have e1 := sub_filter (S := keptO q l) kept_sub hnd
  have e2 := sub_filter (S := keptC q l) (iterK_sub l.length (sortO l)) hnd
  exact e1.trans ((List.filter_congr fun x _ => by rw [decide_eq_decide]; exact h1 x).trans e2.symm)
/-- the line, as a machine computes it -/
def lineC (done : P7 Int) (also : List Dot) (l : List Ins) : List Dot :=
  if goodO l = true then dotsO (sortO (keptC (isO done also) (l.filter fun x => !isO done also x.d))) (lineF (onL (sortO (keptC (isO done also) (l.filter fun x => !isO done also x.d))))) else []
theorem lineTop_eq (done : P7 Int) (also : List Dot) (l : List Ins) : lineTop done also l = lineC done also l := by
  unfold lineTop lineC
  by_cases h : goodO l = true
  · rw [if_pos h, if_pos h]
    have hn := (goodO_iff.1 h).2.1
    unfold lineO
    rw [kept_eq (hn.sublist (List.filter_sublist.map _)) fun y hy => by simpa using (List.mem_filter.1 hy).2]
  · rw [if_neg h, if_neg h]
def ringO : List Ins := [⟨⟨0, 1⟩, 2, ⟨0, 1, 0, 0, 0, 0, 0⟩⟩, ⟨⟨1, 1⟩, 1, ⟨1, 0, 0, 0, 0, 0, 0⟩⟩]
theorem ring_line : lineTop (P7.all 0) [] ringO = [⟨1, 1⟩, ⟨0, 1⟩] := by
  rw [lineTop_eq]; decide +kernel
theorem ring_groups : groupsTop ringO = [[⟨1, 1⟩, ⟨0, 1⟩]] := by decide +kernel
theorem ring_good : goodO ringO = true := by decide +kernel
end
end Go.Proofs.Ytkjhccpanedccaa
namespace Go.Eng
set_option linter.unusedVariables false
set_option linter.unusedSimpArgs false
open Go Go.RowKit Go.ChangeShapes Go.WideShapes Go.Deep

inductive Cl where
  | int (k : IntKind)
  | str
  | bool
  | sl (e : List Cl)

mutual
inductive GoodC (W : World) : Cl → Value → Prop where
  | int {k : IntKind} {n : Int} (h : (Lit.int k n).wf = true) : GoodC W (.int k) (.int k n)
  | str {s : ByteArray} (h : s.size ≤ maxLen) : GoodC W .str (.string s)
  | bool {b : Bool} : GoodC W .bool (.bool b)
  | sl {e : List Cl} {a : Option Addr} {n c : Nat} (rows : Nat → List Value) (hc : n ≤ c) (hm : c ≤ maxLen) (hn : a = none → c = 0)
      (hr : ∀ i, i < n → ∃ b o, a = some ⟨b, o, none⟩ ∧ ro W b (o + i * e.length) (rows i)) (hg : ∀ i, i < n → GoodL W e (rows i)) : GoodC W (.sl e) (.slice a n c)
inductive GoodL (W : World) : List Cl → List Value → Prop where
  | nil : GoodL W [] []
  | cons {c : Cl} {cs : List Cl} {v : Value} {vs : List Value} (h : GoodC W c v) (hs : GoodL W cs vs) : GoodL W (c :: cs) (v :: vs)
end

theorem GoodL.app {W : World} : ∀ {l : List Cl} {vs : List Value} {l' : List Cl} {vs' : List Value}, GoodL W l vs → GoodL W l' vs' → GoodL W (l ++ l') (vs ++ vs')
  | _, _, _, _, .nil, h => h
  | _, _, _, _, .cons h hs, h' => .cons h (hs.app h')
theorem GoodL.len {W : World} : ∀ {l : List Cl} {vs : List Value}, GoodL W l vs → vs.length = l.length
  | _, _, .nil => rfl
  | _, _, .cons h hs => by simp [hs.len]

def clF (P : Program) (g : TypeId → Option (List Cl)) : List Field → Nat → Option (List Cl)
  | [], _ => some []
  | f :: r, off => match Nat.beq f.offset off with
    | false => none
    | true => match g f.type with
      | some ks => match Nat.beq (P.cellsOf f.type) ks.length with
        | true => (match clF P g r (off + ks.length) with | some l => some (ks ++ l) | none => none)
        | false => none
      | none => none
/-- the cells of a type -/
def cls (P : Program) : Nat → TypeId → Option (List Cl)
  | 0, _ => none
  | d + 1, t => match P.underlying t with
    | some (.int k) => some [.int k]
    | some .string => some [.str]
    | some .bool => some [.bool]
    | some (.slice e) => (match cls P d e with | some l => (match Nat.beq (P.cellsOf e) l.length && !Nat.beq l.length 0 with | true => some [.sl l] | false => none) | none => none)
    | some (.struct fs) => (match clF P (cls P d) fs.toList 0 with | some l => (match Nat.beq (P.cellsOf t) l.length with | true => some l | false => none) | none => none)
    | some (.array n e) => (match cls P d e with | some l => (match Nat.beq (P.cellsOf e) l.length && Nat.beq (P.cellsOf t) (n * l.length) with | true => some (List.replicate n l).flatten | false => none) | none => none)
    | _ => none

section
variable {P : Program} {w : World} {H : Type} {enc : TypeId × Value → H}

theorem good_fields {g : TypeId → Option (List Cl)} {n : Nat} {cs : List Value}
    (hg : ∀ t l, g t = some l → ∀ cs x, DataW.trod enc P w 0 (fun _ => true) true n t cs = some x → GoodL w l cs) :
    ∀ (fs : List Field) (off : Nat) (l : List Cl), clF P g fs off = some l → (∀ f ∈ fs, ∃ x, DataW.trod enc P w 0 (fun _ => true) true n f.type ((cs.drop f.offset).take (P.cellsOf f.type)) = some x) →
      GoodL w l ((cs.drop off).take l.length)
  | [], off, l, h, _ => by simp only [clF, Option.some.injEq] at h; subst h; simpa using GoodL.nil
  | f :: fs, off, l, h, hx => by
    simp only [clF] at h
    split at h
    · cases h
    · rename_i ho
      have ho := Nat.eq_of_beq_eq_true ho
      split at h
      · rename_i ks hks
        split at h
        · rename_i hsz
          have hsz := Nat.eq_of_beq_eq_true hsz
          split at h
          · rename_i l' hl'
            simp only [Option.some.injEq] at h
            subst h
            obtain ⟨x, hx0⟩ := hx f (by simp)
            rw [hsz, ho] at hx0
            have h1 := hg _ _ hks _ _ hx0
            have h2 := good_fields hg fs _ _ hl' (fun f' hf' => hx f' (List.mem_cons_of_mem _ hf'))
            have := h1.app h2
            rw [← List.drop_drop, ← List.take_add] at this
            simpa using this
          · cases h
        · cases h
      · cases h

theorem open_cls : ∀ (m : Nat) (t : TypeId) (l : List Cl), cls P m t = some l → ∀ (fuel : Nat) (cs : List Value) (x : DataW H × List MemPlace), DataW.trod enc P w 0 (fun _ => true) true fuel t cs = some x → GoodL w l cs
  | 0, _, _, h => by simp [cls] at h
  | m + 1, t, l, h => by
    intro fuel cs x hx
    simp only [cls] at h
    cases ht : P.underlying t with
    | none => rw [ht] at h; cases h
    | some d =>
      rw [ht] at h
      cases d <;> simp only at h <;> try (cases h; done)
      case int k =>
        simp only [Option.some.injEq] at h
        subst h
        obtain ⟨n, rfl, _, hw⟩ := DataW.trod_int ht hx
        exact .cons (.int hw) .nil
      case string =>
        simp only [Option.some.injEq] at h
        subst h
        obtain ⟨n, rfl, _, hw⟩ := DataW.trod_string ht hx
        exact .cons (.str hw) .nil
      case bool =>
        simp only [Option.some.injEq] at h
        subst h
        obtain ⟨n, rfl, _⟩ := DataW.trod_bool ht hx
        exact .cons .bool .nil
      case slice e =>
        split at h
        · rename_i le hle
          split at h
          · rename_i hb
            simp only [Bool.and_eq_true, Bool.not_eq_true'] at hb
            have hsz := Nat.eq_of_beq_eq_true hb.1
            have hpos : 0 < le.length := Nat.pos_of_ne_zero fun e => by rw [e] at hb; simp at hb
            simp only [Option.some.injEq] at h
            subst h
            rcases open_slice ht hx with ⟨rfl, _⟩ | ⟨a, len, cap, mm, n, D, Pl, rfl, hb0, hl, hmx, hmm, rfl, hel⟩
            · exact .cons (.sl (fun _ => []) (by omega) (by simp [maxLen]) (fun _ => rfl) (fun i hi => by omega) (fun i hi => by omega)) .nil
            · simp only [if_true] at hmm
              subst hmm
              rw [hsz] at hel
              obtain ⟨rows, hrows⟩ := choose_lt (α := List Value) (p := fun i cs' => w.cells? 0 (a.add (i * le.length)) le.length = some cs' ∧ DataW.trod enc P w 0 (fun _ => true) true n e cs' = some (D i, Pl i)) hel
              refine .cons (.sl rows hl hmx (fun h => by cases h) (fun i hi => ?_) (fun i hi => open_cls m e le hle n _ _ (hrows i (by omega)).2)) .nil
              obtain ⟨_, hlen0, hcell0⟩ := World.cells?_some (hrows 0 (by omega)).1
              obtain ⟨_, hlen, hcell⟩ := World.cells?_some (hrows i (by omega)).1
              have h0 : ∃ v, w.cell? a = some v := by
                have := hcell0 0 hpos
                simp only [Nat.zero_mul, Addr.add, if_true] at this
                rw [this]
                exact ⟨(rows 0)[0]'(by omega), by simp⟩
              obtain ⟨v, hv⟩ := h0
              have hsp := World.cell?_spot hv
              obtain ⟨ab, ao, asp⟩ := a
              simp only at hsp
              subst hsp
              refine ⟨ab, ao, rfl, fun j hj => ?_⟩
              have := hcell j (by omega)
              rw [add_none, add_none] at this
              exact this
          · cases h
        · cases h
      case struct fs =>
        split at h
        · rename_i l' hl'
          split at h
          · rename_i hsz
            have hsz := Nat.eq_of_beq_eq_true hsz
            simp only [Option.some.injEq] at h
            subst h
            obtain ⟨xs, n, rfl, rfl, hlen, hxs, hf⟩ := DataW.trod_struct ht hx
            have := good_fields (cs := cs) (fun t l hl cs x hx => open_cls m t l hl n cs x hx) fs.toList 0 l' hl' (fun f hf' => by
              obtain ⟨i, hi, rfl⟩ := List.getElem_of_mem hf'
              have hi' : i < fs.size := by simpa using hi
              have := hf i fs[i] (by simp [hi'])
              rw [show fs.toList[i] = fs[i] by simp, this]
              exact ⟨xs[i]'(by omega), by simp⟩)
            rw [← hsz, ← hlen] at this
            simpa using this
          · cases h
        · cases h
      case array k e =>
        split at h
        · rename_i le hle
          split at h
          · rename_i hb
            simp only [Bool.and_eq_true] at hb
            have hsz := Nat.eq_of_beq_eq_true hb.1
            have hsz2 := Nat.eq_of_beq_eq_true hb.2
            simp only [Option.some.injEq] at h
            subst h
            obtain ⟨xs, n, rfl, rfl, hlen, hxs, hf⟩ := DataW.trod_array ht hx
            rw [hsz2] at hlen
            rw [hsz] at hf
            have key : ∀ j, j ≤ k → GoodL w (List.replicate j le).flatten (cs.take (j * le.length)) := by
              intro j
              induction j with
              | zero => intro _; simpa using GoodL.nil
              | succ j ih =>
                intro hj
                have h1 := hf j (by omega)
                have h2 : GoodL w le ((cs.drop (j * le.length)).take le.length) := by
                  refine open_cls m e le hle n _ (xs[j]'(by omega)) ?_
                  rw [h1]; simp
                have := (ih (by omega)).app h2
                rw [← List.take_add] at this
                rw [List.replicate_succ', List.flatten_append, Nat.succ_mul]
                simpa using this
            have := key k (Nat.le_refl _)
            rw [← hlen] at this
            simpa using this
          · cases h
        · cases h

/-- an argument of a law -/
def GoodA (w : World) (l : List Cl) (agg : Bool) (v : Value) : Prop := GoodL w l (vcells v) ∧ (agg = true → ∃ cs : List Value, v = .agg cs.toArray) ∧ (agg = false → vcells v = [v])
theorem open_arg {t : TypeId} {l : List Cl} {agg : Bool} {m : Nat} {v : Value} {d : DataW H} {ps : List MemPlace} {r : Reach} {b0 : Nat} (hl : cls P m t = some l) (ha : (P.underlying t).map aggB = some agg)
    (hval : Value.okWide P w r b0 t v) (h : DataW.Trod enc P w 0 (fun _ => true) true t v d ps) : GoodA w l agg v := by
  obtain ⟨fuel, hf⟩ := h
  obtain ⟨u, hu, hu'⟩ := Option.map_eq_some_iff.1 ha
  refine ⟨by have := open_cls m t l hl _ _ _ hf; rwa [vcells_eq] at this, fun hagg => ?_, fun hagg => ?_⟩
  · subst hagg
    cases u <;> simp only [aggB] at hu' <;> try (cases hu'; done)
    case struct fs =>
      obtain ⟨cs, rfl, _⟩ := okWide_struct hu hval
      exact ⟨cs.toList, rfl⟩
    case array n e =>
      simp only [Value.okWide, hu] at hval
      cases v <;> simp_all
      exact ⟨_, (Array.toArray_toList).symm⟩
  · subst hagg
    cases m with
    | zero => simp [cls] at hl
    | succ m =>
      simp only [cls, hu] at hl
      cases u <;> simp only [aggB] at hu' <;> simp only at hl <;> try (first | (cases hu'; done) | (cases hl; done))
      case int k => obtain ⟨n, rfl⟩ := okWide_int hu hval; rfl
      case string => obtain ⟨n, rfl⟩ := okWide_string hu hval; rfl
      case bool => obtain ⟨n, rfl⟩ := okWide_bool hu hval; rfl
      case slice e => obtain ⟨a, b, c, rfl⟩ := okWide_slice hu hval; rfl
theorem GoodL.cons' {c : Cl} {cs : List Cl} {vs : List Value} (h : GoodL w (c :: cs) vs) : ∃ v vs', vs = v :: vs' ∧ GoodC w c v ∧ GoodL w cs vs' := by
  cases h with | cons h1 h2 => exact ⟨_, _, rfl, h1, h2⟩
theorem GoodL.nil' {vs : List Value} (h : GoodL w [] vs) : vs = [] := by cases h; rfl
theorem GoodA.one {c : Cl} {v : Value} (h : GoodA w [c] false v) : GoodC w c v := by
  obtain ⟨h1, _, h2⟩ := h
  rw [h2 rfl] at h1
  cases h1 with | cons h _ => exact h
theorem GoodC.int' {k : IntKind} {v : Value} (h : GoodC w (.int k) v) : ∃ n, v = .int k n ∧ (Lit.int k n).wf = true := by
  cases h with | int h => exact ⟨_, rfl, h⟩
theorem GoodC.str' {v : Value} (h : GoodC w .str v) : ∃ s : ByteArray, v = .string s ∧ s.size ≤ maxLen := by
  cases h with | str h => exact ⟨_, rfl, h⟩
theorem GoodC.bool' {v : Value} (h : GoodC w .bool v) : ∃ b, v = .bool b := by
  cases h with | bool => exact ⟨_, rfl⟩
/-- a slice whose rows are of a kind -/
theorem GoodC.sl' {e : List Cl} {v : Value} {α : Type} [Inhabited α] {q : α → List Value → Prop} (h : GoodC w (.sl e) v) (hq : ∀ vs, GoodL w e vs → ∃ a, q a vs) :
    ∃ a n c, ∃ A : Nat → α, v = .slice a n c ∧ n ≤ c ∧ c ≤ maxLen ∧ (a = none → c = 0) ∧ ∀ i, i < n → ∃ b o vs, a = some ⟨b, o, none⟩ ∧ ro w b (o + i * e.length) vs ∧ q (A i) vs := by
  cases h with
  | sl rows hc hm hn hr hg =>
    obtain ⟨A, hA⟩ := choose_lt fun i hi => hq _ (hg i hi)
    exact ⟨_, _, _, A, rfl, hc, hm, hn, fun i hi => let ⟨b, o, h1, h2⟩ := hr i hi; ⟨b, o, rows i, h1, h2, hA i hi⟩⟩
theorem keep_all (hl : laidOutB P = true) : ∀ {ts : List TypeId} {vs : List Value} {ds : List (DataW H)} {ps : List MemPlace} {W W' : World}, ts.all (fun t => P.readableRec t && decide (t < P.types.size)) = true →
    DataW.TrodAll enc P W 0 (fun _ => true) true ts vs ds ps → Below W.heap.size W W' → DataW.TrodAll enc P W' 0 (fun b => decide (b < W.heap.size)) true ts vs ds ps
  | [], [], [], _, _, _, _, h, _ => h
  | [], [], _ :: _, _, _, _, _, h, _ => h.elim
  | [], _ :: _, _, _, _, _, _, h, _ => h.elim
  | _ :: _, [], _, _, _, _, _, h, _ => h.elim
  | _ :: _, _ :: _, [], _, _, _, _, h, _ => h.elim
  | t :: ts, v :: vs, d :: ds, ps, W, W', ha, h, hb => by
    obtain ⟨p, q, h1, h2, rfl⟩ := h
    simp only [List.all_cons, Bool.and_eq_true, decide_eq_true_eq] at ha
    have lt : ∀ x ∈ p, x.block < W.heap.size := by obtain ⟨m, hm⟩ := h1; exact DataW.trod_lt m _ _ _ hm
    exact ⟨p, q, Below.trod hl ha.1.1 ha.1.2 h1 hb lt, keep_all hl ha.2 h2 hb, rfl⟩
end
end Go.Eng
namespace Go.Eng
set_option linter.unusedVariables false
set_option linter.unusedSimpArgs false
open Go Go.RowKit

theorem wf64 {n : Int} (h : (Lit.int .i64 n).wf = true) : -9223372036854775808 ≤ n ∧ n ≤ 9223372036854775807 := by
  simp only [Lit.wf, Bool.and_eq_true, decide_eq_true_eq] at h
  exact h
theorem wf8 {n : Int} (h : (Lit.int .u8 n).wf = true) : 0 ≤ n ∧ n ≤ 255 := by
  simp only [Lit.wf, Bool.and_eq_true, decide_eq_true_eq] at h
  exact h
theorem ro_rows {α : Type} {A : Ly α} {w : World} {b o : Nat} : ∀ (l : List α), (∀ i (hi : i < l.length), ro w b (o + i * A.sz) (A.row l[i])) → ro w b o (A.rows l) := by
  intro l h j hj
  rw [Ly.rows_len] at hj
  have hp := A.pos
  have hi : j / A.sz < l.length := Nat.div_lt_of_lt_mul (by rw [Nat.mul_comm]; exact hj)
  have hr : j % A.sz < A.sz := Nat.mod_lt _ hp
  have h1 := h _ hi (j % A.sz) (by rw [A.len]; exact hr)
  have e : o + j / A.sz * A.sz + j % A.sz = o + j := by rw [Nat.add_assoc, Nat.div_add_mod']
  rw [e] at h1
  rw [h1, ← Ly.rows_at hi, List.getElem?_take_of_lt hr, List.getElem?_drop, Nat.div_add_mod']
theorem openArr {α : Type} [Inhabited α] (A : Ly α) {e : List Cl} (p : α → Prop) {w : World} {v : Value} (h : GoodC w (.sl e) v) (he : e.length = A.sz) (hq : ∀ vs, GoodL w e vs → ∃ a, vs = A.row a ∧ p a) :
    ∃ (a : Option Addr) (c : Nat) (l : List α), v = .slice a l.length c ∧ l.length ≤ c ∧ c ≤ maxLen ∧ Rd w [] a A l ∧ ∀ x ∈ l, p x := by
  obtain ⟨a, n, c, F, rfl, hn, hc, ha, hr⟩ := h.sl' (q := fun x vs => vs = A.row x ∧ p x) hq
  refine ⟨a, c, (List.range n).map F, by simp, by simpa using hn, hc, Rd.base ?_, fun x hx => ?_⟩
  · by_cases hn0 : n = 0
    · subst hn0; exact .inl rfl
    · right
      obtain ⟨b, o, vs, rfl, _⟩ := hr 0 (by omega)
      refine ⟨b, o, rfl, ro_rows _ fun i hi => ?_⟩
      obtain ⟨b', o', vs, h1, h2, h3, _⟩ := hr i (by simpa using hi)
      cases h1
      rw [he] at h2
      subst h3
      simpa using h2
  · obtain ⟨i, hi, rfl⟩ := List.mem_map.1 hx
    obtain ⟨_, _, _, _, _, _, h⟩ := hr i (by simpa using hi)
    exact h
/-- a slice of bytes -/
theorem openBytes {w : World} {v : Value} (h : GoodC w (.sl [.int .u8]) v) : ∃ (a : Option Addr) (c : Nat) (l : List UInt8), v = .slice a l.length c ∧ l.length ≤ c ∧ c ≤ maxLen ∧ Rd w [] a B8 l := by
  obtain ⟨a, c, l, h1, h2, h3, h4, _⟩ := openArr B8 (fun _ => True) h rfl fun vs hv => by
    obtain ⟨_, _, rfl, h1, h⟩ := hv.cons'
    obtain rfl := h.nil'
    obtain ⟨n, rfl, hn⟩ := h1.int'
    have := wf8 hn
    refine ⟨UInt8.ofNat n.toNat, ?_, trivial⟩
    have e : (UInt8.ofNat n.toNat).toNat = n.toNat := by simp [UInt8.toNat_ofNat']; omega
    show _ = [b8 _]
    simp only [b8, e]
    rw [Int.toNat_of_nonneg this.1]
  exact ⟨a, c, l, h1, h2, h3, h4⟩
end Go.Eng
namespace Go.Proofs.Ytkjhccpanedccaa
set_option linter.unusedVariables false
set_option linter.unusedSimpArgs false
open Go Go.Eng Go.RowKit
structure Lo (W W' : World) : Prop where
  below : Below W.heap.size W W'
theorem St.startz (W : World) : St { W with drawn := 0 } [] W := ⟨⟨⟨rfl, rfl, rfl, Nat.le_refl _, fun _ _ => rfl⟩, Nat.zero_le _⟩, fun _ => none, fun _ => rfl, fun b o h => by cases h⟩
theorem St.lo {W W' : World} {L : List Asn} (h : St { W with drawn := 0 } L W') : Lo W W' := ⟨⟨h.bel.os, h.bel.tape, h.bel.output, h.bel.size, h.bel.block⟩⟩
mutual
theorem goodCz {W : World} {c : Cl} {v : Value} : GoodC W c v → GoodC { W with drawn := 0 } c v
  | .int h => .int h
  | .str h => .str h
  | .bool => .bool
  | .sl rows hc hm hn hr hg => .sl rows hc hm hn hr fun i hi => goodLz (hg i hi)
theorem goodLz {W : World} {l : List Cl} {v : List Value} : GoodL W l v → GoodL { W with drawn := 0 } l v
  | .nil => .nil
  | .cons h hs => .cons (goodCz h) (goodLz hs)
end
theorem goodAz {W : World} {l : List Cl} {b : Bool} {v : Value} (h : GoodA W l b v) : GoodA { W with drawn := 0 } l b v := ⟨goodLz h.1, h.2⟩
end Go.Proofs.Ytkjhccpanedccaa
namespace Go.Proofs.Ytkjhccpanedccaa
set_option linter.unusedVariables false
set_option linter.unusedSimpArgs false
open Go.Eng
/-! ### rostrum/rostrumref7.SameDots (35) -/
def S.rostrumref7_SameDots.l1 (R : Value → World → Prop) (K1 : List Value → World → Prop) (x0 x1 x5 : Value) (W : World) : Prop :=
  okF (lenP (.slice T_api_Dot) x0) fun v13 =>
  okF (binP .lss x5 v13) fun v14 =>
  ifK v14 (
  okF (idxS 2 x0 x5) fun v19 =>
  rdK PR (Instr.loadAt T_api_Dot v19) (fun v20 W =>
  okF (idxS 2 x1 x5) fun v23 =>
  rdK PR (Instr.loadAt T_api_Dot v23) (fun v24 W =>
  rdK PR (aggEq .neq T_api_Dot v20 v24) (fun v25 W =>
  ifK v25 (
  R (.bool false) W) (
  okF (binP .add x5 (.int .i64 1)) fun v16 =>
  K1 [x0, x1, v16] W)) W) W) (tick W)) (
  R (.bool true) W)
def S.rostrumref7_SameDots.body (R : Value → World → Prop) (v0 v1 : Value) (W : World) : Prop :=
  okF (lenP (.slice T_api_Dot) v0) fun v7 =>
  okF (lenP (.slice T_api_Dot) v1) fun v9 =>
  okF (binP .neq v7 v9) fun v10 =>
  ifK v10 (
  R (.bool false) W) (
  loopK (fun K1 s W => S.rostrumref7_SameDots.l1 R K1 (nthv s 0) (nthv s 1) (nthv s 2) W) [v0, v1, (.int .i64 0)] W)
def S.rostrumref7_SameDots.hint : Hint := (.two .nil (.two (.two .nil (.two (.two .nil .nil) .nil)) (.two (.two .nil (.at [0, 1, 5] (.two (.two .nil (.two .nil .nil)) (.two (.two .nil (.two (.two .nil .nil) .nil)) .nil)) .nil)) (.two .nil .nil))))
theorem S.rostrumref7_SameDots.ok (R : Value → World → Prop) (v0 v1 : Value) (W : World) : bodyK PR CB Try.f35 S.rostrumref7_SameDots.hint [v0, v1] R W = S.rostrumref7_SameDots.body R v0 v1 W := by kernel_rfl
theorem S.rostrumref7_SameDots.fn : PR.funcs[F_rostrumref7_SameDots]? = some Try.f35 := by kernel_rfl
theorem S.rostrumref7_SameDots.call {R : Value → World → Prop} {v0 v1 : Value} {W : World} (h : S.rostrumref7_SameDots.body R v0 v1 W) : callK PR F_rostrumref7_SameDots [v0, v1] R W :=
  callK_of_body (g := F_rostrumref7_SameDots) (fn := Try.f35) (args := [v0, v1]) (R := R) (w := W) mixed CBok S.rostrumref7_SameDots.fn S.rostrumref7_SameDots.hint (by rw [S.rostrumref7_SameDots.ok]; exact h)
end Go.Proofs.Ytkjhccpanedccaa
namespace Go.Proofs.Ytkjhccpanedccaa
set_option linter.unusedVariables false
set_option linter.unusedSimpArgs false
open Go Go.Eng Go.Tar Go.Sort Go.RowKit
theorem dot_eq (x y : Dot) : (decide (x.rep = y.rep) && decide (x.n = y.n)) = decide (x = y) := by
  cases x; cases y
  rw [Bool.eq_iff_iff]
  simp
theorem take_step {α : Type} {l m : List α} {i : Nat} (h : l.take i = m.take i) (hi : i < l.length) (hj : i < m.length) (he : l[i] = m[i]) : l.take (i + 1) = m.take (i + 1) := by
  rw [List.take_succ_eq_append_getElem hi, List.take_succ_eq_append_getElem hj, h, he]
section
variable {W0 W : World} {L L' : List Asn}
set_option maxRecDepth 100000 in
set_option maxHeartbeats 4000000 in
theorem refSameDots {a b : Option Addr} {c d : Nat} {l m : List Dot} {k : Value → World → Prop} (h : St W0 L W) [hr : Rd W0 L a DOT l] [hr2 : Rd W0 L b DOT m] (hl : l.length < 4611686018427387904)
    (hk : ∀ W', St W0 L W' → k (.bool (decide (l = m))) W') : callK PR F_rostrumref7_SameDots [.slice a l.length c, .slice b m.length d] k W := by
  apply S.rostrumref7_SameDots.call
  unfold S.rostrumref7_SameDots.body
  by_cases hn : l.length = m.length
  · have f1 : decide ((l.length : Int) = (m.length : Int)) = true := decide_eq_true (by omega)
    (repeat (first | (first | (with_reducible (first | refine w1 fun _ _ => ?_ | refine w3 fun _ _ _ => ?_ | refine w4 fun _ _ _ => ?_ | refine w11 fun _ _ _ => ?_ | refine stb_n ?_)) | ((with_reducible refine w2 ?_); try simp -implicitDefEqProofs only [EN, lsub, lget, stL, beq_self_eq_true, ne_eq, if_true, if_false, List.cons_append, List.nil_append, Option.isNone_some, Option.isNone_none, f1]; intro _ _) | ((with_reducible (first | refine w5 ?_ ?_ | refine w6 ?_ ?_ | refine w7 ?_ ?_)); simp; refine ⟨_, rfl, ?_⟩) | ((with_reducible (first | refine w8 ?_ ?_ ?_ | refine w9 ?_ ?_ ?_ | refine w10 ?_ ?_ ?_)); exact rfl; simp) | ((with_reducible refine w12 ?_ ?_ ?_ fun _ _ => ?_); simp; simp; simp [oneC]) | ((with_reducible (first | refine eqs ?_ | refine nes ?_)); refine ⟨_, rfl, ?_⟩) | ((refine okF_i (bldP_eq rfl) ?_); try simp only [BLS, List.take_succ_cons, List.take_zero, List.drop_succ_cons, List.drop_zero, List.cons_append, List.nil_append, Nat.reduceAdd])) | simp -implicitDefEqProofs only [EN, lsub, lget, stL, beq_self_eq_true, ne_eq, if_true, if_false, List.cons_append, List.nil_append, Option.isNone_some, Option.isNone_none, f1]))
    refine loop_c (σ := Unit) l.length (fun i _ => [.slice a l.length c, .slice b m.length d, .int .i64 i]) (fun i _ W1 => l.take i = m.take i ∧ St W0 L W1) () rfl ⟨rfl, h⟩ ?_
    clear h
    rintro K i _ W2 hi ⟨ht, h⟩ hK
    simp -implicitDefEqProofs only [EN, lsub, lget, stL, beq_self_eq_true, ne_eq, if_true, if_false, List.cons_append, List.nil_append, Option.isNone_some, Option.isNone_none]
    unfold S.rostrumref7_SameDots.l1
    by_cases hlt : (i : Int) < (l.length : Int)
    · have hib : i < l.length := by omega
      have hjb : i < m.length := by omega
      have ew : IntKind.i64.wrap ((i : Int) + 1) = ((i + 1 : Nat) : Int) := by rw [i64w]; omega
      (repeat (first | (first | (with_reducible (first | refine w1 fun _ _ => ?_ | refine w3 fun _ _ _ => ?_ | refine w4 fun _ _ _ => ?_ | refine w11 fun _ _ _ => ?_ | refine stb_n ?_)) | ((with_reducible refine w2 ?_); try simp -implicitDefEqProofs only [EN, lsub, lget, stL, beq_self_eq_true, ne_eq, if_true, if_false, List.cons_append, List.nil_append, Option.isNone_some, Option.isNone_none, hlt]; intro _ _) | ((with_reducible (first | refine w5 ?_ ?_ | refine w6 ?_ ?_ | refine w7 ?_ ?_)); simp; refine ⟨_, rfl, ?_⟩) | ((with_reducible (first | refine w8 ?_ ?_ ?_ | refine w9 ?_ ?_ ?_ | refine w10 ?_ ?_ ?_)); exact rfl; simp) | ((with_reducible refine w12 ?_ ?_ ?_ fun _ _ => ?_); simp; simp; simp [oneC]) | ((with_reducible (first | refine eqs ?_ | refine nes ?_)); refine ⟨_, rfl, ?_⟩) | ((refine okF_i (bldP_eq rfl) ?_); try simp only [BLS, List.take_succ_cons, List.take_zero, List.drop_succ_cons, List.drop_zero, List.cons_append, List.nil_append, Nat.reduceAdd])) | simp -implicitDefEqProofs only [EN, lsub, lget, stL, beq_self_eq_true, ne_eq, if_true, if_false, List.cons_append, List.nil_append, Option.isNone_some, Option.isNone_none, hlt]))
      refine ixA (i := i) (a := a) (l := l) (A := DOT) h.tick rfl rfl hib fun g o ha => ?_
      cases ha
      refine ldA0 (i := i) (l := l) (A := DOT) h.tick rfl hib (v := .agg #[.int .i64 (l[i]).rep, .int .i64 (l[i]).n]) rfl (by simp) ?_
      refine ixA (i := i) (a := b) (l := m) (A := DOT) h.tick rfl rfl hjb fun g' o' ha => ?_
      cases ha
      refine ldA0 (i := i) (l := m) (A := DOT) h.tick rfl hjb (v := .agg #[.int .i64 (m[i]).rep, .int .i64 (m[i]).n]) rfl (by simp) ?_
      generalize hx : l[i] = x at *
      generalize hy : m[i] = y at *
      by_cases he : x = y
      · have f2 : (decide (x.rep = y.rep) && decide (x.n = y.n)) = true := by rw [dot_eq]; exact decide_eq_true he
        (repeat (first | (first | (with_reducible (first | refine w1 fun _ _ => ?_ | refine w3 fun _ _ _ => ?_ | refine w4 fun _ _ _ => ?_ | refine w11 fun _ _ _ => ?_ | refine stb_n ?_)) | ((with_reducible refine w2 ?_); try simp -implicitDefEqProofs only [EN, lsub, lget, stL, beq_self_eq_true, ne_eq, if_true, if_false, List.cons_append, List.nil_append, Option.isNone_some, Option.isNone_none, f2, ew]; intro _ _) | ((with_reducible (first | refine w5 ?_ ?_ | refine w6 ?_ ?_ | refine w7 ?_ ?_)); simp; refine ⟨_, rfl, ?_⟩) | ((with_reducible (first | refine w8 ?_ ?_ ?_ | refine w9 ?_ ?_ ?_ | refine w10 ?_ ?_ ?_)); exact rfl; simp) | ((with_reducible refine w12 ?_ ?_ ?_ fun _ _ => ?_); simp; simp; simp [oneC]) | ((with_reducible (first | refine eqs ?_ | refine nes ?_)); refine ⟨_, rfl, ?_⟩) | ((refine okF_i (bldP_eq rfl) ?_); try simp only [BLS, List.take_succ_cons, List.take_zero, List.drop_succ_cons, List.drop_zero, List.cons_append, List.nil_append, Nat.reduceAdd])) | simp -implicitDefEqProofs only [EN, lsub, lget, stL, beq_self_eq_true, ne_eq, if_true, if_false, List.cons_append, List.nil_append, Option.isNone_some, Option.isNone_none, f2, ew]))
        refine hK () _ hib ⟨take_step ht hib hjb (by rw [hx, hy, he]), h.tick⟩
      · have f2 : (decide (x.rep = y.rep) && decide (x.n = y.n)) = false := by rw [dot_eq]; exact decide_eq_false he
        have hne : decide (l = m) = false := decide_eq_false fun e => he (by subst e; rw [← hx, ← hy])
        rw [hne] at hk
        (repeat (first | (first | (with_reducible (first | refine w1 fun _ _ => ?_ | refine w3 fun _ _ _ => ?_ | refine w4 fun _ _ _ => ?_ | refine w11 fun _ _ _ => ?_ | refine stb_n ?_)) | ((with_reducible refine w2 ?_); try simp -implicitDefEqProofs only [EN, lsub, lget, stL, beq_self_eq_true, ne_eq, if_true, if_false, List.cons_append, List.nil_append, Option.isNone_some, Option.isNone_none, f2]; intro _ _) | ((with_reducible (first | refine w5 ?_ ?_ | refine w6 ?_ ?_ | refine w7 ?_ ?_)); simp; refine ⟨_, rfl, ?_⟩) | ((with_reducible (first | refine w8 ?_ ?_ ?_ | refine w9 ?_ ?_ ?_ | refine w10 ?_ ?_ ?_)); exact rfl; simp) | ((with_reducible refine w12 ?_ ?_ ?_ fun _ _ => ?_); simp; simp; simp [oneC]) | ((with_reducible (first | refine eqs ?_ | refine nes ?_)); refine ⟨_, rfl, ?_⟩) | ((refine okF_i (bldP_eq rfl) ?_); try simp only [BLS, List.take_succ_cons, List.take_zero, List.drop_succ_cons, List.drop_zero, List.cons_append, List.nil_append, Nat.reduceAdd])) | simp -implicitDefEqProofs only [EN, lsub, lget, stL, beq_self_eq_true, ne_eq, if_true, if_false, List.cons_append, List.nil_append, Option.isNone_some, Option.isNone_none, f2]))
        exact hk _ h.tick
    · (repeat (first | (first | (with_reducible (first | refine w1 fun _ _ => ?_ | refine w3 fun _ _ _ => ?_ | refine w4 fun _ _ _ => ?_ | refine w11 fun _ _ _ => ?_ | refine stb_n ?_)) | ((with_reducible refine w2 ?_); try simp -implicitDefEqProofs only [EN, lsub, lget, stL, beq_self_eq_true, ne_eq, if_true, if_false, List.cons_append, List.nil_append, Option.isNone_some, Option.isNone_none, hlt]; intro _ _) | ((with_reducible (first | refine w5 ?_ ?_ | refine w6 ?_ ?_ | refine w7 ?_ ?_)); simp; refine ⟨_, rfl, ?_⟩) | ((with_reducible (first | refine w8 ?_ ?_ ?_ | refine w9 ?_ ?_ ?_ | refine w10 ?_ ?_ ?_)); exact rfl; simp) | ((with_reducible refine w12 ?_ ?_ ?_ fun _ _ => ?_); simp; simp; simp [oneC]) | ((with_reducible (first | refine eqs ?_ | refine nes ?_)); refine ⟨_, rfl, ?_⟩) | ((refine okF_i (bldP_eq rfl) ?_); try simp only [BLS, List.take_succ_cons, List.take_zero, List.drop_succ_cons, List.drop_zero, List.cons_append, List.nil_append, Nat.reduceAdd])) | simp -implicitDefEqProofs only [EN, lsub, lget, stL, beq_self_eq_true, ne_eq, if_true, if_false, List.cons_append, List.nil_append, Option.isNone_some, Option.isNone_none, hlt]))
      have hall : l = m := by
        have := ht
        rw [List.take_of_length_le (by omega), List.take_of_length_le (by omega)] at this
        exact this
      rw [decide_eq_true hall] at hk
      exact hk _ h
  · have f1 : decide ((l.length : Int) = (m.length : Int)) = false := decide_eq_false (by omega)
    have hne : decide (l = m) = false := decide_eq_false fun e => hn (by rw [e])
    rw [hne] at hk
    (repeat (first | (first | (with_reducible (first | refine w1 fun _ _ => ?_ | refine w3 fun _ _ _ => ?_ | refine w4 fun _ _ _ => ?_ | refine w11 fun _ _ _ => ?_ | refine stb_n ?_)) | ((with_reducible refine w2 ?_); try simp -implicitDefEqProofs only [EN, lsub, lget, stL, beq_self_eq_true, ne_eq, if_true, if_false, List.cons_append, List.nil_append, Option.isNone_some, Option.isNone_none, f1]; intro _ _) | ((with_reducible (first | refine w5 ?_ ?_ | refine w6 ?_ ?_ | refine w7 ?_ ?_)); simp; refine ⟨_, rfl, ?_⟩) | ((with_reducible (first | refine w8 ?_ ?_ ?_ | refine w9 ?_ ?_ ?_ | refine w10 ?_ ?_ ?_)); exact rfl; simp) | ((with_reducible refine w12 ?_ ?_ ?_ fun _ _ => ?_); simp; simp; simp [oneC]) | ((with_reducible (first | refine eqs ?_ | refine nes ?_)); refine ⟨_, rfl, ?_⟩) | ((refine okF_i (bldP_eq rfl) ?_); try simp only [BLS, List.take_succ_cons, List.take_zero, List.drop_succ_cons, List.drop_zero, List.cons_append, List.nil_append, Nat.reduceAdd])) | simp -implicitDefEqProofs only [EN, lsub, lget, stL, beq_self_eq_true, ne_eq, if_true, if_false, List.cons_append, List.nil_append, Option.isNone_some, Option.isNone_none, f1]))
    exact hk _ h
end
end Go.Proofs.Ytkjhccpanedccaa
namespace Go.Eng
set_option linter.unusedVariables false
set_option linter.unusedSimpArgs false
open Go Go.RowKit
section
variable {P : Program} {W0 W : World} {L : List Asn} {e : TypeId}
theorem bl1 (l : List UInt8) {t : TypeId} {by' n : Nat} {z : Value} [ht : TyS P t e 1 by' z] {ps : List (Nat × Value)} {k : Value → World → Prop} (h : St W0 L W) (hln : l.length = n) (hn : n ≤ 16777216) (hn0 : n ≠ 0)
    (hc : fillL (fun i => some (i * 1, 1)) ((List.range (n * 1)).map fun i => ((vcells z)[i % (vcells z).length]?).getD undef) ps = some (B8.rows l))
    (hk : ∀ b W', St W0 (blk b (.cells (B8.rows l).toArray e) :: L) W' → k (.slice (some ⟨b, 0, none⟩) l.length l.length) W') : efK P (Instr.buildSlice t n ps.toArray) k W := by
  subst hln
  exact ⟨_, _, bs_run (P := P) (t := t) (e := e) (by omega) (by omega) hc, hk _ _ (h.alloc _)⟩
theorem bl2 (l : List UInt8) {b n c : Nat} {t : TypeId} [hb : BytesT P t e] {k : Value → World → Prop} (h : St W0 (blk b (.cells (B8.rows l).toArray e) :: L) W) (hl : l.length ≤ maxLen)
    (hk : ∀ W', St W0 (arr B8 e (some ⟨b, 0, none⟩) l.length l :: L) W' → k (.slice (some ⟨b, 0, none⟩) n c) W') : efK P (convert t t (.slice (some ⟨b, 0, none⟩) n c)) k W := by
  have hbl := h.blk.2
  have hsh : W.shape? b = some (e, (B8.rows l).toArray.size) := by
    unfold World.shape?; rw [hbl]
  have hfr : W.freeze ⟨b, (B8.rows l).toArray.size, none⟩ 1 = { W with heap := W.heap.setIfInBounds b (.cells (B8.rows l).toArray e ((B8.rows l).toArray.size, (B8.rows l).toArray.size + 1)) } := by
    unfold World.freeze
    rw [if_neg (by decide)]
    congr 1
    apply Array.ext_getElem?
    intro i
    rw [Array.getElem?_modify, Array.getElem?_setIfInBounds]
    by_cases hi : b = i
    · subst hi
      rw [if_pos rfl, if_pos rfl, hbl]
      rw [if_pos (Array.getElem?_eq_some_iff.1 hbl).1]
      rfl
    · rw [if_neg hi, if_neg hi]
  refine ⟨.slice (some ⟨b, 0, none⟩) n c, W.freeze ⟨b, (B8.rows l).toArray.size, none⟩ 1, ?_, hk _ ?_⟩
  · simp [convert, run_underlying hb.ok.1, run_underlying hb.ok.2, markStringish, hsh]
  · rw [hfr]
    refine (((h.setBlk _).weak (a' := cells b (B8.rows l) e) fun p hp => ⟨((B8.rows l).toArray.size, (B8.rows l).toArray.size + 1), ?_, hp⟩).ent (arr_full (A := B8) hl))
    intro i hi
    simp; omega
end
end Go.Eng
namespace Go.Proofs.Ytkjhccpanedccaa
set_option linter.unusedVariables false
set_option linter.unusedSimpArgs false
open Go.Eng
/-! ### rostrum/rostrumlaw23.ExecKnown (6) -/
def S.rostrumlaw23_ExecKnown.body (R : Value → World → Prop) (W : World) : Prop :=
  callK PR F_rostrumlaw23_awake [] (fun v12 W =>
  okF (unP .not v12) fun v13 =>
  ifK v13 (
  R (.bool false) W) (
  callK PR F_exec_New [] (fun v14 W =>
  okF (bldP (fun i => ([(0, 2), (2, 1), (3, 7)] : List (Nat × Nat))[i]?) [.int .i64 0, .int .i64 0, .int .i64 0, .int .i64 0, .int .i64 0, .int .i64 0, .int .i64 0, .int .i64 0, .int .i64 0, .int .i64 0] []) fun v16 =>
  okF (bldP (fun i => some (i * 1, 1)) [.int .i64 0, .int .i64 0, .int .i64 0, .int .i64 0, .int .i64 0, .int .i64 0, .int .i64 0] []) fun v17 =>
  callK PR F_exec_Exec_Commit [v14, v16, v17, (.slice none 0 0)] (fun v18 W =>
  okF (bldP (fun i => ([(0, 1), (1, 1)] : List (Nat × Nat))[i]?) [.int .i64 0, .int .i64 0] [(1, (.int .i64 1))]) fun v20 =>
  okF (bldP (fun i => some (i * 1, 1)) [.int .i64 0, .int .i64 0, .int .i64 0, .int .i64 0, .int .i64 0, .int .i64 0, .int .i64 0] [(0, (.int .i64 0)), (1, (.int .i64 1))]) fun v21 =>
  okF (bldP (fun i => ([(0, 2), (2, 1), (3, 7)] : List (Nat × Nat))[i]?) [.int .i64 0, .int .i64 0, .int .i64 0, .int .i64 0, .int .i64 0, .int .i64 0, .int .i64 0, .int .i64 0, .int .i64 0, .int .i64 0] [(0, v20), (2, v21)]) fun v22 =>
  okF (bldP (fun i => some (i * 1, 1)) [.int .i64 0, .int .i64 0, .int .i64 0, .int .i64 0, .int .i64 0, .int .i64 0, .int .i64 0] []) fun v23 =>
  callK PR F_exec_Exec_Commit [v14, v22, v23, (.slice none 0 0)] (fun v24 W =>
  okF (bldP (fun i => ([(0, 1), (1, 1)] : List (Nat × Nat))[i]?) [.int .i64 0, .int .i64 0] [(1, (.int .i64 1))]) fun v26 =>
  okF (bldP (fun i => ([(0, 2), (2, 1), (3, 7)] : List (Nat × Nat))[i]?) [.int .i64 0, .int .i64 0, .int .i64 0, .int .i64 0, .int .i64 0, .int .i64 0, .int .i64 0, .int .i64 0, .int .i64 0, .int .i64 0] [(0, v26)]) fun v27 =>
  okF (bldP (fun i => some (i * 1, 1)) [.int .i64 0, .int .i64 0, .int .i64 0, .int .i64 0, .int .i64 0, .int .i64 0, .int .i64 0] []) fun v28 =>
  callK PR F_exec_Exec_Commit [v14, v27, v28, (.slice none 0 0)] (fun v29 W =>
  okF (bldP (fun i => some (i * 1, 1)) [.int .i64 0, .int .i64 0, .int .i64 0, .int .i64 0, .int .i64 0, .int .i64 0, .int .i64 0] []) fun v31 =>
  callK PR F_exec_Exec_Have [v14, v31] (fun v32 W =>
  okF (bldP (fun i => ([(0, 1), (1, 1)] : List (Nat × Nat))[i]?) [.int .i64 0, .int .i64 0] [(0, (.int .i64 1)), (1, (.int .i64 1))]) fun v34 =>
  okF (bldP (fun i => ([(0, 2), (2, 1), (3, 7)] : List (Nat × Nat))[i]?) [.int .i64 0, .int .i64 0, .int .i64 0, .int .i64 0, .int .i64 0, .int .i64 0, .int .i64 0, .int .i64 0, .int .i64 0, .int .i64 0] [(0, v34)]) fun v35 =>
  okF (bldP (fun i => some (i * 1, 1)) [.int .i64 0, .int .i64 0, .int .i64 0, .int .i64 0, .int .i64 0, .int .i64 0, .int .i64 0] [(0, (.int .i64 5))]) fun v36 =>
  efK PR (Instr.buildSlice T_s_uint8 1 #[(0, (.int .u8 113))]) (fun v37 W =>
  efK PR (convert T_s_uint8 T_s_uint8 v37) (fun v38 W =>
  callK PR F_exec_Exec_Commit [v14, v35, v36, v38] (fun v39 W =>
  okF (bldP (fun i => some (i * 1, 1)) [.int .i64 0, .int .i64 0, .int .i64 0, .int .i64 0, .int .i64 0, .int .i64 0, .int .i64 0] [(0, (.int .i64 4))]) fun v41 =>
  callK PR F_exec_Exec_Have [v14, v41] (fun v42 W =>
  callK PR F_exec_Exec_Waits [v14] (fun v44 W =>
  okF (bldP (fun i => some (i * 1, 1)) [.int .i64 0, .int .i64 0, .int .i64 0, .int .i64 0, .int .i64 0, .int .i64 0, .int .i64 0] [(0, (.int .i64 5))]) fun v46 =>
  callK PR F_exec_Exec_Have [v14, v46] (fun v47 W =>
  okF (bldP (fun i => ([(0, 1), (1, 1)] : List (Nat × Nat))[i]?) [.int .i64 0, .int .i64 0] [(0, (.int .i64 2)), (1, (.int .i64 1))]) fun v50 =>
  callK PR F_exec_Exec_Body [v14, v50] (fun v51 W =>
  okF (extP 0 v51) fun v52 =>
  okF (extP 1 v51) fun v53 =>
  okF (bldP (fun i => ([(0, 1), (1, 1)] : List (Nat × Nat))[i]?) [.int .i64 0, .int .i64 0] [(0, (.int .i64 3)), (1, (.int .i64 1))]) fun v55 =>
  okF (bldP (fun i => ([(0, 2), (2, 1), (3, 7)] : List (Nat × Nat))[i]?) [.int .i64 0, .int .i64 0, .int .i64 0, .int .i64 0, .int .i64 0, .int .i64 0, .int .i64 0, .int .i64 0, .int .i64 0, .int .i64 0] [(0, v55)]) fun v56 =>
  okF (bldP (fun i => some (i * 1, 1)) [.int .i64 0, .int .i64 0, .int .i64 0, .int .i64 0, .int .i64 0, .int .i64 0, .int .i64 0] [(0, (.int .i64 (-1)))]) fun v57 =>
  callK PR F_exec_Exec_Commit [v14, v56, v57, (.slice none 0 0)] (fun v58 W =>
  okF (binP .eql v18 (.int .i64 1)) fun v60 =>
  gdK (wantd v60 true) (fun k W => k v24 W) (fun v62 W =>
  gdK (wantd v60 true) (fun k W => okF (binP .eql v62 (.int .i64 0)) fun v => k v W) (fun v63 W =>
  okF (pickP v60 v63 (.bool false)) fun v64 =>
  gdK (wantd v64 true) (fun k W => k v29 W) (fun v66 W =>
  gdK (wantd v64 true) (fun k W => okF (binP .eql v66 (.int .i64 5)) fun v => k v W) (fun v67 W =>
  okF (pickP v64 v67 (.bool false)) fun v68 =>
  gdK (wantd v68 true) (fun k W => k v32 W) (fun v70 W =>
  gdK (wantd v68 true) (fun k W => okF (lenP (.slice T_api_Dot) v70) fun v => k v W) (fun v71 W =>
  gdK (wantd v68 true) (fun k W => okF (binP .eql v71 (.int .i64 0)) fun v => k v W) (fun v72 W =>
  okF (pickP v68 v72 (.bool false)) fun v73 =>
  gdK (wantd v73 true) (fun k W => k v42 W) (fun v75 W =>
  gdK (wantd v73 true) (fun k W => okF (lenP (.slice T_api_Dot) v75) fun v => k v W) (fun v76 W =>
  gdK (wantd v73 true) (fun k W => okF (binP .eql v76 (.int .i64 0)) fun v => k v W) (fun v77 W =>
  okF (pickP v73 v77 (.bool false)) fun v78 =>
  gdK (wantd v78 true) (fun k W => k v44 W) (fun v80 W =>
  gdK (wantd v78 true) (fun k W => okF (binP .eql v80 (.int .i64 2)) fun v => k v W) (fun v81 W =>
  okF (pickP v78 v81 (.bool false)) fun v82 =>
  gdK (wantd v82 true) (fun k W => k v47 W) (fun v84 W =>
  gdK (wantd v82 true) (fun k W => okF (bldP (fun i => ([(0, 1), (1, 1)] : List (Nat × Nat))[i]?) [.int .i64 0, .int .i64 0] [(0, (.int .i64 1)), (1, (.int .i64 1))]) fun v => k v W) (fun v85 W =>
  gdK (wantd v82 true) (fun k W => okF (bldP (fun i => ([(0, 1), (1, 1)] : List (Nat × Nat))[i]?) [.int .i64 0, .int .i64 0] [(1, (.int .i64 1))]) fun v => k v W) (fun v86 W =>
  gdK (wantd v82 true) (fun k W => efK PR (Instr.buildSlice T_s_api_Dot 2 #[(0, v85), (1, v86)]) k W) (fun v87 W =>
  gdK (wantd v82 true) (fun k W => callK PR F_rostrumlaw23_dots [v84, v87] k W) (fun v88 W =>
  okF (pickP v82 v88 (.bool false)) fun v89 =>
  gdK (wantd v89 true) (fun k W => k v14 W) (fun v91 W =>
  gdK (wantd v89 true) (fun k W => callK PR F_exec_Exec_Done [v91] k W) (fun v92 W =>
  gdK (wantd v89 true) (fun k W => k v47 W) (fun v93 W =>
  gdK (wantd v89 true) (fun k W => callK PR F_rostrumlaw23_dots [v92, v93] k W) (fun v94 W =>
  okF (pickP v89 v94 (.bool false)) fun v95 =>
  gdK (wantd v95 true) (fun k W => k v53 W) (fun v97 W =>
  gdK (wantd v95 true) (fun k W => okF (unP .not v97) fun v => k v W) (fun v98 W =>
  okF (pickP v95 v98 (.bool false)) fun v99 =>
  gdK (wantd v99 true) (fun k W => k v58 W) (fun v101 W =>
  gdK (wantd v99 true) (fun k W => okF (binP .eql v101 (.int .i64 1)) fun v => k v W) (fun v102 W =>
  okF (pickP v99 v102 (.bool false)) fun v103 =>
  R v103 W) W) W) W) W) W) W) W) W) W) W) W) W) W) W) W) W) W) W) W) W) W) W) W) W) W) W) W) W) W) W) W) W) W) W) W) W) W) W)) W
def S.rostrumlaw23_ExecKnown.hint : Hint := (.two .nil (.two (.two .nil (.two (.two .nil .nil) .nil)) (.two .nil (.two .nil (.two .nil (.two .nil (.two .nil (.two .nil (.two .nil (.two .nil (.two .nil (.two .nil (.two .nil (.two .nil .nil))))))))))))))
theorem S.rostrumlaw23_ExecKnown.ok (R : Value → World → Prop) (W : World) : bodyK PR CB Try.f6 S.rostrumlaw23_ExecKnown.hint [] R W = S.rostrumlaw23_ExecKnown.body R  W := by kernel_rfl
theorem S.rostrumlaw23_ExecKnown.fn : PR.funcs[F_rostrumlaw23_ExecKnown]? = some Try.f6 := by kernel_rfl
theorem S.rostrumlaw23_ExecKnown.call {R : Value → World → Prop} {W : World} (h : S.rostrumlaw23_ExecKnown.body R  W) : callK PR F_rostrumlaw23_ExecKnown [] R W :=
  callK_of_body (g := F_rostrumlaw23_ExecKnown) (fn := Try.f6) (args := []) (R := R) (w := W) mixed CBok S.rostrumlaw23_ExecKnown.fn S.rostrumlaw23_ExecKnown.hint (by rw [S.rostrumlaw23_ExecKnown.ok]; exact h)
/-! ### rostrum/rostrumlaw23.ExecOne (7) -/
def S.rostrumlaw23_ExecOne.j3 (R : Value → World → Prop) (K1 : List Value → World → Prop) (x0 x1 x2 x3 x11 x12 x13 x15 x16 x17 : Value) (W : World) : Prop :=
  okF (slcS 2 x15 none (some x17) none) fun v171 =>
  okF (slcS 2 x16 none (some x17) none) fun v174 =>
  callK PR F_rostrumlaw23_dots [v171, v174] (fun v175 W =>
  okF (unP .not v175) fun v176 =>
  ifK v176 (
  R (.bool false) W) (
  okF (binP .add x13 (.int .i64 1)) fun v107 =>
  K1 [x0, x1, x2, x3, x11, x12, v107] W)) (tick W)
def S.rostrumlaw23_ExecOne.j2 (R : Value → World → Prop) (K1 : List Value → World → Prop) (x0 x1 x2 x3 x11 x12 x13 : Value) (W : World) : Prop :=
  callK PR F_exec_Exec_Done [x11] (fun v158 W =>
  callK PR F_exec_Exec_Done [x12] (fun v160 W =>
  okF (lenP (.slice T_api_Dot) v158) fun v162 =>
  joinK (fun s W => S.rostrumlaw23_ExecOne.j3 R K1 (nthv s 0) (nthv s 1) (nthv s 2) (nthv s 3) (nthv s 4) (nthv s 5) (nthv s 6) (nthv s 7) (nthv s 8) (nthv s 9) W) (fun J3 =>
  okF (lenP (.slice T_api_Dot) v160) fun v164 =>
  okF (binP .lss v164 v162) fun v166 =>
  ifK v166 (
  okF (lenP (.slice T_api_Dot) v160) fun v168 =>
  J3 [x0, x1, x2, x3, x11, x12, x13, v158, v160, v168] W) (
  J3 [x0, x1, x2, x3, x11, x12, x13, v158, v160, v162] W))) W) W
def S.rostrumlaw23_ExecOne.l1 (R : Value → World → Prop) (K1 : List Value → World → Prop) (x0 x1 x2 x3 x11 x12 x13 : Value) (W : World) : Prop :=
  okF (lenP (.slice T_order_Inst) x0) fun v104 =>
  okF (binP .lss x13 v104) fun v105 =>
  ifK v105 (
  okF (lenP (.slice T_order_Inst) x0) fun v111 =>
  okF (binP .rem x2 v111) fun v112 =>
  okF (binP .add x13 v112) fun v113 =>
  okF (lenP (.slice T_order_Inst) x0) fun v115 =>
  okF (binP .rem v113 v115) fun v116 =>
  okF (idxS 10 x0 x13) fun v120 =>
  rdK PR (Instr.loadAt T_order_Inst v120) (fun v121 W =>
  okF (idxS 7 x1 x13) fun v124 =>
  rdK PR (Instr.loadAt T_vec_Vec v124) (fun v125 W =>
  callK PR F_exec_Exec_Commit [x11, v121, v125, (.slice none 0 0)] (fun v126 W =>
  okF (idxS 10 x0 v116) fun v130 =>
  rdK PR (Instr.loadAt T_order_Inst v130) (fun v131 W =>
  okF (idxS 7 x1 v116) fun v134 =>
  rdK PR (Instr.loadAt T_vec_Vec v134) (fun v135 W =>
  callK PR F_exec_Exec_Commit [x12, v131, v135, (.slice none 0 0)] (fun v136 W =>
  joinK (fun s W => S.rostrumlaw23_ExecOne.j2 R K1 (nthv s 0) (nthv s 1) (nthv s 2) (nthv s 3) (nthv s 4) (nthv s 5) (nthv s 6) W) (fun J2 =>
  okF (lenP (.slice T_vec_Vec) x3) fun v139 =>
  okF (binP .lss x13 v139) fun v140 =>
  ifK v140 (
  okF (idxS 7 x3 x13) fun v144 =>
  rdK PR (Instr.loadAt T_vec_Vec v144) (fun v145 W =>
  callK PR F_exec_Exec_Have [x11, v145] (fun v146 W =>
  okF (lenP (.slice T_vec_Vec) x3) fun v150 =>
  okF (binP .sub v150 (.int .i64 1)) fun v151 =>
  okF (binP .sub v151 x13) fun v153 =>
  okF (idxS 7 x3 v153) fun v154 =>
  rdK PR (Instr.loadAt T_vec_Vec v154) (fun v155 W =>
  callK PR F_exec_Exec_Have [x12, v155] (fun v156 W =>
  J2 [x0, x1, x2, x3, x11, x12, x13] W) W) W) W) W) (
  J2 [x0, x1, x2, x3, x11, x12, x13] W))) W) W) (tick W)) W) W) (tick W)) (
  R (.bool true) W)
def S.rostrumlaw23_ExecOne.j1 (R : Value → World → Prop) (x0 x1 x2 x3 : Value) (W : World) : Prop :=
  callK PR F_exec_New [] (fun v100 W =>
  callK PR F_exec_New [] (fun v101 W =>
  loopK (fun K1 s W => S.rostrumlaw23_ExecOne.l1 R K1 (nthv s 0) (nthv s 1) (nthv s 2) (nthv s 3) (nthv s 4) (nthv s 5) (nthv s 6) W) [x0, x1, x2, x3, v100, v101, (.int .i64 0)] W) W) W
def S.rostrumlaw23_ExecOne.j4 (K2 : List Value → World → Prop) (x0 x1 x2 x3 x9 : Value) (W : World) : Prop :=
  okF (binP .add x9 (.int .i64 1)) fun v54 =>
  K2 [x0, x1, x2, x3, v54] W
def S.rostrumlaw23_ExecOne.l3 (R : Value → World → Prop) (J4 : List Value → World → Prop) (K3 : List Value → World → Prop) (x0 x1 x2 x3 x9 x10 : Value) (W : World) : Prop :=
  okF (binP .lss x10 x9) fun v57 =>
  ifK v57 (
  okF (idxS 10 x0 x10) fun v64 =>
  okF (addrF 0 v64) fun v65 =>
  okF (addrF 0 v65) fun v66 =>
  rdK PR (Instr.loadAt T_int v66) (fun v67 W =>
  okF (idxS 10 x0 x9) fun v68 =>
  okF (addrF 3 v68) fun v69 =>
  okF (idxA 7 1 v69 v67) fun v70 =>
  rdK PR (Instr.loadAt T_int64 v70) (fun v71 W =>
  okF (idxS 10 x0 x10) fun v74 =>
  okF (addrF 0 v74) fun v75 =>
  okF (addrF 1 v75) fun v76 =>
  rdK PR (Instr.loadAt T_int64 v76) (fun v77 W =>
  okF (binP .lss v71 v77) fun v78 =>
  gdK (wantd v78 true) (fun k W => k x0 W) (fun v80 W =>
  gdK (wantd v78 true) (fun k W => k x10 W) (fun v81 W =>
  gdK (wantd v78 true) (fun k W => k x0 W) (fun v82 W =>
  gdK (wantd v78 true) (fun k W => k x9 W) (fun v83 W =>
  gdK (wantd v78 true) (fun k W => okF (idxS 10 v82 v83) fun v => k v W) (fun v84 W =>
  gdK (wantd v78 true) (fun k W => okF (addrF 0 v84) fun v => k v W) (fun v85 W =>
  gdK (wantd v78 true) (fun k W => okF (addrF 0 v85) fun v => k v W) (fun v86 W =>
  gdK (wantd v78 true) (fun k W => rdK PR (Instr.loadAt T_int v86) k W) (fun v87 W =>
  gdK (wantd v78 true) (fun k W => okF (idxS 10 v80 v81) fun v => k v W) (fun v88 W =>
  gdK (wantd v78 true) (fun k W => okF (addrF 3 v88) fun v => k v W) (fun v89 W =>
  gdK (wantd v78 true) (fun k W => okF (idxA 7 1 v89 v87) fun v => k v W) (fun v90 W =>
  gdK (wantd v78 true) (fun k W => rdK PR (Instr.loadAt T_int64 v90) k W) (fun v91 W =>
  gdK (wantd v78 true) (fun k W => k x0 W) (fun v92 W =>
  gdK (wantd v78 true) (fun k W => k x9 W) (fun v93 W =>
  gdK (wantd v78 true) (fun k W => okF (idxS 10 v92 v93) fun v => k v W) (fun v94 W =>
  gdK (wantd v78 true) (fun k W => okF (addrF 0 v94) fun v => k v W) (fun v95 W =>
  gdK (wantd v78 true) (fun k W => okF (addrF 1 v95) fun v => k v W) (fun v96 W =>
  gdK (wantd v78 true) (fun k W => rdK PR (Instr.loadAt T_int64 v96) k W) (fun v97 W =>
  gdK (wantd v78 true) (fun k W => okF (binP .lss v91 v97) fun v => k v W) (fun v98 W =>
  okF (pickP v78 v98 (.bool false)) fun v99 =>
  ifK v99 (
  R (.bool true) W) (
  okF (binP .add x10 (.int .i64 1)) fun v59 =>
  K3 [x0, x1, x2, x3, x9, v59] W)) W) W) W) W) W) W) W) W) W) W) W) W) W) W) W) W) W) W) W) W) W) (tick W)) (
  J4 [x0, x1, x2, x3, x9] W)
def S.rostrumlaw23_ExecOne.l2 (R : Value → World → Prop) (J1 : List Value → World → Prop) (K2 : List Value → World → Prop) (x0 x1 x2 x3 x9 : Value) (W : World) : Prop :=
  okF (lenP (.slice T_order_Inst) x0) fun v51 =>
  okF (binP .lss x9 v51) fun v52 =>
  ifK v52 (
  joinK (fun s W => S.rostrumlaw23_ExecOne.j4 K2 (nthv s 0) (nthv s 1) (nthv s 2) (nthv s 3) (nthv s 4) W) (fun J4 =>
  loopK (fun K3 s W => S.rostrumlaw23_ExecOne.l3 R J4 K3 (nthv s 0) (nthv s 1) (nthv s 2) (nthv s 3) (nthv s 4) (nthv s 5) W) [x0, x1, x2, x3, x9, (.int .i64 0)] W)) (
  J1 [x0, x1, x2, x3] W)
def S.rostrumlaw23_ExecOne.body (R : Value → World → Prop) (v0 v1 v2 v3 : Value) (W : World) : Prop :=
  callK PR F_rostrumlaw23_awake [] (fun v18 W =>
  okF (unP .not v18) fun v19 =>
  ifK v19 (
  R (.bool false) W) (
  okF (lenP (.slice T_order_Inst) v0) fun v21 =>
  okF (binP .lss v21 (.int .i64 1)) fun v22 =>
  gdK (wantd v22 false) (fun k W => k v0 W) (fun v24 W =>
  gdK (wantd v22 false) (fun k W => okF (lenP (.slice T_order_Inst) v24) fun v => k v W) (fun v25 W =>
  gdK (wantd v22 false) (fun k W => okF (binP .gtr v25 (.int .i64 15)) fun v => k v W) (fun v26 W =>
  okF (pickP v22 (.bool true) v26) fun v27 =>
  gdK (wantd v27 false) (fun k W => k v1 W) (fun v29 W =>
  gdK (wantd v27 false) (fun k W => okF (lenP (.slice T_vec_Vec) v29) fun v => k v W) (fun v30 W =>
  gdK (wantd v27 false) (fun k W => k v0 W) (fun v31 W =>
  gdK (wantd v27 false) (fun k W => okF (lenP (.slice T_order_Inst) v31) fun v => k v W) (fun v32 W =>
  gdK (wantd v27 false) (fun k W => okF (binP .neq v30 v32) fun v => k v W) (fun v33 W =>
  okF (pickP v27 (.bool true) v33) fun v34 =>
  gdK (wantd v34 false) (fun k W => k v2 W) (fun v36 W =>
  gdK (wantd v34 false) (fun k W => okF (binP .lss v36 (.int .i64 0)) fun v => k v W) (fun v37 W =>
  okF (pickP v34 (.bool true) v37) fun v38 =>
  gdK (wantd v38 false) (fun k W => k v3 W) (fun v40 W =>
  gdK (wantd v38 false) (fun k W => okF (lenP (.slice T_vec_Vec) v40) fun v => k v W) (fun v41 W =>
  gdK (wantd v38 false) (fun k W => okF (binP .gtr v41 (.int .i64 20)) fun v => k v W) (fun v42 W =>
  okF (pickP v38 (.bool true) v42) fun v43 =>
  gdK (wantd v43 false) (fun k W => k v0 W) (fun v45 W =>
  gdK (wantd v43 false) (fun k W => callK PR F_order_Good [v45] k W) (fun v46 W =>
  gdK (wantd v43 false) (fun k W => okF (unP .not v46) fun v => k v W) (fun v47 W =>
  okF (pickP v43 (.bool true) v47) fun v48 =>
  ifK v48 (
  R (.bool true) W) (
  joinK (fun s W => S.rostrumlaw23_ExecOne.j1 R (nthv s 0) (nthv s 1) (nthv s 2) (nthv s 3) W) (fun J1 =>
  loopK (fun K2 s W => S.rostrumlaw23_ExecOne.l2 R J1 K2 (nthv s 0) (nthv s 1) (nthv s 2) (nthv s 3) (nthv s 4) W) [v0, v1, v2, v3, (.int .i64 0)] W))) W) W) W) W) W) W) W) W) W) W) W) W) W) W) W) W)) W
def S.rostrumlaw23_ExecOne.hint : Hint := (.two .nil (.two (.two .nil (.two (.two .nil .nil) .nil)) (.two (.two .nil (.two (.two .nil .nil) .nil)) (.at [0, 1, 2, 3] (.two .nil (.at [0, 1, 2, 3, 9] (.two (.two .nil (.two .nil .nil)) (.at [0, 1, 2, 3, 9] (.two .nil (.at [0, 1, 2, 3, 9, 10] (.two (.two .nil (.two .nil .nil)) (.two (.two .nil (.two (.two .nil .nil) .nil)) .nil)) .nil)) .nil)) .nil)) (.two .nil (.two (.two .nil (.at [0, 1, 2, 3, 11, 12, 13] (.two (.two .nil (.two .nil .nil)) (.two (.two .nil (.two .nil (.two .nil (.at [0, 1, 2, 3, 11, 12, 13] (.two .nil (.two (.two .nil .nil) .nil)) (.two .nil (.two .nil (.at [0, 1, 2, 3, 11, 12, 13, 15, 16, 17] (.two .nil (.two .nil .nil)) (.two .nil (.two (.two .nil .nil) .nil))))))))) .nil)) .nil)) (.two .nil .nil)))))))
theorem S.rostrumlaw23_ExecOne.ok (R : Value → World → Prop) (v0 v1 v2 v3 : Value) (W : World) : bodyK PR CB Try.f7 S.rostrumlaw23_ExecOne.hint [v0, v1, v2, v3] R W = S.rostrumlaw23_ExecOne.body R v0 v1 v2 v3 W := by kernel_rfl
theorem S.rostrumlaw23_ExecOne.fn : PR.funcs[F_rostrumlaw23_ExecOne]? = some Try.f7 := by kernel_rfl
theorem S.rostrumlaw23_ExecOne.call {R : Value → World → Prop} {v0 v1 v2 v3 : Value} {W : World} (h : S.rostrumlaw23_ExecOne.body R v0 v1 v2 v3 W) : callK PR F_rostrumlaw23_ExecOne [v0, v1, v2, v3] R W :=
  callK_of_body (g := F_rostrumlaw23_ExecOne) (fn := Try.f7) (args := [v0, v1, v2, v3]) (R := R) (w := W) mixed CBok S.rostrumlaw23_ExecOne.fn S.rostrumlaw23_ExecOne.hint (by rw [S.rostrumlaw23_ExecOne.ok]; exact h)
/-! ### rostrum/rostrumlaw23.ExecGrows (8) -/
def S.rostrumlaw23_ExecGrows.j1 (K1 : List Value → World → Prop) (x0 x3 x4 x5 x6 : Value) (W : World) : Prop :=
  okF (binP .add x6 (.int .i64 1)) fun v24 =>
  K1 [x0, x3, x4, x5, v24] W
def S.rostrumlaw23_ExecGrows.j3 (J1 : List Value → World → Prop) (x0 x3 x5 x6 x7 : Value) (W : World) : Prop :=
  okF (lenP (.slice T_api_Dot) x7) fun v126 =>
  J1 [x0, x3, v126, x5, x6] W
def S.rostrumlaw23_ExecGrows.j4 (K2 : List Value → World → Prop) (x0 x3 x5 x6 x7 x8 : Value) (W : World) : Prop :=
  okF (binP .add x8 (.int .i64 1)) fun v80 =>
  K2 [x0, x3, x5, x6, x7, v80] W
def S.rostrumlaw23_ExecGrows.l3 (R : Value → World → Prop) (J4 : List Value → World → Prop) (K3 : List Value → World → Prop) (x0 x3 x5 x6 x7 x8 x11 : Value) (W : World) : Prop :=
  okF (binP .lss x11 x8) fun v113 =>
  ifK v113 (
  okF (idxS 2 x7 x11) fun v118 =>
  rdK PR (Instr.loadAt T_api_Dot v118) (fun v119 W =>
  okF (idxS 2 x7 x8) fun v122 =>
  rdK PR (Instr.loadAt T_api_Dot v122) (fun v123 W =>
  rdK PR (aggEq .eql T_api_Dot v119 v123) (fun v124 W =>
  ifK v124 (
  R (.bool false) W) (
  okF (binP .add x11 (.int .i64 1)) fun v115 =>
  K3 [x0, x3, x5, x6, x7, x8, v115] W)) W) W) (tick W)) (
  J4 [x0, x3, x5, x6, x7, x8] W)
def S.rostrumlaw23_ExecGrows.l2 (R : Value → World → Prop) (J3 : List Value → World → Prop) (K2 : List Value → World → Prop) (x0 x3 x5 x6 x7 x8 : Value) (W : World) : Prop :=
  okF (lenP (.slice T_api_Dot) x7) fun v77 =>
  okF (binP .lss x8 v77) fun v78 =>
  ifK v78 (
  joinK (fun s W => S.rostrumlaw23_ExecGrows.j4 K2 (nthv s 0) (nthv s 1) (nthv s 2) (nthv s 3) (nthv s 4) (nthv s 5) W) (fun J4 =>
  okF (idxS 2 x7 x8) fun v85 =>
  rdK PR (Instr.loadAt T_api_Dot v85) (fun v86 W =>
  callK PR F_exec_Exec_Body [x3, v86] (fun v87 W =>
  okF (extP 0 v87) fun v88 =>
  okF (extP 1 v87) fun v89 =>
  okF (unP .not v89) fun v91 =>
  gdK (wantd v91 false) (fun k W => k x0 W) (fun v93 W =>
  gdK (wantd v91 false) (fun k W => k x6 W) (fun v94 W =>
  gdK (wantd v91 false) (fun k W => okF (binP .add v94 (.int .i64 1)) fun v => k v W) (fun v95 W =>
  gdK (wantd v91 false) (fun k W => okF (slcS 19 v93 none (some v95) none) fun v => k v W) (fun v96 W =>
  gdK (wantd v91 false) (fun k W => k x7 W) (fun v97 W =>
  gdK (wantd v91 false) (fun k W => k x8 W) (fun v98 W =>
  gdK (wantd v91 false) (fun k W => okF (idxS 2 v97 v98) fun v => k v W) (fun v99 W =>
  gdK (wantd v91 false) (fun k W => okF (addrF 0 v99) fun v => k v W) (fun v100 W =>
  gdK (wantd v91 false) (fun k W => rdK PR (Instr.loadAt T_int v100) k W) (fun v101 W =>
  gdK (wantd v91 false) (fun k W => k x7 W) (fun v102 W =>
  gdK (wantd v91 false) (fun k W => k x8 W) (fun v103 W =>
  gdK (wantd v91 false) (fun k W => okF (idxS 2 v102 v103) fun v => k v W) (fun v104 W =>
  gdK (wantd v91 false) (fun k W => okF (addrF 1 v104) fun v => k v W) (fun v105 W =>
  gdK (wantd v91 false) (fun k W => rdK PR (Instr.loadAt T_int64 v105) k W) (fun v106 W =>
  gdK (wantd v91 false) (fun k W => rdK PR (Instr.loadAt T_vec_Vec x5) k W) (fun v107 W =>
  gdK (wantd v91 false) (fun k W => callK PR F_rostrumlaw23_waited [v96, v101, v106, v107] k W) (fun v108 W =>
  gdK (wantd v91 false) (fun k W => okF (unP .not v108) fun v => k v W) (fun v109 W =>
  okF (pickP v91 (.bool true) v109) fun v110 =>
  ifK v110 (
  R (.bool false) W) (
  loopK (fun K3 s W => S.rostrumlaw23_ExecGrows.l3 R J4 K3 (nthv s 0) (nthv s 1) (nthv s 2) (nthv s 3) (nthv s 4) (nthv s 5) (nthv s 6) W) [x0, x3, x5, x6, x7, x8, (.int .i64 0)] W)) W) W) W) W) W) W) W) W) W) W) W) W) W) W) W) W) (tick W)) W) W)) (
  J3 [x0, x3, x5, x6, x7] W)
def S.rostrumlaw23_ExecGrows.j2 (R : Value → World → Prop) (J1 : List Value → World → Prop) (x0 x3 x4 x5 x6 : Value) (W : World) : Prop :=
  callK PR F_exec_Exec_Done [x3] (fun v69 W =>
  okF (lenP (.slice T_api_Dot) v69) fun v71 =>
  okF (binP .lss v71 x4) fun v73 =>
  ifK v73 (
  R (.bool false) W) (
  joinK (fun s W => S.rostrumlaw23_ExecGrows.j3 J1 (nthv s 0) (nthv s 1) (nthv s 2) (nthv s 3) (nthv s 4) W) (fun J3 =>
  loopK (fun K2 s W => S.rostrumlaw23_ExecGrows.l2 R J3 K2 (nthv s 0) (nthv s 1) (nthv s 2) (nthv s 3) (nthv s 4) (nthv s 5) W) [x0, x3, x5, x6, v69, x4] W))) W
def S.rostrumlaw23_ExecGrows.l1 (R : Value → World → Prop) (K1 : List Value → World → Prop) (x0 x3 x4 x5 x6 : Value) (W : World) : Prop :=
  okF (lenP (.slice T_rostrumlaw23_Act) x0) fun v21 =>
  okF (binP .lss x6 v21) fun v22 =>
  ifK v22 (
  joinK (fun s W => S.rostrumlaw23_ExecGrows.j1 K1 (nthv s 0) (nthv s 1) (nthv s 2) (nthv s 3) (nthv s 4) W) (fun J1 =>
  joinK (fun s W => S.rostrumlaw23_ExecGrows.j2 R J1 (nthv s 0) (nthv s 1) (nthv s 2) (nthv s 3) (nthv s 4) W) (fun J2 =>
  okF (idxS 19 x0 x6) fun v27 =>
  okF (addrF 0 v27) fun v28 =>
  rdK PR (Instr.loadAt T_int v28) (fun v29 W =>
  okF (binP .eql v29 (.int .i64 0)) fun v30 =>
  ifK v30 (
  okF (idxS 19 x0 x6) fun v34 =>
  okF (addrF 1 v34) fun v35 =>
  rdK PR (Instr.loadAt T_order_Inst v35) (fun v36 W =>
  okF (idxS 19 x0 x6) fun v39 =>
  okF (addrF 11 v39) fun v40 =>
  rdK PR (Instr.loadAt T_vec_Vec v40) (fun v41 W =>
  okF (idxS 19 x0 x6) fun v44 =>
  okF (addrF 18 v44) fun v45 =>
  rdK PR (Instr.loadAt T_s_uint8 v45) (fun v46 W =>
  callK PR F_exec_Exec_Commit [x3, v36, v41, v46] (fun v47 W =>
  J2 [x0, x3, x4, x5, x6] W) W) W) W) (tick W)) (
  okF (idxS 19 x0 x6) fun v51 =>
  okF (addrF 11 v51) fun v52 =>
  rdK PR (Instr.loadAt T_vec_Vec v52) (fun v53 W =>
  callK PR F_exec_Exec_Have [x3, v53] (fun v54 W =>
  okF (idxS 19 x0 x6) fun v57 =>
  okF (addrF 11 v57) fun v58 =>
  rdK PR (Instr.loadAt T_vec_Vec v58) (fun v59 W =>
  callK PR F_vec_Good [v59] (fun v60 W =>
  ifK v60 (
  rdK PR (Instr.loadAt T_vec_Vec x5) (fun v61 W =>
  okF (idxS 19 x0 x6) fun v64 =>
  okF (addrF 11 v64) fun v65 =>
  rdK PR (Instr.loadAt T_vec_Vec v65) (fun v66 W =>
  callK PR F_vec_Merge [v61, v66] (fun v67 W =>
  efK PR (Instr.storeAt T_vec_Vec x5 v67) (fun _ W =>
  J2 [x0, x3, x4, x5, x6] W) W) W) W) (tick W)) (
  J2 [x0, x3, x4, x5, x6] W)) W) W) W) W)) W))) (
  R (.bool true) W)
def S.rostrumlaw23_ExecGrows.body (R : Value → World → Prop) (v0 : Value) (W : World) : Prop :=
  callK PR F_rostrumlaw23_awake [] (fun v12 W =>
  okF (unP .not v12) fun v13 =>
  ifK v13 (
  R (.bool false) W) (
  okF (lenP (.slice T_rostrumlaw23_Act) v0) fun v15 =>
  okF (binP .gtr v15 (.int .i64 30)) fun v16 =>
  ifK v16 (
  R (.bool true) W) (
  callK PR F_exec_New [] (fun v17 W =>
  okF (bldP (fun i => some (i * 1, 1)) [.int .i64 0, .int .i64 0, .int .i64 0, .int .i64 0, .int .i64 0, .int .i64 0, .int .i64 0] []) fun v18 =>
  efK PR (Instr.alloc T_vec_Vec true (.tuple #[])) (fun v5 W =>
  efK PR (Instr.storeAt T_vec_Vec v5 v18) (fun _ W =>
  loopK (fun K1 s W => S.rostrumlaw23_ExecGrows.l1 R K1 (nthv s 0) (nthv s 1) (nthv s 2) (nthv s 3) (nthv s 4) W) [v0, v17, (.int .i64 0), v5, (.int .i64 0)] W) W) W) W))) W
def S.rostrumlaw23_ExecGrows.hint : Hint := (.two .nil (.two (.two .nil (.two (.two .nil .nil) .nil)) (.two (.two .nil (.two (.two .nil .nil) .nil)) (.two .nil (.two .nil (.two .nil (.two (.two .nil (.at [0, 3, 4, 5, 6] (.two (.two .nil (.two .nil .nil)) (.at [0, 3, 4, 5, 6] (.at [0, 3, 4, 5, 6] (.two .nil (.two .nil (.two .nil (.two .nil (.two .nil .nil))))) (.two .nil (.two (.two .nil (.two (.two .nil .nil) .nil)) (.at [0, 3, 5, 6, 7] (.two .nil (.at [0, 3, 5, 6, 7, 8] (.two (.two .nil (.two .nil .nil)) (.at [0, 3, 5, 6, 7, 8] (.two .nil (.two (.two .nil (.two (.two .nil .nil) .nil)) (.two .nil (.at [0, 3, 5, 6, 7, 8, 11] (.two (.two .nil (.two .nil .nil)) (.two (.two .nil (.two (.two .nil .nil) .nil)) .nil)) .nil)))) .nil)) .nil)) .nil)))) .nil)) .nil)) (.two .nil .nil))))))))
theorem S.rostrumlaw23_ExecGrows.ok (R : Value → World → Prop) (v0 : Value) (W : World) : bodyK PR CB Try.f8 S.rostrumlaw23_ExecGrows.hint [v0] R W = S.rostrumlaw23_ExecGrows.body R v0 W := by kernel_rfl
theorem S.rostrumlaw23_ExecGrows.fn : PR.funcs[F_rostrumlaw23_ExecGrows]? = some Try.f8 := by kernel_rfl
theorem S.rostrumlaw23_ExecGrows.call {R : Value → World → Prop} {v0 : Value} {W : World} (h : S.rostrumlaw23_ExecGrows.body R v0 W) : callK PR F_rostrumlaw23_ExecGrows [v0] R W :=
  callK_of_body (g := F_rostrumlaw23_ExecGrows) (fn := Try.f8) (args := [v0]) (R := R) (w := W) mixed CBok S.rostrumlaw23_ExecGrows.fn S.rostrumlaw23_ExecGrows.hint (by rw [S.rostrumlaw23_ExecGrows.ok]; exact h)
/-! ### rostrum/rostrumlaw23.awake (14) -/
def S.rostrumlaw23_awake.body (R : Value → World → Prop) (W : World) : Prop :=
  callK PR F_exec_New [] (fun v7 W =>
  okF (eqP (.pointer T_exec_Exec) .eql v7 (.pointer none)) fun v9 =>
  ifK v9 (
  R (.bool false) W) (
  okF (bldP (fun i => ([(0, 1), (1, 1)] : List (Nat × Nat))[i]?) [.int .i64 0, .int .i64 0] [(1, (.int .i64 1))]) fun v11 =>
  okF (bldP (fun i => ([(0, 2), (2, 1), (3, 7)] : List (Nat × Nat))[i]?) [.int .i64 0, .int .i64 0, .int .i64 0, .int .i64 0, .int .i64 0, .int .i64 0, .int .i64 0, .int .i64 0, .int .i64 0, .int .i64 0] [(0, v11)]) fun v12 =>
  okF (bldP (fun i => some (i * 1, 1)) [.int .i64 0, .int .i64 0, .int .i64 0, .int .i64 0, .int .i64 0, .int .i64 0, .int .i64 0] [(0, (.int .i64 1))]) fun v13 =>
  efK PR (Instr.buildSlice T_s_uint8 1 #[(0, (.int .u8 98))]) (fun v14 W =>
  efK PR (convert T_s_uint8 T_s_uint8 v14) (fun v15 W =>
  callK PR F_exec_Exec_Commit [v7, v12, v13, v15] (fun v16 W =>
  okF (bldP (fun i => some (i * 1, 1)) [.int .i64 0, .int .i64 0, .int .i64 0, .int .i64 0, .int .i64 0, .int .i64 0, .int .i64 0] []) fun v18 =>
  callK PR F_exec_Exec_Have [v7, v18] (fun v19 W =>
  okF (bldP (fun i => some (i * 1, 1)) [.int .i64 0, .int .i64 0, .int .i64 0, .int .i64 0, .int .i64 0, .int .i64 0, .int .i64 0] [(0, (.int .i64 1))]) fun v21 =>
  callK PR F_exec_Exec_Have [v7, v21] (fun v22 W =>
  okF (bldP (fun i => ([(0, 1), (1, 1)] : List (Nat × Nat))[i]?) [.int .i64 0, .int .i64 0] [(1, (.int .i64 1))]) fun v25 =>
  callK PR F_exec_Exec_Body [v7, v25] (fun v26 W =>
  okF (extP 0 v26) fun v27 =>
  okF (extP 1 v26) fun v28 =>
  okF (binP .eql v16 (.int .i64 0)) fun v30 =>
  gdK (wantd v30 true) (fun k W => k v19 W) (fun v32 W =>
  gdK (wantd v30 true) (fun k W => okF (lenP (.slice T_api_Dot) v32) fun v => k v W) (fun v33 W =>
  gdK (wantd v30 true) (fun k W => okF (binP .eql v33 (.int .i64 0)) fun v => k v W) (fun v34 W =>
  okF (pickP v30 v34 (.bool false)) fun v35 =>
  gdK (wantd v35 true) (fun k W => k v22 W) (fun v37 W =>
  gdK (wantd v35 true) (fun k W => okF (bldP (fun i => ([(0, 1), (1, 1)] : List (Nat × Nat))[i]?) [.int .i64 0, .int .i64 0] [(1, (.int .i64 1))]) fun v => k v W) (fun v38 W =>
  gdK (wantd v35 true) (fun k W => efK PR (Instr.buildSlice T_s_api_Dot 1 #[(0, v38)]) k W) (fun v39 W =>
  gdK (wantd v35 true) (fun k W => callK PR F_rostrumlaw23_dots [v37, v39] k W) (fun v40 W =>
  okF (pickP v35 v40 (.bool false)) fun v41 =>
  gdK (wantd v41 true) (fun k W => k v28 W) (fun v43 W =>
  okF (pickP v41 v43 (.bool false)) fun v44 =>
  gdK (wantd v44 true) (fun k W => k v27 W) (fun v46 W =>
  gdK (wantd v44 true) (fun k W => rdK PR (convert T_s_uint8 T_string v46) k W) (fun v47 W =>
  gdK (wantd v44 true) (fun k W => okF (binP .eql v47 (.string ⟨#[98]⟩)) fun v => k v W) (fun v48 W =>
  okF (pickP v44 v48 (.bool false)) fun v49 =>
  gdK (wantd v49 true) (fun k W => k v7 W) (fun v51 W =>
  gdK (wantd v49 true) (fun k W => callK PR F_exec_Exec_Waits [v51] k W) (fun v52 W =>
  gdK (wantd v49 true) (fun k W => okF (binP .eql v52 (.int .i64 0)) fun v => k v W) (fun v53 W =>
  okF (pickP v49 v53 (.bool false)) fun v54 =>
  R v54 W) W) W) W) W) W) W) W) W) W) W) W) W) W) W) W) W) W) W) W) W)) W
def S.rostrumlaw23_awake.hint : Hint := (.two .nil (.two .nil (.two (.two .nil (.two (.two .nil .nil) .nil)) (.two .nil (.two .nil (.two .nil (.two .nil (.two .nil .nil))))))))
theorem S.rostrumlaw23_awake.ok (R : Value → World → Prop) (W : World) : bodyK PR CB Try.f14 S.rostrumlaw23_awake.hint [] R W = S.rostrumlaw23_awake.body R  W := by kernel_rfl
theorem S.rostrumlaw23_awake.fn : PR.funcs[F_rostrumlaw23_awake]? = some Try.f14 := by kernel_rfl
theorem S.rostrumlaw23_awake.call {R : Value → World → Prop} {W : World} (h : S.rostrumlaw23_awake.body R  W) : callK PR F_rostrumlaw23_awake [] R W :=
  callK_of_body (g := F_rostrumlaw23_awake) (fn := Try.f14) (args := []) (R := R) (w := W) mixed CBok S.rostrumlaw23_awake.fn S.rostrumlaw23_awake.hint (by rw [S.rostrumlaw23_awake.ok]; exact h)
/-! ### rostrum/rostrumlaw23.dots (20) -/
def S.rostrumlaw23_dots.body (R : Value → World → Prop) (v0 v1 : Value) (W : World) : Prop :=
  callK PR F_rostrumref7_SameDots [v0, v1] (fun v7 W =>
  R v7 W) W
def S.rostrumlaw23_dots.hint : Hint := (.two .nil (.two .nil .nil))
theorem S.rostrumlaw23_dots.ok (R : Value → World → Prop) (v0 v1 : Value) (W : World) : bodyK PR CB Try.f20 S.rostrumlaw23_dots.hint [v0, v1] R W = S.rostrumlaw23_dots.body R v0 v1 W := by kernel_rfl
theorem S.rostrumlaw23_dots.fn : PR.funcs[F_rostrumlaw23_dots]? = some Try.f20 := by kernel_rfl
theorem S.rostrumlaw23_dots.call {R : Value → World → Prop} {v0 v1 : Value} {W : World} (h : S.rostrumlaw23_dots.body R v0 v1 W) : callK PR F_rostrumlaw23_dots [v0, v1] R W :=
  callK_of_body (g := F_rostrumlaw23_dots) (fn := Try.f20) (args := [v0, v1]) (R := R) (w := W) mixed CBok S.rostrumlaw23_dots.fn S.rostrumlaw23_dots.hint (by rw [S.rostrumlaw23_dots.ok]; exact h)
/-! ### rostrum/rostrumlaw23.waited (24) -/
def S.rostrumlaw23_waited.l1 (R : Value → World → Prop) (K1 : List Value → World → Prop) (x0 x1 x2 x7 x9 : Value) (W : World) : Prop :=
  okF (lenP (.slice T_rostrumlaw23_Act) x0) fun v12 =>
  okF (binP .lss x9 v12) fun v13 =>
  ifK v13 (
  okF (idxS 19 x0 x9) fun v18 =>
  okF (addrF 0 v18) fun v19 =>
  rdK PR (Instr.loadAt T_int v19) (fun v20 W =>
  okF (binP .eql v20 (.int .i64 0)) fun v21 =>
  gdK (wantd v21 true) (fun k W => k x0 W) (fun v23 W =>
  gdK (wantd v21 true) (fun k W => k x9 W) (fun v24 W =>
  gdK (wantd v21 true) (fun k W => okF (idxS 19 v23 v24) fun v => k v W) (fun v25 W =>
  gdK (wantd v21 true) (fun k W => okF (addrF 1 v25) fun v => k v W) (fun v26 W =>
  gdK (wantd v21 true) (fun k W => okF (addrF 0 v26) fun v => k v W) (fun v27 W =>
  gdK (wantd v21 true) (fun k W => okF (addrF 0 v27) fun v => k v W) (fun v28 W =>
  gdK (wantd v21 true) (fun k W => rdK PR (Instr.loadAt T_int v28) k W) (fun v29 W =>
  gdK (wantd v21 true) (fun k W => k x1 W) (fun v30 W =>
  gdK (wantd v21 true) (fun k W => okF (binP .eql v29 v30) fun v => k v W) (fun v31 W =>
  okF (pickP v21 v31 (.bool false)) fun v32 =>
  gdK (wantd v32 true) (fun k W => k x0 W) (fun v34 W =>
  gdK (wantd v32 true) (fun k W => k x9 W) (fun v35 W =>
  gdK (wantd v32 true) (fun k W => okF (idxS 19 v34 v35) fun v => k v W) (fun v36 W =>
  gdK (wantd v32 true) (fun k W => okF (addrF 1 v36) fun v => k v W) (fun v37 W =>
  gdK (wantd v32 true) (fun k W => okF (addrF 0 v37) fun v => k v W) (fun v38 W =>
  gdK (wantd v32 true) (fun k W => okF (addrF 1 v38) fun v => k v W) (fun v39 W =>
  gdK (wantd v32 true) (fun k W => rdK PR (Instr.loadAt T_int64 v39) k W) (fun v40 W =>
  gdK (wantd v32 true) (fun k W => k x2 W) (fun v41 W =>
  gdK (wantd v32 true) (fun k W => okF (binP .eql v40 v41) fun v => k v W) (fun v42 W =>
  okF (pickP v32 v42 (.bool false)) fun v43 =>
  gdK (wantd v43 true) (fun k W => k x0 W) (fun v45 W =>
  gdK (wantd v43 true) (fun k W => k x9 W) (fun v46 W =>
  gdK (wantd v43 true) (fun k W => okF (idxS 19 v45 v46) fun v => k v W) (fun v47 W =>
  gdK (wantd v43 true) (fun k W => okF (addrF 11 v47) fun v => k v W) (fun v48 W =>
  gdK (wantd v43 true) (fun k W => rdK PR (Instr.loadAt T_vec_Vec v48) k W) (fun v49 W =>
  gdK (wantd v43 true) (fun k W => callK PR F_vec_Good [v49] k W) (fun v50 W =>
  okF (pickP v43 v50 (.bool false)) fun v51 =>
  gdK (wantd v51 true) (fun k W => k x0 W) (fun v53 W =>
  gdK (wantd v51 true) (fun k W => k x9 W) (fun v54 W =>
  gdK (wantd v51 true) (fun k W => okF (idxS 19 v53 v54) fun v => k v W) (fun v55 W =>
  gdK (wantd v51 true) (fun k W => okF (addrF 18 v55) fun v => k v W) (fun v56 W =>
  gdK (wantd v51 true) (fun k W => rdK PR (Instr.loadAt T_s_uint8 v56) k W) (fun v57 W =>
  gdK (wantd v51 true) (fun k W => okF (lenP (.slice T_uint8) v57) fun v => k v W) (fun v58 W =>
  gdK (wantd v51 true) (fun k W => okF (binP .leq v58 (.int .i64 65536)) fun v => k v W) (fun v59 W =>
  okF (pickP v51 v59 (.bool false)) fun v60 =>
  ifK v60 (
  okF (idxS 19 x0 x9) fun v63 =>
  okF (addrF 11 v63) fun v64 =>
  rdK PR (Instr.loadAt T_vec_Vec v64) (fun v65 W =>
  rdK PR (Instr.loadAt T_vec_Vec x7) (fun v66 W =>
  callK PR F_vec_Le [v65, v66] (fun v67 W =>
  gdK (wantd v67 false) (fun k W => k x0 W) (fun v69 W =>
  gdK (wantd v67 false) (fun k W => k x9 W) (fun v70 W =>
  gdK (wantd v67 false) (fun k W => okF (idxS 19 v69 v70) fun v => k v W) (fun v71 W =>
  gdK (wantd v67 false) (fun k W => rdK PR (Instr.loadAt T_rostrumlaw23_Act v71) k W) (fun v72 W =>
  gdK (wantd v67 false) (fun k W => callK PR F_rostrumlaw23_first [v72] k W) (fun v73 W =>
  gdK (wantd v67 false) (fun k W => okF (unP .not v73) fun v => k v W) (fun v74 W =>
  okF (pickP v67 (.bool true) v74) fun v75 =>
  R v75 W) W) W) W) W) W) W) W) W) (tick W)) (
  okF (binP .add x9 (.int .i64 1)) fun v15 =>
  K1 [x0, x1, x2, x7, v15] W)) W) W) W) W) W) W) W) W) W) W) W) W) W) W) W) W) W) W) W) W) W) W) W) W) W) W) W) W) W) W) W) W) (
  R (.bool false) W)
def S.rostrumlaw23_waited.body (R : Value → World → Prop) (v0 v1 v2 v3 : Value) (W : World) : Prop :=
  efK PR (Instr.box T_vec_Vec v3) (fun v7 W =>
  loopK (fun K1 s W => S.rostrumlaw23_waited.l1 R K1 (nthv s 0) (nthv s 1) (nthv s 2) (nthv s 3) (nthv s 4) W) [v0, v1, v2, v7, (.int .i64 0)] W) W
def S.rostrumlaw23_waited.hint : Hint := (.two .nil (.two (.two .nil (.at [0, 1, 2, 7, 9] (.two (.two .nil (.two .nil .nil)) (.two (.two .nil (.two (.two .nil .nil) .nil)) .nil)) .nil)) (.two .nil .nil)))
theorem S.rostrumlaw23_waited.ok (R : Value → World → Prop) (v0 v1 v2 v3 : Value) (W : World) : bodyK PR CB Try.f24 S.rostrumlaw23_waited.hint [v0, v1, v2, v3] R W = S.rostrumlaw23_waited.body R v0 v1 v2 v3 W := by kernel_rfl
theorem S.rostrumlaw23_waited.fn : PR.funcs[F_rostrumlaw23_waited]? = some Try.f24 := by kernel_rfl
theorem S.rostrumlaw23_waited.call {R : Value → World → Prop} {v0 v1 v2 v3 : Value} {W : World} (h : S.rostrumlaw23_waited.body R v0 v1 v2 v3 W) : callK PR F_rostrumlaw23_waited [v0, v1, v2, v3] R W :=
  callK_of_body (g := F_rostrumlaw23_waited) (fn := Try.f24) (args := [v0, v1, v2, v3]) (R := R) (w := W) mixed CBok S.rostrumlaw23_waited.fn S.rostrumlaw23_waited.hint (by rw [S.rostrumlaw23_waited.ok]; exact h)
/-! ### rostrum/rostrumlaw23.first (47) -/
def S.rostrumlaw23_first.j1 (R : Value → World → Prop) (x1 : Value) (W : World) : Prop :=
  okF (addrF 1 x1) fun v22 =>
  okF (addrF 2 v22) fun v23 =>
  rdK PR (Instr.loadAt T_int64 v23) (fun v24 W =>
  okF (binP .geq v24 (.int .i64 0)) fun v25 =>
  gdK (wantd v25 true) (fun k W => okF (addrF 1 x1) fun v => k v W) (fun v27 W =>
  gdK (wantd v25 true) (fun k W => okF (addrF 2 v27) fun v => k v W) (fun v28 W =>
  gdK (wantd v25 true) (fun k W => rdK PR (Instr.loadAt T_int64 v28) k W) (fun v29 W =>
  gdK (wantd v25 true) (fun k W => okF (binP .leq v29 (.int .i64 1099511627776)) fun v => k v W) (fun v30 W =>
  okF (pickP v25 v30 (.bool false)) fun v31 =>
  R v31 W) W) W) W) W) W
def S.rostrumlaw23_first.l1 (R : Value → World → Prop) (J1 : List Value → World → Prop) (K1 : List Value → World → Prop) (x1 x3 : Value) (W : World) : Prop :=
  okF (binP .lss x3 (.int .i64 7)) fun v5 =>
  ifK v5 (
  okF (addrF 1 x1) fun v9 =>
  okF (addrF 3 v9) fun v10 =>
  okF (idxA 7 1 v10 x3) fun v11 =>
  rdK PR (Instr.loadAt T_int64 v11) (fun v12 W =>
  okF (binP .lss v12 (.int .i64 0)) fun v13 =>
  gdK (wantd v13 false) (fun k W => k x3 W) (fun v15 W =>
  gdK (wantd v13 false) (fun k W => okF (addrF 1 x1) fun v => k v W) (fun v16 W =>
  gdK (wantd v13 false) (fun k W => okF (addrF 3 v16) fun v => k v W) (fun v17 W =>
  gdK (wantd v13 false) (fun k W => okF (idxA 7 1 v17 v15) fun v => k v W) (fun v18 W =>
  gdK (wantd v13 false) (fun k W => rdK PR (Instr.loadAt T_int64 v18) k W) (fun v19 W =>
  gdK (wantd v13 false) (fun k W => okF (binP .gtr v19 (.int .i64 1000)) fun v => k v W) (fun v20 W =>
  okF (pickP v13 (.bool true) v20) fun v21 =>
  ifK v21 (
  R (.bool false) W) (
  okF (binP .add x3 (.int .i64 1)) fun v7 =>
  K1 [x1, v7] W)) W) W) W) W) W) W) W) (
  J1 [x1] W)
def S.rostrumlaw23_first.body (R : Value → World → Prop) (v0 : Value) (W : World) : Prop :=
  efK PR (Instr.box T_rostrumlaw23_Act v0) (fun v1 W =>
  joinK (fun s W => S.rostrumlaw23_first.j1 R (nthv s 0) W) (fun J1 =>
  loopK (fun K1 s W => S.rostrumlaw23_first.l1 R J1 K1 (nthv s 0) (nthv s 1) W) [v1, (.int .i64 0)] W)) W
def S.rostrumlaw23_first.hint : Hint := (.two .nil (.at [1] (.two .nil (.at [1, 3] (.two (.two .nil (.two .nil .nil)) (.two (.two .nil (.two (.two .nil .nil) .nil)) .nil)) .nil)) (.two .nil .nil)))
theorem S.rostrumlaw23_first.ok (R : Value → World → Prop) (v0 : Value) (W : World) : bodyK PR CB Try.f47 S.rostrumlaw23_first.hint [v0] R W = S.rostrumlaw23_first.body R v0 W := by kernel_rfl
theorem S.rostrumlaw23_first.fn : PR.funcs[F_rostrumlaw23_first]? = some Try.f47 := by kernel_rfl
theorem S.rostrumlaw23_first.call {R : Value → World → Prop} {v0 : Value} {W : World} (h : S.rostrumlaw23_first.body R v0 W) : callK PR F_rostrumlaw23_first [v0] R W :=
  callK_of_body (g := F_rostrumlaw23_first) (fn := Try.f47) (args := [v0]) (R := R) (w := W) mixed CBok S.rostrumlaw23_first.fn S.rostrumlaw23_first.hint (by rw [S.rostrumlaw23_first.ok]; exact h)
end Go.Proofs.Ytkjhccpanedccaa
namespace Go.Proofs.Ytkjhccpanedccaa
set_option linter.unusedVariables false
set_option linter.unusedSimpArgs false
open Go Go.Eng Go.Tar Go.Sort Go.RowKit
theorem line0_len (done : P7 Int) (also : List Dot) (l : List Ins) : (lineTop done also l).length ≤ l.length := by
  unfold lineTop
  split
  · rw [lineO_eq, List.length_map]
    unfold lineK lineS
    rw [List.length_map]
    refine Nat.le_trans (lineF_len (onL_ok _)) ?_
    rw [sortO_len]
    have h1 := (kept_sub (q := isO done also) (l := l.filter fun x => !isO done also x.d)).length_le
    rw [sortO_len] at h1
    exact Nat.le_trans h1 (List.length_filter_le _ _)
  · simp
def z7 : P7 Int := ⟨0, 0, 0, 0, 0, 0, 0⟩
def inN (rep n : Int) (v : P7 Int) : Ins := ⟨⟨rep, n⟩, 0, v⟩
/-- Have, as a machine computes it -/
def XS.havesC (s : XS) (v : P7 Int) : XS × List Dot := ((nowF (s.merge v) (lineC (P7.all 0) [] (s.merge v).ins)).foldl XS.mark (s.merge v), nowF (s.merge v) (lineC (P7.all 0) [] (s.merge v).ins))
theorem haves_eq (s : XS) (v : P7 Int) : s.haves v = s.havesC v := by
  unfold XS.haves XS.havesC XS.now; rw [lineTop_eq]
def xa1 : XS := ⟨z7, [⟨inN 0 1 z7, ⟨1, 0, 0, 0, 0, 0, 0⟩, [98]⟩], []⟩
def xa2 : XS := ⟨⟨1, 0, 0, 0, 0, 0, 0⟩, [⟨inN 0 1 z7, ⟨1, 0, 0, 0, 0, 0, 0⟩, [98]⟩], [⟨0, 1⟩]⟩
theorem aw1 : XS.new.commit (inN 0 1 z7) ⟨1, 0, 0, 0, 0, 0, 0⟩ [98] = (xa1, 0) := by kernel_rfl
theorem aw2 : xa1.haves z7 = (xa1, []) := by rw [haves_eq]; kernel_rfl
theorem aw3 : xa1.haves ⟨1, 0, 0, 0, 0, 0, 0⟩ = (xa2, [⟨0, 1⟩]) := by rw [haves_eq]; kernel_rfl
theorem aw4 : xa2.bodyOf ⟨0, 1⟩ = [98] ∧ (xa2.find ⟨0, 1⟩).isSome = true := ⟨by kernel_rfl, by kernel_rfl⟩
section
variable {W0 W : World} {L L' : List Asn}
theorem lawDots23 {a b : Option Addr} {c d : Nat} {l m : List Dot} {k : Value → World → Prop} (h : St W0 L W) [hr : Rd W0 L a DOT l] [hr2 : Rd W0 L b DOT m] (hl : l.length < 4611686018427387904)
    (hk : ∀ W', St W0 L W' → k (.bool (decide (l = m))) W') : callK PR F_rostrumlaw23_dots [.slice a l.length c, .slice b m.length d] k W := by
  apply S.rostrumlaw23_dots.call
  unfold S.rostrumlaw23_dots.body
  refine refSameDots (a := a) (b := b) (l := l) (m := m) h hl fun W1 h => ?_
  (repeat (first | (first | (with_reducible (first | refine w1 fun _ _ => ?_ | refine w3 fun _ _ _ => ?_ | refine w4 fun _ _ _ => ?_ | refine w11 fun _ _ _ => ?_ | refine stb_n ?_)) | ((with_reducible refine w2 ?_); try simp -implicitDefEqProofs only [EN, lsub, lget, stL, beq_self_eq_true, ne_eq, if_true, if_false, List.cons_append, List.nil_append, Option.isNone_some, Option.isNone_none]; intro _ _) | ((with_reducible (first | refine w5 ?_ ?_ | refine w6 ?_ ?_ | refine w7 ?_ ?_)); simp; refine ⟨_, rfl, ?_⟩) | ((with_reducible (first | refine w8 ?_ ?_ ?_ | refine w9 ?_ ?_ ?_ | refine w10 ?_ ?_ ?_)); exact rfl; simp) | ((with_reducible refine w12 ?_ ?_ ?_ fun _ _ => ?_); simp; simp; simp [oneC]) | ((with_reducible (first | refine eqs ?_ | refine nes ?_)); refine ⟨_, rfl, ?_⟩) | ((refine okF_i (bldP_eq rfl) ?_); try simp only [BLS, List.take_succ_cons, List.take_zero, List.drop_succ_cons, List.drop_zero, List.cons_append, List.nil_append, Nat.reduceAdd])) | simp -implicitDefEqProofs only [EN, lsub, lget, stL, beq_self_eq_true, ne_eq, if_true, if_false, List.cons_append, List.nil_append, Option.isNone_some, Option.isNone_none]))
  exact hk _ h
theorem execCommit0 {p : Nat} {s : XS} {i : Ins} {w : P7 Int} {c : Nat} {k : Value → World → Prop} (h : St W0 (exo p s :: L) W)
    (hk : ∀ W', St W0 (exo p (s.commit i w []).1 :: L) W' → k (.int .i64 (s.commit i w []).2) W') : callK PR F_exec_Exec_Commit [.pointer (some ⟨p, 0, none⟩), .agg #[.int .i64 i.d.rep, .int .i64 i.d.n, .int .i64 i.s, .int .i64 i.v.x0, .int .i64 i.v.x1, .int .i64 i.v.x2, .int .i64 i.v.x3, .int .i64 i.v.x4, .int .i64 i.v.x5, .int .i64 i.v.x6], .agg #[.int .i64 w.x0, .int .i64 w.x1, .int .i64 w.x2, .int .i64 w.x3, .int .i64 w.x4, .int .i64 w.x5, .int .i64 w.x6], .slice none 0 c] k W := by
  haveI : Rd W0 L none B8 [] := Rd.nil _ _ _ _
  exact execCommit (bs := []) h (by decide) hk
set_option maxRecDepth 100000 in
set_option maxHeartbeats 8000000 in
theorem lawAwake23 (h00 : W0.drawn = 0) {k : Value → World → Prop} (h : St W0 L W) (hk : ∀ W', St W0 L W' → k (.bool true) W') : callK PR F_rostrumlaw23_awake [] k W := by
  apply S.rostrumlaw23_awake.call
  unfold S.rostrumlaw23_awake.body
  refine execNew h fun p W1 h => ?_
  (repeat (first | (first | (with_reducible (first | refine w1 fun _ _ => ?_ | refine w3 fun _ _ _ => ?_ | refine w4 fun _ _ _ => ?_ | refine w11 fun _ _ _ => ?_ | refine stb_n ?_)) | ((with_reducible refine w2 ?_); try simp -implicitDefEqProofs only [EN, lsub, lget, stL, beq_self_eq_true, ne_eq, if_true, if_false, List.cons_append, List.nil_append, Option.isNone_some, Option.isNone_none]; intro _ _) | ((with_reducible (first | refine w5 ?_ ?_ | refine w6 ?_ ?_ | refine w7 ?_ ?_)); simp; refine ⟨_, rfl, ?_⟩) | ((with_reducible (first | refine w8 ?_ ?_ ?_ | refine w9 ?_ ?_ ?_ | refine w10 ?_ ?_ ?_)); exact rfl; simp) | ((with_reducible refine w12 ?_ ?_ ?_ fun _ _ => ?_); simp; simp; simp [oneC]) | ((with_reducible (first | refine eqs ?_ | refine nes ?_)); refine ⟨_, rfl, ?_⟩) | ((refine okF_i (bldP_eq rfl) ?_); try simp only [BLS, List.take_succ_cons, List.take_zero, List.drop_succ_cons, List.drop_zero, List.cons_append, List.nil_append, Nat.reduceAdd])) | simp -implicitDefEqProofs only [EN, lsub, lget, stL, beq_self_eq_true, ne_eq, if_true, if_false, List.cons_append, List.nil_append, Option.isNone_some, Option.isNone_none]))
  refine bl1 [98] (by first | assumption | exact St.tick (by assumption) | exact St.tick (St.tick (by assumption))) rfl (by decide) (by decide) rfl fun lb _ h => ?_
  refine bl2 [98] h (by decide) fun W2 h => ?_
  refine execCommit (s := XS.new) (i := inN 0 1 z7) (w := ⟨1, 0, 0, 0, 0, 0, 0⟩) (a := some ⟨lb, 0, none⟩) (bs := [98]) (St.wk (L' := exo p XS.new :: arr B8 T_uint8 (some ⟨lb, 0, none⟩) 1 [98] :: L) h) (by decide) fun W3 h => ?_
  rw [aw1] at h ⊢
  (repeat (first | (first | (with_reducible (first | refine w1 fun _ _ => ?_ | refine w3 fun _ _ _ => ?_ | refine w4 fun _ _ _ => ?_ | refine w11 fun _ _ _ => ?_ | refine stb_n ?_)) | ((with_reducible refine w2 ?_); try simp -implicitDefEqProofs only [EN, lsub, lget, stL, beq_self_eq_true, ne_eq, if_true, if_false, List.cons_append, List.nil_append, Option.isNone_some, Option.isNone_none]; intro _ _) | ((with_reducible (first | refine w5 ?_ ?_ | refine w6 ?_ ?_ | refine w7 ?_ ?_)); simp; refine ⟨_, rfl, ?_⟩) | ((with_reducible (first | refine w8 ?_ ?_ ?_ | refine w9 ?_ ?_ ?_ | refine w10 ?_ ?_ ?_)); exact rfl; simp) | ((with_reducible refine w12 ?_ ?_ ?_ fun _ _ => ?_); simp; simp; simp [oneC]) | ((with_reducible (first | refine eqs ?_ | refine nes ?_)); refine ⟨_, rfl, ?_⟩) | ((refine okF_i (bldP_eq rfl) ?_); try simp only [BLS, List.take_succ_cons, List.take_zero, List.drop_succ_cons, List.drop_zero, List.cons_append, List.nil_append, Nat.reduceAdd])) | simp -implicitDefEqProofs only [EN, lsub, lget, stL, beq_self_eq_true, ne_eq, if_true, if_false, List.cons_append, List.nil_append, Option.isNone_some, Option.isNone_none]))
  refine execHave (s := xa1) (v := z7) h00 h (by decide) (by decide) (line0_len _ _) fun a1 c1 W4 h => ?_
  rw [aw2] at h ⊢
  (repeat (first | (first | (with_reducible (first | refine w1 fun _ _ => ?_ | refine w3 fun _ _ _ => ?_ | refine w4 fun _ _ _ => ?_ | refine w11 fun _ _ _ => ?_ | refine stb_n ?_)) | ((with_reducible refine w2 ?_); try simp -implicitDefEqProofs only [EN, lsub, lget, stL, beq_self_eq_true, ne_eq, if_true, if_false, List.cons_append, List.nil_append, Option.isNone_some, Option.isNone_none]; intro _ _) | ((with_reducible (first | refine w5 ?_ ?_ | refine w6 ?_ ?_ | refine w7 ?_ ?_)); simp; refine ⟨_, rfl, ?_⟩) | ((with_reducible (first | refine w8 ?_ ?_ ?_ | refine w9 ?_ ?_ ?_ | refine w10 ?_ ?_ ?_)); exact rfl; simp) | ((with_reducible refine w12 ?_ ?_ ?_ fun _ _ => ?_); simp; simp; simp [oneC]) | ((with_reducible (first | refine eqs ?_ | refine nes ?_)); refine ⟨_, rfl, ?_⟩) | ((refine okF_i (bldP_eq rfl) ?_); try simp only [BLS, List.take_succ_cons, List.take_zero, List.drop_succ_cons, List.drop_zero, List.cons_append, List.nil_append, Nat.reduceAdd])) | simp -implicitDefEqProofs only [EN, lsub, lget, stL, beq_self_eq_true, ne_eq, if_true, if_false, List.cons_append, List.nil_append, Option.isNone_some, Option.isNone_none]))
  refine execHave (s := xa1) (v := ⟨1, 0, 0, 0, 0, 0, 0⟩) h00 (St.wk (L' := exo p xa1 :: arr DOT T_api_Dot a1 c1 [] :: L) h) (by decide) (by decide) (line0_len _ _) fun a2 c2 W5 h => ?_
  rw [aw3] at h ⊢
  (repeat (first | (first | (with_reducible (first | refine w1 fun _ _ => ?_ | refine w3 fun _ _ _ => ?_ | refine w4 fun _ _ _ => ?_ | refine w11 fun _ _ _ => ?_ | refine stb_n ?_)) | ((with_reducible refine w2 ?_); try simp -implicitDefEqProofs only [EN, lsub, lget, stL, beq_self_eq_true, ne_eq, if_true, if_false, List.cons_append, List.nil_append, Option.isNone_some, Option.isNone_none]; intro _ _) | ((with_reducible (first | refine w5 ?_ ?_ | refine w6 ?_ ?_ | refine w7 ?_ ?_)); simp; refine ⟨_, rfl, ?_⟩) | ((with_reducible (first | refine w8 ?_ ?_ ?_ | refine w9 ?_ ?_ ?_ | refine w10 ?_ ?_ ?_)); exact rfl; simp) | ((with_reducible refine w12 ?_ ?_ ?_ fun _ _ => ?_); simp; simp; simp [oneC]) | ((with_reducible (first | refine eqs ?_ | refine nes ?_)); refine ⟨_, rfl, ?_⟩) | ((refine okF_i (bldP_eq rfl) ?_); try simp only [BLS, List.take_succ_cons, List.take_zero, List.drop_succ_cons, List.drop_zero, List.cons_append, List.nil_append, Nat.reduceAdd])) | simp -implicitDefEqProofs only [EN, lsub, lget, stL, beq_self_eq_true, ne_eq, if_true, if_false, List.cons_append, List.nil_append, Option.isNone_some, Option.isNone_none]))
  refine execBody (s := xa2) (d := ⟨0, 1⟩) (St.wk (L' := exo p xa2 :: arr DOT T_api_Dot a2 c2 [⟨0, 1⟩] :: L) h) (by decide) fun a3 c3 W6 h => ?_
  rw [aw4.1] at h ⊢
  rw [aw4.2]
  (repeat (first | (first | (with_reducible (first | refine w1 fun _ _ => ?_ | refine w3 fun _ _ _ => ?_ | refine w4 fun _ _ _ => ?_ | refine w11 fun _ _ _ => ?_ | refine stb_n ?_)) | ((with_reducible refine w2 ?_); try simp -implicitDefEqProofs only [EN, lsub, lget, stL, beq_self_eq_true, ne_eq, if_true, if_false, List.cons_append, List.nil_append, Option.isNone_some, Option.isNone_none]; intro _ _) | ((with_reducible (first | refine w5 ?_ ?_ | refine w6 ?_ ?_ | refine w7 ?_ ?_)); simp; refine ⟨_, rfl, ?_⟩) | ((with_reducible (first | refine w8 ?_ ?_ ?_ | refine w9 ?_ ?_ ?_ | refine w10 ?_ ?_ ?_)); exact rfl; simp) | ((with_reducible refine w12 ?_ ?_ ?_ fun _ _ => ?_); simp; simp; simp [oneC]) | ((with_reducible (first | refine eqs ?_ | refine nes ?_)); refine ⟨_, rfl, ?_⟩) | ((refine okF_i (bldP_eq rfl) ?_); try simp only [BLS, List.take_succ_cons, List.take_zero, List.drop_succ_cons, List.drop_zero, List.cons_append, List.nil_append, Nat.reduceAdd])) | simp -implicitDefEqProofs only [EN, lsub, lget, stL, beq_self_eq_true, ne_eq, if_true, if_false, List.cons_append, List.nil_append, Option.isNone_some, Option.isNone_none]))
  refine bsA DOT [(⟨0, 1⟩ : Dot)] (n := 1) (by first | assumption | exact St.tick (by assumption) | exact St.tick (St.tick (by assumption))) rfl rfl (by decide) (by decide) rfl fun a4 c4 W7 h => ?_
  refine lawDots23 (a := a2) (b := a4) (l := [⟨0, 1⟩]) (m := [⟨0, 1⟩]) h (by decide) fun W8 h => ?_
  (repeat (first | (first | (with_reducible (first | refine w1 fun _ _ => ?_ | refine w3 fun _ _ _ => ?_ | refine w4 fun _ _ _ => ?_ | refine w11 fun _ _ _ => ?_ | refine stb_n ?_)) | ((with_reducible refine w2 ?_); try simp -implicitDefEqProofs only [EN, lsub, lget, stL, beq_self_eq_true, ne_eq, if_true, if_false, List.cons_append, List.nil_append, Option.isNone_some, Option.isNone_none]; intro _ _) | ((with_reducible (first | refine w5 ?_ ?_ | refine w6 ?_ ?_ | refine w7 ?_ ?_)); simp; refine ⟨_, rfl, ?_⟩) | ((with_reducible (first | refine w8 ?_ ?_ ?_ | refine w9 ?_ ?_ ?_ | refine w10 ?_ ?_ ?_)); exact rfl; simp) | ((with_reducible refine w12 ?_ ?_ ?_ fun _ _ => ?_); simp; simp; simp [oneC]) | ((with_reducible (first | refine eqs ?_ | refine nes ?_)); refine ⟨_, rfl, ?_⟩) | ((refine okF_i (bldP_eq rfl) ?_); try simp only [BLS, List.take_succ_cons, List.take_zero, List.drop_succ_cons, List.drop_zero, List.cons_append, List.nil_append, Nat.reduceAdd])) | simp -implicitDefEqProofs only [EN, lsub, lget, stL, beq_self_eq_true, ne_eq, if_true, if_false, List.cons_append, List.nil_append, Option.isNone_some, Option.isNone_none]))
  refine b2s (a := a3) (l := [98]) (by first | assumption | exact St.tick (by assumption) | exact St.tick (St.tick (by assumption))) ?_
  (repeat (first | (first | (with_reducible (first | refine w1 fun _ _ => ?_ | refine w3 fun _ _ _ => ?_ | refine w4 fun _ _ _ => ?_ | refine w11 fun _ _ _ => ?_ | refine stb_n ?_)) | ((with_reducible refine w2 ?_); try simp -implicitDefEqProofs only [EN, lsub, lget, stL, beq_self_eq_true, ne_eq, if_true, if_false, List.cons_append, List.nil_append, Option.isNone_some, Option.isNone_none, eq_self]; intro _ _) | ((with_reducible (first | refine w5 ?_ ?_ | refine w6 ?_ ?_ | refine w7 ?_ ?_)); simp; refine ⟨_, rfl, ?_⟩) | ((with_reducible (first | refine w8 ?_ ?_ ?_ | refine w9 ?_ ?_ ?_ | refine w10 ?_ ?_ ?_)); exact rfl; simp) | ((with_reducible refine w12 ?_ ?_ ?_ fun _ _ => ?_); simp; simp; simp [oneC]) | ((with_reducible (first | refine eqs ?_ | refine nes ?_)); refine ⟨_, rfl, ?_⟩) | ((refine okF_i (bldP_eq rfl) ?_); try simp only [BLS, List.take_succ_cons, List.take_zero, List.drop_succ_cons, List.drop_zero, List.cons_append, List.nil_append, Nat.reduceAdd])) | simp -implicitDefEqProofs only [EN, lsub, lget, stL, beq_self_eq_true, ne_eq, if_true, if_false, List.cons_append, List.nil_append, Option.isNone_some, Option.isNone_none, eq_self]))
  refine execWaits (s := xa2) (St.wk (L' := exo p xa2 :: L) (by first | assumption | exact St.tick (by assumption) | exact St.tick (St.tick (by assumption)))) (by decide) (by decide) fun W9 h => ?_
  have d0 : decide ((xa2.cs.length : Int) - (xa2.done.length : Int) = 0) = true := by decide
  (repeat (first | (first | (with_reducible (first | refine w1 fun _ _ => ?_ | refine w3 fun _ _ _ => ?_ | refine w4 fun _ _ _ => ?_ | refine w11 fun _ _ _ => ?_ | refine stb_n ?_)) | ((with_reducible refine w2 ?_); try simp -implicitDefEqProofs only [EN, lsub, lget, stL, beq_self_eq_true, ne_eq, if_true, if_false, List.cons_append, List.nil_append, Option.isNone_some, Option.isNone_none, d0]; intro _ _) | ((with_reducible (first | refine w5 ?_ ?_ | refine w6 ?_ ?_ | refine w7 ?_ ?_)); simp; refine ⟨_, rfl, ?_⟩) | ((with_reducible (first | refine w8 ?_ ?_ ?_ | refine w9 ?_ ?_ ?_ | refine w10 ?_ ?_ ?_)); exact rfl; simp) | ((with_reducible refine w12 ?_ ?_ ?_ fun _ _ => ?_); simp; simp; simp [oneC]) | ((with_reducible (first | refine eqs ?_ | refine nes ?_)); refine ⟨_, rfl, ?_⟩) | ((refine okF_i (bldP_eq rfl) ?_); try simp only [BLS, List.take_succ_cons, List.take_zero, List.drop_succ_cons, List.drop_zero, List.cons_append, List.nil_append, Nat.reduceAdd])) | simp -implicitDefEqProofs only [EN, lsub, lget, stL, beq_self_eq_true, ne_eq, if_true, if_false, List.cons_append, List.nil_append, Option.isNone_some, Option.isNone_none, d0]))
  exact hk _ (St.wk (L' := L) h)
end
def i01 : Ins := inN 0 1 ⟨0, 1, 0, 0, 0, 0, 0⟩
def i11 : Ins := inN 1 1 z7
def xk1 : XS := ⟨z7, [⟨i01, z7, []⟩], []⟩
def xk2 : XS := ⟨z7, [⟨i01, z7, []⟩, ⟨i11, ⟨5, 0, 0, 0, 0, 0, 0⟩, [113]⟩], []⟩
def xk3 : XS := ⟨⟨4, 0, 0, 0, 0, 0, 0⟩, [⟨i01, z7, []⟩, ⟨i11, ⟨5, 0, 0, 0, 0, 0, 0⟩, [113]⟩], []⟩
def xk4 : XS := ⟨⟨5, 0, 0, 0, 0, 0, 0⟩, [⟨i01, z7, []⟩, ⟨i11, ⟨5, 0, 0, 0, 0, 0, 0⟩, [113]⟩], [⟨1, 1⟩, ⟨0, 1⟩]⟩
theorem xk_a : XS.new.commit (inN 0 0 z7) z7 [] = (XS.new, 1) := by kernel_rfl
theorem xk_b : XS.new.commit i01 z7 [] = (xk1, 0) := by kernel_rfl
theorem xk_c : xk1.commit (inN 0 1 z7) z7 [] = (xk1, 5) := by kernel_rfl
theorem xk_d : xk1.haves z7 = (xk1, []) := by rw [haves_eq]; kernel_rfl
theorem xk_q : xk1.commit i11 ⟨5, 0, 0, 0, 0, 0, 0⟩ [113] = (xk2, 0) := by kernel_rfl
theorem xk_e : xk2.haves ⟨4, 0, 0, 0, 0, 0, 0⟩ = (xk3, []) := by rw [haves_eq]; kernel_rfl
theorem xk_g : xk3.haves ⟨5, 0, 0, 0, 0, 0, 0⟩ = (xk4, [⟨1, 1⟩, ⟨0, 1⟩]) := by rw [haves_eq]; kernel_rfl
theorem xk_h : xk4.bodyOf ⟨2, 1⟩ = [] ∧ (xk4.find ⟨2, 1⟩).isSome = false := ⟨by kernel_rfl, by kernel_rfl⟩
theorem xk_i : xk4.commit (inN 3 1 z7) ⟨-1, 0, 0, 0, 0, 0, 0⟩ [] = (xk4, 1) := by kernel_rfl
set_option maxRecDepth 100000 in
set_option maxHeartbeats 8000000 in
theorem execKnown_walk {W : World} : callK PR F_rostrumlaw23_ExecKnown [] (fun v W' => v = .bool true ∧ Lo W W') W := by
  apply S.rostrumlaw23_ExecKnown.call
  unfold S.rostrumlaw23_ExecKnown.body
  have h00 : ({ W with drawn := 0 } : World).drawn = 0 := rfl
  have fin : ∀ (W' : World) (L : List Asn), St { W with drawn := 0 } L W' → Lo W W' := fun W' L h => St.lo h
  refine lawAwake23 h00 (St.startz W) fun W1 h => ?_
  generalize ({ W with drawn := 0 } : World) = W0 at *
  (repeat (first | (first | (with_reducible (first | refine w1 fun _ _ => ?_ | refine w3 fun _ _ _ => ?_ | refine w4 fun _ _ _ => ?_ | refine w11 fun _ _ _ => ?_ | refine stb_n ?_)) | ((with_reducible refine w2 ?_); try simp -implicitDefEqProofs only [EN, lsub, lget, stL, beq_self_eq_true, ne_eq, if_true, if_false, List.cons_append, List.nil_append, Option.isNone_some, Option.isNone_none]; intro _ _) | ((with_reducible (first | refine w5 ?_ ?_ | refine w6 ?_ ?_ | refine w7 ?_ ?_)); simp; refine ⟨_, rfl, ?_⟩) | ((with_reducible (first | refine w8 ?_ ?_ ?_ | refine w9 ?_ ?_ ?_ | refine w10 ?_ ?_ ?_)); exact rfl; simp) | ((with_reducible refine w12 ?_ ?_ ?_ fun _ _ => ?_); simp; simp; simp [oneC]) | ((with_reducible (first | refine eqs ?_ | refine nes ?_)); refine ⟨_, rfl, ?_⟩) | ((refine okF_i (bldP_eq rfl) ?_); try simp only [BLS, List.take_succ_cons, List.take_zero, List.drop_succ_cons, List.drop_zero, List.cons_append, List.nil_append, Nat.reduceAdd])) | simp -implicitDefEqProofs only [EN, lsub, lget, stL, beq_self_eq_true, ne_eq, if_true, if_false, List.cons_append, List.nil_append, Option.isNone_some, Option.isNone_none]))
  refine execNew (by first | assumption | exact St.tick (by assumption) | exact St.tick (St.tick (by assumption))) fun p W2 h => ?_
  (repeat (first | (first | (with_reducible (first | refine w1 fun _ _ => ?_ | refine w3 fun _ _ _ => ?_ | refine w4 fun _ _ _ => ?_ | refine w11 fun _ _ _ => ?_ | refine stb_n ?_)) | ((with_reducible refine w2 ?_); try simp -implicitDefEqProofs only [EN, lsub, lget, stL, beq_self_eq_true, ne_eq, if_true, if_false, List.cons_append, List.nil_append, Option.isNone_some, Option.isNone_none]; intro _ _) | ((with_reducible (first | refine w5 ?_ ?_ | refine w6 ?_ ?_ | refine w7 ?_ ?_)); simp; refine ⟨_, rfl, ?_⟩) | ((with_reducible (first | refine w8 ?_ ?_ ?_ | refine w9 ?_ ?_ ?_ | refine w10 ?_ ?_ ?_)); exact rfl; simp) | ((with_reducible refine w12 ?_ ?_ ?_ fun _ _ => ?_); simp; simp; simp [oneC]) | ((with_reducible (first | refine eqs ?_ | refine nes ?_)); refine ⟨_, rfl, ?_⟩) | ((refine okF_i (bldP_eq rfl) ?_); try simp only [BLS, List.take_succ_cons, List.take_zero, List.drop_succ_cons, List.drop_zero, List.cons_append, List.nil_append, Nat.reduceAdd])) | simp -implicitDefEqProofs only [EN, lsub, lget, stL, beq_self_eq_true, ne_eq, if_true, if_false, List.cons_append, List.nil_append, Option.isNone_some, Option.isNone_none]))
  refine execCommit0 (s := XS.new) (i := inN 0 0 z7) (w := z7) (by first | assumption | exact St.tick (by assumption) | exact St.tick (St.tick (by assumption))) fun W3 h => ?_
  rw [xk_a] at h ⊢
  (repeat (first | (first | (with_reducible (first | refine w1 fun _ _ => ?_ | refine w3 fun _ _ _ => ?_ | refine w4 fun _ _ _ => ?_ | refine w11 fun _ _ _ => ?_ | refine stb_n ?_)) | ((with_reducible refine w2 ?_); try simp -implicitDefEqProofs only [EN, lsub, lget, stL, beq_self_eq_true, ne_eq, if_true, if_false, List.cons_append, List.nil_append, Option.isNone_some, Option.isNone_none]; intro _ _) | ((with_reducible (first | refine w5 ?_ ?_ | refine w6 ?_ ?_ | refine w7 ?_ ?_)); simp; refine ⟨_, rfl, ?_⟩) | ((with_reducible (first | refine w8 ?_ ?_ ?_ | refine w9 ?_ ?_ ?_ | refine w10 ?_ ?_ ?_)); exact rfl; simp) | ((with_reducible refine w12 ?_ ?_ ?_ fun _ _ => ?_); simp; simp; simp [oneC]) | ((with_reducible (first | refine eqs ?_ | refine nes ?_)); refine ⟨_, rfl, ?_⟩) | ((refine okF_i (bldP_eq rfl) ?_); try simp only [BLS, List.take_succ_cons, List.take_zero, List.drop_succ_cons, List.drop_zero, List.cons_append, List.nil_append, Nat.reduceAdd])) | simp -implicitDefEqProofs only [EN, lsub, lget, stL, beq_self_eq_true, ne_eq, if_true, if_false, List.cons_append, List.nil_append, Option.isNone_some, Option.isNone_none]))
  refine execCommit0 (s := XS.new) (i := i01) (w := z7) h fun W4 h => ?_
  rw [xk_b] at h ⊢
  (repeat (first | (first | (with_reducible (first | refine w1 fun _ _ => ?_ | refine w3 fun _ _ _ => ?_ | refine w4 fun _ _ _ => ?_ | refine w11 fun _ _ _ => ?_ | refine stb_n ?_)) | ((with_reducible refine w2 ?_); try simp -implicitDefEqProofs only [EN, lsub, lget, stL, beq_self_eq_true, ne_eq, if_true, if_false, List.cons_append, List.nil_append, Option.isNone_some, Option.isNone_none]; intro _ _) | ((with_reducible (first | refine w5 ?_ ?_ | refine w6 ?_ ?_ | refine w7 ?_ ?_)); simp; refine ⟨_, rfl, ?_⟩) | ((with_reducible (first | refine w8 ?_ ?_ ?_ | refine w9 ?_ ?_ ?_ | refine w10 ?_ ?_ ?_)); exact rfl; simp) | ((with_reducible refine w12 ?_ ?_ ?_ fun _ _ => ?_); simp; simp; simp [oneC]) | ((with_reducible (first | refine eqs ?_ | refine nes ?_)); refine ⟨_, rfl, ?_⟩) | ((refine okF_i (bldP_eq rfl) ?_); try simp only [BLS, List.take_succ_cons, List.take_zero, List.drop_succ_cons, List.drop_zero, List.cons_append, List.nil_append, Nat.reduceAdd])) | simp -implicitDefEqProofs only [EN, lsub, lget, stL, beq_self_eq_true, ne_eq, if_true, if_false, List.cons_append, List.nil_append, Option.isNone_some, Option.isNone_none]))
  refine execCommit0 (s := xk1) (i := inN 0 1 z7) (w := z7) h fun W5 h => ?_
  rw [xk_c] at h ⊢
  (repeat (first | (first | (with_reducible (first | refine w1 fun _ _ => ?_ | refine w3 fun _ _ _ => ?_ | refine w4 fun _ _ _ => ?_ | refine w11 fun _ _ _ => ?_ | refine stb_n ?_)) | ((with_reducible refine w2 ?_); try simp -implicitDefEqProofs only [EN, lsub, lget, stL, beq_self_eq_true, ne_eq, if_true, if_false, List.cons_append, List.nil_append, Option.isNone_some, Option.isNone_none]; intro _ _) | ((with_reducible (first | refine w5 ?_ ?_ | refine w6 ?_ ?_ | refine w7 ?_ ?_)); simp; refine ⟨_, rfl, ?_⟩) | ((with_reducible (first | refine w8 ?_ ?_ ?_ | refine w9 ?_ ?_ ?_ | refine w10 ?_ ?_ ?_)); exact rfl; simp) | ((with_reducible refine w12 ?_ ?_ ?_ fun _ _ => ?_); simp; simp; simp [oneC]) | ((with_reducible (first | refine eqs ?_ | refine nes ?_)); refine ⟨_, rfl, ?_⟩) | ((refine okF_i (bldP_eq rfl) ?_); try simp only [BLS, List.take_succ_cons, List.take_zero, List.drop_succ_cons, List.drop_zero, List.cons_append, List.nil_append, Nat.reduceAdd])) | simp -implicitDefEqProofs only [EN, lsub, lget, stL, beq_self_eq_true, ne_eq, if_true, if_false, List.cons_append, List.nil_append, Option.isNone_some, Option.isNone_none]))
  refine execHave (s := xk1) (v := z7) h00 h (by decide) (by decide) (line0_len _ _) fun a1 c1 W6 h => ?_
  rw [xk_d] at h ⊢
  (repeat (first | (first | (with_reducible (first | refine w1 fun _ _ => ?_ | refine w3 fun _ _ _ => ?_ | refine w4 fun _ _ _ => ?_ | refine w11 fun _ _ _ => ?_ | refine stb_n ?_)) | ((with_reducible refine w2 ?_); try simp -implicitDefEqProofs only [EN, lsub, lget, stL, beq_self_eq_true, ne_eq, if_true, if_false, List.cons_append, List.nil_append, Option.isNone_some, Option.isNone_none]; intro _ _) | ((with_reducible (first | refine w5 ?_ ?_ | refine w6 ?_ ?_ | refine w7 ?_ ?_)); simp; refine ⟨_, rfl, ?_⟩) | ((with_reducible (first | refine w8 ?_ ?_ ?_ | refine w9 ?_ ?_ ?_ | refine w10 ?_ ?_ ?_)); exact rfl; simp) | ((with_reducible refine w12 ?_ ?_ ?_ fun _ _ => ?_); simp; simp; simp [oneC]) | ((with_reducible (first | refine eqs ?_ | refine nes ?_)); refine ⟨_, rfl, ?_⟩) | ((refine okF_i (bldP_eq rfl) ?_); try simp only [BLS, List.take_succ_cons, List.take_zero, List.drop_succ_cons, List.drop_zero, List.cons_append, List.nil_append, Nat.reduceAdd])) | simp -implicitDefEqProofs only [EN, lsub, lget, stL, beq_self_eq_true, ne_eq, if_true, if_false, List.cons_append, List.nil_append, Option.isNone_some, Option.isNone_none]))
  refine bl1 [113] (by first | assumption | exact St.tick (by assumption) | exact St.tick (St.tick (by assumption))) rfl (by decide) (by decide) rfl fun lb _ h => ?_
  refine bl2 [113] h (by decide) fun W7 h => ?_
  refine execCommit (s := xk1) (i := i11) (w := ⟨5, 0, 0, 0, 0, 0, 0⟩) (a := some ⟨lb, 0, none⟩) (bs := [113]) (St.wk (L' := exo p xk1 :: arr B8 T_uint8 (some ⟨lb, 0, none⟩) 1 [113] :: arr DOT T_api_Dot a1 c1 [] :: []) h) (by decide) fun W8 h => ?_
  rw [xk_q] at h
  (repeat (first | (first | (with_reducible (first | refine w1 fun _ _ => ?_ | refine w3 fun _ _ _ => ?_ | refine w4 fun _ _ _ => ?_ | refine w11 fun _ _ _ => ?_ | refine stb_n ?_)) | ((with_reducible refine w2 ?_); try simp -implicitDefEqProofs only [EN, lsub, lget, stL, beq_self_eq_true, ne_eq, if_true, if_false, List.cons_append, List.nil_append, Option.isNone_some, Option.isNone_none]; intro _ _) | ((with_reducible (first | refine w5 ?_ ?_ | refine w6 ?_ ?_ | refine w7 ?_ ?_)); simp; refine ⟨_, rfl, ?_⟩) | ((with_reducible (first | refine w8 ?_ ?_ ?_ | refine w9 ?_ ?_ ?_ | refine w10 ?_ ?_ ?_)); exact rfl; simp) | ((with_reducible refine w12 ?_ ?_ ?_ fun _ _ => ?_); simp; simp; simp [oneC]) | ((with_reducible (first | refine eqs ?_ | refine nes ?_)); refine ⟨_, rfl, ?_⟩) | ((refine okF_i (bldP_eq rfl) ?_); try simp only [BLS, List.take_succ_cons, List.take_zero, List.drop_succ_cons, List.drop_zero, List.cons_append, List.nil_append, Nat.reduceAdd])) | simp -implicitDefEqProofs only [EN, lsub, lget, stL, beq_self_eq_true, ne_eq, if_true, if_false, List.cons_append, List.nil_append, Option.isNone_some, Option.isNone_none]))
  refine execHave (s := xk2) (v := ⟨4, 0, 0, 0, 0, 0, 0⟩) h00 h (by decide) (by decide) (line0_len _ _) fun a2 c2 W9 h => ?_
  rw [xk_e] at h ⊢
  (repeat (first | (first | (with_reducible (first | refine w1 fun _ _ => ?_ | refine w3 fun _ _ _ => ?_ | refine w4 fun _ _ _ => ?_ | refine w11 fun _ _ _ => ?_ | refine stb_n ?_)) | ((with_reducible refine w2 ?_); try simp -implicitDefEqProofs only [EN, lsub, lget, stL, beq_self_eq_true, ne_eq, if_true, if_false, List.cons_append, List.nil_append, Option.isNone_some, Option.isNone_none]; intro _ _) | ((with_reducible (first | refine w5 ?_ ?_ | refine w6 ?_ ?_ | refine w7 ?_ ?_)); simp; refine ⟨_, rfl, ?_⟩) | ((with_reducible (first | refine w8 ?_ ?_ ?_ | refine w9 ?_ ?_ ?_ | refine w10 ?_ ?_ ?_)); exact rfl; simp) | ((with_reducible refine w12 ?_ ?_ ?_ fun _ _ => ?_); simp; simp; simp [oneC]) | ((with_reducible (first | refine eqs ?_ | refine nes ?_)); refine ⟨_, rfl, ?_⟩) | ((refine okF_i (bldP_eq rfl) ?_); try simp only [BLS, List.take_succ_cons, List.take_zero, List.drop_succ_cons, List.drop_zero, List.cons_append, List.nil_append, Nat.reduceAdd])) | simp -implicitDefEqProofs only [EN, lsub, lget, stL, beq_self_eq_true, ne_eq, if_true, if_false, List.cons_append, List.nil_append, Option.isNone_some, Option.isNone_none]))
  refine execWaits (s := xk3) (St.wk (L' := exo p xk3 :: arr DOT T_api_Dot a2 c2 [] :: arr DOT T_api_Dot a1 c1 [] :: []) h) (by decide) (by decide) fun W10 h => ?_
  have d1 : decide ((xk3.cs.length : Int) - (xk3.done.length : Int) = 2) = true := by decide
  (repeat (first | (first | (with_reducible (first | refine w1 fun _ _ => ?_ | refine w3 fun _ _ _ => ?_ | refine w4 fun _ _ _ => ?_ | refine w11 fun _ _ _ => ?_ | refine stb_n ?_)) | ((with_reducible refine w2 ?_); try simp -implicitDefEqProofs only [EN, lsub, lget, stL, beq_self_eq_true, ne_eq, if_true, if_false, List.cons_append, List.nil_append, Option.isNone_some, Option.isNone_none]; intro _ _) | ((with_reducible (first | refine w5 ?_ ?_ | refine w6 ?_ ?_ | refine w7 ?_ ?_)); simp; refine ⟨_, rfl, ?_⟩) | ((with_reducible (first | refine w8 ?_ ?_ ?_ | refine w9 ?_ ?_ ?_ | refine w10 ?_ ?_ ?_)); exact rfl; simp) | ((with_reducible refine w12 ?_ ?_ ?_ fun _ _ => ?_); simp; simp; simp [oneC]) | ((with_reducible (first | refine eqs ?_ | refine nes ?_)); refine ⟨_, rfl, ?_⟩) | ((refine okF_i (bldP_eq rfl) ?_); try simp only [BLS, List.take_succ_cons, List.take_zero, List.drop_succ_cons, List.drop_zero, List.cons_append, List.nil_append, Nat.reduceAdd])) | simp -implicitDefEqProofs only [EN, lsub, lget, stL, beq_self_eq_true, ne_eq, if_true, if_false, List.cons_append, List.nil_append, Option.isNone_some, Option.isNone_none]))
  refine execHave (s := xk3) (v := ⟨5, 0, 0, 0, 0, 0, 0⟩) h00 h (by decide) (by decide) (line0_len _ _) fun a3 c3 W11 h => ?_
  rw [xk_g] at h ⊢
  (repeat (first | (first | (with_reducible (first | refine w1 fun _ _ => ?_ | refine w3 fun _ _ _ => ?_ | refine w4 fun _ _ _ => ?_ | refine w11 fun _ _ _ => ?_ | refine stb_n ?_)) | ((with_reducible refine w2 ?_); try simp -implicitDefEqProofs only [EN, lsub, lget, stL, beq_self_eq_true, ne_eq, if_true, if_false, List.cons_append, List.nil_append, Option.isNone_some, Option.isNone_none]; intro _ _) | ((with_reducible (first | refine w5 ?_ ?_ | refine w6 ?_ ?_ | refine w7 ?_ ?_)); simp; refine ⟨_, rfl, ?_⟩) | ((with_reducible (first | refine w8 ?_ ?_ ?_ | refine w9 ?_ ?_ ?_ | refine w10 ?_ ?_ ?_)); exact rfl; simp) | ((with_reducible refine w12 ?_ ?_ ?_ fun _ _ => ?_); simp; simp; simp [oneC]) | ((with_reducible (first | refine eqs ?_ | refine nes ?_)); refine ⟨_, rfl, ?_⟩) | ((refine okF_i (bldP_eq rfl) ?_); try simp only [BLS, List.take_succ_cons, List.take_zero, List.drop_succ_cons, List.drop_zero, List.cons_append, List.nil_append, Nat.reduceAdd])) | simp -implicitDefEqProofs only [EN, lsub, lget, stL, beq_self_eq_true, ne_eq, if_true, if_false, List.cons_append, List.nil_append, Option.isNone_some, Option.isNone_none]))
  refine execBody (s := xk4) (d := ⟨2, 1⟩) (St.wk (L' := exo p xk4 :: arr DOT T_api_Dot a3 c3 [⟨1, 1⟩, ⟨0, 1⟩] :: arr DOT T_api_Dot a2 c2 [] :: arr DOT T_api_Dot a1 c1 [] :: []) h) (by decide) fun a4 c4 W12 h => ?_
  rw [xk_h.1] at h ⊢
  rw [xk_h.2]
  (repeat (first | (first | (with_reducible (first | refine w1 fun _ _ => ?_ | refine w3 fun _ _ _ => ?_ | refine w4 fun _ _ _ => ?_ | refine w11 fun _ _ _ => ?_ | refine stb_n ?_)) | ((with_reducible refine w2 ?_); try simp -implicitDefEqProofs only [EN, lsub, lget, stL, beq_self_eq_true, ne_eq, if_true, if_false, List.cons_append, List.nil_append, Option.isNone_some, Option.isNone_none]; intro _ _) | ((with_reducible (first | refine w5 ?_ ?_ | refine w6 ?_ ?_ | refine w7 ?_ ?_)); simp; refine ⟨_, rfl, ?_⟩) | ((with_reducible (first | refine w8 ?_ ?_ ?_ | refine w9 ?_ ?_ ?_ | refine w10 ?_ ?_ ?_)); exact rfl; simp) | ((with_reducible refine w12 ?_ ?_ ?_ fun _ _ => ?_); simp; simp; simp [oneC]) | ((with_reducible (first | refine eqs ?_ | refine nes ?_)); refine ⟨_, rfl, ?_⟩) | ((refine okF_i (bldP_eq rfl) ?_); try simp only [BLS, List.take_succ_cons, List.take_zero, List.drop_succ_cons, List.drop_zero, List.cons_append, List.nil_append, Nat.reduceAdd])) | simp -implicitDefEqProofs only [EN, lsub, lget, stL, beq_self_eq_true, ne_eq, if_true, if_false, List.cons_append, List.nil_append, Option.isNone_some, Option.isNone_none]))
  refine execCommit0 (s := xk4) (i := inN 3 1 z7) (w := ⟨-1, 0, 0, 0, 0, 0, 0⟩) (St.wk (L' := exo p xk4 :: arr DOT T_api_Dot a3 c3 [⟨1, 1⟩, ⟨0, 1⟩] :: arr DOT T_api_Dot a2 c2 [] :: arr DOT T_api_Dot a1 c1 [] :: []) h) fun W13 h => ?_
  rw [xk_i] at h ⊢
  (repeat (first | (first | (with_reducible (first | refine w1 fun _ _ => ?_ | refine w3 fun _ _ _ => ?_ | refine w4 fun _ _ _ => ?_ | refine w11 fun _ _ _ => ?_ | refine stb_n ?_)) | ((with_reducible refine w2 ?_); try simp -implicitDefEqProofs only [EN, lsub, lget, stL, beq_self_eq_true, ne_eq, if_true, if_false, List.cons_append, List.nil_append, Option.isNone_some, Option.isNone_none, d1]; intro _ _) | ((with_reducible (first | refine w5 ?_ ?_ | refine w6 ?_ ?_ | refine w7 ?_ ?_)); simp; refine ⟨_, rfl, ?_⟩) | ((with_reducible (first | refine w8 ?_ ?_ ?_ | refine w9 ?_ ?_ ?_ | refine w10 ?_ ?_ ?_)); exact rfl; simp) | ((with_reducible refine w12 ?_ ?_ ?_ fun _ _ => ?_); simp; simp; simp [oneC]) | ((with_reducible (first | refine eqs ?_ | refine nes ?_)); refine ⟨_, rfl, ?_⟩) | ((refine okF_i (bldP_eq rfl) ?_); try simp only [BLS, List.take_succ_cons, List.take_zero, List.drop_succ_cons, List.drop_zero, List.cons_append, List.nil_append, Nat.reduceAdd])) | simp -implicitDefEqProofs only [EN, lsub, lget, stL, beq_self_eq_true, ne_eq, if_true, if_false, List.cons_append, List.nil_append, Option.isNone_some, Option.isNone_none, d1]))
  refine bsA DOT [(⟨1, 1⟩ : Dot), ⟨0, 1⟩] (n := 2) (by first | assumption | exact St.tick (by assumption) | exact St.tick (St.tick (by assumption))) rfl rfl (by decide) (by decide) rfl fun a5 c5 W14 h => ?_
  refine lawDots23 (a := a3) (b := a5) (l := [⟨1, 1⟩, ⟨0, 1⟩]) (m := [⟨1, 1⟩, ⟨0, 1⟩]) h (by decide) fun W15 h => ?_
  (repeat (first | (first | (with_reducible (first | refine w1 fun _ _ => ?_ | refine w3 fun _ _ _ => ?_ | refine w4 fun _ _ _ => ?_ | refine w11 fun _ _ _ => ?_ | refine stb_n ?_)) | ((with_reducible refine w2 ?_); try simp -implicitDefEqProofs only [EN, lsub, lget, stL, beq_self_eq_true, ne_eq, if_true, if_false, List.cons_append, List.nil_append, Option.isNone_some, Option.isNone_none]; intro _ _) | ((with_reducible (first | refine w5 ?_ ?_ | refine w6 ?_ ?_ | refine w7 ?_ ?_)); simp; refine ⟨_, rfl, ?_⟩) | ((with_reducible (first | refine w8 ?_ ?_ ?_ | refine w9 ?_ ?_ ?_ | refine w10 ?_ ?_ ?_)); exact rfl; simp) | ((with_reducible refine w12 ?_ ?_ ?_ fun _ _ => ?_); simp; simp; simp [oneC]) | ((with_reducible (first | refine eqs ?_ | refine nes ?_)); refine ⟨_, rfl, ?_⟩) | ((refine okF_i (bldP_eq rfl) ?_); try simp only [BLS, List.take_succ_cons, List.take_zero, List.drop_succ_cons, List.drop_zero, List.cons_append, List.nil_append, Nat.reduceAdd])) | simp -implicitDefEqProofs only [EN, lsub, lget, stL, beq_self_eq_true, ne_eq, if_true, if_false, List.cons_append, List.nil_append, Option.isNone_some, Option.isNone_none]))
  refine execDone (s := xk4) (St.wk (L' := exo p xk4 :: arr DOT T_api_Dot a3 c3 [⟨1, 1⟩, ⟨0, 1⟩] :: []) (by first | assumption | exact St.tick (by assumption) | exact St.tick (St.tick (by assumption)))) (by decide) fun a6 c6 W16 h => ?_
  refine lawDots23 (a := a6) (b := a3) (l := xk4.done) (m := [⟨1, 1⟩, ⟨0, 1⟩]) h (by decide) fun W17 h => ?_
  have d2 : decide (xk4.done = [⟨1, 1⟩, ⟨0, 1⟩]) = true := by decide
  (repeat (first | (first | (with_reducible (first | refine w1 fun _ _ => ?_ | refine w3 fun _ _ _ => ?_ | refine w4 fun _ _ _ => ?_ | refine w11 fun _ _ _ => ?_ | refine stb_n ?_)) | ((with_reducible refine w2 ?_); try simp -implicitDefEqProofs only [EN, lsub, lget, stL, beq_self_eq_true, ne_eq, if_true, if_false, List.cons_append, List.nil_append, Option.isNone_some, Option.isNone_none, d2]; intro _ _) | ((with_reducible (first | refine w5 ?_ ?_ | refine w6 ?_ ?_ | refine w7 ?_ ?_)); simp; refine ⟨_, rfl, ?_⟩) | ((with_reducible (first | refine w8 ?_ ?_ ?_ | refine w9 ?_ ?_ ?_ | refine w10 ?_ ?_ ?_)); exact rfl; simp) | ((with_reducible refine w12 ?_ ?_ ?_ fun _ _ => ?_); simp; simp; simp [oneC]) | ((with_reducible (first | refine eqs ?_ | refine nes ?_)); refine ⟨_, rfl, ?_⟩) | ((refine okF_i (bldP_eq rfl) ?_); try simp only [BLS, List.take_succ_cons, List.take_zero, List.drop_succ_cons, List.drop_zero, List.cons_append, List.nil_append, Nat.reduceAdd])) | simp -implicitDefEqProofs only [EN, lsub, lget, stL, beq_self_eq_true, ne_eq, if_true, if_false, List.cons_append, List.nil_append, Option.isNone_some, Option.isNone_none, d2]))
  exact ⟨rfl, fin _ _ (by first | assumption | exact St.tick (by assumption) | exact St.tick (St.tick (by assumption)))⟩
end Go.Proofs.Ytkjhccpanedccaa
namespace Go.Proofs.Ytkjhccpanedccaa.execKnownDone
set_option linter.unusedVariables false
set_option linter.unusedSimpArgs false
open Go Go.Eng Go.ChangeShapes Go.WideShapes Go.ChangeAt Go.RowKit

theorem own : ownKnob Try.prog.godebug = none := by kernel_rfl
theorem laidOut : laidOutB Try.prog = true := by kernel_rfl

set_option maxRecDepth 100000 in
theorem lifted (os : Os) (started : os.Started) (H : Type) (enc : TypeId × Value → H) :
    ReturnsInHanded {} Try.checked os F_rostrumlaw23_ExecKnown .any (Rows.execKnownSpec.pre6 enc Try.prog Try.f6 Rows.execKnownRow.domain false) (Rows.execKnownSpec.post enc Try.prog Try.f6 false true false false) := by
  refine returnsInHanded_of_change (C := Try.checked) own started (by kernel_rfl) S.rostrumlaw23_ExecKnown.fn
    (ChangeSpec.witness6 (enc := enc) (C := Try.checked) false ⟨#[], #[], []⟩ 8 (by kernel_rfl) (by kernel_rfl) (by kernel_rfl) (by kernel_rfl)) ?_
  intro W base args ds gs before hval0 hW hcnd _
  have hval : ∀ (j : Nat) t v, Try.f6.params[j]? = some t → args[j]? = some v → Value.okWide Try.prog W .any base t v := hval0
  have hW' := hW
  obtain ⟨p, q, hA0, hV, rfl, hfz, hnd⟩ := hW
  have hA : DataW.TrodAll enc Try.prog W 0 (fun _ => true) true Try.f6.params.toList args.toList ds p := hA0
  have hpar : Try.f6.params.toList = [] := by kernel_rfl
  rw [hpar] at hA
  have hA1 := hA
  obtain ⟨hargs, rfl, rfl⟩ := trodAll_nil hA
  obtain rfl : args = #[] := by cases args; simp_all
  obtain ⟨rfl, rfl⟩ := trodVars_none hV

  clear hA0 hval0
  have hc : Calls Try.prog F_rostrumlaw23_ExecKnown #[] W fun e W' => e = .returned (.bool true) ∧ Below W.heap.size W W' :=
    Calls.mono (execKnown_walk (W := W)) fun e W' h => by
      cases e <;> first | exact ⟨by rw [h.1], h.2.below⟩ | exact h.elim
  refine hc.mono fun e W' ⟨he, bel⟩ => ?_
  subst he
  exact ⟨_, rfl, _, _, _, [], _, [], hW', trodAll_mk1 (shut_bool (t := T_bool) (by kernel_rfl) _), keep_all laidOut (by kernel_rfl) hA1 bel, rfl, bel.frame _, fun h => by cases h⟩

theorem proved : Rows.ExecKnownSaid :=
  OpenClaim.holds_of_wide F_rostrumlaw23_ExecKnown Try.f6 rfl rfl rfl rfl rfl rfl rfl ⟨rfl, rfl, rfl, rfl, rfl⟩ rfl rfl rfl rfl rfl (by kernel_rfl) S.rostrumlaw23_ExecKnown.fn (by kernel_rfl)
    (of_decide_eq_true (by kernel_rfl)) (by unfold Func.isWrapper; first | (rw [if_pos (by decide +kernel)]; kernel_rfl) | (rw [if_neg (by decide +kernel)]; exact ⟨rfl, rfl⟩))
    (fun os started H enc _ => lifted os started H enc)
end Go.Proofs.Ytkjhccpanedccaa.execKnownDone
