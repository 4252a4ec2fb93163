/- LeadNoop, plainly. -/
import Derived.Test.YtpihhlaiofkmdaaCLead8
namespace Go.Proofs.Ytpihhlaiofkmdaa
set_option linter.unusedVariables false
set_option linter.unusedSimpArgs false
open Go Go.Eng

section
variable (n rep : Int) (d : Dot)
def nb : Int × Int := (1, rep)
def nm : Msg Bs := ⟨4, d, nb rep, [], 0, P7.all 0⟩
def nr0 : Rec Bs := ⟨0, [], 0, P7.all 0, nb rep, (0, 0)⟩
def na0 : Ans Bs := ⟨true, nb rep, nr0 rep⟩
def nm2 : Msg Bs := ⟨2, d, nb rep, [], 0, P7.all 0⟩
def nr2 : Rec Bs := ⟨2, [], 0, P7.all 0, nb rep, nb rep⟩
def na2 : Ans Bs := ⟨true, nb rep, nr2 rep⟩
def nm3 : Msg Bs := ⟨3, d, nb rep, [], 0, P7.all 0⟩
def nsel (r : Rec Bs) (S : P7 Bool) : P7 (Option (Rec Bs)) := S.map fun b => if b then some r else none
def n4 (S : P7 Bool) : LD := ⟨n, rep, nm rep d, 4, false, false, nsel (nr0 rep) S, nr0 rep⟩
def n2 (S : P7 Bool) : LD := ⟨n, rep, nm2 rep d, 2, false, false, nsel (nr2 rep) S, nr2 rep⟩
structure NIn : Prop where
  n3 : 3 ≤ n
  n7 : n ≤ 7
  r0 : 0 ≤ rep
  rn : rep < n
  d0 : 0 ≤ d.rep
  dn : d.rep < n
  m1 : 1 ≤ d.n
  m2 : d.n ≤ 1000
variable {n rep d}
theorem n_may (h : NIn n rep d) (k : Int) (hk : 2 ≤ k ∧ k ≤ 4) : (Msg.may ⟨k, d, nb rep, [], 0, P7.all 0⟩) = true := by
  obtain ⟨h1, h2, h3, h4, h5, h6, h7, h8⟩ := h
  unfold Msg.may Dot.okI goodB contentOk nb
  have hd : depsOk (P7.all 0) = true := by decide
  simp only [hd, Bool.true_and, Bool.and_eq_true, decide_eq_true_eq, Bool.or_eq_true]
  refine ⟨⟨⟨⟨by omega, by omega⟩, by omega⟩, by omega, by omega, by simp⟩, ?_⟩
  exact .inr ⟨⟨rfl, trivial⟩, trivial⟩
theorem cmp_self (b : Int × Int) : cmpB b.1 b.2 b.1 b.2 = 0 := by
  have : ∀ a : Int, cmpI a a = 0 := fun a => by unfold cmpI; rw [if_neg (by omega), if_neg (by omega)]
  simp [cmpB, orI, this]
theorem cmp_one (h : 0 ≤ rep) : cmpB 1 rep 0 0 = 1 := by simp [cmpB, orI, cmpI]
theorem trec1 (d : Dot) (r : Rec Bs) : trec [(d, r)] d = r := by simp [trec, mget]
theorem trec0 (d : Dot) : trec [] d = recZ := rfl
/-- what a table says to 'prepare': one that knows nothing but that -/
theorem n_prep (h : NIn n rep d) (U : Tbl) (hU : U = [] ∨ U = [(d, nr0 rep)]) : tdo U (nm rep d) = ([(d, nr0 rep)], na0 rep, 0) := by
  unfold tdo
  rw [if_neg (by rw [show (nm rep d).may = true from n_may h 4 (by omega)]; simp)]
  have ho : old (nm rep d) (trec U d) = none := by
    rcases hU with rfl | rfl
    · refine old_n (show ¬ (0 : Int) = 3 by decide) (show ¬ (4 : Int) = 3 by decide) ?_ (fun h => absurd (show (4 : Int) = 1 from h.1) (by decide))
      rintro (h1 | h1)
      · have h1 : cmpB 1 rep 0 0 < 0 := h1
        rw [cmp_one h.r0] at h1; omega
      · exact absurd (show (4 : Int) = 1 from h1.1) (by decide)
    · rw [trec1]
      refine old_n (show ¬ (0 : Int) = 3 by decide) (show ¬ (4 : Int) = 3 by decide) ?_ (fun h => absurd (show (4 : Int) = 1 from h.1) (by decide))
      rintro (h1 | h1)
      · have h1 : cmpB (nb rep).1 (nb rep).2 (nb rep).1 (nb rep).2 < 0 := h1
        rw [cmp_self] at h1; omega
      · exact absurd (show (4 : Int) = 1 from h1.1) (by decide)
  rw [show (nm rep d).dot = d from rfl, ho]
  rcases hU with rfl | rfl
  · rfl
  · simp only [trec1, mput, if_true]; rfl
theorem n_acc (h : NIn n rep d) (U : Tbl) (hU : U = [] ∨ U = [(d, nr0 rep)] ∨ U = [(d, nr2 rep)]) : tdo U (nm2 rep d) = ([(d, nr2 rep)], na2 rep, 0) := by
  unfold tdo
  rw [if_neg (by rw [show (nm2 rep d).may = true from n_may h 2 (by omega)]; simp)]
  have ho : old (nm2 rep d) (trec U d) = none := by
    rcases hU with rfl | rfl | rfl
    · refine old_n (show ¬ (0 : Int) = 3 by decide) (show ¬ (2 : Int) = 3 by decide) ?_ (fun h => absurd (show (2 : Int) = 1 from h.1) (by decide))
      rintro (h1 | h1)
      · have h1 : cmpB 1 rep 0 0 < 0 := h1
        rw [cmp_one h.r0] at h1; omega
      · exact absurd (show (2 : Int) = 1 from h1.1) (by decide)
    · rw [trec1]
      refine old_n (show ¬ (0 : Int) = 3 by decide) (show ¬ (2 : Int) = 3 by decide) ?_ (fun h => absurd (show (2 : Int) = 1 from h.1) (by decide))
      rintro (h1 | h1)
      · have h1 : cmpB (nb rep).1 (nb rep).2 (nb rep).1 (nb rep).2 < 0 := h1
        rw [cmp_self] at h1; omega
      · exact absurd (show (2 : Int) = 1 from h1.1) (by decide)
    · rw [trec1]
      refine old_n (show ¬ (2 : Int) = 3 by decide) (show ¬ (2 : Int) = 3 by decide) ?_ (fun h => absurd (show (2 : Int) = 1 from h.1) (by decide))
      rintro (h1 | h1)
      · have h1 : cmpB (nb rep).1 (nb rep).2 (nb rep).1 (nb rep).2 < 0 := h1
        rw [cmp_self] at h1; omega
      · exact absurd (show (2 : Int) = 1 from h1.1) (by decide)
  rw [show (nm2 rep d).dot = d from rfl, ho]
  rcases hU with rfl | rfl | rfl
  · rfl
  · simp only [trec1, mput, if_true]; rfl
  · simp only [trec1, mput, if_true]; rfl
def only (rep : Int) : P7 Bool := P7.of fun j => decide (j = rep.toNat)
theorem nsel_set (r : Rec Bs) (S : P7 Bool) (i : Nat) : (nsel r S).set i (some r) = nsel r (S.set i true) := by
  unfold nsel; rw [P7.map_set]; rfl
theorem nsel_only (r : Rec Bs) : (P7.all none).set rep.toNat (some r) = nsel r (only rep) := by
  refine P7.ext7 fun j hj => ?_
  unfold nsel only
  rw [P7.get_set _ _ _ _ hj, P7.get_map, P7.get_of _ hj, P7.get_all]
  by_cases h : j = rep.toNat
  · rw [if_pos h, if_pos (by simp [h])]
  · rw [if_neg h, if_neg (by simp [h])]
theorem would1 (d : Dot) (r : Rec Bs) : would [(d, r)] d = (0, P7.all 0) := by simp [would, wouldStep]
theorem n_recover (h : NIn n rep d) : recover n rep d [] = .inl (n4 n rep d (only rep), [(d, nr0 rep)]) := by
  have hg : goodL n rep = true := by unfold goodL; simp; have := h.n3; have := h.n7; have := h.r0; have := h.rn; omega
  have hmz : (Msg.may ⟨4, d, (0, 0), [], 0, P7.all 0⟩) = true := by
    obtain ⟨h1, h2, h3, h4, h5, h6, h7, h8⟩ := h
    unfold Msg.may Dot.okI goodB contentOk
    have hd : depsOk (P7.all 0) = true := by decide
    simp only [hd, Bool.true_and, Bool.and_eq_true, decide_eq_true_eq, Bool.or_eq_true]
    refine ⟨⟨⟨⟨by omega, by omega⟩, by omega⟩, by omega, by omega, by simp⟩, ?_⟩
    exact .inr ⟨⟨rfl, trivial⟩, trivial⟩
  have hnx : nextB 0 0 rep = (nb rep, 0) := by
    have := h.r0; have := h.rn; have := h.n7
    unfold nextB
    rw [if_pos ⟨by decide, by omega, by omega⟩, if_neg (by decide)]
    rfl
  unfold recover
  rw [if_neg, if_neg]
  · rw [trec0, show recZ.bal = (0, 0) from rfl, hnx]
    rw [if_neg (by simp)]
    have hb := LD.begin_t (l := ldZ n rep) (ph := 4) (congrArg (fun x => x.2.1) (n_prep h [] (.inl rfl))) (show ¬ (0 : Int) = 3 by decide) rfl
    rw [show ({ (⟨4, d, (0, 0), [], 0, P7.all 0⟩ : Msg Bs) with bal := nb rep } : Msg Bs) = nm rep d from rfl, hb, n_prep h [] (.inl rfl)]
    congr 2
    unfold n4
    congr 1
    exact nsel_only _
  · rw [trec0]; exact (show ¬ (0 : Int) = 3 by decide)
  · rintro (h1 | h1 | h1)
    · rw [hg] at h1; cases h1
    · have := h.dn; omega
    · rw [hmz] at h1; cases h1
def cntB (S : P7 Bool) : Int := ((S.list.filter id).length : Int)
theorem nsel_cnt (r : Rec Bs) (S : P7 Bool) : cnt (nsel r S).list = cntB S := by
  unfold cnt cntB nsel
  rw [show (S.map fun b => if b then some r else none).list = S.list.map (fun b => if b then some r else none) from rfl, List.filter_map, List.length_map]
  congr 3
  funext b
  cases b <;> rfl
theorem nsel_get (r : Rec Bs) (S : P7 Bool) (i : Nat) : ((nsel r S).get i).isSome = S.get i := by
  unfold nsel; rw [P7.get_map]; cases S.get i <;> rfl
theorem gr_sel {r : Rec Bs} {st : Int} (hne : r.st ≠ st) : ∀ (l : List Bool), greatest id st (l.map fun b => if b then some r else none) = none := by
  intro l
  unfold greatest
  induction l with
  | nil => rfl
  | cons b l ih =>
    cases b with
    | false => exact ih
    | true =>
      rw [List.map_cons, List.foldl_cons]
      have : grStep id st none (some r) = none := by unfold grStep; exact if_neg fun h => hne h.1
      rw [show (if true = true then some r else none) = some r from rfl, this]
      exact ih
/-- phase 4: one more answer -/
theorem n4_got (h : NIn n rep d) {S : P7 Bool} {i : Nat} (hi : (i : Int) < n) (hr : (i : Int) ≠ rep) (hs : S.get i = false) (hrep : S.get rep.toNat = true) :
    (n4 n rep d S).got [(d, nr0 rep)] i (na0 rep) = (if n.tdiv 2 + 1 ≤ cntB (S.set i true) then (n2 n rep d (only rep), [(d, nr2 rep)]) else (n4 n rep d (S.set i true), [(d, nr0 rep)]), true) := by
  have h7 := h.n7
  have n1 : ¬ ((n4 n rep d S).phase = 3 ∨ (n4 n rep d S).phase = 5 ∨ (i : Int) < 0 ∨ (n4 n rep d S).n ≤ i ∨ (i : Int) = (n4 n rep d S).rep ∨ ((n4 n rep d S).recs.get (i : Int).toNat).isSome = true) := by
    rintro (h | h | h | h | h | h)
    · exact absurd (show (4 : Int) = 3 from h) (by decide)
    · exact absurd (show (4 : Int) = 5 from h) (by decide)
    · omega
    · have : n ≤ i := h; omega
    · exact hr h
    · rw [Int.toNat_natCast, show (n4 n rep d S).recs = nsel (nr0 rep) S from rfl, nsel_get, hs] at h
      cases h
  unfold LD.got
  rw [if_neg n1, if_neg (by rintro ⟨_, h | h⟩; exact h rfl; unfold LD.fits at h; simp [n4] at h), if_neg (show ¬ (na0 rep).rc.st = 3 from (show ¬ (0 : Int) = 3 by decide)), if_neg (by simp [na0])]
  rw [if_neg (show ¬ (n4 n rep d S).phase = 1 from (show ¬ (4 : Int) = 1 by decide)), if_neg (show ¬ (n4 n rep d S).phase = 2 from (show ¬ (4 : Int) = 2 by decide)), if_pos (show (n4 n rep d S).phase = 4 from rfl)]
  congr 1
  have hl : ({ n4 n rep d S with recs := (n4 n rep d S).recs.set (i : Int).toNat (some (na0 rep).rc) } : LD) = n4 n rep d (S.set i true) := by
    rw [Int.toNat_natCast]; exact congrArg (fun R => (⟨n, rep, nm rep d, 4, false, false, R, nr0 rep⟩ : LD)) (nsel_set (nr0 rep) S i)
  rw [hl]
  have hm : (n4 n rep d (S.set i true)).maj = decide (n.tdiv 2 + 1 ≤ cntB (S.set i true)) := by unfold LD.maj LD.count; rw [show (n4 n rep d (S.set i true)).recs = nsel (nr0 rep) (S.set i true) from rfl, nsel_cnt]; rfl
  rw [hm]
  by_cases hc : n.tdiv 2 + 1 ≤ cntB (S.set i true)
  · rw [if_pos hc, if_pos (by simpa using hc)]
    unfold LD.prepared
    have hli : (n4 n rep d (S.set i true)).recs.list = (S.set i true).list.map (fun b => if b then some (nr0 rep) else none) := rfl
    rw [hli, gr_sel (show (0 : Int) ≠ 2 by decide), gr_sel (show (0 : Int) ≠ 1 by decide)]
    have ha : (n4 n rep d (S.set i true)).alike = false := by
      unfold LD.alike
      rw [hli, List.all_eq_false]
      refine ⟨some (nr0 rep), ?_, by simp [likeR, nr0]⟩
      rw [List.mem_map]
      refine ⟨true, ?_, rfl⟩
      have h1 := get7_mem (S.set i true) (i := i) (by omega)
      rwa [P7.get_set _ _ _ _ (by omega), if_pos rfl] at h1
    rw [ha]
    simp only [Bool.false_eq_true, if_false]
    rw [show (n4 n rep d (S.set i true)).m = nm rep d from rfl, show (nm rep d).dot = d from rfl, would1]
    have hb := LD.begin_t (l := n4 n rep d (S.set i true)) (ph := 2) (congrArg (fun x => x.2.1) (n_acc h [(d, nr0 rep)] (.inr (.inl rfl)))) (show ¬ (2 : Int) = 3 by decide) rfl
    show (n4 n rep d (S.set i true)).begin [(d, nr0 rep)] 2 (nm2 rep d) = (n2 n rep d (only rep), [(d, nr2 rep)])
    rw [hb, n_acc h [(d, nr0 rep)] (.inr (.inl rfl))]
    congr 1
    unfold n2
    congr 1
    exact nsel_only _
  · rw [if_neg hc, if_neg (by simpa using hc)]
def n3 (n rep : Int) (d : Dot) (S : P7 Bool) : LD := ⟨n, rep, nm3 rep d, 3, false, false, nsel (nr2 rep) S, nr2 rep⟩
theorem n2_got (h : NIn n rep d) {S : P7 Bool} {i : Nat} (hi : (i : Int) < n) (hr : (i : Int) ≠ rep) (hs : S.get i = false) :
    (n2 n rep d S).got [(d, nr2 rep)] i (na2 rep) = (if n.tdiv 2 + 1 ≤ cntB (S.set i true) then (n3 n rep d (S.set i true), (tdo [(d, nr2 rep)] (nm3 rep d)).1) else (n2 n rep d (S.set i true), [(d, nr2 rep)]), true) := by
  have h7 := h.n7
  have n1 : ¬ ((n2 n rep d S).phase = 3 ∨ (n2 n rep d S).phase = 5 ∨ (i : Int) < 0 ∨ (n2 n rep d S).n ≤ i ∨ (i : Int) = (n2 n rep d S).rep ∨ ((n2 n rep d S).recs.get (i : Int).toNat).isSome = true) := by
    rintro (h | h | h | h | h | h)
    · exact absurd (show (2 : Int) = 3 from h) (by decide)
    · exact absurd (show (2 : Int) = 5 from h) (by decide)
    · omega
    · have : n ≤ i := h; omega
    · exact hr h
    · rw [Int.toNat_natCast, show (n2 n rep d S).recs = nsel (nr2 rep) S from rfl, nsel_get, hs] at h
      cases h
  unfold LD.got
  rw [if_neg n1, if_neg (by rintro ⟨_, h | h⟩; exact h rfl; unfold LD.fits at h; simp [n2, na2, nr2, nm2] at h), if_neg (show ¬ (na2 rep).rc.st = 3 from (show ¬ (2 : Int) = 3 by decide)), if_neg (by simp [na2])]
  rw [if_neg (show ¬ (n2 n rep d S).phase = 1 from (show ¬ (2 : Int) = 1 by decide)), if_pos (show (n2 n rep d S).phase = 2 from rfl)]
  congr 1
  have hl : ({ n2 n rep d S with recs := (n2 n rep d S).recs.set (i : Int).toNat (some (na2 rep).rc) } : LD) = n2 n rep d (S.set i true) := by
    rw [Int.toNat_natCast]; exact congrArg (fun R => (⟨n, rep, nm2 rep d, 2, false, false, R, nr2 rep⟩ : LD)) (nsel_set (nr2 rep) S i)
  rw [hl]
  have hm : (n2 n rep d (S.set i true)).maj = decide (n.tdiv 2 + 1 ≤ cntB (S.set i true)) := by unfold LD.maj LD.count; rw [show (n2 n rep d (S.set i true)).recs = nsel (nr2 rep) (S.set i true) from rfl, nsel_cnt]; rfl
  rw [hm]
  by_cases hc : n.tdiv 2 + 1 ≤ cntB (S.set i true)
  · rw [if_pos hc, if_pos (by simpa using hc)]
    rfl
  · rw [if_neg hc, if_neg (by simpa using hc)]
theorem n_rec (h : NIn n rep d) : (trec (tdo [(d, nr2 rep)] (nm3 rep d)).1 d).st = 3 ∧ (trec (tdo [(d, nr2 rep)] (nm3 rep d)).1 d).cmd = [] := by
  unfold tdo
  rw [if_neg (by rw [show (nm3 rep d).may = true from n_may h 3 (by omega)]; simp)]
  rw [show (nm3 rep d).dot = d from rfl, trec1, old_c (show ¬ (2 : Int) = 3 by decide) rfl]
  simp only [mput, if_true, trec1]
  exact ⟨rfl, rfl⟩
/-- the course of it: the phase, and who has answered -/
def nstep (n : Int) (rep : Nat) (x : Int × P7 Bool) (i : Nat) : Int × P7 Bool :=
  if i = rep then x
  else if x.1 = 3 then x
  else if x.2.get i = true then x
  else if n.tdiv 2 + 1 ≤ cntB (x.2.set i true) then (if x.1 = 4 then (2, P7.of fun j => decide (j = rep)) else (3, x.2.set i true))
  else (x.1, x.2.set i true)
def nst0 (rep : Nat) : Int × P7 Bool := (4, P7.of fun j => decide (j = rep))
def nturn (n rep : Nat) : Nat → Int × P7 Bool
  | 0 => nst0 rep
  | t + 1 => (List.range n).foldl (nstep n rep) (nturn n rep t)
theorem nturn_all : ∀ n, n < 8 → 3 ≤ n → ∀ rep, rep < n → (nturn n rep 3).1 = 3 := by decide
def ncl (n rep : Int) (d : Dot) (x : Int × P7 Bool) : LD := if x.1 = 4 then n4 n rep d x.2 else if x.1 = 2 then n2 n rep d x.2 else n3 n rep d x.2
def nct (rep : Int) (d : Dot) (x : Int × P7 Bool) : Tbl := if x.1 = 4 then [(d, nr0 rep)] else if x.1 = 2 then [(d, nr2 rep)] else (tdo [(d, nr2 rep)] (nm3 rep d)).1
def nU (rep : Int) (d : Dot) (x : Int × P7 Bool) (U : Tbl) : Prop := (x.1 = 4 → U = [] ∨ U = [(d, nr0 rep)]) ∧ (x.1 = 2 → U = [] ∨ U = [(d, nr0 rep)] ∨ U = [(d, nr2 rep)])
structure NX (rep : Int) (x : Int × P7 Bool) : Prop where
  ph : x.1 = 4 ∨ x.1 = 2 ∨ x.1 = 3
  rp : x.2.get rep.toNat = true
theorem got_id {l : LD} {T : Tbl} {i : Int} {a : Ans Bs} (h : l.phase = 3 ∨ (l.recs.get i.toNat).isSome = true) : l.got T i a = ((l, T), false) := by
  unfold LD.got
  refine if_pos ?_
  rcases h with h | h
  · exact .inl h
  · exact .inr (.inr (.inr (.inr (.inr h))))
theorem nstep_rep {x : Int × P7 Bool} {i : Nat} (hrep : (i : Int) = rep) : nstep n rep.toNat x i = x := by
  unfold nstep; rw [if_pos (by omega)]
theorem n_step (h : NIn n rep d) {x : Int × P7 Bool} (hx : NX rep x) {i : Nat} (hi : (i : Int) < n) (hr : (i : Int) ≠ rep) {U : Tbl} (hU : nU rep d x U) :
    (∃ b, (ncl n rep d x).got (nct rep d x) i (tdo U (ncl n rep d x).msg).2.1 = ((ncl n rep d (nstep n rep.toNat x i), nct rep d (nstep n rep.toNat x i)), b)) ∧
    NX rep (nstep n rep.toNat x i) ∧ nU rep d (nstep n rep.toNat x i) (tdo U (ncl n rep d x).msg).1 ∧ ∀ V, nU rep d x V → nU rep d (nstep n rep.toNat x i) V := by
  have h7 := h.n7
  have hr0 := h.r0
  have hrn := h.rn
  have hir : ¬ i = rep.toNat := by omega
  obtain ⟨p, S⟩ := x
  obtain ⟨hph, hrp⟩ := hx
  simp only at hph hrp
  have hset : ∀ S : P7 Bool, S.get rep.toNat = true → (S.set i true).get rep.toNat = true := fun S hS => by
    rw [P7.get_set _ _ _ _ (by omega)]; split
    · rfl
    · exact hS
  have honly : (P7.of fun j => decide (j = rep.toNat)).get rep.toNat = true := by rw [P7.get_of _ (by omega)]; simp
  rcases hph with rfl | rfl | rfl
  · have hm : (ncl n rep d (4, S)).msg = nm rep d := rfl
    have hA := hU.1 rfl
    rw [hm, n_prep h U hA]
    cases hs : S.get i with
    | true =>
      have e : nstep n rep.toNat (4, S) i = (4, S) := by unfold nstep; rw [if_neg hir, if_neg (by simp), if_pos hs]
      rw [e]
      refine ⟨⟨false, got_id (.inr ?_)⟩, ⟨.inl rfl, hrp⟩, ⟨fun _ => .inr rfl, fun h => absurd h (by simp)⟩, fun V hV => hV⟩
      show ((nsel (nr0 rep) S).get _).isSome = true
      rw [Int.toNat_natCast, nsel_get, hs]
    | false =>
      have hg := n4_got h hi hr hs hrp
      by_cases hc : n.tdiv 2 + 1 ≤ cntB (S.set i true)
      · have e : nstep n rep.toNat (4, S) i = (2, P7.of fun j => decide (j = rep.toNat)) := by unfold nstep; rw [if_neg hir, if_neg (by simp), if_neg (by simp [hs]), if_pos hc, if_pos rfl]
        rw [e]
        rw [if_pos hc] at hg
        exact ⟨⟨true, hg⟩, ⟨.inr (.inl rfl), honly⟩, ⟨fun h => absurd h (by simp), fun _ => .inr (.inl rfl)⟩, fun V hV => ⟨fun h => absurd h (by simp), fun _ => (hV.1 rfl).imp id .inl⟩⟩
      · have e : nstep n rep.toNat (4, S) i = (4, S.set i true) := by unfold nstep; rw [if_neg hir, if_neg (by simp), if_neg (by simp [hs]), if_neg hc]
        rw [e]
        rw [if_neg hc] at hg
        exact ⟨⟨true, hg⟩, ⟨.inl rfl, hset S hrp⟩, ⟨fun _ => .inr rfl, fun h => absurd h (by simp)⟩, fun V hV => ⟨hV.1, hV.2⟩⟩
  · have hm : (ncl n rep d (2, S)).msg = nm2 rep d := rfl
    have hA := hU.2 rfl
    rw [hm, n_acc h U hA]
    cases hs : S.get i with
    | true =>
      have e : nstep n rep.toNat (2, S) i = (2, S) := by unfold nstep; rw [if_neg hir, if_neg (by simp), if_pos hs]
      rw [e]
      refine ⟨⟨false, got_id (.inr ?_)⟩, ⟨.inr (.inl rfl), hrp⟩, ⟨fun h => absurd h (by simp), fun _ => .inr (.inr rfl)⟩, fun V hV => hV⟩
      show ((nsel (nr2 rep) S).get _).isSome = true
      rw [Int.toNat_natCast, nsel_get, hs]
    | false =>
      have hg := n2_got h hi hr hs
      by_cases hc : n.tdiv 2 + 1 ≤ cntB (S.set i true)
      · have e : nstep n rep.toNat (2, S) i = (3, S.set i true) := by unfold nstep; rw [if_neg hir, if_neg (by simp), if_neg (by simp [hs]), if_pos hc, if_neg (by simp)]
        rw [e]
        rw [if_pos hc] at hg
        exact ⟨⟨true, hg⟩, ⟨.inr (.inr rfl), hset S hrp⟩, ⟨fun h => absurd h (by simp), fun h => absurd h (by simp)⟩, fun V hV => ⟨fun h => absurd h (by simp), fun h => absurd h (by simp)⟩⟩
      · have e : nstep n rep.toNat (2, S) i = (2, S.set i true) := by unfold nstep; rw [if_neg hir, if_neg (by simp), if_neg (by simp [hs]), if_neg hc]
        rw [e]
        rw [if_neg hc] at hg
        exact ⟨⟨true, hg⟩, ⟨.inr (.inl rfl), hset S hrp⟩, ⟨fun h => absurd h (by simp), fun _ => .inr (.inr rfl)⟩, fun V hV => ⟨hV.1, hV.2⟩⟩
  · have e : nstep n rep.toNat (3, S) i = (3, S) := by unfold nstep; rw [if_neg hir, if_pos rfl]
    rw [e]
    exact ⟨⟨false, got_id (.inl rfl)⟩, ⟨.inr (.inr rfl), hrp⟩, ⟨fun h => absurd h (by simp), fun h => absurd h (by simp)⟩, fun V hV => hV⟩
end
end Go.Proofs.Ytpihhlaiofkmdaa
