/- Sets, plainly. -/
import Derived.Test.YtmojfpaagokckaaV7
import Derived.Test.YtmojfpaagokckaaSrt
namespace Go.Proofs.Ytmojfpaagokckaa
set_option linter.unusedVariables false
set_option linter.unusedSimpArgs false
open Go Go.Eng

abbrev Bs := List UInt8
abbrev sv (x : Bs) : Value := .string ⟨x.toArray⟩

/-! ### sorted rows -/
theorem sort_perm {α : Type} {le : α → α → Bool} (ht : ∀ a b c, le a b = true → le b c = true → le a c = true) (hto : ∀ a b, (le a b || le b a) = true) (ha : ∀ a b, le a b = true → le b a = true → a = b)
    {l l' : List α} (h : l.Perm l') : l.mergeSort le = l'.mergeSort le :=
  List.Perm.eq_of_pairwise (le := fun a b => le a b = true) (fun a b _ _ h1 h2 => ha a b h1 h2) (List.pairwise_mergeSort ht hto l) (List.pairwise_mergeSort ht hto l') (((List.mergeSort_perm l le).trans h).trans (List.mergeSort_perm l' le).symm)
def leB (a b : Bs) : Bool := decide (a ≤ b)
theorem leB_trans (a b c : Bs) (h : leB a b = true) (h' : leB b c = true) : leB a c = true := by
  unfold leB at *; simp only [decide_eq_true_eq] at *; exact List.le_trans h h'
theorem leB_total (a b : Bs) : (leB a b || leB b a) = true := by
  unfold leB; simp only [Bool.or_eq_true, decide_eq_true_eq]; exact List.le_total a b
theorem leB_anti (a b : Bs) (h : leB a b = true) (h' : leB b a = true) : a = b := by
  unfold leB at *; simp only [decide_eq_true_eq] at *; exact List.le_antisymm h h'
def dlt (a b : Dot) : Bool := decide (a.rep < b.rep ∨ (a.rep = b.rep ∧ a.n < b.n))
def leD (a b : Dot) : Bool := !dlt b a
theorem leD_iff (a b : Dot) : leD a b = true ↔ (a.rep < b.rep ∨ (a.rep = b.rep ∧ a.n ≤ b.n)) := by
  unfold leD dlt
  rw [Bool.not_eq_true', decide_eq_false_iff_not]
  omega
theorem leD_trans (a b c : Dot) (h : leD a b = true) (h' : leD b c = true) : leD a c = true := by rw [leD_iff] at *; omega
theorem leD_total (a b : Dot) : (leD a b || leD b a) = true := by rw [Bool.or_eq_true, leD_iff, leD_iff]; omega
theorem leD_anti (a b : Dot) (h : leD a b = true) (h' : leD b a = true) : a = b := by
  rw [leD_iff] at *
  cases a; cases b
  simp only [Dot.mk.injEq] at *
  omega
theorem lt_cmp (a b : Dot) : Proofs.ltOf Dot.cmp a b = dlt a b := by
  unfold Proofs.ltOf Dot.cmp dlt cmpI
  rw [decide_eq_decide]
  split <;> split <;> (try split) <;> (try split) <;> omega
theorem swoD : Sort.SWO (Proofs.ltOf Dot.cmp) where
  irrefl x := by rw [lt_cmp, dlt, decide_eq_false_iff_not]; omega
  trans x y z h1 h2 := by rw [lt_cmp, dlt, decide_eq_true_eq] at *; omega
  ntrans x y z h1 h2 := by rw [lt_cmp, dlt, decide_eq_false_iff_not] at *; omega
theorem partD (x y : Dot) (h1 : Proofs.ltOf Dot.cmp x y = false) (h2 : Proofs.ltOf Dot.cmp y x = false) : x = y := by
  rw [lt_cmp] at h1 h2
  exact leD_anti x y (by rw [leD, h2]; rfl) (by rw [leD, h1]; rfl)
def sortD (l : List Dot) : List Dot := l.mergeSort leD
def sortB (l : List Bs) : List Bs := l.mergeSort leB
theorem sortD_cmp (l : List Dot) : (l.mergeSort fun x y => !(Proofs.ltOf Dot.cmp) y x) = sortD l := by
  unfold sortD; congr 1; funext x y; rw [lt_cmp, leD]
theorem sortD_perm {l l' : List Dot} (h : l.Perm l') : sortD l = sortD l' := sort_perm leD_trans leD_total leD_anti h
theorem sortB_perm {l l' : List Bs} (h : l.Perm l') : sortB l = sortB l' := sort_perm leB_trans leB_total leB_anti h
/-- of neighbours that are alike the first -/
def cpt {α : Type} [DecidableEq α] : List α → List α
  | [] => []
  | [a] => [a]
  | a :: b :: l => if a = b then cpt (b :: l) else a :: cpt (b :: l)

/-! ### a set -/
structure OS where
  added : List (Dot × Bs)
  gone : List (Bs × P7 Int)
def OS.gv (s : OS) (x : Bs) : P7 Int := (mget s.gone x).getD (P7.all 0)
def OS.live (s : OS) (d : Dot) (x : Bs) : Bool := !hasV (s.gv x) d
def OS.new : OS := ⟨[], []⟩
def OS.add (s : OS) (d : Dot) (x : Bs) : OS × Int :=
  if d.ok = false ∨ 100 < x.length then (s, 1)
  else if (mget s.added d).isSome = true ∧ mget s.added d ≠ some x then (s, 5)
  else ({ s with added := mput s.added d x }, 0)
def OS.remove (s : OS) (x : Bs) (v : P7 Int) : OS × Int :=
  if 100 < x.length ∨ goodV v = false then (s, 1) else ({ s with gone := mput s.gone x (vmerge (s.gv x) v) }, 0)
def OS.lives (s : OS) : List (Dot × Bs) := s.added.filter fun p => s.live p.1 p.2
def OS.all (s : OS) : List Bs := cpt (sortB (s.lives.map (·.2)))
def OS.dots (s : OS) (x : Bs) : List Dot := sortD ((s.added.filter fun p => decide (x = p.2) && s.live p.1 x).map (·.1))
def OS.has (s : OS) (x : Bs) : Bool := decide (0 < (s.dots x).length)
def putD (b : Bs) (d : Dot) : Bs := b ++ encN d.rep ++ encN d.n
def OS.putX (s : OS) (b : Bs) (x : Bs) : Bs := (s.dots x).foldl putD (b ++ encN x.length ++ x ++ encN (s.dots x).length)
def OS.put (s : OS) : Bs := s.all.foldl s.putX (encN s.all.length)
def OS.drop (s : OS) (st : P7 Int) : OS :=
  ⟨s.added.filter fun p => !(!s.live p.1 p.2 && hasV st p.1), s.gone.filter fun p => !leV p.2 st⟩
def sameO (a b : OS) : Bool := decide (a.all = b.all) && a.all.all fun x => decide (a.dots x = b.dots x)
/-- what a set holds at all -/
structure OS.ok (s : OS) : Prop where
  add : ∀ p ∈ s.added, p.1.ok = true ∧ p.2.length ≤ 100
theorem mem_mput {κ β : Type} [DecidableEq κ] {l : List (κ × β)} {k : κ} {v : β} {p : κ × β} (h : p ∈ mput l k v) : p = (k, v) ∨ p ∈ l := by
  induction l with
  | nil => simp [mput] at h; exact .inl h
  | cons q l ih =>
    obtain ⟨a, b⟩ := q
    by_cases hk : a = k
    · simp only [mput, if_pos hk] at h
      rcases List.mem_cons.1 h with h | h
      · exact .inl h
      · exact .inr (List.mem_cons_of_mem _ h)
    · simp only [mput, if_neg hk] at h
      rcases List.mem_cons.1 h with h | h
      · exact .inr (h ▸ List.mem_cons_self)
      · exact (ih h).imp id (List.mem_cons_of_mem _)
theorem OS.ok.new : OS.new.ok := ⟨fun p h => by cases h⟩
theorem OS.ok.addS {s : OS} (h : s.ok) (d : Dot) (x : Bs) : (s.add d x).1.ok := by
  unfold OS.add
  split
  · exact h
  · split
    · exact h
    · rename_i h1 _
      refine ⟨fun p hp => ?_⟩
      rcases mem_mput hp with rfl | hp
      · refine ⟨?_, by simp only; omega⟩
        cases hd : d.ok with
        | true => rfl
        | false => exact absurd (.inl hd) h1
      · exact h.add p hp
theorem OS.ok.removeS {s : OS} (h : s.ok) (x : Bs) (v : P7 Int) : (s.remove x v).1.ok := by
  unfold OS.remove
  split
  · exact h
  · exact ⟨h.add⟩
theorem OS.ok.dropS {s : OS} (h : s.ok) (st : P7 Int) : (s.drop st).ok := ⟨fun p hp => h.add p (List.mem_filter.1 hp).1⟩
theorem mput_len {κ β : Type} [DecidableEq κ] (l : List (κ × β)) (k : κ) (v : β) : (mput l k v).length ≤ l.length + 1 := by
  induction l with
  | nil => simp [mput]
  | cons q l ih =>
    obtain ⟨a, b⟩ := q
    by_cases hk : a = k
    · simp [mput, if_pos hk]
    · simp [mput, if_neg hk]; omega
theorem OS.add_len (s : OS) (d : Dot) (x : Bs) : (s.add d x).1.added.length ≤ s.added.length + 1 := by
  unfold OS.add
  split
  · simp
  · split
    · simp
    · exact mput_len _ _ _
theorem cpt_mem {α : Type} [DecidableEq α] : ∀ {l : List α} {x : α}, x ∈ cpt l ↔ x ∈ l
  | [], x => Iff.rfl
  | [a], x => Iff.rfl
  | a :: b :: l, x => by
    simp only [cpt]
    split
    · rename_i h
      subst h
      rw [cpt_mem]; simp
    · rw [List.mem_cons, cpt_mem]; simp
theorem cpt_len {α : Type} [DecidableEq α] : ∀ (l : List α), (cpt l).length ≤ l.length
  | [] => Nat.le_refl _
  | [a] => Nat.le_refl _
  | a :: b :: l => by
    have := cpt_len (b :: l)
    simp only [cpt]
    split
    · simp only [List.length_cons] at *; omega
    · simp only [List.length_cons] at *; omega
theorem OS.all_mem {s : OS} {x : Bs} : x ∈ s.all ↔ ∃ d, (d, x) ∈ s.added ∧ s.live d x = true := by
  unfold OS.all sortB OS.lives
  rw [cpt_mem, List.mem_mergeSort]
  constructor
  · intro h
    obtain ⟨p, hp, rfl⟩ := List.mem_map.1 h
    obtain ⟨h1, h2⟩ := List.mem_filter.1 hp
    exact ⟨p.1, h1, h2⟩
  · rintro ⟨d, h1, h2⟩
    exact List.mem_map.2 ⟨(d, x), List.mem_filter.2 ⟨h1, h2⟩, rfl⟩
theorem OS.dots_mem {s : OS} {x : Bs} {d : Dot} : d ∈ s.dots x ↔ (d, x) ∈ s.added ∧ s.live d x = true := by
  unfold OS.dots sortD
  rw [List.mem_mergeSort]
  constructor
  · intro h
    obtain ⟨p, hp, rfl⟩ := List.mem_map.1 h
    obtain ⟨h1, h2⟩ := List.mem_filter.1 hp
    simp only [Bool.and_eq_true, decide_eq_true_eq] at h2
    obtain ⟨rfl, h2⟩ := h2
    exact ⟨h1, h2⟩
  · rintro ⟨h1, h2⟩
    exact List.mem_map.2 ⟨(d, x), List.mem_filter.2 ⟨h1, by simp [h2]⟩, rfl⟩
theorem OS.all_len (s : OS) : s.all.length ≤ s.added.length := by
  unfold OS.all
  refine Nat.le_trans (cpt_len _) ?_
  unfold sortB OS.lives
  rw [List.length_mergeSort, List.length_map]
  exact List.length_filter_le _ _
theorem OS.dots_len (s : OS) (x : Bs) : (s.dots x).length ≤ s.added.length := by
  unfold OS.dots sortD
  rw [List.length_mergeSort, List.length_map]
  exact List.length_filter_le _ _
end Go.Proofs.Ytmojfpaagokckaa
