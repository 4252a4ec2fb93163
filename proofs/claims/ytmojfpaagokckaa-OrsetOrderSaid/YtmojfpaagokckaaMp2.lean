/- Own engine: many chunks of one kind; what the keys of a map own. -/
import Derived.Test.YtmojfpaagokckaaMp
namespace Go.Eng
set_option linter.unusedVariables false
set_option linter.unusedSimpArgs false
open Go Go.RowKit

def many {β : Type} (F : β → Asn) (l : List β) : Asn := sep (l.map F)
section
variable {κ β γ : Type} [DecidableEq κ] {F : β → Asn} {L : List Asn}
theorem mget_map (g : β → γ) (l : List (κ × β)) (a : κ) : mget (l.map fun p => (p.1, g p.2)) a = (mget l a).map g := by
  induction l with
  | nil => rfl
  | cons p l ih =>
    by_cases h : p.1 = a
    · simp [mget, h]
    · simp [mget, h, ih]
theorem mput_map (g : β → γ) (l : List (κ × β)) (a : κ) (b : β) : mput (l.map fun p => (p.1, g p.2)) a (g b) = (mput l a b).map fun p => (p.1, g p.2) := by
  induction l with
  | nil => rfl
  | cons p l ih =>
    by_cases h : p.1 = a
    · simp [mput, h]
    · simp [mput, h, ih]
theorem mdel_map (g : β → γ) (l : List (κ × β)) (a : κ) : mdel (l.map fun p => (p.1, g p.2)) a = (mdel l a).map fun p => (p.1, g p.2) := by
  induction l with
  | nil => rfl
  | cons p l ih =>
    by_cases h : p.1 = a
    · simp [mdel, h]
    · simp [mdel, h, ih]
theorem mget_mput (l : List (κ × β)) (a b : κ) (v : β) : mget (mput l a v) b = if a = b then some v else mget l b := by
  induction l with
  | nil => simp [mput, mget]
  | cons p l ih =>
    by_cases h : p.1 = a
    · subst h
      by_cases hb : p.1 = b
      · simp [mput, mget, hb]
      · simp [mput, mget, hb]
    · by_cases hb : p.1 = b
      · subst hb
        simp [mput, mget, h, Ne.symm h]
      · simp [mput, mget, h, hb, ih]
theorem mdel_perm {l : List (κ × β)} {a : κ} {b : β} (h : mget l a = some b) : l.Perm ((a, b) :: mdel l a) := by
  induction l with
  | nil => cases h
  | cons p l ih =>
    obtain ⟨x, y⟩ := p
    by_cases hx : x = a
    · subst hx
      simp only [mget, if_true, Option.some.injEq] at h
      subst h
      simp [mdel]
    · simp only [mget, if_neg hx] at h
      simp only [mdel, if_neg hx]
      exact ((ih h).cons _).trans (List.Perm.swap _ _ _)
theorem mdel_put_perm (l : List (κ × β)) (a : κ) (b : β) : ((a, b) :: mdel l a).Perm (mput l a b) := by
  induction l with
  | nil => exact .refl _
  | cons p l ih =>
    by_cases h : p.1 = a
    · simp [mdel, mput, h]
    · simp only [mdel, mput, if_neg h]
      exact (List.Perm.swap _ _ _).trans (ih.cons _)
theorem many_cons (b : β) (l : List β) : ent (many F (b :: l) :: L) (F b :: many F l :: L) := (ent.flat (F b :: l.map F) L).trans (ent.cons _ (ent.pack _ _))
theorem many_uncons (b : β) (l : List β) : ent (F b :: many F l :: L) (many F (b :: l) :: L) := (ent.cons _ (ent.flat (l.map F) L)).trans (ent.pack (F b :: l.map F) L)
theorem many_nil : ent L (many F ([] : List β) :: L) := ent.emp fun _ => rfl
theorem many_perm {l l' : List β} (h : l.Perm l') : ent (many F l :: L) (many F l' :: L) := ent.weak fun _ hp => sep_perm (h.map F) hp
/-- what stands at a key is taken out (nothing, if nothing stands there) -/
theorem many_take {l : List (κ × β)} (a : κ) (b0 : β) (h0 : ∀ L, ent L (F b0 :: L)) : ent (many F (l.map (·.2)) :: L) (F ((mget l a).getD b0) :: many F ((mdel l a).map (·.2)) :: L) := by
  cases h : mget l a with
  | none =>
    rw [mdel_none (mget_none.1 h)]
    exact h0 _
  | some b => exact (many_perm ((mdel_perm h).map (·.2))).trans (many_cons _ _)
theorem many_put {l : List (κ × β)} (a : κ) (b : β) : ent (F b :: many F ((mdel l a).map (·.2)) :: L) (many F ((mput l a b).map (·.2)) :: L) :=
  (many_uncons b _).trans (many_perm (List.Perm.map (fun x : κ × β => x.2) (mdel_put_perm l a b)))
end

/-- a slice of bytes, as it lies -/
structure BSl where
  a : Option Addr
  c : Nat
  bs : List UInt8
abbrev BSl.v (x : BSl) : Value := .slice x.a x.bs.length x.c
end Go.Eng
