/- A disk, plainly. -/
import Derived.Test.YthladblmjoaeoaaMp2
namespace Go.Proofs.Ythladblmjoaeoaa
set_option linter.unusedVariables false
set_option linter.unusedSimpArgs false
open Go Go.Eng

abbrev Wr := Int × Int × Int
structure DS where
  room : Int
  fs : List (Int × List UInt8)
  ws : List Wr
  on : Bool
  lives : Int
def lens (l : List (Int × List UInt8)) : Int := (l.map fun p => (p.2.length : Int)).sum
def cont (fs : List (Int × List UInt8)) (f : Int) : List UInt8 := (mget fs f).getD []
def DS.ask (d : DS) (f : Int) : Int := if !d.on then 7 else if f < 0 ∨ 1000 ≤ f then 1 else 0
def DS.find (d : DS) (f : Int) : Int := if d.ask f ≠ 0 then d.ask f else if (mget d.fs f).isSome then 0 else 4
def DS.append (d : DS) (f : Int) (b : List UInt8) : DS × Int :=
  if d.ask f ≠ 0 then (d, d.ask f)
  else if (b.length : Int) > d.room - lens d.fs then (d, 6)
  else ({ d with fs := mput d.fs f (cont d.fs f ++ b), ws := d.ws ++ [((f, ((cont d.fs f).length : Int), ((cont d.fs f).length : Int) + (b.length : Int)) : Wr)] }, 0)
def DS.read (d : DS) (f : Int) : List UInt8 × Int := if d.find f ≠ 0 then ([], d.find f) else (cont d.fs f, 0)
/-- how many bytes of a write stay -/
def tornN (torn x : Int) : Int := if (if x < torn then x else torn) < 0 then 0 else (if x < torn then x else torn)
def stayN (keep torn i : Int) (w : Wr) : Int := if i = keep then w.2.1 + tornN torn (w.2.2 - w.2.1) else w.2.1
def crashGo (keep torn : Int) : List Wr → Nat → List (Int × List UInt8) → List (Int × List UInt8)
  | _, 0, fs => fs
  | ws, i + 1, fs => if (i : Int) < keep then fs else
      match ws[i]? with
      | some w => crashGo keep torn ws i (mput fs w.1 ((cont fs w.1).take (stayN keep torn i w).toNat))
      | none => fs
def DS.crash (d : DS) (keep torn : Int) : DS := { d with fs := crashGo keep torn d.ws d.ws.length d.fs, ws := [], on := false }
def DS.power (d : DS) : DS := { d with on := true, lives := IntKind.i64.wrap (d.lives + 1) }
def DS.safe (d : DS) (f : Int) : DS := { d with ws := d.ws.filter fun w => !decide (w.1 = f) }
def DS.sync (d : DS) (f : Int) : DS × Int := if d.find f = 0 then (d.safe f, 0) else (d, d.find f)
def DS.drop (d : DS) (f : Int) : DS × Int := if d.find f = 0 then ({ d.safe f with fs := mdel d.fs f }, 0) else (d, d.find f)
def DS.ok (d : DS) : Prop := 64 ≤ d.room ∧ d.room ≤ 1048576 ∧ lens d.fs ≤ d.room
theorem lens_nonneg (l : List (Int × List UInt8)) : 0 ≤ lens l := by
  induction l with
  | nil => simp [lens]
  | cons p l ih => simp only [lens, List.map_cons, List.sum_cons] at *; omega
theorem lens_put (l : List (Int × List UInt8)) (f : Int) (b : List UInt8) : lens (mput l f b) = lens l - (cont l f).length + b.length := by
  induction l with
  | nil => simp [lens, mput, cont, mget]
  | cons p l ih =>
    obtain ⟨x, y⟩ := p
    by_cases h : x = f
    · subst h
      simp only [mput, if_true, lens, cont, mget, List.map_cons, List.sum_cons, Option.getD_some]
      omega
    · simp only [mput, if_neg h, lens, cont, mget, List.map_cons, List.sum_cons] at *
      omega
theorem lens_cont (l : List (Int × List UInt8)) (f : Int) : ((cont l f).length : Int) ≤ lens l := by
  induction l with
  | nil => simp [lens, cont, mget]
  | cons p l ih =>
    obtain ⟨x, y⟩ := p
    have := lens_nonneg l
    by_cases h : x = f
    · subst h
      simp only [lens, cont, mget, if_true, List.map_cons, List.sum_cons, Option.getD_some] at *
      omega
    · simp only [lens, cont, mget, if_neg h, List.map_cons, List.sum_cons] at *
      omega
theorem DS.ok.append {d : DS} (h : d.ok) (f : Int) (b : List UInt8) : (d.append f b).1.ok := by
  unfold DS.append
  split
  · exact h
  · split
    · exact h
    · obtain ⟨h1, h2, h3⟩ := h
      refine ⟨h1, h2, ?_⟩
      simp only [lens_put, List.length_append]
      omega
theorem lens_cut (l : List (Int × List UInt8)) (f : Int) (n : Nat) : lens (mput l f ((cont l f).take n)) ≤ lens l := by
  rw [lens_put, List.length_take]; omega
theorem lens_crash (keep torn : Int) (ws : List Wr) : ∀ (n : Nat) (fs : List (Int × List UInt8)), lens (crashGo keep torn ws n fs) ≤ lens fs
  | 0, fs => by simp [crashGo]
  | n + 1, fs => by
    unfold crashGo
    split
    · omega
    · split
      · exact Int.le_trans (lens_crash keep torn ws n _) (lens_cut _ _ _)
      · omega
theorem DS.ok.crash {d : DS} (h : d.ok) (keep torn : Int) : (d.crash keep torn).ok := ⟨h.1, h.2.1, Int.le_trans (lens_crash _ _ _ _ _) h.2.2⟩
theorem DS.ok.power {d : DS} (h : d.ok) : d.power.ok := h
/-- every write that is not safe is the end of its file, when those behind it are taken away -/
def fitGo (ws : List Wr) : Nat → List (Int × List UInt8) → Prop
  | 0, _ => True
  | i + 1, fs => ∀ w, ws[i]? = some w → 0 ≤ w.2.1 ∧ w.2.1 ≤ w.2.2 ∧ w.2.2 = (cont fs w.1).length ∧ fitGo ws i (mput fs w.1 ((cont fs w.1).take w.2.1.toNat))
def DS.fit (d : DS) : Prop := fitGo d.ws d.ws.length d.fs
theorem cont_put (fs : List (Int × List UInt8)) (f g : Int) (b : List UInt8) : cont (mput fs f b) g = if f = g then b else cont fs g := by
  simp only [cont, mget_mput]
  split <;> rfl
theorem fitGo_congr {ws ws' : List Wr} : ∀ (n : Nat) {fs fs' : List (Int × List UInt8)}, (∀ i, i < n → ws'[i]? = ws[i]?) → (∀ f, cont fs' f = cont fs f) → fitGo ws n fs → fitGo ws' n fs'
  | 0, _, _, _, _, _ => trivial
  | n + 1, fs, fs', hw, hc, h => by
    intro w hw'
    rw [hw n (by omega)] at hw'
    obtain ⟨h1, h2, h3, h4⟩ := h w hw'
    refine ⟨h1, h2, by rw [hc]; exact h3, fitGo_congr n (fun i hi => hw i (by omega)) (fun f => ?_) h4⟩
    rw [cont_put, cont_put, hc, hc]
theorem DS.fit.append {d : DS} (h : d.fit) (f : Int) (b : List UInt8) : (d.append f b).1.fit := by
  unfold DS.append
  split
  · exact h
  · split
    · exact h
    · unfold DS.fit
      simp only [List.length_append, List.length_singleton]
      intro w hw
      rw [List.getElem?_append_right (Nat.le_refl _), Nat.sub_self] at hw
      cases hw
      refine ⟨by simp only; omega, by simp only; omega, by simp only [cont_put, if_true, List.length_append]; omega, ?_⟩
      refine fitGo_congr _ (fun i hi => ?_) (fun g => ?_) h
      · rw [List.getElem?_append_left hi]
      · simp only [cont_put, if_true, Int.toNat_natCast, List.take_left']
        split
        · rename_i e; rw [e]; try simp
        · try rfl
theorem DS.fit.crash {d : DS} (keep torn : Int) : (d.crash keep torn).fit := trivial
theorem tornN_range (torn : Int) {x : Int} (h : 0 ≤ x) : 0 ≤ tornN torn x ∧ tornN torn x ≤ x := by
  unfold tornN
  split <;> split <;> omega
end Go.Proofs.Ythladblmjoaeoaa
