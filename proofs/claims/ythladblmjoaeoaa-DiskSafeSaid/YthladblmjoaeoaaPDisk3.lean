/- A disk, plainly: what is there behind appends and a fall, over what was safe. -/
import Derived.Test.YthladblmjoaeoaaCDisk5
import Derived.Test.YthladblmjoaeoaaPDisk2
namespace Go.Proofs.Ythladblmjoaeoaa
set_option linter.unusedVariables false
set_option linter.unusedSimpArgs false
open Go Go.Eng

theorem pcs_pre {F : Nat → Int} {B : Nat → List UInt8} {keep torn : Int} {f : Int} : ∀ n, pcs F (cutB keep torn B) n f <+: pcs F B n f
  | 0 => List.prefix_refl _
  | n + 1 => by
    simp only [pcs]
    by_cases h1 : (n : Int) < keep
    · have e1 : pcs F (cutB keep torn B) n f = pcs F B n f := pcs_congr _ (fun j hj => by unfold cutB; rw [if_pos (by omega)]) f
      have e2 : cutB keep torn B n = B n := by unfold cutB; rw [if_pos h1]
      rw [e1, e2]
      exact List.prefix_refl _
    · by_cases h2 : (n : Int) = keep
      · have e1 : pcs F (cutB keep torn B) n f = pcs F B n f := pcs_congr _ (fun j hj => by unfold cutB; rw [if_pos (by omega)]) f
        have e2 : cutB keep torn B n = (B n).take (tornN torn (B n).length).toNat := by unfold cutB; rw [if_neg h1, if_pos h2]
        rw [e1, e2]
        split
        · exact (List.prefix_append_right_inj _).2 (List.take_prefix _ _)
        · exact List.prefix_refl _
      · have e2 : cutB keep torn B n = [] := by unfold cutB; rw [if_neg h1, if_neg h2]
        rw [e2]
        simp only [ite_self, List.append_nil]
        exact (pcs_pre n).trans (List.prefix_append _ _)
theorem crash_contb {F : Nat → Int} {B : Nat → List UInt8} {b0 : Int → List UInt8} {keep torn : Int} {ws : List Wr} : ∀ (n : Nat) (fs : List (Int × List UInt8)),
    (∀ j, j < n → ws[j]? = some (F j, ((b0 (F j) ++ pcs F B j (F j)).length : Int), ((b0 (F j) ++ pcs F B j (F j)).length : Int) + ((B j).length : Int))) → (∀ f, cont fs f = b0 f ++ pcs F B n f) →
    ∀ f, cont (crashGo keep torn ws n fs) f = b0 f ++ pcs F (cutB keep torn B) n f
  | 0, fs, _, hc, f => by simp only [crashGo, hc, pcs]
  | n + 1, fs, hw, hc, f => by
    rw [crashGo_succ (hw n (by omega))]
    by_cases h1 : (n : Int) < keep
    · rw [if_pos h1, hc]
      congr 1
      exact pcs_congr _ (fun j hj => by unfold cutB; rw [if_pos (by omega)]) f
    rw [if_neg h1]
    have hcn : cont fs (F n) = (b0 (F n) ++ pcs F B n (F n)) ++ B n := by rw [hc]; simp [pcs]
    simp only
    by_cases h2 : (n : Int) = keep
    · rw [crash_stop (by omega), cont_put, hcn]
      have hs : stayN keep torn n (F n, ((b0 (F n) ++ pcs F B n (F n)).length : Int), ((b0 (F n) ++ pcs F B n (F n)).length : Int) + ((B n).length : Int)) = ((b0 (F n) ++ pcs F B n (F n)).length : Int) + tornN torn (B n).length := by
        unfold stayN
        rw [if_pos h2]
        simp only
        rw [show ((b0 (F n) ++ pcs F B n (F n)).length : Int) + ((B n).length : Int) - ((b0 (F n) ++ pcs F B n (F n)).length : Int) = (B n).length by omega]
      have ht := tornN_range torn (x := ((B n).length : Int)) (by omega)
      have hcut : cutB keep torn B n = (B n).take (tornN torn (B n).length).toNat := by unfold cutB; rw [if_neg h1, if_pos h2]
      have hpre : pcs F (cutB keep torn B) n f = pcs F B n f := pcs_congr _ (fun j hj => by unfold cutB; rw [if_pos (by omega)]) f
      simp only [pcs, hpre, hcut]
      by_cases hf : F n = f
      · subst hf
        rw [if_pos rfl, if_pos rfl, hs, show (((b0 (F n) ++ pcs F B n (F n)).length : Int) + tornN torn (B n).length).toNat = (b0 (F n) ++ pcs F B n (F n)).length + (tornN torn (B n).length).toNat by omega, List.take_append, List.take_of_length_le (Nat.le_add_right _ _)]
        simp
      · rw [if_neg hf, if_neg hf, hc]
        simp [pcs, hf]
    · have hs : stayN keep torn n (F n, ((b0 (F n) ++ pcs F B n (F n)).length : Int), ((b0 (F n) ++ pcs F B n (F n)).length : Int) + ((B n).length : Int)) = (b0 (F n) ++ pcs F B n (F n)).length := by unfold stayN; rw [if_neg h2]
      have hcut : cutB keep torn B n = [] := by unfold cutB; rw [if_neg h1, if_neg h2]
      simp only [pcs, hcut, ite_self, List.append_nil]
      refine crash_contb n _ (fun j hj => hw j (by omega)) (fun g => ?_) f
      rw [cont_put, hcn, hs, Int.toNat_natCast, List.take_left' rfl]
      by_cases hg : F n = g
      · rw [if_pos hg, hg]
      · rw [if_neg hg, hc]
        simp [pcs, hg]
theorem crash_has {keep torn : Int} {ws : List Wr} {f : Int} : ∀ (n : Nat) (fs : List (Int × List UInt8)), (mget fs f).isSome = true → (mget (crashGo keep torn ws n fs) f).isSome = true
  | 0, fs, h => h
  | n + 1, fs, h => by
    unfold crashGo
    split
    · exact h
    · split
      · refine crash_has n _ ?_
        rw [mget_mput]
        split
        · rfl
        · exact h
      · exact h
/-- behind n appends over what was safe -/
structure Appb (b0 : Int → List UInt8) (F : Nat → Int) (B : Nat → List UInt8) (n : Nat) (d : DS) : Prop where
  ok : d.ok
  fit : d.fit
  on : d.on = true
  room : d.room = 65536
  len : d.ws.length = n
  ws : ∀ j, j < n → d.ws[j]? = some (F j, ((b0 (F j) ++ pcs F B j (F j)).length : Int), ((b0 (F j) ++ pcs F B j (F j)).length : Int) + ((B j).length : Int))
  fs : ∀ f, cont d.fs f = b0 f ++ pcs F B n f
  has : (mget d.fs 7).isSome = true
  tot : lens d.fs ≤ 200 + 200 * n
theorem Appb.next {b0 : Int → List UInt8} {F : Nat → Int} {B : Nat → List UInt8} {n : Nat} {d : DS} (h : Appb b0 F B n d) (hn : n < 100) (h0 : 0 ≤ F n) (h1 : F n < 1000) (hb : (B n).length ≤ 200) : Appb b0 F B (n + 1) (d.append (F n) (B n)).1 := by
  obtain ⟨ok, fit, on, room, len, ws, fs, has, tot⟩ := h
  have ha : d.ask (F n) = 0 := by unfold DS.ask; rw [on]; simp; omega
  have e : d.append (F n) (B n) = ({ d with fs := mput d.fs (F n) (cont d.fs (F n) ++ B n), ws := d.ws ++ [((F n, ((cont d.fs (F n)).length : Int), ((cont d.fs (F n)).length : Int) + ((B n).length : Int)) : Wr)] }, 0) := by
    unfold DS.append
    rw [ha, if_neg (by omega), if_neg (by omega)]
  have ok' := ok.append (F n) (B n)
  have fit' := fit.append (F n) (B n)
  rw [e] at ok' fit' ⊢
  refine ⟨ok', fit', on, room, by simp [len], fun j hj => ?_, fun f => ?_, ?_, ?_⟩
  · simp only
    by_cases hjn : j = n
    · subst hjn
      rw [List.getElem?_append_right (by omega), len, Nat.sub_self]
      simp [fs]
    · rw [List.getElem?_append_left (by omega)]
      exact ws j (by omega)
  · simp only [cont_put, pcs]
    by_cases hf : F n = f
    · subst hf; rw [if_pos rfl, if_pos rfl, fs, List.append_assoc]
    · rw [if_neg hf, if_neg hf, fs, List.append_nil]
  · simp only [mget_mput]
    split
    · rfl
    · exact has
  · simp only [lens_put, List.length_append]
    omega
end Go.Proofs.Ythladblmjoaeoaa
