/- Texts of the claim PaxStays, joined: PTar, PTar2, COrd8, COrd9, COrd10, PLine, COrd11, PTie, PLine2, COrd12. -/
import Derived.Test.YtfhacbhgmnhmlaaGreatBPaxStays4
namespace Go.Tar
set_option linter.unusedVariables false
set_option linter.unusedSimpArgs false
inductive Rch (on : List (List Int)) : Int → Int → Prop
 | refl (x : Int) : Rch on x x
 | step {x y z : Int} : Rch on x y → z ∈ on.getD y.toNat [] → Rch on x z
structure Fs where
 num : List Int
 low : List Int
 stack : List Int
 opn : List Bool
 next : Int
 groups : List (List Int)
def rowOf (on : List (List Int)) (v : Int) : List Int := on.getD v.toNat []
def Fs.nm (s : Fs) (v : Int) : Int := s.num.getD v.toNat 0
def Fs.lw (s : Fs) (v : Int) : Int := s.low.getD v.toNat 0
def Fs.op (s : Fs) (v : Int) : Bool := s.opn.getD v.toNat false
def sortZ (l : List Int) : List Int := isort (fun x y => decide (x ≤ y)) l
theorem sortZ_perm (l : List Int) : (sortZ l).Perm l := isort_perm l
theorem sortZ_sorted (l : List Int) : (sortZ l).Pairwise (· ≤ ·) :=
 (isort_sorted (fun a b c h1 h2 => by simp only [decide_eq_true_eq] at *; omega) (fun a b => by simp only [Bool.or_eq_true, decide_eq_true_eq]; omega) l).imp fun {a b} h => by simpa using h
theorem sortZ_merge (l : List Int) : l.mergeSort (fun x y => decide (x ≤ y)) = sortZ l :=
 List.Perm.eq_of_pairwise (le := fun (x y : Int) => x ≤ y) (fun a b _ _ g1 g2 => by omega) ((List.pairwise_mergeSort (fun a b c h1 h2 => by simp only [decide_eq_true_eq] at *; omega) (fun a b => by simp only [Bool.or_eq_true, decide_eq_true_eq]; omega) l).imp fun {a b} h => by simpa using h) (sortZ_sorted l) ((List.mergeSort_perm _ _).trans (sortZ_perm l).symm)
def enterF (v : Int) (s : Fs) : Fs := { s with next := s.next + 1, num := s.num.set v.toNat (s.next + 1), low := s.low.set v.toNat (s.next + 1), stack := s.stack ++ [v], opn := s.opn.set v.toNat true }
def lowF (v x : Int) (s : Fs) : Fs := { s with low := s.low.set v.toNat (min (s.lw v) x) }
def shutF (o : List Bool) (g : List Int) : List Bool := g.foldl (fun o u => o.set u.toNat false) o
def closeF (v : Int) (s : Fs) : Fs :=
 if s.lw v ≠ s.nm v then s
 else { s with stack := s.stack.take (s.stack.idxOf v), opn := shutF s.opn (sortZ (s.stack.drop (s.stack.idxOf v))), groups := s.groups ++ [sortZ (s.stack.drop (s.stack.idxOf v))] }
def stepF (rec : Int → Fs → Fs) (v : Int) (s : Fs) (u : Int) : Fs :=
 if s.nm u = 0 then lowF v ((rec u s).lw u) (rec u s) else if s.op u then lowF v (s.nm u) s else s
def visitF (on : List (List Int)) : Nat → Int → Fs → Fs
 | 0, _, s => s
 | f + 1, v, s => closeF v ((rowOf on v).foldl (stepF (visitF on f) v) (enterF v s))
def Vx (n : Nat) (v : Int) : Prop := 0 ≤ v ∧ v < n
structure OnOk (on : List (List Int)) (n : Nat) : Prop where
 len : on.length = n
 rng : ∀ v, ∀ u ∈ rowOf on v, Vx n u
structure Tj (on : List (List Int)) (n : Nat) (G : List Int) (s : Fs) : Prop where
 ln : s.num.length = n
 ll : s.low.length = n
 lo : s.opn.length = n
 cnt : (s.num.count 0 : Int) + s.next = n
 nn : ∀ v, 0 ≤ s.nm v ∧ s.nm v ≤ s.next
 vis : ∀ v, Vx n v → (s.nm v ≠ 0 ↔ v ∈ s.groups.flatten ∨ v ∈ s.stack)
 rng : ∀ v, v ∈ s.groups.flatten ∨ v ∈ s.stack → Vx n v
 nd : (s.groups.flatten ++ s.stack).Nodup
 opn : ∀ v, Vx n v → (s.op v = true ↔ v ∈ s.stack)
 srt : s.stack.Pairwise fun a b => s.nm a < s.nm b
 gs : ∀ v ∈ G, v ∈ s.stack
 blk : ∀ v, v ∈ s.groups.flatten ∨ v ∈ s.stack → v ∉ G → ∀ u ∈ rowOf on v, s.nm u ≠ 0
 cls : ∀ i, ∀ v ∈ s.groups.getD i [], ∀ u ∈ rowOf on v, u ∈ (s.groups.take (i + 1)).flatten
 fwd : ∀ x ∈ G, ∀ y ∈ s.stack, s.nm x ≤ s.nm y → Rch on x y
 bwd : ∀ y ∈ s.stack, ∃ x ∈ G, s.nm x ≤ s.nm y ∧ Rch on y x
 scc : ∀ g ∈ s.groups, ∀ x ∈ g, ∀ y ∈ g, Rch on x y
 gok : ∀ g ∈ s.groups, g ≠ [] ∧ g.Pairwise (· ≤ ·)
section
variable {on : List (List Int)} {n : Nat} {G : List Int} {s t : Fs} {v u x y z : Int}
theorem Rch.one (h : z ∈ rowOf on y) : Rch on y z := .step (.refl y) h
theorem Rch.trans (h1 : Rch on x y) (h2 : Rch on y z) : Rch on x z := by
 induction h2 with
 | refl => exact h1
 | step _ h ih => exact .step ih h
theorem Rch.stay {C : Int → Prop} (hC : ∀ a, C a → ∀ b ∈ rowOf on a, C b) (h : Rch on x y) (hx : C x) : C y := by
 induction h with
 | refl => exact hx
 | step _ h ih => exact hC _ ih _ h
theorem setAt {α : Type} {l : List α} {d a : α} (hl : l.length = n) (hv : Vx n v) (hu : Vx n u) : (l.set v.toNat a).getD u.toNat d = if u = v then a else l.getD u.toNat d := by
 unfold Vx at *
 simp only [List.getD_eq_getElem?_getD]
 by_cases h : u = v
 ·subst h
  rw [if_pos rfl, List.getElem?_set_self (by omega)]; rfl
 ·rw [if_neg h, List.getElem?_set_ne (by omega)]
theorem setAt2 {α : Type} {l : List α} {d a : α} {i : Nat} : (l.set v.toNat a).getD i d = a ∨ (l.set v.toNat a).getD i d = l.getD i d := by
 simp only [List.getD_eq_getElem?_getD]
 by_cases h : v.toNat = i
 ·subst h
  by_cases h2 : v.toNat < l.length
  ·left; rw [List.getElem?_set_self h2]; rfl
  ·right; rw [List.set_eq_of_length_le (by omega)]
 ·right; rw [List.getElem?_set_ne h]
theorem count_set : ∀ (l : List Int) (i : Nat) (a : Int), i < l.length → l.getD i 0 = 0 → a ≠ 0 → (l.set i a).count 0 + 1 = l.count 0
 | [], _, _, h, _, _ => by simp at h
 | b :: l, 0, a, _, h0, ha => by
  have hb : b = 0 := by simpa using h0
  subst hb
  rw [List.set_cons_zero, List.count_cons_self, List.count_cons_of_ne ha]
 | b :: l, i + 1, a, h, h0, ha => by
  have ih := count_set l i a (by simpa using h) (by simpa using h0) ha
  rw [List.set_cons_succ, List.count_cons, List.count_cons]
  omega
theorem shut_len : ∀ (g : List Int) (o : List Bool), (shutF o g).length = o.length
 | [], o => rfl
 | u :: g, o => by unfold shutF; rw [List.foldl_cons]; exact (shut_len g _).trans (by simp)
theorem shut_at (hu : Vx n u) : ∀ (g : List Int) (o : List Bool), o.length = n → (∀ x ∈ g, Vx n x) → ((shutF o g).getD u.toNat false = true ↔ o.getD u.toNat false = true ∧ u ∉ g)
 | [], o, _, _ => by simp [shutF]
 | a :: g, o, ho, hg => by
  have h1 : shutF o (a :: g) = shutF (o.set a.toNat false) g := rfl
  rw [h1, shut_at hu g _ (by simpa using ho) (fun x hx => hg x (by simp [hx])), setAt ho (hg a (by simp)) hu]
  by_cases h : u = a <;> simp [h]
structure Vd (on : List (List Int)) (n : Nat) (G : List Int) (s : Fs) (v : Int) (t : Fs) : Prop where
 tj : Tj on n G t
 ext : ∃ e, t.stack = s.stack ++ e ∧ (∀ y ∈ e, ∀ z ∈ rowOf on y, z ∈ s.stack → t.lw v ≤ s.nm z) ∧ (e ≠ [] → ∃ z ∈ s.stack, s.nm z = t.lw v ∧ Rch on v z) ∧ (e = [] → s.next < t.lw v)
 old : ∀ x, Vx n x → s.nm x ≠ 0 → t.nm x = s.nm x ∧ t.lw x = s.lw x
 now : t.nm v ≠ 0
 nxt : s.next + 1 ≤ t.next
 more : ∃ m, t.groups = s.groups ++ m
structure LpB (on : List (List Int)) (n : Nat) (G : List Int) (s : Fs) (v : Int) (t : Fs) (done : List Int) (b : Int) : Prop where
 tj : Tj on n (G ++ [v]) t
 ext : ∃ e, t.stack = s.stack ++ v :: e ∧ ∀ y ∈ e, ∀ z ∈ rowOf on y, z ∈ s.stack → b ≤ s.nm z
 wit : ∃ z ∈ t.stack, t.nm z = t.lw v ∧ Rch on v z
 old : ∀ x, Vx n x → s.nm x ≠ 0 → t.nm x = s.nm x ∧ t.lw x = s.lw x
 now : t.nm v = s.next + 1
 low : t.lw v ≤ t.nm v
 did : ∀ u ∈ done, Vx n u ∧ t.nm u ≠ 0 ∧ (u ∈ s.stack → b ≤ s.nm u)
 nxt : s.next + 1 ≤ t.next
 more : ∃ m, t.groups = s.groups ++ m
abbrev Lp (on : List (List Int)) (n : Nat) (G : List Int) (s : Fs) (v : Int) (t : Fs) (done : List Int) : Prop := LpB on n G s v t done (t.lw v)
theorem Tj.white (h : Tj on n G s) (hv : Vx n v) (h0 : s.nm v = 0) : v ∉ s.groups.flatten ∧ v ∉ s.stack := by
 have := h.vis v hv
 constructor <;> intro h2 <;> exact absurd h0 (this.2 (by simp [h2]))
theorem enter_lp (h : Tj on n G s) (hv : Vx n v) (h0 : s.nm v = 0) (hr : ∀ x ∈ G, Rch on x v) : Lp on n G s v (enterF v s) [] := by
 obtain ⟨w1, w2⟩ := h.white hv h0
 have hnm : ∀ u, Vx n u → (enterF v s).nm u = if u = v then s.next + 1 else s.nm u := fun u hu => setAt h.ln hv hu
 have hlw : ∀ u, Vx n u → (enterF v s).lw u = if u = v then s.next + 1 else s.lw u := fun u hu => setAt h.ll hv hu
 have hop : ∀ u, Vx n u → (enterF v s).op u = if u = v then true else s.op u := fun u hu => setAt h.lo hv hu
 have nx := (h.nn v).1
 have nx0 : 0 ≤ s.next := by have := h.nn v; omega
 have stkV : ∀ y ∈ s.stack, Vx n y ∧ y ≠ v := fun y hy => ⟨h.rng y (.inr hy), fun e => w2 (e ▸ hy)⟩
 have nv : (enterF v s).nm v = s.next + 1 := by rw [hnm v hv, if_pos rfl]
 have no : ∀ y, Vx n y → y ≠ v → (enterF v s).nm y = s.nm y := fun y hy hne => by rw [hnm y hy, if_neg hne]
 have hgv : ∀ x ∈ G, x ≠ v := fun x hx => (stkV x (h.gs x hx)).2
 refine ⟨⟨?_, ?_, ?_, ?_, ?_, ?_, ?_, ?_, ?_, ?_, ?_, ?_, h.cls, ?_, ?_, h.scc, h.gok⟩, ⟨[], rfl, by simp⟩, ⟨v, by simp [enterF], by rw [nv, hlw v hv, if_pos rfl], .refl v⟩, ?_, nv, by rw [nv, hlw v hv, if_pos rfl]; omega, by simp, by show s.next + 1 ≤ s.next + 1; omega, ⟨[], by simp [enterF]⟩⟩
 ·simp [enterF, h.ln]
 ·simp [enterF, h.ll]
 ·simp [enterF, h.lo]
 ·have hvl : v.toNat < s.num.length := by rw [h.ln]; unfold Vx at hv; omega
  have := count_set s.num v.toNat (s.next + 1) hvl h0 (by omega)
  have h2 := h.cnt
  show ((s.num.set v.toNat (s.next + 1)).count 0 : Int) + (s.next + 1) = n
  omega
 ·intro u
  have h2 := h.nn u
  show 0 ≤ (s.num.set v.toNat (s.next + 1)).getD u.toNat 0 ∧ (s.num.set v.toNat (s.next + 1)).getD u.toNat 0 ≤ s.next + 1
  rcases setAt2 (l := s.num) (v := v) (d := 0) (a := s.next + 1) (i := u.toNat) with e | e <;> rw [e]
  ·omega
  ·unfold Fs.nm at h2; omega
 ·intro u hu
  rw [hnm u hu]
  show _ ↔ u ∈ s.groups.flatten ∨ u ∈ s.stack ++ [v]
  by_cases e : u = v
  ·rw [if_pos e]; simp [e]; omega
  ·rw [if_neg e, h.vis u hu]; simp [e]
 ·intro u hu
  rcases hu with hu | hu
  ·exact h.rng u (.inl hu)
  ·rcases List.mem_append.1 hu with hu | hu
   ·exact h.rng u (.inr hu)
   ·rw [List.mem_singleton.1 hu]; exact hv
 ·show (s.groups.flatten ++ (s.stack ++ [v])).Nodup
  rw [← List.append_assoc, List.nodup_append]
  refine ⟨h.nd, by simp, fun a ha b hb e => ?_⟩
  rw [List.mem_singleton] at hb
  subst hb; subst e
  rcases List.mem_append.1 ha with h3 | h3
  ·exact w1 h3
  ·exact w2 h3
 ·intro u hu
  rw [hop u hu]
  show _ ↔ u ∈ s.stack ++ [v]
  by_cases e : u = v
  ·simp [e]
  ·rw [if_neg e, h.opn u hu]; simp [e]
 ·show (s.stack ++ [v]).Pairwise _
  rw [List.pairwise_append]
  refine ⟨?_, by simp, fun a ha b hb => ?_⟩
  ·refine List.Pairwise.imp_of_mem (fun {a b} ha hb hab => ?_) h.srt
   rw [no a (stkV a ha).1 (stkV a ha).2, no b (stkV b hb).1 (stkV b hb).2]; exact hab
  ·rw [List.mem_singleton] at hb
   subst hb
   rw [nv, no a (stkV a ha).1 (stkV a ha).2]
   have := h.nn a; omega
 ·intro u hu
  show u ∈ s.stack ++ [v]
  rcases List.mem_append.1 hu with hu | hu
  ·exact List.mem_append.2 (.inl (h.gs u hu))
  ·exact List.mem_append.2 (.inr hu)
 ·intro u hu hg w hw
  have hne : u ≠ v := fun e => hg (by simp [e])
  have hug : u ∉ G := fun e => hg (by simp [e])
  have hu' : u ∈ s.groups.flatten ∨ u ∈ s.stack := by
   rcases hu with hu | hu
   ·exact .inl hu
   ·rcases List.mem_append.1 hu with hu | hu
    ·exact .inr hu
    ·exact absurd (List.mem_singleton.1 hu) hne
  have h3 := h.blk u hu' hug w hw
  show (s.num.set v.toNat (s.next + 1)).getD w.toNat 0 ≠ 0
  rcases setAt2 (l := s.num) (v := v) (d := 0) (a := s.next + 1) (i := w.toNat) with e | e <;> rw [e]
  ·omega
  ·exact h3
 ·intro a ha b hb hab
  rcases List.mem_append.1 ha with ha | ha
  ·have hav := stkV a (h.gs a ha)
   rcases List.mem_append.1 hb with hb | hb
   ·have hbv := stkV b hb
    rw [no a hav.1 hav.2, no b hbv.1 hbv.2] at hab
    exact h.fwd a ha b hb hab
   ·rw [List.mem_singleton.1 hb]; exact hr a ha
  ·rw [List.mem_singleton] at ha
   subst ha
   rcases List.mem_append.1 hb with hb | hb
   ·have hbv := stkV b hb
    rw [nv, no b hbv.1 hbv.2] at hab
    have := h.nn b; omega
   ·rw [List.mem_singleton.1 hb]; exact .refl _
 ·intro b hb
  rcases List.mem_append.1 hb with hb | hb
  ·obtain ⟨a, ha, h1, h2⟩ := h.bwd b hb
   have hbv := stkV b hb
   have hav := stkV a (h.gs a ha)
   exact ⟨a, by simp [ha], by rw [no a hav.1 hav.2, no b hbv.1 hbv.2]; exact h1, h2⟩
  ·rw [List.mem_singleton.1 hb]; exact ⟨v, by simp, by omega, .refl v⟩
 ·intro a ha hna
  have hne : a ≠ v := fun e => hna (e ▸ h0)
  exact ⟨no a ha hne, by rw [hlw a ha, if_neg hne]⟩
end
end Go.Tar
namespace Go.Tar
set_option linter.unusedVariables false
set_option linter.unusedSimpArgs false
section
variable {on : List (List Int)} {n : Nat} {G : List Int} {s t : Fs} {v u x y z : Int}
theorem Tj.low (h : Tj on n G s) {l : List Int} (hl : l.length = n) : Tj on n G { s with low := l } :=
 ⟨h.ln, hl, h.lo, h.cnt, h.nn, h.vis, h.rng, h.nd, h.opn, h.srt, h.gs, h.blk, h.cls, h.fwd, h.bwd, h.scc, h.gok⟩
theorem strict_len : ∀ (l : List Int) (a b : Int), l.Pairwise (· < ·) → (∀ x ∈ l, a ≤ x ∧ x < b) → a ≤ b → (l.length : Int) ≤ b - a
 | [], a, b, _, _, h => by simp; omega
 | x :: l, a, b, hp, hm, h => by
  rw [List.pairwise_cons] at hp
  have h1 := hm x (by simp)
  have := strict_len l (x + 1) b hp.2 (fun y hy => ⟨by have := hp.1 y hy; omega, (hm y (by simp [hy])).2⟩) (by omega)
  rw [List.length_cons]; omega
theorem nodup_len {l : List Int} (hn : l.Nodup) (h : ∀ x ∈ l, Vx n x) : l.length ≤ n := by
 have hp := sortZ_perm l
 have h1 : (sortZ l).Pairwise (· < ·) := by
  have h2 := sortZ_sorted l
  have h3 := hp.nodup_iff.2 hn
  exact (List.pairwise_and_iff.2 ⟨h2, h3⟩).imp fun {a b} hab => by have := hab.1; have := hab.2; omega
 have := strict_len _ 0 n h1 (fun x hx => h x (hp.mem_iff.1 hx)) (by omega)
 rw [hp.length_eq] at this; omega
theorem flat_len : ∀ gs : List (List Int), (∀ g ∈ gs, g ≠ []) → gs.length ≤ gs.flatten.length
 | [], _ => by simp
 | g :: gs, h => by
  have := flat_len gs fun x hx => h x (by simp [hx])
  have h1 : 0 < g.length := List.length_pos_iff.2 (h g (by simp))
  rw [List.flatten_cons, List.length_append, List.length_cons]; omega
theorem Tj.slen (h : Tj on n G s) : s.stack.length ≤ n := nodup_len (List.nodup_append.1 h.nd).2.1 fun x hx => h.rng x (.inr hx)
theorem Tj.glen (h : Tj on n G s) : s.groups.length ≤ n :=
 Nat.le_trans (flat_len _ fun g hg => (h.gok g hg).1) (nodup_len (List.nodup_append.1 h.nd).1 fun x hx => h.rng x (.inl hx))
theorem Tj.inj (h : Tj on n G s) {a b : Int} (ha : a ∈ s.stack) (hb : b ∈ s.stack) (e : s.nm a = s.nm b) : a = b := by
 have key : ∀ l : List Int, l.Pairwise (fun a b => s.nm a < s.nm b) → a ∈ l → b ∈ l → a = b := by
  intro l
  induction l with
  | nil => intro _ h; cases h
  | cons c l ih =>
   intro hp h1 h2
   rw [List.pairwise_cons] at hp
   rcases List.mem_cons.1 h1 with e1 | h1 <;> rcases List.mem_cons.1 h2 with e2 | h2
   ·rw [e1, e2]
   ·have := hp.1 b h2; rw [← e1] at this; omega
   ·have := hp.1 a h1; rw [← e2] at this; omega
   ·exact ih hp.2 h1 h2
 exact key _ h.srt ha hb
theorem Lp.below {done : List Int} (h : Lp on n G s v t done) (hT : Tj on n G s) (hv : Vx n v) (h0 : s.nm v = 0) (hz : z ∈ t.stack) (hlt : t.nm z < t.nm v) : z ∈ s.stack := by
 obtain ⟨e, he, _⟩ := h.ext
 have hs := h.tj.srt
 rw [he] at hz hs
 rcases List.mem_append.1 hz with hz | hz
 ·exact hz
 ·rw [List.pairwise_append, List.pairwise_cons] at hs
  rcases List.mem_cons.1 hz with e | hz
  ·subst e; omega
  ·have := hs.2.1.1 z hz; omega
theorem low_lp {done : List Int} {u x : Int} (h : LpB on n G s v t done (min (t.lw v) x)) (hv : Vx n v) (h0 : s.nm v = 0) (hux : Vx n u) (hu : t.nm u ≠ 0) (hx : x < t.lw v → ∃ z ∈ t.stack, t.nm z = x ∧ Rch on v z) (hsx : u ∈ s.stack → x ≤ s.nm u) :
  Lp on n G s v (lowF v x t) (done ++ [u]) := by
 have hll : (t.low.set v.toNat (min (t.lw v) x)).length = n := by rw [List.length_set]; exact h.tj.ll
 have el : ∀ a, Vx n a → (lowF v x t).lw a = if a = v then min (t.lw v) x else t.lw a := fun a ha => setAt h.tj.ll hv ha
 have ev : (lowF v x t).lw v = min (t.lw v) x := by rw [el v hv, if_pos rfl]
 obtain ⟨e, he, h2⟩ := h.ext
 refine ⟨h.tj.low hll, ⟨e, he, fun y hy z hz hzs => ?_⟩, ?_, fun a ha hna => ?_, h.now, ?_, fun w hw => ?_, h.nxt, h.more⟩
 ·rw [ev]; exact h2 y hy z hz hzs
 ·rw [ev]
  by_cases hlt : x < t.lw v
  ·obtain ⟨z, h3, h4, h5⟩ := hx hlt
   exact ⟨z, h3, h4.trans (by omega), h5⟩
  ·obtain ⟨z, h3, h4, h5⟩ := h.wit
   exact ⟨z, h3, h4.trans (by omega), h5⟩
 ·have hne : a ≠ v := fun e => hna (e ▸ h0)
  obtain ⟨h3, h4⟩ := h.old a ha hna
  exact ⟨h3, by rw [el a ha, if_neg hne]; exact h4⟩
 ·rw [ev]; have := h.low; exact Int.le_trans (by omega) this
 ·rw [ev]
  rcases List.mem_append.1 hw with hw | hw
  ·exact h.did w hw
  ·rw [List.mem_singleton.1 hw]
   exact ⟨hux, hu, fun hs => by have := hsx hs; omega⟩
theorem LpB.mono {done : List Int} {b b' : Int} (h : LpB on n G s v t done b) (hb : b' ≤ b) : LpB on n G s v t done b' := by
 obtain ⟨e, he, h2⟩ := h.ext
 exact ⟨h.tj, ⟨e, he, fun y hy z hz hzs => Int.le_trans hb (h2 y hy z hz hzs)⟩, h.wit, h.old, h.now, h.low, fun u hu => ⟨(h.did u hu).1, (h.did u hu).2.1, fun hs => Int.le_trans hb ((h.did u hu).2.2 hs)⟩, h.nxt, h.more⟩
theorem lp_reach {done : List Int} (h : Lp on n G s v t done) (hT : Tj on n G s) : ∀ x ∈ G ++ [v], Rch on x v := fun x hx => by
 obtain ⟨e, he, _⟩ := h.ext
 rcases List.mem_append.1 hx with hg | hg
 ·have h1 := hT.rng x (.inr (hT.gs x hg))
  have h2 := (hT.vis x h1).2 (.inr (hT.gs x hg))
  have e1 := (h.old x h1 h2).1
  refine h.tj.fwd x hx v (by rw [he]; simp) ?_
  rw [e1, h.now]; have := hT.nn x; omega
 ·rw [List.mem_singleton.1 hg]; exact .refl v
theorem step_lp {rec : Int → Fs → Fs} {done : List Int} (h : Lp on n G s v t done) (hT : Tj on n G s) (hO : OnOk on n) (hv : Vx n v) (h0 : s.nm v = 0) (hu : u ∈ rowOf on v)
  (hrec : Vx n u → t.nm u = 0 → (∀ x ∈ G ++ [v], Rch on x u) → Vd on n (G ++ [v]) t u (rec u t)) : Lp on n G s v (stepF rec v t u) (done ++ [u]) := by
 have hux := hO.rng v u hu
 have sv : ∀ a, a ∈ s.stack → Vx n a ∧ s.nm a ≠ 0 := fun a ha => ⟨hT.rng a (.inr ha), (hT.vis a (hT.rng a (.inr ha))).2 (.inr ha)⟩
 obtain ⟨e, he, h2⟩ := h.ext
 have hvt : v ∈ t.stack := by rw [he]; simp
 unfold stepF
 by_cases hz : t.nm u = 0
 ·rw [if_pos hz]
  have hr : ∀ x ∈ G ++ [v], Rch on x u := fun x hx => (lp_reach h hT x hx).step hu
  have hd := hrec hux hz hr
  generalize rec u t = w at hd
  obtain ⟨e', he', a1, a2, a3⟩ := hd.ext
  have nv0 : t.nm v ≠ 0 := by rw [h.now]; have := hT.nn v; omega
  obtain ⟨ov, ol⟩ := hd.old v hv nv0
  have stz : ∀ z, z ∈ t.stack → w.nm z = t.nm z ∧ z ∈ w.stack := fun z b1 => by
   have hzx : Vx n z := h.tj.rng z (.inr b1)
   have hz0 : t.nm z ≠ 0 := (h.tj.vis z hzx).2 (.inr b1)
   exact ⟨(hd.old z hzx hz0).1, by rw [he']; simp [b1]⟩
  refine low_lp (t := w) (x := w.lw u) ?_ hv h0 hux hd.now (fun hlt => ?_) (fun hs => absurd hz ?_)
  ·refine ⟨hd.tj, ⟨e ++ e', by rw [he', he]; simp, fun y hy z hzr hzs => ?_⟩, ?_, fun a ha hna => ?_, by rw [ov]; exact h.now, by rw [ov, ol]; exact h.low, fun a ha => ?_, by have := h.nxt; have := hd.nxt; omega, ?_⟩
   ·rw [ol]
    rcases List.mem_append.1 hy with hy | hy
    ·have := h2 y hy z hzr hzs; omega
    ·have h5 := a1 y hy z hzr (by rw [he]; simp [hzs])
     rw [(h.old z (sv z hzs).1 (sv z hzs).2).1] at h5; omega
   ·obtain ⟨z, b1, b2, b3⟩ := h.wit
    exact ⟨z, (stz z b1).2, by rw [(stz z b1).1, ol]; exact b2, b3⟩
   ·obtain ⟨b1, b2⟩ := h.old a ha hna
    have : t.nm a ≠ 0 := by rw [b1]; exact hna
    obtain ⟨b3, b4⟩ := hd.old a ha this
    exact ⟨b3.trans b1, b4.trans b2⟩
   ·obtain ⟨b0, b1, b2⟩ := h.did a ha
    exact ⟨b0, by rw [(hd.old a b0 b1).1]; exact b1, fun hs => by have := b2 hs; omega⟩
   ·obtain ⟨m, hm⟩ := h.more
    obtain ⟨m', hm'⟩ := hd.more
    exact ⟨m ++ m', by rw [hm', hm, List.append_assoc]⟩
  ·rw [ol] at hlt
   have hlow := h.low
   have hnn := h.tj.nn v
   by_cases hne : e' = []
   ·have := a3 hne; omega
   ·obtain ⟨z, b1, b2, b3⟩ := a2 hne
    exact ⟨z, (stz z b1).2, by rw [(stz z b1).1]; exact b2, (Rch.one hu).trans b3⟩
  ·rw [(h.old u hux (sv u hs).2).1]; exact (sv u hs).2
 ·rw [if_neg hz]
  by_cases hop : t.op u = true
  ·rw [if_pos hop]
   have hus := (h.tj.opn u hux).1 hop
   exact low_lp (LpB.mono h (by omega)) hv h0 hux hz (fun _ => ⟨u, hus, rfl, Rch.one hu⟩) fun hs => by rw [(h.old u (sv u hs).1 (sv u hs).2).1]; exact Int.le_refl _
  ·rw [if_neg hop]
   refine ⟨h.tj, h.ext, h.wit, h.old, h.now, h.low, fun a ha => ?_, h.nxt, h.more⟩
   rcases List.mem_append.1 ha with ha | ha
   ·exact h.did a ha
   ·rw [List.mem_singleton.1 ha]
    refine ⟨hux, hz, fun hs => absurd ((h.tj.opn u hux).2 ?_) hop⟩
    rw [he]; simp [hs]
theorem take_flat_sub {gs : List (List Int)} {i : Nat} (hu : u ∈ (gs.take i).flatten) : u ∈ gs.flatten := by
 obtain ⟨g, hg, hu⟩ := List.mem_flatten.1 hu
 exact List.mem_flatten.2 ⟨g, List.mem_of_mem_take hg, hu⟩
theorem Tj.closed (h : Tj on n G s) (hx : x ∈ s.groups.flatten) (hy : y ∈ rowOf on x) : y ∈ s.groups.flatten := by
 obtain ⟨g, hg, hx⟩ := List.mem_flatten.1 hx
 obtain ⟨i, hi, rfl⟩ := List.getElem_of_mem hg
 exact take_flat_sub (h.cls i x (by rw [List.getD_eq_getElem?_getD, List.getElem?_eq_getElem hi]; exact hx) y hy)
theorem idxAt {a b : List Int} (h : v ∉ a) : (a ++ v :: b).idxOf v = a.length := by
 rw [List.idxOf_append, if_neg h, List.idxOf_cons_self, Nat.zero_add]
theorem close_vd (h : Lp on n G s v t (rowOf on v)) (hO : OnOk on n) (hT : Tj on n G s) (hv : Vx n v) (h0 : s.nm v = 0) : Vd on n G s v (closeF v t) := by
 obtain ⟨w1, w2⟩ := hT.white hv h0
 have sv : ∀ a, a ∈ s.stack → Vx n a ∧ s.nm a ≠ 0 ∧ t.nm a = s.nm a := fun a ha => by
  have h1 := hT.rng a (.inr ha)
  have h2 := (hT.vis a h1).2 (.inr ha)
  exact ⟨h1, h2, (h.old a h1 h2).1⟩
 have hvG : v ∉ G := fun hg => w2 (hT.gs v hg)
 have hnx : 0 ≤ s.next := by have := hT.nn v; omega
 obtain ⟨e, he, h2⟩ := h.ext
 have hlow := h.low
 have hnow := h.now
 have hin : ∀ z, z ∈ s.stack → z ∈ t.stack := fun z hz => by rw [he]; simp [hz]
 have hvt : v ∈ t.stack := by rw [he]; simp
 have hGs : ∀ x ∈ G, x ∈ t.stack := fun x hx => hin x (hT.gs x hx)
 -- what is on the stack from v on
 have up : ∀ y ∈ v :: e, s.next + 1 ≤ t.nm y := fun y hy => by
  have hs := h.tj.srt
  rw [he, List.pairwise_append, List.pairwise_cons] at hs
  rcases List.mem_cons.1 hy with e1 | hy
  ·rw [e1]; omega
  ·have := hs.2.1.1 y hy; omega
 -- an edge from v :: e to the old stack is above v's low
 have edge : ∀ y ∈ v :: e, ∀ z ∈ rowOf on y, z ∈ s.stack → t.lw v ≤ s.nm z := fun y hy z hz hzs => by
  rcases List.mem_cons.1 hy with e1 | hy
  ·rw [e1] at hz; exact (h.did z hz).2.2 hzs
  ·exact h2 y hy z hz hzs
 have blk : ∀ y, y ∈ t.groups.flatten ∨ y ∈ t.stack → y ∉ G → ∀ u ∈ rowOf on y, t.nm u ≠ 0 := fun y hy hg u hu => by
  by_cases e1 : y = v
  ·rw [e1] at hu; exact (h.did u hu).2.1
  ·exact h.tj.blk y hy (by simp [hg, e1]) u hu
 unfold closeF
 by_cases hc : t.lw v = t.nm v
 ·-- a group is told
  rw [if_neg (by simp [hc])]
  have hnd := h.tj.nd
  have hat : t.stack.idxOf v = s.stack.length := by
   rw [he, idxAt w2]
  rw [hat]
  have htk : t.stack.take s.stack.length = s.stack := by rw [he, List.take_left]
  have hdr : t.stack.drop s.stack.length = v :: e := by rw [he, List.drop_left]
  rw [htk, hdr]
  have hmem : ∀ y, y ∈ sortZ (v :: e) ↔ y ∈ v :: e := fun y => (sortZ_perm _).mem_iff
  have hvx : ∀ y ∈ sortZ (v :: e), Vx n y := fun y hy => h.tj.rng y (.inr (by rw [he]; exact List.mem_append.2 (.inr ((hmem y).1 hy))))
  have nold : ∀ y ∈ v :: e, y ∉ s.stack := fun y hy hs => by
   have h3 := up y hy
   have h4 := (sv y hs).2.2
   have := hT.nn y; omega
  -- what v :: e hangs on lies in it or is told
  have stay : ∀ y ∈ v :: e, ∀ z ∈ rowOf on y, z ∈ v :: e ∨ z ∈ t.groups.flatten := fun y hy z hz => by
   have hyG : y ∉ G := fun hg => nold y hy (hT.gs y hg)
   have hz0 := blk y (.inr (by rw [he]; exact List.mem_append.2 (.inr hy))) hyG z hz
   have hzx : Vx n z := hO.rng y z hz
   rcases (h.tj.vis z hzx).1 hz0 with h3 | h3
   ·exact .inr h3
   ·rw [he] at h3
    rcases List.mem_append.1 h3 with h3 | h3
    ·have h4 := edge y hy z hz h3
     have := hT.nn z; omega
    ·exact .inl h3
  have stays : ∀ y z, y ∈ v :: e → Rch on y z → z ∈ v :: e ∨ z ∈ t.groups.flatten := fun y z hy hr => Rch.stay (C := fun z => z ∈ v :: e ∨ z ∈ t.groups.flatten) (fun a ha b hb => by
   rcases ha with ha | ha
   ·exact stay a ha b hb
   ·exact .inr (h.tj.closed ha hb)) hr (.inl hy)
  have dsj : ∀ z, z ∈ t.stack → z ∉ t.groups.flatten := fun z hz hg => by
   rw [List.nodup_append] at hnd
   exact hnd.2.2 z hg z hz rfl
  have hto : ∀ y ∈ v :: e, Rch on y v ∧ Rch on v y := fun y hy => by
   have hyt : y ∈ t.stack := by rw [he]; exact List.mem_append.2 (.inr hy)
   refine ⟨?_, h.tj.fwd v (by simp) y hyt (by have := up y hy; omega)⟩
   obtain ⟨x, x1, x2, x3⟩ := h.tj.bwd y hyt
   rcases List.mem_append.1 x1 with hg | hg
   ·have hxs := hT.gs x hg
    rcases stays y x hy x3 with h5 | h5
    ·exact absurd hxs (nold x h5)
    ·exact absurd h5 (dsj x (hin x hxs))
   ·rw [List.mem_singleton.1 hg] at x3; exact x3
  have hfl : ∀ u, u ∈ (t.groups ++ [sortZ (v :: e)]).flatten ↔ u ∈ t.groups.flatten ∨ u ∈ v :: e := fun u => by
   rw [List.flatten_append, List.mem_append, List.flatten_singleton, hmem]
  have hall : ∀ u, (u ∈ (t.groups ++ [sortZ (v :: e)]).flatten ∨ u ∈ s.stack) ↔ (u ∈ t.groups.flatten ∨ u ∈ t.stack) := fun u => by
   rw [hfl, he, List.mem_append]
   constructor
   ·rintro ((h5 | h5) | h5)
    ·exact .inl h5
    ·exact .inr (.inr h5)
    ·exact .inr (.inl h5)
   ·rintro (h5 | h5 | h5)
    ·exact .inl (.inl h5)
    ·exact .inr h5
    ·exact .inl (.inr h5)
  obtain ⟨m, hm⟩ := h.more
  refine ⟨⟨h.tj.ln, h.tj.ll, (shut_len _ _).trans h.tj.lo, h.tj.cnt, h.tj.nn, fun u hu => (h.tj.vis u hu).trans (hall u).symm, fun u hu => h.tj.rng u ((hall u).1 hu), ?_, fun u hu => ?_, ?_, hT.gs, fun y hy => blk y ((hall y).1 hy), ?_, fun x hx y hy => h.tj.fwd x (by simp [hx]) y (hin y hy), fun y hy => ?_, ?_, ?_⟩, ⟨[], by simp, by simp, by simp, fun _ => ?_⟩, h.old, by show t.nm v ≠ 0; omega, h.nxt, ⟨m ++ [sortZ (v :: e)], by simp [hm]⟩⟩
  ·show ((t.groups ++ [sortZ (v :: e)]).flatten ++ s.stack).Nodup
   have hp : ((t.groups ++ [sortZ (v :: e)]).flatten ++ s.stack).Perm (t.groups.flatten ++ t.stack) := by
    rw [List.flatten_append, List.flatten_singleton, List.append_assoc, he]
    exact List.Perm.append_left _ ((List.perm_append_comm).trans (List.Perm.append_left _ (sortZ_perm _)))
   exact hp.nodup_iff.2 hnd
  ·refine (shut_at hu _ _ h.tj.lo hvx).trans ?_
   rw [hmem]
   have h5 := h.tj.opn u hu
   rw [he] at h5
   show t.op u = true ∧ _ ↔ u ∈ s.stack
   rw [h5, List.mem_append]
   constructor
   ·rintro ⟨h6 | h6, h7⟩
    ·exact h6
    ·exact absurd h6 h7
   ·exact fun h6 => ⟨.inl h6, fun h7 => nold u h7 h6⟩
  ·have hs := h.tj.srt
   rw [he, List.pairwise_append] at hs
   exact hs.1
  ·intro i y hy u hu
   have hy : y ∈ (t.groups ++ [sortZ (v :: e)]).getD i [] := hy
   show u ∈ ((t.groups ++ [sortZ (v :: e)]).take (i + 1)).flatten
   rcases Nat.lt_trichotomy i t.groups.length with hi | hi | hi
   ·rw [List.getD_eq_getElem?_getD, List.getElem?_append_left hi, ← List.getD_eq_getElem?_getD] at hy
    rw [List.take_append_of_le_length (by omega)]
    exact h.tj.cls i y hy u hu
   ·subst hi
    rw [List.getD_eq_getElem?_getD, List.getElem?_append_right (Nat.le_refl _), Nat.sub_self] at hy
    rw [List.take_of_length_le (by simp), hfl]
    exact (stay y ((hmem y).1 hy) u hu).symm
   ·rw [List.getD_eq_getElem?_getD, List.getElem?_eq_none (by simp; omega)] at hy
    cases hy
  ·obtain ⟨x, x1, x2, x3⟩ := hT.bwd y hy
   refine ⟨x, x1, ?_, x3⟩
   show t.nm x ≤ t.nm y
   rw [(sv y hy).2.2, (sv x (hT.gs x x1)).2.2]; exact x2
  ·intro g hg x hx y hy
   rcases List.mem_append.1 hg with hg | hg
   ·exact h.tj.scc g hg x hx y hy
   ·rw [List.mem_singleton.1 hg] at hx hy
    exact (hto x ((hmem x).1 hx)).1.trans (hto y ((hmem y).1 hy)).2
  ·intro g hg
   rcases List.mem_append.1 hg with hg | hg
   ·exact h.tj.gok g hg
   ·rw [List.mem_singleton.1 hg]
    refine ⟨fun h5 => ?_, sortZ_sorted _⟩
    have := (hmem v).2 (by simp)
    rw [h5] at this; cases this
  ·show s.next < t.lw v
   omega
 ·rw [if_pos (by simpa using hc)]
  obtain ⟨z, z1, z2, z3⟩ := h.wit
  have hzs : z ∈ s.stack := by
   have z1' := z1
   rw [he] at z1'
   rcases List.mem_append.1 z1' with h3 | h3
   ·exact h3
   ·have := up z h3; omega
  obtain ⟨p, p1, p2, p3⟩ := hT.bwd z hzs
  have pz := (sv z hzs).2.2
  refine ⟨⟨h.tj.ln, h.tj.ll, h.tj.lo, h.tj.cnt, h.tj.nn, h.tj.vis, h.tj.rng, h.tj.nd, h.tj.opn, h.tj.srt, hGs, blk, h.tj.cls, fun x hx => h.tj.fwd x (by simp [hx]), fun y hy => ?_, h.tj.scc, h.tj.gok⟩, ⟨v :: e, he, edge, fun _ => ⟨z, hzs, by rw [← pz]; exact z2, z3⟩, fun e => by cases e⟩, h.old, by omega, h.nxt, h.more⟩
  obtain ⟨x, x1, x2, x3⟩ := h.tj.bwd y hy
  rcases List.mem_append.1 x1 with hg | hg
  ·exact ⟨x, hg, x2, x3⟩
  ·rw [List.mem_singleton.1 hg] at x2 x3
   have hps := (sv p (hT.gs p p1)).2.2
   exact ⟨p, p1, by omega, (x3.trans z3).trans p3⟩
theorem visit_vd (hO : OnOk on n) : ∀ (f : Nat) (v : Int) (s : Fs) (G : List Int), Tj on n G s → Vx n v → s.nm v = 0 → (∀ x ∈ G, Rch on x v) → s.num.count 0 ≤ f → Vd on n G s v (visitF on f v s)
 | 0, v, s, G, hT, hv, h0, _, hf => by
  have hvl : v.toNat < s.num.length := by rw [hT.ln]; unfold Vx at hv; omega
  have : (0 : Int) ∈ s.num := by
   have h2 : s.num[v.toNat] = 0 := by
    have := h0
    unfold Fs.nm at this
    rw [List.getD_eq_getElem?_getD, List.getElem?_eq_getElem hvl] at this
    exact this
   rw [← h2]; exact List.getElem_mem _
  have := List.count_pos_iff.2 this
  omega
 | f + 1, v, s, G, hT, hv, h0, hr, hf => by
  have key : ∀ (us done : List Int) (t : Fs), (∀ u ∈ us, u ∈ rowOf on v) → Lp on n G s v t done → Lp on n G s v (us.foldl (stepF (visitF on f) v) t) (done ++ us) := by
   intro us
   induction us with
   | nil => intro done t _ h; rw [List.append_nil]; exact h
   | cons u us ih =>
    intro done t hus h
    have h1 := step_lp (u := u) (rec := visitF on f) h hT hO hv h0 (hus u (by simp)) fun hux hz hr2 => visit_vd hO f u t _ h.tj hux hz hr2 (by
     have a1 := hT.cnt; have a2 := h.tj.cnt; have a3 := h.nxt; omega)
    have h2 := ih (done ++ [u]) _ (fun w hw => hus w (by simp [hw])) h1
    rw [List.append_assoc] at h2
    exact h2
  have h1 := key (rowOf on v) [] _ (fun u hu => hu) (enter_lp hT hv h0 hr)
  rw [List.nil_append] at h1
  exact close_vd h1 hO hT hv h0
def startF (n : Nat) : Fs := ⟨List.replicate n 0, List.replicate n 0, [], List.replicate n false, 0, []⟩
def allF (on : List (List Int)) (n : Nat) (k : Nat) : Fs := (List.range k).foldl (fun (s : Fs) (v : Nat) => if s.nm (v : Int) = 0 then visitF on n v s else s) (startF n)
def groupsF (on : List (List Int)) : List (List Int) := (allF on on.length on.length).groups
theorem repAt {α : Type} {n i : Nat} {a : α} : (List.replicate n a).getD i a = a := by
 rw [List.getD_eq_getElem?_getD, List.getElem?_replicate]
 split <;> rfl
theorem start_tj (hO : OnOk on n) : Tj on n [] (startF n) := by
 have h0 : ∀ v, (startF n).nm v = 0 := fun v => repAt
 refine ⟨by simp [startF], by simp [startF], by simp [startF], by simp [startF], fun v => by rw [h0]; simp [startF], fun v _ => by rw [h0]; simp [startF], by simp [startF], by simp [startF], fun v _ => ?_, by simp [startF], by simp, by simp [startF], by simp [startF], by simp, by simp [startF], by simp [startF], by simp [startF]⟩
 have : (startF n).op v = false := repAt
 rw [this]; simp [startF]
theorem allF_succ (k : Nat) : allF on n (k + 1) = if (allF on n k).nm (k : Int) = 0 then visitF on n k (allF on n k) else allF on n k := by
 unfold allF
 rw [List.range_succ, List.foldl_append]; rfl
theorem all_tj (hO : OnOk on n) : ∀ k, k ≤ n → Tj on n [] (allF on n k) ∧ ∀ v, Vx n v → v < k → (allF on n k).nm v ≠ 0
 | 0, _ => ⟨start_tj hO, fun v h1 h2 => by unfold Vx at h1; omega⟩
 | k + 1, hk => by
  obtain ⟨h1, h2⟩ := all_tj hO k (by omega)
  have hv : Vx n (k : Int) := ⟨by omega, by omega⟩
  rw [allF_succ]
  by_cases h0 : (allF on n k).nm (k : Int) = 0
  ·rw [if_pos h0]
   have hd := visit_vd hO n k _ [] h1 hv h0 (by simp) (by have := h1.cnt; have := h1.nn k; omega)
   refine ⟨hd.tj, fun v hvx hlt => ?_⟩
   by_cases e : v = k
   ·rw [e]; exact hd.now
   ·have := h2 v hvx (by omega)
    rw [(hd.old v hvx this).1]; exact this
  ·rw [if_neg h0]
   refine ⟨h1, fun v hvx hlt => ?_⟩
   by_cases e : v = k
   ·rw [e]; exact h0
   ·exact h2 v hvx (by omega)
structure Grp (on : List (List Int)) (n : Nat) (gs : List (List Int)) : Prop where
 all : ∀ v, v ∈ gs.flatten ↔ Vx n v
 nd : gs.flatten.Nodup
 cls : ∀ i, ∀ v ∈ gs.getD i [], ∀ u ∈ rowOf on v, u ∈ (gs.take (i + 1)).flatten
 scc : ∀ g ∈ gs, ∀ x ∈ g, ∀ y ∈ g, Rch on x y
 gok : ∀ g ∈ gs, g ≠ [] ∧ g.Pairwise (· ≤ ·)
theorem groups_grp (hO : OnOk on n) : Grp on n (groupsF on) := by
 unfold groupsF
 rw [hO.len]
 obtain ⟨h1, h2⟩ := all_tj hO n (Nat.le_refl n)
 have hst : (allF on n n).stack = [] := by
  cases h : (allF on n n).stack with
  | nil => rfl
  | cons a l =>
   obtain ⟨x, hx, _⟩ := h1.bwd a (by rw [h]; simp)
   cases hx
 refine ⟨fun v => ⟨fun h => h1.rng v (.inl h), fun h => ?_⟩, ?_, h1.cls, h1.scc, h1.gok⟩
 ·have h3 := (h1.vis v h).1 (h2 v h h.2)
  rw [hst] at h3
  rcases h3 with h3 | h3
  ·exact h3
  ·cases h3
 ·have := h1.nd
  rw [hst, List.append_nil] at this
  exact this
end
end Go.Tar
namespace Go.Proofs.YtfhacbhgmnhmlaaGreat
set_option linter.unusedVariables false
set_option linter.unusedSimpArgs false
open Go Go.Eng Go.Tar
structure FX where
 an : Option Addr
 cn : Nat
 al : Option Addr
 cl : Nat
 st : Option Addr
 ct : Nat
 ao : Option Addr
 co : Nat
 ag : Option Addr
 cg : Nat
def fnd (p : Nat) (oa : Option Addr) (oc n : Nat) (s : Fs) : Asn := fun h => ∃ x : FX, sep [cells p [.slice oa n oc, .slice x.an n x.cn, .slice x.al n x.cl, .slice x.st s.stack.length x.ct, .slice x.ao n x.co, .int .i64 s.next, .slice x.ag s.groups.length x.cg] T_order_finder,
 arr I64 T_int x.an x.cn s.num, arr I64 T_int x.al x.cl s.low, arr I64 T_int x.st x.ct s.stack, arr BOO T_bool x.ao x.co s.opn, LI x.ag x.cg s.groups] h
section
variable {W0 W : World} {L L' : List Asn} {p oc n g o c i : Nat} {oa a : Option Addr} {s : Fs} {l : List Int} {m : List Bool} {v x : Int}
theorem fnd_at (h : St W0 (fnd p oa oc n s :: L) W) : ∃ an cn al cl st ct ao co ag cg, St W0 (cells p [.slice oa n oc, .slice an n cn, .slice al n cl, .slice st s.stack.length ct, .slice ao n co, .int .i64 s.next, .slice ag s.groups.length cg] T_order_finder ::
  arr I64 T_int an cn s.num :: arr I64 T_int al cl s.low :: arr I64 T_int st ct s.stack :: arr BOO T_bool ao co s.opn :: LI ag cg s.groups :: L) W := by
 obtain ⟨x, h⟩ := h.ex
 exact ⟨x.an, x.cn, x.al, x.cl, x.st, x.ct, x.ao, x.co, x.ag, x.cg, h.flat⟩
theorem fnd_ent {an al st ao ag : Option Addr} {cn cl ct co cg : Nat} : ent (cells p [.slice oa n oc, .slice an n cn, .slice al n cl, .slice st s.stack.length ct, .slice ao n co, .int .i64 s.next, .slice ag s.groups.length cg] T_order_finder ::
  arr I64 T_int an cn s.num :: arr I64 T_int al cl s.low :: arr I64 T_int st ct s.stack :: arr BOO T_bool ao co s.opn :: LI ag cg s.groups :: L) (fnd p oa oc n s :: L) :=
 (ent.pack [_, _, _, _, _, _] L).trans (ent.weak fun _ hp => ⟨⟨an, cn, al, cl, st, ct, ao, co, ag, cg⟩, hp⟩)
theorem fnd_of (an al st ao ag : Option Addr) (cn cl ct co cg : Nat) {num low stack : List Int} {opn : List Bool} {next : Int} {groups : List (List Int)} (h : St W0 (cells p [.slice oa n oc, .slice an n cn, .slice al n cl, .slice st stack.length ct, .slice ao n co, .int .i64 next, .slice ag groups.length cg] T_order_finder ::
  arr I64 T_int an cn num :: arr I64 T_int al cl low :: arr I64 T_int st ct stack :: arr BOO T_bool ao co opn :: LI ag cg groups :: L) W) : St W0 (fnd p oa oc n ⟨num, low, stack, opn, next, groups⟩ :: L) W := h.ent (fnd_ent (s := ⟨num, low, stack, opn, next, groups⟩))
theorem li_snoc {ag : Option Addr} {cg : Nat} {rows : List ISl} {vs : List (List Int)} {y : ISl} (hr : rows.map (·.l) = vs) (h : St W0 (arr ISY T_s_int ag cg (rows ++ [y]) :: ich y :: many ich rows :: L) W) : St W0 (LI ag cg (vs ++ [y.l]) :: L) W :=
 (h.ent ((ent.cons _ (many_uncons (F := ich) y rows)).trans (ent.cons _ (many_perm (F := ich) (List.perm_append_comm (l₁ := [y]) (l₂ := rows)))))).ent (li_ent (by rw [List.map_append, hr]; rfl))
theorem idxZ_eq (l : List Int) (x : Int) (h : x ∈ l) : (if x ∈ l then (l.idxOf x : Int) else -1) = (l.idxOf x : Int) := if_pos h
theorem ix1 (hv : Vx n v) (g o c : Nat) : idxS 1 (.slice (some ⟨g, o, none⟩) n c) (.int .i64 v) = some (.pointer (some ⟨g, o + v.toNat * 1, none⟩)) := idxS_blk hv.1 hv.2
theorem getD_at {α : Type} {l : List α} {d : α} (hi : i < l.length) : l[i] = l.getD i d := by rw [List.getD_eq_getElem?_getD, List.getElem?_eq_getElem hi]; rfl
theorem ldG (hi : i < l.length) (h : St W0 L W) [hr : Rd W0 L (some ⟨g, o, none⟩) I64 l] {k : Value → World → Prop} (hk : k (.int .i64 (l.getD i 0)) W) : rdK PR (Instr.loadAt T_int (.pointer (some ⟨g, o + i * 1, none⟩))) k W :=
 ldA0 (i := i) (l := l) (A := I64) h rfl hi (v := .int .i64 (l.getD i 0)) (by rw [← getD_at hi]; rfl) (by simp) hk
theorem stG (hi : i < l.length) (h : St W0 L W) [ho : Go.Eng.Own (some ⟨g, o, none⟩) L I64 T_int c l L'] {k : Unit → World → Prop} (hk : ∀ W', St W0 (arr I64 T_int (some ⟨g, o, none⟩) c (l.set i x) :: L') W' → k () W') : efK PR (Instr.storeAt T_int (.pointer (some ⟨g, o + i * 1, none⟩)) (.int .i64 x)) k W :=
 stA (i := i) (x := x) (l := l) (A := I64) h rfl hi rfl hk
theorem ldGb (hi : i < m.length) (h : St W0 L W) [hr : Rd W0 L (some ⟨g, o, none⟩) BOO m] {k : Value → World → Prop} (hk : k (.bool (m.getD i false)) W) : rdK PR (Instr.loadAt T_bool (.pointer (some ⟨g, o + i * 1, none⟩))) k W :=
 ldA0 (i := i) (l := m) (A := BOO) h rfl hi (v := .bool (m.getD i false)) (by rw [← getD_at hi]; rfl) (by simp) hk
theorem stGb {x : Bool} (hi : i < m.length) (h : St W0 L W) [ho : Go.Eng.Own (some ⟨g, o, none⟩) L BOO T_bool c m L'] {k : Unit → World → Prop} (hk : ∀ W', St W0 (arr BOO T_bool (some ⟨g, o, none⟩) c (m.set i x) :: L') W' → k () W') : efK PR (Instr.storeAt T_bool (.pointer (some ⟨g, o + i * 1, none⟩)) (.bool x)) k W :=
 stA (i := i) (x := x) (l := m) (A := BOO) h rfl hi rfl hk
set_option maxRecDepth 100000 in
set_option maxHeartbeats 4000000 in
theorem indexZ (h : St W0 L W) [hr : Rd W0 L a I64 l] (hl : l.length < 1000000) {k : Value → World → Prop} (hk : ∀ W', St W0 L W' → k (.int .i64 (if x ∈ l then (l.idxOf x : Int) else -1)) W') : callK PR F_slices_Index_int_int [.slice a l.length c, .int .i64 x] k W := by
 apply S.slices_Index_int_int.call
 delta S.slices_Index_int_int.body oK oA rD lD eF eU sT cL vC gD gX gP gA gR gL gE gU gC gV hL sB nI
 (repeat simp -implicitDefEqProofs only [SE, SU, SV])
 refine loop_c (σ := Unit) l.length (fun i _ => [.slice a l.length c, .int .i64 x, .int .i64 l.length, .int .i64 (i : Int)])
  (fun i _ W1 => (∀ j (hj : j < l.length), j < i → l[j] ≠ x) ∧ St W0 L W1) () rfl ⟨fun _ _ h => by omega, (by assumption)⟩ ?_
 clear h
 rintro K i _ W1 hi ⟨hno, h⟩ hK
 simp -implicitDefEqProofs only [SE, SU, SV]
 delta S.slices_Index_int_int.l1 oK oA rD lD eF eU sT cL vC gD gX gP gA gR gL gE gU gC gV hL sB nI
 by_cases hlt : (i : Int) < (l.length : Int)
 ·have hib : i < l.length := by omega
  have ew : IntKind.i64.wrap ((i : Int) + 1) = ((i + 1 : Nat) : Int) := by rw [i64w]; omega
  (repeat simp -implicitDefEqProofs only [SE, SU, SV, hlt])
  refine ixA (i := i) (a := a) (l := l) (A := I64) (by assumption) rfl rfl hib fun g o ha => ?_
  cases ha
  refine ldA0 (i := i) (l := l) (A := I64) (by assumption) rfl hib (v := .int .i64 l[i]) rfl (by simp) ?_
  by_cases hx : x = l[i]
  ·have e1 : l.idxOf x = i := by
    have hle : l.idxOf x ≤ i := by
     refine Classical.byContradiction fun hn => ?_
     have := List.not_of_lt_findIdx (p := (· == x)) (xs := l) (i := i) (by unfold List.idxOf at hn; omega)
     simp [← hx] at this
    refine Classical.byContradiction fun hn => ?_
    have hlt2 : l.idxOf x < l.length := by omega
    exact hno _ hlt2 (by omega) (List.getElem_idxOf hlt2)
   have hm : x ∈ l := by rw [hx]; exact List.getElem_mem hib
   (repeat simp -implicitDefEqProofs only [SE, SU, SV, decide_eq_true hx])
   have := hk _ (by assumption)
   rwa [if_pos hm, e1] at this
  ·(repeat simp -implicitDefEqProofs only [SE, SU, SV, decide_eq_false hx, ew])
   refine hK () _ hib ⟨fun j hj hji => ?_, (by assumption)⟩
   by_cases e : j = i
   ·subst e; exact fun e => hx e.symm
   ·exact hno j hj (by omega)
 ·have hn : x ∉ l := fun hm => by
   obtain ⟨j, hj, rfl⟩ := List.getElem_of_mem hm
   exact hno j hj (by omega) rfl
  (repeat simp -implicitDefEqProofs only [SE, SU, SV, hlt])
  have := hk _ (by assumption)
  rwa [if_neg hn] at this
end
end Go.Proofs.YtfhacbhgmnhmlaaGreat
namespace Go.Proofs.YtfhacbhgmnhmlaaGreat
set_option linter.unusedVariables false
set_option linter.unusedSimpArgs false
open Go Go.Eng Go.Tar
section
variable {W0 W : World} {L L' : List Asn} {p oc n g o c i : Nat} {oa a : Option Addr} {s : Fs} {l : List Int} {m : List Bool} {v x : Int} {on : List (List Int)} {rows : List ISl} {G : List Int}
theorem posAddr {α : Type} {A : Ly α} {l : List α} (h : St W0 L W) [hr : Rd W0 L a A l] (hi : i < l.length) : ∃ g o, a = some ⟨g, o, none⟩ := by
 obtain ⟨g, o, e, _⟩ := Rd.at (A := A) (l := l) (a := a) h (fun e => by subst e; simp at hi)
 exact ⟨g, o, e⟩
theorem min2m {k : IntKind} {a b : Int} : foldP min2P [.int k a, .int k b] = some (.int k (min a b)) := by
 rw [min2i]; congr 2; split <;> omega
set_option maxRecDepth 100000 in
set_option maxHeartbeats 4000000 in
theorem ordVisit (h00 : W0.drawn = 0) (hO : OnOk on n) (hn : n ≤ 1000) (hrows : rows.map (·.l) = on) (hrl : ∀ v, (rowOf on v).length < 1000000) :
  ∀ (f : Nat) (v : Int) (s : Fs) (G : List Int) (W : World) (k : Value → World → Prop), Tj on n G s → Vx n v → s.nm v = 0 → (∀ x ∈ G, Rch on x v) → s.num.count 0 ≤ f →
  St W0 (fnd p oa oc n s :: arr ISY T_s_int oa oc rows :: many ich rows :: L) W → (∀ W', St W0 (fnd p oa oc n (visitF on f v s) :: arr ISY T_s_int oa oc rows :: many ich rows :: L) W' → k (.tuple #[]) W') →
  callK PR F_order_finder_visit [.pointer (some ⟨p, 0, none⟩), .int .i64 v] k W := by
 intro f
 induction f with
 | zero =>
  intro v s G W k hT hv h0 _ hf
  have hd := visit_vd hO 0 v s G hT hv h0 (by assumption) hf
  exact absurd h0 hd.now
 | succ f ih =>
  intro v s G W k hT hv h0 hr hf h hk
  apply S.order_finder_visit.call
  delta S.order_finder_visit.body oK oA rD lD eF eU sT cL vC gD gX gP gA gR gL gE gU gC gV hL sB nI
  have hv' := hv
  have hvn : v.toNat < n := by unfold Vx at hv'; omega
  have hlp := enter_lp hT hv h0 hr
  obtain ⟨an, cn, al, cl, st, ct, ao, co, ag, cg, h⟩ := fnd_at h
  obtain ⟨gn, on', e1⟩ := posAddr (i := v.toNat) (a := an) (A := I64) (l := s.num) h (by rw [hT.ln]; exact hvn)
  obtain ⟨gl, ol, e2⟩ := posAddr (i := v.toNat) (a := al) (A := I64) (l := s.low) h (by rw [hT.ll]; exact hvn)
  obtain ⟨go, oo, e3⟩ := posAddr (i := v.toNat) (a := ao) (A := BOO) (l := s.opn) h (by rw [hT.lo]; exact hvn)
  subst e1 e2 e3
  have hnx : 0 ≤ s.next ∧ s.next < 1000 := by have := hT.cnt; have := hT.nn v; have := hlp.tj.cnt; have := hlp.nxt; have e : (enterF v s).next = s.next + 1 := rfl; omega
  have ew : IntKind.i64.wrap (s.next + 1) = s.next + 1 := by rw [i64w]; omega
  have hstl : s.stack.length < 1000000 := by have := hT.slen; omega
  have hrn : rows.length = n := by rw [← hO.len, ← hrows, List.length_map]
  obtain ⟨gr, or', e4⟩ := posAddr (i := v.toNat) (a := oa) (A := ISY) (l := rows) h (by rw [hrn]; exact hvn)
  rcases hx : rows[v.toNat]'(by rw [hrn]; exact hvn) with ⟨xa, xc, xl⟩
  have hxl : rowOf on v = xl := by
   unfold rowOf; rw [← hrows, List.getD_eq_getElem?_getD, List.getElem?_map, List.getElem?_eq_getElem (by rw [hrn]; exact hvn), hx]; rfl
  have hxm : (⟨xa, xc, xl⟩ : ISl) ∈ rows := by rw [← hx]; exact List.getElem_mem _
  subst e4
  (repeat (first | ((with_reducible refine v5 ?_); refine ⟨_, rfl, ?_⟩) | ((with_reducible refine v12 ?_ ?_); exact rfl; intros) | ((with_reducible refine w5 ?_ ?_); simp; refine ⟨_, rfl, ?_⟩) | simp -implicitDefEqProofs only [SE, SU, SV, ew, ix1 hv]))
  refine stG (i := v.toNat) (by rw [hT.ln]; exact hvn) (by exact St.tick (by assumption)) fun W1 h => ?_
  skip
  refine stG (i := v.toNat) (by rw [hT.ll]; exact hvn) (by assumption) fun W2 h => ?_
  (repeat (first | ((with_reducible refine v5 ?_); refine ⟨_, rfl, ?_⟩) | ((with_reducible refine w5 ?_ ?_); simp; refine ⟨_, rfl, ?_⟩)))
  refine bsA I64 [v] (n := 1) (by assumption) rfl rfl (by decide) (by decide) rfl fun a5 c5 W5 h => ?_
  skip
  refine appA (A := I64) (a := st) (l := s.stack) (m := [v]) (by assumption) rfl (by simp only [List.length_cons, List.length_nil]; omega) (by simp only [List.length_cons, List.length_nil, maxLen]; omega) fun a6 c6 W6 h => ?_
  (repeat (first | ((with_reducible refine v5 ?_); refine ⟨_, rfl, ?_⟩) | ((with_reducible refine v12 ?_ ?_); exact rfl; intros) | ((with_reducible refine w5 ?_ ?_); simp; refine ⟨_, rfl, ?_⟩) | ((with_reducible refine w12 ?_ ?_ ?_ ?_); simp; simp; simp [oneC]; intros) | simp -implicitDefEqProofs only [SE, SU, SV, ew, ix1 hv]))
  refine stGb (i := v.toNat) (x := true) (by rw [hT.lo]; exact hvn) (by assumption) fun W7 h => ?_
  refine joinK_i ?_
  (repeat (first | ((with_reducible refine v5 ?_); refine ⟨_, rfl, ?_⟩) | ((with_reducible refine w5 ?_ ?_); simp; refine ⟨_, rfl, ?_⟩) | simp -implicitDefEqProofs only [SE, SU, SV, ew, ix1 hv]))
  refine ldA0 (i := v.toNat) (l := rows) (A := ISY) (by assumption) rfl (by rw [hrn]; exact hvn) (v := (⟨xa, xc, xl⟩ : ISl).v) (by rw [hx]; rfl) (by simp) ?_
  (try simp only [BLS, SB, stL_a, stL_b, stL_c, lsub_a, lsub_b, lsub_c, List.append_nil, List.take_nil, List.drop_nil, Nat.reduceAdd] at h)
  have h : St W0 (fnd p (some ⟨gr, or', none⟩) oc n (enterF v s) :: arr ISY T_s_int (some ⟨gr, or', none⟩) oc rows :: many ich rows :: L) W7 :=
   fnd_of (some ⟨gn, on', none⟩) (some ⟨gl, ol, none⟩) a6 (some ⟨go, oo, none⟩) ag cn cl c6 co cg (St.wk h)
  (repeat simp -implicitDefEqProofs only [SE, SU, SV])
  refine loop_c (σ := Unit) xl.length (fun i _ => [.pointer (some ⟨p, 0, none⟩), .int .i64 v, .slice xa xl.length xc, .int .i64 xl.length, .int .i64 (i : Int)])
   (fun i _ W1 => Lp on n G s v ((xl.take i).foldl (stepF (visitF on f) v) (enterF v s)) (xl.take i) ∧ St W0 (fnd p (some ⟨gr, or', none⟩) oc n ((xl.take i).foldl (stepF (visitF on f) v) (enterF v s)) :: arr ISY T_s_int (some ⟨gr, or', none⟩) oc rows :: many ich rows :: L) W1) () rfl ⟨hlp, h⟩ ?_
  clear h
  rintro K i _ W8 hi ⟨hlq, h⟩ hK
  simp -implicitDefEqProofs only [SE, SU, SV]
  delta S.order_finder_visit.l2 oK oA rD lD eF eU sT cL vC gD gX gP gA gR gL gE gU gC gV hL sB nI
  by_cases hlt : (i : Int) < (xl.length : Int)
  ·have hib : i < xl.length := by omega
   have eiw : IntKind.i64.wrap ((i : Int) + 1) = ((i + 1 : Nat) : Int) := by rw [i64w]; have := hrl v; rw [hxl] at this; omega
   have htk : xl.take (i + 1) = xl.take i ++ [xl[i]] := List.take_succ_eq_append_getElem hib
   have hur : xl[i] ∈ rowOf on v := by rw [hxl]; exact List.getElem_mem _
   have hux := hO.rng v _ hur
   have hnext := step_lp (rec := visitF on f) hlq hT hO hv h0 hur fun hux hz hr2 => visit_vd hO f _ _ _ hlq.tj hux hz hr2 (by
     have a1 := hT.cnt; have a2 := hlq.tj.cnt; have a3 := hlq.nxt; omega)
   generalize hs1 : (xl.take i).foldl (stepF (visitF on f) v) (enterF v s) = s1 at *
   have hstep : (xl.take (i + 1)).foldl (stepF (visitF on f) v) (enterF v s) = stepF (visitF on f) v s1 xl[i] := by rw [htk, List.foldl_append, hs1]; rfl
   rw [← htk, ← hstep] at hnext
   haveI hrow := ich_rd (W0 := W0) (L := L) hxm
   obtain ⟨gx, ox, e5⟩ := posAddr (i := i) (a := xa) (A := I64) (l := xl) h hib
   subst e5
   have hun : xl[i].toNat < n := by unfold Vx at hux; omega
   obtain ⟨an1, cn1, al1, cl1, st1, ct1, ao1, co1, ag1, cg1, h⟩ := fnd_at h
   obtain ⟨gn1, on1, e1⟩ := posAddr (i := v.toNat) (a := an1) (A := I64) (l := s1.num) h (by rw [hlq.tj.ln]; exact hvn)
   obtain ⟨gl1, ol1, e2⟩ := posAddr (i := v.toNat) (a := al1) (A := I64) (l := s1.low) h (by rw [hlq.tj.ll]; exact hvn)
   obtain ⟨go1, oo1, e3⟩ := posAddr (i := v.toNat) (a := ao1) (A := BOO) (l := s1.opn) h (by rw [hlq.tj.lo]; exact hvn)
   subst e1 e2 e3
   have eix : idxS 1 (.slice (some ⟨gx, ox, none⟩) xl.length xc) (.int .i64 (i : Int)) = some (.pointer (some ⟨gx, ox + i * 1, none⟩)) := by rw [idxS_blk (by omega) (by omega), Int.toNat_natCast]
   (repeat simp -implicitDefEqProofs only [SE, SU, SV, hlt])
   refine joinK_i ?_
   (repeat simp -implicitDefEqProofs only [SE, SU, SV, eix])
   refine ldA0 (i := i) (l := xl) (A := I64) (by assumption) rfl hib (v := .int .i64 xl[i]) rfl (by simp) ?_
   (repeat (first | ((with_reducible refine v5 ?_); refine ⟨_, rfl, ?_⟩) | simp -implicitDefEqProofs only [SE, SU, SV, ix1 hux]))
   refine ldG (i := xl[i].toNat) (l := s1.num) (by rw [hlq.tj.ln]; exact hun) (by assumption) ?_
   by_cases hz : s1.nm xl[i] = 0
   ·have hz1 : decide (s1.num.getD xl[i].toNat 0 = 0) = true := decide_eq_true hz
    rw [show stepF (visitF on f) v s1 xl[i] = lowF v ((visitF on f xl[i] s1).lw xl[i]) (visitF on f xl[i] s1) by unfold stepF; rw [if_pos hz]] at hstep
    have hr2 : ∀ x ∈ G ++ [v], Rch on x xl[i] := fun x hx => (lp_reach hlq hT x hx).step hur
    have hcn : s1.num.count 0 ≤ f := by have a1 := hT.cnt; have a2 := hlq.tj.cnt; have a3 := hlq.nxt; omega
    have hd := visit_vd hO f xl[i] s1 _ hlq.tj hux hz hr2 hcn
    (repeat simp -implicitDefEqProofs only [SE, SU, SV, hz1])
    refine ih xl[i] s1 (G ++ [v]) _ _ hlq.tj hux hz hr2 hcn (fnd_of (some ⟨gn1, on1, none⟩) (some ⟨gl1, ol1, none⟩) st1 (some ⟨go1, oo1, none⟩) ag1 cn1 cl1 ct1 co1 cg1 (St.wk (by assumption))) fun W9 h => ?_
    generalize visitF on f xl[i] s1 = s2 at *
    obtain ⟨an2, cn2, al2, cl2, st2, ct2, ao2, co2, ag2, cg2, h⟩ := fnd_at h
    obtain ⟨gl2, ol2, e2⟩ := posAddr (i := v.toNat) (a := al2) (A := I64) (l := s2.low) h (by rw [hd.tj.ll]; exact hvn)
    subst e2
    (repeat (first | ((with_reducible refine v5 ?_); refine ⟨_, rfl, ?_⟩) | simp -implicitDefEqProofs only [SE, SU, SV, ix1 hv]))
    refine ldG (i := v.toNat) (l := s2.low) (by rw [hd.tj.ll]; exact hvn) (by exact St.tick (by assumption)) ?_
    (repeat (first | ((with_reducible refine v5 ?_); refine ⟨_, rfl, ?_⟩) | simp -implicitDefEqProofs only [SE, SU, SV, ix1 hux]))
    refine ldG (i := xl[i].toNat) (l := s2.low) (by rw [hd.tj.ll]; exact hun) (by exact St.tick (by assumption)) ?_
    (repeat simp -implicitDefEqProofs only [SE, SU, SV, min2m, ix1 hv])
    refine stG (i := v.toNat) (l := s2.low) (by rw [hd.tj.ll]; exact hvn) (by exact St.tick (by assumption)) fun W10 h => ?_
    delta S.order_finder_visit.j3 oK oA rD lD eF eU sT cL vC gD gX gP gA gR gL gE gU gC gV hL sB nI
    (repeat simp -implicitDefEqProofs only [SE, SU, SV, eiw])
    refine hK () _ hib ⟨hnext, ?_⟩
    rw [hstep]
    exact fnd_of (low := s2.low.set v.toNat (min (s2.low.getD v.toNat 0) (s2.low.getD xl[i].toNat 0))) an2 (some ⟨gl2, ol2, none⟩) st2 ao2 ag2 cn2 cl2 ct2 co2 cg2 (St.wk (by assumption))
   ·have hz1 : decide (s1.num.getD xl[i].toNat 0 = 0) = false := decide_eq_false hz
    (repeat (first | ((with_reducible refine v5 ?_); refine ⟨_, rfl, ?_⟩) | simp -implicitDefEqProofs only [SE, SU, SV, hz1, ix1 hux]))
    refine ldGb (i := xl[i].toNat) (m := s1.opn) (by rw [hlq.tj.lo]; exact hun) (by assumption) ?_
    by_cases hop : s1.op xl[i] = true
    ·rw [show stepF (visitF on f) v s1 xl[i] = lowF v (s1.nm xl[i]) s1 by unfold stepF; rw [if_neg hz, if_pos hop]] at hstep
     rw [show s1.opn.getD xl[i].toNat false = true from hop]
     (repeat (first | ((with_reducible refine v5 ?_); refine ⟨_, rfl, ?_⟩) | simp -implicitDefEqProofs only [SE, SU, SV, ix1 hv]))
     refine ldG (i := v.toNat) (l := s1.low) (by rw [hlq.tj.ll]; exact hvn) (by exact St.tick (by assumption)) ?_
     (repeat (first | ((with_reducible refine v5 ?_); refine ⟨_, rfl, ?_⟩) | simp -implicitDefEqProofs only [SE, SU, SV, ix1 hux]))
     refine ldG (i := xl[i].toNat) (l := s1.num) (by rw [hlq.tj.ln]; exact hun) (by exact St.tick (by assumption)) ?_
     (repeat simp -implicitDefEqProofs only [SE, SU, SV, min2m, ix1 hv])
     refine stG (i := v.toNat) (l := s1.low) (by rw [hlq.tj.ll]; exact hvn) (by exact St.tick (by assumption)) fun W10 h => ?_
     delta S.order_finder_visit.j3 oK oA rD lD eF eU sT cL vC gD gX gP gA gR gL gE gU gC gV hL sB nI
     (repeat simp -implicitDefEqProofs only [SE, SU, SV, eiw])
     refine hK () _ hib ⟨hnext, ?_⟩
     rw [hstep]
     exact fnd_of (low := s1.low.set v.toNat (min (s1.low.getD v.toNat 0) (s1.num.getD xl[i].toNat 0))) (some ⟨gn1, on1, none⟩) (some ⟨gl1, ol1, none⟩) st1 (some ⟨go1, oo1, none⟩) ag1 cn1 cl1 ct1 co1 cg1 (St.wk (by assumption))
    ·rw [show stepF (visitF on f) v s1 xl[i] = s1 by unfold stepF; rw [if_neg hz, if_neg hop]] at hstep
     rw [show s1.opn.getD xl[i].toNat false = false from Bool.eq_false_iff.2 hop]
     (repeat simp -implicitDefEqProofs only [SE, SU, SV])
     delta S.order_finder_visit.j3 oK oA rD lD eF eU sT cL vC gD gX gP gA gR gL gE gU gC gV hL sB nI
     (repeat simp -implicitDefEqProofs only [SE, SU, SV, eiw])
     refine hK () _ hib ⟨hnext, ?_⟩
     rw [hstep]
     exact fnd_of (some ⟨gn1, on1, none⟩) (some ⟨gl1, ol1, none⟩) st1 (some ⟨go1, oo1, none⟩) ag1 cn1 cl1 ct1 co1 cg1 (St.wk (by assumption))
  ·have hil : i = xl.length := by omega
   subst hil
   rw [List.take_length] at hlq h
   have hvis : visitF on (f + 1) v s = closeF v (xl.foldl (stepF (visitF on f) v) (enterF v s)) := by rw [← hxl]; rfl
   rw [hvis] at hk
   rw [← hxl] at hlq
   have hd := close_vd hlq hO hT hv h0
   rw [hxl] at hlq hd
   generalize xl.foldl (stepF (visitF on f) v) (enterF v s) = t at *
   obtain ⟨an1, cn1, al1, cl1, st1, ct1, ao1, co1, ag1, cg1, h⟩ := fnd_at h
   obtain ⟨gn1, on1, e1⟩ := posAddr (i := v.toNat) (a := an1) (A := I64) (l := t.num) h (by rw [hlq.tj.ln]; exact hvn)
   obtain ⟨gl1, ol1, e2⟩ := posAddr (i := v.toNat) (a := al1) (A := I64) (l := t.low) h (by rw [hlq.tj.ll]; exact hvn)
   obtain ⟨go1, oo1, e3⟩ := posAddr (i := v.toNat) (a := ao1) (A := BOO) (l := t.opn) h (by rw [hlq.tj.lo]; exact hvn)
   subst e1 e2 e3
   have hvt : v ∈ t.stack := by obtain ⟨e, he, _⟩ := hlq.ext; rw [he]; simp
   (repeat simp -implicitDefEqProofs only [SE, SU, SV, hlt])
   delta S.order_finder_visit.j1 oK oA rD lD eF eU sT cL vC gD gX gP gA gR gL gE gU gC gV hL sB nI
   (repeat (first | ((with_reducible refine v5 ?_); refine ⟨_, rfl, ?_⟩) | simp -implicitDefEqProofs only [SE, SU, SV, ix1 hv]))
   refine ldG (i := v.toNat) (l := t.low) (by rw [hlq.tj.ll]; exact hvn) (by exact St.tick (by assumption)) ?_
   (repeat (first | ((with_reducible refine v5 ?_); refine ⟨_, rfl, ?_⟩) | simp -implicitDefEqProofs only [SE, SU, SV, ix1 hv]))
   refine ldG (i := v.toNat) (l := t.num) (by rw [hlq.tj.ln]; exact hvn) (by exact St.tick (by assumption)) ?_
   by_cases hc : t.lw v = t.nm v
   ·have hcl : closeF v t = ⟨t.num, t.low, t.stack.take (t.stack.idxOf v), shutF t.opn (sortZ (t.stack.drop (t.stack.idxOf v))), t.next, t.groups ++ [sortZ (t.stack.drop (t.stack.idxOf v))]⟩ := by unfold closeF; rw [if_neg (by simp [hc])]
    rw [hcl] at hk hd
    have hix : t.stack.idxOf v < t.stack.length := List.idxOf_lt_length_of_mem hvt
    have hsl : t.stack.length < 1000000 := by have := hlq.tj.slen; omega
    generalize hia : t.stack.idxOf v = at_ at *
    have hmem : ∀ u ∈ sortZ (t.stack.drop at_), u.toNat < n := fun u hu => by
     have := hlq.tj.rng u (.inr (List.mem_of_mem_drop ((sortZ_perm _).mem_iff.1 hu)))
     unfold Vx at this; omega
    have hgv : ∀ u ∈ sortZ (t.stack.drop at_), Vx n u := fun u hu => hlq.tj.rng u (.inr (List.mem_of_mem_drop ((sortZ_perm _).mem_iff.1 hu)))
    have hgn1 : (sortZ (t.stack.drop at_)).length < 1000000 := by rw [(sortZ_perm _).length_eq]; simp; omega
    have hcap : t.stack.length ≤ ct1 := (St.arrFacts (St.wk (L' := [arr I64 T_int st1 ct1 t.stack]) h)).1
    have ed : decide (t.low.getD v.toNat 0 = t.num.getD v.toNat 0) = true := decide_eq_true hc
    (repeat (first | ((with_reducible refine v5 ?_); refine ⟨_, rfl, ?_⟩) | simp -implicitDefEqProofs only [SE, SU, SV, ed]))
    refine indexZ (l := t.stack) (x := v) (a := st1) (by exact St.tick (by assumption)) hsl fun W9 h => ?_
    rw [idxZ_eq _ _ hvt, hia]
    (repeat ((with_reducible refine v5 ?_); refine ⟨_, rfl, ?_⟩))
    refine slcR h (a := st1) (A := I64) (l := t.stack) (lo := at_) (hi := t.stack.length) rfl rfl bnd_none (bnd_nat (by omega)) (by omega) (Nat.le_refl _) hcap fun a9 c9 hr9 => ?_
    rw [List.take_length] at hr9 ⊢
    refine sortedVals h h00 (by intro e; have := congrArg List.length e; simp at this; omega) (by simp; omega) fun a10 c10 W10 h => ?_
    rw [sortZ_merge] at h ⊢
    generalize sortZ (t.stack.drop at_) = grp at *
    clear hr9
    (repeat (first | ((with_reducible refine v5 ?_); refine ⟨_, rfl, ?_⟩) | simp -implicitDefEqProofs only [SE, SU, SV]))
    refine slcO (a := st1) (A := I64) (l := t.stack) (lo := 0) (hi := at_) h rfl rfl (bnd_nat (by omega)) bnd_none (Nat.zero_le _) (by omega) fun a11 c11 he => ?_
    rw [List.drop_zero] at he ⊢
    have h := h.ent he
    clear he
    (repeat ((with_reducible refine v12 ?_ ?_); exact rfl; intros))
    rename_i W12 h
    (try simp only [BLS, SB, stL_a, stL_b, stL_c, lsub_a, lsub_b, lsub_c, List.append_nil, List.take_nil, List.drop_nil, Nat.reduceAdd] at h)
    rw [show t.opn = shutF t.opn (grp.take 0) from rfl] at h
    refine joinK_i ?_
    refine loop_c (σ := Unit) grp.length (fun i _ => [.pointer (some ⟨p, 0, none⟩), .slice a10 grp.length c10, .slice a10 grp.length c10, .int .i64 grp.length, .int .i64 (i : Int)])
     (fun i _ W1 => St W0 (arr BOO T_bool (some ⟨go1, oo1, none⟩) co1 (shutF t.opn (grp.take i)) ::
      cells p [.slice (some ⟨gr, or', none⟩) n oc, .slice (some ⟨gn1, on1, none⟩) n cn1, .slice (some ⟨gl1, ol1, none⟩) n cl1, .slice a11 (t.stack.take at_).length c11, .slice (some ⟨go1, oo1, none⟩) n co1, .int .i64 t.next, .slice ag1 t.groups.length cg1] T_order_finder ::
      arr I64 T_int (some ⟨gn1, on1, none⟩) cn1 t.num :: arr I64 T_int (some ⟨gl1, ol1, none⟩) cl1 t.low :: arr I64 T_int a11 c11 (t.stack.take at_) :: LI ag1 cg1 t.groups :: arr I64 T_int a10 c10 grp :: arr ISY T_s_int (some ⟨gr, or', none⟩) oc rows :: many ich rows :: L) W1) () rfl (St.wk h) ?_
    clear h
    rintro K i _ W11 hi h hK
    simp -implicitDefEqProofs only [SE, SU, SV]
    delta S.order_finder_visit.l1 oK oA rD lD eF eU sT cL vC gD gX gP gA gR gL gE gU gC gV hL sB nI
    by_cases hlt : (i : Int) < (grp.length : Int)
    ·have hib : i < grp.length := by omega
     have ew : IntKind.i64.wrap ((i : Int) + 1) = ((i + 1 : Nat) : Int) := by rw [i64w]; omega
     have hgi := hmem grp[i] (List.getElem_mem _)
     have htk : grp.take (i + 1) = grp.take i ++ [grp[i]] := List.take_succ_eq_append_getElem hib
     have hsh : shutF t.opn (grp.take (i + 1)) = (shutF t.opn (grp.take i)).set grp[i].toNat false := by rw [htk]; unfold shutF; rw [List.foldl_append]; rfl
     have hle : grp[i].toNat < (shutF t.opn (grp.take i)).length := by rw [shut_len, hlq.tj.lo]; exact hgi
     have hgx : Vx n grp[i] := hgv _ (List.getElem_mem _)
     (repeat simp -implicitDefEqProofs only [SE, SU, SV, hlt])
     refine ixA (i := i) (a := a10) (l := grp) (A := I64) h rfl rfl hib fun g o ha => ?_
     cases ha
     refine ldA0 (i := i) (l := grp) (A := I64) (by assumption) rfl hib (v := .int .i64 grp[i]) rfl (by simp) ?_
     (repeat (first | ((with_reducible refine v5 ?_); refine ⟨_, rfl, ?_⟩) | simp -implicitDefEqProofs only [SE, SU, SV, ix1 hgx]))
     refine stGb (i := grp[i].toNat) (m := shutF t.opn (grp.take i)) (x := false) hle h fun W12 h => ?_
     (repeat simp -implicitDefEqProofs only [SE, SU, SV, ew])
     rw [← hsh] at h
     exact hK () _ hib (St.wk h)
    ·have hil : i = grp.length := by omega
     subst hil
     rw [List.take_length] at h
     (repeat simp -implicitDefEqProofs only [SE, SU, SV, hlt])
     delta S.order_finder_visit.j2 oK oA rD lD eF eU sT cL vC gD gX gP gA gR gL gE gU gC gV hL sB nI
     (repeat (first | ((with_reducible refine v5 ?_); refine ⟨_, rfl, ?_⟩) | simp -implicitDefEqProofs only [SE, SU, SV]))
     refine bsA ISY [(⟨a10, c10, grp⟩ : ISl)] (n := 1) (by assumption) rfl rfl (by decide) (by decide) rfl fun a5 c5 W5 h => ?_
     obtain ⟨rg, hrg, h⟩ := li_at (St.wk (L' := LI ag1 cg1 t.groups :: arr ISY T_s_int a5 c5 [(⟨a10, c10, grp⟩ : ISl)] :: arr BOO T_bool (some ⟨go1, oo1, none⟩) co1 (shutF t.opn grp) ::
      cells p [.slice (some ⟨gr, or', none⟩) n oc, .slice (some ⟨gn1, on1, none⟩) n cn1, .slice (some ⟨gl1, ol1, none⟩) n cl1, .slice a11 (t.stack.take at_).length c11, .slice (some ⟨go1, oo1, none⟩) n co1, .int .i64 t.next, .slice ag1 t.groups.length cg1] T_order_finder ::
      arr I64 T_int (some ⟨gn1, on1, none⟩) cn1 t.num :: arr I64 T_int (some ⟨gl1, ol1, none⟩) cl1 t.low :: arr I64 T_int a11 c11 (t.stack.take at_) :: arr I64 T_int a10 c10 grp :: arr ISY T_s_int (some ⟨gr, or', none⟩) oc rows :: many ich rows :: L) h)
     have hgl : rg.length = t.groups.length := by rw [← hrg, List.length_map]
     rw [← hgl]
     have hgn : rg.length < 1000000 := by have := hlq.tj.glen; omega
     refine appA (A := ISY) (a := ag1) (l := rg) (m := [(⟨a10, c10, grp⟩ : ISl)]) h rfl (by simp only [List.length_cons, List.length_nil]; omega) (by simp only [List.length_cons, List.length_nil, maxLen]; omega) fun a6 c6 W6 h => ?_
     rw [← hgl] at h
     (repeat ((with_reducible refine v12 ?_ ?_); exact rfl; intros))
     rename_i W13 h
     (try simp only [BLS, SB, stL_a, stL_b, stL_c, lsub_a, lsub_b, lsub_c, List.append_nil, List.take_nil, List.drop_nil, Nat.reduceAdd] at h)
     refine hk _ ?_
     have h := li_snoc (y := ⟨a10, c10, grp⟩) (ag := a6) (cg := c6) (L := arr BOO T_bool (some ⟨go1, oo1, none⟩) co1 (shutF t.opn grp) ::
      cells p [.slice (some ⟨gr, or', none⟩) n oc, .slice (some ⟨gn1, on1, none⟩) n cn1, .slice (some ⟨gl1, ol1, none⟩) n cl1, .slice a11 (t.stack.take at_).length c11, .slice (some ⟨go1, oo1, none⟩) n co1, .int .i64 t.next, .slice a6 (rg ++ [(⟨a10, c10, grp⟩ : ISl)]).length c6] T_order_finder ::
      arr I64 T_int (some ⟨gn1, on1, none⟩) cn1 t.num :: arr I64 T_int (some ⟨gl1, ol1, none⟩) cl1 t.low :: arr I64 T_int a11 c11 (t.stack.take at_) :: arr ISY T_s_int (some ⟨gr, or', none⟩) oc rows :: many ich rows :: L) hrg (St.wk h)
     have hgl2 : (rg ++ [(⟨a10, c10, grp⟩ : ISl)]).length = (t.groups ++ [grp]).length := by simp [hgl]
     rw [hgl2] at h
     exact fnd_of (some ⟨gn1, on1, none⟩) (some ⟨gl1, ol1, none⟩) a11 (some ⟨go1, oo1, none⟩) a6 cn1 cl1 c11 co1 c6 (St.wk h)
   ·have hcl : closeF v t = t := by unfold closeF; rw [if_pos hc]
    rw [hcl] at hk
    have ed : decide (t.low.getD v.toNat 0 = t.num.getD v.toNat 0) = false := decide_eq_false hc
    (repeat simp -implicitDefEqProofs only [SE, SU, SV, ed])
    exact hk _ (fnd_of (some ⟨gn1, on1, none⟩) (some ⟨gl1, ol1, none⟩) st1 (some ⟨go1, oo1, none⟩) ag1 cn1 cl1 ct1 co1 cg1 (St.wk (by exact St.tick (by assumption))))
end
end Go.Proofs.YtfhacbhgmnhmlaaGreat
namespace Go.Proofs.YtfhacbhgmnhmlaaGreat
set_option linter.unusedVariables false
set_option linter.unusedSimpArgs false
open Go Go.Eng Go.Tar
section
variable {W0 W : World} {L L' : List Asn} {a : Option Addr} {c : Nat} {on : List (List Int)}
theorem mkZ {n : Nat} {k : Value → World → Prop} (h : St W0 L W) (hn : n ≤ 1000000) (hk : ∀ a c W', St W0 (arr I64 T_int a c (List.replicate n 0) :: L) W' → k (.slice a n c) W') : efK PR (Instr.makeSlice T_s_int (.int .i64 (n : Int)) (.int .i64 (n : Int))) k W :=
 mkS (A := I64) 0 n h rfl rfl hn (by omega) fun a c W' h' => by have := hk a c W' h'; rwa [List.length_replicate]
theorem mkB {n : Nat} {k : Value → World → Prop} (h : St W0 L W) (hn : n ≤ 1000000) (hk : ∀ a c W', St W0 (arr BOO T_bool a c (List.replicate n false) :: L) W' → k (.slice a n c) W') : efK PR (Instr.makeSlice T_s_bool (.int .i64 (n : Int)) (.int .i64 (n : Int))) k W :=
 mkS (A := BOO) false n h rfl rfl hn (by omega) fun a c W' h' => by have := hk a c W' h'; rwa [List.length_replicate]
theorem li_none : ent L (LI none 0 [] :: L) := ((many_nil (F := ich)).trans (arr_nil ISY T_s_int)).trans (li_ent (rows := []) rfl)
set_option maxRecDepth 100000 in
set_option maxHeartbeats 4000000 in
theorem ordGroups (h00 : W0.drawn = 0) (hO : OnOk on on.length) (hn : on.length ≤ 1000) (hrl : ∀ v, (rowOf on v).length < 1000000) {k : Value → World → Prop} (h : St W0 (LI a c on :: L) W)
  (hk : ∀ a' c' W', St W0 (LI a' c' (groupsF on) :: LI a c on :: L) W' → k (.slice a' (groupsF on).length c') W') : callK PR F_order_groups [.slice a on.length c] k W := by
 apply S.order_groups.call
 delta S.order_groups.body oK oA rD lD eF eU sT cL vC gD gX gP gA gR gL gE gU gC gV hL sB nI
 obtain ⟨rows, hrows, h⟩ := li_at h
 have key : ∀ (p : Nat) (W : World), St W0 (fnd p a c on.length (startF on.length) :: arr ISY T_s_int a c rows :: many ich rows :: L) W → S.order_groups.j1 k (.slice a on.length c) (.pointer (some ⟨p, 0, none⟩)) W := by
  clear h
  intro p W h
  delta S.order_groups.j1 oK oA rD lD eF eU sT cL vC gD gX gP gA gR gL gE gU gC gV hL sB nI
  refine joinK_i ?_
  (repeat simp -implicitDefEqProofs only [SE, SU, SV])
  refine loop_c (σ := Unit) on.length (fun i _ => [.pointer (some ⟨p, 0, none⟩), .int .i64 on.length, .int .i64 (i : Int)])
   (fun i _ W1 => St W0 (fnd p a c on.length (allF on on.length i) :: arr ISY T_s_int a c rows :: many ich rows :: L) W1) () rfl h ?_
  clear h
  rintro K i _ W1 hi h hK
  simp -implicitDefEqProofs only [SE, SU, SV]
  delta S.order_groups.l1 oK oA rD lD eF eU sT cL vC gD gX gP gA gR gL gE gU gC gV hL sB nI
  have hT := (all_tj hO i hi).1
  by_cases hlt : (i : Int) < (on.length : Int)
  ·have hib : i < on.length := by omega
   have ew : IntKind.i64.wrap ((i : Int) + 1) = ((i + 1 : Nat) : Int) := by rw [i64w]; omega
   have hv : Vx on.length (i : Int) := ⟨by omega, by omega⟩
   have hsu := allF_succ (on := on) (n := on.length) i
   generalize allF on on.length i = s at *
   obtain ⟨an, cn, al, cl, st, ct, ao, co, ag, cg, h⟩ := fnd_at h
   obtain ⟨gn, on', e1⟩ := posAddr (i := i) (a := an) (A := I64) (l := s.num) h (by rw [hT.ln]; exact hib)
   subst e1
   (repeat simp -implicitDefEqProofs only [SE, SU, SV, hlt])
   refine joinK_i ?_
   (repeat (first | ((with_reducible refine v5 ?_); refine ⟨_, rfl, ?_⟩) | simp -implicitDefEqProofs only [SE, SU, SV, ix1 hv]))
   refine ldG (i := (i : Int).toNat) (l := s.num) (by rw [hT.ln]; omega) (by assumption) ?_
   by_cases hz : s.nm (i : Int) = 0
   ·have ez : decide (s.num.getD (i : Int).toNat 0 = 0) = true := decide_eq_true hz
    rw [if_pos hz] at hsu
    (repeat simp -implicitDefEqProofs only [SE, SU, SV, ez])
    refine ordVisit h00 hO hn hrows hrl on.length i s [] _ _ hT hv hz (by simp) (by have := hT.cnt; have := hT.nn i; omega) (fnd_of (oa := a) (oc := c) (p := p) (L := arr ISY T_s_int a c rows :: many ich rows :: L) (some ⟨gn, on', none⟩) al st ao ag cn cl ct co cg (St.wk (by assumption))) fun W9 h => ?_
    delta S.order_groups.j3 oK oA rD lD eF eU sT cL vC gD gX gP gA gR gL gE gU gC gV hL sB nI
    (repeat simp -implicitDefEqProofs only [SE, SU, SV, ew])
    exact hK () _ hib (by rw [hsu]; exact h)
   ·have ez : decide (s.num.getD (i : Int).toNat 0 = 0) = false := decide_eq_false hz
    rw [if_neg hz] at hsu
    (repeat simp -implicitDefEqProofs only [SE, SU, SV, ez])
    delta S.order_groups.j3 oK oA rD lD eF eU sT cL vC gD gX gP gA gR gL gE gU gC gV hL sB nI
    (repeat simp -implicitDefEqProofs only [SE, SU, SV, ew])
    exact hK () _ hib (by rw [hsu]; exact fnd_of (some ⟨gn, on', none⟩) al st ao ag cn cl ct co cg (St.wk (by assumption)))
  ·have hil : i = on.length := by omega
   subst hil
   obtain ⟨an, cn, al, cl, st, ct, ao, co, ag, cg, h⟩ := fnd_at h
   (repeat simp -implicitDefEqProofs only [SE, SU, SV, hlt])
   delta S.order_groups.j2 oK oA rD lD eF eU sT cL vC gD gX gP gA gR gL gE gU gC gV hL sB nI
   (repeat (first | ((with_reducible refine v5 ?_); refine ⟨_, rfl, ?_⟩) | simp -implicitDefEqProofs only [SE, SU, SV]))
   refine hk ag cg W1 ?_
   have h9 : St W0 (arr ISY T_s_int a c rows :: many ich rows :: LI ag cg (groupsF on) :: L) W1 := by unfold groupsF; exact St.wk (by assumption)
   exact St.wk (h9.ent (li_ent hrows))
 (repeat simp -implicitDefEqProofs only [SE, SU, SV])
 refine joinK_i ?_
 (repeat simp -implicitDefEqProofs only [SE, SU, SV])
 have hl : on.length ≤ 1000000 := by omega
 have h : St W0 (LI none 0 [] :: arr I64 T_int none 0 [] :: arr ISY T_s_int a c rows :: many ich rows :: L) W := (h.ent (arr_nil I64 T_int)).ent li_none
 refine ⟨?_, ?_, ?_⟩
 ·refine mkZ (by exact St.tick (by assumption)) hl fun an cn Wn h => ⟨?_, ?_⟩
  ·refine mkZ (by assumption) hl fun al cl Wl h => ?_
   skip
   refine mkB (by assumption) hl fun ao co Wo h => ?_
   (repeat (first | ((with_reducible refine w3 ?_); intros) | (refine okF_i (bldP_eq rfl) ?_; try simp only [BLS, SB, Nat.reduceAdd])))
   rename_i p W6 h
   (try simp only [BLS, SB, stL_a, stL_b, stL_c, lsub_a, lsub_b, lsub_c, List.append_nil, List.take_nil, List.drop_nil, Nat.reduceAdd] at h)
   exact key p _ (fnd_of (p := p) an al none ao none cn cl 0 co 0 (St.wk h))
  ·refine mkB (by assumption) hl fun ao co Wo h => ?_
   skip
   refine mkZ (by assumption) hl fun al cl Wl h => ?_
   (repeat (first | ((with_reducible refine w3 ?_); intros) | (refine okF_i (bldP_eq rfl) ?_; try simp only [BLS, SB, Nat.reduceAdd])))
   rename_i p W6 h
   (try simp only [BLS, SB, stL_a, stL_b, stL_c, lsub_a, lsub_b, lsub_c, List.append_nil, List.take_nil, List.drop_nil, Nat.reduceAdd] at h)
   exact key p _ (fnd_of (p := p) an al none ao none cn cl 0 co 0 (St.wk h))
 ·refine mkZ (by exact St.tick (by assumption)) hl fun al cl Wl h => ⟨?_, ?_⟩
  ·refine mkZ (by assumption) hl fun an cn Wn h => ?_
   skip
   refine mkB (by assumption) hl fun ao co Wo h => ?_
   (repeat (first | ((with_reducible refine w3 ?_); intros) | (refine okF_i (bldP_eq rfl) ?_; try simp only [BLS, SB, Nat.reduceAdd])))
   rename_i p W6 h
   (try simp only [BLS, SB, stL_a, stL_b, stL_c, lsub_a, lsub_b, lsub_c, List.append_nil, List.take_nil, List.drop_nil, Nat.reduceAdd] at h)
   exact key p _ (fnd_of (p := p) an al none ao none cn cl 0 co 0 (St.wk h))
  ·refine mkB (by assumption) hl fun ao co Wo h => ?_
   skip
   refine mkZ (by assumption) hl fun an cn Wn h => ?_
   (repeat (first | ((with_reducible refine w3 ?_); intros) | (refine okF_i (bldP_eq rfl) ?_; try simp only [BLS, SB, Nat.reduceAdd])))
   rename_i p W6 h
   (try simp only [BLS, SB, stL_a, stL_b, stL_c, lsub_a, lsub_b, lsub_c, List.append_nil, List.take_nil, List.drop_nil, Nat.reduceAdd] at h)
   exact key p _ (fnd_of (p := p) an al none ao none cn cl 0 co 0 (St.wk h))
 ·refine mkB (by exact St.tick (by assumption)) hl fun ao co Wo h => ⟨?_, ?_⟩
  ·refine mkZ (by assumption) hl fun an cn Wn h => ?_
   skip
   refine mkZ (by assumption) hl fun al cl Wl h => ?_
   (repeat (first | ((with_reducible refine w3 ?_); intros) | (refine okF_i (bldP_eq rfl) ?_; try simp only [BLS, SB, Nat.reduceAdd])))
   rename_i p W6 h
   (try simp only [BLS, SB, stL_a, stL_b, stL_c, lsub_a, lsub_b, lsub_c, List.append_nil, List.take_nil, List.drop_nil, Nat.reduceAdd] at h)
   exact key p _ (fnd_of (p := p) an al none ao none cn cl 0 co 0 (St.wk h))
  ·refine mkZ (by assumption) hl fun al cl Wl h => ?_
   skip
   refine mkZ (by assumption) hl fun an cn Wn h => ?_
   (repeat (first | ((with_reducible refine w3 ?_); intros) | (refine okF_i (bldP_eq rfl) ?_; try simp only [BLS, SB, Nat.reduceAdd])))
   rename_i p W6 h
   (try simp only [BLS, SB, stL_a, stL_b, stL_c, lsub_a, lsub_b, lsub_c, List.append_nil, List.take_nil, List.drop_nil, Nat.reduceAdd] at h)
   exact key p _ (fnd_of (p := p) an al none ao none cn cl 0 co 0 (St.wk h))
end
end Go.Proofs.YtfhacbhgmnhmlaaGreat
namespace Go.Tar
set_option linter.unusedVariables false
set_option linter.unusedSimpArgs false
def hdZ (l : List Int) : Int := l.headD 0
def sortHd (gs : List (List Int)) : List (List Int) := isort (fun x y => decide (hdZ x ≤ hdZ y)) gs
def ofStep (all : List (List Int)) (o : List Int) (g : Nat) : List Int := (all.getD g []).foldl (fun o v => o.set v.toNat (g : Int)) o
def ofF (all : List (List Int)) (n : Nat) (i : Nat) : List Int := (List.range i).foldl (ofStep all) (List.replicate n 0)
structure TS where
 had : List Bool
 waits : List Int
 back : List (List Int)
def tieU (g : Nat) (k : Int) (s : TS) : TS :=
 if s.had.getD k.toNat false then s else ⟨s.had.set k.toNat true, s.waits.set g (s.waits.getD g 0 + 1), s.back.set k.toNat (s.back.getD k.toNat [] ++ [(g : Int)])⟩
def tieV (on : List (List Int)) (of : List Int) (g : Nat) (s : TS) (v : Int) : TS := (rowOf on v).foldl (fun s u => tieU g (of.getD u.toNat 0) s) s
def tieG (on : List (List Int)) (of : List Int) (all : List (List Int)) (s : List Int × List (List Int)) (g : Nat) : List Int × List (List Int) :=
 let t := (all.getD g []).foldl (tieV on of g) ⟨(List.replicate all.length false).set g true, s.1, s.2⟩
 (t.waits, t.back)
def tieF (on : List (List Int)) (of : List Int) (all : List (List Int)) (i : Nat) : List Int × List (List Int) :=
 (List.range i).foldl (tieG on of all) (List.replicate all.length 0, List.replicate all.length [])
def decF (w : List Int) (ks : List Int) : List Int := ks.foldl (fun w k => w.set k.toNat (w.getD k.toNat 0 - 1)) w
def lineS (all back : List (List Int)) (s : List Int × List Int) : List Int × List Int :=
 let g := s.1.idxOf 0
 (decF (s.1.set g (-1)) (back.getD g []), s.2 ++ all.getD g [])
def lineI (all back : List (List Int)) (w : List Int) : Nat → List Int × List Int
 | 0 => (w, [])
 | i + 1 => lineS all back (lineI all back w i)
def allOf (on : List (List Int)) : List (List Int) := sortHd (groupsF on)
def tieOf (on : List (List Int)) : List Int × List (List Int) := tieF on (ofF (allOf on) on.length (allOf on).length) (allOf on) (allOf on).length
def lineF (on : List (List Int)) : List Int := (lineI (allOf on) (tieOf on).2 (tieOf on).1 (allOf on).length).2
section
variable {on : List (List Int)} {n : Nat} {gs m m' : List (List Int)}
theorem sortHd_perm (gs : List (List Int)) : (sortHd gs).Perm gs := isort_perm gs
theorem sortHd_sorted (gs : List (List Int)) : (sortHd gs).Pairwise fun x y => hdZ x ≤ hdZ y :=
 (isort_sorted (fun a b c h1 h2 => by simp only [decide_eq_true_eq] at *; omega) (fun a b => by simp only [Bool.or_eq_true, decide_eq_true_eq]; omega) gs).imp fun {a b} h => by simpa using h
theorem hdZ_mem {l : List Int} (h : l ≠ []) : hdZ l ∈ l := by
 cases l with
 | nil => exact absurd rfl h
 | cons a l => simp [hdZ]
theorem hd_nodup : ∀ gs : List (List Int), (∀ g ∈ gs, g ≠ []) → gs.flatten.Nodup → (gs.map hdZ).Nodup
 | [], _, _ => by simp
 | g :: gs, h, hn => by
  rw [List.flatten_cons, List.nodup_append] at hn
  rw [List.map_cons, List.nodup_cons]
  refine ⟨fun hm => ?_, hd_nodup gs (fun x hx => h x (by simp [hx])) hn.2.1⟩
  obtain ⟨g', hg', e⟩ := List.mem_map.1 hm
  exact hn.2.2 _ (hdZ_mem (h g (by simp))) _ (List.mem_flatten.2 ⟨g', hg', hdZ_mem (h g' (by simp [hg']))⟩) e.symm
theorem map_inj {α β : Type} {f : α → β} {l : List α} (hn : (l.map f).Nodup) {a b : α} (ha : a ∈ l) (hb : b ∈ l) (h : f a = f b) : a = b := by
 obtain ⟨i, hi, rfl⟩ := List.getElem_of_mem ha
 obtain ⟨j, hj, rfl⟩ := List.getElem_of_mem hb
 have h3 := List.getElem_inj (h₀ := by simpa using hi) (h₁ := by simpa using hj) (i := i) (j := j) hn
 have := h3.1 (by simpa using h)
 subst this; rfl
theorem sortHd_one (hn : (gs.map hdZ).Nodup) (h1 : m.Perm gs) (s1 : m.Pairwise fun x y => hdZ x ≤ hdZ y) : m = sortHd gs :=
 List.Perm.eq_of_pairwise (le := fun x y => hdZ x ≤ hdZ y) (fun a b ha hb g1 g2 => map_inj hn (h1.mem_iff.1 ha) ((sortHd_perm gs).mem_iff.1 hb) (by omega)) s1 (sortHd_sorted gs) (h1.trans (sortHd_perm gs).symm)
end
end Go.Tar
namespace Go.Proofs.YtfhacbhgmnhmlaaGreat
set_option linter.unusedVariables false
set_option linter.unusedSimpArgs false
open Go Go.Eng Go.Tar Go.Sort
section
variable {W0 W : World} {L L' : List Asn} {a : Option Addr} {c : Nat} {gs : List (List Int)}
theorem cmpI_lt (a b : Int) : cmpI a b < 0 ↔ a < b := by unfold cmpI; split <;> try split
                                                         all_goals omega
theorem ordTie1 {x y : ISl} {rows : List ISl} (hx : x ∈ rows) (hy : y ∈ rows) (hx0 : x.l ≠ []) (hy0 : y.l ≠ []) (h : St W0 (many ich rows :: L) W) :
    callK PR F_order_tie_1 [x.v, y.v] (fun v W' => v = .int .i64 (cmpI (hdZ x.l) (hdZ y.l)) ∧ St W [] W') W := by
  haveI hrx : Rd W [] x.a I64 x.l := Rd.base ((ich_rd (W0 := W0) (L := L) hx).ok W h)
  haveI hry : Rd W [] y.a I64 y.l := Rd.base ((ich_rd (W0 := W0) (L := L) hy).ok W h)
  have h1 : 0 < x.l.length := List.length_pos_iff.2 hx0
  have h2 : 0 < y.l.length := List.length_pos_iff.2 hy0
  have h := St.start W
  obtain ⟨xa, xc, xl⟩ := x
  obtain ⟨ya, yc, yl⟩ := y
  simp only at hrx hry h1 h2
  obtain ⟨g1, o1, e1⟩ := posAddr (i := 0) (a := xa) (A := I64) (l := xl) h h1
  obtain ⟨g2, o2, e2⟩ := posAddr (i := 0) (a := ya) (A := I64) (l := yl) h h2
  subst e1 e2
  have v1 : Vx xl.length 0 := ⟨by omega, by omega⟩
  have v2 : Vx yl.length 0 := ⟨by omega, by omega⟩
  apply S.order_tie_1.call
  delta S.order_tie_1.body oK oA rD lD eF eU sT cL vC gD gX gP gA gR gL gE gU gC gV hL sB nI
  (repeat simp -implicitDefEqProofs only [SE, SU, SV, ix1 v1])
  refine ldG (i := (0 : Int).toNat) (l := xl) h1 (by exact St.tick (by assumption)) ?_
  (repeat simp -implicitDefEqProofs only [SE, SU, SV, ix1 v2])
  refine ldG (i := (0 : Int).toNat) (l := yl) h2 (by exact St.tick (by assumption)) ?_
  (repeat ((with_reducible refine w1 ?_); intros))
  refine ⟨?_, (by assumption)⟩
  cases xl with
  | nil => simp at h1
  | cons b xl => cases yl with
    | nil => simp at h2
    | cons d yl => rfl
theorem swoHd {α : Type} (f : α → Int) : SWO (Proofs.ltOf fun x y => cmpI (f x) (f y)) where
  irrefl x := by unfold Proofs.ltOf; rw [decide_eq_false_iff_not, cmpI_lt]; omega
  trans x y z h1 h2 := by unfold Proofs.ltOf at *; rw [decide_eq_true_eq, cmpI_lt] at *; omega
  ntrans x y z h1 h2 := by unfold Proofs.ltOf at *; rw [decide_eq_false_iff_not, cmpI_lt] at *; omega
theorem ordSortHd {k : Value → World → Prop} (h : St W0 (LI a c gs :: L) W) (hne : ∀ g ∈ gs, g ≠ []) (hn : gs.flatten.Nodup) (hl : gs.length < 1000000)
    (hk : ∀ W', St W0 (LI a c (sortHd gs) :: L) W' → k (.tuple #[]) W') : callK PR F_slices_SortFunc_int_int [.slice a gs.length c, .func (.func F_order_tie_1) #[] #[]] k W := by
  obtain ⟨rows, hrows, h⟩ := li_at h
  have hrl : rows.length = gs.length := by rw [← hrows, List.length_map]
  have hnd := hd_nodup gs hne hn
  have hnr : (rows.map fun r => hdZ r.l).Nodup := by rw [← hrows, List.map_map] at hnd; exact hnd
  have hne' : ∀ r ∈ rows, r.l ≠ [] := fun r hr => hne r.l (by rw [← hrows]; exact List.mem_map_of_mem hr)
  rw [← hrl]
  refine sortIx1 (P := PR) (ρ := laySortGrp_ren) laySortGrp (A := ISY) (enc := ISl.v) (fun _ => rfl) (fun x y => cmpI (hdZ x.l) (hdZ y.l)) (l := rows) (swoHd fun i : Fin rows.length => hdZ (atF rows i).l) (fun i j h1 h2 => ?_) F_order_tie_1 []
    (fun args w => callFunc_ok (CBok _ (by kernel_rfl)) w) h (fun x hx y hy W' h' => ordTie1 hx hy (hne' x hx) (hne' y hy) h') (by omega) fun m W' hp hs h' => ?_
  · unfold Proofs.ltOf at h1 h2
    rw [decide_eq_false_iff_not, cmpI_lt] at h1 h2
    have h3 := List.getElem_inj (h₀ := by simp) (h₁ := by simp) (i := i.val) (j := j.val) hnr
    refine Fin.ext (h3.1 ?_)
    simp only [List.getElem_map]
    have : hdZ rows[i].l = hdZ rows[j].l := by unfold atF at h1 h2; omega
    exact this
  · refine hk W' ?_
    have hm : m.map (·.l) = sortHd gs := sortHd_one hnd (by rw [← hrows]; exact hp.map _) (List.pairwise_map.2 (hs.imp fun {x y} h => by rw [cmpI_lt] at h; omega))
    exact (h'.ent (ent.cons _ (many_perm (F := ich) hp.symm))).ent (li_ent hm)
end
end Go.Proofs.YtfhacbhgmnhmlaaGreat
namespace Go.Tar
set_option linter.unusedVariables false
set_option linter.unusedSimpArgs false
section
variable {on : List (List Int)} {n m g : Nat} {w0 : List Int} {b0 : List (List Int)} {s : TS}
theorem getD_set {α : Type} {l : List α} {i j : Nat} {a d : α} (h : i < l.length) : (l.set i a).getD j d = if j = i then a else l.getD j d := by
 simp only [List.getD_eq_getElem?_getD]
 by_cases e : j = i
 ·subst e; rw [if_pos rfl, List.getElem?_set_self h]; rfl
 ·rw [if_neg e, List.getElem?_set_ne (fun h => e h.symm)]
theorem getD_ge {α : Type} {l : List α} {i : Nat} {d : α} (h : l.length ≤ i) : l.getD i d = d := by
 rw [List.getD_eq_getElem?_getD, List.getElem?_eq_none h]; rfl
def cntR (m : Nat) (p : Nat → Bool) : Int := ((List.range m).countP p : Int)
theorem cntR_succ (m : Nat) (p : Nat → Bool) : cntR (m + 1) p = cntR m p + if p m then 1 else 0 := by
 unfold cntR
 rw [List.range_succ, List.countP_append, List.countP_singleton]
 split <;> simp
theorem cntR_congr {m : Nat} {p q : Nat → Bool} (h : ∀ j, j < m → p j = q j) : cntR m p = cntR m q := by
 induction m with
 | zero => rfl
 | succ m ih => rw [cntR_succ, cntR_succ, ih fun j hj => h j (by omega), h m (by omega)]
theorem cntR_one {m k : Nat} {p q : Nat → Bool} (hk : k < m) (h1 : p k = false) (h2 : q k = true) (h3 : ∀ j, j < m → j ≠ k → q j = p j) : cntR m q = cntR m p + 1 := by
 induction m with
 | zero => omega
 | succ m ih =>
  rw [cntR_succ, cntR_succ]
  by_cases e : k = m
  ·subst e
   rw [h1, h2, cntR_congr (p := q) (q := p) fun j hj => h3 j (by omega) (by omega)]
   simp
  ·rw [ih (by omega) fun j hj => h3 j (by omega), h3 m (by omega) (fun h => e h.symm)]
   omega
theorem cntR_none {m : Nat} {p : Nat → Bool} (h : ∀ j, j < m → p j = false) : cntR m p = 0 := by
 induction m with
 | zero => rfl
 | succ m ih => rw [cntR_succ, ih fun j hj => h j (by omega), h m (by omega)]; rfl
theorem cntR_nonneg (m : Nat) (p : Nat → Bool) : 0 ≤ cntR m p ∧ cntR m p ≤ m := by
 induction m with
 | zero => simp [cntR]
 | succ m ih => rw [cntR_succ]; split <;> omega
theorem cntR_zero {m : Nat} {p : Nat → Bool} (h : cntR m p = 0) : ∀ j, j < m → p j = false := by
 induction m with
 | zero => intro j hj; omega
 | succ m ih =>
  rw [cntR_succ] at h
  have h0 := (cntR_nonneg m p).1
  intro j hj
  by_cases hp : p m = true
  ·rw [if_pos hp] at h; omega
  ·rw [if_neg hp] at h
   by_cases e : j = m
   ·subst e; simpa using hp
   ·exact ih (by omega) j (by omega)
structure TI (m g : Nat) (w0 : List Int) (b0 : List (List Int)) (s : TS) : Prop where
 lh : s.had.length = m
 lw : s.waits.length = m
 lb : s.back.length = m
 hg : s.had.getD g false = true
 ws : ∀ j, s.waits.getD j 0 = if j = g then w0.getD g 0 + cntR m (fun k => decide (k ≠ g) && s.had.getD k false) else w0.getD j 0
 bs : ∀ k, s.back.getD k [] = b0.getD k [] ++ (if k ≠ g ∧ s.had.getD k false = true then [(g : Int)] else [])
theorem tieU_ti {k : Int} (h : TI m g w0 b0 s) (hg : g < m) (hk : Vx m k) : TI m g w0 b0 (tieU g k s) ∧ ∀ j, (tieU g k s).had.getD j false = (s.had.getD j false || decide ((j : Int) = k)) := by
 have hk' : k.toNat < m := by unfold Vx at hk; omega
 have ek : ((k.toNat : Nat) : Int) = k := by unfold Vx at hk; omega
 have dk : ∀ j : Nat, decide ((j : Int) = k) = decide (j = k.toNat) := fun j => by rw [decide_eq_decide]; omega
 unfold tieU
 by_cases hh : s.had.getD k.toNat false = true
 ·rw [if_pos hh]
  refine ⟨h, fun j => ?_⟩
  rw [dk]
  by_cases e : j = k.toNat
  ·subst e; rw [hh]; rfl
  ·rw [decide_eq_false e, Bool.or_false]
 ·rw [if_neg hh]
  have hkg : k.toNat ≠ g := fun e => hh (e ▸ h.hg)
  have hset : ∀ j, (s.had.set k.toNat true).getD j false = if j = k.toNat then true else s.had.getD j false := fun j => getD_set (by rw [h.lh]; exact hk')
  have hno : s.had.getD k.toNat false = false := Bool.eq_false_iff.2 hh
  refine ⟨⟨by simp [h.lh], by simp [h.lw], by simp [h.lb], ?_, fun j => ?_, fun j => ?_⟩, fun j => ?_⟩
  ·show (s.had.set k.toNat true).getD g false = true
   rw [hset, if_neg (fun e => hkg e.symm)]; exact h.hg
  ·show (s.waits.set g (s.waits.getD g 0 + 1)).getD j 0 = _
   rw [getD_set (by rw [h.lw]; exact hg)]
   by_cases e : j = g
   ·rw [if_pos e, if_pos e, h.ws g, if_pos rfl]
    have := cntR_one (m := m) (k := k.toNat) (p := fun j => decide (j ≠ g) && s.had.getD j false) (q := fun j => decide (j ≠ g) && (s.had.set k.toNat true).getD j false) hk' (by simp only [hno, Bool.and_false])
     (by simp only [hset, if_true, Bool.and_true]; exact decide_eq_true hkg) (fun j _ hne => by simp only [hset, if_neg hne])
    show _ = w0.getD g 0 + cntR m fun j => decide (j ≠ g) && (s.had.set k.toNat true).getD j false
    rw [this]; omega
   ·rw [if_neg e, if_neg e, h.ws j, if_neg e]
  ·show (s.back.set k.toNat (s.back.getD k.toNat [] ++ [(g : Int)])).getD j [] = b0.getD j [] ++ if j ≠ g ∧ (s.had.set k.toNat true).getD j false = true then [(g : Int)] else []
   rw [getD_set (by rw [h.lb]; exact hk'), hset]
   by_cases e : j = k.toNat
   ·subst e
    rw [if_pos rfl, if_pos rfl, h.bs, if_neg (by simp only [hno]; simp), if_pos ⟨hkg, rfl⟩, List.append_nil]
   ·rw [if_neg e, if_neg e, h.bs]
  ·show (s.had.set k.toNat true).getD j false = _
   rw [hset, dk]
   by_cases e : j = k.toNat
   ·simp [e]
   ·rw [if_neg e, decide_eq_false e, Bool.or_false]
def hit (on : List (List Int)) (of : List Int) (v : Int) (k : Nat) : Bool := (rowOf on v).any fun u => decide ((k : Int) = of.getD u.toNat 0)
def hng (on : List (List Int)) (of : List Int) (all : List (List Int)) (g k : Nat) : Bool := (all.getD g []).any fun v => hit on of v k
variable {of : List Int} {all : List (List Int)}
theorem tieUs_ti (hg : g < m) : ∀ (us : List Int) (s : TS), TI m g w0 b0 s → (∀ u ∈ us, Vx m (of.getD u.toNat 0)) →
  TI m g w0 b0 (us.foldl (fun s u => tieU g (of.getD u.toNat 0) s) s) ∧ ∀ j, (us.foldl (fun s u => tieU g (of.getD u.toNat 0) s) s).had.getD j false = (s.had.getD j false || us.any fun u => decide ((j : Int) = of.getD u.toNat 0))
 | [], s, h, _ => ⟨h, fun j => by simp⟩
 | u :: us, s, h, hu => by
  obtain ⟨h1, h2⟩ := tieU_ti h hg (hu u (by simp))
  obtain ⟨h3, h4⟩ := tieUs_ti hg us _ h1 fun x hx => hu x (by simp [hx])
  refine ⟨h3, fun j => ?_⟩
  rw [List.foldl_cons, h4, h2, List.any_cons, Bool.or_assoc]
theorem tieVs_ti (hg : g < m) : ∀ (vs : List Int) (s : TS), TI m g w0 b0 s → (∀ v ∈ vs, ∀ u ∈ rowOf on v, Vx m (of.getD u.toNat 0)) →
  TI m g w0 b0 (vs.foldl (tieV on of g) s) ∧ ∀ j, (vs.foldl (tieV on of g) s).had.getD j false = (s.had.getD j false || vs.any fun v => hit on of v j)
 | [], s, h, _ => ⟨h, fun j => by simp⟩
 | v :: vs, s, h, hv => by
  obtain ⟨h1, h2⟩ := tieUs_ti hg (rowOf on v) s h (hv v (by simp))
  obtain ⟨h3, h4⟩ := tieVs_ti hg vs (tieV on of g s v) h1 fun x hx => hv x (by simp [hx])
  refine ⟨h3, fun j => ?_⟩
  rw [List.foldl_cons, h4, List.any_cons, ← Bool.or_assoc]
  congr 1
  exact h2 j
theorem start_ti (hg : g < m) (hw : w0.length = m) (hb : b0.length = m) : TI m g w0 b0 ⟨(List.replicate m false).set g true, w0, b0⟩ ∧ ∀ j, ((List.replicate m false).set g true).getD j false = decide (j = g) := by
 have hset : ∀ j, ((List.replicate m false).set g true).getD j false = decide (j = g) := fun j => by
  rw [getD_set (by simpa using hg), repAt]
  by_cases e : j = g <;> simp [e]
 refine ⟨⟨by simp, hw, hb, (hset g).trans (by simp), fun j => ?_, fun k => ?_⟩, hset⟩
 ·show w0.getD j 0 = if j = g then w0.getD g 0 + cntR m (fun k => decide (k ≠ g) && ((List.replicate m false).set g true).getD k false) else w0.getD j 0
  rw [cntR_none fun k _ => by rw [hset]; by_cases e : k = g <;> simp [e]]
  split
  ·rename_i e; rw [e]; omega
  ·rfl
 ·show b0.getD k [] = b0.getD k [] ++ if k ≠ g ∧ ((List.replicate m false).set g true).getD k false = true then [(g : Int)] else []
  rw [if_neg (by rw [hset]; simp), List.append_nil]
structure TW (on : List (List Int)) (of : List Int) (all : List (List Int)) (i : Nat) (w : List Int) (b : List (List Int)) : Prop where
 lw : w.length = all.length
 lb : b.length = all.length
 ws : ∀ j, w.getD j 0 = if j < i then cntR all.length (fun k => decide (k ≠ j) && hng on of all j k) else 0
 bs : ∀ k, k < all.length → b.getD k [] = ((List.range i).filter fun j => decide (k ≠ j) && hng on of all j k).map fun j : Nat => (j : Int)
theorem tieG_tw {w : List Int} {b : List (List Int)} (h : TW on of all g w b) (hg : g < all.length) (ho : ∀ v ∈ all.getD g [], ∀ u ∈ rowOf on v, Vx all.length (of.getD u.toNat 0)) :
  TW on of all (g + 1) (tieG on of all (w, b) g).1 (tieG on of all (w, b) g).2 := by
 obtain ⟨h1, h2⟩ := start_ti hg h.lw h.lb
 obtain ⟨h3, h4⟩ := tieVs_ti (on := on) (of := of) hg (all.getD g []) _ h1 ho
 have had : ∀ j, ((all.getD g []).foldl (tieV on of g) ⟨(List.replicate all.length false).set g true, w, b⟩).had.getD j false = (decide (j = g) || hng on of all g j) := fun j => by rw [h4]; congr 1; exact h2 j
 refine ⟨h3.lw, h3.lb, fun j => ?_, fun k hk => ?_⟩
 ·refine (h3.ws j).trans ?_
  by_cases e : j = g
  ·subst e
   rw [if_pos rfl, if_pos (by omega), h.ws, if_neg (by omega)]
   rw [cntR_congr (q := fun k => decide (k ≠ j) && hng on of all j k) fun k _ => by rw [had]; by_cases e : k = j <;> simp [e]]
   omega
  ·rw [if_neg e, h.ws]
   by_cases h5 : j < g
   ·rw [if_pos h5, if_pos (by omega)]
   ·rw [if_neg h5, if_neg (by omega)]
 ·refine (h3.bs k).trans ?_
  rw [h.bs k hk, had, List.range_succ, List.filter_append, List.map_append]
  congr 1
  by_cases e : k = g
  ·subst e; simp
  ·by_cases h5 : hng on of all g k = true <;> simp [e, h5]
theorem tieF_tw (ho : ∀ g, g < all.length → ∀ v ∈ all.getD g [], ∀ u ∈ rowOf on v, Vx all.length (of.getD u.toNat 0)) : ∀ i, i ≤ all.length → TW on of all i (tieF on of all i).1 (tieF on of all i).2
 | 0, _ => ⟨by simp [tieF], by simp [tieF], fun j => by simp only [tieF, List.range_zero, List.foldl_nil, repAt]; simp, fun k _ => by simp only [tieF, List.range_zero, List.foldl_nil, repAt]; rfl⟩
 | i + 1, hi => by
  have ih := tieF_tw ho i (by omega)
  have : tieF on of all (i + 1) = tieG on of all (tieF on of all i) i := by unfold tieF; rw [List.range_succ, List.foldl_append]; rfl
  rw [this]
  exact tieG_tw ih (by omega) (ho i (by omega))
end
end Go.Tar
namespace Go.Tar
set_option linter.unusedVariables false
set_option linter.unusedSimpArgs false
section
variable {on : List (List Int)} {n m g : Nat} {all back gs : List (List Int)} {w : List Int}
theorem setAll : ∀ (vs o : List Int) (g : Int), o.length = n → (∀ v ∈ vs, Vx n v) → (vs.foldl (fun o v => o.set v.toNat g) o).length = n ∧
  ∀ u, Vx n u → (vs.foldl (fun o v => o.set v.toNat g) o).getD u.toNat 0 = if u ∈ vs then g else o.getD u.toNat 0
 | [], o, g, ho, _ => ⟨ho, fun u _ => by simp⟩
 | v :: vs, o, g, ho, hv => by
  obtain ⟨h1, h2⟩ := setAll vs (o.set v.toNat g) g (by simpa using ho) fun x hx => hv x (by simp [hx])
  refine ⟨h1, fun u hu => ?_⟩
  rw [List.foldl_cons, h2 u hu, setAt ho (hv v (by simp)) hu]
  by_cases e1 : u ∈ vs
  ·simp [e1]
  ·by_cases e2 : u = v <;> simp [e1, e2]
structure Prt (n : Nat) (all : List (List Int)) : Prop where
 mem : ∀ v, v ∈ all.flatten ↔ Vx n v
 nd : all.flatten.Nodup
 gok : ∀ g ∈ all, g ≠ [] ∧ g.Pairwise (· ≤ ·)
theorem Grp.prt (h : Grp on n gs) : Prt n gs := ⟨h.all, h.nd, h.gok⟩
theorem Prt.perm (h : Prt n gs) (hp : all.Perm gs) : Prt n all :=
 ⟨fun v => (hp.flatten.mem_iff).trans (h.mem v), hp.flatten.nodup_iff.2 h.nd, fun g hg => h.gok g (hp.mem_iff.1 hg)⟩
theorem memAt {v : Int} (h : v ∈ all.getD g []) : g < all.length := by
 refine Classical.byContradiction fun hn => ?_
 rw [getD_ge (by omega)] at h; cases h
theorem memFlat {v : Int} (h : v ∈ all.getD g []) : v ∈ all.flatten := by
 have hg := memAt h
 rw [List.getD_eq_getElem?_getD, List.getElem?_eq_getElem hg] at h
 exact List.mem_flatten.2 ⟨_, List.getElem_mem hg, h⟩
theorem flatAt {v : Int} (h : v ∈ all.flatten) : ∃ g, g < all.length ∧ v ∈ all.getD g [] := by
 obtain ⟨l, hl, hv⟩ := List.mem_flatten.1 h
 obtain ⟨i, hi, rfl⟩ := List.getElem_of_mem hl
 exact ⟨i, hi, by rw [List.getD_eq_getElem?_getD, List.getElem?_eq_getElem hi]; exact hv⟩
theorem flat_uniq : ∀ (l : List (List Int)), l.flatten.Nodup → ∀ i j (v : Int), v ∈ l.getD i [] → v ∈ l.getD j [] → i = j
 | [], _, i, j, v, h, _ => by simp at h
 | x :: l, hn, 0, 0, v, _, _ => rfl
 | x :: l, hn, 0, j + 1, v, h1, h2 => by
  rw [List.flatten_cons, List.nodup_append] at hn
  exact absurd rfl (hn.2.2 v (by simpa using h1) v (memFlat (g := j) (by simpa using h2)))
 | x :: l, hn, i + 1, 0, v, h1, h2 => by
  rw [List.flatten_cons, List.nodup_append] at hn
  exact absurd rfl (hn.2.2 v (by simpa using h2) v (memFlat (g := i) (by simpa using h1)))
 | x :: l, hn, i + 1, j + 1, v, h1, h2 => by
  rw [List.flatten_cons, List.nodup_append] at hn
  rw [flat_uniq l hn.2.1 i j v (by simpa using h1) (by simpa using h2)]
theorem ofF_at (hp : Prt n all) : ∀ i, i ≤ all.length → (ofF all n i).length = n ∧ ∀ u, Vx n u → ∀ g, u ∈ all.getD g [] → (ofF all n i).getD u.toNat 0 = if g < i then (g : Int) else 0
 | 0, _ => ⟨by simp [ofF], fun u _ g _ => by simp only [ofF, List.range_zero, List.foldl_nil, repAt]; simp⟩
 | i + 1, hi => by
  obtain ⟨h1, h2⟩ := ofF_at hp i (by omega)
  have e : ofF all n (i + 1) = ofStep all (ofF all n i) i := by unfold ofF; rw [List.range_succ, List.foldl_append]; rfl
  obtain ⟨h3, h4⟩ := setAll (all.getD i []) (ofF all n i) (i : Int) h1 fun v hv => (hp.mem v).1 (memFlat hv)
  rw [e]
  refine ⟨h3, fun u hu g hg => ?_⟩
  refine (h4 u hu).trans ?_
  by_cases e1 : u ∈ all.getD i []
  ·have := flat_uniq all hp.nd g i u hg e1
   rw [if_pos e1, this, if_pos (by omega)]
  ·rw [if_neg e1, h2 u hu g hg]
   have : g ≠ i := fun e => e1 (e ▸ hg)
   by_cases h5 : g < i
   ·rw [if_pos h5, if_pos (by omega)]
   ·rw [if_neg h5, if_neg (by omega)]
theorem of_at (hp : Prt n all) {u : Int} (h : u ∈ all.getD g []) : (ofF all n all.length).getD u.toNat 0 = g := by
 rw [(ofF_at hp all.length (Nat.le_refl _)).2 u ((hp.mem u).1 (memFlat h)) g h, if_pos (memAt h)]
theorem of_vx (hp : Prt n all) {u : Int} (hu : Vx n u) : Vx all.length ((ofF all n all.length).getD u.toNat 0) := by
 obtain ⟨g, hg, h⟩ := flatAt ((hp.mem u).2 hu)
 rw [of_at hp h]; unfold Vx; omega
def Edg (on all : List (List Int)) (g k : Nat) : Prop := ∃ v ∈ all.getD g [], ∃ u ∈ rowOf on v, u ∈ all.getD k []
theorem hng_iff (hp : Prt n all) (hO : OnOk on n) {g k : Nat} : hng on (ofF all n all.length) all g k = true ↔ Edg on all g k := by
 unfold hng hit Edg
 simp only [List.any_eq_true, decide_eq_true_eq]
 constructor
 ·rintro ⟨v, hv, u, hu, e⟩
  obtain ⟨k', _, h⟩ := flatAt ((hp.mem u).2 (hO.rng v u hu))
  rw [of_at hp h] at e
  have : k = k' := by omega
  exact ⟨v, hv, u, hu, this ▸ h⟩
 ·rintro ⟨v, hv, u, hu, h⟩
  exact ⟨v, hv, u, hu, (of_at hp h).symm⟩
def freeG (h : Nat → Nat → Bool) (m : Nat) (T : List Nat) (g : Nat) : Bool := !decide (g ∈ T) && (List.range m).all fun k => decide (k = g) || !h g k || decide (k ∈ T)
def nextG (h : Nat → Nat → Bool) (m : Nat) (T : List Nat) : Nat := ((List.range m).find? (freeG h m T)).getD 0
def toldG (h : Nat → Nat → Bool) (m : Nat) : Nat → List Nat
 | 0 => []
 | i + 1 => toldG h m i ++ [nextG h m (toldG h m i)]
def waitT (h : Nat → Nat → Bool) (m : Nat) (T : List Nat) (g : Nat) : Int := if g ∈ T then -1 else cntR m fun k => (decide (k ≠ g) && h g k) && !decide (k ∈ T)
def shutT (h : Nat → Nat → Bool) (m : Nat) (T : List Nat) : Prop := ∀ g ∈ T, g < m ∧ ∀ k, k < m → k ≠ g → h g k = true → k ∈ T
theorem freeG_iff {h : Nat → Nat → Bool} {T : List Nat} : freeG h m T g = true ↔ g ∉ T ∧ ∀ k, k < m → k ≠ g → h g k = true → k ∈ T := by
 unfold freeG
 simp only [Bool.and_eq_true, Bool.not_eq_true', decide_eq_false_iff_not, List.all_eq_true, List.mem_range, Bool.or_eq_true, decide_eq_true_eq]
 constructor
 ·rintro ⟨h1, h2⟩
  refine ⟨h1, fun k hk hne hh => ?_⟩
  rcases h2 k hk with (e | e) | e
  ·exact absurd e hne
  ·rw [hh] at e; cases e
  ·exact e
 ·rintro ⟨h1, h2⟩
  refine ⟨h1, fun k hk => ?_⟩
  by_cases e : k = g
  ·exact .inl (.inl e)
  ·by_cases hh : h g k = true
   ·exact .inr (h2 k hk e hh)
   ·exact .inl (.inr (Bool.eq_false_iff.2 hh))
theorem waitT_zero {h : Nat → Nat → Bool} {T : List Nat} : waitT h m T g = 0 ↔ freeG h m T g = true := by
 rw [freeG_iff]
 unfold waitT
 by_cases e : g ∈ T
 ·rw [if_pos e]; simp [e]
 ·rw [if_neg e]
  constructor
  ·intro h0
   refine ⟨e, fun k hk hne hh => ?_⟩
   have := cntR_zero h0 k hk
   simpa [hne, hh] using this
  ·rintro ⟨_, h2⟩
   refine cntR_none fun k hk => ?_
   by_cases hne : k = g
   ·simp [hne]
   ·by_cases hh : h g k = true
    ·simp [h2 k hk hne hh]
    ·simp [Bool.eq_false_iff.2 hh]
theorem free_ex {h : Nat → Nat → Bool} {T : List Nat} (r : Nat → Nat) (hr : ∀ g k, g < m → k < m → k ≠ g → h g k = true → r k < r g) (hT : ∃ g, g < m ∧ g ∉ T) : ∃ g, g < m ∧ freeG h m T g = true := by
 have key : ∀ q g, r g ≤ q → g < m → g ∉ T → ∃ g, g < m ∧ freeG h m T g = true := by
  intro q
  induction q with
  | zero =>
   intro g hq hg hn
   exact ⟨g, hg, freeG_iff.2 ⟨hn, fun k hk hne hh => by have := hr g k hg hk hne hh; omega⟩⟩
  | succ q ih =>
   intro g hq hg hn
   by_cases hf : freeG h m T g = true
   ·exact ⟨g, hg, hf⟩
   ·have : ∃ k, k < m ∧ k ≠ g ∧ h g k = true ∧ k ∉ T := by
     refine Classical.byContradiction fun hno => hf (freeG_iff.2 ⟨hn, fun k hk hne hh => ?_⟩)
     exact Classical.byContradiction fun hk2 => hno ⟨k, hk, hne, hh, hk2⟩
    obtain ⟨k, hk, hne, hh, hk2⟩ := this
    exact ih k (by have := hr g k hg hk hne hh; omega) hk hk2
 obtain ⟨g, hg, hn⟩ := hT
 exact key (r g) g (Nat.le_refl _) hg hn
structure Told (h : Nat → Nat → Bool) (m : Nat) (i : Nat) (T : List Nat) : Prop where
 len : T.length = i
 nd : T.Nodup
 shut : shutT h m T
theorem short_ex {T : List Nat} (hl : T.length < m) : ∃ g, g < m ∧ g ∉ T := by
 refine Classical.byContradiction fun hno => ?_
 have h1 : ∀ g, g < m → g ∈ T := fun g hg => Classical.byContradiction fun hn => hno ⟨g, hg, hn⟩
 have h2 : (List.range m).Subset T := fun x hx => h1 x (List.mem_range.1 hx)
 have := (List.nodup_range (n := m)).length_le_of_subset h2
 rw [List.length_range] at this; omega
theorem next_free {h : Nat → Nat → Bool} {T : List Nat} (he : ∃ g, g < m ∧ freeG h m T g = true) : nextG h m T < m ∧ freeG h m T (nextG h m T) = true ∧ ∀ k, k < nextG h m T → freeG h m T k = false := by
 unfold nextG
 cases hf : (List.range m).find? (freeG h m T) with
 | none =>
  obtain ⟨g, hg, h1⟩ := he
  have := List.find?_eq_none.1 hf g (List.mem_range.2 hg)
  exact absurd h1 this
 | some g =>
  have h1 := List.find?_some hf
  obtain ⟨h2, as1, bs1, h3, h4⟩ := List.find?_eq_some_iff_append.1 hf
  have hlen : as1.length = g := by
   have e : (List.range m)[as1.length]? = some g := by rw [h3]; simp
   rw [List.getElem?_eq_some_iff] at e
   obtain ⟨h5, h6⟩ := e
   simpa using h6
  have hgm : g < m := by have := congrArg List.length h3; simp at this; omega
  refine ⟨hgm, h1, fun k hk => ?_⟩
  have hk2 : k ∈ as1 := by
   have e : (List.range m)[k]? = some k := by rw [List.getElem?_eq_getElem (by simp; simp at hk; omega)]; simp
   rw [h3, List.getElem?_append_left (by simp at hk; omega)] at e
   exact List.mem_of_getElem? e
  simpa using h4 k hk2
theorem told_ok {h : Nat → Nat → Bool} (r : Nat → Nat) (hr : ∀ g k, g < m → k < m → k ≠ g → h g k = true → r k < r g) : ∀ i, i ≤ m → Told h m i (toldG h m i)
 | 0, _ => ⟨rfl, List.nodup_nil, fun g hg => by cases hg⟩
 | i + 1, hi => by
  have ih := told_ok r hr i (by omega)
  have hn := next_free (free_ex r hr (short_ex (T := toldG h m i) (by rw [ih.len]; omega)))
  obtain ⟨h1, h2⟩ := freeG_iff.1 hn.2.1
  refine ⟨by simp [toldG, ih.len], ?_, fun g hg => ?_⟩
  ·show (toldG h m i ++ [nextG h m (toldG h m i)]).Nodup
   rw [List.nodup_append]
   refine ⟨ih.nd, by simp, fun a ha b hb e => ?_⟩
   rw [List.mem_singleton] at hb
   subst hb; subst e; exact h1 ha
  ·rcases List.mem_append.1 hg with hg | hg
   ·obtain ⟨h3, h4⟩ := ih.shut g hg
    exact ⟨h3, fun k hk hne hh => List.mem_append.2 (.inl (h4 k hk hne hh))⟩
   ·rw [List.mem_singleton.1 hg]
    exact ⟨hn.1, fun k hk hne hh => List.mem_append.2 (.inl (h2 k hk hne hh))⟩
theorem idxOf_first {l : List Int} (hg : g < l.length) (h0 : l.getD g 0 = 0) (h1 : ∀ k, k < g → l.getD k 0 ≠ 0) : l.idxOf 0 = g := by
 have hm : (0 : Int) ∈ l := by
  have : l[g] = 0 := by rw [List.getD_eq_getElem?_getD, List.getElem?_eq_getElem hg] at h0; exact h0
  rw [← this]; exact List.getElem_mem hg
 have hlt := List.idxOf_lt_length_of_mem hm
 have he : l[l.idxOf 0] = 0 := List.getElem_idxOf hlt
 rcases Nat.lt_trichotomy (l.idxOf 0) g with h2 | h2 | h2
 ·exact absurd (by rw [List.getD_eq_getElem?_getD, List.getElem?_eq_getElem hlt]; exact he) (h1 _ h2)
 ·exact h2
 ·have := List.not_of_lt_findIdx (p := (· == (0 : Int))) (xs := l) (i := g) h2
  rw [List.getD_eq_getElem?_getD, List.getElem?_eq_getElem hg] at h0
  simp only [Option.getD_some] at h0
  simp [h0] at this
theorem dec_at : ∀ (ks : List Int) (w : List Int), ks.Nodup → (∀ k ∈ ks, Vx m k) → w.length = m → (decF w ks).length = m ∧ ∀ j, (decF w ks).getD j 0 = w.getD j 0 - if (j : Int) ∈ ks then 1 else 0
 | [], w, _, _, hw => ⟨hw, fun j => by simp [decF]⟩
 | k :: ks, w, hn, hk, hw => by
  rw [List.nodup_cons] at hn
  have hkx := hk k (by simp)
  obtain ⟨h1, h2⟩ := dec_at ks (w.set k.toNat (w.getD k.toNat 0 - 1)) hn.2 (fun x hx => hk x (by simp [hx])) (by simpa using hw)
  refine ⟨h1, fun j => ?_⟩
  refine (h2 j).trans ?_
  have hkn : k.toNat < w.length := by unfold Vx at hkx; omega
  rw [getD_set hkn]
  by_cases e : j = k.toNat
  ·have ej : (j : Int) = k := by unfold Vx at hkx; omega
   rw [if_pos e, ej, if_neg hn.1, if_pos (by simp), e]; omega
  ·have ej : (j : Int) ≠ k := by unfold Vx at hkx; omega
   rw [if_neg e]
   by_cases e2 : (j : Int) ∈ ks <;> simp [e2, ej]
theorem line_ok {h : Nat → Nat → Bool} (r : Nat → Nat) (hr : ∀ g k, g < all.length → k < all.length → k ≠ g → h g k = true → r k < r g) (hw : w.length = all.length) (hws : ∀ j, j < all.length → w.getD j 0 = cntR all.length fun k => decide (k ≠ j) && h j k)
  (hbs : ∀ k, k < all.length → back.getD k [] = ((List.range all.length).filter fun j => decide (k ≠ j) && h j k).map fun j : Nat => (j : Int)) :
  ∀ i, i ≤ all.length → (lineI all back w i).1.length = all.length ∧ (∀ j, j < all.length → (lineI all back w i).1.getD j 0 = waitT h all.length (toldG h all.length i) j) ∧ (lineI all back w i).2 = ((toldG h all.length i).map fun g => all.getD g []).flatten ∧
   (i < all.length → (lineI all back w i).1.idxOf 0 = nextG h all.length (toldG h all.length i))
 | 0, _ => by
  have hz : ∀ j, j < all.length → w.getD j 0 = waitT h all.length [] j := fun j hj => by rw [hws j hj]; unfold waitT; rw [if_neg (by simp)]; exact cntR_congr fun k _ => by simp
  refine ⟨hw, hz, rfl, fun h0 => ?_⟩
  have hn := next_free (free_ex r hr (short_ex (T := []) h0))
  exact idxOf_first (by show _ < w.length; rw [hw]; exact hn.1) ((hz _ hn.1).trans (waitT_zero.2 hn.2.1)) fun k hk e => by
   have e : w.getD k 0 = 0 := e
   rw [hz k (by have := hn.1; simp only [toldG] at hk; omega), waitT_zero] at e
   rw [hn.2.2 k hk] at e; cases e
 | i + 1, hi => by
  obtain ⟨h1, h2, h3, h4⟩ := line_ok r hr hw hws hbs i (by omega)
  have hT := told_ok r hr i (by omega)
  have hT1 := told_ok r hr (i + 1) hi
  have hn := next_free (free_ex r hr (short_ex (T := toldG h all.length i) (by rw [hT.len]; omega)))
  have h4 := h4 (by omega)
  have ht : toldG h all.length (i + 1) = toldG h all.length i ++ [nextG h all.length (toldG h all.length i)] := rfl
  obtain ⟨hf1, hf2⟩ := freeG_iff.1 hn.2.1
  generalize hg : nextG h all.length (toldG h all.length i) = g at *
  generalize toldG h all.length i = T at *
  have hgm := hn.1
  have hl : lineI all back w (i + 1) = (decF ((lineI all back w i).1.set g (-1)) (back.getD g []), (lineI all back w i).2 ++ all.getD g []) := by
   show lineS all back _ = _
   unfold lineS; rw [h4]
  rw [hl, ht]
  have hbk := hbs g hgm
  have hmb : ∀ j : Nat, (j : Int) ∈ back.getD g [] ↔ j < all.length ∧ g ≠ j ∧ h j g = true := fun j => by
   rw [hbk]
   simp only [List.mem_map, List.mem_filter, List.mem_range, Bool.and_eq_true, decide_eq_true_eq]
   constructor
   ·rintro ⟨x, hx, e⟩
    have : x = j := by omega
    exact this ▸ hx
   ·exact fun hx => ⟨j, hx, rfl⟩
  obtain ⟨d1, d2⟩ := dec_at (m := all.length) (back.getD g []) ((lineI all back w i).1.set g (-1)) (by
    rw [hbk, List.nodup_iff_pairwise_ne]
    exact List.pairwise_map.2 (((List.nodup_range).filter _).imp fun {a b} hab => by omega)) (fun k hk => by
    rw [hbk] at hk
    obtain ⟨x, hx, rfl⟩ := List.mem_map.1 hk
    have := List.mem_range.1 (List.mem_filter.1 hx).1
    unfold Vx; omega) (by simpa using h1)
  have hst : ∀ j, j < all.length → (decF ((lineI all back w i).1.set g (-1)) (back.getD g [])).getD j 0 = waitT h all.length (T ++ [g]) j := fun j hj => by
   rw [d2, getD_set (by rw [h1]; exact hgm)]
   unfold waitT
   by_cases e : j = g
   ·subst e
    rw [if_pos rfl, if_neg (by rw [hmb]; simp), if_pos (by simp)]; rfl
   ·rw [if_neg e, h2 j hj]
    unfold waitT
    by_cases e2 : j ∈ T
    ·have em : ¬ (j : Int) ∈ back.getD g [] := fun hm => hf1 ((hT.shut j e2).2 g hgm (fun e3 => e e3.symm) ((hmb j).1 hm).2.2)
     rw [if_pos e2, if_neg em, if_pos (List.mem_append.2 (.inl e2))]; rfl
    ·have et : ¬ j ∈ T ++ [g] := by simp [e2, e]
     rw [if_neg e2, if_neg et]
     by_cases hh : h j g = true
     ·rw [if_pos ((hmb j).2 ⟨hj, fun e3 => e e3.symm, hh⟩)]
      have := cntR_one (m := all.length) (k := g) (p := fun k => (decide (k ≠ j) && h j k) && !decide (k ∈ T ++ [g])) (q := fun k => (decide (k ≠ j) && h j k) && !decide (k ∈ T)) hgm (by simp) (by simp [hh, hf1, Ne.symm e])
       (fun k _ hne => by simp [hne])
      omega
     ·rw [if_neg (by rw [hmb]; simp [hh])]
      have := cntR_congr (m := all.length) (p := fun k => (decide (k ≠ j) && h j k) && !decide (k ∈ T)) (q := fun k => (decide (k ≠ j) && h j k) && !decide (k ∈ T ++ [g])) fun k _ => by
       by_cases e3 : k = g
       ·subst e3; simp [hh]
       ·simp [e3]
      omega
  refine ⟨d1, hst, by rw [h3]; simp, fun h0 => ?_⟩
  have hn2 := next_free (free_ex r hr (short_ex (T := T ++ [g]) (by have := hT1.len; rw [ht] at this; omega)))
  refine idxOf_first (by show _ < (decF _ _).length; rw [d1]; exact hn2.1) (by show (decF _ _).getD _ 0 = 0; rw [hst _ hn2.1]; exact waitT_zero.2 hn2.2.1) fun k hk e => ?_
  have e : (decF ((lineI all back w i).1.set g (-1)) (back.getD g [])).getD k 0 = 0 := e
  rw [hst k (by have := hn2.1; omega), waitT_zero] at e
  rw [hn2.2.2 k hk] at e; cases e
def hngOf (on : List (List Int)) : Nat → Nat → Bool := hng on (ofF (allOf on) on.length (allOf on).length) (allOf on)
def rankOf (on : List (List Int)) (g : Nat) : Nat := (groupsF on).idxOf ((allOf on).getD g [])
theorem allOf_prt (hO : OnOk on n) : Prt n (allOf on) := (groups_grp hO).prt.perm (sortHd_perm _)
theorem all_len (hO : OnOk on n) : (allOf on).length ≤ n := by
 have hp := allOf_prt hO
 exact Nat.le_trans (flat_len _ fun g hg => (hp.gok g hg).1) (nodup_len hp.nd fun x hx => (hp.mem x).1 hx)
theorem rank_lt (hO : OnOk on n) {g k : Nat} (hg : g < (allOf on).length) (hk : k < (allOf on).length) (hne : k ≠ g) (h : Edg on (allOf on) g k) : rankOf on k < rankOf on g := by
 have hG := groups_grp hO
 have hp := allOf_prt hO
 have hpm := sortHd_perm (groupsF on)
 have at_ : ∀ g, g < (allOf on).length → rankOf on g < (groupsF on).length ∧ (groupsF on).getD (rankOf on g) [] = (allOf on).getD g [] := fun g hg => by
  have hm : (allOf on).getD g [] ∈ groupsF on := by
   rw [List.getD_eq_getElem?_getD, List.getElem?_eq_getElem hg]
   exact hpm.mem_iff.1 (List.getElem_mem hg)
  have hlt := List.idxOf_lt_length_of_mem hm
  refine ⟨hlt, ?_⟩
  unfold rankOf
  rw [List.getD_eq_getElem?_getD, List.getElem?_eq_getElem hlt]
  exact List.getElem_idxOf hlt
 obtain ⟨v, hv, u, hu, huk⟩ := h
 obtain ⟨g1, g2⟩ := at_ g hg
 obtain ⟨k1, k2⟩ := at_ k hk
 have h1 := hG.cls (rankOf on g) v (by rw [g2]; exact hv) u hu
 obtain ⟨l, hl, hul⟩ := List.mem_flatten.1 h1
 obtain ⟨j, hj, rfl⟩ := List.getElem_of_mem hl
 have hj2 : j < (groupsF on).length ∧ j ≤ rankOf on g := by simp at hj; omega
 have e1 : u ∈ (groupsF on).getD j [] := by rw [List.getD_eq_getElem?_getD, List.getElem?_eq_getElem hj2.1]; simpa using hul
 have e2 : j = rankOf on k := flat_uniq _ hG.nd j (rankOf on k) u e1 (by rw [k2]; exact huk)
 have e3 : rankOf on k ≠ rankOf on g := fun e => by
  have h5 : (allOf on).getD k [] = (allOf on).getD g [] := by rw [← k2, ← g2, e]
  exact hne (flat_uniq _ hp.nd k g u huk (by rw [← h5]; exact huk))
 omega
theorem line_law (hO : OnOk on on.length) : ∀ i, i ≤ (allOf on).length → (lineI (allOf on) (tieOf on).2 (tieOf on).1 i).1.length = (allOf on).length ∧
   (lineI (allOf on) (tieOf on).2 (tieOf on).1 i).2 = ((toldG (hngOf on) (allOf on).length i).map fun g => (allOf on).getD g []).flatten ∧
   (i < (allOf on).length → (lineI (allOf on) (tieOf on).2 (tieOf on).1 i).1.idxOf 0 = nextG (hngOf on) (allOf on).length (toldG (hngOf on) (allOf on).length i) ∧ nextG (hngOf on) (allOf on).length (toldG (hngOf on) (allOf on).length i) < (allOf on).length) ∧
   Told (hngOf on) (allOf on).length i (toldG (hngOf on) (allOf on).length i) := by
 have hp := allOf_prt hO
 have hr : ∀ g k, g < (allOf on).length → k < (allOf on).length → k ≠ g → hngOf on g k = true → rankOf on k < rankOf on g := fun g k hg hk hne h => rank_lt hO hg hk hne ((hng_iff hp hO).1 h)
 have htw := tieF_tw (on := on) (of := ofF (allOf on) on.length (allOf on).length) (all := allOf on) (fun g _ v _ u hu => of_vx hp (hO.rng v u hu)) _ (Nat.le_refl _)
 intro i hi
 have hl := line_ok (all := allOf on) (w := (tieOf on).1) (back := (tieOf on).2) (h := hngOf on) (rankOf on) hr htw.lw (fun j hj => by have := htw.ws j; rw [if_pos hj] at this; exact this) (fun k hk => htw.bs k hk) i hi
 have ht := told_ok (rankOf on) hr i hi
 exact ⟨hl.1, hl.2.2.1, fun h0 => ⟨hl.2.2.2 h0, (next_free (free_ex (rankOf on) hr (short_ex (by rw [ht.len]; exact h0)))).1⟩, ht⟩
theorem line_vals (hO : OnOk on on.length) : ∀ i, i ≤ (allOf on).length → ∀ j, j < (allOf on).length → -1 ≤ (lineI (allOf on) (tieOf on).2 (tieOf on).1 i).1.getD j 0 ∧ (lineI (allOf on) (tieOf on).2 (tieOf on).1 i).1.getD j 0 ≤ (allOf on).length := by
 have hp := allOf_prt hO
 have hr : ∀ g k, g < (allOf on).length → k < (allOf on).length → k ≠ g → hngOf on g k = true → rankOf on k < rankOf on g := fun g k hg hk hne h => rank_lt hO hg hk hne ((hng_iff hp hO).1 h)
 have htw := tieF_tw (on := on) (of := ofF (allOf on) on.length (allOf on).length) (all := allOf on) (fun g _ v _ u hu => of_vx hp (hO.rng v u hu)) _ (Nat.le_refl _)
 intro i hi j hj
 have hl := line_ok (all := allOf on) (w := (tieOf on).1) (back := (tieOf on).2) (h := hngOf on) (rankOf on) hr htw.lw (fun j hj => by have := htw.ws j; rw [if_pos hj] at this; exact this) (fun k hk => htw.bs k hk) i hi
 rw [hl.2.1 j hj]
 unfold waitT
 have := cntR_nonneg (allOf on).length fun k => (decide (k ≠ j) && hngOf on j k) && !decide (k ∈ toldG (hngOf on) (allOf on).length i)
 split <;> omega
theorem back_ok (hO : OnOk on on.length) : (tieOf on).1.length = (allOf on).length ∧ (tieOf on).2.length = (allOf on).length ∧ ∀ g, g < (allOf on).length → ((tieOf on).2.getD g []).Nodup ∧ (∀ k ∈ (tieOf on).2.getD g [], Vx (allOf on).length k) := by
 have hp := allOf_prt hO
 have htw := tieF_tw (on := on) (of := ofF (allOf on) on.length (allOf on).length) (all := allOf on) (fun g _ v _ u hu => of_vx hp (hO.rng v u hu)) _ (Nat.le_refl _)
 refine ⟨htw.lw, htw.lb, fun g hg => ?_⟩
 have hb := htw.bs g hg
 have hb : (tieOf on).2.getD g [] = _ := hb
 rw [hb]
 constructor
 ·rw [List.nodup_iff_pairwise_ne]
  exact List.pairwise_map.2 (((List.nodup_range).filter _).imp fun {a b} hab => by omega)
 ·intro k hk
  obtain ⟨x, hx, rfl⟩ := List.mem_map.1 hk
  have := List.mem_range.1 (List.mem_filter.1 hx).1
  unfold Vx; omega
end
end Go.Tar
namespace Go.Proofs.YtfhacbhgmnhmlaaGreat
set_option linter.unusedVariables false
set_option linter.unusedSimpArgs false
open Go Go.Eng Go.Tar Go.Sort
section
variable {W0 W : World} {L L' : List Asn} {a : Option Addr} {c n : Nat} {on gs : List (List Int)}
theorem ix2 {i : Nat} (hi : i < n) (g o c : Nat) : idxS 1 (.slice (some ⟨g, o, none⟩) n c) (.int .i64 (i : Int)) = some (.pointer (some ⟨g, o + i * 1, none⟩)) := by
 rw [idxS_blk (by omega) (by omega), Int.toNat_natCast]
theorem ldR {i g o : Nat} {rows : List ISl} (hi : i < rows.length) (h : St W0 L W) [hr : Rd W0 L (some ⟨g, o, none⟩) ISY rows] {k : Value → World → Prop} (hk : k rows[i].v W) : rdK PR (Instr.loadAt T_s_int (.pointer (some ⟨g, o + i * 1, none⟩))) k W :=
 ldA0 (i := i) (l := rows) (A := ISY) h rfl hi (v := rows[i].v) rfl (by simp) hk
theorem row_at {rows : List ISl} {i : Nat} (hi : i < rows.length) : rows[i].l = (rows.map (·.l)).getD i [] := by
 rw [List.getD_eq_getElem?_getD, List.getElem?_map, List.getElem?_eq_getElem hi]; rfl
theorem li_make {m : Nat} (h : St W0 (arr ISY T_s_int a c (List.replicate m (⟨none, 0, []⟩ : ISl)) :: L) W) : St W0 (LI a c (List.replicate m []) :: L) W :=
 (h.ent (ent.cons _ (many_none m))).ent (li_ent (by simp))
set_option maxRecDepth 100000 in
set_option maxHeartbeats 4000000 in
theorem ordTie (h00 : W0.drawn = 0) (hO : OnOk on on.length) (hn : on.length ≤ 1000) (hrl : ∀ v, (rowOf on v).length < 1000000) {k : Value → World → Prop} (h : St W0 (LI a c on :: L) W)
  (hk : ∀ p ag cg aw cw ab cb W', St W0 (cells p [.slice ag (allOf on).length cg, .slice aw (allOf on).length cw, .slice ab (allOf on).length cb] T_order_tied :: LI ag cg (allOf on) :: arr I64 T_int aw cw (tieOf on).1 :: LI ab cb (tieOf on).2 :: LI a c on :: L) W' →
   k (.pointer (some ⟨p, 0, none⟩)) W') : callK PR F_order_tie [.slice a on.length c] k W := by
 apply S.order_tie.call
 delta S.order_tie.body oK oA rD lD eF eU sT cL vC gD gX gP gA gR gL gE gU gC gV hL sB nI
 have hG := groups_grp hO
 refine ordGroups h00 hO hn hrl h fun ag cg W1 h => ?_
 have hgl : (groupsF on).length = (allOf on).length := (sortHd_perm _).length_eq.symm
 have hall := all_len hO
 refine ordSortHd h (fun g hg => (hG.gok g hg).1) hG.nd (by omega) fun W2 h => ?_
 rw [hgl]
 have hp := allOf_prt hO
 have hp' := hp
 have h : St W0 (LI ag cg (allOf on) :: LI a c on :: L) W2 := h
 unfold tieOf at hk
 generalize allOf on = all at *
 obtain ⟨rg, hrg, h⟩ := li_at h
 obtain ⟨rows, hrows, h⟩ := li_at (St.wk (L' := LI a c on :: arr ISY T_s_int ag cg rg :: many ich rg :: L) h)
 have hrgl : rg.length = all.length := by rw [← hrg, List.length_map]
 have hrn : rows.length = on.length := by rw [← hrows, List.length_map]
 (repeat simp -implicitDefEqProofs only [SE, SU, SV])
 refine mkZ (by assumption) (by omega) fun ao co W3 h => ?_
 refine joinK_i ?_
 skip
 have h : St W0 (arr I64 T_int ao co (ofF all on.length 0) :: arr ISY T_s_int a c rows :: many ich rows :: arr ISY T_s_int ag cg rg :: many ich rg :: L) W3 := h
 refine loop_c (σ := Unit) all.length (fun i _ => [.slice a on.length c, .slice ag all.length cg, .slice ao on.length co, .slice ag all.length cg, .int .i64 all.length, .int .i64 (i : Int)])
  (fun i _ W1 => St W0 (arr I64 T_int ao co (ofF all on.length i) :: arr ISY T_s_int a c rows :: many ich rows :: arr ISY T_s_int ag cg rg :: many ich rg :: L) W1) () rfl h ?_
 clear h
 rintro K i _ W4 hi h hK
 simp -implicitDefEqProofs only [SE, SU, SV]
 delta S.order_tie.l4 oK oA rD lD eF eU sT cL vC gD gX gP gA gR gL gE gU gC gV hL sB nI
 have hof := ofF_at hp i hi
 by_cases hlt : (i : Int) < (all.length : Int)
 ·have hib : i < all.length := by omega
  have hir : i < rg.length := by omega
  have ew : IntKind.i64.wrap ((i : Int) + 1) = ((i + 1 : Nat) : Int) := by rw [i64w]; omega
  have e : ofF all on.length (i + 1) = ofStep all (ofF all on.length i) i := by unfold ofF; rw [List.range_succ, List.foldl_append]; rfl
  have hrow := row_at hir
  rw [hrg] at hrow
  have hvs : ∀ v ∈ all.getD i [], Vx on.length v := fun v hv => (hp.mem v).1 (memFlat hv)
  have hlen : (all.getD i []).length ≤ on.length := nodup_len ((List.Sublist.nodup · hp.nd) (by
   rw [List.getD_eq_getElem?_getD, List.getElem?_eq_getElem hib]; exact List.sublist_flatten_of_mem (List.getElem_mem hib))) hvs
  unfold ofStep at e
  generalize ofF all on.length i = o at *
  have hmem : rg[i] ∈ rg := List.getElem_mem hir
  obtain ⟨gg, og, e1⟩ := posAddr (i := i) (a := ag) (A := ISY) (l := rg) h hir
  subst e1
  rw [← hrow] at e hvs hlen
  (repeat simp -implicitDefEqProofs only [SE, SU, SV, hlt])
  refine joinK_i ?_
  (repeat simp -implicitDefEqProofs only [SE, SU, SV, ix2 hib])
  refine ldR hir (by assumption) ?_
  generalize rg[i] = x at *
  obtain ⟨xa, xc, xl⟩ := x
  simp only at e hvs hlen
  haveI hrd := ich_rd (W0 := W0) (L := L) hmem
  (repeat simp -implicitDefEqProofs only [SE, SU, SV])
  refine loop_c (σ := Unit) xl.length (fun j _ => [.slice a on.length c, .slice (some ⟨gg, og, none⟩) all.length cg, .slice ao on.length co, .int .i64 (i : Int), .slice (some ⟨gg, og, none⟩) all.length cg, .int .i64 all.length, .int .i64 (i : Int), .slice xa xl.length xc, .int .i64 xl.length, .int .i64 (j : Int)])
   (fun j _ W1 => St W0 (arr I64 T_int ao co ((xl.take j).foldl (fun o v => o.set v.toNat (i : Int)) o) :: arr ISY T_s_int a c rows :: many ich rows :: arr ISY T_s_int (some ⟨gg, og, none⟩) cg rg :: many ich rg :: L) W1) () rfl h ?_
  clear h
  rintro K2 j _ W5 hj h hK2
  simp -implicitDefEqProofs only [SE, SU, SV]
  delta S.order_tie.l5 oK oA rD lD eF eU sT cL vC gD gX gP gA gR gL gE gU gC gV hL sB nI
  by_cases hlt2 : (j : Int) < (xl.length : Int)
  ·have hjb : j < xl.length := by omega
   have ew2 : IntKind.i64.wrap ((j : Int) + 1) = ((j + 1 : Nat) : Int) := by rw [i64w]; omega
   have hvx := hvs xl[j] (List.getElem_mem hjb)
   have hvn : xl[j].toNat < on.length := by unfold Vx at hvx; omega
   have hol := (setAll (xl.take j) o (i : Int) hof.1 fun v hv => hvs v (List.mem_of_mem_take hv)).1
   have htk : (xl.take (j + 1)).foldl (fun o v => o.set v.toNat (i : Int)) o = ((xl.take j).foldl (fun o v => o.set v.toNat (i : Int)) o).set xl[j].toNat (i : Int) := by rw [List.take_succ_eq_append_getElem hjb, List.foldl_append]; rfl
   generalize (xl.take j).foldl (fun o v => o.set v.toNat (i : Int)) o = o2 at *
   obtain ⟨gx, ox, e2⟩ := posAddr (i := j) (a := xa) (A := I64) (l := xl) h hjb
   obtain ⟨gf, of_, e3⟩ := posAddr (i := xl[j].toNat) (a := ao) (A := I64) (l := o2) h (by rw [hol]; exact hvn)
   subst e2 e3
   (repeat simp -implicitDefEqProofs only [SE, SU, SV, hlt2, ix2 hjb])
   refine ldA0 (i := j) (l := xl) (A := I64) (by assumption) rfl hjb (v := .int .i64 xl[j]) rfl (by simp) ?_
   (repeat simp -implicitDefEqProofs only [SE, SU, SV, ix1 hvx])
   refine stG (i := xl[j].toNat) (l := o2) (by rw [hol]; exact hvn) (by assumption) fun W6 h => ?_
   (repeat simp -implicitDefEqProofs only [SE, SU, SV, ew2])
   rw [← htk] at h
   exact hK2 () _ hjb h
  ·have hjl : j = xl.length := by omega
   subst hjl
   rw [List.take_length, ← e] at h
   (repeat simp -implicitDefEqProofs only [SE, SU, SV, hlt2])
   delta S.order_tie.j7 oK oA rD lD eF eU sT cL vC gD gX gP gA gR gL gE gU gC gV hL sB nI
   (repeat simp -implicitDefEqProofs only [SE, SU, SV, ew])
   exact hK () _ hib h
 ·have hil : i = all.length := by omega
  subst hil
  (repeat simp -implicitDefEqProofs only [SE, SU, SV, hlt])
  delta S.order_tie.j1 oK oA rD lD eF eU sT cL vC gD gX gP gA gR gL gE gU gC gV hL sB nI
  have hox := fun u (hu : Vx on.length u) => of_vx hp hu
  have hol := hof.1
  generalize ofF all on.length all.length = of at *
  clear hof
  have h1000 : all.length ≤ 1000000 := by omega
  have hto : ∀ g, g < all.length → ∀ v ∈ all.getD g [], ∀ u ∈ rowOf on v, Vx all.length (of.getD u.toNat 0) := fun g _ v _ u hu => hox u (hO.rng v u hu)
  have key : ∀ (p : Nat) (aw ab : Option Addr) (cw cb : Nat) (W : World), St W0 (cells p [.slice ag all.length cg, .slice aw all.length cw, .slice ab all.length cb] T_order_tied :: arr I64 T_int aw cw (List.replicate all.length 0) :: LI ab cb (List.replicate all.length []) ::
    arr I64 T_int ao co of :: arr ISY T_s_int a c rows :: many ich rows :: arr ISY T_s_int ag cg rg :: many ich rg :: L) W → S.order_tie.j2 k (.slice a on.length c) (.slice ag all.length cg) (.slice ao on.length co) (.pointer (some ⟨p, 0, none⟩)) W := by
   clear h
   intro p aw ab cw cb W h
   delta S.order_tie.j2 oK oA rD lD eF eU sT cL vC gD gX gP gA gR gL gE gU gC gV hL sB nI
   refine joinK_i ?_
   (repeat simp -implicitDefEqProofs only [SE, SU, SV])
   refine loop_c (σ := Unit) all.length (fun i _ => [.slice a on.length c, .slice ag all.length cg, .slice ao on.length co, .pointer (some ⟨p, 0, none⟩), .slice ag all.length cg, .int .i64 all.length, .int .i64 (i : Int)])
    (fun i _ W1 => St W0 (cells p [.slice ag all.length cg, .slice aw all.length cw, .slice ab all.length cb] T_order_tied :: arr I64 T_int aw cw (tieF on of all i).1 :: LI ab cb (tieF on of all i).2 ::
     arr I64 T_int ao co of :: arr ISY T_s_int a c rows :: many ich rows :: arr ISY T_s_int ag cg rg :: many ich rg :: L) W1) () rfl h ?_
   clear h
   rintro K i _ W1 hi h hK
   simp -implicitDefEqProofs only [SE, SU, SV]
   delta S.order_tie.l1 oK oA rD lD eF eU sT cL vC gD gX gP gA gR gL gE gU gC gV hL sB nI
   have hTW := tieF_tw hto i hi
   by_cases hlt : (i : Int) < (all.length : Int)
   ·have hib : i < all.length := by omega
    have hir : i < rg.length := by omega
    have ew : IntKind.i64.wrap ((i : Int) + 1) = ((i + 1 : Nat) : Int) := by rw [i64w]; omega
    have e : tieF on of all (i + 1) = tieG on of all (tieF on of all i) i := by unfold tieF; rw [List.range_succ, List.foldl_append]; rfl
    have hrow := row_at hir
    rw [hrg] at hrow
    have hvs : ∀ v ∈ all.getD i [], Vx on.length v := fun v hv => (hp'.mem v).1 (memFlat hv)
    have hlen : (all.getD i []).length ≤ on.length := nodup_len ((List.Sublist.nodup · hp'.nd) (by
     rw [List.getD_eq_getElem?_getD, List.getElem?_eq_getElem hib]; exact List.sublist_flatten_of_mem (List.getElem_mem hib))) hvs
    generalize tieF on of all i = wb at *
    obtain ⟨w0, b0⟩ := wb
    have hst := (start_ti (w0 := w0) (b0 := b0) hib hTW.lw hTW.lb).1
    have hmem : rg[i] ∈ rg := List.getElem_mem hir
    obtain ⟨gg, og, e1⟩ := posAddr (i := i) (a := ag) (A := ISY) (l := rg) h hir
    subst e1
    unfold tieG at e
    rw [← hrow] at e hvs hlen
    have hvm : ∀ v ∈ rg[i].l, ∀ u ∈ rowOf on v, Vx all.length (of.getD u.toNat 0) := fun v _ u hu => hox u (hO.rng v u hu)
    (repeat simp -implicitDefEqProofs only [SE, SU, SV, hlt])
    refine joinK_i ?_
    (repeat simp -implicitDefEqProofs only [SE, SU, SV, ix2 hib])
    refine ldR hir (by assumption) ?_
    generalize rg[i] = x at *
    obtain ⟨xa, xc, xl⟩ := x
    simp only at e hvs hlen hvm
    haveI hrd := ich_rd (W0 := W0) (L := L) hmem
    (repeat simp -implicitDefEqProofs only [SE, SU, SV])
    refine mkB (by assumption) (by omega) fun ah ch W2 h => ?_
    obtain ⟨gh, oh, e2⟩ := posAddr (i := i) (a := ah) (A := BOO) (l := List.replicate all.length false) h (by simpa using hib)
    subst e2
    (repeat simp -implicitDefEqProofs only [SE, SU, SV, ix2 hib])
    refine stGb (i := i) (m := List.replicate all.length false) (x := true) (by simpa using hib) (by assumption) fun W3 h => ?_
    skip
    have h := St.wk (L' := arr BOO T_bool (some ⟨gh, oh, none⟩) ch ((List.replicate all.length false).set i true) :: arr I64 T_int aw cw w0 :: LI ab cb b0 ::
     cells p [.slice (some ⟨gg, og, none⟩) all.length cg, .slice aw all.length cw, .slice ab all.length cb] T_order_tied ::
     arr I64 T_int ao co of :: arr ISY T_s_int a c rows :: many ich rows :: arr ISY T_s_int (some ⟨gg, og, none⟩) cg rg :: many ich rg :: L) (by assumption)
    generalize hs0 : (⟨(List.replicate all.length false).set i true, w0, b0⟩ : TS) = s0 at *
    refine loop_c (σ := Unit) xl.length (fun j _ => [.slice a on.length c, .slice (some ⟨gg, og, none⟩) all.length cg, .slice ao on.length co, .pointer (some ⟨p, 0, none⟩), .int .i64 (i : Int), .slice (some ⟨gh, oh, none⟩) all.length ch, .slice (some ⟨gg, og, none⟩) all.length cg, .int .i64 all.length, .int .i64 (i : Int), .slice xa xl.length xc, .int .i64 xl.length, .int .i64 (j : Int)])
     (fun j _ W1 => St W0 (arr BOO T_bool (some ⟨gh, oh, none⟩) ch ((xl.take j).foldl (tieV on of i) s0).had :: arr I64 T_int aw cw ((xl.take j).foldl (tieV on of i) s0).waits :: LI ab cb ((xl.take j).foldl (tieV on of i) s0).back ::
     cells p [.slice (some ⟨gg, og, none⟩) all.length cg, .slice aw all.length cw, .slice ab all.length cb] T_order_tied ::
     arr I64 T_int ao co of :: arr ISY T_s_int a c rows :: many ich rows :: arr ISY T_s_int (some ⟨gg, og, none⟩) cg rg :: many ich rg :: L) W1) () rfl (by subst hs0; exact h) ?_
    clear h
    rintro K2 j _ W5 hj h hK2
    simp -implicitDefEqProofs only [SE, SU, SV]
    delta S.order_tie.l2 oK oA rD lD eF eU sT cL vC gD gX gP gA gR gL gE gU gC gV hL sB nI
    have hT1 := (tieVs_ti (on := on) (of := of) hib (xl.take j) s0 hst (fun v hv => hvm v (List.mem_of_mem_take hv))).1
    by_cases hlt2 : (j : Int) < (xl.length : Int)
    ·have hjb : j < xl.length := by omega
     have ew2 : IntKind.i64.wrap ((j : Int) + 1) = ((j + 1 : Nat) : Int) := by rw [i64w]; omega
     have hvx := hvs xl[j] (List.getElem_mem hjb)
     have hvn : xl[j].toNat < on.length := by unfold Vx at hvx; omega
     have hvr : xl[j].toNat < rows.length := by omega
     have htk : (xl.take (j + 1)).foldl (tieV on of i) s0 = (rowOf on xl[j]).foldl (fun s u => tieU i (of.getD u.toNat 0) s) ((xl.take j).foldl (tieV on of i) s0) := by rw [List.take_succ_eq_append_getElem hjb, List.foldl_append]; rfl
     have hum := hvm xl[j] (List.getElem_mem hjb)
     have hyx := hO.rng xl[j]
     have hro : rowOf on xl[j] = rows[xl[j].toNat].l := by unfold rowOf; rw [row_at hvr, hrows]
     have hul := hrl xl[j]
     rw [hro] at htk hum hul hyx
     have hmr : rows[xl[j].toNat] ∈ rows := List.getElem_mem hvr
     generalize (xl.take j).foldl (tieV on of i) s0 = s1 at *
     obtain ⟨gx, ox, e2⟩ := posAddr (i := j) (a := xa) (A := I64) (l := xl) h hjb
     obtain ⟨gr, or', e3⟩ := posAddr (i := xl[j].toNat) (a := a) (A := ISY) (l := rows) h hvr
     subst e2 e3
     (repeat simp -implicitDefEqProofs only [SE, SU, SV, hlt2])
     refine joinK_i ?_
     (repeat simp -implicitDefEqProofs only [SE, SU, SV, ix2 hjb])
     refine ldA0 (i := j) (l := xl) (A := I64) (by assumption) rfl hjb (v := .int .i64 xl[j]) rfl (by simp) ?_
     (repeat simp -implicitDefEqProofs only [SE, SU, SV, ix1 hvx])
     refine ldR hvr (by assumption) ?_
     generalize rows[xl[j].toNat] = y at *
     obtain ⟨ya, yc, yl⟩ := y
     simp only at htk hum hul hyx
     haveI hrd2 := ich_rd (W0 := W0) (L := arr ISY T_s_int (some ⟨gg, og, none⟩) cg rg :: many ich rg :: L) hmr
     (repeat simp -implicitDefEqProofs only [SE, SU, SV])
     refine loop_c (σ := Unit) yl.length (fun q _ => [.slice (some ⟨gr, or', none⟩) on.length c, .slice (some ⟨gg, og, none⟩) all.length cg, .slice ao on.length co, .pointer (some ⟨p, 0, none⟩), .int .i64 (i : Int), .slice (some ⟨gh, oh, none⟩) all.length ch, .slice (some ⟨gg, og, none⟩) all.length cg, .int .i64 all.length, .int .i64 (i : Int), .slice (some ⟨gx, ox, none⟩) xl.length xc, .int .i64 xl.length, .int .i64 (j : Int), .slice ya yl.length yc, .int .i64 yl.length, .int .i64 (q : Int)])
      (fun q _ W1 => St W0 (arr BOO T_bool (some ⟨gh, oh, none⟩) ch ((yl.take q).foldl (fun s u => tieU i (of.getD u.toNat 0) s) s1).had :: arr I64 T_int aw cw ((yl.take q).foldl (fun s u => tieU i (of.getD u.toNat 0) s) s1).waits :: LI ab cb ((yl.take q).foldl (fun s u => tieU i (of.getD u.toNat 0) s) s1).back ::
      cells p [.slice (some ⟨gg, og, none⟩) all.length cg, .slice aw all.length cw, .slice ab all.length cb] T_order_tied ::
      arr I64 T_int ao co of :: arr ISY T_s_int (some ⟨gr, or', none⟩) c rows :: many ich rows :: arr ISY T_s_int (some ⟨gg, og, none⟩) cg rg :: many ich rg :: L) W1) () rfl h ?_
     clear h
     rintro K3 q _ W6 hq h hK3
     simp -implicitDefEqProofs only [SE, SU, SV]
     delta S.order_tie.l3 oK oA rD lD eF eU sT cL vC gD gX gP gA gR gL gE gU gC gV hL sB nI
     have hT2 := (tieUs_ti (of := of) hib (yl.take q) s1 hT1 (fun u hu => hum u (List.mem_of_mem_take hu))).1
     by_cases hlt3 : (q : Int) < (yl.length : Int)
     ·have hqb : q < yl.length := by omega
      have ew3 : IntKind.i64.wrap ((q : Int) + 1) = ((q + 1 : Nat) : Int) := by rw [i64w]; omega
      have htk3 : (yl.take (q + 1)).foldl (fun s u => tieU i (of.getD u.toNat 0) s) s1 = tieU i (of.getD yl[q].toNat 0) ((yl.take q).foldl (fun s u => tieU i (of.getD u.toNat 0) s) s1) := by rw [List.take_succ_eq_append_getElem hqb, List.foldl_append]; rfl
      have hkx := hum yl[q] (List.getElem_mem hqb)
      have hux : Vx on.length yl[q] := hyx yl[q] (List.getElem_mem hqb)
      have hun : yl[q].toNat < of.length := by unfold Vx at hux; omega
      generalize (yl.take q).foldl (fun s u => tieU i (of.getD u.toNat 0) s) s1 = s2 at *
      obtain ⟨gy, oy, e2⟩ := posAddr (i := q) (a := ya) (A := I64) (l := yl) h hqb
      obtain ⟨gf, of_, e3⟩ := posAddr (i := yl[q].toNat) (a := ao) (A := I64) (l := of) h hun
      subst e2 e3
      (repeat simp -implicitDefEqProofs only [SE, SU, SV, hlt3])
      refine joinK_i ?_
      (repeat simp -implicitDefEqProofs only [SE, SU, SV, ix2 hqb])
      refine ldA0 (i := q) (l := yl) (A := I64) (by assumption) rfl hqb (v := .int .i64 yl[q]) rfl (by simp) ?_
      (repeat simp -implicitDefEqProofs only [SE, SU, SV, ix1 hux])
      refine ldG (i := yl[q].toNat) (l := of) hun (by assumption) ?_
      generalize of.getD yl[q].toNat 0 = kk at *
      have hkn : kk.toNat < all.length := by unfold Vx at hkx; omega
      (repeat simp -implicitDefEqProofs only [SE, SU, SV, ix1 hkx])
      refine ldGb (i := kk.toNat) (m := s2.had) (by rw [hT2.lh]; exact hkn) (by assumption) ?_
      by_cases hh : s2.had.getD kk.toNat false = true
      ·have et : tieU i kk s2 = s2 := by unfold tieU; rw [if_pos hh]
       rw [et] at htk3
       rw [hh]
       (repeat simp -implicitDefEqProofs only [SE, SU, SV])
       delta S.order_tie.j6 oK oA rD lD eF eU sT cL vC gD gX gP gA gR gL gE gU gC gV hL sB nI
       (repeat simp -implicitDefEqProofs only [SE, SU, SV, ew3])
       refine hK3 () _ hqb ?_
       rw [htk3]; exact St.wk (by assumption)
      ·have hhf : s2.had.getD kk.toNat false = false := Bool.eq_false_iff.2 hh
       have et : tieU i kk s2 = ⟨s2.had.set kk.toNat true, s2.waits.set i (s2.waits.getD i 0 + 1), s2.back.set kk.toNat (s2.back.getD kk.toNat [] ++ [(i : Int)])⟩ := by unfold tieU; rw [if_neg hh]
       rw [et] at htk3
       have hwb : 0 ≤ s2.waits.getD i 0 ∧ s2.waits.getD i 0 ≤ 1000 := by
        rw [hT2.ws i, if_pos rfl, hTW.ws i, if_neg (by omega)]
        have := cntR_nonneg all.length fun k => decide (k ≠ i) && s2.had.getD k false
        omega
       have ew4 : IntKind.i64.wrap (s2.waits.getD i 0 + 1) = s2.waits.getD i 0 + 1 := by rw [i64w]; omega
       have hbl : (s2.back.getD kk.toNat []).length ≤ 1000 := by
        rw [hT2.bs, hTW.bs _ hkn, List.length_append, List.length_map]
        have h1 := List.length_filter_le (fun j => decide (kk.toNat ≠ j) && hng on of all j kk.toNat) (List.range i)
        rw [List.length_range] at h1
        have h2 : (if kk.toNat ≠ i ∧ s2.had.getD kk.toNat false = true then [(i : Int)] else []).length ≤ 1 := by split <;> simp
        omega
       obtain ⟨gw, ow, e4⟩ := posAddr (i := i) (a := aw) (A := I64) (l := s2.waits) (by assumption) (by rw [hT2.lw]; exact hib)
       subst e4
       rw [hhf]
       (repeat simp -implicitDefEqProofs only [SE, SU, SV])
       refine stGb (i := kk.toNat) (m := s2.had) (x := true) (by rw [hT2.lh]; exact hkn) (by assumption) fun W7 h => ?_
       (repeat (first | ((with_reducible refine v5 ?_); refine ⟨_, rfl, ?_⟩) | simp -implicitDefEqProofs only [SE, SU, SV, ix2 hib]))
       refine ldG (i := i) (l := s2.waits) (by rw [hT2.lw]; exact hib) (by assumption) ?_
       (repeat simp -implicitDefEqProofs only [SE, SU, SV, ew4, ix2 hib])
       refine stG (i := i) (l := s2.waits) (by rw [hT2.lw]; exact hib) (by assumption) fun W8 h => ?_
       obtain ⟨rb, hrb, h⟩ := li_at (St.wk (L' := LI ab cb s2.back :: arr BOO T_bool (some ⟨gh, oh, none⟩) ch (s2.had.set kk.toNat true) :: arr I64 T_int (some ⟨gw, ow, none⟩) cw (s2.waits.set i (s2.waits.getD i 0 + 1)) ::
        cells p [.slice (some ⟨gg, og, none⟩) all.length cg, .slice (some ⟨gw, ow, none⟩) all.length cw, .slice ab all.length cb] T_order_tied ::
        arr I64 T_int (some ⟨gf, of_, none⟩) co of :: arr ISY T_s_int (some ⟨gr, or', none⟩) c rows :: many ich rows :: arr ISY T_s_int (some ⟨gg, og, none⟩) cg rg :: many ich rg :: L) (by assumption))
       have hbn : rb.length = all.length := by rw [← hT2.lb, ← hrb, List.length_map]
       have hkb : kk.toNat < rb.length := by omega
       have hvi : s2.back.getD kk.toNat [] = rb[kk.toNat].l := by rw [row_at hkb, hrb]
       rw [hvi] at hbl htk3
       have h := h.ent (ent.cons _ (ich_pick rb hkb))
       obtain ⟨gb, ob, e5⟩ := posAddr (i := kk.toNat) (a := ab) (A := ISY) (l := rb) h hkb
       subst e5
       (repeat (first | ((with_reducible refine v5 ?_); refine ⟨_, rfl, ?_⟩) | simp -implicitDefEqProofs only [SE, SU, SV, ix1 hkx]))
       refine ldR hkb (by exact St.tick (by assumption)) ?_
       refine bsA I64 [(i : Int)] (n := 1) (by exact St.tick (by assumption)) rfl rfl (by decide) (by decide) rfl fun a5 c5 W9 h => ?_
       refine stb_ldA0 (i := kk.toNat) (l := rb) (A := ISY) h rfl hkb (v := rb[kk.toNat].v) rfl (by simp) ?_
       (repeat (first | ((with_reducible refine stb_n ?_); intros) | ((with_reducible refine v8 ?_ ?_); exact rfl; intros)))
       refine appA (A := I64) (a := rb[kk.toNat].a) (l := rb[kk.toNat].l) (m := [(i : Int)]) (by assumption) rfl (by simp only [List.length_cons, List.length_nil]; omega) (by simp only [List.length_cons, List.length_nil, maxLen]; omega) fun a6 c6 W10 h => ?_
       (repeat (first | ((with_reducible refine stb_n ?_); intros) | ((with_reducible refine v8 ?_ ?_); exact rfl; intros)))
       have h := St.wk (L' := arr ISY T_s_int (some ⟨gb, ob, none⟩) cb rb :: ich ⟨a6, c6, rb[kk.toNat].l ++ [(i : Int)]⟩ :: many ich (rb.take kk.toNat ++ rb.drop (kk.toNat + 1)) :: arr BOO T_bool (some ⟨gh, oh, none⟩) ch (s2.had.set kk.toNat true) :: arr I64 T_int (some ⟨gw, ow, none⟩) cw (s2.waits.set i (s2.waits.getD i 0 + 1)) ::
        cells p [.slice (some ⟨gg, og, none⟩) all.length cg, .slice (some ⟨gw, ow, none⟩) all.length cw, .slice (some ⟨gb, ob, none⟩) all.length cb] T_order_tied ::
        arr I64 T_int (some ⟨gf, of_, none⟩) co of :: arr ISY T_s_int (some ⟨gr, or', none⟩) c rows :: many ich rows :: arr ISY T_s_int (some ⟨gg, og, none⟩) cg rg :: many ich rg :: L) (by assumption)
       refine stA (i := kk.toNat) (x := (⟨a6, c6, rb[kk.toNat].l ++ [(i : Int)]⟩ : ISl)) (l := rb) (A := ISY) h rfl hkb rfl fun W11 h => ?_
       have h := (h.ent (ent.cons _ (ich_place rb hkb ⟨a6, c6, rb[kk.toNat].l ++ [(i : Int)]⟩))).ent (li_ent (vs := s2.back.set kk.toNat (rb[kk.toNat].l ++ [(i : Int)])) (by rw [List.map_set, hrb]))
       delta S.order_tie.j6 oK oA rD lD eF eU sT cL vC gD gX gP gA gR gL gE gU gC gV hL sB nI
       (repeat simp -implicitDefEqProofs only [SE, SU, SV, ew3])
       refine hK3 () _ hqb ?_
       rw [htk3]; exact St.wk h
     ·have hql : q = yl.length := by omega
      subst hql
      rw [List.take_length, ← htk] at h
      (repeat simp -implicitDefEqProofs only [SE, SU, SV, hlt3])
      delta S.order_tie.j5 oK oA rD lD eF eU sT cL vC gD gX gP gA gR gL gE gU gC gV hL sB nI
      (repeat simp -implicitDefEqProofs only [SE, SU, SV, ew2])
      exact hK2 () _ hjb h
    ·have hjl : j = xl.length := by omega
     subst hjl
     rw [List.take_length] at h
     have e1 : (tieF on of all (i + 1)).1 = (xl.foldl (tieV on of i) s0).waits := congrArg Prod.fst e
     have e2 : (tieF on of all (i + 1)).2 = (xl.foldl (tieV on of i) s0).back := congrArg Prod.snd e
     rw [← e1, ← e2] at h
     (repeat simp -implicitDefEqProofs only [SE, SU, SV, hlt2])
     delta S.order_tie.j4 oK oA rD lD eF eU sT cL vC gD gX gP gA gR gL gE gU gC gV hL sB nI
     (repeat simp -implicitDefEqProofs only [SE, SU, SV, ew])
     exact hK () _ hib (St.wk h)
   ·have hil : i = all.length := by omega
    subst hil
    (repeat simp -implicitDefEqProofs only [SE, SU, SV, hlt])
    delta S.order_tie.j3 oK oA rD lD eF eU sT cL vC gD gX gP gA gR gL gE gU gC gV hL sB nI
    skip
    refine hk p ag cg aw cw ab cb _ ?_
    have h9 := St.wk (L' := arr ISY T_s_int a c rows :: many ich rows :: arr ISY T_s_int ag cg rg :: many ich rg :: cells p [.slice ag all.length cg, .slice aw all.length cw, .slice ab all.length cb] T_order_tied ::
     arr I64 T_int aw cw (tieF on of all all.length).1 :: LI ab cb (tieF on of all all.length).2 :: L) (by assumption)
    have h9 := h9.ent (li_ent hrows)
    have h10 : St W0 (arr ISY T_s_int ag cg rg :: many ich rg :: LI a c on :: cells p [.slice ag all.length cg, .slice aw all.length cw, .slice ab all.length cb] T_order_tied ::
     arr I64 T_int aw cw (tieF on of all all.length).1 :: LI ab cb (tieF on of all all.length).2 :: L) _ := St.wk h9
    exact St.wk (h10.ent (li_ent hrg))
  refine joinK_i ?_
  (repeat simp -implicitDefEqProofs only [SE, SU, SV])
  refine ⟨?_, ?_⟩
  ·refine mkZ (by exact St.tick (by assumption)) h1000 fun aw cw W5 h => ?_
   refine mkS (A := ISY) (⟨none, 0, []⟩ : ISl) all.length h rfl rfl h1000 (by omega) fun ab cb W6 h => ?_
   rw [List.length_replicate]
   have h := li_make h
   (repeat (first | ((with_reducible refine w3 ?_); intros) | (refine okF_i (bldP_eq rfl) ?_; try simp only [BLS, SB, Nat.reduceAdd])))
   rename_i p W7 h
   (try simp only [BLS, SB, stL_a, stL_b, stL_c, lsub_a, lsub_b, lsub_c, List.append_nil, List.take_nil, List.drop_nil, Nat.reduceAdd] at h)
   exact key p aw ab cw cb _ (St.wk h)
  ·refine mkS (A := ISY) (⟨none, 0, []⟩ : ISl) all.length (by exact St.tick (by assumption)) rfl rfl h1000 (by omega) fun ab cb W6 h => ?_
   rw [List.length_replicate]
   have h := li_make h
   refine mkZ h h1000 fun aw cw W5 h => ?_
   (repeat (first | ((with_reducible refine w3 ?_); intros) | (refine okF_i (bldP_eq rfl) ?_; try simp only [BLS, SB, Nat.reduceAdd])))
   rename_i p W7 h
   (try simp only [BLS, SB, stL_a, stL_b, stL_c, lsub_a, lsub_b, lsub_c, List.append_nil, List.take_nil, List.drop_nil, Nat.reduceAdd] at h)
   exact key p aw ab cw cb _ (St.wk h)
end
end Go.Proofs.YtfhacbhgmnhmlaaGreat
