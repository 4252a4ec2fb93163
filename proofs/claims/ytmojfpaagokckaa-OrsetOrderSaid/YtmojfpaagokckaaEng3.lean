/-
  Own engine, part 3: regions that draw their order: one walk serves every order.
-/
import Derived.Test.YtmojfpaagokckaaEng2
namespace Go.Eng
set_option linter.unusedVariables false
set_option linter.unusedSimpArgs false
open Go

/-- a promise on the world for as long as operation 'idx' may still be to come -/
structure Hold where
  idx : Nat
  S : World → Prop
def hold (J : List Hold) (w : World) : Prop := ∀ h ∈ J, h.S w

def dmask (o : Oper) : Nat := o.after.toList.foldl (fun m e => bif Region.binds .any e then Nat.lor m (Nat.shiftLeft 1 e.on) else m) 0
def amask (acc : List Nat) (o : Oper) : Nat := o.after.toList.foldl (fun m e => bif Region.binds .any e then Nat.lor (Nat.lor m (Nat.shiftLeft 1 e.on)) (acc.getD e.on 0) else m) 0
def masks : List Oper → List Nat → List Nat
  | [], acc => acc
  | o :: os, acc => masks os (acc ++ [amask acc o])
def tb (m i : Nat) : Bool := Nat.testBit m i

section
variable {P : Program} {ops : Array Oper} {Q : Exit → Act → World → Prop}

def dropJ (P : Program) (ops : Array Oper) (ms : List Nat) (J : List Hold) (i : Nat) : List Hold :=
  match ops[i]? with
  | some o => bif isFl P o then J else J.filter fun h => !tb (ms.getD i 0) h.idx
  | none => J

/-- whatever order is picked from here on, the promises kept -/
def wpAnyJ (P : Program) (ops : Array Oper) (ms : List Nat) (Q : Exit → Act → World → Prop) : Nat → Array Bool → List Hold → Act → World → Prop
  | 0, listed, _, a, w => Region.ready .any ops listed = [] ∧ Q .normal a w
  | fuel + 1, listed, J, a, w =>
    (Region.ready .any ops listed = [] → Q .normal a w) ∧
    ∀ i ∈ Region.ready .any ops listed, wpOp P ops Q i (fun a' w' => hold (dropJ P ops ms J i) w' ∧ wpAnyJ P ops ms Q fuel (listed.setIfInBounds i true) (dropJ P ops ms J i) a' w') a w

theorem wpAny_of_J {ms : List Nat} : ∀ (fuel : Nat) (listed : Array Bool) (J : List Hold) (a : Act) (w : World), wpAnyJ P ops ms Q fuel listed J a w → wpAny P .any ops Q fuel listed a w
  | 0, _, _, _, _, h => h
  | fuel + 1, _, _, _, _, h => ⟨h.1, fun i hi => wpOp_mono (fun a' w' h' => wpAny_of_J fuel _ _ a' w' h'.2) (h.2 i hi)⟩

theorem dropJ_sub {ms : List Nat} {J J' : List Hold} (h : ∀ x ∈ J, x ∈ J' ∨ ∀ w, x.S w) (i : Nat) : ∀ x ∈ dropJ P ops ms J i, x ∈ dropJ P ops ms J' i ∨ ∀ w, x.S w := by
  intro x hx
  unfold dropJ at *
  split at hx
  · rename_i o ho
    cases hb : isFl P o with
    | true => simp only [hb, cond_true] at *; exact h x hx
    | false =>
      simp only [hb, cond_false, List.mem_filter] at *
      exact (h x hx.1).imp (fun h' => ⟨h', hx.2⟩) id
  · exact h x hx

theorem wpAnyJ_sub {ms : List Nat} : ∀ (fuel : Nat) (listed : Array Bool) (J J' : List Hold) (a : Act) (w : World), (∀ x ∈ J, x ∈ J' ∨ ∀ w, x.S w) →
    wpAnyJ P ops ms Q fuel listed J' a w → wpAnyJ P ops ms Q fuel listed J a w
  | 0, _, _, _, _, _, _, h => h
  | fuel + 1, _, J, J', _, _, hs, h => ⟨h.1, fun i hi => wpOp_mono (fun a' w' h' => ⟨fun x hx => (dropJ_sub hs i x hx).elim (h'.1 x) (fun h => h w'),
      wpAnyJ_sub fuel _ _ _ a' w' (dropJ_sub hs i) h'.2⟩) (h.2 i hi)⟩

/-- what is listed has all that it waits for listed -/
def DC (ops : Array Oper) (listed : Array Bool) : Prop :=
  ∀ j o, ops[j]? = some o → listed.getD j false = true → ∀ e ∈ o.after, Region.binds .any e = true → listed.getD e.on false = true

theorem DC.set {listed : Array Bool} {i : Nat} (h : DC ops listed) (hi : i ∈ Region.ready .any ops listed) : DC ops (listed.setIfInBounds i true) := by
  intro j o hj hl e he hb
  by_cases hij : i = j
  · subst hij
    obtain ⟨_, o', ho', hall⟩ := mem_ready.1 hi
    rw [hj] at ho'
    cases ho'
    exact getD_set_true (hall e he hb)
  · rw [getD_set_ne false hij] at hl
    exact getD_set_true (h j o hj hl e he hb)

/-- the masks tell all that an operation waits for -/
theorem masks_spec {listed : Array Bool} (hd : DC ops listed) : ∀ (os : List Oper) (acc : List Nat), (∀ k, os[k]? = ops[acc.length + k]?) →
    (∀ j o, j < acc.length → ops[j]? = some o → (∀ e ∈ o.after, Region.binds .any e = true → listed.getD e.on false = true) → ∀ i, tb (acc.getD j 0) i = true → listed.getD i false = true) →
    ∀ j o, ops[j]? = some o → j < acc.length + os.length → (∀ e ∈ o.after, Region.binds .any e = true → listed.getD e.on false = true) → ∀ i, tb ((masks os acc).getD j 0) i = true → listed.getD i false = true
  | [], acc, _, h, j, o, hj, hlt, hall, i, ht => h j o (by simpa using hlt) hj hall i ht
  | x :: os, acc, hos, h, j, o, hj, hlt, hall, i, ht => by
    refine masks_spec hd os (acc ++ [amask acc x]) ?_ ?_ j o hj (by simp at hlt ⊢; omega) hall i (by simpa [masks] using ht)
    · intro k
      have := hos (k + 1)
      simp only [List.getElem?_cons_succ] at this
      rw [this]
      congr 1
      simp; omega
    · intro j o hjl hj hall i ht
      simp only [List.length_append, List.length_cons, List.length_nil, Nat.zero_add] at hjl
      by_cases hjl' : j < acc.length
      · rw [List.getD_eq_getElem?_getD, List.getElem?_append_left hjl', ← List.getD_eq_getElem?_getD] at ht
        exact h j o hjl' hj hall i ht
      · have hje : j = acc.length := by omega
        subst hje
        rw [List.getD_eq_getElem?_getD, List.getElem?_append_right (Nat.le_refl _)] at ht
        simp only [Nat.sub_self, List.getElem?_cons_zero, Option.getD_some] at ht
        have hx : x = o := by
          have := hos 0
          simp only [List.getElem?_cons_zero, Nat.add_zero] at this
          rw [hj] at this
          exact Option.some.inj this
        subst hx
        -- along the edges
        have key : ∀ (l : List Edge) (m : Nat), (∀ i, tb m i = true → listed.getD i false = true) → (∀ e ∈ l, Region.binds .any e = true → listed.getD e.on false = true) →
            ∀ i, tb (l.foldl (fun m e => bif Region.binds .any e then Nat.lor (Nat.lor m (Nat.shiftLeft 1 e.on)) (acc.getD e.on 0) else m) m) i = true → listed.getD i false = true := by
          intro l
          induction l with
          | nil => exact fun m hm _ i hi => hm i hi
          | cons e l ih =>
            intro m hm hl i hi
            simp only [List.foldl_cons] at hi
            refine ih _ ?_ (fun e' he' => hl e' (List.mem_cons_of_mem _ he')) i hi
            intro i hi
            cases hb : Region.binds .any e with
            | false => rw [hb] at hi; exact hm i hi
            | true =>
              rw [hb] at hi
              simp only [cond_true] at hi
              have hle := hl e (List.mem_cons_self) hb
              have hi' : ((m ||| 1 <<< e.on) ||| acc.getD e.on 0).testBit i = true := hi
              rw [Nat.testBit_or, Nat.testBit_or] at hi'
              simp only [Bool.or_eq_true] at hi'
              rcases hi' with (hi' | hi') | hi'
              · exact hm i hi'
              · have : e.on = i := by
                  rw [Nat.one_shiftLeft, Nat.testBit_two_pow] at hi'
                  simpa using hi'
                rw [← this]; exact hle
              · by_cases hel : e.on < acc.length
                · cases hoe : ops[e.on]? with
                  | none =>
                    have h1 : e.on < ops.size := by
                      have := Array.getElem?_eq_none_iff.1 hoe
                      have h2 : acc.length < ops.size := (Array.getElem?_eq_some_iff.1 hj).1
                      omega
                    rw [Array.getElem?_eq_getElem h1] at hoe
                    cases hoe
                  | some oe => exact h e.on oe hel hoe (hd e.on oe hoe hle) i hi'
                · have : acc.getD e.on 0 = 0 := by rw [List.getD_eq_getElem?_getD, List.getElem?_eq_none (by omega)]; rfl
                  rw [this] at hi'
                  simp at hi'
        exact key x.after.toList 0 (fun i hi => by simp [tb] at hi) (fun e he hb => hall e (Array.mem_toList_iff.1 he) hb) i ht

/-- an unlisted operation that is no ancestor's .. -/
theorem not_waits {listed : Array Bool} (hd : DC ops listed) {i j : Nat} (hj : j ∈ Region.ready .any ops listed) (hi : listed.getD i false = false) :
    tb ((masks ops.toList []).getD j 0) i = false := by
  obtain ⟨_, o, ho, hall⟩ := mem_ready.1 hj
  cases ht : tb ((masks ops.toList []).getD j 0) i with
  | false => rfl
  | true =>
    have := masks_spec hd ops.toList [] (by simp) (by simp) j o ho (by have := (Array.getElem?_eq_some_iff.1 ho).1; simpa using this) hall i ht
    rw [this] at hi
    cases hi

/-- of each two operations one waits for the other, or they are apart -/
def apartAll (ops : Array Oper) (ms : List Nat) : Bool :=
  ops.toList.zipIdx.all fun (x, i) => ops.toList.zipIdx.all fun (y, j) => Nat.beq i j || tb (ms.getD j 0) i || tb (ms.getD i 0) j || x.apart ops y

theorem apartAll_spec {ms : List Nat} (h : apartAll ops ms = true) {i j : Nat} {x y : Oper} (hx : ops[i]? = some x) (hy : ops[j]? = some y) (hne : j ≠ i)
    (h1 : tb (ms.getD j 0) i = false) (h2 : tb (ms.getD i 0) j = false) : x.apart ops y = true := by
  unfold apartAll at h
  simp only [List.all_eq_true] at h
  have hxm : (x, i) ∈ ops.toList.zipIdx := by rw [List.mk_mem_zipIdx_iff_getElem?]; simpa using hx
  have hym : (y, j) ∈ ops.toList.zipIdx := by rw [List.mk_mem_zipIdx_iff_getElem?]; simpa using hy
  have := h _ hxm _ hym
  simp only [h1, h2, Bool.or_false, Bool.or_eq_true] at this
  rcases this with h' | h'
  · exact absurd (Nat.eq_of_beq_eq_true h').symm hne
  · exact h'

theorem ready_not {listed : Array Bool} {i : Nat} (hi : i ∈ Region.ready .any ops listed) : listed.getD i false = false := by
  have h0 := (mem_ready.1 hi).1
  rcases Nat.lt_or_ge i listed.size with h' | h'
  · simpa [h'] using h0
  · simp [Array.getElem?_eq_none h'] at h0

/-- **an operation that yields its value in whatever world keeps a promise may be taken first, the promise being kept for as long as it may be to come** -/
theorem wpAnyJ_first {i : Nat} {oi : Oper} {v : Value} {S : World → Prop} (hi : ops[i]? = some oi) (hfl : isFl P oi = true) (hap : apartAll ops (masks ops.toList []) = true)
    (hsel : ∀ (j : Nat) (o : Oper) cs b, ops[j]? = some o → o.op ≠ .select cs b)
    (hQ : ∀ c a w, Q (.panic c) (a.put oi.dst v) w → Q (.panic c) a w) :
    ∀ (fuel : Nat) (listed : Array Bool) (J : List Hold) (a : Act) (w : World), DC ops listed → i ∈ Region.ready .any ops listed → YieldsIf P ops S oi v a → S w → hold J w →
      wpAnyJ P ops (masks ops.toList []) Q fuel (listed.setIfInBounds i true) (⟨i, S⟩ :: J) (a.put oi.dst v) w → wpAnyJ P ops (masks ops.toList []) Q (fuel + 1) listed J a w := by
  have hdi : ∀ J, dropJ P ops (masks ops.toList []) J i = J := fun J => by simp [dropJ, hi, hfl]
  intro fuel
  induction fuel with
  | zero =>
    intro listed J a w hd hr hy hS hJ H
    refine ⟨fun h => (by rw [h] at hr; cases hr), fun j hj => ?_⟩
    by_cases hji : j = i
    · subst hji
      refine hy.wpOp hi hS ?_
      rw [hdi]
      exact ⟨hJ, H⟩
    · have := ready_mono hj hji
      rw [H.1] at this
      cases this
  | succ fuel ih =>
    intro listed J a w hd hr hy hS hJ H
    refine ⟨fun h => (by rw [h] at hr; cases hr), fun j hj => ?_⟩
    by_cases hji : j = i
    · subst hji
      refine hy.wpOp hi hS ?_
      rw [hdi]
      exact ⟨hJ, wpAnyJ_sub _ _ _ _ _ _ (fun x hx => .inl (List.mem_cons_of_mem _ hx)) H⟩
    · have h1 := H.2 j (ready_mono hj hji)
      obtain ⟨hjun, oj, hoj, hall⟩ := mem_ready.1 hj
      have hw1 := not_waits hd hj (ready_not hr)
      have hw2 := not_waits hd hr (ready_not hj)
      have h2 := wpOp_putIf hoj (apartAll_spec hap hi hoj hji hw1 hw2) (fun cs b => hsel i oi cs b hi) (fun cs b => hsel j oj cs b hoj) hQ hy h1
      have hmem : ∀ J, (⟨i, S⟩ : Hold) ∈ dropJ P ops (masks ops.toList []) (⟨i, S⟩ :: J) j := by
        intro J
        simp only [dropJ, hoj]
        cases isFl P oj with
        | true => simp
        | false => simp only [cond_false, List.mem_filter, List.mem_cons, true_or, hw1]; exact ⟨trivial, rfl⟩
      have hsub : ∀ J, ∀ x ∈ dropJ P ops (masks ops.toList []) J j, x ∈ dropJ P ops (masks ops.toList []) (⟨i, S⟩ :: J) j := by
        intro J x hx
        simp only [dropJ, hoj] at *
        cases hfj : isFl P oj with
        | true => simp only [hfj, cond_true] at *; exact List.mem_cons_of_mem _ hx
        | false => simp only [hfj, cond_false, List.mem_filter] at *; exact ⟨List.mem_cons_of_mem _ hx.1, hx.2⟩
      refine wpOp_mono (fun a' w' h3 => ?_) h2
      obtain ⟨hy', hhold, h3⟩ := h3
      refine ⟨fun x hx => hhold x (hsub J x hx), ?_⟩
      refine ih (listed.setIfInBounds j true) _ a' w' (hd.set hj) (ready_mono hr (Ne.symm hji)) hy' (hhold _ (hmem J)) (fun x hx => hhold x (hsub J x hx)) ?_
      rw [Array.setIfInBounds_comm _ _ hji]
      refine wpAnyJ_sub _ _ _ _ _ _ ?_ h3
      intro x hx
      rcases List.mem_cons.1 hx with rfl | hx
      · exact .inl (hmem J)
      · exact .inl (hsub J x hx)

theorem wpAnyJ_all {ms : List Nat} {rs : List Nat} {fuel : Nat} {listed : Array Bool} {J : List Hold} {a : Act} {w : World} (hr : ∀ i ∈ Region.ready .any ops listed, i ∈ rs) (hne : Region.ready .any ops listed = [] → Q .normal a w)
    (h : ∀ i ∈ rs, i ∈ Region.ready .any ops listed → wpOp P ops Q i (fun a' w' => hold (dropJ P ops ms J i) w' ∧ wpAnyJ P ops ms Q fuel (listed.setIfInBounds i true) (dropJ P ops ms J i) a' w') a w) : wpAnyJ P ops ms Q (fuel + 1) listed J a w :=
  ⟨hne, fun i hi => h i (hr i hi) hi⟩
end
end Go.Eng
