/-
  Own engine: '==' of structs whose cells are all bools, integers or strings.
-/
import Derived.Test.YtmojfpaagokckaaRul
namespace Go.Eng
set_option linter.unusedVariables false
set_option linter.unusedSimpArgs false
open Go Go.RowKit

inductive Leaf where
  | b
  | i
  | s
def leafOf : TypeDesc → Option Leaf
  | .bool => some .b
  | .int _ => some .i
  | .string => some .s
  | _ => none
def flatF (P : Program) (g : TypeId → Option (List Leaf)) : List Field → Nat → Option (List Leaf)
  | [], _ => some []
  | f :: r, off => match f.name != "_" && Nat.beq f.offset off with
    | false => none
    | true => match g f.type, P.info? f.type with
      | some ks, some i => match Nat.beq i.size ks.length with
        | true => (match flatF P g r (off + ks.length) with | some l => some (ks ++ l) | none => none)
        | false => none
      | _, _ => none
def flat (P : Program) : Nat → TypeId → Option (List Leaf)
  | 0, _ => none
  | d + 1, t => match P.underlying t with
    | some (.struct fs) => match P.stoodInHeld t with
      | true => none
      | false => flatF P (flat P d) fs.toList 0
    | some (.array n e) => match flat P d e, P.info? e with
      | some ks, some i => (match Nat.beq i.size ks.length with | true => some (List.replicate n ks).flatten | false => none)
      | _, _ => none
    | some u => (match leafOf u with | some k => some [k] | none => none)
    | none => none
def eq1 : Leaf → Value → Value → Option Bool
  | .b, .bool a, .bool b => some (a == b)
  | .i, .int k a, .int k' b => if k = k' then some (a == b) else none
  | .s, .string a, .string b => some (a == b)
  | _, _, _ => none
def eqC : List Leaf → List Value → List Value → Option Bool
  | [], [], [] => some true
  | k :: ks, x :: xs, y :: ys => match eq1 k x y, eqC ks xs ys with
    | some a, some b => some (a && b)
    | _, _ => none
  | _, _, _ => none

theorem eqC_len : ∀ (ks : List Leaf) (xs ys : List Value) (b : Bool), eqC ks xs ys = some b → xs.length = ks.length ∧ ys.length = ks.length
  | [], [], [], _, _ => ⟨rfl, rfl⟩
  | k :: ks, x :: xs, y :: ys, b, h => by
    simp only [eqC] at h
    split at h
    · rename_i h2
      have := eqC_len ks xs ys _ h2
      simp [this]
    · cases h
  | [], _ :: _, _, _, h => by simp [eqC] at h
  | [], [], _ :: _, _, h => by simp [eqC] at h
  | _ :: _, [], _, _, h => by simp [eqC] at h
  | _ :: _, _ :: _, [], _, h => by simp [eqC] at h
theorem eqC_split : ∀ (ks l : List Leaf) (xs ys : List Value) (b : Bool), eqC (ks ++ l) xs ys = some b →
    ∃ b1 b2, eqC ks (xs.take ks.length) (ys.take ks.length) = some b1 ∧ eqC l (xs.drop ks.length) (ys.drop ks.length) = some b2 ∧ b = (b1 && b2)
  | [], l, xs, ys, b, h => ⟨true, b, by simp [eqC], by simpa using h, by simp⟩
  | k :: ks, l, x :: xs, y :: ys, b, h => by
    simp only [List.cons_append, eqC] at h
    split at h
    · rename_i c d h1 h2
      obtain ⟨b1, b2, h3, h4, h5⟩ := eqC_split ks l xs ys _ h2
      simp only [Option.some.injEq] at h
      refine ⟨c && b1, b2, by simp [eqC, h1, h3], by simpa using h4, ?_⟩
      rw [← h, h5, Bool.and_assoc]
    · cases h
  | _ :: _, _, [], _, _, h => by simp [eqC] at h
  | _ :: _, _, _ :: _, [], _, h => by simp [eqC] at h

section
variable {P : Program} {w : World}
theorem eqF_run (g : TypeId → Option (List Leaf)) (e : TypeId → Value → Value → Sem Bool) (xs ys : List Value)
    (he : ∀ t ks d i off b, g t = some ks → P.underlying t = some d → P.info? t = some i → i.size = ks.length → eqC ks ((xs.drop off).take ks.length) ((ys.drop off).take ks.length) = some b →
      ∃ x y, (part t xs.toArray off).run P w = .ok x w ∧ (part t ys.toArray off).run P w = .ok y w ∧ (e t x y).run P w = .ok b w)
    (hu : ∀ t ks, g t = some ks → ∃ d, P.underlying t = some d) :
    ∀ (fs : List Field) (off : Nat) (ks : List Leaf) (b : Bool), flatF P g fs off = some ks → eqC ks (xs.drop off) (ys.drop off) = some b → ∀ r : Option Bool × Unit → Sem Bool, (∀ s, s.1 = none → (r s).run P w = .ok true w) → (∀ s c, s.1 = some c → (r s).run P w = .ok c w) →
      (do
        let s ← forIn fs ((none, ()) : Option Bool × Unit) fun f _ =>
          if f.name ≠ "_" then do
            let a ← part f.type xs.toArray f.offset
            let b ← part f.type ys.toArray f.offset
            let c ← e f.type a b
            if (!c) = true then pure (ForInStep.done (some false, ())) else pure (ForInStep.yield (none, ()))
          else pure (ForInStep.yield (none, ()))
        r s : Sem Bool).run P w = .ok b w := by
  intro fs
  induction fs with
  | nil =>
    intro off ks b hf hc r hr1 hr2
    simp only [flatF, Option.some.injEq] at hf
    subst hf
    have : b = true := by
      cases hx : xs.drop off <;> cases hy : ys.drop off <;> simp_all [eqC]
    subst this
    simp [hr1]
  | cons f fs ih =>
    intro off ks b hf hc r hr1 hr2
    simp only [flatF] at hf
    split at hf
    · cases hf
    · rename_i hn
      simp only [Bool.and_eq_true, bne_iff_ne, ne_eq] at hn
      have ho := Nat.eq_of_beq_eq_true hn.2
      split at hf
      · rename_i k1 i hg hi
        split at hf
        · rename_i hsz
          have hsz := Nat.eq_of_beq_eq_true hsz
          split at hf
          · rename_i l hl
            simp only [Option.some.injEq] at hf
            subst hf
            obtain ⟨b1, b2, h1, h2, h3⟩ := eqC_split _ _ _ _ _ hc
            simp only [List.drop_drop] at h2
            obtain ⟨d, hd⟩ := hu _ _ hg
            obtain ⟨x, y, hx, hy, hxy⟩ := he f.type k1 d i off b1 hg hd hi hsz h1
            subst ho
            simp only [List.forIn_cons, Sem.run_bind, hn.1, ne_eq, not_false_eq_true, if_true, hx, hy, hxy, Result.andThen_ok]
            cases b1 with
            | false =>
              simp only [Bool.not_false, if_true, Sem.run_pure, Result.andThen_ok]
              subst h3
              exact hr2 _ _ rfl
            | true =>
              simp only [Bool.not_true, Bool.false_eq_true, if_false, Sem.run_bind, Sem.run_pure, Result.andThen_ok]
              subst h3
              have := ih _ l _ hl h2 r hr1 hr2
              simpa only [Sem.run_bind, Bool.true_and] using this
          · cases hf
        · cases hf
      · cases hf

theorem eqA_run (g : TypeId → Option (List Leaf)) (e : TypeId → Value → Value → Sem Bool) (xs ys : List Value) (t : TypeId) (ks : List Leaf) (n : Nat) (hn : n = ks.length)
    (he : ∀ off b, eqC ks ((xs.drop off).take ks.length) ((ys.drop off).take ks.length) = some b → ∃ x y, (part t xs.toArray off).run P w = .ok x w ∧ (part t ys.toArray off).run P w = .ok y w ∧ (e t x y).run P w = .ok b w) :
    ∀ (m i : Nat) (b : Bool), eqC (List.replicate m ks).flatten (xs.drop (i * n)) (ys.drop (i * n)) = some b → ∀ r : Option Bool × Unit → Sem Bool, (∀ s, s.1 = none → (r s).run P w = .ok true w) → (∀ s c, s.1 = some c → (r s).run P w = .ok c w) →
      (do
        let s ← forIn (List.range' i m) ((none, ()) : Option Bool × Unit) fun i _ => do
            let a ← part t xs.toArray (i * n)
            let b ← part t ys.toArray (i * n)
            let c ← e t a b
            if (!c) = true then pure (ForInStep.done (some false, ())) else pure (ForInStep.yield (none, ()))
        r s : Sem Bool).run P w = .ok b w := by
  intro m
  induction m with
  | zero =>
    intro i b hc r hr1 hr2
    rw [List.replicate_zero, List.flatten_nil] at hc
    have : b = true := by
      generalize xs.drop (i * n) = u at hc
      generalize ys.drop (i * n) = v at hc
      cases u <;> cases v <;> simp [eqC] at hc
      exact hc
    subst this
    simp [hr1]
  | succ m ih =>
    intro i b hc r hr1 hr2
    rw [List.replicate_succ, List.flatten_cons] at hc
    obtain ⟨b1, b2, h1, h2, h3⟩ := eqC_split _ _ _ _ _ hc
    simp only [List.drop_drop] at h2
    obtain ⟨x, y, hx, hy, hxy⟩ := he (i * n) b1 h1
    simp only [List.range'_succ, List.forIn_cons, Sem.run_bind, hx, hy, hxy, Result.andThen_ok]
    cases b1 with
    | false =>
      simp only [Bool.not_false, if_true, Sem.run_pure, Result.andThen_ok]
      subst h3
      exact hr2 _ _ rfl
    | true =>
      simp only [Bool.not_true, Bool.false_eq_true, if_false, Sem.run_bind, Sem.run_pure, Result.andThen_ok]
      subst h3
      have e1 : i * n + ks.length = (i + 1) * n := by rw [Nat.succ_mul, hn]
      rw [e1] at h2
      have := ih (i + 1) _ h2 r hr1 hr2
      simpa only [Sem.run_bind, Bool.true_and] using this
theorem equal_run : ∀ (m : Nat) (d : Nat) (t : TypeId) (ks : List Leaf) (xs ys : List Value) (b : Bool) (u : TypeDesc), flat P m t = some ks → P.underlying t = some u → eqC ks xs ys = some b →
    ∀ x y, (aggB u = true → x = .agg xs.toArray ∧ y = .agg ys.toArray) → (aggB u = false → xs = [x] ∧ ys = [y]) → (Op.equalIn (m + d) t x y).run P w = .ok b w := by
  intro m
  induction m with
  | zero => intro d t ks xs ys b u h; simp [flat] at h
  | succ m ih =>
    intro d t ks xs ys b u hf hu hc x y hag hna
    have he : ∀ (xs ys : List Value) t' k1 d' i off b1, flat P m t' = some k1 → P.underlying t' = some d' → P.info? t' = some i → i.size = k1.length → eqC k1 ((xs.drop off).take k1.length) ((ys.drop off).take k1.length) = some b1 →
        ∃ x y, (part t' xs.toArray off).run P w = .ok x w ∧ (part t' ys.toArray off).run P w = .ok y w ∧ (Op.equalIn (m + d) t' x y).run P w = .ok b1 w := by
      intro xs ys t' k1 d' i off b1 hg hd hi hsz h1
      obtain ⟨l1, l2⟩ := eqC_len _ _ _ _ h1
      simp only [List.length_take, List.length_drop] at l1 l2
      have hpx : ∀ zs : List Value, k1.length ≤ zs.length - off → aggB d' = true → partV (aggB d') zs.toArray off i.size = some (.agg ((zs.drop off).take k1.length).toArray) := by
        intro zs _ ha
        simp [partV, ha, hsz, List.extract_toArray, List.extract_eq_take_drop]
      cases ha : aggB d' with
      | true =>
        exact ⟨_, _, partV_run hd hi (hpx xs (by omega) ha), partV_run hd hi (hpx ys (by omega) ha), ih d t' k1 _ _ b1 d' hg hd h1 _ _ (fun _ => ⟨rfl, rfl⟩) (fun h => by rw [ha] at h; cases h)⟩
      | false =>
        have hk1 : k1.length = 1 := by
          cases m with
          | zero => simp [flat] at hg
          | succ m =>
            simp only [flat, hd] at hg
            split at hg
            · rename_i he; simp only [Option.some.injEq] at he; subst he; simp [aggB] at ha
            · rename_i he; simp only [Option.some.injEq] at he; subst he; simp [aggB] at ha
            · split at hg
              · simp only [Option.some.injEq] at hg; rw [← hg]; rfl
              · cases hg
            · cases hg
        have hx : off < xs.length := by omega
        have hy : off < ys.length := by omega
        refine ⟨xs[off], ys[off], partV_run hd hi (by rw [ha]; simp [partV, hx]), partV_run hd hi (by rw [ha]; simp [partV, hy]), ih d t' k1 _ _ b1 d' hg hd h1 _ _ (fun h => by rw [ha] at h; cases h) (fun _ => ⟨?_, ?_⟩)⟩
        · rw [hk1, List.drop_eq_getElem_cons hx]; rfl
        · rw [hk1, List.drop_eq_getElem_cons hy]; rfl

    simp only [flat, hu] at hf
    split at hf
    · rename_i fs heq
      simp only [Option.some.injEq] at heq
      subst heq
      obtain ⟨rfl, rfl⟩ := hag rfl
      split at hf
      · cases hf
      · rename_i hst
        rw [show m + 1 + d = (m + d) + 1 by omega, Op.equalIn]
        simp only [Sem.run_bind, run_underlying hu, Result.andThen_ok]
        rw [← Array.forIn_toList]
        have key := eqF_run (P := P) (w := w) (flat P m) (Op.equalIn (m + d)) xs ys
        have hpr : (program : Sem Program).run P w = .ok P w := rfl
        simp only [hpr, Result.andThen_ok, hst, Bool.false_eq_true, if_false]
        refine key ?_ ?_ fs.toList 0 ks b hf (by simpa using hc) _ ?_ ?_
        · exact fun t' k1 d' i off b1 hg hd hi hsz h1 => he xs ys t' k1 d' i off b1 hg hd hi hsz h1
        · intro t' k1 hg
          cases m with
          | zero => simp [flat] at hg
          | succ m =>
            simp only [flat] at hg
            cases hq : P.underlying t' with
            | none => rw [hq] at hg; simp at hg
            | some d => exact ⟨d, rfl⟩
        · rintro ⟨s, _⟩ rfl; rfl
        · rintro ⟨s, _⟩ c rfl; rfl
    · rename_i n e heq
      simp only [Option.some.injEq] at heq
      subst heq
      obtain ⟨rfl, rfl⟩ := hag rfl
      split at hf
      · rename_i k1 i hg hi
        split at hf
        · rename_i hsz
          have hsz := Nat.eq_of_beq_eq_true hsz
          simp only [Option.some.injEq] at hf
          subst hf
          have hd : ∃ d', P.underlying e = some d' := by
            cases m with
            | zero => simp [flat] at hg
            | succ m =>
              simp only [flat] at hg
              cases hq : P.underlying e with
              | none => rw [hq] at hg; simp at hg
              | some d => exact ⟨d, rfl⟩
          obtain ⟨d', hd⟩ := hd
          rw [show m + 1 + d = (m + d) + 1 by omega, Op.equalIn]
          simp only [Sem.run_bind, run_underlying hu, Result.andThen_ok, run_sizeOf' hi]
          simp only [Std.Legacy.Range.forIn_eq_forIn_range', Std.Legacy.Range.size, Nat.sub_zero, Nat.add_one_sub_one, Nat.div_one]
          have key := eqA_run (P := P) (w := w) (flat P m) (Op.equalIn (m + d)) xs ys e k1 i.size hsz (fun off b1 h1 => he xs ys e k1 d' i off b1 hg hd hi hsz h1)
          have k2 := fun r h1 h2 => key n 0 b (by simpa using hc) r h1 h2
          simp only [Sem.run_bind] at k2
          refine k2 _ ?_ ?_
          · rintro ⟨s, _⟩ rfl; rfl
          · rintro ⟨s, _⟩ c rfl; rfl
        · cases hf
      · cases hf
    · rename_i u' heq hne
      simp only [Option.some.injEq] at hne
      subst hne
      rw [show m + 1 + d = (m + d) + 1 by omega, Op.equalIn]
      simp only [Sem.run_bind, run_underlying hu, Result.andThen_ok]
      cases u <;> simp only [leafOf] at hf <;> try (cases hf; done)
      all_goals
        simp only [Option.some.injEq] at hf
        subst hf
        obtain ⟨rfl, rfl⟩ := hna rfl
        simp only [eqC] at hc
        split at hc
        · rename_i b1 b2 h1 h2
          simp only [Option.some.injEq] at h2 hc
          subst h2
          rw [Bool.and_true] at hc
          subst hc
          cases x <;> simp only [eq1] at h1 <;> try (cases h1; done)
          all_goals
            cases y <;> simp only [eq1] at h1 <;> try (cases h1; done)
          all_goals
            first
              | (simp only [Option.some.injEq] at h1; subst h1; rfl)
              | (split at h1
                 · rename_i hk
                   simp only [Option.some.injEq] at h1
                   subst h1
                   simp [hk]
                 · cases h1)
        · cases hc
    · cases hf

/-- a struct's '==' -/
class EqS (P : Program) (t : TypeId) (ks : outParam (List Leaf)) : Prop where
  ok : ∃ u, P.underlying t = some u ∧ aggB u = true ∧ flat P 8 t = some ks ∧ P.eqGuardType P.depth t = false
theorem EqS.mk' {t : TypeId} {ks : List Leaf} (h1 : (P.underlying t).map aggB = some true) (h2 : flat P 8 t = some ks) (h3 : P.eqGuardType P.depth t = false) : EqS P t ks := by
  obtain ⟨u, hu, ha⟩ := Option.map_eq_some_iff.1 h1
  exact ⟨u, hu, ha, h2, h3⟩
theorem aggEq_run {t : TypeId} {ks : List Leaf} [he : EqS P t ks] {xs ys : List Value} {b : Bool} (hb : eqC ks xs ys = some b) : (aggEq .eql t (.agg xs.toArray) (.agg ys.toArray)).run P w = .ok (.bool b) w ∧ (aggEq .neq t (.agg xs.toArray) (.agg ys.toArray)).run P w = .ok (.bool !b) w := by
  obtain ⟨u, h1, h0, h2, h3⟩ := he.ok
  have := equal_run (P := P) (w := w) 8 9992 t ks xs ys b _ h2 h1 hb (.agg xs.toArray) (.agg ys.toArray) (fun _ => ⟨rfl, rfl⟩) (fun h => by rw [h0] at h; cases h)
  have hm : Op.equal t (.agg xs.toArray) (.agg ys.toArray) = Op.equalIn (8 + 9992) t (.agg xs.toArray) (.agg ys.toArray) := rfl
  have hpr : (program : Sem Program).run P w = .ok P w := rfl
  have hg : ∀ op, op = .eql ∨ op = .neq → (eqGuard op t (.tmp 0) (.tmp 0) (.agg xs.toArray) (.agg ys.toArray)).run P w = .ok () w := by
    rintro op (rfl | rfl) <;> simp [eqGuard, hpr, h3]
  constructor
  · simp only [aggEq, Sem.run_bind, hg _ (.inl rfl), Result.andThen_ok, binOp, hm, this, Sem.run_pure]
  · simp only [aggEq, Sem.run_bind, hg _ (.inr rfl), Result.andThen_ok, binOp, hm, this, Sem.run_pure]
theorem eqs {t : TypeId} {ks : List Leaf} [EqS P t ks] {xs ys : List Value} {k : Value → World → Prop} (hk : ∃ b, eqC ks xs ys = some b ∧ k (.bool b) w) : rdK P (aggEq .eql t (.agg xs.toArray) (.agg ys.toArray)) k w := by
  obtain ⟨b, hb, hk⟩ := hk
  exact ⟨.bool b, (aggEq_run hb).1, hk⟩
theorem nes {t : TypeId} {ks : List Leaf} [EqS P t ks] {xs ys : List Value} {k : Value → World → Prop} (hk : ∃ b, eqC ks xs ys = some b ∧ k (.bool !b) w) : rdK P (aggEq .neq t (.agg xs.toArray) (.agg ys.toArray)) k w := by
  obtain ⟨b, hb, hk⟩ := hk
  exact ⟨.bool !b, (aggEq_run hb).2, hk⟩
end
end Go.Eng
