/- Own engine: clear; what a function value says of an element. -/
import Derived.Test.YtmojfpaagokckaaSl4
namespace Go.Eng
set_option linter.unusedVariables false
set_option linter.unusedSimpArgs false
open Go Go.RowKit
section
variable {α : Type} {A : Ly α} {P : Program} {W0 W W' : World} {L L' : List Asn} {e : TypeId} {a : Option Addr} {c : Nat} {l : List α}
theorem arr_pre (i : Nat) : ∀ p, arr A e a c l p → arr A e a c (l.take i) p := by
  rintro p ⟨h5, h6, h7⟩
  refine ⟨by simp; omega, h6, ?_⟩
  rcases h7 with ⟨rfl, rfl, h7⟩ | ⟨g, o, cur, rfl, h8, h9, h10⟩
  · exact .inl ⟨rfl, rfl, h7⟩
  · refine .inr ⟨g, o, cur, rfl, h8, ?_, h10⟩
    rw [← Ly.rows_take, ← h9, List.take_take, List.length_take, Nat.min_def, Nat.min_def]
    by_cases h : i ≤ l.length
    · rw [if_pos h, if_pos (Nat.mul_le_mul_right _ h)]
    · rw [if_neg h]
      by_cases h' : i * A.sz ≤ l.length * A.sz
      · rw [if_pos h', Nat.le_antisymm h' (Nat.mul_le_mul_right _ (by omega))]
      · rw [if_neg h']
theorem clrA {t ty : TypeId} {sz by' i n : Nat} {z : Value} [ht : TyS P t e sz by' z] {a' : Option Addr} {c' : Nat} {k : Value → World → Prop} (h : St W0 L W) [ho : Own a L A e c l L'] (hs : A.sz = sz) (hz1 : (vcells z).all oneC = true) (hi : i ≤ l.length)
    (ha : a' = if c = i then a else a.map (·.add (i * sz))) (hn : n = l.length - i) (hk : ∀ W', St W0 (arr A e a c (l.take i) :: L') W' → k (.tuple #[]) W') : efK P (Builtin.clear_ #[t] ty #[.slice a' n c']) k W := by
  subst hs
  obtain ⟨⟨x, h1, h2, h3, h4, h5⟩, hzz⟩ := ht.ok
  have h := h.took (a := a)
  have hf := h.arrFacts
  by_cases hn0 : n = 0
  · subst hn0
    refine ⟨_, W, ?_, hk W (h.weak (arr_pre i))⟩
    simp only [Builtin.clear_, List.getElem?_toArray, List.getElem?_cons_zero, Sem.run_bind, run_underlying h1, Result.andThen_ok]
    cases a' <;> rfl
  · have ha0 : a ≠ none := fun e => by have := hf.2.2.1 e; omega
    obtain ⟨g, o, cur, rfl, h6, h7, h8⟩ := h.arrCells ha0
    rw [if_neg (by omega)] at ha
    simp only [Option.map_some, add_none] at ha
    subst ha
    have hle : l.length * A.sz ≤ c * A.sz := Nat.mul_le_mul_right _ hf.1
    have hil : i * A.sz + (l.length - i) * A.sz = l.length * A.sz := by rw [← Nat.add_mul]; congr 1; omega
    have hzl : (Builtin.zeroCells z.cells n).toList.length = n * A.sz := by rw [zeroCells_len, hzz]
    have hone : (Builtin.zeroCells z.cells n).toList.all oneC = true := by
      rw [List.all_eq_true]
      intro u hu
      simp only [Builtin.zeroCells, Array.toList_map, List.mem_map, Array.toList_range, List.mem_range] at hu
      obtain ⟨j, hj, rfl⟩ := hu
      have hpos := A.pos
      have hm : j % z.cells.size < z.cells.size := Nat.mod_lt _ (by rw [hzz]; exact hpos)
      rw [← vcells_eq] at hz1
      have := List.all_eq_true.1 hz1 z.cells[j % z.cells.size]! (by simp [hm])
      exact this
    obtain ⟨W1, hr, hs'⟩ := storeCells_over (P := P) (off := o + i * A.sz) h8 hone (by rw [hzl, hn]; omega)
    refine ⟨_, W1, ?_, hk W1 (hs'.ent (arr_of_cells (by simp; omega) hf.2.1 (by rw [List.length_append, List.length_append, hzl]; simp; rw [hn]; omega) ?_))⟩
    · simp only [Builtin.clear_, List.getElem?_toArray, List.getElem?_cons_zero, Sem.run_bind, run_underlying h1, Result.andThen_ok]
      have hz' := run_zeroValue' (P := P) (w := W) h2 h5
      obtain ⟨m, rfl⟩ : ∃ m, n = m + 1 := ⟨n - 1, by omega⟩
      simp only [hz', Result.andThen_ok, hr, Sem.run_bind]
      rfl
    · rw [List.append_assoc, List.drop_append_of_le_length (by simp; omega), List.drop_take, Nat.add_sub_cancel_left, List.length_take, Nat.min_eq_left hi,
        List.take_append_of_le_length (by simp; omega), List.take_take, Nat.min_self, ← Ly.rows_take, ← h7, List.take_take, Nat.min_eq_left (by omega)]
theorem slcStr_eq {s : ByteArray} {lo hi : Option Value} {l h : Nat} (h1 : bnd hi s.size s.size = some h) (h2 : bnd lo 0 h = some l) : slcStr (.string s) lo hi = some (.string (s.extract l h)) := by
  have e1 : slcB s.size s.size lo hi none = some (l, h, s.size) := by
    cases hi with
    | none => rw [bnd_none] at h1; cases h1; simp only [slcB, bnd_none, h2]
    | some v => simp only [slcB, bnd_none, h1, h2]
  simp only [slcStr, e1]
theorem ba_ext (l : List UInt8) (i j : Nat) : (⟨l.toArray⟩ : ByteArray).extract i j = ⟨((l.take j).drop i).toArray⟩ := by
  apply ByteArray.ext
  simp [ByteArray.data_extract, List.extract_toArray, List.extract_eq_take_drop, List.drop_take]
theorem min2i {k : IntKind} {a b : Int} : foldP min2P [.int k a, .int k b] = some (.int k (if b < a then b else a)) := rfl
theorem max2i {k : IntKind} {a b : Int} : foldP max2P [.int k a, .int k b] = some (.int k (if a < b then b else a)) := rfl
/-- an element, as a value -/
def Ly.val (A : Ly α) (agg : Bool) (x : α) : Value := if agg then .agg (A.row x).toArray else (A.row x).headD undef
theorem Ly.val_agg (x : α) : A.val true x = .agg (A.row x).toArray := rfl
/-- a function value that tests an element; what it needs is C -/
def PredF (P : Program) (A : Ly α) (agg : Bool) (C : Asn) (fv : Value) (p : α → Bool) : Prop :=
  ∀ (W0 : World) (L : List Asn) (x : α) (W : World) (k : Value → World → Prop), St W0 (C :: L) W → (∀ W', St W0 (C :: L) W' → k (.bool (p x)) W') → vcK P fv [A.val agg x] k W
theorem lsub_self : ∀ (l : List Value), lsub l 0 l.length = l
  | [] => rfl
  | v :: l => by simp [lsub, lsub_self l]
theorem getL_val {agg : Bool} {sz : Nat} (hs : A.sz = sz) (h1 : agg = false → sz = 1) (x : α) : getL agg (A.row x) 0 sz = some (A.val agg x) := by
  subst hs
  cases agg with
  | true => rw [Ly.val_agg, getL, ← A.len x, lsub_self]
  | false =>
    have hl := A.len x
    rw [h1 rfl] at hl
    match h : A.row x, hl with
    | [v], _ => simp [getL, lget, Ly.val, h]
theorem val_cells {agg : Bool} {sz : Nat} (hs : A.sz = sz) (h1 : agg = false → sz = 1) (x : α) : vcells (A.val agg x) = A.row x := by
  subst hs
  cases agg with
  | true => rw [Ly.val_agg, vcells_agg]
  | false =>
    have hl := A.len x
    have ho := A.one x
    rw [h1 rfl] at hl
    match h : A.row x, hl, ho with
    | [v], _, ho =>
      have h2 : A.val false x = v := by simp [Ly.val, h]
      rw [h2]
      cases v <;> first | rfl | (simp [oneC] at ho)
/-- a new variable that is laid at once -/
theorem newV (x : α) {t : TypeId} {agg : Bool} {sz : Nat} {z : Value} [ht : TyI P t agg sz] [hz : TyZ P t z] {k : Value → World → Prop} (h : St W0 L W) (hs : A.sz = sz) (h1 : agg = false → sz = 1) (hzl : (vcells z).length = sz)
    (hk : ∀ b W', St W0 (cells b (A.row x) t :: L) W' → k (.pointer (some ⟨b, 0, none⟩)) W') :
    efK P (Instr.alloc t true (.tuple #[])) (fun v W => efK P (Instr.storeAt t v (A.val agg x)) (fun _ W => k v W) W) W := by
  refine al h fun b W1 h => ?_
  have e : stL (vcells z) 0 (vcells (A.val agg x)) = A.row x := by
    rw [val_cells hs h1, stL_eq _ _ _ (by rw [A.len]; omega), A.len, Nat.zero_add, List.drop_eq_nil_of_le (by omega)]
    simp
  refine sto (off := 0) h (by rw [val_cells hs h1, A.len, hs]) (by omega) (by rw [val_cells hs h1]; exact A.one _) fun W2 h => ?_
  rw [e] at h
  exact hk b W2 h
theorem ldV (x : α) {t : TypeId} {agg : Bool} {sz b : Nat} {T : TypeId} [ht : TyI P t agg sz] {k : Value → World → Prop} (h : St W0 L W) [hc : Ck b L (A.row x) T L'] (hs : A.sz = sz) (h1 : agg = false → sz = 1) (hk : k (A.val agg x) W) :
    rdK P (Instr.loadAt t (.pointer (some ⟨b, 0, none⟩))) k W := ld h (getL_val hs h1 x) (fun _ => by rw [A.len]; omega) hk
theorem slc_pre {sz n i : Nat} {k : IntKind} {K : Value → Prop} (h : St W0 (arr A e a c l :: L) W) (hi : i ≤ c) (hk : K (.slice a i c)) : okF (slcS sz (.slice a n c) none (some (.int k (i : Int))) none) K := by
  refine okF_i (slcS_eq (bnd_nat hi) bnd_none) ?_
  have hf := h.arrFacts
  by_cases hc : c = 0
  · rw [if_pos hc]; simpa using hk
  · obtain ⟨g, o, rfl⟩ := hf.2.2.2 (by omega)
    rw [if_neg hc]
    simpa [add_none] using hk
end
end Go.Eng
