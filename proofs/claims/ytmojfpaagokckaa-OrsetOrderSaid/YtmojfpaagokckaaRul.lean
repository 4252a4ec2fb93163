/-
  Own engine, part 7: the rules of a walk over a printed chain.
-/
import Derived.Test.YtmojfpaagokckaaSep
import Derived.IntWalk
import Derived.Laws.Strings
namespace Go.Eng
set_option linter.unusedVariables false
set_option linter.unusedSimpArgs false
open Go Go.RowKit

/-! ### pure -/
theorem okF_i {r : Option Value} {v : Value} {k : Value → Prop} (h : r = some v) (hk : k v) : okF r k := by subst h; exact hk
@[simp] theorem okF_some {v : Value} {k : Value → Prop} : okF (some v) k = k v := rfl
@[simp] theorem gdK_true {A : (Value → World → Prop) → World → Prop} {k : Value → World → Prop} {W : World} : gdK true A k W = A k W := rfl
@[simp] theorem gdK_false {A : (Value → World → Prop) → World → Prop} {k : Value → World → Prop} {W : World} : gdK false A k W = k undef W := rfl
@[simp] theorem wantd_t {b : Bool} : wantd (.bool b) true = b := by cases b <;> rfl
@[simp] theorem wantd_f {b : Bool} : wantd (.bool b) false = !b := by cases b <;> rfl
@[simp] theorem wantd_undef {w : Bool} : wantd undef w = false := rfl
@[simp] theorem ifK_true {A B : Prop} : ifK (.bool true) A B = A := rfl
@[simp] theorem ifK_false {A B : Prop} : ifK (.bool false) A B = B := rfl
theorem ifK_b {b : Bool} {A B : Prop} (ht : b = true → A) (hf : b = false → B) : ifK (.bool b) A B := by cases b; exact hf rfl; exact ht rfl
theorem ifK_d {p : Prop} [Decidable p] {A B : Prop} (ht : p → A) (hf : ¬ p → B) : ifK (.bool (decide p)) A B := by
  by_cases h : p
  · rw [decide_eq_true h]; exact ht h
  · rw [decide_eq_false h]; exact hf h
theorem gdK_b {b : Bool} {A : (Value → World → Prop) → World → Prop} {k : Value → World → Prop} {W : World} (ht : b = true → A k W) (hf : b = false → k undef W) : gdK b A k W := by
  cases b; exact hf rfl; exact ht rfl
@[simp] theorem pickP_true {a b : Value} : pickP (.bool true) a b = some a := rfl
@[simp] theorem pickP_false {a b : Value} : pickP (.bool false) a b = some b := rfl
theorem pickP_bool {c a b : Bool} : pickP (.bool c) (.bool a) (.bool b) = some (.bool (if c then a else b)) := by cases c <;> rfl
theorem intB (a b : Int) : (a == b) = decide (a = b) := rfl
theorem boolB (a b : Bool) : (a == b) = decide (a = b) := by cases a <;> cases b <;> rfl
section ints
variable {k : IntKind} {a b : Int}
@[simp] theorem binP_add : binP .add (.int k a) (.int k b) = some (.int k (k.wrap (a + b))) := by simp [binP]
@[simp] theorem binP_sub : binP .sub (.int k a) (.int k b) = some (.int k (k.wrap (a - b))) := by simp [binP]
@[simp] theorem binP_mul : binP .mul (.int k a) (.int k b) = some (.int k (k.wrap (a * b))) := by simp [binP]
@[simp] theorem binP_eql : binP .eql (.int k a) (.int k b) = some (.bool (decide (a = b))) := by simp [binP, intB]
@[simp] theorem binP_neq : binP .neq (.int k a) (.int k b) = some (.bool (!decide (a = b))) := by simp [binP, bne, intB]
@[simp] theorem binP_lss : binP .lss (.int k a) (.int k b) = some (.bool (decide (a < b))) := by simp [binP]
@[simp] theorem binP_leq : binP .leq (.int k a) (.int k b) = some (.bool (decide (a ≤ b))) := by simp [binP]
@[simp] theorem binP_gtr : binP .gtr (.int k a) (.int k b) = some (.bool (decide (b < a))) := by simp [binP]
@[simp] theorem binP_geq : binP .geq (.int k a) (.int k b) = some (.bool (decide (b ≤ a))) := by simp [binP]
@[simp] theorem binP_and : binP .and (.int k a) (.int k b) = some (.int k (k.wrap (BitVec.ofInt k.bits a &&& BitVec.ofInt k.bits b).toNat)) := by simp [binP]
@[simp] theorem binP_or : binP .or (.int k a) (.int k b) = some (.int k (k.wrap (BitVec.ofInt k.bits a ||| BitVec.ofInt k.bits b).toNat)) := by simp [binP]
@[simp] theorem binP_xor : binP .xor (.int k a) (.int k b) = some (.int k (k.wrap (BitVec.ofInt k.bits a ^^^ BitVec.ofInt k.bits b).toNat)) := by simp [binP]
@[simp] theorem binP_andNot : binP .andNot (.int k a) (.int k b) = some (.int k (k.wrap (BitVec.ofInt k.bits a &&& ~~~(BitVec.ofInt k.bits b)).toNat)) := by simp [binP]
theorem binP_quo (h : b ≠ 0) : binP .quo (.int k a) (.int k b) = some (.int k (k.wrap (a.tdiv b))) := by simp [binP, h]
theorem binP_rem (h : b ≠ 0) : binP .rem (.int k a) (.int k b) = some (.int k (a.tmod b)) := by simp [binP, h]
theorem binP_shl {k' : IntKind} (h : 0 ≤ b) : binP .shl (.int k a) (.int k' b) = some (.int k (k.wrap (a * 2 ^ (min b.toNat k.bits)))) := by simp [binP, show ¬ b < 0 by omega]
theorem binP_shr {k' : IntKind} (h : 0 ≤ b) : binP .shr (.int k a) (.int k' b) = some (.int k (a.fdiv (2 ^ (min b.toNat k.bits)))) := by simp [binP, show ¬ b < 0 by omega]
@[simp] theorem unP_neg : unP .neg (.int k a) = some (.int k (k.wrap (0 - a))) := rfl
@[simp] theorem unP_not {c : Bool} : unP .not (.bool c) = some (.bool !c) := rfl
@[simp] theorem cvtP_int {k' : IntKind} : cvtP (.int k') (.int k a) = some (.int k' (k'.wrap a)) := rfl
@[simp] theorem cvtP_string {s : ByteArray} : cvtP .string (.string s) = some (.string s) := rfl
end ints
section strs
variable {s t : ByteArray}
theorem baB (a b : ByteArray) : (a == b) = decide (a = b) := by
  have : (a == b) = true ↔ a = b := by
    cases a with | mk d => cases b with | mk e =>
    show (d == e) = true ↔ _
    simp
  by_cases h : a = b
  · rw [decide_eq_true h]; exact this.2 h
  · rw [decide_eq_false h]; cases hb : (a == b) with | false => rfl | true => exact absurd (this.1 hb) h
theorem baL (a b : ByteArray) : (a.toList == b.toList) = decide (a = b) := by
  by_cases h : a = b
  · subst h; simp
  · rw [decide_eq_false h]
    cases hb : (a.toList == b.toList) with
    | false => rfl
    | true =>
      rw [beq_iff_eq, ByteArray.toList_eq, ByteArray.toList_eq] at hb
      exact absurd (ByteArray.ext (Array.toList_inj.1 hb)) h
@[simp] theorem binPs_eql : binP .eql (.string s) (.string t) = some (.bool (decide (s = t))) := by
  have : binP .eql (.string s) (.string t) = some (.bool (s.toList == t.toList)) := rfl
  rw [this, baL]
@[simp] theorem binPs_neq : binP .neq (.string s) (.string t) = some (.bool !decide (s = t)) := by
  have : binP .neq (.string s) (.string t) = some (.bool !(s.toList == t.toList)) := rfl
  rw [this, baL]
@[simp] theorem lenP_string : lenP .string (.string s) = some (.int .i64 s.size) := rfl
end strs
@[simp] theorem lenP_slice {e : TypeId} {a : Option Addr} {n c : Nat} : lenP (.slice e) (.slice a n c) = some (.int .i64 n) := rfl
@[simp] theorem capP_slice {e : TypeId} {a : Option Addr} {n c : Nat} : capP (.slice e) (.slice a n c) = some (.int .i64 c) := rfl
@[simp] theorem lenP_array {e : TypeId} {n : Nat} {v : Value} : lenP (.array n e) v = some (.int .i64 n) := by cases v <;> rfl
@[simp] theorem addrF_ptr {off : Nat} {a : Addr} : addrF off (.pointer (some a)) = some (.pointer (some (a.add off))) := rfl
@[simp] theorem nilP_ptr {a : Addr} : nilP (.pointer (some a)) = some (.pointer (some a)) := rfl
theorem add_none (b o n : Nat) : (⟨b, o, none⟩ : Addr).add n = ⟨b, o + n, none⟩ := by unfold Addr.add; split <;> simp_all
@[simp] theorem addrF_blk {off b o : Nat} : addrF off (.pointer (some ⟨b, o, none⟩)) = some (.pointer (some ⟨b, o + off, none⟩)) := by rw [addrF_ptr, add_none]
theorem idxS_blk {sz b o n c : Nat} {k : IntKind} {i : Int} (h0 : 0 ≤ i) (h1 : i < n) : idxS sz (.slice (some ⟨b, o, none⟩) n c) (.int k i) = some (.pointer (some ⟨b, o + i.toNat * sz, none⟩)) := by
  simp [idxS, h0, h1, add_none]
theorem idxA_blk {len sz b o : Nat} {k : IntKind} {i : Int} (h0 : 0 ≤ i) (h1 : i < len) : idxA len sz (.pointer (some ⟨b, o, none⟩)) (.int k i) = some (.pointer (some ⟨b, o + i.toNat * sz, none⟩)) := by
  simp [idxA, h0, h1, add_none]
@[simp] theorem extP_0 {a : Value} {l : List Value} : extP 0 (.tuple (a :: l).toArray) = some a := by simp [extP]
@[simp] theorem extP_1 {a b : Value} {l : List Value} : extP 1 (.tuple (a :: b :: l).toArray) = some b := by simp [extP]
@[simp] theorem extP_2 {a b c : Value} {l : List Value} : extP 2 (.tuple (a :: b :: c :: l).toArray) = some c := by simp [extP]
@[simp] theorem extP_3 {a b c d : Value} {l : List Value} : extP 3 (.tuple (a :: b :: c :: d :: l).toArray) = some d := by simp [extP]
@[simp] theorem eqP_nilptr {e : TypeId} {a : Option Addr} : eqP (.pointer e) .eql (.pointer a) (.pointer none) = some (.bool a.isNone) := by cases a <;> rfl
@[simp] theorem neP_nilptr {e : TypeId} {a : Option Addr} : eqP (.pointer e) .neq (.pointer a) (.pointer none) = some (.bool !a.isNone) := by cases a <;> rfl
@[simp] theorem eqP_nilsl {e : TypeId} {a : Option Addr} {n c : Nat} : eqP (.slice e) .eql (.slice a n c) (.slice none 0 0) = some (.bool a.isNone) := by cases a <;> rfl
@[simp] theorem neP_nilsl {e : TypeId} {a : Option Addr} {n c : Nat} : eqP (.slice e) .neq (.slice a n c) (.slice none 0 0) = some (.bool !a.isNone) := by cases a <;> rfl
@[simp] theorem eqP_bool {a b : Bool} : eqP .bool .eql (.bool a) (.bool b) = some (.bool (a == b)) := rfl
@[simp] theorem neP_bool {a b : Bool} : eqP .bool .neq (.bool a) (.bool b) = some (.bool !(a == b)) := rfl

@[simp] theorem nthv_zero {a : Value} {l : List Value} : nthv (a :: l) 0 = a := rfl
@[simp] theorem nthv_succ {a : Value} {l : List Value} {n : Nat} : nthv (a :: l) (n + 1) = nthv l n := rfl
/-! ### types: what the rules ask of a type's row -/
class TyI (P : Program) (t : TypeId) (agg : outParam Bool) (sz : outParam Nat) : Prop where
  ok : ∃ d i, P.underlying t = some d ∧ aggB d = agg ∧ P.info? t = some i ∧ i.size = sz
class TyZ (P : Program) (t : TypeId) (z : outParam Value) : Prop where
  ok : ∃ i, P.info? t = some i ∧ i.zero = some z
class TyS (P : Program) (t : TypeId) (e : outParam TypeId) (sz : outParam Nat) (bytes : outParam Nat) (z : outParam Value) : Prop where
  ok : (∃ i, P.underlying t = some (.slice e) ∧ P.info? e = some i ∧ i.size = sz ∧ i.bytes = bytes ∧ i.zero = some z) ∧ z.cells.size = sz

section
variable {P : Program} {W0 W : World} {L L' : List Asn}

theorem loadCellsFrom_run (a : Addr) (v : Array Value) (hv : ∀ j, j < v.size → W.cell? (a.add j) = v[j]?) : ∀ (n i : Nat) (acc : Array Value), i + n = v.size →
    (loadCellsFrom a i n acc).run P W = .ok (acc ++ v.extract i v.size) W
  | 0, i, acc, h => by
    have : v.extract i v.size = #[] := by apply Array.ext_getElem?; intro j; simp; omega
    simp [loadCellsFrom, this]
  | n + 1, i, acc, h => by
    have hi : i < v.size := by omega
    have hc := hv i hi
    rw [Array.getElem?_eq_getElem hi] at hc
    simp only [loadCellsFrom, Sem.run_bind]
    have hl : (load (a.add i)).run P W = .ok v[i] W := by simp [load, Sem.run, hc]
    rw [hl]
    simp only [Result.andThen_ok]
    rw [loadCellsFrom_run a v hv n (i + 1) _ (by omega)]
    congr 1
    apply Array.ext_getElem?
    intro j
    simp only [Array.getElem?_append, Array.size_push, Array.getElem?_push, Array.getElem?_extract]
    by_cases h1 : j < acc.size
    · simp [h1, show j < acc.size + 1 by omega, show ¬ j = acc.size by omega]
    · by_cases h2 : j = acc.size
      · subst h2; simp [hi]; omega
      · have h3 : ¬ j < acc.size + 1 := by omega
        simp only [h1, h3, if_false]
        have h4 : i + (j - acc.size) = i + 1 + (j - (acc.size + 1)) := by omega
        rw [h4]
        by_cases h5 : j - acc.size < v.size - i
        · rw [if_pos (by omega), if_pos (by omega)]
        · rw [if_neg (by omega), if_neg (by omega)]

theorem loadCells_run (a : Addr) (v : Array Value) (hv : ∀ j, j < v.size → W.cell? (a.add j) = v[j]?) : (loadCells a v.size).run P W = .ok v W := by
  unfold loadCells
  rw [loadCellsFrom_run a v hv v.size 0 #[] (by omega)]
  congr 1
  apply Array.ext_getElem?; intro j; simp

/-- a place of a list, some places of a list, without a bound's test -/
def lget : List Value → Nat → Option Value
  | [], _ => none
  | v :: _, 0 => some v
  | _ :: l, n + 1 => lget l n
def lsub : List Value → Nat → Nat → List Value
  | _, 0, 0 => []
  | [], _, _ => []
  | v :: l, 0, n + 1 => v :: lsub l 0 n
  | _ :: l, o + 1, n => lsub l o n
theorem lget_eq : ∀ (l : List Value) (n : Nat), lget l n = l[n]?
  | [], n => by simp [lget]
  | v :: l, 0 => rfl
  | v :: l, n + 1 => by simp [lget, lget_eq l n]
theorem lsub_eq : ∀ (l : List Value) (o n : Nat), lsub l o n = (l.drop o).take n
  | [], 0, 0 => rfl
  | _ :: _, 0, 0 => by simp [lsub]
  | [], 0, n + 1 => rfl
  | [], o + 1, n => by cases n <;> rfl
  | v :: l, 0, n + 1 => by simp [lsub, lsub_eq l 0 n]
  | v :: l, o + 1, n => by cases n <;> simp [lsub, lsub_eq l o]
theorem fldV_f {l : List Value} {n sz : Nat} : fldV false n sz (.agg l.toArray) = lget l n := by simp [fldV, partV, lget_eq]
theorem fldV_t {l : List Value} {n sz : Nat} : fldV true n sz (.agg l.toArray) = some (.agg (lsub l n sz).toArray) := by
  simp only [fldV, partV, lsub_eq]
  congr 2
  simp [List.extract_toArray, List.extract_eq_take_drop]
/-- what a load reads from a row -/
def getL (agg : Bool) (l : List Value) (off sz : Nat) : Option Value := match agg with | true => some (.agg (lsub l off sz).toArray) | false => lget l off
def vcells : Value → List Value
  | .agg cs => cs.toList
  | v => [v]
theorem vcells_eq (v : Value) : v.cells.toList = vcells v := by cases v <;> rfl
theorem vcells_eq' (v : Value) : v.cells = (vcells v).toArray := by rw [← vcells_eq]
@[simp] theorem vcells_agg {l : List Value} : vcells (.agg l.toArray) = l := rfl
@[simp] theorem vcells_int {k : IntKind} {a : Int} : vcells (.int k a) = [.int k a] := rfl
@[simp] theorem vcells_bool {a : Bool} : vcells (.bool a) = [.bool a] := rfl
@[simp] theorem vcells_string {a : ByteArray} : vcells (.string a) = [.string a] := rfl
@[simp] theorem vcells_slice {a : Option Addr} {n c : Nat} : vcells (.slice a n c) = [.slice a n c] := rfl
@[simp] theorem vcells_map {a : Option Nat} : vcells (.map a) = [.map a] := rfl
@[simp] theorem vcells_pointer {a : Option Addr} : vcells (.pointer a) = [.pointer a] := rfl

theorem loadAt_run {t : TypeId} {agg : Bool} {sz : Nat} [ht : TyI P t agg sz] {b off : Nat} {cs : List Value} {v : Value}
    (hc : ∀ j, j < cs.length → W.cell? ⟨b, j, none⟩ = cs[j]?) (hv : getL agg cs off sz = some v) (hsz : agg = true → off + sz ≤ cs.length) : (Instr.loadAt t (.pointer (some ⟨b, off, none⟩))).run P W = .ok v W := by
  obtain ⟨d, i, h1, h2, h3, h4⟩ := ht.ok
  simp only [Instr.loadAt, Instr.sureAddr, pure_bind, loadVar, Sem.run_bind, run_isAgg' h1, Result.andThen_ok, h2]
  cases agg with
  | true =>
    simp only [getL, Option.some.injEq, lsub_eq] at hv
    subst hv
    have hle := hsz rfl
    simp only [if_true, Sem.run_bind, run_sizeOf' h3, Result.andThen_ok, h4]
    have hs : ((cs.drop off).take sz).length = sz := by simp; omega
    have := loadCells_run (P := P) (W := W) ⟨b, off, none⟩ ((cs.drop off).take sz).toArray (fun j hj => by
      rw [add_none]
      simp only [List.size_toArray, hs] at hj
      rw [hc (off + j) (by omega), List.getElem?_toArray, List.getElem?_take_of_lt hj, List.getElem?_drop])
    rw [List.size_toArray, hs] at this
    rw [this]
    simp
  | false =>
    simp only [getL, lget_eq] at hv
    have hlt : off < cs.length := (List.getElem?_eq_some_iff.1 hv).1
    have hcell := hc off hlt
    simp [load, Sem.run, hcell, hv]

theorem St.cellOf {b : Nat} {cs : List Value} {T : TypeId} {L' : List Asn} [hk : Ck b L cs T L'] (h : St W0 L W) (j : Nat) (hj : j < cs.length) : W.cell? ⟨b, j, none⟩ = cs[j]? ∧ W.frozen? ⟨b, j, none⟩ = false := by
  obtain ⟨fr, hf, h⟩ := (h.perm hk.perm).cells
  have := h.blk.2
  exact ⟨by simp [World.cell?, this], by simp only [World.frozen?, this]; exact hf j hj⟩

/-- a load from an owned row -/
theorem ld {t : TypeId} {agg : Bool} {sz : Nat} [TyI P t agg sz] {b off : Nat} {cs : List Value} {T : TypeId} {L' : List Asn} [Ck b L cs T L'] {v : Value} {k : Value → World → Prop}
    (h : St W0 L W) (hv : getL agg cs off sz = some v) (hsz : agg = true → off + sz ≤ cs.length) (hk : k v W) : rdK P (Instr.loadAt t (.pointer (some ⟨b, off, none⟩))) k W :=
  ⟨v, loadAt_run (fun j hj => (h.cellOf j hj).1) hv hsz, hk⟩
theorem ldx {t : TypeId} {agg : Bool} {sz : Nat} [TyI P t agg sz] {b off : Nat} {cs : List Value} {T : TypeId} {L' : List Asn} [Ck b L cs T L'] {k : Value → World → Prop}
    (h : St W0 L W) (hsz : agg = true → off + sz ≤ cs.length) (hk : ∃ v, getL agg cs off sz = some v ∧ k v W) : rdK P (Instr.loadAt t (.pointer (some ⟨b, off, none⟩))) k W :=
  let ⟨v, hv, hk⟩ := hk
  ⟨v, loadAt_run (fun j hj => (h.cellOf j hj).1) hv hsz, hk⟩
theorem ld_run {t : TypeId} {agg : Bool} {sz : Nat} [TyI P t agg sz] {b off : Nat} {cs : List Value} {T : TypeId} {L' : List Asn} [Ck b L cs T L'] {v : Value}
    (h : St W0 L W) (hv : getL agg cs off sz = some v) (hsz : agg = true → off + sz ≤ cs.length) : (Instr.loadAt t (.pointer (some ⟨b, off, none⟩))).run P W = .ok v W :=
  loadAt_run (fun j hj => (h.cellOf j hj).1) hv hsz

/-! ### what was there -/
def ro (W : World) (b o : Nat) (cs : List Value) : Prop := ∀ j, j < cs.length → W.cell? ⟨b, o + j, none⟩ = cs[j]?
theorem loadAt_ro {t : TypeId} {agg : Bool} {sz : Nat} [ht : TyI P t agg sz] {b o j : Nat} {cs : List Value} {v : Value} (h : St W0 L W)
    (hr : ro W0 b o cs) (hv : getL agg cs j sz = some v) (hsz : agg = true → j + sz ≤ cs.length) : (Instr.loadAt t (.pointer (some ⟨b, o + j, none⟩))).run P W = .ok v W := by
  obtain ⟨d, i, h1, h2, h3, h4⟩ := ht.ok
  have hc : ∀ j, j < cs.length → W.cell? ⟨b, o + j, none⟩ = cs[j]? := fun j hj => by
    have h0 := hr j hj
    have hlt : b < W0.heap.size := by
      rw [List.getElem?_eq_getElem hj] at h0
      apply Classical.byContradiction
      intro hn
      simp [World.cell?, Array.getElem?_eq_none (show W0.heap.size ≤ b by omega)] at h0
    rw [h.below.cell hlt]; exact h0
  simp only [Instr.loadAt, Instr.sureAddr, pure_bind, loadVar, Sem.run_bind, run_isAgg' h1, Result.andThen_ok, h2]
  cases agg with
  | true =>
    simp only [getL, Option.some.injEq, lsub_eq] at hv
    subst hv
    have hle := hsz rfl
    simp only [if_true, Sem.run_bind, run_sizeOf' h3, Result.andThen_ok, h4]
    have hs : ((cs.drop j).take sz).length = sz := by simp; omega
    have := loadCells_run (P := P) (W := W) ⟨b, o + j, none⟩ ((cs.drop j).take sz).toArray (fun k hk => by
      rw [add_none]
      simp only [List.size_toArray, hs] at hk
      rw [Nat.add_assoc, hc (j + k) (by omega), List.getElem?_toArray, List.getElem?_take_of_lt hk, List.getElem?_drop])
    rw [List.size_toArray, hs] at this
    rw [this]
    simp
  | false =>
    simp only [getL, lget_eq] at hv
    have hlt : j < cs.length := (List.getElem?_eq_some_iff.1 hv).1
    have hcell := hc j hlt
    simp [load, Sem.run, hcell, hv]
theorem ldr {t : TypeId} {agg : Bool} {sz : Nat} [ht : TyI P t agg sz] {b o j : Nat} {cs : List Value} {k : Value → World → Prop} (h : St W0 L W)
    (hr : ro W0 b o cs) (hsz : agg = true → j + sz ≤ cs.length) (hk : ∃ v, getL agg cs j sz = some v ∧ k v W) : rdK P (Instr.loadAt t (.pointer (some ⟨b, o + j, none⟩))) k W :=
  let ⟨v, hv, hk⟩ := hk
  ⟨v, loadAt_ro h hr hv hsz, hk⟩
theorem ldr0 {t : TypeId} {agg : Bool} {sz : Nat} [ht : TyI P t agg sz] {b o : Nat} {cs : List Value} {k : Value → World → Prop} (h : St W0 L W)
    (hr : ro W0 b o cs) (hsz : agg = true → 0 + sz ≤ cs.length) (hk : ∃ v, getL agg cs 0 sz = some v ∧ k v W) : rdK P (Instr.loadAt t (.pointer (some ⟨b, o, none⟩))) k W :=
  ldr (j := 0) h hr hsz hk
theorem ldr_run0 {t : TypeId} {agg : Bool} {sz : Nat} [ht : TyI P t agg sz] {b o : Nat} {cs : List Value} {v : Value} (h : St W0 L W)
    (hr : ro W0 b o cs) (hv : getL agg cs 0 sz = some v) (hsz : agg = true → 0 + sz ≤ cs.length) : (Instr.loadAt t (.pointer (some ⟨b, o, none⟩))).run P W = .ok v W := loadAt_ro (j := 0) h hr hv hsz
/-- a new variable -/
theorem bx {t : TypeId} {v : Value} {k : Value → World → Prop} (h : St W0 L W) (hk : ∀ b W', St W0 (cells b (vcells v) t :: L) W' → k (.pointer (some ⟨b, 0, none⟩)) W') : efK P (Instr.box t v) k W :=
  ⟨.pointer (some ⟨W.heap.size, 0, none⟩), W.alloc (.cells (vcells v).toArray t), by rw [← vcells_eq']; rfl, hk W.heap.size _ (h.allocCells (vcells v) t)⟩
theorem bxa {t : TypeId} {cs : List Value} {k : Value → World → Prop} (h : St W0 L W) (hk : ∀ b W', St W0 (cells b cs t :: L) W' → k (.pointer (some ⟨b, 0, none⟩)) W') : efK P (Instr.box t (.agg cs.toArray)) k W := bx h hk
theorem bxi {t : TypeId} {ik : IntKind} {n : Int} {k : Value → World → Prop} (h : St W0 L W) (hk : ∀ b W', St W0 (cells b [.int ik n] t :: L) W' → k (.pointer (some ⟨b, 0, none⟩)) W') : efK P (Instr.box t (.int ik n)) k W := bx h hk
theorem al {t : TypeId} {z : Value} [ht : TyZ P t z] {k : Value → World → Prop} (h : St W0 L W) (hk : ∀ b W', St W0 (cells b (vcells z) t :: L) W' → k (.pointer (some ⟨b, 0, none⟩)) W') : efK P (Instr.alloc t true (.tuple #[])) k W := by
  obtain ⟨i, h1, h2⟩ := ht.ok
  refine ⟨.pointer (some ⟨W.heap.size, 0, none⟩), _, ?_, hk W.heap.size _ (h.allocCells (vcells z) t)⟩
  simp only [Instr.alloc, Sem.run_bind, run_zeroValue' h1 h2, Result.andThen_ok]
  rw [← vcells_eq']
  rfl
/-- a slice of so many -/
theorem bs {t e : TypeId} {sz by' : Nat} {z : Value} [ht : TyS P t e sz by' z] {n : Nat} {ps : List (Nat × Value)} {cs : List Value} {k : Value → World → Prop} (h : St W0 L W) (hn : n * sz ≤ 16777216) (hn0 : n * sz ≠ 0)
    (hc : fillL (fun i => some (i * sz, sz)) ((List.range (n * sz)).map fun i => ((vcells z)[i % (vcells z).length]?).getD undef) ps = some cs)
    (hk : ∀ b W', St W0 (cells b cs e :: L) W' → k (.slice (some ⟨b, 0, none⟩) n n) W') : efK P (Instr.buildSlice t n ps.toArray) k W := by
  obtain ⟨⟨i, h1, h2, h3, h4, h5⟩, hzz⟩ := ht.ok
  subst h3
  refine ⟨.slice (some ⟨W.heap.size, 0, none⟩) n n, _, ?_, hk W.heap.size _ (h.allocCells cs e)⟩
  rw [← vcells_eq] at hc
  have hz : z.cells.size = i.size → ((List.range (n * i.size)).map fun j => (z.cells.toList[j % z.cells.toList.length]?).getD undef).toArray = (Array.range (n * i.size)).map (z.cells[· % z.cells.size]!) := by
    intro hzs
    apply Array.ext_getElem?
    intro j
    simp only [List.getElem?_toArray, List.getElem?_map, Array.getElem?_map, Array.length_toList]
    by_cases hj : j < n * i.size
    · have hpos : 0 < z.cells.size := by rw [hzs]; exact Nat.pos_of_ne_zero fun h => by rw [h] at hj; simp at hj
      have hm : j % z.cells.size < z.cells.size := Nat.mod_lt _ hpos
      simp [hj, hm]
    · simp [hj]
  have hf := fillL_run _ _ _ _ hc
  rw [hz hzz] at hf
  simp only [Instr.buildSlice, Sem.run_bind, run_underlying h1, Result.andThen_ok, run_sizeOf' h2]
  rw [if_neg (by omega), if_neg hn0]
  simp only [pure_bind, Sem.run_bind, run_zeroValue' h2 h5, Result.andThen_ok, Sem.run_pure, hf]
  rfl

/-- the cells from some place on, others -/
def stL : List Value → Nat → List Value → List Value
  | cs, 0, [] => cs
  | [], _, _ => []
  | _ :: cs, 0, v :: vs => v :: stL cs 0 vs
  | c :: cs, o + 1, vs => c :: stL cs o vs
theorem stL_nil : ∀ (cs : List Value) (o : Nat), stL cs o [] = cs
  | [], 0 => rfl
  | _ :: _, 0 => by simp [stL]
  | [], o + 1 => rfl
  | c :: cs, o + 1 => by simp [stL, stL_nil cs o]
@[simp] theorem stL_len : ∀ (cs : List Value) (o : Nat) (vs : List Value), (stL cs o vs).length = cs.length
  | [], 0, [] => rfl
  | _ :: _, 0, [] => by simp [stL]
  | [], 0, _ :: _ => rfl
  | [], o + 1, vs => by cases vs <;> rfl
  | _ :: cs, 0, v :: vs => by simp [stL, stL_len cs 0 vs]
  | c :: cs, o + 1, vs => by cases vs <;> simp [stL, stL_len cs o]
theorem stL_set : ∀ (cs : List Value) (o : Nat) (u : Value) (vs : List Value), o < cs.length → stL (cs.set o u) (o + 1) vs = stL cs o (u :: vs)
  | [], o, u, vs, h => by simp at h
  | c :: cs, 0, u, vs, _ => by cases vs <;> simp [stL]
  | c :: cs, o + 1, u, vs, h => by simp only [List.set_cons_succ, stL]; rw [stL_set cs o u vs (by simpa using h)]

def oneC (u : Value) : Bool := match u with | .agg _ => false | .tuple _ => false | _ => true

theorem store_run {a : Addr} {u x : Value} (hu : oneC u = true) (hc : W.cell? a = some x) (hf : W.frozen? a = false) : (store a u).run P W = .ok () (W.setCell a u) := by
  unfold store
  cases u <;> first
    | (simp [oneC] at hu; done)
    | simp [Sem.run, hc, hf]

theorem setCell_blk {b o : Nat} {cs : List Value} {T : TypeId} {fr : Nat × Nat} {u : Value} (h : W.heap[b]? = some (.cells cs.toArray T fr)) :
    W.setCell ⟨b, o, none⟩ u = { W with heap := W.heap.setIfInBounds b (.cells (cs.set o u).toArray T fr) } := by
  unfold World.setCell
  congr 1
  apply Array.ext_getElem?
  intro j
  rw [Array.getElem?_modify, Array.getElem?_setIfInBounds]
  have hlt : b < W.heap.size := (Array.getElem?_eq_some_iff.1 h).1
  by_cases hj : b = j
  · subst hj
    rw [h]
    simp [hlt]
  · simp [hj]

theorem storeCells_run {b : Nat} {T : TypeId} {L : List Asn} : ∀ (vs : List Value) (off i : Nat) (cs : List Value) (W : World), St W0 (cells b cs T :: L) W → (∀ u ∈ vs, oneC u = true) → off + i + vs.length ≤ cs.length →
    ∃ W', (storeCells ⟨b, off, none⟩ vs i).run P W = .ok () W' ∧ St W0 (cells b (stL cs (off + i) vs) T :: L) W'
  | [], off, i, cs, W, h, _, _ => ⟨W, rfl, by rw [stL_nil]; exact h⟩
  | u :: vs, off, i, cs, W, h, hu, hl => by
    simp only [List.length_cons] at hl
    obtain ⟨fr, hf, hb⟩ := h.cells
    have hbl := hb.blk.2
    have hlt : off + i < cs.length := by omega
    have hc : W.cell? ⟨b, off + i, none⟩ = some cs[off + i] := by simp [World.cell?, hbl, hlt]
    have hfz : W.frozen? ⟨b, off + i, none⟩ = false := by simp only [World.frozen?, hbl]; exact hf _ hlt
    have hst := setCell_blk (W := W) (o := off + i) (u := u) hbl
    have h' : St W0 (cells b (cs.set (off + i) u) T :: L) (W.setCell ⟨b, off + i, none⟩ u) := by
      rw [hst]
      refine (hb.setBlk _).weak fun p hp => ⟨fr, ?_, hp⟩
      intro j hj
      exact hf j (by simpa using hj)
    obtain ⟨W', h1, h2⟩ := storeCells_run vs off (i + 1) _ _ h' (fun x hx => hu x (List.mem_cons_of_mem _ hx)) (by simp; omega)
    refine ⟨W', ?_, ?_⟩
    · simp only [storeCells, Sem.run_bind, add_none, store_run (P := P) (hu u List.mem_cons_self) hc hfz, Result.andThen_ok, h1]
    · rw [show off + (i + 1) = off + i + 1 from rfl, stL_set _ _ _ _ hlt] at h2
      exact h2

/-- a store into an owned row -/
theorem sto {t : TypeId} {agg : Bool} {sz : Nat} [ht : TyI P t agg sz] {b off : Nat} {cs : List Value} {T : TypeId} {Lf : List Value → List Asn} [hu : Cu b L cs T Lf] {v : Value} {k : Unit → World → Prop}
    (h : St W0 L W) (hsz : (vcells v).length = sz) (ho : off + sz ≤ cs.length) (h1 : (vcells v).all oneC = true)
    (hk : ∀ W', St W0 (Lf (stL cs off (vcells v))) W' → k () W') : efK P (Instr.storeAt t (.pointer (some ⟨b, off, none⟩)) v) k W := by
  obtain ⟨d, i, h2, h3, h4, h5⟩ := ht.ok
  obtain ⟨R, hp, hp'⟩ := hu.perm
  have hall : ∀ u ∈ v.cells.toList, oneC u = true := by
    intro u hu
    rw [vcells_eq] at hu
    exact List.all_eq_true.1 h1 u hu
  have hsz' : v.cells.size = sz := by rw [vcells_eq']; simpa using hsz
  obtain ⟨W', hr, hs⟩ := storeCells_run (P := P) v.cells.toList off 0 cs W (h.perm hp) hall (by simp [hsz']; omega)
  refine ⟨(), W', ?_, hk W' (hs.perm ?_)⟩
  · simp only [Instr.storeAt, Instr.sureAddr, pure_bind, storeVar, Sem.run_bind, run_sizeOf' h4, Result.andThen_ok, h5]
    rw [if_neg (by simp [hsz'])]
    exact hr
  · have := (hp' (stL cs off (vcells v))).symm
    rw [vcells_eq, Nat.add_zero]
    exact this
end

/-! ### promises, loops -/
theorem stb_ld {P : Program} {W0 W : World} {L : List Asn} {t : TypeId} {agg : Bool} {sz : Nat} [TyI P t agg sz] {b off : Nat} {cs : List Value} {T : TypeId} {L' : List Asn} [Ck b L cs T L'] {i : Nat} {bb : Bool} {v : Value} {l : List HoldV} {R : World → Prop}
    (h : St W0 L W) (hv : getL agg cs off sz = some v) (hsz : agg = true → off + sz ≤ cs.length) (hk : stb P l R W) : stb P ((i, bb, Instr.loadAt t (.pointer (some ⟨b, off, none⟩)), v) :: l) R W :=
  ⟨fun _ => ld_run h hv hsz, hk⟩
theorem stb_n {P : Program} {R : World → Prop} {W : World} (h : R W) : stb P [] R W := h
theorem stb_c {P : Program} {i : Nat} {s : Sem Value} {v : Value} {t : List HoldV} {R : World → Prop} {W : World} (h1 : s.run P W = .ok v W) (h : stb P t R W) : stb P ((i, true, s, v) :: t) R W := ⟨fun _ => h1, h⟩
theorem stb_g {P : Program} {i : Nat} {b : Bool} {s : Sem Value} {v : Value} {t : List HoldV} {R : World → Prop} {W : World} (h1 : b = true → s.run P W = .ok v W) (h : stb P t R W) : stb P ((i, b, s, v) :: t) R W := ⟨h1, h⟩
theorem stb_f {P : Program} {i : Nat} {s : Sem Value} {v : Value} {t : List HoldV} {R : World → Prop} {W : World} (h : stb P t R W) : stb P ((i, false, s, v) :: t) R W := ⟨fun h => (nomatch h), h⟩
theorem stb_ldr {P : Program} {W0 W : World} {L : List Asn} {t : TypeId} {agg : Bool} {sz : Nat} [TyI P t agg sz] {b o j : Nat} {cs : List Value} {i : Nat} {bb : Bool} {v : Value} {l : List HoldV} {R : World → Prop}
    (h : St W0 L W) (hr : ro W0 b o cs) (hv : getL agg cs j sz = some v) (hsz : agg = true → j + sz ≤ cs.length) (hk : stb P l R W) : stb P ((i, bb, Instr.loadAt t (.pointer (some ⟨b, o + j, none⟩)), v) :: l) R W :=
  ⟨fun _ => loadAt_ro h hr hv hsz, hk⟩
theorem stb_ldr0 {P : Program} {W0 W : World} {L : List Asn} {t : TypeId} {agg : Bool} {sz : Nat} [TyI P t agg sz] {b o : Nat} {cs : List Value} {i : Nat} {bb : Bool} {v : Value} {l : List HoldV} {R : World → Prop}
    (h : St W0 L W) (hr : ro W0 b o cs) (hv : getL agg cs 0 sz = some v) (hsz : agg = true → 0 + sz ≤ cs.length) (hk : stb P l R W) : stb P ((i, bb, Instr.loadAt t (.pointer (some ⟨b, o, none⟩)), v) :: l) R W :=
  ⟨fun _ => ldr_run0 h hr hv hsz, hk⟩
theorem fillL_nil {place : Nat → Option (Nat × Nat)} {zero : List Value} : fillL place zero [] = some zero := rfl
theorem stL_eq : ∀ (cs : List Value) (o : Nat) (vs : List Value), o + vs.length ≤ cs.length → stL cs o vs = cs.take o ++ vs ++ cs.drop (o + vs.length)
  | cs, o, [], h => by simp [stL_nil]
  | [], o, v :: vs, h => by simp at h
  | c :: cs, 0, v :: vs, h => by
    have := stL_eq cs 0 vs (by simpa using h)
    simp [stL, this]
  | c :: cs, o + 1, v :: vs, h => by
    have := stL_eq cs o (v :: vs) (by simp at h ⊢; omega)
    simp only [stL, this, List.take_succ_cons, List.cons_append, List.length_cons]
    rw [show o + 1 + (vs.length + 1) = (o + (vs.length + 1)) + 1 by omega, List.drop_succ_cons]
theorem fillL_cons {place : Nat → Option (Nat × Nat)} {zero : List Value} {i off size : Nat} {v : Value} {rest : List (Nat × Value)} (hp : place i = some (off, size)) (h1 : (vcells v).length = size) (h2 : off + size ≤ zero.length) :
    fillL place zero ((i, v) :: rest) = fillL place (stL zero off (vcells v)) rest := by
  have h1' : v.cells.size = size := by rw [vcells_eq']; simpa using h1
  simp only [fillL, hp, h1', Nat.beq_refl, Nat.ble_eq_true_of_le h2, Bool.and_self]
  rw [stL_eq _ _ _ (by omega), vcells_eq, h1]
theorem bldP_eq {place : Nat → Option (Nat × Nat)} {zero cs : List Value} {parts : List (Nat × Value)} (h : fillL place zero parts = some cs) : bldP place zero parts = some (.agg cs.toArray) := by
  simp only [bldP, h]
theorem joinK_i {K : List Value → World → Prop} {A : (List Value → World → Prop) → Prop} (h : A K) : joinK K A := h
theorem loop_i {body : (List Value → World → Prop) → List Value → World → Prop} {s : List Value} {W : World} (I : Nat → List Value → World → Prop) (m : Nat) (h0 : I m s W)
    (hr : ∀ m s W, I m s W → body (fun s' W' => ∃ m', m' < m ∧ I m' s' W') s W) : loopK body s W := ⟨I, ⟨m, h0⟩, hr⟩
/-- a loop that counts up to n -/
theorem loop_up {body : (List Value → World → Prop) → List Value → World → Prop} {s : List Value} {W : World} (n : Nat) (I : Nat → List Value → World → Prop) (h0 : I 0 s W)
    (hr : ∀ i s W, i ≤ n → I i s W → body (fun s' W' => i < n ∧ I (i + 1) s' W') s W) (hm : ∀ (K K' : List Value → World → Prop) s W, (∀ s W, K s W → K' s W) → body K s W → body K' s W) : loopK body s W := by
  refine ⟨fun m s W => ∃ i, i ≤ n ∧ m = n - i ∧ I i s W, ⟨n, 0, by omega, by omega, h0⟩, ?_⟩
  rintro m s W ⟨i, hi, rfl, hI⟩
  exact hm _ _ s W (fun s W ⟨hlt, h⟩ => ⟨n - (i + 1), by omega, i + 1, by omega, rfl, h⟩) (hr i s W hi hI)

/-! ### calls -/
section
variable {P : Program} {W0 W W' : World} {L : List Asn}
theorem ca {g : Nat} {args : List Value} {R k : Value → World → Prop} (h : callK P g args R W) (hk : ∀ v W', R v W' → k v W') : callK P g args k W := callK_mono h hk
theorem St.over0 (h : St W0 L W) (h' : St W [] W') : St W0 L W' := by simpa using h.over h'
theorem St.over1 {a : Asn} (h : St W0 L W) (h' : St W [a] W') : St W0 (a :: L) W' := by simpa using h.over h'
theorem St.over2 {a b : Asn} (h : St W0 L W) (h' : St W [a, b] W') : St W0 (a :: b :: L) W' := by simpa using h.over h'
/-- a function that changes nothing and makes nothing that stays, and what it returns -/
class Pure0 (P : Program) (g : Nat) (args : List Value) (v : outParam Value) : Prop where
  ok : ∀ W, callK P g args (fun v' W' => v' = v ∧ St W [] W') W
theorem cp {g : Nat} {args : List Value} {v : Value} [hp : Pure0 P g args v] {k : Value → World → Prop} (h : St W0 L W) (hk : ∀ W', St W0 L W' → k v W') : callK P g args k W :=
  callK_mono (hp.ok W) fun v' W' ⟨e, h'⟩ => by subst e; exact hk W' (by simpa using h.over h')
/-- a method of an owned row -/
class Meth (P : Program) (g : Nat) (b : Nat) (T : TypeId) (cs : List Value) (args : List Value) (v : outParam Value) (cs' : outParam (List Value)) : Prop where
  ok : ∀ W0 L W, St W0 (cells b cs T :: L) W → callK P g (.pointer (some ⟨b, 0, none⟩) :: args) (fun v' W' => v' = v ∧ St W0 (cells b cs' T :: L) W') W
theorem cm {g b : Nat} {T : TypeId} {cs cs' : List Value} {args : List Value} {v : Value} {Lf : List Value → List Asn} {k : Value → World → Prop} (h : St W0 L W) [hu : Cu b L cs T Lf] [hm : Meth P g b T cs args v cs']
    (hk : ∀ W', St W0 (Lf cs') W' → k v W') : callK P g (.pointer (some ⟨b, 0, none⟩) :: args) k W := by
  obtain ⟨R, hp, hp'⟩ := hu.perm
  exact callK_mono (hm.ok W0 R W (h.perm hp)) fun v' W' ⟨e, h'⟩ => by subst e; exact hk W' (h'.perm (hp' _).symm)
/-- a call that makes what it makes and turns nothing -/
theorem St.mk' (h : St W0 L W) {L' : List Asn} (h' : St W L' W') : St W0 (L' ++ L) W' := h.over h'
end
end Go.Eng
namespace Go.Eng
open Go
theorem TyI.mk' {P : Program} {t : TypeId} {agg : Bool} {sz : Nat} (h1 : (P.underlying t).map aggB = some agg) (h2 : (P.info? t).map (·.size) = some sz) : TyI P t agg sz := by
  obtain ⟨d, hd, hd'⟩ := Option.map_eq_some_iff.1 h1
  obtain ⟨i, hi, hi'⟩ := Option.map_eq_some_iff.1 h2
  exact ⟨d, i, hd, hd', hi, hi'⟩
theorem TyZ.mk' {P : Program} {t : TypeId} {z : Value} (h : (P.info? t).map (·.zero) = some (some z)) : TyZ P t z := by
  obtain ⟨i, hi, hi'⟩ := Option.map_eq_some_iff.1 h
  exact ⟨i, hi, hi'⟩
theorem TyS.mk' {P : Program} {t e : TypeId} {sz by' : Nat} {z : Value} (h1 : P.underlying t = some (.slice e)) (h : (P.info? e).map (fun i => (i.size, i.bytes, i.zero)) = some (sz, by', some z)) (h2 : z.cells.size = sz) : TyS P t e sz by' z := by
  obtain ⟨i, hi, hi'⟩ := Option.map_eq_some_iff.1 h
  simp only [Prod.mk.injEq] at hi'
  exact ⟨⟨i, h1, hi, hi'.1, hi'.2.1, hi'.2.2⟩, h2⟩
end Go.Eng
