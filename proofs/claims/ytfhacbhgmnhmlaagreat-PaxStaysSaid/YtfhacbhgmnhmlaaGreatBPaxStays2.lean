/- Texts of the claim PaxStays, joined: Rul, Equ, Sl, Wr, Wr2, Typ, ShCmp, CCmp0, CCmp, PNum, Bit, Sl2, Sl3, Sl4, Sl5, ShBal. -/
import Derived.Test.YtfhacbhgmnhmlaaGreatBPaxStays1
import Derived.IntWalk
import Derived.Laws.Strings
import Derived.Laws.AppendOwn
import Derived.Laws.IdiomStrings
import Derived.Laws.MakeOwn
import Derived.Lib.SlBytesConst
namespace Go.Eng
set_option linter.unusedVariables false
set_option linter.unusedSimpArgs false
open Go Go.RowKit
theorem okF_i {r : Option Value} {v : Value} {k : Value → Prop} (h : r = some v) (hk : k v) : okF r k := by subst h; exact hk
@[simp] theorem okF_some {v : Value} {k : Value → Prop} : okF (some v) k = k v := rfl
@[simp] theorem gdK_true {A : (Value → World → Prop) → World → Prop} {k : Value → World → Prop} {W : World} : gdK true A k W = A k W := rfl
@[simp] theorem gdK_false {A : (Value → World → Prop) → World → Prop} {k : Value → World → Prop} {W : World} : gdK false A k W = k undef W := rfl
@[simp] theorem wantd_t {b : Bool} : wantd (.bool b) true = b := by cases b <;> rfl
@[simp] theorem wantd_f {b : Bool} : wantd (.bool b) false = !b := by cases b <;> rfl
@[simp] theorem wantd_undef {w : Bool} : wantd undef w = false := rfl
@[simp] theorem ifK_true {A B : Prop} : ifK (.bool true) A B = A := rfl
@[simp] theorem ifK_false {A B : Prop} : ifK (.bool false) A B = B := rfl
theorem ifK_b {b : Bool} {A B : Prop} (ht : b = true → A) (hf : b = false → B) : ifK (.bool b) A B := by cases b; exact hf rfl; exact ht rfl
theorem ifK_d {p : Prop} [Decidable p] {A B : Prop} (ht : p → A) (hf : ¬ p → B) : ifK (.bool (decide p)) A B := by
 by_cases h : p
 ·rw [decide_eq_true h]; exact ht h
 ·rw [decide_eq_false h]; exact hf h
theorem gdK_b {b : Bool} {A : (Value → World → Prop) → World → Prop} {k : Value → World → Prop} {W : World} (ht : b = true → A k W) (hf : b = false → k undef W) : gdK b A k W := by
 cases b; exact hf rfl; exact ht rfl
@[simp] theorem pickP_true {a b : Value} : pickP (.bool true) a b = some a := rfl
@[simp] theorem pickP_false {a b : Value} : pickP (.bool false) a b = some b := rfl
theorem intB (a b : Int) : (a == b) = decide (a = b) := rfl
section ints
variable {k : IntKind} {a b : Int}
@[simp] theorem binP_add : binP .add (.int k a) (.int k b) = some (.int k (k.wrap (a + b))) := by simp [binP]
@[simp] theorem binP_sub : binP .sub (.int k a) (.int k b) = some (.int k (k.wrap (a - b))) := by simp [binP]
@[simp] theorem binP_mul : binP .mul (.int k a) (.int k b) = some (.int k (k.wrap (a * b))) := by simp [binP]
@[simp] theorem binP_eql : binP .eql (.int k a) (.int k b) = some (.bool (decide (a = b))) := by simp [binP, intB]
@[simp] theorem binP_neq : binP .neq (.int k a) (.int k b) = some (.bool (!decide (a = b))) := by simp [binP, bne, intB]
@[simp] theorem binP_lss : binP .lss (.int k a) (.int k b) = some (.bool (decide (a < b))) := by simp [binP]
@[simp] theorem binP_leq : binP .leq (.int k a) (.int k b) = some (.bool (decide (a ≤ b))) := by simp [binP]
@[simp] theorem binP_gtr : binP .gtr (.int k a) (.int k b) = some (.bool (decide (b < a))) := by simp [binP]
@[simp] theorem binP_geq : binP .geq (.int k a) (.int k b) = some (.bool (decide (b ≤ a))) := by simp [binP]
@[simp] theorem binP_and : binP .and (.int k a) (.int k b) = some (.int k (k.wrap (BitVec.ofInt k.bits a &&& BitVec.ofInt k.bits b).toNat)) := by simp [binP]
@[simp] theorem binP_or : binP .or (.int k a) (.int k b) = some (.int k (k.wrap (BitVec.ofInt k.bits a ||| BitVec.ofInt k.bits b).toNat)) := by simp [binP]
@[simp] theorem binP_xor : binP .xor (.int k a) (.int k b) = some (.int k (k.wrap (BitVec.ofInt k.bits a ^^^ BitVec.ofInt k.bits b).toNat)) := by simp [binP]
@[simp] theorem binP_andNot : binP .andNot (.int k a) (.int k b) = some (.int k (k.wrap (BitVec.ofInt k.bits a &&& ~~~(BitVec.ofInt k.bits b)).toNat)) := by simp [binP]
theorem binP_quo (h : b ≠ 0) : binP .quo (.int k a) (.int k b) = some (.int k (k.wrap (a.tdiv b))) := by simp [binP, h]
@[simp] theorem unP_neg : unP .neg (.int k a) = some (.int k (k.wrap (0 - a))) := rfl
@[simp] theorem unP_not {c : Bool} : unP .not (.bool c) = some (.bool !c) := rfl
@[simp] theorem cvtP_int {k' : IntKind} : cvtP (.int k') (.int k a) = some (.int k' (k'.wrap a)) := rfl
@[simp] theorem cvtP_string {s : ByteArray} : cvtP .string (.string s) = some (.string s) := rfl
end ints
section strs
variable {s t : ByteArray}
theorem baB (a b : ByteArray) : (a == b) = decide (a = b) := by
 have : (a == b) = true ↔ a = b := by
  cases a with | mk d => cases b with | mk e =>
  show (d == e) = true ↔ _
  simp
 by_cases h : a = b
 ·rw [decide_eq_true h]; exact this.2 h
 ·rw [decide_eq_false h]; cases hb : (a == b) with | false => rfl | true => exact absurd (this.1 hb) h
theorem baL (a b : ByteArray) : (a.toList == b.toList) = decide (a = b) := by
 by_cases h : a = b
 ·subst h; simp
 ·rw [decide_eq_false h]
  cases hb : (a.toList == b.toList) with
  | false => rfl
  | true =>
   rw [beq_iff_eq, ByteArray.toList_eq, ByteArray.toList_eq] at hb
   exact absurd (ByteArray.ext (Array.toList_inj.1 hb)) h
@[simp] theorem binPs_eql : binP .eql (.string s) (.string t) = some (.bool (decide (s = t))) := by
 have : binP .eql (.string s) (.string t) = some (.bool (s.toList == t.toList)) := rfl
 rw [this, baL]
@[simp] theorem binPs_neq : binP .neq (.string s) (.string t) = some (.bool !decide (s = t)) := by
 have : binP .neq (.string s) (.string t) = some (.bool !(s.toList == t.toList)) := rfl
 rw [this, baL]
@[simp] theorem lenP_string : lenP .string (.string s) = some (.int .i64 s.size) := rfl
end strs
@[simp] theorem lenP_slice {e : TypeId} {a : Option Addr} {n c : Nat} : lenP (.slice e) (.slice a n c) = some (.int .i64 n) := rfl
@[simp] theorem capP_slice {e : TypeId} {a : Option Addr} {n c : Nat} : capP (.slice e) (.slice a n c) = some (.int .i64 c) := rfl
@[simp] theorem lenP_array {e : TypeId} {n : Nat} {v : Value} : lenP (.array n e) v = some (.int .i64 n) := by cases v <;> rfl
@[simp] theorem addrF_ptr {off : Nat} {a : Addr} : addrF off (.pointer (some a)) = some (.pointer (some (a.add off))) := rfl
@[simp] theorem nilP_ptr {a : Addr} : nilP (.pointer (some a)) = some (.pointer (some a)) := rfl
theorem add_none (b o n : Nat) : (⟨b, o, none⟩ : Addr).add n = ⟨b, o + n, none⟩ := by unfold Addr.add; split <;> simp_all
@[simp] theorem addrF_blk {off b o : Nat} : addrF off (.pointer (some ⟨b, o, none⟩)) = some (.pointer (some ⟨b, o + off, none⟩)) := by rw [addrF_ptr, add_none]
theorem idxS_blk {sz b o n c : Nat} {k : IntKind} {i : Int} (h0 : 0 ≤ i) (h1 : i < n) : idxS sz (.slice (some ⟨b, o, none⟩) n c) (.int k i) = some (.pointer (some ⟨b, o + i.toNat * sz, none⟩)) := by
 simp [idxS, h0, h1, add_none]
theorem idxA_blk {len sz b o : Nat} {k : IntKind} {i : Int} (h0 : 0 ≤ i) (h1 : i < len) : idxA len sz (.pointer (some ⟨b, o, none⟩)) (.int k i) = some (.pointer (some ⟨b, o + i.toNat * sz, none⟩)) := by
 simp [idxA, h0, h1, add_none]
@[simp] theorem extP_0 {a : Value} {l : List Value} : extP 0 (.tuple (a :: l).toArray) = some a := by simp [extP]
@[simp] theorem extP_1 {a b : Value} {l : List Value} : extP 1 (.tuple (a :: b :: l).toArray) = some b := by simp [extP]
@[simp] theorem extP_2 {a b c : Value} {l : List Value} : extP 2 (.tuple (a :: b :: c :: l).toArray) = some c := by simp [extP]
@[simp] theorem extP_3 {a b c d : Value} {l : List Value} : extP 3 (.tuple (a :: b :: c :: d :: l).toArray) = some d := by simp [extP]
@[simp] theorem eqP_nilptr {e : TypeId} {a : Option Addr} : eqP (.pointer e) .eql (.pointer a) (.pointer none) = some (.bool a.isNone) := by cases a <;> rfl
@[simp] theorem neP_nilptr {e : TypeId} {a : Option Addr} : eqP (.pointer e) .neq (.pointer a) (.pointer none) = some (.bool !a.isNone) := by cases a <;> rfl
@[simp] theorem eqP_nilsl {e : TypeId} {a : Option Addr} {n c : Nat} : eqP (.slice e) .eql (.slice a n c) (.slice none 0 0) = some (.bool a.isNone) := by cases a <;> rfl
@[simp] theorem neP_nilsl {e : TypeId} {a : Option Addr} {n c : Nat} : eqP (.slice e) .neq (.slice a n c) (.slice none 0 0) = some (.bool !a.isNone) := by cases a <;> rfl
@[simp] theorem eqP_bool {a b : Bool} : eqP .bool .eql (.bool a) (.bool b) = some (.bool (a == b)) := rfl
@[simp] theorem neP_bool {a b : Bool} : eqP .bool .neq (.bool a) (.bool b) = some (.bool !(a == b)) := rfl
@[simp] theorem nthv_zero {a : Value} {l : List Value} : nthv (a :: l) 0 = a := rfl
@[simp] theorem nthv_succ {a : Value} {l : List Value} {n : Nat} : nthv (a :: l) (n + 1) = nthv l n := rfl
class TyI (P : Program) (t : TypeId) (agg : outParam Bool) (sz : outParam Nat) : Prop where
 ok : ∃ d i, P.underlying t = some d ∧ aggB d = agg ∧ P.info? t = some i ∧ i.size = sz
class TyZ (P : Program) (t : TypeId) (z : outParam Value) : Prop where
 ok : ∃ i, P.info? t = some i ∧ i.zero = some z
class TyS (P : Program) (t : TypeId) (e : outParam TypeId) (sz : outParam Nat) (bytes : outParam Nat) (z : outParam Value) : Prop where
 ok : (∃ i, P.underlying t = some (.slice e) ∧ P.info? e = some i ∧ i.size = sz ∧ i.bytes = bytes ∧ i.zero = some z) ∧ z.cells.size = sz
section
variable {P : Program} {W0 W : World} {L L' : List Asn}
theorem loadCellsFrom_run (a : Addr) (v : Array Value) (hv : ∀ j, j < v.size → W.cell? (a.add j) = v[j]?) : ∀ (n i : Nat) (acc : Array Value), i + n = v.size →
  (loadCellsFrom a i n acc).run P W = .ok (acc ++ v.extract i v.size) W
 | 0, i, acc, h => by
  have : v.extract i v.size = #[] := by apply Array.ext_getElem?; intro j; simp; omega
  simp [loadCellsFrom, this]
 | n + 1, i, acc, h => by
  have hi : i < v.size := by omega
  have hc := hv i hi
  rw [Array.getElem?_eq_getElem hi] at hc
  simp only [loadCellsFrom, Sem.run_bind]
  have hl : (load (a.add i)).run P W = .ok v[i] W := by simp [load, Sem.run, hc]
  rw [hl]
  simp only [Result.andThen_ok]
  rw [loadCellsFrom_run a v hv n (i + 1) _ (by omega)]
  congr 1
  apply Array.ext_getElem?
  intro j
  simp only [Array.getElem?_append, Array.size_push, Array.getElem?_push, Array.getElem?_extract]
  by_cases h1 : j < acc.size
  ·simp [h1, show j < acc.size + 1 by omega, show ¬ j = acc.size by omega]
  ·by_cases h2 : j = acc.size
   ·subst h2; simp [hi]; omega
   ·have h3 : ¬ j < acc.size + 1 := by omega
    simp only [h1, h3, if_false]
    have h4 : i + (j - acc.size) = i + 1 + (j - (acc.size + 1)) := by omega
    rw [h4]
    by_cases h5 : j - acc.size < v.size - i
    ·rw [if_pos (by omega), if_pos (by omega)]
    ·rw [if_neg (by omega), if_neg (by omega)]
theorem loadCells_run (a : Addr) (v : Array Value) (hv : ∀ j, j < v.size → W.cell? (a.add j) = v[j]?) : (loadCells a v.size).run P W = .ok v W := by
 unfold loadCells
 rw [loadCellsFrom_run a v hv v.size 0 #[] (by omega)]
 congr 1
 apply Array.ext_getElem?; intro j; simp
def lget : List Value → Nat → Option Value
 | [], _ => none
 | v :: _, 0 => some v
 | _ :: l, n + 1 => lget l n
def lsub : List Value → Nat → Nat → List Value
 | _, 0, 0 => []
 | [], _, _ => []
 | v :: l, 0, n + 1 => v :: lsub l 0 n
 | _ :: l, o + 1, n => lsub l o n
theorem lget_eq : ∀ (l : List Value) (n : Nat), lget l n = l[n]?
 | [], n => by simp [lget]
 | v :: l, 0 => rfl
 | v :: l, n + 1 => by simp [lget, lget_eq l n]
theorem lsub_eq : ∀ (l : List Value) (o n : Nat), lsub l o n = (l.drop o).take n
 | [], 0, 0 => rfl
 | _ :: _, 0, 0 => by simp [lsub]
 | [], 0, n + 1 => rfl
 | [], o + 1, n => by cases n <;> rfl
 | v :: l, 0, n + 1 => by simp [lsub, lsub_eq l 0 n]
 | v :: l, o + 1, n => by cases n <;> simp [lsub, lsub_eq l o]
theorem fldV_f {l : List Value} {n sz : Nat} : fldV false n sz (.agg l.toArray) = lget l n := by simp [fldV, partV, lget_eq]
theorem fldV_t {l : List Value} {n sz : Nat} : fldV true n sz (.agg l.toArray) = some (.agg (lsub l n sz).toArray) := by
 simp only [fldV, partV, lsub_eq]
 congr 2
 simp [List.extract_toArray, List.extract_eq_take_drop]
def getL (agg : Bool) (l : List Value) (off sz : Nat) : Option Value := match agg with | true => some (.agg (lsub l off sz).toArray) | false => lget l off
def vcells : Value → List Value
 | .agg cs => cs.toList
 | v => [v]
theorem vcells_eq (v : Value) : v.cells.toList = vcells v := by cases v <;> rfl
theorem vcells_eq' (v : Value) : v.cells = (vcells v).toArray := by rw [← vcells_eq]
@[simp] theorem vcells_agg {l : List Value} : vcells (.agg l.toArray) = l := rfl
@[simp] theorem vcells_int {k : IntKind} {a : Int} : vcells (.int k a) = [.int k a] := rfl
@[simp] theorem vcells_bool {a : Bool} : vcells (.bool a) = [.bool a] := rfl
@[simp] theorem vcells_string {a : ByteArray} : vcells (.string a) = [.string a] := rfl
@[simp] theorem vcells_slice {a : Option Addr} {n c : Nat} : vcells (.slice a n c) = [.slice a n c] := rfl
@[simp] theorem vcells_map {a : Option Nat} : vcells (.map a) = [.map a] := rfl
@[simp] theorem vcells_pointer {a : Option Addr} : vcells (.pointer a) = [.pointer a] := rfl
theorem loadAt_run {t : TypeId} {agg : Bool} {sz : Nat} [ht : TyI P t agg sz] {b off : Nat} {cs : List Value} {v : Value}
  (hc : ∀ j, j < cs.length → W.cell? ⟨b, j, none⟩ = cs[j]?) (hv : getL agg cs off sz = some v) (hsz : agg = true → off + sz ≤ cs.length) : (Instr.loadAt t (.pointer (some ⟨b, off, none⟩))).run P W = .ok v W := by
 obtain ⟨d, i, h1, h2, h3, h4⟩ := ht.ok
 simp only [Instr.loadAt, Instr.sureAddr, pure_bind, loadVar, Sem.run_bind, run_isAgg' h1, Result.andThen_ok, h2]
 cases agg with
 | true =>
  simp only [getL, Option.some.injEq, lsub_eq] at hv
  subst hv
  have hle := hsz rfl
  simp only [if_true, Sem.run_bind, run_sizeOf' h3, Result.andThen_ok, h4]
  have hs : ((cs.drop off).take sz).length = sz := by simp; omega
  have := loadCells_run (P := P) (W := W) ⟨b, off, none⟩ ((cs.drop off).take sz).toArray (fun j hj => by
   rw [add_none]
   simp only [List.size_toArray, hs] at hj
   rw [hc (off + j) (by omega), List.getElem?_toArray, List.getElem?_take_of_lt hj, List.getElem?_drop])
  rw [List.size_toArray, hs] at this
  rw [this]
  simp
 | false =>
  simp only [getL, lget_eq] at hv
  have hlt : off < cs.length := (List.getElem?_eq_some_iff.1 hv).1
  have hcell := hc off hlt
  simp [load, Sem.run, hcell, hv]
theorem St.cellOf {b : Nat} {cs : List Value} {T : TypeId} {L' : List Asn} [hk : Ck b L cs T L'] (h : St W0 L W) (j : Nat) (hj : j < cs.length) : W.cell? ⟨b, j, none⟩ = cs[j]? ∧ W.frozen? ⟨b, j, none⟩ = false := by
 obtain ⟨fr, hf, h⟩ := (h.perm hk.perm).cells
 have := h.blk.2
 exact ⟨by simp [World.cell?, this], by simp only [World.frozen?, this]; exact hf j hj⟩
theorem ld {t : TypeId} {agg : Bool} {sz : Nat} [TyI P t agg sz] {b off : Nat} {cs : List Value} {T : TypeId} {L' : List Asn} [Ck b L cs T L'] {v : Value} {k : Value → World → Prop}
  (h : St W0 L W) (hv : getL agg cs off sz = some v) (hsz : agg = true → off + sz ≤ cs.length) (hk : k v W) : rdK P (Instr.loadAt t (.pointer (some ⟨b, off, none⟩))) k W :=
 ⟨v, loadAt_run (fun j hj => (h.cellOf j hj).1) hv hsz, hk⟩
theorem ldx {t : TypeId} {agg : Bool} {sz : Nat} [TyI P t agg sz] {b off : Nat} {cs : List Value} {T : TypeId} {L' : List Asn} [Ck b L cs T L'] {k : Value → World → Prop}
  (h : St W0 L W) (hsz : agg = true → off + sz ≤ cs.length) (hk : ∃ v, getL agg cs off sz = some v ∧ k v W) : rdK P (Instr.loadAt t (.pointer (some ⟨b, off, none⟩))) k W :=
 let ⟨v, hv, hk⟩ := hk
 ⟨v, loadAt_run (fun j hj => (h.cellOf j hj).1) hv hsz, hk⟩
theorem ld_run {t : TypeId} {agg : Bool} {sz : Nat} [TyI P t agg sz] {b off : Nat} {cs : List Value} {T : TypeId} {L' : List Asn} [Ck b L cs T L'] {v : Value}
  (h : St W0 L W) (hv : getL agg cs off sz = some v) (hsz : agg = true → off + sz ≤ cs.length) : (Instr.loadAt t (.pointer (some ⟨b, off, none⟩))).run P W = .ok v W :=
 loadAt_run (fun j hj => (h.cellOf j hj).1) hv hsz
def ro (W : World) (b o : Nat) (cs : List Value) : Prop := ∀ j, j < cs.length → W.cell? ⟨b, o + j, none⟩ = cs[j]?
theorem loadAt_ro {t : TypeId} {agg : Bool} {sz : Nat} [ht : TyI P t agg sz] {b o j : Nat} {cs : List Value} {v : Value} (h : St W0 L W)
  (hr : ro W0 b o cs) (hv : getL agg cs j sz = some v) (hsz : agg = true → j + sz ≤ cs.length) : (Instr.loadAt t (.pointer (some ⟨b, o + j, none⟩))).run P W = .ok v W := by
 obtain ⟨d, i, h1, h2, h3, h4⟩ := ht.ok
 have hc : ∀ j, j < cs.length → W.cell? ⟨b, o + j, none⟩ = cs[j]? := fun j hj => by
  have h0 := hr j hj
  have hlt : b < W0.heap.size := by
   rw [List.getElem?_eq_getElem hj] at h0
   apply Classical.byContradiction
   intro hn
   simp [World.cell?, Array.getElem?_eq_none (show W0.heap.size ≤ b by omega)] at h0
  rw [h.below.cell hlt]; exact h0
 simp only [Instr.loadAt, Instr.sureAddr, pure_bind, loadVar, Sem.run_bind, run_isAgg' h1, Result.andThen_ok, h2]
 cases agg with
 | true =>
  simp only [getL, Option.some.injEq, lsub_eq] at hv
  subst hv
  have hle := hsz rfl
  simp only [if_true, Sem.run_bind, run_sizeOf' h3, Result.andThen_ok, h4]
  have hs : ((cs.drop j).take sz).length = sz := by simp; omega
  have := loadCells_run (P := P) (W := W) ⟨b, o + j, none⟩ ((cs.drop j).take sz).toArray (fun k hk => by
   rw [add_none]
   simp only [List.size_toArray, hs] at hk
   rw [Nat.add_assoc, hc (j + k) (by omega), List.getElem?_toArray, List.getElem?_take_of_lt hk, List.getElem?_drop])
  rw [List.size_toArray, hs] at this
  rw [this]
  simp
 | false =>
  simp only [getL, lget_eq] at hv
  have hlt : j < cs.length := (List.getElem?_eq_some_iff.1 hv).1
  have hcell := hc j hlt
  simp [load, Sem.run, hcell, hv]
theorem ldr {t : TypeId} {agg : Bool} {sz : Nat} [ht : TyI P t agg sz] {b o j : Nat} {cs : List Value} {k : Value → World → Prop} (h : St W0 L W)
  (hr : ro W0 b o cs) (hsz : agg = true → j + sz ≤ cs.length) (hk : ∃ v, getL agg cs j sz = some v ∧ k v W) : rdK P (Instr.loadAt t (.pointer (some ⟨b, o + j, none⟩))) k W :=
 let ⟨v, hv, hk⟩ := hk
 ⟨v, loadAt_ro h hr hv hsz, hk⟩
theorem ldr0 {t : TypeId} {agg : Bool} {sz : Nat} [ht : TyI P t agg sz] {b o : Nat} {cs : List Value} {k : Value → World → Prop} (h : St W0 L W)
  (hr : ro W0 b o cs) (hsz : agg = true → 0 + sz ≤ cs.length) (hk : ∃ v, getL agg cs 0 sz = some v ∧ k v W) : rdK P (Instr.loadAt t (.pointer (some ⟨b, o, none⟩))) k W :=
 ldr (j := 0) h hr hsz hk
theorem ldr_run0 {t : TypeId} {agg : Bool} {sz : Nat} [ht : TyI P t agg sz] {b o : Nat} {cs : List Value} {v : Value} (h : St W0 L W)
  (hr : ro W0 b o cs) (hv : getL agg cs 0 sz = some v) (hsz : agg = true → 0 + sz ≤ cs.length) : (Instr.loadAt t (.pointer (some ⟨b, o, none⟩))).run P W = .ok v W := loadAt_ro (j := 0) h hr hv hsz
theorem bx {t : TypeId} {v : Value} {k : Value → World → Prop} (h : St W0 L W) (hk : ∀ b W', St W0 (cells b (vcells v) t :: L) W' → k (.pointer (some ⟨b, 0, none⟩)) W') : efK P (Instr.box t v) k W :=
 ⟨.pointer (some ⟨W.heap.size, 0, none⟩), W.alloc (.cells (vcells v).toArray t), by rw [← vcells_eq']; rfl, hk W.heap.size _ (h.allocCells (vcells v) t)⟩
theorem bxa {t : TypeId} {cs : List Value} {k : Value → World → Prop} (h : St W0 L W) (hk : ∀ b W', St W0 (cells b cs t :: L) W' → k (.pointer (some ⟨b, 0, none⟩)) W') : efK P (Instr.box t (.agg cs.toArray)) k W := bx h hk
theorem bxi {t : TypeId} {ik : IntKind} {n : Int} {k : Value → World → Prop} (h : St W0 L W) (hk : ∀ b W', St W0 (cells b [.int ik n] t :: L) W' → k (.pointer (some ⟨b, 0, none⟩)) W') : efK P (Instr.box t (.int ik n)) k W := bx h hk
theorem al {t : TypeId} {z : Value} [ht : TyZ P t z] {k : Value → World → Prop} (h : St W0 L W) (hk : ∀ b W', St W0 (cells b (vcells z) t :: L) W' → k (.pointer (some ⟨b, 0, none⟩)) W') : efK P (Instr.alloc t true (.tuple #[])) k W := by
 obtain ⟨i, h1, h2⟩ := ht.ok
 refine ⟨.pointer (some ⟨W.heap.size, 0, none⟩), _, ?_, hk W.heap.size _ (h.allocCells (vcells z) t)⟩
 simp only [Instr.alloc, Sem.run_bind, run_zeroValue' h1 h2, Result.andThen_ok]
 rw [← vcells_eq']
 rfl
theorem bs {t e : TypeId} {sz by' : Nat} {z : Value} [ht : TyS P t e sz by' z] {n : Nat} {ps : List (Nat × Value)} {cs : List Value} {k : Value → World → Prop} (h : St W0 L W) (hn : n * sz ≤ 16777216) (hn0 : n * sz ≠ 0)
  (hc : fillL (fun i => some (i * sz, sz)) ((List.range (n * sz)).map fun i => ((vcells z)[i % (vcells z).length]?).getD undef) ps = some cs)
  (hk : ∀ b W', St W0 (cells b cs e :: L) W' → k (.slice (some ⟨b, 0, none⟩) n n) W') : efK P (Instr.buildSlice t n ps.toArray) k W := by
 obtain ⟨⟨i, h1, h2, h3, h4, h5⟩, hzz⟩ := ht.ok
 subst h3
 refine ⟨.slice (some ⟨W.heap.size, 0, none⟩) n n, _, ?_, hk W.heap.size _ (h.allocCells cs e)⟩
 rw [← vcells_eq] at hc
 have hz : z.cells.size = i.size → ((List.range (n * i.size)).map fun j => (z.cells.toList[j % z.cells.toList.length]?).getD undef).toArray = (Array.range (n * i.size)).map (z.cells[· % z.cells.size]!) := by
  intro hzs
  apply Array.ext_getElem?
  intro j
  simp only [List.getElem?_toArray, List.getElem?_map, Array.getElem?_map, Array.length_toList]
  by_cases hj : j < n * i.size
  ·have hpos : 0 < z.cells.size := by rw [hzs]; exact Nat.pos_of_ne_zero fun h => by rw [h] at hj; simp at hj
   have hm : j % z.cells.size < z.cells.size := Nat.mod_lt _ hpos
   simp [hj, hm]
  ·simp [hj]
 have hf := fillL_run _ _ _ _ hc
 rw [hz hzz] at hf
 simp only [Instr.buildSlice, Sem.run_bind, run_underlying h1, Result.andThen_ok, run_sizeOf' h2]
 rw [if_neg (by omega), if_neg hn0]
 simp only [pure_bind, Sem.run_bind, run_zeroValue' h2 h5, Result.andThen_ok, Sem.run_pure, hf]
 rfl
def stL : List Value → Nat → List Value → List Value
 | cs, 0, [] => cs
 | [], _, _ => []
 | _ :: cs, 0, v :: vs => v :: stL cs 0 vs
 | c :: cs, o + 1, vs => c :: stL cs o vs
theorem stL_nil : ∀ (cs : List Value) (o : Nat), stL cs o [] = cs
 | [], 0 => rfl
 | _ :: _, 0 => by simp [stL]
 | [], o + 1 => rfl
 | c :: cs, o + 1 => by simp [stL, stL_nil cs o]
@[simp] theorem stL_len : ∀ (cs : List Value) (o : Nat) (vs : List Value), (stL cs o vs).length = cs.length
 | [], 0, [] => rfl
 | _ :: _, 0, [] => by simp [stL]
 | [], 0, _ :: _ => rfl
 | [], o + 1, vs => by cases vs <;> rfl
 | _ :: cs, 0, v :: vs => by simp [stL, stL_len cs 0 vs]
 | c :: cs, o + 1, vs => by cases vs <;> simp [stL, stL_len cs o]
theorem stL_set : ∀ (cs : List Value) (o : Nat) (u : Value) (vs : List Value), o < cs.length → stL (cs.set o u) (o + 1) vs = stL cs o (u :: vs)
 | [], o, u, vs, h => by simp at h
 | c :: cs, 0, u, vs, _ => by cases vs <;> simp [stL]
 | c :: cs, o + 1, u, vs, h => by simp only [List.set_cons_succ, stL]; rw [stL_set cs o u vs (by simpa using h)]
def oneC (u : Value) : Bool := match u with | .agg _ => false | .tuple _ => false | _ => true
theorem store_run {a : Addr} {u x : Value} (hu : oneC u = true) (hc : W.cell? a = some x) (hf : W.frozen? a = false) : (store a u).run P W = .ok () (W.setCell a u) := by
 unfold store
 cases u <;> first
  | (simp [oneC] at hu; done)
  | simp [Sem.run, hc, hf]
theorem setCell_blk {b o : Nat} {cs : List Value} {T : TypeId} {fr : Nat × Nat} {u : Value} (h : W.heap[b]? = some (.cells cs.toArray T fr)) :
  W.setCell ⟨b, o, none⟩ u = { W with heap := W.heap.setIfInBounds b (.cells (cs.set o u).toArray T fr) } := by
 unfold World.setCell
 congr 1
 apply Array.ext_getElem?
 intro j
 rw [Array.getElem?_modify, Array.getElem?_setIfInBounds]
 have hlt : b < W.heap.size := (Array.getElem?_eq_some_iff.1 h).1
 by_cases hj : b = j
 ·subst hj
  rw [h]
  simp [hlt]
 ·simp [hj]
theorem storeCells_run {b : Nat} {T : TypeId} {L : List Asn} : ∀ (vs : List Value) (off i : Nat) (cs : List Value) (W : World), St W0 (cells b cs T :: L) W → (∀ u ∈ vs, oneC u = true) → off + i + vs.length ≤ cs.length →
  ∃ W', (storeCells ⟨b, off, none⟩ vs i).run P W = .ok () W' ∧ St W0 (cells b (stL cs (off + i) vs) T :: L) W'
 | [], off, i, cs, W, h, _, _ => ⟨W, rfl, by rw [stL_nil]; exact h⟩
 | u :: vs, off, i, cs, W, h, hu, hl => by
  simp only [List.length_cons] at hl
  obtain ⟨fr, hf, hb⟩ := h.cells
  have hbl := hb.blk.2
  have hlt : off + i < cs.length := by omega
  have hc : W.cell? ⟨b, off + i, none⟩ = some cs[off + i] := by simp [World.cell?, hbl, hlt]
  have hfz : W.frozen? ⟨b, off + i, none⟩ = false := by simp only [World.frozen?, hbl]; exact hf _ hlt
  have hst := setCell_blk (W := W) (o := off + i) (u := u) hbl
  have h' : St W0 (cells b (cs.set (off + i) u) T :: L) (W.setCell ⟨b, off + i, none⟩ u) := by
   rw [hst]
   refine (hb.setBlk _).weak fun p hp => ⟨fr, ?_, hp⟩
   intro j hj
   exact hf j (by simpa using hj)
  obtain ⟨W', h1, h2⟩ := storeCells_run vs off (i + 1) _ _ h' (fun x hx => hu x (List.mem_cons_of_mem _ hx)) (by simp; omega)
  refine ⟨W', ?_, ?_⟩
  ·simp only [storeCells, Sem.run_bind, add_none, store_run (P := P) (hu u List.mem_cons_self) hc hfz, Result.andThen_ok, h1]
  ·rw [show off + (i + 1) = off + i + 1 from rfl, stL_set _ _ _ _ hlt] at h2
   exact h2
theorem sto {t : TypeId} {agg : Bool} {sz : Nat} [ht : TyI P t agg sz] {b off : Nat} {cs : List Value} {T : TypeId} {Lf : List Value → List Asn} [hu : Cu b L cs T Lf] {v : Value} {k : Unit → World → Prop}
  (h : St W0 L W) (hsz : (vcells v).length = sz) (ho : off + sz ≤ cs.length) (h1 : (vcells v).all oneC = true)
  (hk : ∀ W', St W0 (Lf (stL cs off (vcells v))) W' → k () W') : efK P (Instr.storeAt t (.pointer (some ⟨b, off, none⟩)) v) k W := by
 obtain ⟨d, i, h2, h3, h4, h5⟩ := ht.ok
 obtain ⟨R, hp, hp'⟩ := hu.perm
 have hall : ∀ u ∈ v.cells.toList, oneC u = true := by
  intro u hu
  rw [vcells_eq] at hu
  exact List.all_eq_true.1 h1 u hu
 have hsz' : v.cells.size = sz := by rw [vcells_eq']; simpa using hsz
 obtain ⟨W', hr, hs⟩ := storeCells_run (P := P) v.cells.toList off 0 cs W (h.perm hp) hall (by simp [hsz']; omega)
 refine ⟨(), W', ?_, hk W' (hs.perm ?_)⟩
 ·simp only [Instr.storeAt, Instr.sureAddr, pure_bind, storeVar, Sem.run_bind, run_sizeOf' h4, Result.andThen_ok, h5]
  rw [if_neg (by simp [hsz'])]
  exact hr
 ·have := (hp' (stL cs off (vcells v))).symm
  rw [vcells_eq, Nat.add_zero]
  exact this
end
theorem stb_ld {P : Program} {W0 W : World} {L : List Asn} {t : TypeId} {agg : Bool} {sz : Nat} [TyI P t agg sz] {b off : Nat} {cs : List Value} {T : TypeId} {L' : List Asn} [Ck b L cs T L'] {i : Nat} {bb : Bool} {v : Value} {l : List HoldV} {R : World → Prop}
  (h : St W0 L W) (hv : getL agg cs off sz = some v) (hsz : agg = true → off + sz ≤ cs.length) (hk : stb P l R W) : stb P ((i, bb, Instr.loadAt t (.pointer (some ⟨b, off, none⟩)), v) :: l) R W :=
 ⟨fun _ => ld_run h hv hsz, hk⟩
theorem stb_n {P : Program} {R : World → Prop} {W : World} (h : R W) : stb P [] R W := h
theorem stb_ldr {P : Program} {W0 W : World} {L : List Asn} {t : TypeId} {agg : Bool} {sz : Nat} [TyI P t agg sz] {b o j : Nat} {cs : List Value} {i : Nat} {bb : Bool} {v : Value} {l : List HoldV} {R : World → Prop}
  (h : St W0 L W) (hr : ro W0 b o cs) (hv : getL agg cs j sz = some v) (hsz : agg = true → j + sz ≤ cs.length) (hk : stb P l R W) : stb P ((i, bb, Instr.loadAt t (.pointer (some ⟨b, o + j, none⟩)), v) :: l) R W :=
 ⟨fun _ => loadAt_ro h hr hv hsz, hk⟩
theorem stb_ldr0 {P : Program} {W0 W : World} {L : List Asn} {t : TypeId} {agg : Bool} {sz : Nat} [TyI P t agg sz] {b o : Nat} {cs : List Value} {i : Nat} {bb : Bool} {v : Value} {l : List HoldV} {R : World → Prop}
  (h : St W0 L W) (hr : ro W0 b o cs) (hv : getL agg cs 0 sz = some v) (hsz : agg = true → 0 + sz ≤ cs.length) (hk : stb P l R W) : stb P ((i, bb, Instr.loadAt t (.pointer (some ⟨b, o, none⟩)), v) :: l) R W :=
 ⟨fun _ => ldr_run0 h hr hv hsz, hk⟩
theorem stL_eq : ∀ (cs : List Value) (o : Nat) (vs : List Value), o + vs.length ≤ cs.length → stL cs o vs = cs.take o ++ vs ++ cs.drop (o + vs.length)
 | cs, o, [], h => by simp [stL_nil]
 | [], o, v :: vs, h => by simp at h
 | c :: cs, 0, v :: vs, h => by
  have := stL_eq cs 0 vs (by simpa using h)
  simp [stL, this]
 | c :: cs, o + 1, v :: vs, h => by
  have := stL_eq cs o (v :: vs) (by simp at h ⊢; omega)
  simp only [stL, this, List.take_succ_cons, List.cons_append, List.length_cons]
  rw [show o + 1 + (vs.length + 1) = (o + (vs.length + 1)) + 1 by omega, List.drop_succ_cons]
theorem bldP_eq {place : Nat → Option (Nat × Nat)} {zero cs : List Value} {parts : List (Nat × Value)} (h : fillL place zero parts = some cs) : bldP place zero parts = some (.agg cs.toArray) := by
 simp only [bldP, h]
theorem joinK_i {K : List Value → World → Prop} {A : (List Value → World → Prop) → Prop} (h : A K) : joinK K A := h
theorem loop_i {body : (List Value → World → Prop) → List Value → World → Prop} {s : List Value} {W : World} (I : Nat → List Value → World → Prop) (m : Nat) (h0 : I m s W)
  (hr : ∀ m s W, I m s W → body (fun s' W' => ∃ m', m' < m ∧ I m' s' W') s W) : loopK body s W := ⟨I, ⟨m, h0⟩, hr⟩
section
variable {P : Program} {W0 W W' : World} {L : List Asn}
theorem ca {g : Nat} {args : List Value} {R k : Value → World → Prop} (h : callK P g args R W) (hk : ∀ v W', R v W' → k v W') : callK P g args k W := callK_mono h hk
class Pure0 (P : Program) (g : Nat) (args : List Value) (v : outParam Value) : Prop where
 ok : ∀ W, callK P g args (fun v' W' => v' = v ∧ St W [] W') W
theorem cp {g : Nat} {args : List Value} {v : Value} [hp : Pure0 P g args v] {k : Value → World → Prop} (h : St W0 L W) (hk : ∀ W', St W0 L W' → k v W') : callK P g args k W :=
 callK_mono (hp.ok W) fun v' W' ⟨e, h'⟩ => by subst e; exact hk W' (by simpa using h.over h')
class Meth (P : Program) (g : Nat) (b : Nat) (T : TypeId) (cs : List Value) (args : List Value) (v : outParam Value) (cs' : outParam (List Value)) : Prop where
 ok : ∀ W0 L W, St W0 (cells b cs T :: L) W → callK P g (.pointer (some ⟨b, 0, none⟩) :: args) (fun v' W' => v' = v ∧ St W0 (cells b cs' T :: L) W') W
theorem cm {g b : Nat} {T : TypeId} {cs cs' : List Value} {args : List Value} {v : Value} {Lf : List Value → List Asn} {k : Value → World → Prop} (h : St W0 L W) [hu : Cu b L cs T Lf] [hm : Meth P g b T cs args v cs']
  (hk : ∀ W', St W0 (Lf cs') W' → k v W') : callK P g (.pointer (some ⟨b, 0, none⟩) :: args) k W := by
 obtain ⟨R, hp, hp'⟩ := hu.perm
 exact callK_mono (hm.ok W0 R W (h.perm hp)) fun v' W' ⟨e, h'⟩ => by subst e; exact hk W' (h'.perm (hp' _).symm)
theorem St.mk' (h : St W0 L W) {L' : List Asn} (h' : St W L' W') : St W0 (L' ++ L) W' := h.over h'
end
end Go.Eng
namespace Go.Eng
open Go
theorem TyI.mk' {P : Program} {t : TypeId} {agg : Bool} {sz : Nat} (h1 : (P.underlying t).map aggB = some agg) (h2 : (P.info? t).map (·.size) = some sz) : TyI P t agg sz := by
 obtain ⟨d, hd, hd'⟩ := Option.map_eq_some_iff.1 h1
 obtain ⟨i, hi, hi'⟩ := Option.map_eq_some_iff.1 h2
 exact ⟨d, i, hd, hd', hi, hi'⟩
theorem TyZ.mk' {P : Program} {t : TypeId} {z : Value} (h : (P.info? t).map (·.zero) = some (some z)) : TyZ P t z := by
 obtain ⟨i, hi, hi'⟩ := Option.map_eq_some_iff.1 h
 exact ⟨i, hi, hi'⟩
theorem TyS.mk' {P : Program} {t e : TypeId} {sz by' : Nat} {z : Value} (h1 : P.underlying t = some (.slice e)) (h : (P.info? e).map (fun i => (i.size, i.bytes, i.zero)) = some (sz, by', some z)) (h2 : z.cells.size = sz) : TyS P t e sz by' z := by
 obtain ⟨i, hi, hi'⟩ := Option.map_eq_some_iff.1 h
 simp only [Prod.mk.injEq] at hi'
 exact ⟨⟨i, h1, hi, hi'.1, hi'.2.1, hi'.2.2⟩, h2⟩
end Go.Eng
namespace Go.Eng
set_option linter.unusedVariables false
set_option linter.unusedSimpArgs false
open Go Go.RowKit

inductive Leaf where
  | b
  | i
  | s
def leafOf : TypeDesc → Option Leaf
  | .bool => some .b
  | .int _ => some .i
  | .string => some .s
  | _ => none
def flatF (P : Program) (g : TypeId → Option (List Leaf)) : List Field → Nat → Option (List Leaf)
  | [], _ => some []
  | f :: r, off => match f.name != "_" && Nat.beq f.offset off with
    | false => none
    | true => match g f.type, P.info? f.type with
      | some ks, some i => match Nat.beq i.size ks.length with
        | true => (match flatF P g r (off + ks.length) with | some l => some (ks ++ l) | none => none)
        | false => none
      | _, _ => none
def flat (P : Program) : Nat → TypeId → Option (List Leaf)
  | 0, _ => none
  | d + 1, t => match P.underlying t with
    | some (.struct fs) => match P.stoodInHeld t with
      | true => none
      | false => flatF P (flat P d) fs.toList 0
    | some (.array n e) => match flat P d e, P.info? e with
      | some ks, some i => (match Nat.beq i.size ks.length with | true => some (List.replicate n ks).flatten | false => none)
      | _, _ => none
    | some u => (match leafOf u with | some k => some [k] | none => none)
    | none => none
def eq1 : Leaf → Value → Value → Option Bool
  | .b, .bool a, .bool b => some (a == b)
  | .i, .int k a, .int k' b => if k = k' then some (a == b) else none
  | .s, .string a, .string b => some (a == b)
  | _, _, _ => none
def eqC : List Leaf → List Value → List Value → Option Bool
  | [], [], [] => some true
  | k :: ks, x :: xs, y :: ys => match eq1 k x y, eqC ks xs ys with
    | some a, some b => some (a && b)
    | _, _ => none
  | _, _, _ => none

theorem eqC_len : ∀ (ks : List Leaf) (xs ys : List Value) (b : Bool), eqC ks xs ys = some b → xs.length = ks.length ∧ ys.length = ks.length
  | [], [], [], _, _ => ⟨rfl, rfl⟩
  | k :: ks, x :: xs, y :: ys, b, h => by
    simp only [eqC] at h
    split at h
    · rename_i h2
      have := eqC_len ks xs ys _ h2
      simp [this]
    · cases h
  | [], _ :: _, _, _, h => by simp [eqC] at h
  | [], [], _ :: _, _, h => by simp [eqC] at h
  | _ :: _, [], _, _, h => by simp [eqC] at h
  | _ :: _, _ :: _, [], _, h => by simp [eqC] at h
theorem eqC_split : ∀ (ks l : List Leaf) (xs ys : List Value) (b : Bool), eqC (ks ++ l) xs ys = some b →
    ∃ b1 b2, eqC ks (xs.take ks.length) (ys.take ks.length) = some b1 ∧ eqC l (xs.drop ks.length) (ys.drop ks.length) = some b2 ∧ b = (b1 && b2)
  | [], l, xs, ys, b, h => ⟨true, b, by simp [eqC], by simpa using h, by simp⟩
  | k :: ks, l, x :: xs, y :: ys, b, h => by
    simp only [List.cons_append, eqC] at h
    split at h
    · rename_i c d h1 h2
      obtain ⟨b1, b2, h3, h4, h5⟩ := eqC_split ks l xs ys _ h2
      simp only [Option.some.injEq] at h
      refine ⟨c && b1, b2, by simp [eqC, h1, h3], by simpa using h4, ?_⟩
      rw [← h, h5, Bool.and_assoc]
    · cases h
  | _ :: _, _, [], _, _, h => by simp [eqC] at h
  | _ :: _, _, _ :: _, [], _, h => by simp [eqC] at h

section
variable {P : Program} {w : World}
theorem eqF_run (g : TypeId → Option (List Leaf)) (e : TypeId → Value → Value → Sem Bool) (xs ys : List Value)
    (he : ∀ t ks d i off b, g t = some ks → P.underlying t = some d → P.info? t = some i → i.size = ks.length → eqC ks ((xs.drop off).take ks.length) ((ys.drop off).take ks.length) = some b →
      ∃ x y, (part t xs.toArray off).run P w = .ok x w ∧ (part t ys.toArray off).run P w = .ok y w ∧ (e t x y).run P w = .ok b w)
    (hu : ∀ t ks, g t = some ks → ∃ d, P.underlying t = some d) :
    ∀ (fs : List Field) (off : Nat) (ks : List Leaf) (b : Bool), flatF P g fs off = some ks → eqC ks (xs.drop off) (ys.drop off) = some b → ∀ r : Option Bool × Unit → Sem Bool, (∀ s, s.1 = none → (r s).run P w = .ok true w) → (∀ s c, s.1 = some c → (r s).run P w = .ok c w) →
      (do
        let s ← forIn fs ((none, ()) : Option Bool × Unit) fun f _ =>
          if f.name ≠ "_" then do
            let a ← part f.type xs.toArray f.offset
            let b ← part f.type ys.toArray f.offset
            let c ← e f.type a b
            if (!c) = true then pure (ForInStep.done (some false, ())) else pure (ForInStep.yield (none, ()))
          else pure (ForInStep.yield (none, ()))
        r s : Sem Bool).run P w = .ok b w := by
  intro fs
  induction fs with
  | nil =>
    intro off ks b hf hc r hr1 hr2
    simp only [flatF, Option.some.injEq] at hf
    subst hf
    have : b = true := by
      cases hx : xs.drop off <;> cases hy : ys.drop off <;> simp_all [eqC]
    subst this
    simp [hr1]
  | cons f fs ih =>
    intro off ks b hf hc r hr1 hr2
    simp only [flatF] at hf
    split at hf
    · cases hf
    · rename_i hn
      simp only [Bool.and_eq_true, bne_iff_ne, ne_eq] at hn
      have ho := Nat.eq_of_beq_eq_true hn.2
      split at hf
      · rename_i k1 i hg hi
        split at hf
        · rename_i hsz
          have hsz := Nat.eq_of_beq_eq_true hsz
          split at hf
          · rename_i l hl
            simp only [Option.some.injEq] at hf
            subst hf
            obtain ⟨b1, b2, h1, h2, h3⟩ := eqC_split _ _ _ _ _ hc
            simp only [List.drop_drop] at h2
            obtain ⟨d, hd⟩ := hu _ _ hg
            obtain ⟨x, y, hx, hy, hxy⟩ := he f.type k1 d i off b1 hg hd hi hsz h1
            subst ho
            simp only [List.forIn_cons, Sem.run_bind, hn.1, ne_eq, not_false_eq_true, if_true, hx, hy, hxy, Result.andThen_ok]
            cases b1 with
            | false =>
              simp only [Bool.not_false, if_true, Sem.run_pure, Result.andThen_ok]
              subst h3
              exact hr2 _ _ rfl
            | true =>
              simp only [Bool.not_true, Bool.false_eq_true, if_false, Sem.run_bind, Sem.run_pure, Result.andThen_ok]
              subst h3
              have := ih _ l _ hl h2 r hr1 hr2
              simpa only [Sem.run_bind, Bool.true_and] using this
          · cases hf
        · cases hf
      · cases hf

theorem eqA_run (g : TypeId → Option (List Leaf)) (e : TypeId → Value → Value → Sem Bool) (xs ys : List Value) (t : TypeId) (ks : List Leaf) (n : Nat) (hn : n = ks.length)
    (he : ∀ off b, eqC ks ((xs.drop off).take ks.length) ((ys.drop off).take ks.length) = some b → ∃ x y, (part t xs.toArray off).run P w = .ok x w ∧ (part t ys.toArray off).run P w = .ok y w ∧ (e t x y).run P w = .ok b w) :
    ∀ (m i : Nat) (b : Bool), eqC (List.replicate m ks).flatten (xs.drop (i * n)) (ys.drop (i * n)) = some b → ∀ r : Option Bool × Unit → Sem Bool, (∀ s, s.1 = none → (r s).run P w = .ok true w) → (∀ s c, s.1 = some c → (r s).run P w = .ok c w) →
      (do
        let s ← forIn (List.range' i m) ((none, ()) : Option Bool × Unit) fun i _ => do
            let a ← part t xs.toArray (i * n)
            let b ← part t ys.toArray (i * n)
            let c ← e t a b
            if (!c) = true then pure (ForInStep.done (some false, ())) else pure (ForInStep.yield (none, ()))
        r s : Sem Bool).run P w = .ok b w := by
  intro m
  induction m with
  | zero =>
    intro i b hc r hr1 hr2
    rw [List.replicate_zero, List.flatten_nil] at hc
    have : b = true := by
      generalize xs.drop (i * n) = u at hc
      generalize ys.drop (i * n) = v at hc
      cases u <;> cases v <;> simp [eqC] at hc
      exact hc
    subst this
    simp [hr1]
  | succ m ih =>
    intro i b hc r hr1 hr2
    rw [List.replicate_succ, List.flatten_cons] at hc
    obtain ⟨b1, b2, h1, h2, h3⟩ := eqC_split _ _ _ _ _ hc
    simp only [List.drop_drop] at h2
    obtain ⟨x, y, hx, hy, hxy⟩ := he (i * n) b1 h1
    simp only [List.range'_succ, List.forIn_cons, Sem.run_bind, hx, hy, hxy, Result.andThen_ok]
    cases b1 with
    | false =>
      simp only [Bool.not_false, if_true, Sem.run_pure, Result.andThen_ok]
      subst h3
      exact hr2 _ _ rfl
    | true =>
      simp only [Bool.not_true, Bool.false_eq_true, if_false, Sem.run_bind, Sem.run_pure, Result.andThen_ok]
      subst h3
      have e1 : i * n + ks.length = (i + 1) * n := by rw [Nat.succ_mul, hn]
      rw [e1] at h2
      have := ih (i + 1) _ h2 r hr1 hr2
      simpa only [Sem.run_bind, Bool.true_and] using this
theorem equal_run : ∀ (m : Nat) (d : Nat) (t : TypeId) (ks : List Leaf) (xs ys : List Value) (b : Bool) (u : TypeDesc), flat P m t = some ks → P.underlying t = some u → eqC ks xs ys = some b →
    ∀ x y, (aggB u = true → x = .agg xs.toArray ∧ y = .agg ys.toArray) → (aggB u = false → xs = [x] ∧ ys = [y]) → (Op.equalIn (m + d) t x y).run P w = .ok b w := by
  intro m
  induction m with
  | zero => intro d t ks xs ys b u h; simp [flat] at h
  | succ m ih =>
    intro d t ks xs ys b u hf hu hc x y hag hna
    have he : ∀ (xs ys : List Value) t' k1 d' i off b1, flat P m t' = some k1 → P.underlying t' = some d' → P.info? t' = some i → i.size = k1.length → eqC k1 ((xs.drop off).take k1.length) ((ys.drop off).take k1.length) = some b1 →
        ∃ x y, (part t' xs.toArray off).run P w = .ok x w ∧ (part t' ys.toArray off).run P w = .ok y w ∧ (Op.equalIn (m + d) t' x y).run P w = .ok b1 w := by
      intro xs ys t' k1 d' i off b1 hg hd hi hsz h1
      obtain ⟨l1, l2⟩ := eqC_len _ _ _ _ h1
      simp only [List.length_take, List.length_drop] at l1 l2
      have hpx : ∀ zs : List Value, k1.length ≤ zs.length - off → aggB d' = true → partV (aggB d') zs.toArray off i.size = some (.agg ((zs.drop off).take k1.length).toArray) := by
        intro zs _ ha
        simp [partV, ha, hsz, List.extract_toArray, List.extract_eq_take_drop]
      cases ha : aggB d' with
      | true =>
        exact ⟨_, _, partV_run hd hi (hpx xs (by omega) ha), partV_run hd hi (hpx ys (by omega) ha), ih d t' k1 _ _ b1 d' hg hd h1 _ _ (fun _ => ⟨rfl, rfl⟩) (fun h => by rw [ha] at h; cases h)⟩
      | false =>
        have hk1 : k1.length = 1 := by
          cases m with
          | zero => simp [flat] at hg
          | succ m =>
            simp only [flat, hd] at hg
            split at hg
            · rename_i he; simp only [Option.some.injEq] at he; subst he; simp [aggB] at ha
            · rename_i he; simp only [Option.some.injEq] at he; subst he; simp [aggB] at ha
            · split at hg
              · simp only [Option.some.injEq] at hg; rw [← hg]; rfl
              · cases hg
            · cases hg
        have hx : off < xs.length := by omega
        have hy : off < ys.length := by omega
        refine ⟨xs[off], ys[off], partV_run hd hi (by rw [ha]; simp [partV, hx]), partV_run hd hi (by rw [ha]; simp [partV, hy]), ih d t' k1 _ _ b1 d' hg hd h1 _ _ (fun h => by rw [ha] at h; cases h) (fun _ => ⟨?_, ?_⟩)⟩
        · rw [hk1, List.drop_eq_getElem_cons hx]; rfl
        · rw [hk1, List.drop_eq_getElem_cons hy]; rfl

    simp only [flat, hu] at hf
    split at hf
    · rename_i fs heq
      simp only [Option.some.injEq] at heq
      subst heq
      obtain ⟨rfl, rfl⟩ := hag rfl
      split at hf
      · cases hf
      · rename_i hst
        rw [show m + 1 + d = (m + d) + 1 by omega, Op.equalIn]
        simp only [Sem.run_bind, run_underlying hu, Result.andThen_ok]
        rw [← Array.forIn_toList]
        have key := eqF_run (P := P) (w := w) (flat P m) (Op.equalIn (m + d)) xs ys
        have hpr : (program : Sem Program).run P w = .ok P w := rfl
        simp only [hpr, Result.andThen_ok, hst, Bool.false_eq_true, if_false]
        refine key ?_ ?_ fs.toList 0 ks b hf (by simpa using hc) _ ?_ ?_
        · exact fun t' k1 d' i off b1 hg hd hi hsz h1 => he xs ys t' k1 d' i off b1 hg hd hi hsz h1
        · intro t' k1 hg
          cases m with
          | zero => simp [flat] at hg
          | succ m =>
            simp only [flat] at hg
            cases hq : P.underlying t' with
            | none => rw [hq] at hg; simp at hg
            | some d => exact ⟨d, rfl⟩
        · rintro ⟨s, _⟩ rfl; rfl
        · rintro ⟨s, _⟩ c rfl; rfl
    · rename_i n e heq
      simp only [Option.some.injEq] at heq
      subst heq
      obtain ⟨rfl, rfl⟩ := hag rfl
      split at hf
      · rename_i k1 i hg hi
        split at hf
        · rename_i hsz
          have hsz := Nat.eq_of_beq_eq_true hsz
          simp only [Option.some.injEq] at hf
          subst hf
          have hd : ∃ d', P.underlying e = some d' := by
            cases m with
            | zero => simp [flat] at hg
            | succ m =>
              simp only [flat] at hg
              cases hq : P.underlying e with
              | none => rw [hq] at hg; simp at hg
              | some d => exact ⟨d, rfl⟩
          obtain ⟨d', hd⟩ := hd
          rw [show m + 1 + d = (m + d) + 1 by omega, Op.equalIn]
          simp only [Sem.run_bind, run_underlying hu, Result.andThen_ok, run_sizeOf' hi]
          simp only [Std.Legacy.Range.forIn_eq_forIn_range', Std.Legacy.Range.size, Nat.sub_zero, Nat.add_one_sub_one, Nat.div_one]
          have key := eqA_run (P := P) (w := w) (flat P m) (Op.equalIn (m + d)) xs ys e k1 i.size hsz (fun off b1 h1 => he xs ys e k1 d' i off b1 hg hd hi hsz h1)
          have k2 := fun r h1 h2 => key n 0 b (by simpa using hc) r h1 h2
          simp only [Sem.run_bind] at k2
          refine k2 _ ?_ ?_
          · rintro ⟨s, _⟩ rfl; rfl
          · rintro ⟨s, _⟩ c rfl; rfl
        · cases hf
      · cases hf
    · rename_i u' heq hne
      simp only [Option.some.injEq] at hne
      subst hne
      rw [show m + 1 + d = (m + d) + 1 by omega, Op.equalIn]
      simp only [Sem.run_bind, run_underlying hu, Result.andThen_ok]
      cases u <;> simp only [leafOf] at hf <;> try (cases hf; done)
      all_goals
        simp only [Option.some.injEq] at hf
        subst hf
        obtain ⟨rfl, rfl⟩ := hna rfl
        simp only [eqC] at hc
        split at hc
        · rename_i b1 b2 h1 h2
          simp only [Option.some.injEq] at h2 hc
          subst h2
          rw [Bool.and_true] at hc
          subst hc
          cases x <;> simp only [eq1] at h1 <;> try (cases h1; done)
          all_goals
            cases y <;> simp only [eq1] at h1 <;> try (cases h1; done)
          all_goals
            first
              | (simp only [Option.some.injEq] at h1; subst h1; rfl)
              | (split at h1
                 · rename_i hk
                   simp only [Option.some.injEq] at h1
                   subst h1
                   simp [hk]
                 · cases h1)
        · cases hc
    · cases hf

/-- a struct's '==' -/
class EqS (P : Program) (t : TypeId) (ks : outParam (List Leaf)) : Prop where
  ok : ∃ u, P.underlying t = some u ∧ aggB u = true ∧ flat P 8 t = some ks ∧ P.eqGuardType P.depth t = false
theorem EqS.mk' {t : TypeId} {ks : List Leaf} (h1 : (P.underlying t).map aggB = some true) (h2 : flat P 8 t = some ks) (h3 : P.eqGuardType P.depth t = false) : EqS P t ks := by
  obtain ⟨u, hu, ha⟩ := Option.map_eq_some_iff.1 h1
  exact ⟨u, hu, ha, h2, h3⟩
theorem aggEq_run {t : TypeId} {ks : List Leaf} [he : EqS P t ks] {xs ys : List Value} {b : Bool} (hb : eqC ks xs ys = some b) : (aggEq .eql t (.agg xs.toArray) (.agg ys.toArray)).run P w = .ok (.bool b) w ∧ (aggEq .neq t (.agg xs.toArray) (.agg ys.toArray)).run P w = .ok (.bool !b) w := by
  obtain ⟨u, h1, h0, h2, h3⟩ := he.ok
  have := equal_run (P := P) (w := w) 8 9992 t ks xs ys b _ h2 h1 hb (.agg xs.toArray) (.agg ys.toArray) (fun _ => ⟨rfl, rfl⟩) (fun h => by rw [h0] at h; cases h)
  have hm : Op.equal t (.agg xs.toArray) (.agg ys.toArray) = Op.equalIn (8 + 9992) t (.agg xs.toArray) (.agg ys.toArray) := rfl
  have hpr : (program : Sem Program).run P w = .ok P w := rfl
  have hg : ∀ op, op = .eql ∨ op = .neq → (eqGuard op t (.tmp 0) (.tmp 0) (.agg xs.toArray) (.agg ys.toArray)).run P w = .ok () w := by
    rintro op (rfl | rfl) <;> simp [eqGuard, hpr, h3]
  constructor
  · simp only [aggEq, Sem.run_bind, hg _ (.inl rfl), Result.andThen_ok, binOp, hm, this, Sem.run_pure]
  · simp only [aggEq, Sem.run_bind, hg _ (.inr rfl), Result.andThen_ok, binOp, hm, this, Sem.run_pure]
theorem eqs {t : TypeId} {ks : List Leaf} [EqS P t ks] {xs ys : List Value} {k : Value → World → Prop} (hk : ∃ b, eqC ks xs ys = some b ∧ k (.bool b) w) : rdK P (aggEq .eql t (.agg xs.toArray) (.agg ys.toArray)) k w := by
  obtain ⟨b, hb, hk⟩ := hk
  exact ⟨.bool b, (aggEq_run hb).1, hk⟩
theorem nes {t : TypeId} {ks : List Leaf} [EqS P t ks] {xs ys : List Value} {k : Value → World → Prop} (hk : ∃ b, eqC ks xs ys = some b ∧ k (.bool !b) w) : rdK P (aggEq .neq t (.agg xs.toArray) (.agg ys.toArray)) k w := by
  obtain ⟨b, hb, hk⟩ := hk
  exact ⟨.bool !b, (aggEq_run hb).2, hk⟩
end
end Go.Eng
namespace Go.Eng
set_option linter.unusedVariables false
set_option linter.unusedSimpArgs false
open Go Go.RowKit
def ent (L L' : List Asn) : Prop := ∀ p, sep L p → sep L' p
theorem ent.refl (L : List Asn) : ent L L := fun _ h => h
theorem ent.trans {L L' L'' : List Asn} (h : ent L L') (h' : ent L' L'') : ent L L'' := fun p hp => h' p (h p hp)
theorem ent.cons {L L' : List Asn} (x : Asn) (h : ent L L') : ent (x :: L) (x :: L') := fun _ ⟨h1, h2, hd, hj, ha, hl⟩ => ⟨h1, h2, hd, hj, ha, h _ hl⟩
theorem ent.perm {L L' : List Asn} (h : L.Perm L') : ent L L' := fun _ hp => sep_perm h hp
theorem ent.weak {L : List Asn} {a a' : Asn} (h : ∀ p, a p → a' p) : ent (a :: L) (a' :: L) := fun _ ⟨h1, h2, hd, hj, ha, hl⟩ => ⟨h1, h2, hd, hj, h _ ha, hl⟩
theorem ent.swap (a b : Asn) (L : List Asn) : ent (a :: b :: L) (b :: a :: L) := fun _ h => sep_swap h
theorem ent.rot3 (a b c : Asn) (L : List Asn) : ent (a :: b :: c :: L) (b :: c :: a :: L) := (ent.swap a b _).trans (ent.cons b (ent.swap a c L))
theorem ent.rot3' (a b c : Asn) (L : List Asn) : ent (a :: b :: c :: L) (c :: a :: b :: L) := (ent.cons a (ent.swap b c L)).trans (ent.swap a c _)
theorem ent.emp {L : List Asn} {a : Asn} (h : a fun _ => none) : ent L (a :: L) := fun p hp =>
 ⟨fun _ => none, p, fun x => .inl rfl, by funext x; simp [PH.join], h, hp⟩
theorem ent.pack (l L : List Asn) : ent (l ++ L) (sep l :: L) := fun _ hp => by
 obtain ⟨h1, h2, hd, hj, h3, h4⟩ := sep_append.1 hp
 exact ⟨h1, h2, hd, hj, h3, h4⟩
theorem ent.flat (l L : List Asn) : ent (sep l :: L) (l ++ L) := fun _ ⟨h1, h2, hd, hj, h3, h4⟩ => sep_append.2 ⟨h1, h2, hd, hj, h3, h4⟩
theorem St.ent {W0 W : World} {L L' : List Asn} (h : St W0 L W) (he : Eng.ent L L') : St W0 L' W := by
 obtain ⟨hb, p, hs, ho⟩ := h
 exact ⟨hb, p, he _ hs, ho⟩
structure Ly (α : Type) where
 sz : Nat
 pos : 0 < sz
 row : α → List Value
 len : ∀ a, (row a).length = sz
 one : ∀ a, (row a).all oneC = true
def Ly.rows {α : Type} (A : Ly α) (l : List α) : List Value := l.flatMap A.row
section
variable {α : Type} {A : Ly α}
@[simp] theorem Ly.rows_nil : A.rows [] = [] := rfl
theorem Ly.rows_cons {a : α} {l : List α} : A.rows (a :: l) = A.row a ++ A.rows l := by simp [Ly.rows]
theorem Ly.rows_app {l m : List α} : A.rows (l ++ m) = A.rows l ++ A.rows m := by simp [Ly.rows]
theorem Ly.rows_len {l : List α} : (A.rows l).length = l.length * A.sz := by
 induction l with
 | nil => simp
 | cons a l ih => rw [Ly.rows_cons, List.length_append, ih, A.len, List.length_cons, Nat.succ_mul, Nat.add_comm]
theorem Ly.rows_drop {l : List α} : ∀ k, (A.rows l).drop (k * A.sz) = A.rows (l.drop k) := by
 induction l with
 | nil => simp
 | cons a l ih =>
  intro k
  cases k with
  | zero => simp
  | succ k =>
   rw [Ly.rows_cons, Nat.succ_mul, Nat.add_comm, ← List.drop_drop, List.drop_left' (A.len a), ih]
   rfl
theorem Ly.rows_take {l : List α} : ∀ k, (A.rows l).take (k * A.sz) = A.rows (l.take k) := by
 induction l with
 | nil => simp
 | cons a l ih =>
  intro k
  cases k with
  | zero => simp
  | succ k =>
   rw [Ly.rows_cons, Nat.succ_mul, Nat.add_comm, List.take_add, List.take_left' (A.len a), List.drop_left' (A.len a), ih, List.take_succ_cons, Ly.rows_cons]
theorem Ly.rows_at {l : List α} {i : Nat} (hi : i < l.length) : ((A.rows l).drop (i * A.sz)).take A.sz = A.row l[i] := by
 rw [Ly.rows_drop, List.drop_eq_getElem_cons hi, Ly.rows_cons, List.take_left' (A.len _)]
theorem Ly.rows_one {l : List α} : (A.rows l).all oneC = true := by
 induction l with
 | nil => rfl
 | cons a l ih => rw [Ly.rows_cons, List.all_append, A.one, ih]; rfl
theorem Ly.rows_set {l : List α} {i : Nat} {x : α} (hi : i < l.length) : A.rows (l.set i x) = (A.rows l).take (i * A.sz) ++ A.row x ++ (A.rows l).drop (i * A.sz + A.sz) := by
 rw [List.set_eq_take_append_cons_drop, if_pos hi, Ly.rows_app, Ly.rows_cons, ← Ly.rows_take, ← Nat.succ_mul, Ly.rows_drop, List.append_assoc]
end
def arr {α : Type} (A : Ly α) (e : TypeId) (a : Option Addr) (c : Nat) (l : List α) : Asn := fun p =>
 l.length ≤ c ∧ c ≤ maxLen ∧ ((a = none ∧ c = 0 ∧ ∀ x, p x = none) ∨
  ∃ g o cur, a = some ⟨g, o, none⟩ ∧ o + c * A.sz ≤ cur.length ∧ (cur.drop o).take (l.length * A.sz) = A.rows l ∧ cells g cur e p)
section
variable {α : Type} {A : Ly α} {P : Program} {W0 W W' : World} {L L' : List Asn} {e : TypeId} {a : Option Addr} {c : Nat} {l : List α}
theorem arr_nil (A : Ly α) (e : TypeId) : ent L (arr A e none 0 [] :: L) := ent.emp ⟨Nat.le_refl _, Nat.zero_le _, .inl ⟨rfl, rfl, fun _ => rfl⟩⟩
theorem St.arrFacts (h : St W0 (arr A e a c l :: L) W) : l.length ≤ c ∧ c ≤ maxLen ∧ (a = none → c = 0) ∧ (0 < c → ∃ g o, a = some ⟨g, o, none⟩) := by
 obtain ⟨hb, p, ⟨h1, h2, hd, hj, ⟨h3, h4, h5⟩, hl⟩, ho⟩ := h
 refine ⟨h3, h4, ?_, ?_⟩
 ·rintro rfl
  rcases h5 with ⟨_, h, _⟩ | ⟨g, o, cur, h, _⟩
  ·exact h
  ·cases h
 ·intro hc
  rcases h5 with ⟨_, h, _⟩ | ⟨g, o, cur, h, _⟩
  ·omega
  ·exact ⟨g, o, h⟩
theorem St.arrCells (h : St W0 (arr A e a c l :: L) W) (hc : a ≠ none) : ∃ g o cur, a = some ⟨g, o, none⟩ ∧ o + c * A.sz ≤ cur.length ∧ (cur.drop o).take (l.length * A.sz) = A.rows l ∧ St W0 (Eng.cells g cur e :: L) W := by
 obtain ⟨hb, p, ⟨h1, h2, hd, hj, ⟨h3, h4, h5⟩, hl⟩, ho⟩ := h
 rcases h5 with ⟨h, _, _⟩ | ⟨g, o, cur, h6, h7, h8, h9⟩
 ·exact absurd h hc
 ·exact ⟨g, o, cur, h6, h7, h8, hb, p, ⟨h1, h2, hd, hj, h9, hl⟩, ho⟩
theorem arr_of_cells {g o : Nat} {cur : List Value} (h1 : l.length ≤ c) (h2 : c ≤ maxLen) (h3 : o + c * A.sz ≤ cur.length) (h4 : (cur.drop o).take (l.length * A.sz) = A.rows l) :
  ent (Eng.cells g cur e :: L) (arr A e (some ⟨g, o, none⟩) c l :: L) := ent.weak fun p hp => ⟨h1, h2, .inr ⟨g, o, cur, rfl, h3, h4, hp⟩⟩
theorem arr_full {g : Nat} {l : List α} (h2 : l.length ≤ maxLen) : ent (Eng.cells g (A.rows l) e :: L) (arr A e (some ⟨g, 0, none⟩) l.length l :: L) :=
 arr_of_cells (Nat.le_refl _) h2 (by rw [Ly.rows_len]; omega) (by rw [List.drop_zero, ← Ly.rows_len, List.take_length])
theorem arr_cut (lo hi m : Nat) (h1 : lo ≤ hi) (h2 : hi ≤ l.length) (h3 : hi ≤ m) (h4 : m ≤ c) : ∀ p, arr A e a c l p → arr A e (if m = lo then a else a.map (·.add (lo * A.sz))) (m - lo) ((l.take hi).drop lo) p := by
 rintro p ⟨h5, h6, h7⟩
 refine ⟨by simp; omega, by omega, ?_⟩
 rcases h7 with ⟨rfl, rfl, h7⟩ | ⟨g, o, cur, rfl, h8, h9, h10⟩
 ·exact .inl ⟨by split <;> rfl, by omega, h7⟩
 ·have hrow : ∀ k n, k + n ≤ l.length → (cur.drop (o + k * A.sz)).take (n * A.sz) = A.rows ((l.take (k + n)).drop k) := by
   intro k n hk
   have e1 : (cur.drop o).take ((k + n) * A.sz) = A.rows (l.take (k + n)) := by
    rw [← Ly.rows_take, ← h9, List.take_take, Nat.min_eq_left (Nat.mul_le_mul_right _ hk)]
   rw [← Ly.rows_drop, ← e1, List.drop_take, List.drop_drop, Nat.add_mul, Nat.add_sub_cancel_left]
  have hlen : ((l.take hi).drop lo).length = hi - lo := by simp; omega
  by_cases hm : m = lo
  ·rw [if_pos hm]
   refine .inr ⟨g, o, cur, rfl, ?_, ?_, h10⟩
   ·subst hm; simp; omega
   ·rw [hlen, show hi - lo = 0 by omega]
    rw [show (l.take hi).drop lo = [] from List.eq_nil_of_length_eq_zero (by omega)]
    simp
  ·rw [if_neg hm]
   refine .inr ⟨g, o + lo * A.sz, cur, by simp [add_none], ?_, ?_, h10⟩
   ·have : (m - lo) * A.sz + lo * A.sz = m * A.sz := by rw [← Nat.add_mul]; congr 1; omega
    have := Nat.mul_le_mul_right A.sz h4
    omega
   ·rw [hlen]
    have := hrow lo (hi - lo) (by omega)
    rw [show lo + (hi - lo) = hi by omega] at this
    exact this
def RdP (W0 : World) (L : List Asn) (a : Option Addr) (xs : List Value) : Prop := ∀ W, St W0 L W → xs = [] ∨ ∃ g o, a = some ⟨g, o, none⟩ ∧ ro W g o xs
class Rd (W0 : World) (L : List Asn) (a : Option Addr) {α : outParam Type} (A : outParam (Ly α)) (l : outParam (List α)) : Prop where
 ok : RdP W0 L a (A.rows l)
theorem ro_cells {W0 W : World} {L : List Asn} {g : Nat} {cur : List Value} {e : TypeId} (h : St W0 (Eng.cells g cur e :: L) W) (o : Nat) : ro W g o (cur.drop o) := by
 intro j hj
 simp only [List.length_drop] at hj
 rw [(St.cellOf (L' := L) (b := g) (cs := cur) (T := e) h (o + j) (by omega)).1, List.getElem?_drop]
theorem ro_take {W : World} {g o : Nat} {xs : List Value} (h : ro W g o xs) (n : Nat) : ro W g o (xs.take n) := by
 intro j hj
 simp only [List.length_take] at hj
 rw [h j (by omega), List.getElem?_take_of_lt (by omega)]
theorem ro_drop {W : World} {g o : Nat} {xs : List Value} (h : ro W g o xs) (n : Nat) : ro W g (o + n) (xs.drop n) := by
 intro j hj
 simp only [List.length_drop] at hj
 rw [Nat.add_assoc, h (n + j) (by omega), List.getElem?_drop]
instance (priority := high) Rd.here (W0 : World) (L : List Asn) (a : Option Addr) {α : Type} (A : Ly α) (e : TypeId) (c : Nat) (l : List α) : Rd W0 (arr A e a c l :: L) a A l := ⟨fun W h => by
 by_cases ha : a = none
 ·have := h.arrFacts
  left
  rw [show l = [] from List.eq_nil_of_length_eq_zero (by have := this.2.2.1 ha; omega)]
  rfl
 ·obtain ⟨g, o, cur, rfl, h1, h2, h3⟩ := h.arrCells ha
  right
  exact ⟨g, o, rfl, h2 ▸ ro_take (ro_cells h3 o) _⟩⟩
instance Rd.there (W0 : World) (x : Asn) (L : List Asn) (a : Option Addr) {α : Type} (A : Ly α) (l : List α) [hr : Rd W0 L a A l] : Rd W0 (x :: L) a A l := ⟨fun W h => hr.ok W h.drop⟩
theorem Rd.nil {α : Type} (A : Ly α) (W0 : World) (L : List Asn) (a : Option Addr) : Rd W0 L a A [] := ⟨fun _ _ => .inl rfl⟩
theorem Rd.base {α : Type} {A : Ly α} {W0 : World} {L : List Asn} {a : Option Addr} {l : List α} (h : A.rows l = [] ∨ ∃ g o, a = some ⟨g, o, none⟩ ∧ ro W0 g o (A.rows l)) : Rd W0 L a A l := ⟨fun W hs => by
 rcases h with h | ⟨g, o, rfl, h⟩
 ·exact .inl h
 ·refine .inr ⟨g, o, rfl, fun j hj => ?_⟩
  have h0 := h j hj
  have hlt : g < W0.heap.size := by
   rw [List.getElem?_eq_getElem hj] at h0
   apply Classical.byContradiction
   intro hn
   simp [World.cell?, Array.getElem?_eq_none (show W0.heap.size ≤ g by omega)] at h0
  rw [hs.below.cell hlt]; exact h0⟩
theorem Rd.cut {a : Option Addr} {l : List α} [hr : Rd W0 L a A l] (lo hi m : Nat) (h1 : lo ≤ hi) (h2 : hi ≤ l.length) (h3 : hi ≤ m) :
  Rd W0 L (if m = lo then a else a.map (·.add (lo * A.sz))) A ((l.take hi).drop lo) := ⟨fun W h => by
 rcases hr.ok W h with h4 | ⟨g, o, rfl, h4⟩
 ·left
  rw [← Ly.rows_drop, ← Ly.rows_take, h4]
  simp
 ·by_cases hm : m = lo
  ·left
   rw [show (l.take hi).drop lo = [] from List.eq_nil_of_length_eq_zero (by simp; omega)]
   rfl
  ·right
   rw [if_neg hm]
   refine ⟨g, o + lo * A.sz, by simp [add_none], ?_⟩
   rw [← Ly.rows_drop, ← Ly.rows_take]
   exact ro_drop (ro_take h4 _) _⟩
theorem Rd.at (h : St W0 L W) [hr : Rd W0 L a A l] (hl : l ≠ []) : ∃ g o, a = some ⟨g, o, none⟩ ∧ ro W g o (A.rows l) := by
 rcases hr.ok W h with h4 | h4
 ·cases l with
  | nil => exact absurd rfl hl
  | cons x l =>
   have := congrArg List.length h4
   rw [Ly.rows_len] at this
   have := A.pos
   simp only [List.length_cons, List.length_nil, Nat.succ_mul] at *
   omega
 ·exact h4
theorem Rd.row {g o i : Nat} (h : St W0 L W) [hr : Rd W0 L (some ⟨g, o, none⟩) A l] (hi : i < l.length) : ro W g (o + i * A.sz) (A.row l[i]) := by
 obtain ⟨g', o', he, h1⟩ := Rd.at (A := A) (l := l) (a := some ⟨g, o, none⟩) h (fun e => by subst e; simp at hi)
 cases he
 rw [← Ly.rows_at hi]
 exact ro_take (ro_drop h1 _) _
theorem ixA {sz n i : Nat} {k : IntKind} {K : Value → Prop} (h : St W0 L W) [hr : Rd W0 L a A l] (hs : A.sz = sz) (hn : n = l.length) (hi : i < l.length)
  (hk : ∀ g o, a = some ⟨g, o, none⟩ → K (.pointer (some ⟨g, o + i * sz, none⟩))) : okF (idxS sz (.slice a n c) (.int k i)) K := by
 obtain ⟨g, o, rfl, _⟩ := Rd.at (A := A) (l := l) (a := a) h (fun e => by subst e; simp at hi)
 refine okF_i (idxS_blk (by omega) (by omega)) ?_
 rw [Int.toNat_natCast]
 exact hk g o rfl
theorem loadAt_row {t : TypeId} {agg : Bool} {tsz : Nat} [ht : TyI P t agg tsz] {b o j : Nat} {cs : List Value} {v : Value} (hc : ro W b o cs) (hv : getL agg cs j tsz = some v) (hsz : agg = true → j + tsz ≤ cs.length) :
  (Instr.loadAt t (.pointer (some ⟨b, o + j, none⟩))).run P W = .ok v W := loadAt_ro (St.start W) hc hv hsz
theorem ldA {t : TypeId} {agg : Bool} {tsz : Nat} [ht : TyI P t agg tsz] {g o i j sz : Nat} {v : Value} {k : Value → World → Prop} (h : St W0 L W) [hr : Rd W0 L (some ⟨g, o, none⟩) A l] (hs : A.sz = sz) (hi : i < l.length)
  (hv : getL agg (A.row l[i]) j tsz = some v) (hsz : agg = true → j + tsz ≤ sz) (hk : k v W) : rdK P (Instr.loadAt t (.pointer (some ⟨g, o + i * sz + j, none⟩))) k W :=
 ⟨v, by subst hs; exact loadAt_row (Rd.row h hi) hv (by rw [A.len]; exact hsz), hk⟩
theorem ldA0 {t : TypeId} {agg : Bool} {tsz : Nat} [ht : TyI P t agg tsz] {g o i sz : Nat} {v : Value} {k : Value → World → Prop} (h : St W0 L W) [hr : Rd W0 L (some ⟨g, o, none⟩) A l] (hs : A.sz = sz) (hi : i < l.length)
  (hv : getL agg (A.row l[i]) 0 tsz = some v) (hsz : agg = true → tsz ≤ sz) (hk : k v W) : rdK P (Instr.loadAt t (.pointer (some ⟨g, o + i * sz, none⟩))) k W :=
 ⟨v, by subst hs; exact loadAt_row (j := 0) (Rd.row h hi) hv (by rw [A.len]; simpa using hsz), hk⟩
theorem ldA_run {t : TypeId} {agg : Bool} {tsz : Nat} [ht : TyI P t agg tsz] {g o i j sz : Nat} {v : Value} (h : St W0 L W) [hr : Rd W0 L (some ⟨g, o, none⟩) A l] (hs : A.sz = sz) (hi : i < l.length)
  (hv : getL agg (A.row l[i]) j tsz = some v) (hsz : agg = true → j + tsz ≤ sz) : (Instr.loadAt t (.pointer (some ⟨g, o + i * sz + j, none⟩))).run P W = .ok v W := by
 subst hs; exact loadAt_row (Rd.row h hi) hv (by rw [A.len]; exact hsz)
theorem stb_ldA0 {t : TypeId} {agg : Bool} {tsz : Nat} [ht : TyI P t agg tsz] {g o i sz : Nat} {v : Value} {ii : Nat} {bb : Bool} {hl : List HoldV} {R : World → Prop} (h : St W0 L W) [hr : Rd W0 L (some ⟨g, o, none⟩) A l] (hs : A.sz = sz) (hi : i < l.length)
  (hv : getL agg (A.row l[i]) 0 tsz = some v) (hsz : agg = true → tsz ≤ sz) (hk : stb P hl R W) : stb P ((ii, bb, Instr.loadAt t (.pointer (some ⟨g, o + i * sz, none⟩)), v) :: hl) R W :=
 ⟨fun _ => ldA_run (j := 0) h hs hi hv (by simpa using hsz), hk⟩
class Own (a : Option Addr) (L : List Asn) {α : outParam Type} (A : outParam (Ly α)) (e : outParam TypeId) (c : outParam Nat) (l : outParam (List α)) (L' : outParam (List Asn)) : Prop where
 ent : Eng.ent L (arr A e a c l :: L')
instance (priority := high) Own.here (a : Option Addr) {α : Type} (A : Ly α) (e : TypeId) (c : Nat) (l : List α) (L : List Asn) : Own a (arr A e a c l :: L) A e c l L := ⟨ent.refl _⟩
instance Own.there (a : Option Addr) (x : Asn) (L : List Asn) {α : Type} (A : Ly α) (e : TypeId) (c : Nat) (l : List α) (L' : List Asn) [h : Own a L A e c l L'] : Own a (x :: L) A e c l (x :: L') := ⟨(ent.cons x h.ent).trans (ent.swap _ _ _)⟩
theorem St.took (h : St W0 L W) [ho : Own a L A e c l L'] : St W0 (arr A e a c l :: L') W := h.ent ho.ent
theorem oneCs {vs : List Value} (h : vs.all oneC = true) : ∀ u ∈ vs, oneC u = true := fun u hu => List.all_eq_true.1 h u hu
theorem stA {t : TypeId} {agg : Bool} {sz g o i : Nat} [ht : TyI P t agg sz] {x : α} {v : Value} {k : Unit → World → Prop} (h : St W0 L W) [ho : Own (some ⟨g, o, none⟩) L A e c l L'] (hs : A.sz = sz) (hi : i < l.length) (hv : vcells v = A.row x)
  (hk : ∀ W', St W0 (arr A e (some ⟨g, o, none⟩) c (l.set i x) :: L') W' → k () W') : efK P (Instr.storeAt t (.pointer (some ⟨g, o + i * sz, none⟩)) v) k W := by
 subst hs
 have h := h.took (a := some ⟨g, o, none⟩)
 have hf := h.arrFacts
 obtain ⟨g', o', cur, he, h1, h2, h3⟩ := h.arrCells (by simp)
 cases he
 have hle : i * A.sz + A.sz ≤ l.length * A.sz := by rw [← Nat.succ_mul]; exact Nat.mul_le_mul_right _ hi
 have hlc : l.length * A.sz ≤ c * A.sz := Nat.mul_le_mul_right _ hf.1
 refine sto h3 (by rw [hv, A.len]) (by omega) (by rw [hv, A.one]) fun W' h => hk W' (h.ent (arr_of_cells (by simpa using hf.1) hf.2.1 (by rw [stL_len]; exact h1) ?_))
 rw [hv, stL_eq _ _ _ (by rw [A.len]; omega), A.len, Ly.rows_set hi, ← h2]
 have e1 : (cur.take (o + i * A.sz) ++ A.row x ++ cur.drop (o + i * A.sz + A.sz)).drop o = (cur.drop o).take (i * A.sz) ++ A.row x ++ (cur.drop o).drop (i * A.sz + A.sz) := by
  rw [List.append_assoc, List.drop_append_of_le_length (by simp; omega), List.drop_take, Nat.add_sub_cancel_left, List.append_assoc, List.drop_drop, Nat.add_assoc]
 have ht1 : ((cur.drop o).take (i * A.sz)).length = i * A.sz := by simp; omega
 have e2 : l.length * A.sz = i * A.sz + (A.sz + (l.length * A.sz - (i * A.sz + A.sz))) := by omega
 rw [e1, List.length_set, List.append_assoc, e2, List.take_add, List.take_left' ht1, List.drop_left' ht1, List.take_add, List.take_left' (A.len x), List.drop_left' (A.len x), ← e2, List.append_assoc,
  List.take_take, Nat.min_eq_left (by omega), List.drop_take]
theorem storeCells_over {b : Nat} {T : TypeId} {vs cs : List Value} {off : Nat} (h : St W0 (Eng.cells b cs T :: L) W) (hu : vs.all oneC = true) (hl : off + vs.length ≤ cs.length) :
  ∃ W', (storeCells ⟨b, off, none⟩ vs 0).run P W = .ok () W' ∧ St W0 (Eng.cells b (cs.take off ++ vs ++ cs.drop (off + vs.length)) T :: L) W' := by
 obtain ⟨W', h1, h2⟩ := storeCells_run (P := P) vs off 0 cs W h (oneCs hu) (by omega)
 rw [Nat.add_zero, stL_eq _ _ _ hl] at h2
 exact ⟨W', h1, h2⟩
class Src (P : Program) (W0 : World) (L : List Asn) (u : TypeId) (x : Value) {α : outParam Type} (A : outParam (Ly α)) (l : outParam (List α)) : Prop where
 kind : ∃ d, P.underlying u = some d ∧ ∀ k, d ≠ .int k
 len : ∀ W, (Builtin.lenOf x).run P W = .ok l.length W
 cells : ∀ W, St W0 L W → ∀ sz, sz = A.sz → (Builtin.firstCells sz l.length x).run P W = .ok (A.rows l).toArray W
theorem firstCells_run {g o sz n c : Nat} {xs : List Value} (h : ro W g o xs) (hl : xs.length = n * sz) : (Builtin.firstCells sz n (.slice (some ⟨g, o, none⟩) n c)).run P W = .ok xs.toArray W := by
 have := loadCells_run (P := P) (W := W) ⟨g, o, none⟩ xs.toArray (fun j hj => by rw [add_none, h j (by simpa using hj)]; simp)
 simp only [List.size_toArray, hl] at this
 simpa [Builtin.firstCells] using this
theorem firstCells_rd {W0 W : World} {L : List Asn} {a : Option Addr} {l : List α} {c : Nat} (h : St W0 L W) [hr : Rd W0 L a A l] : (Builtin.firstCells A.sz l.length (.slice a l.length c)).run P W = .ok (A.rows l).toArray W := by
 rcases hr.ok W h with h4 | ⟨g, o, rfl, h4⟩
 ·have : l.length = 0 := by
   have h5 := congrArg List.length h4
   rw [Ly.rows_len] at h5
   rcases Nat.mul_eq_zero.1 (by simpa using h5) with h | h
   ·exact h
   ·have := A.pos; omega
  rw [h4, this]
  cases a with
  | none => simp [Builtin.firstCells]
  | some a => simp [Builtin.firstCells, loadCells, loadCellsFrom]
 ·exact firstCells_run h4 Ly.rows_len
instance Src.slice {u : TypeId} {a : Option Addr} {c sz by' : Nat} {z : Value} {eu : TypeId} [ht : TyS P u eu sz by' z] {l : List α} [hr : Rd W0 L a A l] : Src P W0 L u (.slice a l.length c) A l where
 kind := by obtain ⟨⟨i, h1, _⟩, _⟩ := ht.ok; exact ⟨_, h1, fun k h => by cases h⟩
 len := fun W => rfl
 cells := fun W h sz hs => by subst hs; exact firstCells_rd h
theorem noInt : ∀ {d : TypeDesc}, (∀ k, d ≠ .int k) → (d matches .int _) = false := by intro d h; cases d <;> first | rfl | exact absurd rfl (h _)
theorem tape_drew {W0 W : World} {L : List Asn} (h : St W0 L W) : St W0 L W.drew := ⟨h.bel.drew, h.own⟩
theorem zeroCells_len (z : Array Value) (n : Nat) : (Builtin.zeroCells z n).toList.length = n * z.size := by simp [Builtin.zeroCells]
theorem appA {t u ty : TypeId} {sz by' : Nat} {z : Value} [ht : TyS P t e sz by' z] {x : Value} {m : List α} {k : Value → World → Prop} (h : St W0 L W) [ho : Own a L A e c l L'] [hx : Src P W0 L u x A m] (hs : A.sz = sz) (hb : (l.length + m.length) * by' ≤ 140737488355328) (hm : l.length + m.length ≤ maxLen)
  (hk : ∀ a' c' W', St W0 (arr A e a' c' (l ++ m) :: L') W' → k (.slice a' (l ++ m).length c') W') : efK P (Builtin.append_ #[t, u] ty #[.slice a l.length c, x]) k W := by
 subst hs
 obtain ⟨⟨i, h1, h2, h3, h4, h5⟩, hz⟩ := ht.ok
 obtain ⟨du, hu1, hu2⟩ := hx.kind
 have hu3 := noInt hu2
 have hW := h
 have hE : ∀ {W1 : World}, St W0 L W1 → St W0 (arr A e a c l :: L') W1 := fun h => h.took (a := a)
 have h0 := hE h
 have hf := h0.arrFacts
 have hlen := hx.len W
 by_cases hroom : l.length + m.length ≤ c
 ·by_cases ha : a = none
  ·subst ha
   have hc := hf.2.2.1 rfl
   have hl0 : l = [] := List.eq_nil_of_length_eq_zero (by omega)
   have hm0 : m = [] := List.eq_nil_of_length_eq_zero (by omega)
   subst hl0 hm0 hc
   refine ⟨.slice none 0 0, W, ?_, hk none 0 W h0⟩
   have hc0 := hx.cells W hW i.size (by omega)
   simp only [List.length_nil] at hc0 hlen
   simp [Builtin.append_, run_underlying h1, run_underlying hu1, hu3, run_sizeOf' h2, hlen, hc0]
  ·obtain ⟨g, o, cur, rfl, h6, h7, h8⟩ := h0.arrCells ha
   have hmul : (l.length + m.length) * A.sz ≤ c * A.sz := Nat.mul_le_mul_right _ hroom
   rw [Nat.add_mul] at hmul
   obtain ⟨W', h9, h10⟩ := storeCells_over (P := P) (off := o + l.length * A.sz) h8 (Ly.rows_one (A := A) (l := m)) (by rw [Ly.rows_len]; omega)
   refine ⟨.slice (some ⟨g, o, none⟩) (l.length + m.length) c, W', ?_, ?_⟩
   ·have hc0 := hx.cells W hW i.size (by omega)
    have h9' : Sem.run P (storeCells { block := g, off := o + l.length * i.size } (A.rows m)) W = Result.ok () W' := by rw [h3]; exact h9
    simp [Builtin.append_, run_underlying h1, run_underlying hu1, hu3, run_sizeOf' h2, hlen, hroom, hc0, add_none, h9']
   ·have := hk (some ⟨g, o, none⟩) c W' (h10.ent (arr_of_cells (by simpa using hroom) hf.2.1 ?_ ?_))
    ·simpa using this
    ·simp only [List.length_append, List.length_take, List.length_drop, Ly.rows_len]; omega
    ·rw [Ly.rows_app, ← h7, List.length_append]
     have hd : (cur.take (o + l.length * A.sz) ++ A.rows m ++ cur.drop (o + l.length * A.sz + (A.rows m).length)).drop o = (cur.drop o).take (l.length * A.sz) ++ (A.rows m ++ cur.drop (o + l.length * A.sz + (A.rows m).length)) := by
      rw [List.append_assoc, List.drop_append_of_le_length (by simp; omega), List.drop_take, Nat.add_sub_cancel_left]
     have hl1 : ((cur.drop o).take (l.length * A.sz)).length = l.length * A.sz := by simp; omega
     rw [hd, List.take_append, hl1, List.take_of_length_le (by rw [hl1, Nat.add_mul]; omega), Nat.add_mul, Nat.add_sub_cancel_left, List.take_left' Ly.rows_len]
 ·have hneed : c < l.length + m.length := by omega
  have hol : ∀ W1, St W0 L W1 → (Builtin.firstCells i.size l.length (.slice a l.length c)).run P W1 = .ok (A.rows l).toArray W1 := by
   intro W1 hW1
   rw [h3]
   exact firstCells_rd (hE hW1)
  have hc0 := hx.cells W.drew (tape_drew hW) i.size (by omega)
  have hc1 := hol W.drew (tape_drew hW)
  have h63 : ¬ (9223372036854775807 < ((l.length : Int) + (m.length : Int))) := by simp only [maxLen] at hm; omega
  have h48 : ¬ (281474976710656 < Builtin.nextslicecap (l.length + m.length) c * i.bytes) := by
   have := growslice_fits (old := c) (need := l.length + m.length) (bytes := i.bytes) (by omega) (by rw [h4]; omega)
   omega
  have hge := grownCap_ge W (l.length + m.length) c e
  have hgm := grownCap_le_maxLen W (l.length + m.length) c e hm
  refine ⟨.slice (some ⟨W.heap.size, 0, none⟩) (l.length + m.length) (grownCap W (l.length + m.length) c e),
   W.drew.alloc (.cells ((A.rows l).toArray ++ (A.rows m).toArray ++ Builtin.zeroCells z.cells (grownCap W (l.length + m.length) c e - (l.length + m.length))) e), ?_, ?_⟩
  ·simp [Builtin.append_, run_underlying h1, run_underlying hu1, hu3, sizeOf, hlen, hroom, h63, h48, typeInfo, h2, zeroValue, h5, Question.forced, hc0, hc1, newRow, grownCap]
   congr 2
   apply Array.ext'
   simp
  ·have h6 := (tape_drew (h0.drop)).allocCells (A.rows (l ++ m) ++ (Builtin.zeroCells z.cells (grownCap W (l.length + m.length) c e - (l.length + m.length))).toList) e
   have h7 := hk (some ⟨W.heap.size, 0, none⟩) (grownCap W (l.length + m.length) c e) _ (h6.ent (arr_of_cells (A := A) (o := 0) (l := l ++ m) (by simpa using hge) hgm ?_ ?_))
   ·have e1 : (A.rows (l ++ m) ++ (Builtin.zeroCells z.cells (grownCap W (l.length + m.length) c e - (l.length + m.length))).toList).toArray =
     (A.rows l).toArray ++ (A.rows m).toArray ++ Builtin.zeroCells z.cells (grownCap W (l.length + m.length) c e - (l.length + m.length)) := by
     apply Array.ext'
     simp [Ly.rows_app]
    rw [e1] at h7
    simpa using h7
   ·rw [List.length_append, Ly.rows_len, zeroCells_len, hz, List.length_append, ← Nat.add_mul, Nat.zero_add]
    exact Nat.mul_le_mul_right _ (by omega)
   ·rw [List.drop_zero, ← Ly.rows_len, List.take_left]
end
class BytesT (P : Program) (t : TypeId) (e : outParam TypeId) : Prop where
 ok : P.underlying t = some (.slice e) ∧ P.underlying e = some (.int .u8)
class StrT (P : Program) (t : TypeId) : Prop where
 ok : P.underlying t = some .string
def b8 (b : UInt8) : Value := .int .u8 b.toNat
def B8 : Ly UInt8 := ⟨1, by omega, fun b => [b8 b], fun _ => rfl, fun _ => rfl⟩
def I64 : Ly Int := ⟨1, by omega, fun b => [.int .i64 b], fun _ => rfl, fun _ => rfl⟩
def BOO : Ly Bool := ⟨1, by omega, fun b => [.bool b], fun _ => rfl, fun _ => rfl⟩
theorem B8_rows (l : List UInt8) : B8.rows l = l.map b8 := by
 induction l with
 | nil => rfl
 | cons a l ih => rw [Ly.rows_cons, ih]; rfl
section
variable {P : Program} {W0 W W' : World} {L L' : List Asn} {e : TypeId} {a : Option Addr} {c : Nat}
instance Src.string {u : TypeId} [hs : StrT P u] {s : ByteArray} : Src P W0 L u (.string s) B8 s.data.toList where
 kind := ⟨_, hs.ok, fun k h => by cases h⟩
 len := fun W => rfl
 cells := fun W h sz hs => by
  simp only [Builtin.firstCells, B8_rows]
  have : (s.extract 0 s.data.toList.length) = s := by
   have : s.data.toList.length = s.size := rfl
   rw [this]; exact ByteArray.extract_zero_size
  rw [this]
  simp only [Sem.run_pure]
  congr 1
  apply Array.ext'
  simp [b8]
theorem b2s {src dst : TypeId} [hd : StrT P dst] [hs : BytesT P src e] {l : List UInt8} {k : Value → World → Prop} (h : St W0 L W) [hr : Rd W0 L a B8 l] (hk : k (.string ⟨l.toArray⟩) W) : rdK P (convert src dst (.slice a l.length c)) k W := by
 refine ⟨.string ⟨l.toArray⟩, ?_, hk⟩
 by_cases hl : l = []
 ·subst hl
  rw [run_convert_bytes_string W src dst e a _ c hs.ok.1 hs.ok.2 hd.ok]
  cases a with
  | none => simp [Conv.bytesToString]; rfl
  | some a => simp [Conv.bytesToString, loadCells, loadCellsFrom]; rfl
 ·obtain ⟨g, o, rfl, h1⟩ := Rd.at (A := B8) (l := l) (a := a) h hl
  refine run_convert_bytes_back W src dst e ⟨g, o, none⟩ c l hs.ok.1 hs.ok.2 hd.ok fun j hj => ?_
  have := h1 j (by rw [B8_rows]; simpa using hj)
  rw [add_none, this, B8_rows]
  simp [hj, b8]
theorem bsA {α : Type} (A : Ly α) (l : List α) {t : TypeId} {sz by' n : Nat} {z : Value} [ht : TyS P t e sz by' z] {ps : List (Nat × Value)} {k : Value → World → Prop} (h : St W0 L W) (hs : A.sz = sz) (hln : l.length = n) (hn : n * sz ≤ 16777216) (hn0 : n ≠ 0)
  (hc : fillL (fun i => some (i * sz, sz)) ((List.range (n * sz)).map fun i => ((vcells z)[i % (vcells z).length]?).getD undef) ps = some (A.rows l))
  (hk : ∀ a c W', St W0 (arr A e a c l :: L) W' → k (.slice a l.length c) W') : efK P (Instr.buildSlice t n ps.toArray) k W := by
 subst hs hln
 have hp := A.pos
 have hlm : l.length ≤ l.length * A.sz := Nat.le_mul_of_pos_right _ hp
 refine bs h hn (by intro e; rcases Nat.mul_eq_zero.1 e with h | h <;> omega) hc fun b W' h => ?_
 exact hk _ _ _ (h.ent (arr_full (by unfold maxLen; omega)))
theorem bs0 {α : Type} (A : Ly α) {t : TypeId} {sz by' : Nat} {z : Value} [ht : TyS P t e sz by' z] {k : Value → World → Prop} (h : St W0 L W)
  (hk : ∀ a c W', St W0 (arr A e a c [] :: L) W' → k (.slice a ([] : List α).length c) W') : efK P (Instr.buildSlice t 0 #[]) k W := by
 obtain ⟨⟨i, h1, h2, h3, h4, h5⟩, hzz⟩ := ht.ok
 refine ⟨.slice (some ⟨W.heap.size, 0, none⟩) 0 0, _, ?_, hk (some ⟨W.heap.size, 0, none⟩) 0 _ ((h.allocCells [] e).ent (arr_full (A := A) (l := []) (by simp)))⟩
 simp [Instr.buildSlice, run_underlying h1, run_sizeOf' h2, Instr.fill, newRow, show Array.range 0 = #[] from rfl]
theorem St.drop2 {x y : Asn} (h : St W0 (x :: y :: L) W) : St W0 (x :: L) W := (h.ent (ent.swap x y L)).drop
theorem bnd_none {d y : Nat} : bnd none d y = some d := rfl
theorem bnd_nat {k : IntKind} {i d y : Nat} (h : i ≤ y) : bnd (some (.int k (i : Int))) d y = some i := by simp [bnd, h]
theorem slcS_eq {sz n c l h : Nat} {a : Option Addr} {lo hi : Option Value} (h1 : bnd hi n c = some h) (h2 : bnd lo 0 h = some l) :
  slcS sz (.slice a n c) lo hi none = some (.slice (if c = l then a else a.map (·.add (l * sz))) (h - l) (c - l)) := by
 have e1 : slcB n c lo hi none = some (l, h, c) := by cases hi <;> simp only [slcB, bnd_none, h1, h2] <;> rfl
 simp only [slcS, e1]
theorem slcR {α : Type} {A : Ly α} {l : List α} {sz n lo hi : Nat} {vlo vhi : Option Value} {K : Value → Prop} (h : St W0 L W) [hr : Rd W0 L a A l] (hs : A.sz = sz) (hn : n = l.length) (h1 : bnd vhi n c = some hi) (h2 : bnd vlo 0 hi = some lo) (h3 : lo ≤ hi) (h4 : hi ≤ l.length) (h5 : l.length ≤ c)
  (hk : ∀ a' c', Rd W0 L a' A ((l.take hi).drop lo) → K (.slice a' ((l.take hi).drop lo).length c')) : okF (slcS sz (.slice a n c) vlo vhi none) K := by
 subst hs hn
 refine okF_i (slcS_eq h1 h2) ?_
 have := hk _ (c - lo) (Rd.cut (W0 := W0) (L := L) (a := a) (A := A) (l := l) lo hi c h3 h4 (by omega))
 simpa [Nat.min_eq_left h4] using this
theorem slcO {α : Type} {A : Ly α} {l : List α} {sz n lo hi : Nat} {vlo vhi : Option Value} {K : Value → Prop} (h : St W0 L W) [ho : Own a L A e c l L'] (hs : A.sz = sz) (hn : n = l.length) (h1 : bnd vhi n c = some hi) (h2 : bnd vlo 0 hi = some lo) (h3 : lo ≤ hi) (h4 : hi ≤ l.length)
  (hk : ∀ a' c', ent L (arr A e a' c' ((l.take hi).drop lo) :: L') → K (.slice a' ((l.take hi).drop lo).length c')) : okF (slcS sz (.slice a n c) vlo vhi none) K := by
 subst hs hn
 have hf := (h.took (a := a)).arrFacts
 refine okF_i (slcS_eq h1 h2) ?_
 have := hk _ (c - lo) (ho.ent.trans (ent.weak (arr_cut lo hi c h3 h4 (by omega) (Nat.le_refl _))))
 simpa [Nat.min_eq_left h4] using this
theorem loop_x {σ : Type} {body : (List Value → World → Prop) → List Value → World → Prop} {s : List Value} (vs : σ → List Value) (inv : σ → World → Prop) (μ : σ → Nat) (x0 : σ) (hs : s = vs x0) (h0 : inv x0 W)
  (hr : ∀ (K : List Value → World → Prop) x W, inv x W → (∀ x' W', μ x' < μ x → inv x' W' → K (vs x') W') → body K (vs x) W) : loopK body s W := by
 subst hs
 refine loop_i (fun m s W => ∃ x, μ x = m ∧ s = vs x ∧ inv x W) _ ⟨x0, rfl, rfl, h0⟩ ?_
 rintro m s W ⟨x, rfl, rfl, h⟩
 exact hr _ x W h fun x' W' hm h' => ⟨μ x', hm, x', rfl, rfl, h'⟩
theorem loop_c {σ : Type} {body : (List Value → World → Prop) → List Value → World → Prop} {s : List Value} (N : Nat) (vs : Nat → σ → List Value) (inv : Nat → σ → World → Prop) (x0 : σ) (hs : s = vs 0 x0) (h0 : inv 0 x0 W)
  (hr : ∀ (K : List Value → World → Prop) i x W, i ≤ N → inv i x W → (∀ x' W', i < N → inv (i + 1) x' W' → K (vs (i + 1) x') W') → body K (vs i x) W) : loopK body s W :=
 loop_x (σ := Nat × σ) (fun p => vs p.1 p.2) (fun p W => p.1 ≤ N ∧ inv p.1 p.2 W) (fun p => N - p.1) (0, x0) hs ⟨Nat.zero_le _, h0⟩ fun K p W h hk =>
  hr K p.1 p.2 W h.1 h.2 fun x' W' hi h' => hk (p.1 + 1, x') W' (by simp only; omega) ⟨hi, h'⟩
end
@[congr] theorem okF_congr {r r' : Option Value} {k : Value → Prop} (h : r = r') : okF r k = okF r' k := by rw [h]
@[congr] theorem gdK_congr {b b' : Bool} {A : (Value → World → Prop) → World → Prop} {k : Value → World → Prop} {W : World} (h : b = b') : gdK b A k W = gdK b' A k W := by rw [h]
@[congr] theorem ifK_congr {v v' : Value} {A B : Prop} (h : v = v') : ifK v A B = ifK v' A B := by rw [h]
@[congr] theorem efK_congr {α : Type} {P : Program} {s s' : Sem α} {k : α → World → Prop} {W : World} (h : s = s') : efK P s k W = efK P s' k W := by rw [h]
@[congr] theorem rdK_congr {α : Type} {P : Program} {s s' : Sem α} {k : α → World → Prop} {W : World} (h : s = s') : rdK P s k W = rdK P s' k W := by rw [h]
@[congr] theorem callK_congr {P : Program} {g : Nat} {l l' : List Value} {k : Value → World → Prop} {W : World} (h : l = l') : callK P g l k W = callK P g l' k W := by rw [h]
@[congr] theorem stb_congr {P : Program} {l l' : List HoldV} {R : World → Prop} {W : World} (h : l = l') : stb P l R W = stb P l' R W := by rw [h]
end Go.Eng
namespace Go.Eng
set_option linter.unusedVariables false
set_option linter.unusedSimpArgs false
open Go Go.RowKit
theorem EN : (type_of% @fldV_f) ∧ (type_of% @fldV_t) ∧ (type_of% @okF_some) ∧ (type_of% @gdK_true) ∧ (type_of% @gdK_false) ∧ (type_of% @wantd_t) ∧ (type_of% @wantd_f) ∧ (type_of% @wantd_undef) ∧ (type_of% @ifK_true) ∧ (type_of% @ifK_false) ∧ (type_of% @pickP_true) ∧ (type_of% @pickP_false) ∧ (type_of% @Bool.not_true) ∧ (type_of% @Bool.not_false) ∧ (type_of% @decide_true) ∧ (type_of% @decide_false) ∧ (type_of% @binP_add) ∧ (type_of% @binP_sub) ∧ (type_of% @binP_mul) ∧ (type_of% @binP_eql) ∧ (type_of% @binP_neq) ∧ (type_of% @binP_lss) ∧ (type_of% @binP_leq) ∧ (type_of% @binP_gtr) ∧ (type_of% @binP_geq) ∧ (type_of% @binP_and) ∧ (type_of% @binP_or) ∧ (type_of% @binP_xor) ∧ (type_of% @binP_andNot) ∧ (type_of% @binPs_eql) ∧ (type_of% @binPs_neq) ∧ (type_of% @baB) ∧ (type_of% @intB) ∧ (type_of% @unP_neg) ∧ (type_of% @unP_not) ∧ (type_of% @cvtP_int) ∧ (type_of% @cvtP_string) ∧ (type_of% @lenP_string) ∧ (type_of% @lenP_slice) ∧ (type_of% @lenP_array) ∧ (type_of% @capP_slice) ∧ (type_of% @addrF_blk) ∧ (type_of% @nilP_ptr) ∧ (type_of% @extP_0) ∧ (type_of% @extP_1) ∧ (type_of% @extP_2) ∧ (type_of% @extP_3) ∧ (type_of% @eqP_nilptr) ∧ (type_of% @neP_nilptr) ∧ (type_of% @eqP_nilsl) ∧ (type_of% @neP_nilsl) ∧ (type_of% @eqP_bool) ∧ (type_of% @neP_bool) ∧ (type_of% @Nat.zero_add) ∧ (type_of% @Nat.add_zero) ∧ (type_of% @vcells_agg) ∧ (type_of% @vcells_int) ∧ (type_of% @vcells_bool) ∧ (type_of% @vcells_string) ∧ (type_of% @vcells_slice) ∧ (type_of% @vcells_pointer) ∧ (type_of% @vcells_map) ∧ (type_of% @nthv_zero) ∧ (type_of% @nthv_succ) ∧ (type_of% @Bool.true_and) ∧ (type_of% @Bool.false_and) ∧ (type_of% @Bool.and_true) ∧ (type_of% @Bool.and_false) ∧ (type_of% @Bool.true_or) ∧ (type_of% @Bool.false_or) ∧ (type_of% @Bool.or_true) ∧ (type_of% @Bool.or_false) ∧ (type_of% @Bool.false_eq_true) ∧ (type_of% @Int.lt_irrefl) ∧ (type_of% @and_self) ∧ (type_of% @true_and) ∧ (type_of% @not_true_eq_false) ∧ (type_of% @not_false_eq_true) := ⟨@fldV_f, @fldV_t, @okF_some, @gdK_true, @gdK_false, @wantd_t, @wantd_f, @wantd_undef, @ifK_true, @ifK_false, @pickP_true, @pickP_false, @Bool.not_true, @Bool.not_false, @decide_true, @decide_false, @binP_add, @binP_sub, @binP_mul, @binP_eql, @binP_neq, @binP_lss, @binP_leq, @binP_gtr, @binP_geq, @binP_and, @binP_or, @binP_xor, @binP_andNot, @binPs_eql, @binPs_neq, @baB, @intB, @unP_neg, @unP_not, @cvtP_int, @cvtP_string, @lenP_string, @lenP_slice, @lenP_array, @capP_slice, @addrF_blk, @nilP_ptr, @extP_0, @extP_1, @extP_2, @extP_3, @eqP_nilptr, @neP_nilptr, @eqP_nilsl, @neP_nilsl, @eqP_bool, @neP_bool, @Nat.zero_add, @Nat.add_zero, @vcells_agg, @vcells_int, @vcells_bool, @vcells_string, @vcells_slice, @vcells_pointer, @vcells_map, @nthv_zero, @nthv_succ, @Bool.true_and, @Bool.false_and, @Bool.and_true, @Bool.and_false, @Bool.true_or, @Bool.false_or, @Bool.or_true, @Bool.or_false, @Bool.false_eq_true, @Int.lt_irrefl, @and_self, @true_and, @not_true_eq_false, @not_false_eq_true⟩
theorem BLS : (type_of% @vcells_eq) ∧ (type_of% @vcells_agg) ∧ (type_of% @vcells_int) ∧ (type_of% @vcells_bool) ∧ (type_of% @vcells_string) ∧ (type_of% @vcells_slice) ∧ (type_of% @vcells_pointer) ∧ (type_of% @vcells_map) ∧ (type_of% @Nat.zero_add) := ⟨@vcells_eq, @vcells_agg, @vcells_int, @vcells_bool, @vcells_string, @vcells_slice, @vcells_pointer, @vcells_map, @Nat.zero_add⟩
section
variable {P : Program} {W0 W : World} {L L' : List Asn}
theorem w1 {g : Nat} {args : List Value} {v : Value} [hp : Pure0 P g args v] {k : Value → World → Prop} (hk : ∀ W', St W0 L W' → k v W') (h : St W0 L W := by first | assumption | exact St.tick (by assumption) | exact St.tick (St.tick (by assumption))) : callK P g args k W := cp h hk
theorem w2 {g b : Nat} {T : TypeId} {cs cs' : List Value} {args : List Value} {v : Value} {Lf : List Value → List Asn} {k : Value → World → Prop} [hu : Cu b L cs T Lf] [hm : Meth P g b T cs args v cs']
  (hk : ∀ W', St W0 (Lf cs') W' → k v W') (h : St W0 L W := by first | assumption | exact St.tick (by assumption) | exact St.tick (St.tick (by assumption))) : callK P g (.pointer (some ⟨b, 0, none⟩) :: args) k W := cm h hk
theorem w3 {t : TypeId} {cs : List Value} {k : Value → World → Prop} (hk : ∀ b W', St W0 (cells b cs t :: L) W' → k (.pointer (some ⟨b, 0, none⟩)) W') (h : St W0 L W := by first | assumption | exact St.tick (by assumption) | exact St.tick (St.tick (by assumption))) : efK P (Instr.box t (.agg cs.toArray)) k W := bxa h hk
theorem w4 {t : TypeId} {ik : IntKind} {n : Int} {k : Value → World → Prop} (hk : ∀ b W', St W0 (cells b [.int ik n] t :: L) W' → k (.pointer (some ⟨b, 0, none⟩)) W') (h : St W0 L W := by first | assumption | exact St.tick (by assumption) | exact St.tick (St.tick (by assumption))) : efK P (Instr.box t (.int ik n)) k W := bxi h hk
theorem w5 {t : TypeId} {agg : Bool} {sz : Nat} [TyI P t agg sz] {b off : Nat} {cs : List Value} {T : TypeId} {L' : List Asn} [Ck b L cs T L'] {k : Value → World → Prop}
  (hsz : agg = true → off + sz ≤ cs.length) (hk : ∃ v, getL agg cs off sz = some v ∧ k v W) (h : St W0 L W := by first | assumption | exact St.tick (by assumption) | exact St.tick (St.tick (by assumption))) : rdK P (Instr.loadAt t (.pointer (some ⟨b, off, none⟩))) k W := ldx h hsz hk
theorem w6 {t : TypeId} {agg : Bool} {sz : Nat} [ht : TyI P t agg sz] {b o : Nat} {cs : List Value} {k : Value → World → Prop} (hsz : agg = true → 0 + sz ≤ cs.length) (hk : ∃ v, getL agg cs 0 sz = some v ∧ k v W)
  (h : St W0 L W := by first | assumption | exact St.tick (by assumption) | exact St.tick (St.tick (by assumption))) (hr : ro W0 b o cs := by assumption) : rdK P (Instr.loadAt t (.pointer (some ⟨b, o, none⟩))) k W := ldr0 h hr hsz hk
theorem w8 {t : TypeId} {agg : Bool} {sz : Nat} [TyI P t agg sz] {b off : Nat} {cs : List Value} {T : TypeId} {L' : List Asn} [Ck b L cs T L'] {i : Nat} {bb : Bool} {v : Value} {l : List HoldV} {R : World → Prop}
  (hv : getL agg cs off sz = some v) (hsz : agg = true → off + sz ≤ cs.length) (hk : stb P l R W) (h : St W0 L W := by first | assumption | exact St.tick (by assumption) | exact St.tick (St.tick (by assumption))) : stb P ((i, bb, Instr.loadAt t (.pointer (some ⟨b, off, none⟩)), v) :: l) R W := stb_ld h hv hsz hk
theorem w11 {t : TypeId} {z : Value} [ht : TyZ P t z] {k : Value → World → Prop} (hk : ∀ b W', St W0 (cells b (vcells z) t :: L) W' → k (.pointer (some ⟨b, 0, none⟩)) W') (h : St W0 L W := by first | assumption | exact St.tick (by assumption) | exact St.tick (St.tick (by assumption))) : efK P (Instr.alloc t true (.tuple #[])) k W := al h hk
theorem w12 {t : TypeId} {agg : Bool} {sz : Nat} [ht : TyI P t agg sz] {b off : Nat} {cs : List Value} {T : TypeId} {Lf : List Value → List Asn} [hu : Cu b L cs T Lf] {v : Value} {k : Unit → World → Prop}
  (hsz : (vcells v).length = sz) (ho : off + sz ≤ cs.length) (h1 : (vcells v).all oneC = true) (hk : ∀ W', St W0 (Lf (stL cs off (vcells v))) W' → k () W') (h : St W0 L W := by first | assumption | exact St.tick (by assumption) | exact St.tick (St.tick (by assumption))) : efK P (Instr.storeAt t (.pointer (some ⟨b, off, none⟩)) v) k W := sto h hsz ho h1 hk
end
end Go.Eng
namespace Go.Eng
set_option linter.unusedVariables false
set_option linter.unusedSimpArgs false
open Go Go.RowKit
theorem lsub_a (l : List Value) : lsub l 0 0 = [] := by simp [lsub]
theorem lsub_b (v : Value) (l : List Value) (n : Nat) : lsub (v :: l) 0 (n + 1) = v :: lsub l 0 n := by simp [lsub]
theorem lsub_c (v : Value) (l : List Value) (o n : Nat) : lsub (v :: l) (o + 1) n = lsub l o n := by cases n <;> simp [lsub]
theorem lget_a (v : Value) (l : List Value) : lget (v :: l) 0 = some v := rfl
theorem lget_b (v : Value) (l : List Value) (n : Nat) : lget (v :: l) (n + 1) = lget l n := rfl
theorem stL_a (l : List Value) : stL l 0 [] = l := by cases l <;> rfl
theorem stL_b (c v : Value) (cs vs : List Value) : stL (c :: cs) 0 (v :: vs) = v :: stL cs 0 vs := rfl
theorem stL_c (c : Value) (cs vs : List Value) (o : Nat) : stL (c :: cs) (o + 1) vs = c :: stL cs o vs := by cases vs <;> rfl
theorem SE : (type_of% EN) ∧ (type_of% lsub_a) ∧ (type_of% lsub_b) ∧ (type_of% lsub_c) ∧ (type_of% lget_a) ∧ (type_of% lget_b) ∧ (type_of% stL_a) ∧ (type_of% stL_b) ∧ (type_of% stL_c) := ⟨EN, lsub_a, lsub_b, lsub_c, lget_a, lget_b, stL_a, stL_b, stL_c⟩
theorem SU.{u} : (∀ {α : Type u} (a : α) (l m : List α), (a :: l) ++ m = a :: (l ++ m)) ∧ (∀ {α : Type u} (m : List α), ([] : List α) ++ m = m) ∧ (∀ {α : Type u} [BEq α] [ReflBEq α] (a : α), (a == a) = true) ∧
  (∀ {α : Type u} (a : α), (some a).isNone = false) ∧ (∀ {α : Type u}, (none : Option α).isNone = true) := ⟨fun _ _ _ => rfl, fun _ => rfl, fun _ => BEq.rfl, fun _ => rfl, rfl⟩
theorem SV.{v} : (∀ {α : Sort v} {_ : Decidable True} (a b : α), (if True then a else b) = a) ∧ (∀ {α : Sort v} {_ : Decidable False} (a b : α), (if False then a else b) = b) ∧ (∀ {α : Sort v} (a b : α), (a ≠ b) = ¬ (a = b)) :=
 ⟨fun _ _ => if_pos trivial, fun _ _ => if_neg id, fun _ _ => rfl⟩
theorem SB.{u} : (∀ {α : Type u} (n : Nat) (a : α) (l : List α), (a :: l).take (n + 1) = a :: l.take n) ∧ (∀ {α : Type u} (l : List α), l.take 0 = []) ∧ (∀ {α : Type u} (n : Nat) (a : α) (l : List α), (a :: l).drop (n + 1) = l.drop n) ∧ (∀ {α : Type u} (l : List α), l.drop 0 = l) ∧
  (∀ {α : Type u} (a : α) (l m : List α), (a :: l) ++ m = a :: (l ++ m)) ∧ (∀ {α : Type u} (m : List α), ([] : List α) ++ m = m) :=
 ⟨fun _ _ _ => List.take_succ_cons, fun _ => List.take_zero, fun _ _ _ => List.drop_succ_cons, fun _ => List.drop_zero, fun _ _ _ => rfl, fun _ => rfl⟩
section
variable {P : Program} {W0 W : World} {L L' : List Asn}
def getS (agg : Bool) (cs : List Value) (off sz : Nat) : Option Value := if agg && !Nat.ble (off + sz) cs.length then none else getL agg cs off sz
theorem getS_of {agg : Bool} {cs : List Value} {off sz : Nat} {v : Value} (h : getS agg cs off sz = some v) : (agg = true → off + sz ≤ cs.length) ∧ getL agg cs off sz = some v := by
 unfold getS at h
 split at h
 ·cases h
 ·rename_i hc
  refine ⟨fun ha => ?_, h⟩
  subst ha
  simp only [Bool.true_and, Bool.not_eq_true', Bool.not_eq_false] at hc
  exact Nat.le_of_ble_eq_true hc
def stOk (cs : List Value) (off : Nat) (v : Value) (sz : Nat) : Bool := Nat.beq (vcells v).length sz && Nat.ble (off + sz) cs.length && (vcells v).all oneC
theorem v5 {t : TypeId} {agg : Bool} {sz : Nat} [TyI P t agg sz] {b off : Nat} {c0 : Value} {cs : List Value} {T : TypeId} {L' : List Asn} [Ck b L (c0 :: cs) T L'] {k : Value → World → Prop} (hk : ∃ v, getS agg (c0 :: cs) off sz = some v ∧ k v W)
  (h : St W0 L W := by first | assumption | exact St.tick (by assumption) | exact St.tick (St.tick (by assumption))) : rdK P (Instr.loadAt t (.pointer (some ⟨b, off, none⟩))) k W := by
 obtain ⟨v, hv, hk⟩ := hk
 exact ldx h (getS_of hv).1 ⟨v, (getS_of hv).2, hk⟩
theorem v6 {t : TypeId} {agg : Bool} {sz : Nat} [ht : TyI P t agg sz] {b o : Nat} {cs : List Value} {k : Value → World → Prop} (hk : ∃ v, getS agg cs 0 sz = some v ∧ k v W)
  (h : St W0 L W := by first | assumption | exact St.tick (by assumption) | exact St.tick (St.tick (by assumption))) (hr : ro W0 b o cs := by assumption) : rdK P (Instr.loadAt t (.pointer (some ⟨b, o, none⟩))) k W := by
 obtain ⟨v, hv, hk⟩ := hk
 exact ldr0 h hr (getS_of hv).1 ⟨v, (getS_of hv).2, hk⟩
theorem v7 {t : TypeId} {agg : Bool} {sz : Nat} [ht : TyI P t agg sz] {b o j : Nat} {cs : List Value} {k : Value → World → Prop} (hk : ∃ v, getS agg cs j sz = some v ∧ k v W)
  (h : St W0 L W := by first | assumption | exact St.tick (by assumption) | exact St.tick (St.tick (by assumption))) (hr : ro W0 b o cs := by assumption) : rdK P (Instr.loadAt t (.pointer (some ⟨b, o + j, none⟩))) k W := by
 obtain ⟨v, hv, hk⟩ := hk
 exact ldr h hr (getS_of hv).1 ⟨v, (getS_of hv).2, hk⟩
theorem v8 {t : TypeId} {agg : Bool} {sz : Nat} [TyI P t agg sz] {b off : Nat} {c0 : Value} {cs : List Value} {T : TypeId} {L' : List Asn} [Ck b L (c0 :: cs) T L'] {i : Nat} {bb : Bool} {v : Value} {l : List HoldV} {R : World → Prop} (hv : getS agg (c0 :: cs) off sz = some v) (hk : stb P l R W)
  (h : St W0 L W := by first | assumption | exact St.tick (by assumption) | exact St.tick (St.tick (by assumption))) : stb P ((i, bb, Instr.loadAt t (.pointer (some ⟨b, off, none⟩)), v) :: l) R W := stb_ld h (getS_of hv).2 (getS_of hv).1 hk
theorem v9 {t : TypeId} {agg : Bool} {sz : Nat} [ht : TyI P t agg sz] {b o : Nat} {cs : List Value} {i : Nat} {bb : Bool} {v : Value} {l : List HoldV} {R : World → Prop} (hv : getS agg cs 0 sz = some v) (hk : stb P l R W)
  (h : St W0 L W := by first | assumption | exact St.tick (by assumption) | exact St.tick (St.tick (by assumption))) (hr : ro W0 b o cs := by assumption) : stb P ((i, bb, Instr.loadAt t (.pointer (some ⟨b, o, none⟩)), v) :: l) R W := stb_ldr0 h hr (getS_of hv).2 (getS_of hv).1 hk
theorem v10 {t : TypeId} {agg : Bool} {sz : Nat} [ht : TyI P t agg sz] {b o j : Nat} {cs : List Value} {i : Nat} {bb : Bool} {v : Value} {l : List HoldV} {R : World → Prop} (hv : getS agg cs j sz = some v) (hk : stb P l R W)
  (h : St W0 L W := by first | assumption | exact St.tick (by assumption) | exact St.tick (St.tick (by assumption))) (hr : ro W0 b o cs := by assumption) : stb P ((i, bb, Instr.loadAt t (.pointer (some ⟨b, o + j, none⟩)), v) :: l) R W := stb_ldr h hr (getS_of hv).2 (getS_of hv).1 hk
theorem v12 {t : TypeId} {agg : Bool} {sz : Nat} [ht : TyI P t agg sz] {b off : Nat} {c0 : Value} {cs : List Value} {T : TypeId} {Lf : List Value → List Asn} [hu : Cu b L (c0 :: cs) T Lf] {v : Value} {k : Unit → World → Prop} (hs : stOk (c0 :: cs) off v sz = true) (hk : ∀ W', St W0 (Lf (stL (c0 :: cs) off (vcells v))) W' → k () W')
  (h : St W0 L W := by first | assumption | exact St.tick (by assumption) | exact St.tick (St.tick (by assumption))) : efK P (Instr.storeAt t (.pointer (some ⟨b, off, none⟩)) v) k W := by
 unfold stOk at hs
 simp only [Bool.and_eq_true] at hs
 exact sto h (Nat.eq_of_beq_eq_true hs.1.1) (Nat.le_of_ble_eq_true hs.1.2) hs.2 hk
theorem ve {t : TypeId} {ks : List Leaf} [EqS P t ks] {xs ys : List Value} {k : Value → World → Prop} (hk : ∃ b, eqC ks xs ys = some b ∧ k (.bool b) W) : rdK P (aggEq .eql t (.agg xs.toArray) (.agg ys.toArray)) k W := eqs hk
theorem vn {t : TypeId} {ks : List Leaf} [EqS P t ks] {xs ys : List Value} {k : Value → World → Prop} (hk : ∃ b, eqC ks xs ys = some b ∧ k (.bool !b) W) : rdK P (aggEq .neq t (.agg xs.toArray) (.agg ys.toArray)) k W := nes hk
end
end Go.Eng
namespace Go.Proofs.YtfhacbhgmnhmlaaGreat
set_option linter.unusedVariables false
set_option linter.unusedSimpArgs false
open Go.Eng
instance : TyI PR T_int64 false 1 := TyI.mk' (by kernel_rfl) (by kernel_rfl)
instance : TyZ PR T_int64 (.int .i64 0) := TyZ.mk' (by kernel_rfl)
instance : TyI PR T_int false 1 := TyI.mk' (by kernel_rfl) (by kernel_rfl)
instance : TyZ PR T_int (.int .i64 0) := TyZ.mk' (by kernel_rfl)
instance : TyI PR T_bool false 1 := TyI.mk' (by kernel_rfl) (by kernel_rfl)
instance : TyZ PR T_bool (.bool false) := TyZ.mk' (by kernel_rfl)
instance : TyI PR T_uint8 false 1 := TyI.mk' (by kernel_rfl) (by kernel_rfl)
instance : TyZ PR T_uint8 (.int .u8 0) := TyZ.mk' (by kernel_rfl)
instance : TyI PR T_string false 1 := TyI.mk' (by kernel_rfl) (by kernel_rfl)
instance : TyZ PR T_string (.string ⟨#[]⟩) := TyZ.mk' (by kernel_rfl)
instance : StrT PR T_string := ⟨by kernel_rfl⟩
instance : TyI PR T_pax_Act true 4 := TyI.mk' (by kernel_rfl) (by kernel_rfl)
instance : TyZ PR T_pax_Act (.agg #[.int .i64 0, .int .i64 0, .int .i64 0, .int .i64 0]) := TyZ.mk' (by kernel_rfl)
instance : EqS PR T_pax_Act [.i, .i, .i, .i] := EqS.mk' (by kernel_rfl) (by kernel_rfl) (by kernel_rfl)
instance : TyI PR T_api_Dot true 2 := TyI.mk' (by kernel_rfl) (by kernel_rfl)
instance : TyZ PR T_api_Dot (.agg #[.int .i64 0, .int .i64 0]) := TyZ.mk' (by kernel_rfl)
instance : EqS PR T_api_Dot [.i, .i] := EqS.mk' (by kernel_rfl) (by kernel_rfl) (by kernel_rfl)
instance : TyI PR T_s_uint8 false 1 := TyI.mk' (by kernel_rfl) (by kernel_rfl)
instance : TyZ PR T_s_uint8 (.slice none 0 0) := TyZ.mk' (by kernel_rfl)
instance : BytesT PR T_s_uint8 T_uint8 := ⟨by kernel_rfl, by kernel_rfl⟩
instance : TyS PR T_s_uint8 T_uint8 1 1 (.int .u8 0) := TyS.mk' (by kernel_rfl) (by kernel_rfl) (by kernel_rfl)
instance : TyI PR T_a7_int64 true 7 := TyI.mk' (by kernel_rfl) (by kernel_rfl)
instance : TyZ PR T_a7_int64 (.agg #[.int .i64 0, .int .i64 0, .int .i64 0, .int .i64 0, .int .i64 0, .int .i64 0, .int .i64 0]) := TyZ.mk' (by kernel_rfl)
instance : EqS PR T_a7_int64 [.i, .i, .i, .i, .i, .i, .i] := EqS.mk' (by kernel_rfl) (by kernel_rfl) (by kernel_rfl)
instance : TyI PR T_vec_Vec true 7 := TyI.mk' (by kernel_rfl) (by kernel_rfl)
instance : TyZ PR T_vec_Vec (.agg #[.int .i64 0, .int .i64 0, .int .i64 0, .int .i64 0, .int .i64 0, .int .i64 0, .int .i64 0]) := TyZ.mk' (by kernel_rfl)
instance : EqS PR T_vec_Vec [.i, .i, .i, .i, .i, .i, .i] := EqS.mk' (by kernel_rfl) (by kernel_rfl) (by kernel_rfl)
instance : TyI PR T_ballot_Ballot true 2 := TyI.mk' (by kernel_rfl) (by kernel_rfl)
instance : TyZ PR T_ballot_Ballot (.agg #[.int .i64 0, .int .i64 0]) := TyZ.mk' (by kernel_rfl)
instance : EqS PR T_ballot_Ballot [.i, .i] := EqS.mk' (by kernel_rfl) (by kernel_rfl) (by kernel_rfl)
instance : TyI PR T_inst_Rec true 14 := TyI.mk' (by kernel_rfl) (by kernel_rfl)
instance : TyZ PR T_inst_Rec (.agg #[.int .i64 0, .slice none 0 0, .int .i64 0, .int .i64 0, .int .i64 0, .int .i64 0, .int .i64 0, .int .i64 0, .int .i64 0, .int .i64 0, .int .i64 0, .int .i64 0, .int .i64 0, .int .i64 0]) := TyZ.mk' (by kernel_rfl)
instance : TyI PR T_s_api_Dot false 1 := TyI.mk' (by kernel_rfl) (by kernel_rfl)
instance : TyZ PR T_s_api_Dot (.slice none 0 0) := TyZ.mk' (by kernel_rfl)
instance : TyS PR T_s_api_Dot T_api_Dot 2 16 (.agg #[.int .i64 0, .int .i64 0]) := TyS.mk' (by kernel_rfl) (by kernel_rfl) (by kernel_rfl)
instance : TyI PR T_s_pax_Act false 1 := TyI.mk' (by kernel_rfl) (by kernel_rfl)
instance : TyZ PR T_s_pax_Act (.slice none 0 0) := TyZ.mk' (by kernel_rfl)
instance : TyS PR T_s_pax_Act T_pax_Act 4 32 (.agg #[.int .i64 0, .int .i64 0, .int .i64 0, .int .i64 0]) := TyS.mk' (by kernel_rfl) (by kernel_rfl) (by kernel_rfl)
instance : TyI PR T_a5_s_api_Dot true 5 := TyI.mk' (by kernel_rfl) (by kernel_rfl)
instance : TyZ PR T_a5_s_api_Dot (.agg #[.slice none 0 0, .slice none 0 0, .slice none 0 0, .slice none 0 0, .slice none 0 0]) := TyZ.mk' (by kernel_rfl)
instance : TyI PR T_s_p_pax_replica false 1 := TyI.mk' (by kernel_rfl) (by kernel_rfl)
instance : TyZ PR T_s_p_pax_replica (.slice none 0 0) := TyZ.mk' (by kernel_rfl)
instance : TyS PR T_s_p_pax_replica T_p_pax_replica 1 8 (.pointer none) := TyS.mk' (by kernel_rfl) (by kernel_rfl) (by kernel_rfl)
instance : TyI PR T_pax_Group true 1 := TyI.mk' (by kernel_rfl) (by kernel_rfl)
instance : TyZ PR T_pax_Group (.agg #[.slice none 0 0]) := TyZ.mk' (by kernel_rfl)
instance : TyI PR T_p_pax_replica false 1 := TyI.mk' (by kernel_rfl) (by kernel_rfl)
instance : TyZ PR T_p_pax_replica (.pointer none) := TyZ.mk' (by kernel_rfl)
instance : TyI PR T_p_inst_Table false 1 := TyI.mk' (by kernel_rfl) (by kernel_rfl)
instance : TyZ PR T_p_inst_Table (.pointer none) := TyZ.mk' (by kernel_rfl)
instance : TyI PR T_s_p_pax_leader false 1 := TyI.mk' (by kernel_rfl) (by kernel_rfl)
instance : TyZ PR T_s_p_pax_leader (.slice none 0 0) := TyZ.mk' (by kernel_rfl)
instance : TyS PR T_s_p_pax_leader T_p_pax_leader 1 8 (.pointer none) := TyS.mk' (by kernel_rfl) (by kernel_rfl) (by kernel_rfl)
instance : TyI PR T_pax_replica true 3 := TyI.mk' (by kernel_rfl) (by kernel_rfl)
instance : TyZ PR T_pax_replica (.agg #[.pointer none, .slice none 0 0, .int .i64 0]) := TyZ.mk' (by kernel_rfl)
instance : TyI PR T_p_pax_leader false 1 := TyI.mk' (by kernel_rfl) (by kernel_rfl)
instance : TyZ PR T_p_pax_leader (.pointer none) := TyZ.mk' (by kernel_rfl)
instance : TyI PR T_p_lead_Lead false 1 := TyI.mk' (by kernel_rfl) (by kernel_rfl)
instance : TyZ PR T_p_lead_Lead (.pointer none) := TyZ.mk' (by kernel_rfl)
instance : TyI PR T_p_inst_Answer false 1 := TyI.mk' (by kernel_rfl) (by kernel_rfl)
instance : TyZ PR T_p_inst_Answer (.pointer none) := TyZ.mk' (by kernel_rfl)
instance : TyI PR T_pax_leader true 8 := TyI.mk' (by kernel_rfl) (by kernel_rfl)
instance : TyZ PR T_pax_leader (.agg #[.pointer none, .pointer none, .pointer none, .pointer none, .pointer none, .pointer none, .pointer none, .pointer none]) := TyZ.mk' (by kernel_rfl)
instance : TyI PR T_s_order_Inst false 1 := TyI.mk' (by kernel_rfl) (by kernel_rfl)
instance : TyZ PR T_s_order_Inst (.slice none 0 0) := TyZ.mk' (by kernel_rfl)
instance : TyS PR T_s_order_Inst T_order_Inst 10 80 (.agg #[.int .i64 0, .int .i64 0, .int .i64 0, .int .i64 0, .int .i64 0, .int .i64 0, .int .i64 0, .int .i64 0, .int .i64 0, .int .i64 0]) := TyS.mk' (by kernel_rfl) (by kernel_rfl) (by kernel_rfl)
instance : TyI PR T_order_Inst true 10 := TyI.mk' (by kernel_rfl) (by kernel_rfl)
instance : TyZ PR T_order_Inst (.agg #[.int .i64 0, .int .i64 0, .int .i64 0, .int .i64 0, .int .i64 0, .int .i64 0, .int .i64 0, .int .i64 0, .int .i64 0, .int .i64 0]) := TyZ.mk' (by kernel_rfl)
instance : EqS PR T_order_Inst [.i, .i, .i, .i, .i, .i, .i, .i, .i, .i] := EqS.mk' (by kernel_rfl) (by kernel_rfl) (by kernel_rfl)
instance : TyI PR T_m_api_Dot_inst_Rec false 1 := TyI.mk' (by kernel_rfl) (by kernel_rfl)
instance : TyZ PR T_m_api_Dot_inst_Rec (.map none) := TyZ.mk' (by kernel_rfl)
instance : TyI PR T_inst_Table true 1 := TyI.mk' (by kernel_rfl) (by kernel_rfl)
instance : TyZ PR T_inst_Table (.agg #[.map none]) := TyZ.mk' (by kernel_rfl)
instance : TyI PR T_t82 false 1 := TyI.mk' (by kernel_rfl) (by kernel_rfl)
instance : TyZ PR T_t82 (.nilFunc) := TyZ.mk' (by kernel_rfl)
instance : TyI PR T_inst_Msg true 14 := TyI.mk' (by kernel_rfl) (by kernel_rfl)
instance : TyZ PR T_inst_Msg (.agg #[.int .i64 0, .int .i64 0, .int .i64 0, .int .i64 0, .int .i64 0, .slice none 0 0, .int .i64 0, .int .i64 0, .int .i64 0, .int .i64 0, .int .i64 0, .int .i64 0, .int .i64 0, .int .i64 0]) := TyZ.mk' (by kernel_rfl)
instance : TyI PR T_p_inst_Rec false 1 := TyI.mk' (by kernel_rfl) (by kernel_rfl)
instance : TyZ PR T_p_inst_Rec (.pointer none) := TyZ.mk' (by kernel_rfl)
instance : TyI PR T_a7_p_inst_Rec true 7 := TyI.mk' (by kernel_rfl) (by kernel_rfl)
instance : TyZ PR T_a7_p_inst_Rec (.agg #[.pointer none, .pointer none, .pointer none, .pointer none, .pointer none, .pointer none, .pointer none]) := TyZ.mk' (by kernel_rfl)
instance : TyI PR T_lead_Lead true 41 := TyI.mk' (by kernel_rfl) (by kernel_rfl)
instance : TyZ PR T_lead_Lead (.agg #[.int .i64 0, .int .i64 0, .pointer none, .int .i64 0, .int .i64 0, .int .i64 0, .int .i64 0, .int .i64 0, .slice none 0 0, .int .i64 0, .int .i64 0, .int .i64 0, .int .i64 0, .int .i64 0, .int .i64 0, .int .i64 0, .int .i64 0, .int .i64 0, .bool false, .bool false, .pointer none, .pointer none, .pointer none, .pointer none, .pointer none, .pointer none, .pointer none, .int .i64 0, .slice none 0 0, .int .i64 0, .int .i64 0, .int .i64 0, .int .i64 0, .int .i64 0, .int .i64 0, .int .i64 0, .int .i64 0, .int .i64 0, .int .i64 0, .int .i64 0, .int .i64 0]) := TyZ.mk' (by kernel_rfl)
instance : TyI PR T_inst_Answer true 17 := TyI.mk' (by kernel_rfl) (by kernel_rfl)
instance : TyZ PR T_inst_Answer (.agg #[.bool false, .int .i64 0, .int .i64 0, .int .i64 0, .slice none 0 0, .int .i64 0, .int .i64 0, .int .i64 0, .int .i64 0, .int .i64 0, .int .i64 0, .int .i64 0, .int .i64 0, .int .i64 0, .int .i64 0, .int .i64 0, .int .i64 0]) := TyZ.mk' (by kernel_rfl)
instance : TyI PR T_m_api_Dot_bool false 1 := TyI.mk' (by kernel_rfl) (by kernel_rfl)
instance : TyZ PR T_m_api_Dot_bool (.map none) := TyZ.mk' (by kernel_rfl)
instance : TyI PR T_p_order_web false 1 := TyI.mk' (by kernel_rfl) (by kernel_rfl)
instance : TyZ PR T_p_order_web (.pointer none) := TyZ.mk' (by kernel_rfl)
instance : TyI PR T_s_int false 1 := TyI.mk' (by kernel_rfl) (by kernel_rfl)
instance : TyZ PR T_s_int (.slice none 0 0) := TyZ.mk' (by kernel_rfl)
instance : TyS PR T_s_int T_int 1 8 (.int .i64 0) := TyS.mk' (by kernel_rfl) (by kernel_rfl) (by kernel_rfl)
instance : TyI PR T_s_s_int false 1 := TyI.mk' (by kernel_rfl) (by kernel_rfl)
instance : TyZ PR T_s_s_int (.slice none 0 0) := TyZ.mk' (by kernel_rfl)
instance : TyS PR T_s_s_int T_s_int 1 24 (.slice none 0 0) := TyS.mk' (by kernel_rfl) (by kernel_rfl) (by kernel_rfl)
instance : TyI PR T_m_api_Dot_int false 1 := TyI.mk' (by kernel_rfl) (by kernel_rfl)
instance : TyZ PR T_m_api_Dot_int (.map none) := TyZ.mk' (by kernel_rfl)
instance : TyI PR T_order_web true 2 := TyI.mk' (by kernel_rfl) (by kernel_rfl)
instance : TyZ PR T_order_web (.agg #[.slice none 0 0, .map none]) := TyZ.mk' (by kernel_rfl)
instance : TyI PR T_s_bool false 1 := TyI.mk' (by kernel_rfl) (by kernel_rfl)
instance : TyZ PR T_s_bool (.slice none 0 0) := TyZ.mk' (by kernel_rfl)
instance : TyS PR T_s_bool T_bool 1 1 (.bool false) := TyS.mk' (by kernel_rfl) (by kernel_rfl) (by kernel_rfl)
instance : TyI PR T_order_tied true 3 := TyI.mk' (by kernel_rfl) (by kernel_rfl)
instance : TyZ PR T_order_tied (.agg #[.slice none 0 0, .slice none 0 0, .slice none 0 0]) := TyZ.mk' (by kernel_rfl)
instance : TyI PR T_s_ballot_Ballot false 1 := TyI.mk' (by kernel_rfl) (by kernel_rfl)
instance : TyZ PR T_s_ballot_Ballot (.slice none 0 0) := TyZ.mk' (by kernel_rfl)
instance : TyS PR T_s_ballot_Ballot T_ballot_Ballot 2 16 (.agg #[.int .i64 0, .int .i64 0]) := TyS.mk' (by kernel_rfl) (by kernel_rfl) (by kernel_rfl)
instance : TyI PR T_order_finder true 7 := TyI.mk' (by kernel_rfl) (by kernel_rfl)
instance : TyZ PR T_order_finder (.agg #[.slice none 0 0, .slice none 0 0, .slice none 0 0, .slice none 0 0, .slice none 0 0, .int .i64 0, .slice none 0 0]) := TyZ.mk' (by kernel_rfl)
end Go.Proofs.YtfhacbhgmnhmlaaGreat
namespace Go.Proofs.YtfhacbhgmnhmlaaGreat
set_option linter.unusedVariables false
set_option linter.unusedSimpArgs false
open Go.Eng
def S.cmp_isNaN_int.body (R : VK) (v0 : Value) (W : World) : Prop :=
oK (binP .neq v0 v0) fun v5=>
R v5 W
theorem S.cmp_isNaN_int.call {R : VK} {v0 : Value} {W : World} (h : S.cmp_isNaN_int.body R v0 W) : callK PR F_cmp_isNaN_int [v0] R W :=
callS (fn := Tryz.f100) (h := (.t (.t .n))) h
def S.cmp_isNaN_int64.body (R : VK) (v0 : Value) (W : World) : Prop :=
oK (binP .neq v0 v0) fun v5=>
R v5 W
theorem S.cmp_isNaN_int64.call {R : VK} {v0 : Value} {W : World} (h : S.cmp_isNaN_int64.body R v0 W) : callK PR F_cmp_isNaN_int64 [v0] R W :=
callS (fn := Tryz.f101) (h := (.t (.t .n))) h
def S.cmp_Compare_int.body (R : VK) (v0 v1 : Value) (W : World) : Prop :=
cL W F_cmp_isNaN_int [v0] fun v8 W=>
cL W F_cmp_isNaN_int [v1] fun v10 W=>
ifK v8 (
ifK v10 (
R (nI 0) W) (
R (nI (-1)) W)) (
ifK v10 (
R (nI 1) W) (
oK (binP .lss v0 v1) fun v16=>
ifK v16 (
R (nI (-1)) W) (
oK (binP .gtr v0 v1) fun v19=>
ifK v19 (
R (nI 1) W) (
R (nI 0) W))))
theorem S.cmp_Compare_int.call {R : VK} {v0 v1 : Value} {W : World} (h : S.cmp_Compare_int.body R v0 v1 W) : callK PR F_cmp_Compare_int [v0, v1] R W :=
callS (fn := Tryz.f77) (h := (.t (.t (.t (.two (.t (.two (.two (.t (.two (.t .n) .n)) (.t .n)) .n)) (.two (.t (.two (.t .n) .n)) (.two (.t (.two (.t .n) .n)) (.two (.t (.two (.t .n) .n)) (.t .n))))))))) h
def S.cmp_Compare_int64.body (R : VK) (v0 v1 : Value) (W : World) : Prop :=
cL W F_cmp_isNaN_int64 [v0] fun v8 W=>
cL W F_cmp_isNaN_int64 [v1] fun v10 W=>
ifK v8 (
ifK v10 (
R (nI 0) W) (
R (nI (-1)) W)) (
ifK v10 (
R (nI 1) W) (
oK (binP .lss v0 v1) fun v16=>
ifK v16 (
R (nI (-1)) W) (
oK (binP .gtr v0 v1) fun v19=>
ifK v19 (
R (nI 1) W) (
R (nI 0) W))))
theorem S.cmp_Compare_int64.call {R : VK} {v0 v1 : Value} {W : World} (h : S.cmp_Compare_int64.body R v0 v1 W) : callK PR F_cmp_Compare_int64 [v0, v1] R W :=
callS (fn := Tryz.f78) (h := (.t (.t (.t (.two (.t (.two (.two (.t (.two (.t .n) .n)) (.t .n)) .n)) (.two (.t (.two (.t .n) .n)) (.two (.t (.two (.t .n) .n)) (.two (.t (.two (.t .n) .n)) (.t .n))))))))) h
def S.cmp_Or_int.j1 (R : VK) (x3 : Value) (W : World) : Prop :=
R x3 W
def S.cmp_Or_int.l1 (R : VK) (J1 : LK) (K1 : LK) (x3 x6 x7 x8 : Value) (W : World) : Prop :=
oK (binP .lss x8 x7) fun v9=>
ifK v9 (
oK (idxS 1 x6 x8) fun v10=>
lD W T_int v10 fun v11 W=>
oK (binP .neq v11 x3) fun v14=>
ifK v14 (
R v11 W) (
oK (binP .add x8 (nI 1)) fun v16=>
K1 [x3, x6, x7, v16] W)) (
J1 [x3] W)
def S.cmp_Or_int.body (R : VK) (v0 : Value) (W : World) : Prop :=
joinK (fun s W => S.cmp_Or_int.j1 R (nthv s 0) W) (fun J1 =>
oK (lenP (.slice T_int) v0) fun v7=>
loopK (fun K1 s W => S.cmp_Or_int.l1 R J1 K1 (nthv s 0) (nthv s 1) (nthv s 2) (nthv s 3) W) [(nI 0), v0, v7, (nI 0)] W)
theorem S.cmp_Or_int.call {R : VK} {v0 : Value} {W : World} (h : S.cmp_Or_int.body R v0 W) : callK PR F_cmp_Or_int [v0] R W :=
callS (fn := Tryz.f76) (h := (.t (.t (.at [3] (.t (.at [3, 6, 7, 8] (.t (.two (.t .n) (.two (.t (.t (.two (.t .n) .n))) .n))) .n)) (.t .n))))) h
def S.vec_Rep.body (R : VK) (v0 : Value) (W : World) : Prop :=
oK (binP .geq v0 (nI 0)) fun v4=>
gX W v4 true v0 fun v6 W=>
gP W v4 true (binP .lss v6 (nI 7)) fun v7 W=>
oK (pickP v4 v7 (.bool false)) fun v8=>
R v8 W
theorem S.vec_Rep.call {R : VK} {v0 : Value} {W : World} (h : S.vec_Rep.body R v0 W) : callK PR F_vec_Rep [v0] R W :=
callS (fn := Tryz.f106) (h := (.t (.t .n))) h
end Go.Proofs.YtfhacbhgmnhmlaaGreat
namespace Go.Proofs.YtfhacbhgmnhmlaaGreat
set_option linter.unusedVariables false
set_option linter.unusedSimpArgs false
open Go.Eng
instance isNaN64 (a : Int) : Pure0 PR F_cmp_isNaN_int64 [.int .i64 a] (.bool false) := ⟨fun W => by
 apply S.cmp_isNaN_int64.call
 delta S.cmp_isNaN_int64.body oK oA rD lD eF eU sT cL vC gD gX gP gA gR gL gE gU gC gV hL sB nI
 simp -implicitDefEqProofs only [SE, SU, SV]
 exact St.start W⟩
instance isNaNi (a : Int) : Pure0 PR F_cmp_isNaN_int [.int .i64 a] (.bool false) := ⟨fun W => by
 apply S.cmp_isNaN_int.call
 delta S.cmp_isNaN_int.body oK oA rD lD eF eU sT cL vC gD gX gP gA gR gL gE gU gC gV hL sB nI
 simp -implicitDefEqProofs only [SE, SU, SV]
 exact St.start W⟩
def cmpI (a b : Int) : Int := if a < b then -1 else if b < a then 1 else 0
instance cmp64 (a b : Int) : Pure0 PR F_cmp_Compare_int64 [.int .i64 a, .int .i64 b] (.int .i64 (cmpI a b)) := ⟨fun W => by
 apply S.cmp_Compare_int64.call
 delta S.cmp_Compare_int64.body oK oA rD lD eF eU sT cL vC gD gX gP gA gR gL gE gU gC gV hL sB nI
 have h := St.start W
 (first | ((with_reducible first | refine w1 ?_ | refine w3 ?_ | refine w4 ?_ | refine w11 ?_ | refine stb_n ?_); intros) | ((with_reducible first | refine v5 ?_ | refine v6 ?_ | refine v7 ?_ | refine ve ?_ | refine vn ?_); refine ⟨_, rfl, ?_⟩) | ((with_reducible first | refine v8 ?_ ?_ | refine v9 ?_ ?_ | refine v10 ?_ ?_ | refine v12 ?_ ?_); exact rfl; intros) | ((with_reducible refine w2 ?_); try simp -implicitDefEqProofs only [SE, SU, SV]; intros) | ((with_reducible refine w5 ?_ ?_); simp; refine ⟨_, rfl, ?_⟩) | ((with_reducible refine w8 ?_ ?_ ?_); exact rfl; simp; intros) | ((with_reducible refine w12 ?_ ?_ ?_ ?_); simp; simp; simp [oneC]; intros) | (refine okF_i (bldP_eq rfl) ?_; try simp only [BLS, SB, Nat.reduceAdd]))
 (first | ((with_reducible first | refine w1 ?_ | refine w3 ?_ | refine w4 ?_ | refine w11 ?_ | refine stb_n ?_); intros) | ((with_reducible first | refine v5 ?_ | refine v6 ?_ | refine v7 ?_ | refine ve ?_ | refine vn ?_); refine ⟨_, rfl, ?_⟩) | ((with_reducible first | refine v8 ?_ ?_ | refine v9 ?_ ?_ | refine v10 ?_ ?_ | refine v12 ?_ ?_); exact rfl; intros) | ((with_reducible refine w2 ?_); try simp -implicitDefEqProofs only [SE, SU, SV]; intros) | ((with_reducible refine w5 ?_ ?_); simp; refine ⟨_, rfl, ?_⟩) | ((with_reducible refine w8 ?_ ?_ ?_); exact rfl; simp; intros) | ((with_reducible refine w12 ?_ ?_ ?_ ?_); simp; simp; simp [oneC]; intros) | (refine okF_i (bldP_eq rfl) ?_; try simp only [BLS, SB, Nat.reduceAdd]))
 simp -implicitDefEqProofs only [SE, SU, SV]
 refine ifK_d (fun h1 => ?_) (fun h1 => ifK_d (fun h2 => ?_) (fun h2 => ?_))
 ·exact ⟨by simp [cmpI, h1], by assumption⟩
 ·exact ⟨by rw [cmpI, if_neg h1, if_pos h2], by assumption⟩
 ·exact ⟨by rw [cmpI, if_neg h1, if_neg h2], by assumption⟩⟩
instance cmpi (a b : Int) : Pure0 PR F_cmp_Compare_int [.int .i64 a, .int .i64 b] (.int .i64 (cmpI a b)) := ⟨fun W => by
 apply S.cmp_Compare_int.call
 delta S.cmp_Compare_int.body oK oA rD lD eF eU sT cL vC gD gX gP gA gR gL gE gU gC gV hL sB nI
 have h := St.start W
 (first | ((with_reducible first | refine w1 ?_ | refine w3 ?_ | refine w4 ?_ | refine w11 ?_ | refine stb_n ?_); intros) | ((with_reducible first | refine v5 ?_ | refine v6 ?_ | refine v7 ?_ | refine ve ?_ | refine vn ?_); refine ⟨_, rfl, ?_⟩) | ((with_reducible first | refine v8 ?_ ?_ | refine v9 ?_ ?_ | refine v10 ?_ ?_ | refine v12 ?_ ?_); exact rfl; intros) | ((with_reducible refine w2 ?_); try simp -implicitDefEqProofs only [SE, SU, SV]; intros) | ((with_reducible refine w5 ?_ ?_); simp; refine ⟨_, rfl, ?_⟩) | ((with_reducible refine w8 ?_ ?_ ?_); exact rfl; simp; intros) | ((with_reducible refine w12 ?_ ?_ ?_ ?_); simp; simp; simp [oneC]; intros) | (refine okF_i (bldP_eq rfl) ?_; try simp only [BLS, SB, Nat.reduceAdd]))
 (first | ((with_reducible first | refine w1 ?_ | refine w3 ?_ | refine w4 ?_ | refine w11 ?_ | refine stb_n ?_); intros) | ((with_reducible first | refine v5 ?_ | refine v6 ?_ | refine v7 ?_ | refine ve ?_ | refine vn ?_); refine ⟨_, rfl, ?_⟩) | ((with_reducible first | refine v8 ?_ ?_ | refine v9 ?_ ?_ | refine v10 ?_ ?_ | refine v12 ?_ ?_); exact rfl; intros) | ((with_reducible refine w2 ?_); try simp -implicitDefEqProofs only [SE, SU, SV]; intros) | ((with_reducible refine w5 ?_ ?_); simp; refine ⟨_, rfl, ?_⟩) | ((with_reducible refine w8 ?_ ?_ ?_); exact rfl; simp; intros) | ((with_reducible refine w12 ?_ ?_ ?_ ?_); simp; simp; simp [oneC]; intros) | (refine okF_i (bldP_eq rfl) ?_; try simp only [BLS, SB, Nat.reduceAdd]))
 simp -implicitDefEqProofs only [SE, SU, SV]
 refine ifK_d (fun h1 => ?_) (fun h1 => ifK_d (fun h2 => ?_) (fun h2 => ?_))
 ·exact ⟨by simp [cmpI, h1], by assumption⟩
 ·exact ⟨by rw [cmpI, if_neg h1, if_pos h2], by assumption⟩
 ·exact ⟨by rw [cmpI, if_neg h1, if_neg h2], by assumption⟩⟩
structure Dot where
 rep : Int
 n : Int
 deriving DecidableEq
def Dot.v (d : Dot) : Value := .agg #[.int .i64 d.rep, .int .i64 d.n]
def Dot.ok (d : Dot) : Bool := decide (0 ≤ d.rep ∧ d.rep < 7 ∧ 1 ≤ d.n ∧ d.n ≤ 1099511627776)
def orI : List Int → Int
 | [] => 0
 | a :: r => if a ≠ 0 then a else orI r
theorem orI_drop {l : List Int} {i : Nat} (hi : i < l.length) : orI (l.drop i) = if l[i] ≠ 0 then l[i] else orI (l.drop (i + 1)) := by
 rw [List.drop_eq_getElem_cons hi]; rfl
theorem cmpOr {b : Nat} {l : List Int} {W : World} {L : List Asn} {W0 : World} (hl : l.length < 1000) (h : St W0 (cells b (l.map (Value.int .i64)) T_int :: L) W) :
  callK PR F_cmp_Or_int [.slice (some ⟨b, 0, none⟩) l.length l.length] (fun v W' => v = .int .i64 (orI l) ∧ St W0 L W') W := by
 apply S.cmp_Or_int.call
 delta S.cmp_Or_int.body oK oA rD lD eF eU sT cL vC gD gX gP gA gR gL gE gU gC gV hL sB nI
 refine joinK_i ?_
 simp -implicitDefEqProofs only [SE, SU, SV]
 refine loop_i (fun m s W => ∃ i, i ≤ l.length ∧ m = l.length - i ∧ s = [.int .i64 0, .slice (some ⟨b, 0, none⟩) l.length l.length, .int .i64 l.length, .int .i64 i] ∧ orI l = orI (l.drop i) ∧ St W0 (cells b (l.map (Value.int .i64)) T_int :: L) W)
  _ ⟨0, by omega, rfl, rfl, rfl, h⟩ ?_
 rintro m s W ⟨i, hi, rfl, rfl, ho, h⟩
 show S.cmp_Or_int.l1 _ _ _ (.int .i64 0) (.slice (some ⟨b, 0, none⟩) l.length l.length) (.int .i64 l.length) (.int .i64 i) W
 delta S.cmp_Or_int.l1 oK oA rD lD eF eU sT cL vC gD gX gP gA gR gL gE gU gC gV hL sB nI
 simp -implicitDefEqProofs only [SE, SU, SV]
 refine ifK_d (fun hlt => ?_) (fun hge => ?_)
 ·have hlt : i < l.length := by omega
  refine okF_i (idxS_blk (by omega) (by omega)) ?_
  simp only [Int.toNat_natCast, Nat.mul_one, Nat.zero_add]
  refine ld h (v := .int .i64 l[i]) (by simp [getL, lget_eq, hlt]) (by simp) ?_
  simp -implicitDefEqProofs only [SE, SU, SV]
  rw [orI_drop hlt] at ho
  refine ifK_b (fun h1 => ?_) (fun h1 => ?_)
  ·have : l[i] ≠ 0 := by simpa using h1
   rw [if_pos this] at ho
   exact ⟨by rw [ho], h.drop⟩
  ·have : ¬ (l[i] ≠ 0) := by simpa using h1
   rw [if_neg this] at ho
   exact ⟨_, by omega, i + 1, by omega, rfl, by rw [IntWalk.i64_in _ (by omega)]; simp, ho, h⟩
 ·have : i = l.length := by omega
  subst this
  delta S.cmp_Or_int.j1 oK oA rD lD eF eU sT cL vC gD gX gP gA gR gL gE gU gC gV hL sB nI
  simp -implicitDefEqProofs only [SE, SU, SV]
  refine ⟨?_, h.drop⟩
  rw [ho]; simp [orI]
theorem or2 {a b : Int} {W0 W : World} {L : List Asn} {k : Value → World → Prop} (h : St W0 L W) (hk : ∀ W', St W0 L W' → k (.int .i64 (orI [a, b])) W') :
  efK PR (Instr.buildSlice T_s_int 2 #[(0, .int .i64 a), (1, .int .i64 b)]) (fun v W => callK PR F_cmp_Or_int [v] k W) W := by
 refine bs (cs := [.int .i64 a, .int .i64 b]) h (by simp) (by simp) rfl fun x W4 h => ?_
 exact ca (cmpOr (l := [a, b]) (by simp) h) fun v W' ⟨e, h⟩ => by subst e; exact hk _ h
end Go.Proofs.YtfhacbhgmnhmlaaGreat
namespace Go.Proofs.YtfhacbhgmnhmlaaGreat
set_option linter.unusedVariables false
set_option linter.unusedSimpArgs false
open Go.Eng
instance vecRep (a : Int) : Pure0 PR F_vec_Rep [.int .i64 a] (.bool (decide (0 ≤ a ∧ a < 7))) := ⟨fun W => by
 apply S.vec_Rep.call
 delta S.vec_Rep.body oK oA rD lD eF eU sT cL vC gD gX gP gA gR gL gE gU gC gV hL sB nI
 have h := St.start W
 by_cases h1 : 0 ≤ a
 ·simp -implicitDefEqProofs only [SE, SU, SV, h1]
  first | exact h | exact ⟨by simp [h1], h⟩
 ·simp -implicitDefEqProofs only [SE, SU, SV, h1, false_and]
  first | exact h | exact ⟨by simp [h1], h⟩⟩
end Go.Proofs.YtfhacbhgmnhmlaaGreat
namespace Go.Eng
set_option linter.unusedVariables false
set_option linter.unusedSimpArgs false
def dec (i u : Nat) : List UInt8 → Option (Nat × List UInt8)
 | [] => none
 | c :: r => if 10 ≤ i then none else
   if 128 ≤ c.toNat then dec (i + 1) (u + (c.toNat - 128) * 128 ^ i) r
   else if (0 < i ∧ c.toNat = 0) ∨ (i = 9 ∧ 1 < c.toNat) then none
   else some (u + c.toNat * 128 ^ i, r)
end Go.Eng
namespace Go.Eng
set_option linter.unusedVariables false
set_option linter.unusedSimpArgs false
open Go
theorem i64w (n : Int) : IntKind.i64.wrap n = (n + 9223372036854775808) % 18446744073709551616 - 9223372036854775808 := by rw [IntKind.wrap_i64]
end Go.Eng
namespace Go.Eng
set_option linter.unusedVariables false
set_option linter.unusedSimpArgs false
open Go Go.RowKit
section
variable {P : Program} {W0 W W' : World} {L L' : List Asn}
theorem St.left {l rest : List Asn} (h : St W0 (l ++ rest) W) : St W0 l W := by
 obtain ⟨hb, p, hs, ho⟩ := h
 obtain ⟨h1, h2, hd, rfl, hl, hl'⟩ := sep_append.1 hs
 exact ⟨hb, h1, hl, fun b o hbo => ho b o (by simp [PH.join, hbo])⟩
theorem St.one {q : Nat} {cs : List Value} {T : TypeId} {L1 : List Asn} (h : St W0 L W) [h1 : Ck q L cs T L1] : St W0 [Eng.cells q cs T] W := St.left (l := [_]) (rest := L1) (h.perm h1.perm)
theorem St.two {q p : Nat} {cs ds : List Value} {T U : TypeId} {L1 L2 : List Asn} (h : St W0 L W) [h1 : Ck q L cs T L1] [h2 : Ck p L1 ds U L2] : St W0 [Eng.cells q cs T, Eng.cells p ds U] W :=
 St.left (l := [_, _]) (rest := L2) ((h.perm h1.perm).ent (ent.cons _ (ent.perm h2.perm)))
end
end Go.Eng
namespace Go.Eng
set_option linter.unusedVariables false
set_option linter.unusedSimpArgs false
open Go Go.RowKit
section
variable {P : Program} {W0 W W' : World} {L L' : List Asn} {e : TypeId} {α : Type} {A : Ly α}
theorem rows_replicate (x : α) (n : Nat) : A.rows (List.replicate n x) = (List.replicate n (A.row x)).flatten := by
 induction n with
 | zero => rfl
 | succ n ih => rw [List.replicate_succ, Ly.rows_cons, ih, List.replicate_succ, List.flatten_cons]
theorem getElem_flat_rep (r : List Value) : ∀ (n j : Nat), j < n * r.length → (List.replicate n r).flatten[j]? = r[j % r.length]?
 | 0, j, h => by simp at h
 | n + 1, j, h => by
  rw [List.replicate_succ, List.flatten_cons]
  by_cases hj : j < r.length
  ·rw [List.getElem?_append_left hj, Nat.mod_eq_of_lt hj]
  ·rw [List.getElem?_append_right (by omega), getElem_flat_rep r n _ (by rw [Nat.succ_mul] at h; omega)]
   congr 1
   conv => rhs; rw [Nat.mod_eq_sub_mod (by omega)]
theorem mkS (x0 : α) (n : Nat) {t : TypeId} {sz by' : Nat} {z : Value} [ht : TyS P t e sz by' z] {k : Value → World → Prop} (h : St W0 L W) (hz : vcells z = A.row x0) (hs : A.sz = sz) (hn : n ≤ 1000000) (hb : n * by' ≤ 140737488355328)
  (hk : ∀ a c W', St W0 (arr A e a c (List.replicate n x0) :: L) W' → k (.slice a (List.replicate n x0).length c) W') : efK P (Instr.makeSlice t (.int .i64 (n : Int)) (.int .i64 (n : Int))) k W := by
 subst hs
 obtain ⟨⟨i, h1, h2, h3, h4, h5⟩, hzz⟩ := ht.ok
 have hp := A.pos
 have e1 : IntKind.i64.wrap (n : Int) = n := by rw [IntWalk.i64_in _ (by omega)]
 have hcells : ((Array.range (n * A.sz)).map fun j => z.cells[j % z.cells.size]!) = (A.rows (List.replicate n x0)).toArray := by
  apply Array.ext_getElem?
  intro j
  rw [rows_replicate]
  have hta : ∀ (l : List Value), l.toArray[j]? = l[j]? := fun l => by simp
  rw [hta ((List.replicate n (A.row x0)).flatten)]
  by_cases hj : j < n * A.sz
  ·have hm : j % A.sz < A.sz := Nat.mod_lt _ hp
   rw [getElem_flat_rep _ _ _ (by rw [A.len x0]; exact hj), A.len x0, ← hz]
   have hzl : (vcells z).length = A.sz := by rw [hz, A.len]
   simp [hj, vcells_eq', hzl, hm]
  ·have : ((List.replicate n (A.row x0)).flatten).length = n * A.sz := by simp [A.len]
   have e1 : ((List.replicate n (A.row x0)).flatten)[j]? = none := List.getElem?_eq_none (by rw [this]; omega)
   have e2 : ((Array.range (n * A.sz)).map fun j => z.cells[j % z.cells.size]!)[j]? = none := Array.getElem?_eq_none (by rw [Array.size_map, Array.size_range]; omega)
   rw [e1, e2]
 have hr := run_make (P := P) W t e i z h1 h2 h5 .i64 .i64 n n (by omega) (by omega) (by
  rw [h4]
  have : (by' : Int) * (n : Int) = ((n * by' : Nat) : Int) := by rw [Nat.mul_comm]; simp
  rw [this]; omega) (by omega)
 rw [h3, Int.toNat_natCast, madeCells, hcells] at hr
 refine ⟨_, _, hr, ?_⟩
 ·have := hk (some ⟨W.heap.size, 0, none⟩) n _ ((h.allocCells (A.rows (List.replicate n x0)) e).ent (by
   have := arr_full (A := A) (e := e) (L := L) (g := W.heap.size) (l := List.replicate n x0) (by simp [maxLen]; omega)
   simpa using this))
  simpa using this
end
end Go.Eng
namespace Go.Eng
set_option linter.unusedVariables false
set_option linter.unusedSimpArgs false
open Go Go.RowKit
section
variable {P : Program} {W0 W : World} {L : List Asn} {e : TypeId}
end
end Go.Eng
namespace Go.Eng
set_option linter.unusedVariables false
set_option linter.unusedSimpArgs false
open Go Go.RowKit
section
variable {α : Type} {A : Ly α} {P : Program} {W0 W W' : World} {L L' : List Asn} {e : TypeId} {a : Option Addr} {c : Nat} {l : List α}
theorem arr_pre (i : Nat) : ∀ p, arr A e a c l p → arr A e a c (l.take i) p := by
 rintro p ⟨h5, h6, h7⟩
 refine ⟨by simp; omega, h6, ?_⟩
 rcases h7 with ⟨rfl, rfl, h7⟩ | ⟨g, o, cur, rfl, h8, h9, h10⟩
 ·exact .inl ⟨rfl, rfl, h7⟩
 ·refine .inr ⟨g, o, cur, rfl, h8, ?_, h10⟩
  rw [← Ly.rows_take, ← h9, List.take_take, List.length_take, Nat.min_def, Nat.min_def]
  by_cases h : i ≤ l.length
  ·rw [if_pos h, if_pos (Nat.mul_le_mul_right _ h)]
  ·rw [if_neg h]
   by_cases h' : i * A.sz ≤ l.length * A.sz
   ·rw [if_pos h', Nat.le_antisymm h' (Nat.mul_le_mul_right _ (by omega))]
   ·rw [if_neg h']
theorem clrA {t ty : TypeId} {sz by' i n : Nat} {z : Value} [ht : TyS P t e sz by' z] {a' : Option Addr} {c' : Nat} {k : Value → World → Prop} (h : St W0 L W) [ho : Go.Eng.Own a L A e c l L'] (hs : A.sz = sz) (hz1 : (vcells z).all oneC = true) (hi : i ≤ l.length)
  (ha : a' = if c = i then a else a.map (·.add (i * sz))) (hn : n = l.length - i) (hk : ∀ W', St W0 (arr A e a c (l.take i) :: L') W' → k (.tuple #[]) W') : efK P (Builtin.clear_ #[t] ty #[.slice a' n c']) k W := by
 subst hs
 obtain ⟨⟨x, h1, h2, h3, h4, h5⟩, hzz⟩ := ht.ok
 have h := h.took (a := a)
 have hf := h.arrFacts
 by_cases hn0 : n = 0
 ·subst hn0
  refine ⟨_, W, ?_, hk W (h.weak (arr_pre i))⟩
  simp only [Builtin.clear_, List.getElem?_toArray, List.getElem?_cons_zero, Sem.run_bind, run_underlying h1, Result.andThen_ok]
  cases a' <;> rfl
 ·have ha0 : a ≠ none := fun e => by have := hf.2.2.1 e; omega
  obtain ⟨g, o, cur, rfl, h6, h7, h8⟩ := h.arrCells ha0
  rw [if_neg (by omega)] at ha
  simp only [Option.map_some, add_none] at ha
  subst ha
  have hle : l.length * A.sz ≤ c * A.sz := Nat.mul_le_mul_right _ hf.1
  have hil : i * A.sz + (l.length - i) * A.sz = l.length * A.sz := by rw [← Nat.add_mul]; congr 1; omega
  have hzl : (Builtin.zeroCells z.cells n).toList.length = n * A.sz := by rw [zeroCells_len, hzz]
  have hone : (Builtin.zeroCells z.cells n).toList.all oneC = true := by
   rw [List.all_eq_true]
   intro u hu
   simp only [Builtin.zeroCells, Array.toList_map, List.mem_map, Array.toList_range, List.mem_range] at hu
   obtain ⟨j, hj, rfl⟩ := hu
   have hpos := A.pos
   have hm : j % z.cells.size < z.cells.size := Nat.mod_lt _ (by rw [hzz]; exact hpos)
   rw [← vcells_eq] at hz1
   have := List.all_eq_true.1 hz1 z.cells[j % z.cells.size]! (by simp [hm])
   exact this
  obtain ⟨W1, hr, hs'⟩ := storeCells_over (P := P) (off := o + i * A.sz) h8 hone (by rw [hzl, hn]; omega)
  refine ⟨_, W1, ?_, hk W1 (hs'.ent (arr_of_cells (by simp; omega) hf.2.1 (by rw [List.length_append, List.length_append, hzl]; simp; rw [hn]; omega) ?_))⟩
  ·simp only [Builtin.clear_, List.getElem?_toArray, List.getElem?_cons_zero, Sem.run_bind, run_underlying h1, Result.andThen_ok]
   have hz' := run_zeroValue' (P := P) (w := W) h2 h5
   obtain ⟨m, rfl⟩ : ∃ m, n = m + 1 := ⟨n - 1, by omega⟩
   simp only [hz', Result.andThen_ok, hr, Sem.run_bind]
   rfl
  ·rw [List.append_assoc, List.drop_append_of_le_length (by simp; omega), List.drop_take, Nat.add_sub_cancel_left, List.length_take, Nat.min_eq_left hi,
    List.take_append_of_le_length (by simp; omega), List.take_take, Nat.min_self, ← Ly.rows_take, ← h7, List.take_take, Nat.min_eq_left (by omega)]
theorem min2i {k : IntKind} {a b : Int} : foldP min2P [.int k a, .int k b] = some (.int k (if b < a then b else a)) := rfl
theorem max2i {k : IntKind} {a b : Int} : foldP max2P [.int k a, .int k b] = some (.int k (if a < b then b else a)) := rfl
def Ly.val (A : Ly α) (agg : Bool) (x : α) : Value := if agg then .agg (A.row x).toArray else (A.row x).headD undef
theorem Ly.val_agg (x : α) : A.val true x = .agg (A.row x).toArray := rfl
theorem lsub_self : ∀ (l : List Value), lsub l 0 l.length = l
 | [] => rfl
 | v :: l => by simp [lsub, lsub_self l]
theorem getL_val {agg : Bool} {sz : Nat} (hs : A.sz = sz) (h1 : agg = false → sz = 1) (x : α) : getL agg (A.row x) 0 sz = some (A.val agg x) := by
 subst hs
 cases agg with
 | true => rw [Ly.val_agg, getL, ← A.len x, lsub_self]
 | false =>
  have hl := A.len x
  rw [h1 rfl] at hl
  match h : A.row x, hl with
  | [v], _ => simp [getL, lget, Ly.val, h]
theorem val_cells {agg : Bool} {sz : Nat} (hs : A.sz = sz) (h1 : agg = false → sz = 1) (x : α) : vcells (A.val agg x) = A.row x := by
 subst hs
 cases agg with
 | true => rw [Ly.val_agg, vcells_agg]
 | false =>
  have hl := A.len x
  have ho := A.one x
  rw [h1 rfl] at hl
  match h : A.row x, hl, ho with
  | [v], _, ho =>
   have h2 : A.val false x = v := by simp [Ly.val, h]
   rw [h2]
   cases v <;> first | rfl | (simp [oneC] at ho)
theorem newV (x : α) {t : TypeId} {agg : Bool} {sz : Nat} {z : Value} [ht : TyI P t agg sz] [hz : TyZ P t z] {k : Value → World → Prop} (h : St W0 L W) (hs : A.sz = sz) (h1 : agg = false → sz = 1) (hzl : (vcells z).length = sz)
  (hk : ∀ b W', St W0 (cells b (A.row x) t :: L) W' → k (.pointer (some ⟨b, 0, none⟩)) W') :
  efK P (Instr.alloc t true (.tuple #[])) (fun v W => efK P (Instr.storeAt t v (A.val agg x)) (fun _ W => k v W) W) W := by
 refine al h fun b W1 h => ?_
 have e : stL (vcells z) 0 (vcells (A.val agg x)) = A.row x := by
  rw [val_cells hs h1, stL_eq _ _ _ (by rw [A.len]; omega), A.len, Nat.zero_add, List.drop_eq_nil_of_le (by omega)]
  simp
 refine sto (off := 0) h (by rw [val_cells hs h1, A.len, hs]) (by omega) (by rw [val_cells hs h1]; exact A.one _) fun W2 h => ?_
 rw [e] at h
 exact hk b W2 h
theorem ldV (x : α) {t : TypeId} {agg : Bool} {sz b : Nat} {T : TypeId} [ht : TyI P t agg sz] {k : Value → World → Prop} (h : St W0 L W) [hc : Ck b L (A.row x) T L'] (hs : A.sz = sz) (h1 : agg = false → sz = 1) (hk : k (A.val agg x) W) :
  rdK P (Instr.loadAt t (.pointer (some ⟨b, 0, none⟩))) k W := ld h (getL_val hs h1 x) (fun _ => by rw [A.len]; omega) hk
theorem slc_pre {sz n i : Nat} {k : IntKind} {K : Value → Prop} (h : St W0 (arr A e a c l :: L) W) (hi : i ≤ c) (hk : K (.slice a i c)) : okF (slcS sz (.slice a n c) none (some (.int k (i : Int))) none) K := by
 refine okF_i (slcS_eq (bnd_nat hi) bnd_none) ?_
 have hf := h.arrFacts
 by_cases hc : c = 0
 ·rw [if_pos hc]; simpa using hk
 ·obtain ⟨g, o, rfl⟩ := hf.2.2.2 (by omega)
  rw [if_neg hc]
  simpa [add_none] using hk
end
end Go.Eng
namespace Go.Proofs.YtfhacbhgmnhmlaaGreat
set_option linter.unusedVariables false
set_option linter.unusedSimpArgs false
open Go.Eng
def S.ballot_First.body (R : VK) (v0 : Value) (W : World) : Prop :=
eF W (Instr.alloc T_ballot_Ballot true (.tuple #[])) fun v2 W=>
oK (bldP (fun i => ([(0, 1), (1, 1)] : List (Nat × Nat))[i]?) [.int .i64 0, .int .i64 0] [(1, v0)]) fun v4=>
sT W T_ballot_Ballot v2 v4 fun _ W=>
rdK PR (Instr.loadAt T_ballot_Ballot v2) (fun r0 W =>
R r0 W) W
theorem S.ballot_First.call {R : VK} {v0 : Value} {W : World} (h : S.ballot_First.body R v0 W) : callK PR F_ballot_First [v0] R W :=
callS (fn := Tryz.f55) (h := (.t (.t .n))) h
def S.ballot_Next.body (R : VK) (v0 v1 : Value) (W : World) : Prop :=
eF W (Instr.box T_ballot_Ballot v0) fun v2 W=>
eF W (Instr.alloc T_ballot_Ballot true (.tuple #[])) fun v4 W=>
lD W T_ballot_Ballot v2 fun v7 W=>
cL W F_ballot_Good [v7] fun v8 W=>
oK (unP .not v8) fun v9=>
gX W v9 false v1 fun v11 W=>
gC W v9 false F_ballot_rep [v11] fun v12 W=>
gP W v9 false (unP .not v12) fun v13 W=>
oK (pickP v9 (.bool true) v13) fun v14=>
ifK v14 (
oK (bldP (fun i => ([(0, 1), (1, 1)] : List (Nat × Nat))[i]?) [.int .i64 0, .int .i64 0] []) fun v15=>
sT W T_ballot_Ballot v4 v15 fun _ W=>
rdK PR (Instr.loadAt T_ballot_Ballot v4) (fun r0 W =>
R (.tuple #[r0, (nI 1)]) W) W) (
oA 0 v2 fun v17=>
lD W T_int64 v17 fun v18 W=>
oK (binP .eql v18 (nI 1099511627776)) fun v19=>
ifK v19 (
oK (bldP (fun i => ([(0, 1), (1, 1)] : List (Nat × Nat))[i]?) [.int .i64 0, .int .i64 0] []) fun v20=>
sT W T_ballot_Ballot v4 v20 fun _ W=>
rdK PR (Instr.loadAt T_ballot_Ballot v4) (fun r0 W =>
R (.tuple #[r0, (nI 2)]) W) W) (
oA 0 v2 fun v21=>
lD W T_int64 v21 fun v22 W=>
oK (binP .add v22 (nI 1)) fun v23=>
oK (bldP (fun i => ([(0, 1), (1, 1)] : List (Nat × Nat))[i]?) [.int .i64 0, .int .i64 0] [(0, v23), (1, v1)]) fun v25=>
sT W T_ballot_Ballot v4 v25 fun _ W=>
rdK PR (Instr.loadAt T_ballot_Ballot v4) (fun r0 W =>
R (.tuple #[r0, (nI 0)]) W) W))
theorem S.ballot_Next.call {R : VK} {v0 v1 : Value} {W : World} (h : S.ballot_Next.body R v0 v1 W) : callK PR F_ballot_Next [v0, v1] R W :=
callS (fn := Tryz.f61) (h := (.t (.two (.t (.two (.t .n) (.t (.two (.t .n) .n)))) (.t .n)))) h
def S.ballot_Cmp.body (R : VK) (v0 v1 : Value) (W : World) : Prop :=
eF W (Instr.box T_ballot_Ballot v0) fun v2 W=>
eF W (Instr.box T_ballot_Ballot v1) fun v3 W=>
oA 0 v2 fun v5=>
lD (tick W) T_int64 v5 fun v6 W=>
oA 0 v3 fun v7=>
lD W T_int64 v7 fun v8 W=>
oA 1 v2 fun v10=>
lD W T_int v10 fun v11 W=>
oA 1 v3 fun v12=>
lD W T_int v12 fun v13 W=>
cL W F_cmp_Compare_int64 [v6, v8] fun v9 W=>
sB W [hL 8 T_int v12 v13, hL 6 T_int v10 v11] fun W=>
cL W F_cmp_Compare_int [v11, v13] fun v14 W=>
eF W (Instr.buildSlice T_s_int 2 #[(0, v9), (1, v14)]) fun v15 W=>
cL W F_cmp_Or_int [v15] fun v16 W=>
R v16 W
theorem S.ballot_Cmp.call {R : VK} {v0 v1 : Value} {W : World} (h : S.ballot_Cmp.body R v0 v1 W) : callK PR F_ballot_Cmp [v0, v1] R W :=
callS (fn := Tryz.f67) (h := (.t (.t .n))) h
def S.ballot_Most.j1 (R : VK) (x2 x3 : Value) (W : World) : Prop :=
lD W T_ballot_Ballot x3 fun v25 W=>
sT W T_ballot_Ballot x2 v25 fun _ W=>
rdK PR (Instr.loadAt T_ballot_Ballot x2) (fun r0 W =>
R r0 W) W
def S.ballot_Most.j2 (K1 : LK) (x2 x3 x13 x14 x15 : Value) (W : World) : Prop :=
oK (binP .add x15 (nI 1)) fun v24=>
K1 [x2, x3, x13, x14, v24] W
def S.ballot_Most.l1 (J1 : LK) (K1 : LK) (x2 x3 x13 x14 x15 : Value) (W : World) : Prop :=
oK (binP .lss x15 x14) fun v16=>
ifK v16 (
joinK (fun s W => S.ballot_Most.j2 K1 (nthv s 0) (nthv s 1) (nthv s 2) (nthv s 3) (nthv s 4) W) (fun J2 =>
oK (idxS 2 x13 x15) fun v17=>
lD W T_ballot_Ballot v17 fun v18 W=>
eF W (Instr.alloc T_ballot_Ballot true (.tuple #[])) fun v5 W=>
sT W T_ballot_Ballot v5 v18 fun _ W=>
lD W T_ballot_Ballot v5 fun v19 W=>
lD W T_ballot_Ballot x3 fun v20 W=>
cL W F_ballot_Cmp [v19, v20] fun v21 W=>
oK (binP .gtr v21 (nI 0)) fun v22=>
ifK v22 (
lD W T_ballot_Ballot v5 fun v23 W=>
sT W T_ballot_Ballot x3 v23 fun _ W=>
J2 [x2, x3, x13, x14, x15] W) (
J2 [x2, x3, x13, x14, x15] W))) (
J1 [x2, x3] W)
def S.ballot_Most.body (R : VK) (v0 : Value) (W : World) : Prop :=
eF W (Instr.alloc T_ballot_Ballot true (.tuple #[])) fun v2 W=>
oK (lenP (.slice T_ballot_Ballot) v0) fun v7=>
oK (binP .eql v7 (nI 0)) fun v8=>
ifK v8 (
oK (bldP (fun i => ([(0, 1), (1, 1)] : List (Nat × Nat))[i]?) [.int .i64 0, .int .i64 0] []) fun v9=>
sT W T_ballot_Ballot v2 v9 fun _ W=>
rdK PR (Instr.loadAt T_ballot_Ballot v2) (fun r0 W =>
R r0 W) W) (
oK (idxS 2 v0 (nI 0)) fun v11=>
lD W T_ballot_Ballot v11 fun v12 W=>
eF W (Instr.alloc T_ballot_Ballot true (.tuple #[])) fun v3 W=>
sT W T_ballot_Ballot v3 v12 fun _ W=>
joinK (fun s W => S.ballot_Most.j1 R (nthv s 0) (nthv s 1) W) (fun J1 =>
oK (lenP (.slice T_ballot_Ballot) v0) fun v14=>
loopK (fun K1 s W => S.ballot_Most.l1 J1 K1 (nthv s 0) (nthv s 1) (nthv s 2) (nthv s 3) (nthv s 4) W) [v2, v3, v0, v14, (nI 0)] W))
theorem S.ballot_Most.call {R : VK} {v0 : Value} {W : World} (h : S.ballot_Most.body R v0 W) : callK PR F_ballot_Most [v0] R W :=
callS (fn := Tryz.f72) (h := (.t (.two (.t (.two (.t .n) .n)) (.t (.at [2, 3] (.t (.at [2, 3, 13, 14, 15] (.t (.two (.t .n) (.at [2, 3, 13, 14, 15] (.t (.t (.t .n))) .n))) .n)) (.t .n)))))) h
def S.ballot_Good.body (R : VK) (v0 : Value) (W : World) : Prop :=
eF W (Instr.box T_ballot_Ballot v0) fun v1 W=>
oA 0 v1 fun v3=>
lD W T_int64 v3 fun v4 W=>
oK (binP .geq v4 (nI 0)) fun v5=>
gA W v5 true 0 v1 fun v7 W=>
gL W v5 true T_int64 v7 fun v8 W=>
gP W v5 true (binP .leq v8 (nI 1099511627776)) fun v9 W=>
oK (pickP v5 v9 (.bool false)) fun v10=>
gA W v10 true 1 v1 fun v12 W=>
gL W v10 true T_int v12 fun v13 W=>
gC W v10 true F_ballot_rep [v13] fun v14 W=>
oK (pickP v10 v14 (.bool false)) fun v15=>
R v15 W
theorem S.ballot_Good.call {R : VK} {v0 : Value} {W : World} (h : S.ballot_Good.body R v0 W) : callK PR F_ballot_Good [v0] R W :=
callS (fn := Tryz.f90) (h := (.t (.t .n))) h
def S.ballot_rep.body (R : VK) (v0 : Value) (W : World) : Prop :=
oK (binP .geq v0 (nI 0)) fun v4=>
gX W v4 true v0 fun v6 W=>
gP W v4 true (binP .lss v6 (nI 7)) fun v7 W=>
oK (pickP v4 v7 (.bool false)) fun v8=>
R v8 W
theorem S.ballot_rep.call {R : VK} {v0 : Value} {W : World} (h : S.ballot_rep.body R v0 W) : callK PR F_ballot_rep [v0] R W :=
callS (fn := Tryz.f92) (h := (.t (.t .n))) h
end Go.Proofs.YtfhacbhgmnhmlaaGreat
