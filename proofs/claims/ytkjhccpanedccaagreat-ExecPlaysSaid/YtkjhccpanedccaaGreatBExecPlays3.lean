/- Texts of the claim ExecPlays, joined: Mp, TypM, Mp2, Sl4, Sl5, Mp3, PNum, Bit, ShVec, V70, Srt, ShSlI, DelFI. -/
import Derived.Test.YtkjhccpanedccaaGreatBExecPlays2
import Derived.Maps.Keyed
import Derived.Maps.RangeRun
import Derived.Carry
import Derived.Lib.SlBytesConst
import Derived.Test.YtkjhccpanedccaaGreatBExecPlays1
import Derived.Shelf.SlSortCmp.NoneTotal
namespace Go.Eng
set_option linter.unusedVariables false
set_option linter.unusedSimpArgs false
open Go Go.RowKit Go.MapKept Go.ChangeMaps
section
variable {κ β : Type} [DecidableEq κ]
def mget : List (κ × β) → κ → Option β
 | [], _ => none
 | (a, b) :: l, k => if a = k then some b else mget l k
def mput : List (κ × β) → κ → β → List (κ × β)
 | [], k, v => [(k, v)]
 | (a, b) :: l, k, v => if a = k then (k, v) :: l else (a, b) :: mput l k v
theorem mget_none {l : List (κ × β)} {k : κ} : mget l k = none ↔ ∀ p ∈ l, p.1 ≠ k := by
 induction l with
 | nil => simp [mget]
 | cons p l ih =>
  obtain ⟨a, b⟩ := p
  by_cases h : a = k
  ·simp [mget, h]
  ·simp [mget, h, ih]
theorem mput_new {l : List (κ × β)} {k : κ} {v : β} (h : ∀ p ∈ l, p.1 ≠ k) : mput l k v = l ++ [(k, v)] := by
 induction l with
 | nil => rfl
 | cons p l ih =>
  obtain ⟨a, b⟩ := p
  have h1 : a ≠ k := h (a, b) (by simp)
  simp only [mput, if_neg h1, List.cons_append, ih fun p hp => h p (by simp [hp])]
theorem mget_at {l : List (κ × β)} (hn : (l.map (·.1)).Nodup) {j : Nat} {k : κ} {v : β} (h : l[j]? = some (k, v)) : mget l k = some v := by
 induction l generalizing j with
 | nil => simp at h
 | cons p l ih =>
  obtain ⟨a, b⟩ := p
  cases j with
  | zero => simp at h; obtain ⟨rfl, rfl⟩ := h; simp [mget]
  | succ j =>
   simp only [List.getElem?_cons_succ] at h
   simp only [List.map_cons, List.nodup_cons] at hn
   have : a ≠ k := fun e => hn.1 (List.mem_map.2 ⟨(k, v), List.mem_of_getElem? h, e.symm⟩)
   simp only [mget, if_neg this]
   exact ih hn.2 h
theorem mput_at {l : List (κ × β)} (hn : (l.map (·.1)).Nodup) {j : Nat} {k : κ} {v w : β} (h : l[j]? = some (k, v)) : mput l k w = l.set j (k, w) := by
 induction l generalizing j with
 | nil => simp at h
 | cons p l ih =>
  obtain ⟨a, b⟩ := p
  cases j with
  | zero => simp at h; obtain ⟨rfl, rfl⟩ := h; simp [mput]
  | succ j =>
   simp only [List.getElem?_cons_succ] at h
   simp only [List.map_cons, List.nodup_cons] at hn
   have : a ≠ k := fun e => hn.1 (List.mem_map.2 ⟨(k, v), List.mem_of_getElem? h, e.symm⟩)
   simp only [mput, if_neg this, List.set_cons_succ, ih hn.2 h]
end
class KeyT (P : Program) (t : TypeId) {κ : Type} (K : κ → Value) : Prop where
 inj : ∀ {a b : κ}, K a = K b → a = b
 check : ∀ (w : World) (em : Bool) (k : κ), (Instr.checkKey em 10000 t (K k)).run P w = .ok () w
 find : ∀ (w : World) (k : κ) (es : List MapEntry), (∀ e ∈ es, ∃ k', e.key = K k') →
  ((Instr.findKey t (K k) es).run P w = .ok none w ∧ ∀ e ∈ es, e.key ≠ K k) ∨ ∃ j e, (Instr.findKey t (K k) es).run P w = .ok (some (j, e.val)) w ∧ es[j]? = some e ∧ e.key = K k
 stays : ∀ (w : World) (k : κ), (Instr.keyThatStays (K k) (K k)).run P w = .ok (K k) w
class MapT (P : Program) (t : TypeId) (kt : outParam TypeId) (et : outParam TypeId) : Prop where
 ok : P.underlying t = some (.map kt et)
theorem KeyT.plain {P : Program} {t : TypeId} {d : TypeDesc} {κ : Type} {K : κ → Value} (hd : P.underlying t = some d) (hk : ∀ k, IsKey d (K k)) (hi : ∀ {a b : κ}, K a = K b → a = b) : KeyT P t K where
 inj := hi
 check w em k := run_checkKey hd (hk k) em 9999
 find w k es hes := by
  have hks : ∀ y ∈ es, IsKey d y.key := fun y hy => by
   obtain ⟨l, hl⟩ := hes y hy
   rw [hl]; exact hk l
  rcases findNow_spec (hk k) es 0 hks with ⟨h1, h2⟩ | ⟨j, e0, h1, h2, h3⟩
  ·exact Or.inl ⟨run_findKey hd h1, h2⟩
  ·exact Or.inr ⟨j, e0, by simpa using run_findKey hd h1, h2, h3⟩
 stays w k := run_keyThatStays (hk k)
abbrev KI : Int → Value := fun i => .int .i64 i
abbrev KS : ByteArray → Value := .string
theorem KeyT.int {P : Program} {t : TypeId} (hd : P.underlying t = some (.int .i64)) : KeyT P t KI := .plain hd (fun _ => rfl) (fun h => by cases h; rfl)
theorem KeyT.str {P : Program} {t : TypeId} (hd : P.underlying t = some .string) : KeyT P t KS := .plain hd (fun _ => trivial) (fun h => by cases h; rfl)
def mpL {κ : Type} (K : κ → Value) (l : List (κ × Value)) (es : Array MapEntry) : Prop := es.toList.map (fun e => (e.key, e.val)) = l.map (fun p => (K p.1, p.2))
def mp {κ : Type} (K : κ → Value) (r : Nat) (l : List (κ × Value)) : Asn := fun h => ∃ x : Array MapEntry × Nat, (mpL K l x.1 ∧ Stamped x.1 x.2) ∧ blk r (.map x.1 x.2) h
section
variable {κ : Type} {K : κ → Value} {P : Program} {W0 W W' : World} {L L' : List Asn} {t kt et : TypeId} {r : Nat} {l : List (κ × Value)}
theorem St.mp (h : St W0 (mp K r l :: L) W) : ∃ es clock, mpL K l es ∧ Stamped es clock ∧ St W0 (Eng.blk r (.map es clock) :: L) W := by
 obtain ⟨⟨es, clock⟩, h⟩ := h.ex
 obtain ⟨⟨h1, h2⟩, h⟩ := h.fact
 exact ⟨es, clock, h1, h2, h⟩
theorem mp_ent {es : Array MapEntry} {clock : Nat} (h1 : mpL K l es) (h2 : Stamped es clock) : ent (blk r (.map es clock) :: L) (mp K r l :: L) := ent.weak fun _ hp => ⟨(es, clock), ⟨h1, h2⟩, hp⟩
theorem mpL_keys {es : Array MapEntry} (h : mpL K l es) : ∀ e ∈ es.toList, ∃ k', e.key = K k' := by
 intro e he
 have : (e.key, e.val) ∈ l.map (fun p => (K p.1, p.2)) := by rw [← h]; exact List.mem_map.2 ⟨e, he, rfl⟩
 obtain ⟨p, _, hp⟩ := List.mem_map.1 this
 exact ⟨p.1, (congrArg Prod.fst hp).symm⟩
theorem mpL_at {es : Array MapEntry} (h : mpL K l es) {j : Nat} {e : MapEntry} (he : es.toList[j]? = some e) : ∃ p, l[j]? = some p ∧ e.key = K p.1 ∧ e.val = p.2 := by
 have h1 := congrArg (fun x => x[j]?) h
 simp only [List.getElem?_map, he, Option.map_some] at h1
 cases hl : l[j]? with
 | none => rw [hl] at h1; cases h1
 | some p =>
  rw [hl] at h1
  simp only [Option.map_some, Option.some.injEq, Prod.mk.injEq] at h1
  exact ⟨p, rfl, h1.1, h1.2⟩
theorem mpL_nodup {es : Array MapEntry} {clock : Nat} (h : mpL K l es) (hs : Stamped es clock) : (l.map (·.1)).Nodup := by
 have h1 : es.toList.map (·.key) = l.map (fun p => K p.1) := by
  have := congrArg (List.map Prod.fst) h
  simpa [List.map_map, Function.comp_def] using this
 have h2 := hs.2.2
 rw [h1] at h2
 have h3 : ((l.map (·.1)).map K).Nodup := by simpa [List.map_map, Function.comp_def] using h2
 simp only [List.Nodup, List.pairwise_map] at h3 ⊢
 exact h3.imp fun h e => h (by rw [e])
theorem mkMap {k : Value → World → Prop} (h : St W0 L W) (hk : ∀ r W', St W0 (Eng.mp K r [] :: L) W' → k (.map (some r)) W') : efK P (Instr.makeMap t none) k W := by
 refine ⟨.map (some W.heap.size), W.alloc (.map #[] 0), run_makeMap t W, hk _ _ ?_⟩
 exact (h.alloc (.map #[] 0)).ent (mp_ent (by simp [mpL]) (stamped_empty 0))
variable [DecidableEq κ]
theorem lookup_run [hT : MapT P t kt et] [hK : KeyT P kt K] {z : Value} [hz : TyZ P et z] {a : κ} (c : Bool) (h : St W0 (Eng.mp K r l :: L) W) :
  (Instr.lookup t (.map (some r)) (K a) c).run P W = .ok (if c then .tuple #[(mget l a).getD z, .bool (mget l a).isSome] else (mget l a).getD z) W := by
 obtain ⟨es, clock, h1, h2, h3⟩ := h.mp
 have hb := h3.blk.2
 have hn := mpL_nodup h1 h2
 obtain ⟨i, hi, hz⟩ := hz.ok
 have hzr : (zeroValue et).run P W = .ok z W := by simp [zeroValue, typeInfo, hi, hz]
 rcases hK.find W a es.toList (mpL_keys h1) with ⟨h4, h5⟩ | ⟨j, e0, h4, h5, h6⟩
 ·have e1 : mget l a = none := mget_none.2 fun p hp e => by
   have : (K p.1, p.2) ∈ es.toList.map (fun e => (e.key, e.val)) := by rw [h1]; exact List.mem_map.2 ⟨p, hp, rfl⟩
   obtain ⟨x, hx, he⟩ := List.mem_map.1 this
   exact h5 x hx (by rw [← e]; exact congrArg Prod.fst he)
  rw [e1]
  simp [Instr.lookup, run_underlying hT.ok, MapKept.run_getObj_map hb, hK.check W _ a, h4, hzr, Result.andThen]
 ·obtain ⟨p, hp, hp1, hp2⟩ := mpL_at h1 h5
  have : p.1 = a := hK.inj (by rw [← hp1, h6])
  have e1 : mget l a = some e0.val := by rw [hp2]; subst this; exact mget_at hn hp
  rw [e1]
  simp [Instr.lookup, run_underlying hT.ok, MapKept.run_getObj_map hb, hK.check W _ a, h4, Result.andThen]
theorem lkp [hT : MapT P t kt et] [hK : KeyT P kt K] {z : Value} [hz : TyZ P et z] (a : κ) {k : Value → World → Prop} (h : St W0 L W) [hm : Tk (Eng.mp K r) L l L'] (hk : k ((mget l a).getD z) W) : rdK P (Instr.lookup t (.map (some r)) (K a) false) k W :=
 ⟨_, by rw [lookup_run (a := a) false (h.perm hm.perm)]; rfl, hk⟩
theorem lkpOk [hT : MapT P t kt et] [hK : KeyT P kt K] {z : Value} [hz : TyZ P et z] (a : κ) {k : Value → World → Prop} (h : St W0 L W) [hm : Tk (Eng.mp K r) L l L'] (hk : k (.tuple #[(mget l a).getD z, .bool (mget l a).isSome]) W) : rdK P (Instr.lookup t (.map (some r)) (K a) true) k W :=
 ⟨_, by rw [lookup_run (a := a) true (h.perm hm.perm)]; rfl, hk⟩
theorem mset [hT : MapT P t kt et] [hK : KeyT P kt K] (a : κ) {v : Value} {k : Unit → World → Prop} (h : St W0 L W) [hm : Tk (Eng.mp K r) L l L'] (hk : ∀ W', St W0 (Eng.mp K r (mput l a v) :: L') W' → k () W') : efK P (Instr.mapUpdate t (.map (some r)) (K a) v) k W := by
 obtain ⟨es, clock, h1, h2, h3⟩ := (h.perm hm.perm).mp
 have hb := h3.blk.2
 have hn := mpL_nodup h1 h2
 rcases hK.find W a es.toList (mpL_keys h1) with ⟨h4, h5⟩ | ⟨j, e0, h4, h5, h6⟩
 ·have hne : ∀ p ∈ l, p.1 ≠ a := fun p hp e => by
   have : (K p.1, p.2) ∈ es.toList.map (fun e => (e.key, e.val)) := by rw [h1]; exact List.mem_map.2 ⟨p, hp, rfl⟩
   obtain ⟨x, hx, he⟩ := List.mem_map.1 this
   exact h5 x hx (by rw [← e]; exact congrArg Prod.fst he)
  refine ⟨(), { W with heap := W.heap.setIfInBounds r (.map (es.push ⟨K a, v, clock⟩) (clock + 1)) }, by simp [Instr.mapUpdate, run_underlying hT.ok, MapKept.run_getObj_map hb, hK.check W false a, h4, MapKept.run_setObj_map _ hb, Result.andThen], hk _ ?_⟩
  refine (h3.setBlk (.map (es.push ⟨K a, v, clock⟩) (clock + 1))).ent (mp_ent ?_ (stamped_push h2 h5))
  rw [mput_new hne]
  have h1' : _ = _ := h1
  simp only [mpL, Array.toList_push, List.map_append, h1']
  rfl
 ·obtain ⟨p, hp, hp1, hp2⟩ := mpL_at h1 h5
  have hpa : p.1 = a := hK.inj (by rw [← hp1, h6])
  have hj : es[j]? = some e0 := by simpa using h5
  refine ⟨(), { W with heap := W.heap.setIfInBounds r (.map (es.modify j fun e => { e with key := K a, val := v }) clock) }, by simp [Instr.mapUpdate, run_underlying hT.ok, MapKept.run_getObj_map hb, hK.check W false a, h4, hj, h6, hK.stays W a, MapKept.run_setObj_map _ hb, Result.andThen], hk _ ?_⟩
  refine (h3.setBlk (.map (es.modify j fun e => { e with key := K a, val := v }) clock)).ent (mp_ent ?_ (stamped_modify h2 _ _ (fun _ _ => rfl) (fun e' _ he' => by rw [hj] at he'; cases he'; exact h6.symm)))
  subst hpa
  rw [mput_at hn hp]
  have h1' : _ = _ := h1
  simp only [mpL, Array.toList_modify, modify_eq_set _ _ _ _ h5, List.map_set, h1']
end
def mpiF {κ : Type} (K : κ → Value) (l rem : List (κ × Value)) (cur : Option (κ × Value)) (es : Array MapEntry) (clock : Nat) (seen : Array Nat) : Prop :=
 mpL K l es ∧ Stamped es clock ∧ (leftOf es seen).toList.map (fun e => (e.key, e.val)) = rem.map (fun p => (K p.1, p.2)) ∧ ∀ p, cur = some p → ∃ e ∈ es.toList, ∃ seen' : Array Nat, seen = seen'.push e.born ∧ e.key = K p.1 ∧ e.val = p.2
def mpi {κ : Type} (K : κ → Value) (r b : Nat) (l rem : List (κ × Value)) (cur : Option (κ × Value)) : Asn := fun h => ∃ x : Array MapEntry × Nat × Array Nat,
 mpiF K l rem cur x.1 x.2.1 x.2.2 ∧ sep [blk r (.map x.1 x.2.1), blk b (.mapIter (some r) x.2.1 x.2.2 x.2.1)] h
class Mi (b : Nat) (L : List Asn) {κ : outParam Type} (K : outParam (κ → Value)) (r : outParam Nat) (l rem : outParam (List (κ × Value))) (cur : outParam (Option (κ × Value))) (L' : outParam (List Asn)) : Prop where
 perm : L.Perm (mpi K r b l rem cur :: L')
instance (priority := high) Mi.here (b : Nat) {κ : Type} (K : κ → Value) (r : Nat) (l rem : List (κ × Value)) (cur : Option (κ × Value)) (L : List Asn) : Mi b (mpi K r b l rem cur :: L) K r l rem cur L := ⟨.refl _⟩
instance Mi.there (b : Nat) (x : Asn) {κ : Type} (K : κ → Value) (r : Nat) (l rem : List (κ × Value)) (cur : Option (κ × Value)) (L L' : List Asn) [h : Mi b L K r l rem cur L'] : Mi b (x :: L) K r l rem cur (x :: L') := ⟨(h.perm.cons x).trans (List.Perm.swap _ _ _)⟩
section
variable {κ : Type} {K : κ → Value} {P : Program} {W0 W W' : World} {L L' : List Asn} {t kt et : TypeId} {r b : Nat} {l rem : List (κ × Value)} {cur : Option (κ × Value)}
theorem St.mpi (h : St W0 (Eng.mpi K r b l rem cur :: L) W) : ∃ es clock seen, mpiF K l rem cur es clock seen ∧ St W0 (Eng.blk r (.map es clock) :: Eng.blk b (.mapIter (some r) clock seen clock) :: L) W := by
 obtain ⟨⟨es, clock, seen⟩, h⟩ := h.ex
 obtain ⟨h1, h⟩ := h.fact
 exact ⟨es, clock, seen, h1, h.flat⟩
end
end Go.Eng
namespace Go.Proofs.YtkjhccpanedccaaGreat
set_option linter.unusedVariables false
set_option linter.unusedSimpArgs false
open Go.Eng
instance : MapT PR T_m_api_Dot_bool T_api_Dot T_bool := ⟨by kernel_rfl⟩
instance : MapT PR T_m_api_Dot_exec_command T_api_Dot T_exec_command := ⟨by kernel_rfl⟩
instance : MapT PR T_m_api_Dot_int T_api_Dot T_int := ⟨by kernel_rfl⟩
end Go.Proofs.YtkjhccpanedccaaGreat
namespace Go.Eng
set_option linter.unusedVariables false
set_option linter.unusedSimpArgs false
open Go Go.RowKit
def many {β : Type} (F : β → Asn) (l : List β) : Asn := sep (l.map F)
section
variable {κ β γ : Type} [DecidableEq κ] {F : β → Asn} {L : List Asn}
theorem mget_mput (l : List (κ × β)) (a b : κ) (v : β) : mget (mput l a v) b = if a = b then some v else mget l b := by
 induction l with
 | nil => simp [mput, mget]
 | cons p l ih =>
  by_cases h : p.1 = a
  ·subst h
   by_cases hb : p.1 = b
   ·simp [mput, mget, hb]
   ·simp [mput, mget, hb]
  ·by_cases hb : p.1 = b
   ·subst hb
    simp [mput, mget, h, Ne.symm h]
   ·simp [mput, mget, h, hb, ih]
theorem many_cons (b : β) (l : List β) : ent (many F (b :: l) :: L) (F b :: many F l :: L) := (ent.flat (F b :: l.map F) L).trans (ent.cons _ (ent.pack _ _))
theorem many_uncons (b : β) (l : List β) : ent (F b :: many F l :: L) (many F (b :: l) :: L) := (ent.cons _ (ent.flat (l.map F) L)).trans (ent.pack (F b :: l.map F) L)
theorem many_nil : ent L (many F ([] : List β) :: L) := ent.emp fun _ => rfl
theorem many_perm {l l' : List β} (h : l.Perm l') : ent (many F l :: L) (many F l' :: L) := ent.weak fun _ hp => sep_perm (h.map F) hp
end
structure BSl where
 a : Option Addr
 c : Nat
 bs : List UInt8
abbrev BSl.v (x : BSl) : Value := .slice x.a x.bs.length x.c
end Go.Eng
namespace Go.Eng
set_option linter.unusedVariables false
set_option linter.unusedSimpArgs false
open Go Go.RowKit
section
variable {P : Program} {W0 W : World} {L : List Asn} {e : TypeId}
theorem bs_run {t : TypeId} {sz by' : Nat} {z : Value} [ht : TyS P t e sz by' z] {n : Nat} {ps : List (Nat × Value)} {cs : List Value} (hn : n * sz ≤ 16777216) (hn0 : n * sz ≠ 0)
  (hc : fillL (fun i => some (i * sz, sz)) ((List.range (n * sz)).map fun i => ((vcells z)[i % (vcells z).length]?).getD undef) ps = some cs) :
  (Instr.buildSlice t n ps.toArray).run P W = .ok (.slice (some ⟨W.heap.size, 0, none⟩) n n) (W.alloc (.cells cs.toArray e)) := by
 obtain ⟨⟨i, h1, h2, h3, h4, h5⟩, hzz⟩ := ht.ok
 subst h3
 rw [← vcells_eq] at hc
 have hz : z.cells.size = i.size → ((List.range (n * i.size)).map fun j => (z.cells.toList[j % z.cells.toList.length]?).getD undef).toArray = (Array.range (n * i.size)).map (z.cells[· % z.cells.size]!) := by
  intro hzs
  apply Array.ext_getElem?
  intro j
  simp only [List.getElem?_toArray, List.getElem?_map, Array.getElem?_map, Array.length_toList]
  by_cases hj : j < n * i.size
  ·have hpos : 0 < z.cells.size := by rw [hzs]; exact Nat.pos_of_ne_zero fun h => by rw [h] at hj; simp at hj
   have hm : j % z.cells.size < z.cells.size := Nat.mod_lt _ hpos
   simp [hj, hm]
  ·simp [hj]
 have hf := fillL_run _ _ _ _ hc
 rw [hz hzz] at hf
 simp only [Instr.buildSlice, Sem.run_bind, run_underlying h1, Result.andThen_ok, run_sizeOf' h2]
 rw [if_neg (by omega), if_neg hn0]
 simp only [pure_bind, Sem.run_bind, run_zeroValue' h2 h5, Result.andThen_ok, Sem.run_pure, hf]
 rfl
end
end Go.Eng
namespace Go.Eng
set_option linter.unusedVariables false
set_option linter.unusedSimpArgs false
open Go Go.RowKit
section
variable {α : Type} {A : Ly α} {P : Program} {W0 W W' : World} {L L' : List Asn} {e : TypeId} {a : Option Addr} {c : Nat} {l : List α}
theorem arr_pre (i : Nat) : ∀ p, arr A e a c l p → arr A e a c (l.take i) p := by
 rintro p ⟨h5, h6, h7⟩
 refine ⟨by simp; omega, h6, ?_⟩
 rcases h7 with ⟨rfl, rfl, h7⟩ | ⟨g, o, cur, rfl, h8, h9, h10⟩
 ·exact .inl ⟨rfl, rfl, h7⟩
 ·refine .inr ⟨g, o, cur, rfl, h8, ?_, h10⟩
  rw [← Ly.rows_take, ← h9, List.take_take, List.length_take, Nat.min_def, Nat.min_def]
  by_cases h : i ≤ l.length
  ·rw [if_pos h, if_pos (Nat.mul_le_mul_right _ h)]
  ·rw [if_neg h]
   by_cases h' : i * A.sz ≤ l.length * A.sz
   ·rw [if_pos h', Nat.le_antisymm h' (Nat.mul_le_mul_right _ (by omega))]
   ·rw [if_neg h']
theorem clrA {t ty : TypeId} {sz by' i n : Nat} {z : Value} [ht : TyS P t e sz by' z] {a' : Option Addr} {c' : Nat} {k : Value → World → Prop} (h : St W0 L W) [ho : Own a L A e c l L'] (hs : A.sz = sz) (hz1 : (vcells z).all oneC = true) (hi : i ≤ l.length)
  (ha : a' = if c = i then a else a.map (·.add (i * sz))) (hn : n = l.length - i) (hk : ∀ W', St W0 (arr A e a c (l.take i) :: L') W' → k (.tuple #[]) W') : efK P (Builtin.clear_ #[t] ty #[.slice a' n c']) k W := by
 subst hs
 obtain ⟨⟨x, h1, h2, h3, h4, h5⟩, hzz⟩ := ht.ok
 have h := h.took (a := a)
 have hf := h.arrFacts
 by_cases hn0 : n = 0
 ·subst hn0
  refine ⟨_, W, ?_, hk W (h.weak (arr_pre i))⟩
  simp only [Builtin.clear_, List.getElem?_toArray, List.getElem?_cons_zero, Sem.run_bind, run_underlying h1, Result.andThen_ok]
  cases a' <;> rfl
 ·have ha0 : a ≠ none := fun e => by have := hf.2.2.1 e; omega
  obtain ⟨g, o, cur, rfl, h6, h7, h8⟩ := h.arrCells ha0
  rw [if_neg (by omega)] at ha
  simp only [Option.map_some, add_none] at ha
  subst ha
  have hle : l.length * A.sz ≤ c * A.sz := Nat.mul_le_mul_right _ hf.1
  have hil : i * A.sz + (l.length - i) * A.sz = l.length * A.sz := by rw [← Nat.add_mul]; congr 1; omega
  have hzl : (Builtin.zeroCells z.cells n).toList.length = n * A.sz := by rw [zeroCells_len, hzz]
  have hone : (Builtin.zeroCells z.cells n).toList.all oneC = true := by
   rw [List.all_eq_true]
   intro u hu
   simp only [Builtin.zeroCells, Array.toList_map, List.mem_map, Array.toList_range, List.mem_range] at hu
   obtain ⟨j, hj, rfl⟩ := hu
   have hpos := A.pos
   have hm : j % z.cells.size < z.cells.size := Nat.mod_lt _ (by rw [hzz]; exact hpos)
   rw [← vcells_eq] at hz1
   have := List.all_eq_true.1 hz1 z.cells[j % z.cells.size]! (by simp [hm])
   exact this
  obtain ⟨W1, hr, hs'⟩ := storeCells_over (P := P) (off := o + i * A.sz) h8 hone (by rw [hzl, hn]; omega)
  refine ⟨_, W1, ?_, hk W1 (hs'.ent (arr_of_cells (by simp; omega) hf.2.1 (by rw [List.length_append, List.length_append, hzl]; simp; rw [hn]; omega) ?_))⟩
  ·simp only [Builtin.clear_, List.getElem?_toArray, List.getElem?_cons_zero, Sem.run_bind, run_underlying h1, Result.andThen_ok]
   have hz' := run_zeroValue' (P := P) (w := W) h2 h5
   obtain ⟨m, rfl⟩ : ∃ m, n = m + 1 := ⟨n - 1, by omega⟩
   simp only [hz', Result.andThen_ok, hr, Sem.run_bind]
   rfl
  ·rw [List.append_assoc, List.drop_append_of_le_length (by simp; omega), List.drop_take, Nat.add_sub_cancel_left, List.length_take, Nat.min_eq_left hi,
    List.take_append_of_le_length (by simp; omega), List.take_take, Nat.min_self, ← Ly.rows_take, ← h7, List.take_take, Nat.min_eq_left (by omega)]
theorem min2i {k : IntKind} {a b : Int} : foldP min2P [.int k a, .int k b] = some (.int k (if b < a then b else a)) := rfl
theorem max2i {k : IntKind} {a b : Int} : foldP max2P [.int k a, .int k b] = some (.int k (if a < b then b else a)) := rfl
def Ly.val (A : Ly α) (agg : Bool) (x : α) : Value := if agg then .agg (A.row x).toArray else (A.row x).headD undef
theorem Ly.val_agg (x : α) : A.val true x = .agg (A.row x).toArray := rfl
theorem lsub_self : ∀ (l : List Value), lsub l 0 l.length = l
 | [] => rfl
 | v :: l => by simp [lsub, lsub_self l]
theorem getL_val {agg : Bool} {sz : Nat} (hs : A.sz = sz) (h1 : agg = false → sz = 1) (x : α) : getL agg (A.row x) 0 sz = some (A.val agg x) := by
 subst hs
 cases agg with
 | true => rw [Ly.val_agg, getL, ← A.len x, lsub_self]
 | false =>
  have hl := A.len x
  rw [h1 rfl] at hl
  match h : A.row x, hl with
  | [v], _ => simp [getL, lget, Ly.val, h]
theorem val_cells {agg : Bool} {sz : Nat} (hs : A.sz = sz) (h1 : agg = false → sz = 1) (x : α) : vcells (A.val agg x) = A.row x := by
 subst hs
 cases agg with
 | true => rw [Ly.val_agg, vcells_agg]
 | false =>
  have hl := A.len x
  have ho := A.one x
  rw [h1 rfl] at hl
  match h : A.row x, hl, ho with
  | [v], _, ho =>
   have h2 : A.val false x = v := by simp [Ly.val, h]
   rw [h2]
   cases v <;> first | rfl | (simp [oneC] at ho)
theorem newV (x : α) {t : TypeId} {agg : Bool} {sz : Nat} {z : Value} [ht : TyI P t agg sz] [hz : TyZ P t z] {k : Value → World → Prop} (h : St W0 L W) (hs : A.sz = sz) (h1 : agg = false → sz = 1) (hzl : (vcells z).length = sz)
  (hk : ∀ b W', St W0 (cells b (A.row x) t :: L) W' → k (.pointer (some ⟨b, 0, none⟩)) W') :
  efK P (Instr.alloc t true (.tuple #[])) (fun v W => efK P (Instr.storeAt t v (A.val agg x)) (fun _ W => k v W) W) W := by
 refine al h fun b W1 h => ?_
 have e : stL (vcells z) 0 (vcells (A.val agg x)) = A.row x := by
  rw [val_cells hs h1, stL_eq _ _ _ (by rw [A.len]; omega), A.len, Nat.zero_add, List.drop_eq_nil_of_le (by omega)]
  simp
 refine sto (off := 0) h (by rw [val_cells hs h1, A.len, hs]) (by omega) (by rw [val_cells hs h1]; exact A.one _) fun W2 h => ?_
 rw [e] at h
 exact hk b W2 h
theorem ldV (x : α) {t : TypeId} {agg : Bool} {sz b : Nat} {T : TypeId} [ht : TyI P t agg sz] {k : Value → World → Prop} (h : St W0 L W) [hc : Ck b L (A.row x) T L'] (hs : A.sz = sz) (h1 : agg = false → sz = 1) (hk : k (A.val agg x) W) :
  rdK P (Instr.loadAt t (.pointer (some ⟨b, 0, none⟩))) k W := ld h (getL_val hs h1 x) (fun _ => by rw [A.len]; omega) hk
theorem slc_pre {sz n i : Nat} {k : IntKind} {K : Value → Prop} (h : St W0 (arr A e a c l :: L) W) (hi : i ≤ c) (hk : K (.slice a i c)) : okF (slcS sz (.slice a n c) none (some (.int k (i : Int))) none) K := by
 refine okF_i (slcS_eq (bnd_nat hi) bnd_none) ?_
 have hf := h.arrFacts
 by_cases hc : c = 0
 ·rw [if_pos hc]; simpa using hk
 ·obtain ⟨g, o, rfl⟩ := hf.2.2.2 (by omega)
  rw [if_neg hc]
  simpa [add_none] using hk
end
end Go.Eng
namespace Go.Eng
set_option linter.unusedVariables false
set_option linter.unusedSimpArgs false
open Go Go.RowKit
section
variable {P : Program} {W0 W : World} {L L' : List Asn}
theorem KeyT.agg {t : TypeId} {d : TypeDesc} {κ : Type} {K : κ → Value} [DecidableEq κ] (cs : κ → List Value) {ks : List Leaf} [EqS P t ks] (hK : ∀ k, K k = .agg (cs k).toArray) (hd : P.underlying t = some d)
  (hs : ∀ a b, Instr.sameNow d a b = none) (heq : ∀ a b, eqC ks (cs a) (cs b) = some (decide (a = b))) (hst : ∀ k, Instr.sameBits 10000 (K k) (K k) = true)
  (hchk : ∀ (w : World) (em : Bool) (k : κ), (Instr.checkKey em 10000 t (K k)).run P w = .ok () w) : KeyT P t K where
 inj {a b} h := by
  rw [hK, hK] at h
  have h1 : cs a = cs b := by simpa using h
  have h2 := heq a b
  rw [h1, heq b b] at h2
  simpa using h2
 check := hchk
 find w k es hes := by
  have hasking : ∀ (es : List MapEntry) (i : Nat), (∀ e ∈ es, ∃ k', e.key = K k') →
    ((Instr.findAsking t (K k) es i).run P w = .ok none w ∧ ∀ e ∈ es, e.key ≠ K k) ∨ ∃ j e, (Instr.findAsking t (K k) es i).run P w = .ok (some (i + j, e.val)) w ∧ es[j]? = some e ∧ e.key = K k := by
   intro es
   induction es with
   | nil => intro i _; exact .inl ⟨rfl, by simp⟩
   | cons e es ih =>
    intro i hes
    obtain ⟨k', hk'⟩ := hes e (by simp)
    have he := (equal_run (P := P) (w := w))
    have hq : (Op.equal t (K k) e.key).run P w = .ok (decide (k = k')) w := by
     have h1 := (aggEq_run (P := P) (w := w) (t := t) (heq k k')).1
     rw [hk', hK k, hK k']
     obtain ⟨u, g1, g0, g2, g3⟩ := (inferInstance : EqS P t ks).ok
     exact equal_run (P := P) (w := w) 8 9992 t ks _ _ _ _ g2 g1 (heq k k') (.agg (cs k).toArray) (.agg (cs k').toArray) (fun _ => ⟨rfl, rfl⟩) (fun h => by rw [g0] at h; cases h)
    simp only [Instr.findAsking, Sem.run_bind, hq, Result.andThen_ok]
    by_cases hkk : k = k'
    ·subst hkk
     rw [decide_eq_true rfl]
     exact .inr ⟨0, e, rfl, rfl, hk'⟩
    ·rw [decide_eq_false hkk]
     rcases ih (i + 1) (fun x hx => hes x (by simp [hx])) with ⟨h1, h2⟩ | ⟨j, e', h1, h2, h3⟩
     ·refine .inl ⟨h1, fun x hx => ?_⟩
      rcases List.mem_cons.1 hx with rfl | hx
      ·rw [hk']
       intro h
       rw [hK, hK] at h
       have h1 : cs k' = cs k := by simpa using h
       have h2 := heq k k'
       rw [h1, heq k k] at h2
       exact hkk (by simpa using h2)
      ·exact h2 x hx
     ·refine .inr ⟨j + 1, e', ?_, by simpa using h2, h3⟩
      simpa [Nat.add_assoc, Nat.add_comm 1 j] using h1
  have hrun : ∀ es : List MapEntry, (Instr.findKey t (K k) es).run P w = (Instr.findAsking t (K k) es).run P w := by
   intro es
   simp only [Instr.findKey, Sem.run_bind, run_underlying hd, Result.andThen_ok]
   cases es with
   | nil => rfl
   | cons e es => simp only [Instr.findNow, hs]
  rw [hrun]
  rcases hasking es 0 hes with h | ⟨j, e, h1, h2, h3⟩
  ·exact .inl h
  ·exact .inr ⟨j, e, by simpa using h1, h2, h3⟩
 stays w k := by simp only [Instr.keyThatStays, hst, if_true, Sem.run_pure]
def PH.le (a b : PH) : Prop := ∀ x o, a x = some o → b x = some o
def entd (L L' : List Asn) : Prop := ∀ p, sep L p → ∃ p', PH.le p' p ∧ sep L' p'
theorem entd.refl (L : List Asn) : entd L L := fun p h => ⟨p, fun _ _ h => h, h⟩
theorem entd.trans {L L' L'' : List Asn} (h : entd L L') (h' : entd L' L'') : entd L L'' := fun p hp => by
 obtain ⟨q, h1, h2⟩ := h p hp
 obtain ⟨r, h3, h4⟩ := h' q h2
 exact ⟨r, fun x o hx => h1 x o (h3 x o hx), h4⟩
theorem ent.d {L L' : List Asn} (h : ent L L') : entd L L' := fun p hp => ⟨p, fun _ _ h => h, h p hp⟩
theorem entd.drop (x : Asn) (L : List Asn) : entd (x :: L) L := by
 rintro p ⟨h1, h2, hd, rfl, ha, hl⟩
 refine ⟨h2, fun y o hy => ?_, hl⟩
 rcases hd y with h | h
 ·simp [PH.join, h, hy]
 ·rw [h] at hy; cases hy
theorem entd.cons (x : Asn) {L L' : List Asn} (h : entd L L') : entd (x :: L) (x :: L') := by
 rintro p ⟨h1, h2, hd, rfl, ha, hl⟩
 obtain ⟨q, hq, hs⟩ := h h2 hl
 refine ⟨PH.join h1 q, fun y o hy => ?_, h1, q, fun y => ?_, rfl, ha, hs⟩
 ·simp only [PH.join] at hy ⊢
  cases h1y : h1 y with
  | some u => rw [h1y] at hy; simpa using hy
  | none => rw [h1y] at hy; simp only [Option.none_or] at hy ⊢; exact hq y o hy
 ·rcases hd y with h | h
  ·exact .inl h
  ·cases hqy : q y with
   | none => exact .inr rfl
   | some u => rw [hq y u hqy] at h; cases h
theorem St.entd {L L' : List Asn} (h : St W0 L W) (he : Eng.entd L L') : St W0 L' W := by
 obtain ⟨hb, p, hs, ho⟩ := h
 obtain ⟨q, hq, hs'⟩ := he p hs
 exact ⟨hb, q, hs', fun b o hbo => ho b o (hq b o hbo)⟩
class Pk (x : Asn) (L : List Asn) (L' : outParam (List Asn)) : Prop where
 perm : L.Perm (x :: L')
instance (priority := high) Pk.here (x : Asn) (L : List Asn) : Pk x (x :: L) L := ⟨.refl _⟩
instance Pk.there (x y : Asn) (L L' : List Asn) [h : Pk x L L'] : Pk x (y :: L) (y :: L') := ⟨(h.perm.cons y).trans (List.Perm.swap _ _ _)⟩
class Wk (L L' : List Asn) : Prop where
 ok : Eng.entd L L'
instance (priority := high) Wk.refl (L : List Asn) : Wk L L := ⟨entd.refl L⟩
instance (priority := 900) Wk.pick (x : Asn) (L L1 L' : List Asn) [h : Pk x L L1] [h' : Wk L1 L'] : Wk L (x :: L') := ⟨(ent.perm h.perm).d.trans (h'.ok.cons x)⟩
instance (priority := low) Wk.drop (x : Asn) (L L' : List Asn) [h : Wk L L'] : Wk (x :: L) L' := ⟨(entd.drop x L).trans h.ok⟩
instance (priority := 950) Wk.nil (L : List Asn) : Wk L [] := ⟨fun p _ => ⟨fun _ => none, ⟨fun _ _ h => (nomatch h), fun _ => rfl⟩⟩⟩
theorem St.wk {L L' : List Asn} (h : St W0 L W) [hw : Wk L L'] : St W0 L' W := h.entd hw.ok
end
structure P7 (α : Type) where
 x0 : α
 x1 : α
 x2 : α
 x3 : α
 x4 : α
 x5 : α
 x6 : α
 deriving DecidableEq
namespace P7
variable {α β γ : Type}
abbrev of (f : Nat → α) : P7 α := ⟨f 0, f 1, f 2, f 3, f 4, f 5, f 6⟩
@[reducible] def get (p : P7 α) : Nat → α
 | 0 => p.x0
 | 1 => p.x1
 | 2 => p.x2
 | 3 => p.x3
 | 4 => p.x4
 | 5 => p.x5
 | _ => p.x6
def map (f : α → β) (p : P7 α) : P7 β := ⟨f p.x0, f p.x1, f p.x2, f p.x3, f p.x4, f p.x5, f p.x6⟩
def zip (f : α → β → γ) (p : P7 α) (q : P7 β) : P7 γ := ⟨f p.x0 q.x0, f p.x1 q.x1, f p.x2 q.x2, f p.x3 q.x3, f p.x4 q.x4, f p.x5 q.x5, f p.x6 q.x6⟩
def list (p : P7 α) : List α := [p.x0, p.x1, p.x2, p.x3, p.x4, p.x5, p.x6]
abbrev set (p : P7 α) (i : Nat) (x : α) : P7 α := of fun j => if j = i then x else p.get j
abbrev all (a : α) : P7 α := ⟨a, a, a, a, a, a, a⟩
theorem cases7 {i : Nat} (h : i < 7) : i = 0 ∨ i = 1 ∨ i = 2 ∨ i = 3 ∨ i = 4 ∨ i = 5 ∨ i = 6 := by omega
theorem get_of (f : Nat → α) {i : Nat} (h : i < 7) : (of f).get i = f i := by rcases cases7 h with rfl | rfl | rfl | rfl | rfl | rfl | rfl <;> rfl
theorem of_get (p : P7 α) : of p.get = p := rfl
theorem ext7 {p q : P7 α} (h : ∀ i, i < 7 → p.get i = q.get i) : p = q := by
 rw [← of_get p, ← of_get q]
 simp only [of, h 0 (by omega), h 1 (by omega), h 2 (by omega), h 3 (by omega), h 4 (by omega), h 5 (by omega), h 6 (by omega)]
theorem get_map (f : α → β) (p : P7 α) (i : Nat) : (p.map f).get i = f (p.get i) := by
 unfold get; split <;> rfl
theorem get_zip (f : α → β → γ) (p : P7 α) (q : P7 β) (i : Nat) : (p.zip f q).get i = f (p.get i) (q.get i) := by
 unfold get; split <;> rfl
theorem get_set (p : P7 α) (i j : Nat) (x : α) (hj : j < 7) : (p.set i x).get j = if j = i then x else p.get j := by rw [set, get_of _ hj]
theorem get_all (a : α) (i : Nat) : (all a).get i = a := by unfold get; split <;> rfl
theorem map_set (f : α → β) (p : P7 α) (i : Nat) (x : α) : (p.set i x).map f = (p.map f).set i (f x) := by
 refine ext7 fun j hj => ?_
 rw [get_map, get_set _ _ _ _ hj, get_set _ _ _ _ hj, get_map]
 split <;> rfl
theorem map_map (f : α → β) (g : β → γ) (p : P7 α) : (p.map f).map g = p.map (fun x => g (f x)) := rfl
end P7
end Go.Eng
namespace Go.Eng
set_option linter.unusedVariables false
set_option linter.unusedSimpArgs false
end Go.Eng
namespace Go.Eng
set_option linter.unusedVariables false
set_option linter.unusedSimpArgs false
open Go
theorem i64w (n : Int) : IntKind.i64.wrap n = (n + 9223372036854775808) % 18446744073709551616 - 9223372036854775808 := by rw [IntKind.wrap_i64]
end Go.Eng
namespace Go.Proofs.YtkjhccpanedccaaGreat
set_option linter.unusedVariables false
set_option linter.unusedSimpArgs false
open Go.Eng
def S.vec_Good.l1 (R : Value → World → Prop) (K1 : List Value → World → Prop) (x5 x6 : Value) (W : World) : Prop :=
 okF (binP .lss x6 (.int .i64 7)) fun v7 =>
 ifK v7 (
 okF (idxV 7 false 1 x5 x6) fun v8 =>
 okF (binP .lss v8 (.int .i64 0)) fun v10 =>
 gdK (wantd v10 false) (fun k W => k v8 W) (fun v12 W =>
 gdK (wantd v10 false) (fun k W => okF (binP .gtr v12 (.int .i64 1099511627776)) fun v => k v W) (fun v13 W =>
 okF (pickP v10 (.bool true) v13) fun v14 =>
 ifK v14 (
 R (.bool false) W) (
 okF (binP .add x6 (.int .i64 1)) fun v15 =>
 K1 [x5, v15] W)) W) W) (
 R (.bool true) W)
def S.vec_Good.body (R : Value → World → Prop) (v0 : Value) (W : World) : Prop :=
 efK PR (Instr.box T_vec_Vec v0) (fun v1 W =>
 rdK PR (Instr.loadAt T_vec_Vec v1) (fun v5 W =>
 loopK (fun K1 s W => S.vec_Good.l1 R K1 (nthv s 0) (nthv s 1) W) [v5, (.int .i64 0)] W) W) W
def S.vec_Good.hint : Hint := (.two .nil (.two (.two .nil (.at [5, 6] (.two .nil (.two (.two .nil .nil) (.two (.two .nil (.two .nil (.two (.two .nil .nil) .nil))) .nil))) .nil)) (.two .nil .nil)))
theorem S.vec_Good.ok (R : Value → World → Prop) (v0 : Value) (W : World) : bodyK PR CB Tryz.f43 S.vec_Good.hint [v0] R W = S.vec_Good.body R v0 W := by kernel_rfl
theorem S.vec_Good.fn : PR.funcs[F_vec_Good]? = some Tryz.f43 := by kernel_rfl
theorem S.vec_Good.call {R : Value → World → Prop} {v0 : Value} {W : World} (h : S.vec_Good.body R v0 W) : callK PR F_vec_Good [v0] R W :=
 callK_of_body (g := F_vec_Good) (fn := Tryz.f43) (args := [v0]) (R := R) (w := W) mixed CBok S.vec_Good.fn S.vec_Good.hint (by rw [S.vec_Good.ok]; exact h)
def S.vec_Merge.j1 (R : Value → World → Prop) (x2 x4 : Value) (W : World) : Prop :=
 rdK PR (Instr.loadAt T_vec_Vec x2) (fun v19 W =>
 efK PR (Instr.storeAt T_vec_Vec x4 v19) (fun _ W =>
 rdK PR (Instr.loadAt T_vec_Vec x4) (fun r0 W =>
 R r0 W) W) W) W
def S.vec_Merge.l1 (J1 : List Value → World → Prop) (K1 : List Value → World → Prop) (x2 x3 x4 x6 : Value) (W : World) : Prop :=
 okF (binP .lss x6 (.int .i64 7)) fun v7 =>
 ifK v7 (
 okF (idxA 7 1 x2 x6) fun v11 =>
 rdK PR (Instr.loadAt T_int64 v11) (fun v12 W =>
 okF (idxA 7 1 x3 x6) fun v14 =>
 rdK PR (Instr.loadAt T_int64 v14) (fun v15 W =>
 okF (foldP max2P [v12, v15]) fun v16 =>
 okF (idxA 7 1 x2 x6) fun v17 =>
 efK PR (Instr.storeAt T_int64 v17 v16) (fun _ W =>
 okF (binP .add x6 (.int .i64 1)) fun v18 =>
 K1 [x2, x3, x4, v18] W) W) W) (tick W)) (
 J1 [x2, x4] W)
def S.vec_Merge.body (R : Value → World → Prop) (v0 v1 : Value) (W : World) : Prop :=
 efK PR (Instr.box T_vec_Vec v0) (fun v2 W =>
 efK PR (Instr.box T_vec_Vec v1) (fun v3 W =>
 efK PR (Instr.alloc T_vec_Vec true (.tuple #[])) (fun v4 W =>
 joinK (fun s W => S.vec_Merge.j1 R (nthv s 0) (nthv s 1) W) (fun J1 =>
 loopK (fun K1 s W => S.vec_Merge.l1 J1 K1 (nthv s 0) (nthv s 1) (nthv s 2) (nthv s 3) W) [v2, v3, v4, (.int .i64 0)] W)) W) W) W
def S.vec_Merge.hint : Hint := (.two .nil (.at [2, 4] (.two .nil (.at [2, 3, 4, 6] (.two .nil (.two (.two .nil .nil) (.two (.two .nil .nil) .nil))) .nil)) (.two .nil .nil)))
theorem S.vec_Merge.ok (R : Value → World → Prop) (v0 v1 : Value) (W : World) : bodyK PR CB Tryz.f47 S.vec_Merge.hint [v0, v1] R W = S.vec_Merge.body R v0 v1 W := by kernel_rfl
theorem S.vec_Merge.fn : PR.funcs[F_vec_Merge]? = some Tryz.f47 := by kernel_rfl
theorem S.vec_Merge.call {R : Value → World → Prop} {v0 v1 : Value} {W : World} (h : S.vec_Merge.body R v0 v1 W) : callK PR F_vec_Merge [v0, v1] R W :=
 callK_of_body (g := F_vec_Merge) (fn := Tryz.f47) (args := [v0, v1]) (R := R) (w := W) mixed CBok S.vec_Merge.fn S.vec_Merge.hint (by rw [S.vec_Merge.ok]; exact h)
def S.vec_Le.l1 (R : Value → World → Prop) (K1 : List Value → World → Prop) (x2 x3 x6 : Value) (W : World) : Prop :=
 okF (binP .lss x6 (.int .i64 7)) fun v7 =>
 ifK v7 (
 okF (idxA 7 1 x2 x6) fun v10 =>
 rdK PR (Instr.loadAt T_int64 v10) (fun v11 W =>
 okF (idxA 7 1 x3 x6) fun v13 =>
 rdK PR (Instr.loadAt T_int64 v13) (fun v14 W =>
 okF (binP .gtr v11 v14) fun v15 =>
 ifK v15 (
 R (.bool false) W) (
 okF (binP .add x6 (.int .i64 1)) fun v16 =>
 K1 [x2, x3, v16] W)) W) (tick W)) (
 R (.bool true) W)
def S.vec_Le.body (R : Value → World → Prop) (v0 v1 : Value) (W : World) : Prop :=
 efK PR (Instr.box T_vec_Vec v0) (fun v2 W =>
 efK PR (Instr.box T_vec_Vec v1) (fun v3 W =>
 loopK (fun K1 s W => S.vec_Le.l1 R K1 (nthv s 0) (nthv s 1) (nthv s 2) W) [v2, v3, (.int .i64 0)] W) W) W
def S.vec_Le.hint : Hint := (.two .nil (.two (.two .nil (.at [2, 3, 6] (.two .nil (.two (.two .nil .nil) (.two (.two .nil (.two .nil (.two (.two .nil .nil) .nil))) .nil))) .nil)) (.two .nil .nil)))
theorem S.vec_Le.ok (R : Value → World → Prop) (v0 v1 : Value) (W : World) : bodyK PR CB Tryz.f48 S.vec_Le.hint [v0, v1] R W = S.vec_Le.body R v0 v1 W := by kernel_rfl
theorem S.vec_Le.fn : PR.funcs[F_vec_Le]? = some Tryz.f48 := by kernel_rfl
theorem S.vec_Le.call {R : Value → World → Prop} {v0 v1 : Value} {W : World} (h : S.vec_Le.body R v0 v1 W) : callK PR F_vec_Le [v0, v1] R W :=
 callK_of_body (g := F_vec_Le) (fn := Tryz.f48) (args := [v0, v1]) (R := R) (w := W) mixed CBok S.vec_Le.fn S.vec_Le.hint (by rw [S.vec_Le.ok]; exact h)
end Go.Proofs.YtkjhccpanedccaaGreat
namespace Go.Proofs.YtkjhccpanedccaaGreat
set_option linter.unusedVariables false
set_option linter.unusedSimpArgs false
open Go Go.Eng
abbrev KD : Dot → Value := fun d => .agg #[.int .i64 d.rep, .int .i64 d.n]
set_option maxRecDepth 100000 in
instance keyDot : KeyT PR T_api_Dot KD := KeyT.agg (cs := fun d => [.int .i64 d.rep, .int .i64 d.n]) (fun _ => rfl) (d := (PR.underlying T_api_Dot).getD .bool) (by kernel_rfl) (fun a b => rfl) (fun a b => by
  cases a; cases b
  simp only [eqC, eq1, if_true, Bool.and_true, Dot.mk.injEq]
  congr 1
  rw [Bool.eq_iff_iff]
  simp) (fun k => by simp [KD, Instr.sameBits]) (fun w em k => by kernel_rfl)
def imax (a b : Int) : Int := if a < b then b else a
def vmerge (a b : P7 Int) : P7 Int := a.zip imax b
def goodV (v : P7 Int) : Bool := v.list.all fun n => decide (0 ≤ n ∧ n ≤ 1099511627776)
def leV (a b : P7 Int) : Bool := (List.range 7).all fun i => decide (a.get i ≤ b.get i)
section
variable {W0 W : World} {L L' : List Asn}
theorem idxV7i {x : P7 Int} {i : Nat} (hi : i < 7) : idxV 7 false 1 (.agg #[.int .i64 x.x0, .int .i64 x.x1, .int .i64 x.x2, .int .i64 x.x3, .int .i64 x.x4, .int .i64 x.x5, .int .i64 x.x6]) (.int .i64 (i : Int)) = some (.int .i64 (x.get i)) := by
 rcases P7.cases7 hi with rfl | rfl | rfl | rfl | rfl | rfl | rfl <;> rfl
theorem getL7 {x : P7 Int} {i : Nat} (hi : i < 7) : getL false [.int .i64 x.x0, .int .i64 x.x1, .int .i64 x.x2, .int .i64 x.x3, .int .i64 x.x4, .int .i64 x.x5, .int .i64 x.x6] i 1 = some (.int .i64 (x.get i)) := by
 rcases P7.cases7 hi with rfl | rfl | rfl | rfl | rfl | rfl | rfl <;> rfl
theorem idxA7 {z i : Nat} (hi : i < 7) : idxA 7 1 (.pointer (some ⟨z, 0, none⟩)) (.int .i64 (i : Int)) = some (.pointer (some ⟨z, i, none⟩)) := by
 rw [idxA_blk (by omega) (by omega)]; simp
theorem idxA7i {z : Nat} {i : Int} (h0 : 0 ≤ i) (hi : i < 7) : idxA 7 1 (.pointer (some ⟨z, 0, none⟩)) (.int .i64 i) = some (.pointer (some ⟨z, i.toNat, none⟩)) := by
 have := idxA7 (z := z) (i := i.toNat) (by omega)
 rwa [Int.toNat_of_nonneg h0] at this
theorem goodV_iff (v : P7 Int) : goodV v = true ↔ ∀ i, i < 7 → 0 ≤ v.get i ∧ v.get i ≤ 1099511627776 := by
 simp only [goodV, P7.list, List.all_cons, List.all_nil, Bool.and_true, Bool.and_eq_true, decide_eq_true_eq]
 constructor
 ·rintro ⟨h0, h1, h2, h3, h4, h5, h6⟩ i hi
  rcases P7.cases7 hi with rfl | rfl | rfl | rfl | rfl | rfl | rfl <;> assumption
 ·intro h
  exact ⟨h 0 (by omega), h 1 (by omega), h 2 (by omega), h 3 (by omega), h 4 (by omega), h 5 (by omega), h 6 (by omega)⟩
theorem leV_iff (a b : P7 Int) : leV a b = true ↔ ∀ i, i < 7 → a.get i ≤ b.get i := by simp only [leV, List.all_eq_true, List.mem_range, decide_eq_true_eq]
theorem vecGood_run (v : P7 Int) (W : World) : callK PR F_vec_Good [.agg #[.int .i64 v.x0, .int .i64 v.x1, .int .i64 v.x2, .int .i64 v.x3, .int .i64 v.x4, .int .i64 v.x5, .int .i64 v.x6]] (fun u W' => u = .bool (goodV v) ∧ St W [] W') W := by
 apply S.vec_Good.call
 unfold S.vec_Good.body
 refine bxa (St.start W) fun b W1 h => ?_
 (repeat (first | ((with_reducible refine v5 ?_); refine ⟨_, rfl, ?_⟩) | simp -implicitDefEqProofs only [SE, SU, SV]))
 refine loop_c (σ := Unit) 7 (fun i _ => [.agg #[.int .i64 v.x0, .int .i64 v.x1, .int .i64 v.x2, .int .i64 v.x3, .int .i64 v.x4, .int .i64 v.x5, .int .i64 v.x6], .int .i64 i]) (fun i _ W1 => (∀ j, j < i → 0 ≤ v.get j ∧ v.get j ≤ 1099511627776) ∧ St W [] W1) () rfl ⟨fun j h => by omega, h.drop⟩ ?_
 clear h
 rintro K i _ W2 hi ⟨hv, h⟩ hK
 simp -implicitDefEqProofs only [SE, SU, SV]
 unfold S.vec_Good.l1
 have hno : i < 7 → (v.get i < 0 ∨ 1099511627776 < v.get i) → goodV v = false := fun hi h => by
  rw [Bool.eq_false_iff]
  intro hd
  have := (goodV_iff v).1 hd i hi
  omega
 by_cases hlt : (i : Int) < 7
 ·have e := idxV7i (x := v) (i := i) (by omega)
  by_cases h1 : v.get i < 0
  ·have hc := hno (by omega) (.inl h1)
   (repeat simp -implicitDefEqProofs only [SE, SU, SV, hlt, e, h1])
   exact ⟨by rw [hc], h⟩
  ·by_cases h2 : 1099511627776 < v.get i
   ·have hc := hno (by omega) (.inr h2)
    (repeat simp -implicitDefEqProofs only [SE, SU, SV, hlt, e, h1, h2])
    exact ⟨by rw [hc], h⟩
   ·have ew : IntKind.i64.wrap ((i : Int) + 1) = ((i + 1 : Nat) : Int) := by rw [i64w]; omega
    (repeat simp -implicitDefEqProofs only [SE, SU, SV, hlt, e, h1, h2, ew])
    refine hK () _ (by omega) ⟨fun j hj => ?_, h⟩
    by_cases hji : j = i
    ·subst hji; omega
    ·exact hv j (by omega)
 ·(repeat simp -implicitDefEqProofs only [SE, SU, SV, hlt])
  exact ⟨by rw [(goodV_iff v).2 fun j hj => hv j (by omega)], h⟩
instance vecGood (x0 x1 x2 x3 x4 x5 x6 : Int) : Pure0 PR F_vec_Good [.agg #[.int .i64 x0, .int .i64 x1, .int .i64 x2, .int .i64 x3, .int .i64 x4, .int .i64 x5, .int .i64 x6]] (.bool (goodV ⟨x0, x1, x2, x3, x4, x5, x6⟩)) :=
 ⟨fun W => vecGood_run ⟨x0, x1, x2, x3, x4, x5, x6⟩ W⟩
theorem vecLe_run (a b : P7 Int) (W : World) : callK PR F_vec_Le [.agg #[.int .i64 a.x0, .int .i64 a.x1, .int .i64 a.x2, .int .i64 a.x3, .int .i64 a.x4, .int .i64 a.x5, .int .i64 a.x6], .agg #[.int .i64 b.x0, .int .i64 b.x1, .int .i64 b.x2, .int .i64 b.x3, .int .i64 b.x4, .int .i64 b.x5, .int .i64 b.x6]] (fun u W' => u = .bool (leV a b) ∧ St W [] W') W := by
 apply S.vec_Le.call
 unfold S.vec_Le.body
 refine bxa (St.start W) fun p W1 h => ?_
 refine bxa h fun q W1 h => ?_
 refine loop_c (σ := Unit) 7 (fun i _ => [.pointer (some ⟨p, 0, none⟩), .pointer (some ⟨q, 0, none⟩), .int .i64 i]) (fun i _ W1 => (∀ j, j < i → a.get j ≤ b.get j) ∧ St W [cells q [.int .i64 b.x0, .int .i64 b.x1, .int .i64 b.x2, .int .i64 b.x3, .int .i64 b.x4, .int .i64 b.x5, .int .i64 b.x6] T_vec_Vec, cells p [.int .i64 a.x0, .int .i64 a.x1, .int .i64 a.x2, .int .i64 a.x3, .int .i64 a.x4, .int .i64 a.x5, .int .i64 a.x6] T_vec_Vec] W1) () rfl ⟨fun j h => by omega, h⟩ ?_
 clear h
 rintro K i _ W2 hi ⟨hv, h⟩ hK
 simp -implicitDefEqProofs only [SE, SU, SV]
 unfold S.vec_Le.l1
 by_cases hlt : (i : Int) < 7
 ·have hi7 : i < 7 := by omega
  have ei := fun z => idxA7 (z := z) (i := i) hi7
  (repeat (first | ((with_reducible refine v5 ?_); refine ⟨_, rfl, ?_⟩) | simp -implicitDefEqProofs only [SE, SU, SV, hlt, ei]))
  refine ld (v := .int .i64 (a.get i)) (by first | assumption | exact St.tick (by assumption) | exact St.tick (St.tick (by assumption))) (getL7 hi7) (by simp) ?_
  (repeat ((with_reducible refine v5 ?_); refine ⟨_, rfl, ?_⟩))
  refine ld (v := .int .i64 (b.get i)) (by first | assumption | exact St.tick (by assumption) | exact St.tick (St.tick (by assumption))) (getL7 hi7) (by simp) ?_
  by_cases h1 : b.get i < a.get i
  ·have hc : leV a b = false := by
    rw [Bool.eq_false_iff]; intro hd
    have := (leV_iff a b).1 hd i hi7
    omega
   (repeat simp -implicitDefEqProofs only [SE, SU, SV, h1])
   exact ⟨by rw [hc], St.nil (by first | assumption | exact St.tick (by assumption) | exact St.tick (St.tick (by assumption)))⟩
  ·have ew : IntKind.i64.wrap ((i : Int) + 1) = ((i + 1 : Nat) : Int) := by rw [i64w]; omega
   (repeat simp -implicitDefEqProofs only [SE, SU, SV, h1, ew])
   refine hK () _ hi7 ⟨fun j hj => ?_, (by first | assumption | exact St.tick (by assumption) | exact St.tick (St.tick (by assumption)))⟩
   by_cases hji : j = i
   ·subst hji; omega
   ·exact hv j (by omega)
 ·(repeat simp -implicitDefEqProofs only [SE, SU, SV, hlt])
  exact ⟨by rw [(leV_iff a b).2 fun j hj => hv j (by omega)], St.nil (by first | assumption | exact St.tick (by assumption) | exact St.tick (St.tick (by assumption)))⟩
instance vecLe (x0 x1 x2 x3 x4 x5 x6 y0 y1 y2 y3 y4 y5 y6 : Int) : Pure0 PR F_vec_Le [.agg #[.int .i64 x0, .int .i64 x1, .int .i64 x2, .int .i64 x3, .int .i64 x4, .int .i64 x5, .int .i64 x6], .agg #[.int .i64 y0, .int .i64 y1, .int .i64 y2, .int .i64 y3, .int .i64 y4, .int .i64 y5, .int .i64 y6]] (.bool (leV ⟨x0, x1, x2, x3, x4, x5, x6⟩ ⟨y0, y1, y2, y3, y4, y5, y6⟩)) :=
 ⟨fun W => vecLe_run ⟨x0, x1, x2, x3, x4, x5, x6⟩ ⟨y0, y1, y2, y3, y4, y5, y6⟩ W⟩
theorem vecMerge {a b : P7 Int} {k : Value → World → Prop} (h : St W0 L W) (hk : ∀ W', St W0 L W' → k (.agg #[.int .i64 (vmerge a b).x0, .int .i64 (vmerge a b).x1, .int .i64 (vmerge a b).x2, .int .i64 (vmerge a b).x3, .int .i64 (vmerge a b).x4, .int .i64 (vmerge a b).x5, .int .i64 (vmerge a b).x6]) W') : callK PR F_vec_Merge [.agg #[.int .i64 a.x0, .int .i64 a.x1, .int .i64 a.x2, .int .i64 a.x3, .int .i64 a.x4, .int .i64 a.x5, .int .i64 a.x6], .agg #[.int .i64 b.x0, .int .i64 b.x1, .int .i64 b.x2, .int .i64 b.x3, .int .i64 b.x4, .int .i64 b.x5, .int .i64 b.x6]] k W := by
 apply S.vec_Merge.call
 unfold S.vec_Merge.body
 refine bxa h fun p W1 h => ?_
 refine bxa h fun q W1 h => ?_
 refine al h fun r W1 h => ?_
 refine joinK_i ?_
 refine loop_c (σ := P7 Int) 7 (fun i _ => [.pointer (some ⟨p, 0, none⟩), .pointer (some ⟨q, 0, none⟩), .pointer (some ⟨r, 0, none⟩), .int .i64 i])
  (fun i s W1 => (∀ j, j < 7 → s.get j = if j < i then imax (a.get j) (b.get j) else a.get j) ∧ St W0 (cells r [.int .i64 (P7.all 0).x0, .int .i64 (P7.all 0).x1, .int .i64 (P7.all 0).x2, .int .i64 (P7.all 0).x3, .int .i64 (P7.all 0).x4, .int .i64 (P7.all 0).x5, .int .i64 (P7.all 0).x6] T_vec_Vec :: cells q [.int .i64 b.x0, .int .i64 b.x1, .int .i64 b.x2, .int .i64 b.x3, .int .i64 b.x4, .int .i64 b.x5, .int .i64 b.x6] T_vec_Vec :: cells p [.int .i64 s.x0, .int .i64 s.x1, .int .i64 s.x2, .int .i64 s.x3, .int .i64 s.x4, .int .i64 s.x5, .int .i64 s.x6] T_vec_Vec :: L) W1)
  a rfl ⟨fun j h => by simp, h⟩ ?_
 clear h
 rintro K i s W2 hi ⟨hs, h⟩ hK
 simp -implicitDefEqProofs only [SE, SU, SV]
 unfold S.vec_Merge.l1
 have ew : IntKind.i64.wrap ((i : Int) + 1) = ((i + 1 : Nat) : Int) := by rw [i64w]; omega
 by_cases hlt : i < 7
 ·have hK' : ∀ W', St W0 (cells r [.int .i64 (P7.all 0).x0, .int .i64 (P7.all 0).x1, .int .i64 (P7.all 0).x2, .int .i64 (P7.all 0).x3, .int .i64 (P7.all 0).x4, .int .i64 (P7.all 0).x5, .int .i64 (P7.all 0).x6] T_vec_Vec :: cells q [.int .i64 b.x0, .int .i64 b.x1, .int .i64 b.x2, .int .i64 b.x3, .int .i64 b.x4, .int .i64 b.x5, .int .i64 b.x6] T_vec_Vec :: cells p [.int .i64 (s.set i (imax (s.get i) (b.get i))).x0, .int .i64 (s.set i (imax (s.get i) (b.get i))).x1, .int .i64 (s.set i (imax (s.get i) (b.get i))).x2, .int .i64 (s.set i (imax (s.get i) (b.get i))).x3, .int .i64 (s.set i (imax (s.get i) (b.get i))).x4, .int .i64 (s.set i (imax (s.get i) (b.get i))).x5, .int .i64 (s.set i (imax (s.get i) (b.get i))).x6] T_vec_Vec :: L) W' → K [.pointer (some ⟨p, 0, none⟩), .pointer (some ⟨q, 0, none⟩), .pointer (some ⟨r, 0, none⟩), .int .i64 ((i + 1 : Nat) : Int)] W' :=
   fun W' h => hK _ W' hlt ⟨fun j hj => by
    rw [P7.get_set _ _ _ _ hj]
    by_cases hji : j = i
    ·subst hji; rw [if_pos rfl, if_pos (by omega), hs j hj, if_neg (by omega)]
    ·rw [if_neg hji, hs j hj]
     by_cases h1 : j < i
     ·rw [if_pos h1, if_pos (by omega)]
     ·rw [if_neg h1, if_neg (by omega)], h⟩
  clear hK hs
  have ia : ∀ z, idxA 7 1 (.pointer (some ⟨z, 0, none⟩)) (.int .i64 (i : Int)) = some (.pointer (some ⟨z, i, none⟩)) := fun z => idxA7 hlt
  have e1 : decide ((i : Int) < 7) = true := decide_eq_true (by omega)
  rcases P7.cases7 hlt with rfl | rfl | rfl | rfl | rfl | rfl | rfl
  all_goals
   (repeat (first | ((with_reducible refine v5 ?_); refine ⟨_, rfl, ?_⟩) | ((with_reducible refine v12 ?_ ?_); exact rfl; intros) | simp -implicitDefEqProofs only [SE, SU, SV, e1, ia, max2i, ew]))
   exact hK' _ (by first | assumption | exact St.tick (by assumption) | exact St.tick (St.tick (by assumption)))
 ·have e1 : decide ((i : Int) < 7) = false := decide_eq_false (by omega)
  (repeat simp -implicitDefEqProofs only [SE, SU, SV, e1])
  unfold S.vec_Merge.j1
  (repeat (first | ((with_reducible refine v5 ?_); refine ⟨_, rfl, ?_⟩) | ((with_reducible refine v12 ?_ ?_); exact rfl; intros) | ((with_reducible refine w5 ?_ ?_); simp; refine ⟨_, rfl, ?_⟩) | simp -implicitDefEqProofs only [SE, SU, SV]))
  have hi7 : i = 7 := by omega
  subst hi7
  have : s = vmerge a b := P7.ext7 fun j hj => by rw [hs j hj, if_pos hj, vmerge, P7.get_zip]
  rw [this] at *
  exact hk _ (St.wk (by first | assumption | exact St.tick (by assumption) | exact St.tick (St.tick (by assumption))))
end
end Go.Proofs.YtkjhccpanedccaaGreat
namespace Go.Eng
set_option linter.unusedVariables false
set_option linter.unusedSimpArgs false
open Go Go.RowKit Go.Sort Go.Proofs
section
variable {P : Program} {W0 W W' : World} {L L' : List Asn} {e : TypeId}
theorem St.grown (h : St W [] W') : ∃ q os, W' = grow (W.drewN q) os := by
 obtain ⟨⟨⟨h1, h2, h3, h4, h5⟩, h6⟩, _⟩ := h
 refine ⟨W'.drawn - W.drawn, W'.heap.extract W.heap.size W'.heap.size, ?_⟩
 obtain ⟨hp, tp, dr, os, ou⟩ := W'
 simp only at h1 h2 h3 h4 h5 h6
 subst h1 h2 h3
 simp only [grow, World.drewN, World.mk.injEq, true_and, and_true]
 refine ⟨?_, by omega⟩
 apply Array.ext_getElem?
 intro i
 by_cases hi : i < W.heap.size
 ·rw [h5 i hi, Array.getElem?_append_left hi]
 ·rw [Array.getElem?_append_right (by omega), Array.getElem?_extract]
  by_cases hj : i < hp.size
  ·rw [if_pos (by omega)]; congr 1; omega
  ·rw [if_neg (by omega), Array.getElem?_eq_none (by omega)]
theorem St.more (h : St W0 L W) (os : Array Obj) : St W0 L (grow W os) := by
 obtain ⟨hb, p, hs, ho⟩ := h
 have hk : ∀ k, k < W.heap.size → (grow W os).heap[k]? = W.heap[k]? := fun k hk => by
  show (W.heap ++ os)[k]? = _
  rw [Array.getElem?_append_left hk]
 refine ⟨hb.trans ⟨⟨rfl, rfl, rfl, by simp, fun k hk' => hk k (Nat.lt_of_lt_of_le hk' hb.size)⟩, Nat.le_refl _⟩, p, hs, fun b o hbo => ⟨(ho b o hbo).1, ?_⟩⟩
 rw [hk b (Array.getElem?_eq_some_iff.1 (ho b o hbo).2).1]
 exact (ho b o hbo).2
theorem St.ahead (h : St W0 L W) (n : Nat) : St W0 L (Sort.ahead W n) :=
 ⟨h.bel.trans ⟨⟨rfl, rfl, rfl, Nat.le_refl _, fun _ _ => rfl⟩, Nat.le_add_right _ _⟩, h.own⟩
theorem putCells_id {F : List Value} {cur : List Value} {o : Nat} (h : o + F.length ≤ cur.length) : putCells id o F.toArray cur.toArray = (cur.take o ++ F ++ cur.drop (o + F.length)).toArray := by
 apply Array.ext_getElem?
 intro i
 simp only [putCells, Array.getElem?_mapIdx, List.getElem?_toArray, List.size_toArray, id_eq]
 by_cases h1 : i < o
 ·rw [List.append_assoc, List.getElem?_append_left (by simp; omega), List.getElem?_take_of_lt h1]
  rw [List.getElem?_eq_getElem (by omega)]
  simp only [Option.map_some]
  rw [if_neg (by omega)]
 ·by_cases h2 : i < o + F.length
  ·rw [List.getElem?_append_left (by simp; omega), List.getElem?_append_right (by simp; omega)]
   simp only [List.length_take]
   rw [Nat.min_eq_left (by omega), List.getElem?_eq_getElem (by omega), List.getElem?_eq_getElem (by omega)]
   simp only [Option.map_some]
   rw [if_pos (by omega), getElem!_pos F.toArray _ (by simp; omega)]
   simp
  ·rw [List.getElem?_append_right (by simp; omega), List.getElem?_drop]
   simp only [List.length_append, List.length_take]
   rw [Nat.min_eq_left (by omega)]
   rw [show o + F.length + (i - (o + F.length)) = i by omega]
   cases hc : cur[i]? with
   | none => rfl
   | some v => simp only [Option.map_some]; rw [if_neg (by omega)]
theorem St.putRow {g o n : Nat} {cur F : List Value} {os : Array Obj} (h : St W0 (Eng.cells g cur e :: L) W) (hF : o + F.length ≤ cur.length) :
  St W0 (Eng.cells g (cur.take o ++ F ++ cur.drop (o + F.length)) e :: L) (grow (Sort.putRow id (Sort.ahead W n) g o F.toArray) os) := by
 refine St.more ?_ os
 obtain ⟨fr, hf, hb⟩ := (h.ahead n).cells
 have hbl := hb.blk.2
 have hlt : g < W.heap.size := (Array.getElem?_eq_some_iff.1 hbl).1
 have he : Sort.putRow id (Sort.ahead W n) g o F.toArray = { (Sort.ahead W n) with heap := (Sort.ahead W n).heap.setIfInBounds g (.cells (cur.take o ++ F ++ cur.drop (o + F.length)).toArray e fr) } := by
  unfold Sort.putRow mapBlock
  congr 1
  apply Array.ext_getElem?
  intro j
  rw [Array.getElem?_modify, Array.getElem?_setIfInBounds]
  by_cases hj : g = j
  ·subst hj
   rw [if_pos rfl, if_pos rfl, if_pos (show g < (Sort.ahead W n).heap.size from hlt), hbl]
   simp only [Option.map_some, onCells, putCells_id hF]
  ·rw [if_neg hj, if_neg hj]
 rw [he]
 refine (hb.setBlk _).weak fun p hp => ⟨fr, ?_, hp⟩
 intro j hj
 refine hf j ?_
 simp at hj
 omega
theorem cells_hold {g o : Nat} {cur : List Value} (h : St W0 (cells g cur e :: L) W) (n : Nat) (hn : o + n ≤ cur.length) : ∀ j, j < n → W.cell? ⟨g, o + j, none⟩ = cur[o + j]? ∧ W.frozen? ⟨g, o + j, none⟩ = false := fun j hj =>
 St.cellOf (L' := L) (b := g) (cs := cur) (T := e) h (o + j) (by omega)
end
section
variable {P : Program} {ρ : Go.Shelf.Ren} {W0 W W' : World} {L L' : List Asn} {e : TypeId} {α : Type} [Inhabited α] {A : Ly α}
theorem flatK_rows {k : Nat} (hk : A.sz = k) (l : List α) : (flatK A.row k l.toArray).toList = A.rows l := by
 subst hk
 refine List.ext_getElem? fun t => ?_
 by_cases ht : t < l.length * A.sz
 ·have h0 := get_flatK A.row A.sz l.toArray t (by simpa using ht)
  have hq : t / A.sz < l.length := Nat.div_lt_of_lt_mul (by rw [Nat.mul_comm]; exact ht)
  have hr : t % A.sz < A.sz := Nat.mod_lt _ A.pos
  have hs : t < (flatK A.row A.sz l.toArray).size := by simpa using ht
  rw [getElem!_pos _ t hs] at h0
  rw [Array.getElem?_toList, Array.getElem?_eq_getElem hs, h0]
  have e1 : (A.rows l)[t]? = (A.row l[t / A.sz])[t % A.sz]? := by
   rw [← Ly.rows_at hq, List.getElem?_take_of_lt hr, List.getElem?_drop, Nat.div_add_mod']
  rw [e1, getElem!_pos l.toArray _ (by simpa using hq), getElem!_pos _ _ (by rw [A.len]; exact hr), List.getElem?_eq_getElem (by rw [A.len]; exact hr)]
  simp
 ·rw [List.getElem?_eq_none (by simp; omega), List.getElem?_eq_none (by rw [Ly.rows_len]; omega)]
theorem sortFX (L6 : SlLaysF0.n6 P ρ) (aE : ∀ w, (isAgg (ρ.t 24)).run P w = .ok true w) (zE : ∀ w, (Go.sizeOf (ρ.t 24)).run P w = .ok A.sz w) (cf : α → α → Int) (hO : SWO (ltOf cf)) (hT : ∀ x y, (ltOf cf) x y = false → (ltOf cf) y x = false → x = y)
  (g : Nat) (cb : List Value) {a : Option Addr} {c : Nat} {l : List α} {k : Value → World → Prop} (eg : ∀ args w, (callFunc g args).run P w = .ok (.enter g args) w)
  (h : St W0 L W) [ho : Own a L A e c l L'] (hc : ∀ x y W', St W0 L' W' → callK P g (.agg (A.row x).toArray :: .agg (A.row y).toArray :: cb) (fun v W'' => v = .int .i64 (cf x y) ∧ St W' [] W'') W')
  (hl : l.length < 4611686018427387904) (hk : ∀ W', St W0 (arr A e a c (l.mergeSort fun x y => !(ltOf cf) y x) :: L') W' → k (.tuple #[]) W') : callK P (ρ.f 6) [.slice a l.length c, .func (.func g) #[] cb.toArray] k W := by
 have h := h.took (a := a)
 have hf := h.arrFacts
 by_cases ha : a = none
 ·subst ha
  have hl0 : l = [] := List.eq_nil_of_length_eq_zero (by have := hf.2.2.1 rfl; omega)
  subst hl0
  refine (AnyF.slices_SortFunc_none L6 none c (.func (.func g) #[] cb.toArray) W).mono ?_
  rintro ed w' ⟨rfl, rfl⟩
  exact hk _ (by rw [List.mergeSort_nil]; exact h)
 ·obtain ⟨b, o, cur, rfl, h1, h2, h3⟩ := h.arrCells ha
  have hle : l.length * A.sz ≤ c * A.sz := Nat.mul_le_mul_right _ hf.1
  have hcell := cells_hold (o := o) h3 (l.length * A.sz) (by omega)
  have hH : HoldsK A.row A.sz W b o l.toArray := by
   intro j hj
   have hj' : j < l.length * A.sz := by simpa using hj
   refine ⟨?_, (hcell j hj').2⟩
   rw [(hcell j hj').1, getElem!_pos _ j hj]
   have e1 := flatK_rows (A := A) rfl l
   have e2 : (flatK A.row A.sz l.toArray)[j] = (flatK A.row A.sz l.toArray).toList[j]'(by simpa using hj) := by simp
   rw [e2]
   have e3 : (A.rows l)[j]? = cur[o + j]? := by rw [← h2, List.getElem?_take_of_lt hj', List.getElem?_drop]
   rw [← e3, ← e1, List.getElem?_eq_getElem (by simpa using hj)]
   rfl
  have hblk : b < W.heap.size := by
   obtain ⟨fr, _, hb⟩ := h3.cells
   exact (Array.getElem?_eq_some_iff.1 hb.blk.2).1
  have hcmp : CmpLays P g cb.toArray A.row A.sz cf b o l.toArray.size W := by
   intro m os dk hdk x y
   have hfs : (flatK A.row A.sz dk).toList.length = l.length * A.sz := by
    have := flatK_rows (A := A) rfl dk.toList
    rw [Array.toArray_toList] at this
    rw [this, Ly.rows_len, Array.length_toList, hdk, List.size_toArray]
   have hw := (St.putRow (n := m) (os := os) h3 (F := (flatK A.row A.sz dk).toList) (by rw [hfs]; exact Nat.le_trans (Nat.add_le_add_left hle o) h1)).drop
   rw [Array.toArray_toList] at hw
   have := hc x y (sortWorldK A.row A.sz W b o m dk os) hw
   refine (show Calls P g _ _ _ from ?_)
   have h5 : Calls P g (.agg (A.row x).toArray :: .agg (A.row y).toArray :: cb).toArray (sortWorldK A.row A.sz W b o m dk os) _ := this
   have e5 : (#[.agg (A.row x).toArray, .agg (A.row y).toArray] ++ cb.toArray : Array Value) = (.agg (A.row x).toArray :: .agg (A.row y).toArray :: cb).toArray := by simp
   rw [e5]
   refine h5.mono fun ed w' hq => ?_
   cases ed with
   | returned v => exact ⟨by rw [hq.1], hq.2.grown⟩
   | _ => exact hq.elim
  have hcon := AnyQ.slices_SortFunc_total L6 A.sz aE zE A.row A.len (fun x v hv => ?_) cf hO g cb.toArray b o c l.toArray W eg hcmp hH hblk (by simpa using hl) hT
  ·have e0 : (#[.slice (some ⟨b, o, none⟩) l.toArray.size c, .func (.func g) #[] cb.toArray] : Array Value) = [.slice (some ⟨b, o, none⟩) l.length c, .func (.func g) #[] cb.toArray].toArray := by simp
   rw [e0] at hcon
   refine hcon.mono ?_
   rintro ed w' ⟨rfl, n, os, rfl⟩
   have hlen : (l.mergeSort fun x y => !(ltOf cf) y x).length = l.length := List.length_mergeSort _
   refine hk _ ?_
   unfold sortWorldK putRowK
   have e6 : flatK A.row A.sz (l.mergeSort fun x y => !(ltOf cf) y x).toArray = (A.rows (l.mergeSort fun x y => !(ltOf cf) y x)).toArray := by
    rw [← flatK_rows (A := A) rfl]
   rw [e6]
   have hrl : (A.rows (l.mergeSort fun x y => !(ltOf cf) y x)).length = l.length * A.sz := by rw [Ly.rows_len, hlen]
   refine (St.putRow (n := n) (os := os) h3 (F := A.rows (l.mergeSort fun x y => !(ltOf cf) y x)) (by omega)).ent (arr_of_cells (by omega) hf.2.1 ?_ ?_)
   ·simp only [List.length_append, List.length_take, List.length_drop]; omega
   ·rw [List.append_assoc, List.drop_append_of_le_length (by simp; omega), List.drop_take, Nat.sub_self, List.take_zero, List.nil_append, hlen, ← hrl, List.take_left]
  ·have := List.all_eq_true.1 (A.one x) v hv
   cases v <;> first | rfl | (simp [oneC] at this)
end
end Go.Eng
namespace Go.Proofs.YtkjhccpanedccaaGreat
set_option linter.unusedVariables false
set_option linter.unusedSimpArgs false
open Go.Eng
def S.slices_DeleteFunc_order_Inst_order_Inst.j1 (R : Value → World → Prop) (x0 x5 : Value) (W : World) : Prop :=
 okF (slcS 10 x0 (some x5) none none) fun v38 =>
 efK PR (Builtin.clear_ #[T_s_order_Inst] T_t0 #[v38]) (fun _ W =>
 okF (slcS 10 x0 none (some x5) none) fun v41 =>
 R v41 W) W
def S.slices_DeleteFunc_order_Inst_order_Inst.j2 (K1 : List Value → World → Prop) (x0 x1 x5 x6 : Value) (W : World) : Prop :=
 okF (binP .add x6 (.int .i64 1)) fun v21 =>
 K1 [x0, x1, x5, v21] W
def S.slices_DeleteFunc_order_Inst_order_Inst.l1 (J1 : List Value → World → Prop) (K1 : List Value → World → Prop) (x0 x1 x5 x6 : Value) (W : World) : Prop :=
 okF (lenP (.slice T_order_Inst) x0) fun v18 =>
 okF (binP .lss x6 v18) fun v19 =>
 ifK v19 (
 joinK (fun s W => S.slices_DeleteFunc_order_Inst_order_Inst.j2 K1 (nthv s 0) (nthv s 1) (nthv s 2) (nthv s 3) W) (fun J2 =>
 okF (idxS 10 x0 x6) fun v24 =>
 rdK PR (Instr.loadAt T_order_Inst v24) (fun v25 W =>
 efK PR (Instr.alloc T_order_Inst true (.tuple #[])) (fun v7 W =>
 efK PR (Instr.storeAt T_order_Inst v7 v25) (fun _ W =>
 rdK PR (Instr.loadAt T_order_Inst v7) (fun v27 W =>
 vcK PR x1 [v27] (fun v28 W =>
 okF (unP .not v28) fun v29 =>
 ifK v29 (
 rdK PR (Instr.loadAt T_order_Inst v7) (fun v32 W =>
 okF (idxS 10 x0 x5) fun v33 =>
 efK PR (Instr.storeAt T_order_Inst v33 v32) (fun _ W =>
 okF (binP .add x5 (.int .i64 1)) fun v35 =>
 J2 [x0, x1, v35, x6] W) W) W) (
 J2 [x0, x1, x5, x6] W)) W) W) W) W) W)) (
 J1 [x0, x5] W)
def S.slices_DeleteFunc_order_Inst_order_Inst.body (R : Value → World → Prop) (v0 v1 : Value) (W : World) : Prop :=
 callK PR F_slices_IndexFunc_order_Inst_order_Inst [v0, v1] (fun v10 W =>
 okF (binP .eql v10 (.int .i64 (-1))) fun v12 =>
 ifK v12 (
 R v0 W) (
 joinK (fun s W => S.slices_DeleteFunc_order_Inst_order_Inst.j1 R (nthv s 0) (nthv s 1) W) (fun J1 =>
 okF (binP .add v10 (.int .i64 1)) fun v15 =>
 loopK (fun K1 s W => S.slices_DeleteFunc_order_Inst_order_Inst.l1 J1 K1 (nthv s 0) (nthv s 1) (nthv s 2) (nthv s 3) W) [v0, v1, v10, v15] W))) W
def S.slices_DeleteFunc_order_Inst_order_Inst.hint : Hint := (.two .nil (.two .nil (.two (.two .nil (.two (.two .nil .nil) .nil)) (.at [0, 5] (.two .nil (.at [0, 1, 5, 6] (.two (.two .nil (.two .nil .nil)) (.at [0, 1, 5, 6] (.two .nil (.two .nil (.two (.two .nil .nil) .nil))) .nil)) .nil)) (.two .nil (.two .nil .nil))))))
theorem S.slices_DeleteFunc_order_Inst_order_Inst.ok (R : Value → World → Prop) (v0 v1 : Value) (W : World) : bodyK PR CB Tryz.f28 S.slices_DeleteFunc_order_Inst_order_Inst.hint [v0, v1] R W = S.slices_DeleteFunc_order_Inst_order_Inst.body R v0 v1 W := by kernel_rfl
theorem S.slices_DeleteFunc_order_Inst_order_Inst.fn : PR.funcs[F_slices_DeleteFunc_order_Inst_order_Inst]? = some Tryz.f28 := by kernel_rfl
theorem S.slices_DeleteFunc_order_Inst_order_Inst.call {R : Value → World → Prop} {v0 v1 : Value} {W : World} (h : S.slices_DeleteFunc_order_Inst_order_Inst.body R v0 v1 W) : callK PR F_slices_DeleteFunc_order_Inst_order_Inst [v0, v1] R W :=
 callK_of_body (g := F_slices_DeleteFunc_order_Inst_order_Inst) (fn := Tryz.f28) (args := [v0, v1]) (R := R) (w := W) mixed CBok S.slices_DeleteFunc_order_Inst_order_Inst.fn S.slices_DeleteFunc_order_Inst_order_Inst.hint (by rw [S.slices_DeleteFunc_order_Inst_order_Inst.ok]; exact h)
def S.slices_Clone_order_Inst_order_Inst.body (R : Value → World → Prop) (v0 : Value) (W : World) : Prop :=
 okF (eqP (.slice T_order_Inst) .eql v0 (.slice none 0 0)) fun v4 =>
 ifK v4 (
 R (.slice none 0 0) W) (
 efK PR (Instr.buildSlice T_s_order_Inst 0 #[]) (fun v5 W =>
 efK PR (Builtin.append_ #[T_s_order_Inst, T_s_order_Inst] T_s_order_Inst #[v5, v0]) (fun v7 W =>
 R v7 W) W) W)
def S.slices_Clone_order_Inst_order_Inst.hint : Hint := (.two .nil (.two (.two .nil (.two (.two .nil .nil) .nil)) (.two .nil .nil)))
theorem S.slices_Clone_order_Inst_order_Inst.ok (R : Value → World → Prop) (v0 : Value) (W : World) : bodyK PR CB Tryz.f29 S.slices_Clone_order_Inst_order_Inst.hint [v0] R W = S.slices_Clone_order_Inst_order_Inst.body R v0 W := by kernel_rfl
theorem S.slices_Clone_order_Inst_order_Inst.fn : PR.funcs[F_slices_Clone_order_Inst_order_Inst]? = some Tryz.f29 := by kernel_rfl
theorem S.slices_Clone_order_Inst_order_Inst.call {R : Value → World → Prop} {v0 : Value} {W : World} (h : S.slices_Clone_order_Inst_order_Inst.body R v0 W) : callK PR F_slices_Clone_order_Inst_order_Inst [v0] R W :=
 callK_of_body (g := F_slices_Clone_order_Inst_order_Inst) (fn := Tryz.f29) (args := [v0]) (R := R) (w := W) mixed CBok S.slices_Clone_order_Inst_order_Inst.fn S.slices_Clone_order_Inst_order_Inst.hint (by rw [S.slices_Clone_order_Inst_order_Inst.ok]; exact h)
def S.slices_IndexFunc_order_Inst_order_Inst.l1 (R : Value → World → Prop) (K1 : List Value → World → Prop) (x0 x1 x7 x8 : Value) (W : World) : Prop :=
 okF (binP .lss x8 x7) fun v9 =>
 ifK v9 (
 okF (idxS 10 x0 x8) fun v14 =>
 rdK PR (Instr.loadAt T_order_Inst v14) (fun v15 W =>
 vcK PR x1 [v15] (fun v16 W =>
 ifK v16 (
 R x8 W) (
 okF (binP .add x8 (.int .i64 1)) fun v18 =>
 K1 [x0, x1, x7, v18] W)) W) W) (
 R (.int .i64 (-1)) W)
def S.slices_IndexFunc_order_Inst_order_Inst.body (R : Value → World → Prop) (v0 v1 : Value) (W : World) : Prop :=
 okF (lenP (.slice T_order_Inst) v0) fun v7 =>
 loopK (fun K1 s W => S.slices_IndexFunc_order_Inst_order_Inst.l1 R K1 (nthv s 0) (nthv s 1) (nthv s 2) (nthv s 3) W) [v0, v1, v7, (.int .i64 0)] W
def S.slices_IndexFunc_order_Inst_order_Inst.hint : Hint := (.two .nil (.two (.two .nil (.at [0, 1, 7, 8] (.two .nil (.two (.two .nil .nil) (.two (.two .nil (.two .nil (.two (.two .nil .nil) .nil))) .nil))) .nil)) (.two .nil .nil)))
theorem S.slices_IndexFunc_order_Inst_order_Inst.ok (R : Value → World → Prop) (v0 v1 : Value) (W : World) : bodyK PR CB Tryz.f56 S.slices_IndexFunc_order_Inst_order_Inst.hint [v0, v1] R W = S.slices_IndexFunc_order_Inst_order_Inst.body R v0 v1 W := by kernel_rfl
theorem S.slices_IndexFunc_order_Inst_order_Inst.fn : PR.funcs[F_slices_IndexFunc_order_Inst_order_Inst]? = some Tryz.f56 := by kernel_rfl
theorem S.slices_IndexFunc_order_Inst_order_Inst.call {R : Value → World → Prop} {v0 v1 : Value} {W : World} (h : S.slices_IndexFunc_order_Inst_order_Inst.body R v0 v1 W) : callK PR F_slices_IndexFunc_order_Inst_order_Inst [v0, v1] R W :=
 callK_of_body (g := F_slices_IndexFunc_order_Inst_order_Inst) (fn := Tryz.f56) (args := [v0, v1]) (R := R) (w := W) mixed CBok S.slices_IndexFunc_order_Inst_order_Inst.fn S.slices_IndexFunc_order_Inst_order_Inst.hint (by rw [S.slices_IndexFunc_order_Inst_order_Inst.ok]; exact h)
def S.slices_Index_int_int.l1 (R : Value → World → Prop) (K1 : List Value → World → Prop) (x0 x1 x7 x8 : Value) (W : World) : Prop :=
 okF (binP .lss x8 x7) fun v9 =>
 ifK v9 (
 okF (idxS 1 x0 x8) fun v14 =>
 rdK PR (Instr.loadAt T_int v14) (fun v15 W =>
 okF (binP .eql x1 v15) fun v16 =>
 ifK v16 (
 R x8 W) (
 okF (binP .add x8 (.int .i64 1)) fun v18 =>
 K1 [x0, x1, x7, v18] W)) W) (
 R (.int .i64 (-1)) W)
def S.slices_Index_int_int.body (R : Value → World → Prop) (v0 v1 : Value) (W : World) : Prop :=
 okF (lenP (.slice T_int) v0) fun v7 =>
 loopK (fun K1 s W => S.slices_Index_int_int.l1 R K1 (nthv s 0) (nthv s 1) (nthv s 2) (nthv s 3) W) [v0, v1, v7, (.int .i64 0)] W
def S.slices_Index_int_int.hint : Hint := (.two .nil (.two (.two .nil (.at [0, 1, 7, 8] (.two .nil (.two (.two .nil .nil) (.two (.two .nil (.two .nil (.two (.two .nil .nil) .nil))) .nil))) .nil)) (.two .nil .nil)))
theorem S.slices_Index_int_int.ok (R : Value → World → Prop) (v0 v1 : Value) (W : World) : bodyK PR CB Tryz.f62 S.slices_Index_int_int.hint [v0, v1] R W = S.slices_Index_int_int.body R v0 v1 W := by kernel_rfl
theorem S.slices_Index_int_int.fn : PR.funcs[F_slices_Index_int_int]? = some Tryz.f62 := by kernel_rfl
theorem S.slices_Index_int_int.call {R : Value → World → Prop} {v0 v1 : Value} {W : World} (h : S.slices_Index_int_int.body R v0 v1 W) : callK PR F_slices_Index_int_int [v0, v1] R W :=
 callK_of_body (g := F_slices_Index_int_int) (fn := Tryz.f62) (args := [v0, v1]) (R := R) (w := W) mixed CBok S.slices_Index_int_int.fn S.slices_Index_int_int.hint (by rw [S.slices_Index_int_int.ok]; exact h)
def S.slices_Values_int_int.body (R : Value → World → Prop) (v0 : Value) (W : World) : Prop :=
 efK PR (Instr.box T_s_int v0) (fun v1 W =>
 R (.func (.func F_slices_Values_int_int_1) #[] #[v1]) W) W
def S.slices_Values_int_int.hint : Hint := (.two .nil (.two .nil .nil))
theorem S.slices_Values_int_int.ok (R : Value → World → Prop) (v0 : Value) (W : World) : bodyK PR CB Tryz.f79 S.slices_Values_int_int.hint [v0] R W = S.slices_Values_int_int.body R v0 W := by kernel_rfl
theorem S.slices_Values_int_int.fn : PR.funcs[F_slices_Values_int_int]? = some Tryz.f79 := by kernel_rfl
theorem S.slices_Values_int_int.call {R : Value → World → Prop} {v0 : Value} {W : World} (h : S.slices_Values_int_int.body R v0 W) : callK PR F_slices_Values_int_int [v0] R W :=
 callK_of_body (g := F_slices_Values_int_int) (fn := Tryz.f79) (args := [v0]) (R := R) (w := W) mixed CBok S.slices_Values_int_int.fn S.slices_Values_int_int.hint (by rw [S.slices_Values_int_int.ok]; exact h)
def S.slices_Values_int_int_1.l1 (R : Value → World → Prop) (K1 : List Value → World → Prop) (x0 x5 x6 x7 : Value) (W : World) : Prop :=
 okF (binP .lss x7 x6) fun v8 =>
 ifK v8 (
 okF (idxS 1 x5 x7) fun v9 =>
 rdK PR (Instr.loadAt T_int v9) (fun v10 W =>
 vcK PR x0 [v10] (fun v13 W =>
 okF (unP .not v13) fun v14 =>
 ifK v14 (
 R (.tuple #[]) W) (
 okF (binP .add x7 (.int .i64 1)) fun v15 =>
 K1 [x0, x5, x6, v15] W)) W) W) (
 R (.tuple #[]) W)
def S.slices_Values_int_int_1.body (R : Value → World → Prop) (v0 v1 : Value) (W : World) : Prop :=
 rdK PR (Instr.loadAt T_s_int v1) (fun v5 W =>
 okF (lenP (.slice T_int) v5) fun v6 =>
 loopK (fun K1 s W => S.slices_Values_int_int_1.l1 R K1 (nthv s 0) (nthv s 1) (nthv s 2) (nthv s 3) W) [v0, v5, v6, (.int .i64 0)] W) W
def S.slices_Values_int_int_1.hint : Hint := (.two .nil (.at [0, 5, 6, 7] (.two .nil (.two (.two .nil .nil) (.two (.two .nil (.two .nil (.two .nil .nil))) .nil))) .nil))
theorem S.slices_Values_int_int_1.ok (R : Value → World → Prop) (v0 v1 : Value) (W : World) : bodyK PR CB Tryz.f103 S.slices_Values_int_int_1.hint [v0, v1] R W = S.slices_Values_int_int_1.body R v0 v1 W := by kernel_rfl
theorem S.slices_Values_int_int_1.fn : PR.funcs[F_slices_Values_int_int_1]? = some Tryz.f103 := by kernel_rfl
theorem S.slices_Values_int_int_1.call {R : Value → World → Prop} {v0 v1 : Value} {W : World} (h : S.slices_Values_int_int_1.body R v0 v1 W) : callK PR F_slices_Values_int_int_1 [v0, v1] R W :=
 callK_of_body (g := F_slices_Values_int_int_1) (fn := Tryz.f103) (args := [v0, v1]) (R := R) (w := W) mixed CBok S.slices_Values_int_int_1.fn S.slices_Values_int_int_1.hint (by rw [S.slices_Values_int_int_1.ok]; exact h)
end Go.Proofs.YtkjhccpanedccaaGreat
namespace Go.Proofs.YtkjhccpanedccaaGreat
set_option linter.unusedVariables false
set_option linter.unusedSimpArgs false
open Go Go.Eng
def PredL {α : Type} (P : Program) (A : Ly α) (agg : Bool) (C : Asn) (fv : Value) (p : α → Bool) (l : List α) : Prop :=
 ∀ x ∈ l, ∀ (W0 : World) (L : List Asn) (W : World) (k : Value → World → Prop), St W0 (C :: L) W → (∀ W', St W0 (C :: L) W' → k (.bool (p x)) W') → vcK P fv [A.val agg x] k W
section
variable {W0 W : World} {L L' : List Asn} {α : Type} {A : Ly α} {C : Asn} {fv : Value} {p : α → Bool}
theorem indexFunc_order_Inst_order_Inst {a : Option Addr} {c : Nat} {l : List α} {k : Value → World → Prop} (hs : A.sz = 10) (h : St W0 (C :: L) W) [hr : Rd W0 L a A l] (hp : PredL PR A true C fv p l) (hl : l.length < 4611686018427387904)
  (hk : ∀ W', St W0 (C :: L) W' → k (.int .i64 (match l.findIdx? p with | some i => (i : Int) | none => -1)) W') : callK PR F_slices_IndexFunc_order_Inst_order_Inst [.slice a l.length c, fv] k W := by
 apply S.slices_IndexFunc_order_Inst_order_Inst.call
 unfold S.slices_IndexFunc_order_Inst_order_Inst.body
 simp -implicitDefEqProofs only [SE, SU, SV]
 refine loop_c (σ := Unit) l.length (fun i _ => [.slice a l.length c, fv, .int .i64 l.length, .int .i64 i]) (fun i _ W1 => (∀ j, (hj : j < l.length) → j < i → p l[j] = false) ∧ St W0 (C :: L) W1) () rfl ⟨fun j _ h => by omega, h⟩ ?_
 clear h
 rintro K i _ W1 hi ⟨hno, h⟩ hK
 simp -implicitDefEqProofs only [SE, SU, SV]
 unfold S.slices_IndexFunc_order_Inst_order_Inst.l1
 simp -implicitDefEqProofs only [SE, SU, SV]
 refine ifK_d (fun hlt => ?_) (fun hge => ?_)
 ·have hib : i < l.length := by omega
  refine ixA (i := i) (a := a) (l := l) (A := A) (by first | assumption | exact St.tick (by assumption) | exact St.tick (St.tick (by assumption))) hs rfl hib fun g o ha => ?_
  cases ha
  refine ldA0 (l := l) (A := A) (by first | assumption | exact St.tick (by assumption) | exact St.tick (St.tick (by assumption))) hs hib (getL_val hs (by decide) _) (by simp) ?_
  refine hp l[i] (List.getElem_mem hib) W0 L W1 _ h fun W2 h => ?_
  cases hpx : p l[i] with
  | true =>
   simp -implicitDefEqProofs only [SE, SU, SV]
   have : l.findIdx? p = some i := by
    rw [List.findIdx?_eq_some_iff_getElem]
    exact ⟨hib, hpx, fun j hj => by rw [hno j (by omega) hj]; simp⟩
   rw [this] at hk
   exact hk _ h
  | false =>
   have ew : IntKind.i64.wrap ((i : Int) + 1) = ((i + 1 : Nat) : Int) := by rw [i64w]; omega
   simp -implicitDefEqProofs only [SE, SU, SV, ew]
   refine hK () _ hib ⟨fun j hj hji => ?_, h⟩
   by_cases e : j = i
   ·subst e; exact hpx
   ·exact hno j hj (by omega)
 ·have : l.findIdx? p = none := by
   rw [List.findIdx?_eq_none_iff]
   intro x hx
   obtain ⟨j, hj, rfl⟩ := List.getElem_of_mem hx
   exact hno j hj (by omega)
  rw [this] at hk
  exact hk _ h
theorem deleteFunc_order_Inst_order_Inst {a : Option Addr} {c : Nat} {l : List α} {k : Value → World → Prop} (hs : A.sz = 10) (h : St W0 (C :: arr A T_order_Inst a c l :: L) W) (hp : PredL PR A true C fv p l) (hl : l.length < 4611686018427387904)
  (hk : ∀ W', St W0 (C :: arr A T_order_Inst a c (l.filter (!p ·)) :: L) W' → k (.slice a (l.filter (!p ·)).length c) W') : callK PR F_slices_DeleteFunc_order_Inst_order_Inst [.slice a l.length c, fv] k W := by
 apply S.slices_DeleteFunc_order_Inst_order_Inst.call
 unfold S.slices_DeleteFunc_order_Inst_order_Inst.body
 refine indexFunc_order_Inst_order_Inst (a := a) (l := l) hs h hp hl fun W1 h => ?_
 cases hf : l.findIdx? p with
 | none =>
  have : l.filter (!p ·) = l := by
   rw [List.filter_eq_self]
   intro x hx
   rw [List.findIdx?_eq_none_iff] at hf
   simp [hf x hx]
  rw [this] at hk
  (repeat simp -implicitDefEqProofs only [SE, SU, SV])
  exact hk _ h
 | some i =>
  rw [List.findIdx?_eq_some_iff_getElem] at hf
  obtain ⟨hil, hpi, hno⟩ := hf
  have e1 : decide ((i : Int) = -1) = false := decide_eq_false (by omega)
  have ew : IntKind.i64.wrap ((i : Int) + 1) = ((i + 1 : Nat) : Int) := by rw [i64w]; omega
  simp only []
  simp -implicitDefEqProofs only [SE, SU, SV, e1]
  refine joinK_i ?_
  simp -implicitDefEqProofs only [SE, SU, SV, ew]
  have hpre : (l.take (i + 1)).filter (!p ·) = l.take i := by
   rw [List.take_succ_eq_append_getElem hil, List.filter_append]
   rw [show (l.take i).filter (!p ·) = l.take i by
    rw [List.filter_eq_self]
    intro x hx
    obtain ⟨j, hj, rfl⟩ := List.getElem_of_mem hx
    simp only [List.length_take] at hj
    rw [List.getElem_take]
    have := hno j (by omega)
    simpa using this]
   simp [hpi]
  refine loop_x (σ := Nat × Nat × List α) (fun x => [.slice a l.length c, fv, .int .i64 x.1, .int .i64 x.2.1])
   (fun x W1 => x.1 < x.2.1 ∧ x.2.1 ≤ l.length ∧ x.2.2.length = l.length ∧ x.2.2.take x.1 = (l.take x.2.1).filter (!p ·) ∧ (∀ j, x.2.1 ≤ j → x.2.2[j]? = l[j]?) ∧ St W0 (C :: arr A T_order_Inst a c x.2.2 :: L) W1)
   (fun x => l.length - x.2.1) (i, i + 1, l) rfl ⟨by simp, by simp only; omega, rfl, hpre.symm, fun _ _ => rfl, h⟩ ?_
  clear h hpre
  rintro K ⟨q, j, m⟩ W2 ⟨hqj, hjl, hml, hpre, hsuf, h⟩ hK
  simp only at hqj hjl hml hpre hsuf h hK ⊢
  simp -implicitDefEqProofs only [SE, SU, SV]
  unfold S.slices_DeleteFunc_order_Inst_order_Inst.l1
  simp -implicitDefEqProofs only [SE, SU, SV]
  refine ifK_d (fun hlt => ?_) (fun hge => ?_)
  ·have hjm : j < m.length := by omega
   have hjb : j < l.length := by omega
   have hmj : m[j] = l[j] := by
    have := hsuf j (Nat.le_refl _)
    rw [List.getElem?_eq_getElem hjm, List.getElem?_eq_getElem hjb] at this
    exact Option.some.inj this
   refine joinK_i ?_
   rw [← hml]
   refine ixA (i := j) (a := a) (l := m) (A := A) (by first | assumption | exact St.tick (by assumption) | exact St.tick (St.tick (by assumption))) hs rfl hjm fun g o ha => ?_
   cases ha
   refine ldA0 (l := m) (A := A) (by first | assumption | exact St.tick (by assumption) | exact St.tick (St.tick (by assumption))) hs hjm (getL_val hs (by decide) _) (by simp) ?_
   rw [hmj]
   have ew : IntKind.i64.wrap ((j : Int) + 1) = ((j + 1 : Nat) : Int) := by rw [i64w]; omega
   have ew2 : IntKind.i64.wrap ((q : Int) + 1) = ((q + 1 : Nat) : Int) := by rw [i64w]; omega
   refine newV (A := A) l[j] h hs (by decide) rfl fun b W3 h => ?_
   refine ldV (A := A) l[j] h hs (by decide) ?_
   refine hp l[j] (List.getElem_mem hjb) W0 _ _ _ (h.ent (ent.swap _ _ _)) fun W4 h => ?_
   cases hpx : p l[j] with
   | true =>
    simp -implicitDefEqProofs only [SE, SU, SV]
    unfold S.slices_DeleteFunc_order_Inst_order_Inst.j2
    simp -implicitDefEqProofs only [SE, SU, SV, ew]
    rw [hml]
    refine hK (q, j + 1, m) _ (by simp only; omega) ⟨by simp only; omega, by simp only; omega, hml, ?_, fun j' hj' => hsuf j' (by simp only at hj'; omega), h.drop2⟩
    simp only
    rw [hpre, List.take_succ_eq_append_getElem hjb, List.filter_append]
    simp [hpx]
   | false =>
    simp -implicitDefEqProofs only [SE, SU, SV]
    refine ldV (A := A) l[j] h hs (by decide) ?_
    refine ixA (i := q) (a := some ⟨g, o, none⟩) (l := m) (A := A) (by first | assumption | exact St.tick (by assumption) | exact St.tick (St.tick (by assumption))) hs rfl (by omega) fun g' o' ha => ?_
    cases ha
    refine stA (g := g) (o := o) (agg := true) (l := m) (A := A) (x := l[j]) (by first | assumption | exact St.tick (by assumption) | exact St.tick (St.tick (by assumption))) hs (by omega) (val_cells hs (by decide) _) fun W3 h => ?_
    simp -implicitDefEqProofs only [SE, SU, SV, ew2]
    unfold S.slices_DeleteFunc_order_Inst_order_Inst.j2
    simp -implicitDefEqProofs only [SE, SU, SV, ew]
    rw [hml]
    refine hK (q + 1, j + 1, m.set q l[j]) _ (by simp only; omega) ⟨by simp only; omega, by simp only; omega, by simp [hml], ?_, fun j' hj' => ?_, ?_⟩
    ·simp only
     rw [List.take_succ_eq_append_getElem (by rw [List.length_set]; omega), List.take_set_of_le (Nat.le_refl _), hpre, List.take_succ_eq_append_getElem hjb, List.filter_append]
     simp [hpx]
    ·simp only at hj' ⊢
     rw [List.getElem?_set_ne (by omega)]
     exact hsuf j' (by omega)
    ·exact (h.ent (ent.rot3 _ _ _ _)).drop2
  ·unfold S.slices_DeleteFunc_order_Inst_order_Inst.j1
   have hjn : j = l.length := by omega
   subst hjn
   rw [List.take_length] at hpre
   have hqc : q ≤ c := by have := (h.ent (ent.swap _ _ _)).arrFacts; omega
   refine okF_i (slcS_eq (n := l.length) (c := c) (l := q) (h := l.length) bnd_none (bnd_nat (by omega))) ?_
   refine clrA (a := a) (l := m) (L' := C :: L) (i := q) (A := A) (by first | assumption | exact St.tick (by assumption) | exact St.tick (St.tick (by assumption))) hs rfl (by omega) rfl (by rw [hml]) fun W3 h => ?_
   rw [hpre] at h
   have hql : q = (l.filter (!p ·)).length := by rw [← hpre, List.length_take]; omega
   refine slc_pre (L := C :: L) (A := A) (e := T_order_Inst) h hqc ?_
   rw [hql]
   exact hk _ (h.ent (ent.swap _ _ _))
end
end Go.Proofs.YtkjhccpanedccaaGreat
