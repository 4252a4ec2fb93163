/- Texts of the claim DiskKnown, joined: CDisk6, ShDiskL, Opn, Opn2, LDisk. -/
import Derived.Test.YthladblmjoaeoaaBDiskKnown5
import Derived.Test.YthladblmjoaeoaaBDiskKnown4
import Derived.Test.YthladblmjoaeoaaBDiskKnown3
import Derived.Deep.Slices
import Derived.OpenShut
import Derived.ShutString
import Derived.ChangeOld
import Derived.Carry
import Derived.Test.YthladblmjoaeoaaBDiskKnown2
namespace Go.Proofs.Ythladblmjoaeoaa
set_option linter.unusedVariables false
set_option linter.unusedSimpArgs false
open Go Go.Eng

def DS.files (d : DS) : List Int := if d.on then (d.fs.map (·.1)).mergeSort (fun x y => decide (x ≤ y)) else []
def DS.spoil (d : DS) (f at' : Int) (b : UInt8) : DS × Bool :=
  if d.find f ≠ 0 ∨ at' < 0 ∨ ((cont d.fs f).length : Int) ≤ at' ∨ b = 0 then (d, false)
  else ({ d with fs := mput d.fs f ((cont d.fs f).set at'.toNat ((cont d.fs f).getD at'.toNat 0 ^^^ b)) }, true)
theorem mputSame {κ β : Type} [DecidableEq κ] {l : List (κ × β)} {k : κ} {v : β} (h : mget l k = some v) : mput l k v = l := by
  induction l with
  | nil => cases h
  | cons p l ih =>
    obtain ⟨a, b⟩ := p
    by_cases hk : a = k
    · subst hk
      simp only [mget, if_true, Option.some.injEq] at h
      subst h
      simp [mput]
    · simp only [mget, if_neg hk] at h
      simp only [mput, if_neg hk, ih h]
theorem xor8 (a b : UInt8) : IntKind.u8.wrap (BitVec.ofInt 8 (a.toNat : Int) ^^^ BitVec.ofInt 8 (b.toNat : Int)).toNat = ((a ^^^ b).toNat : Int) := by
  have e1 : (BitVec.ofInt 8 (a.toNat : Int) ^^^ BitVec.ofInt 8 (b.toNat : Int)).toNat = (a ^^^ b).toNat := by
    rw [BitVec.toNat_xor, UInt8.toNat_xor]
    have ha := a.toNat_lt
    have hb := b.toNat_lt
    rw [BitVec.ofInt_natCast, BitVec.ofInt_natCast, BitVec.toNat_ofNat, BitVec.toNat_ofNat, Nat.mod_eq_of_lt ha, Nat.mod_eq_of_lt hb]
  rw [e1]
  have := (a ^^^ b).toNat_lt
  show ((((a ^^^ b).toNat : Int)) % 256) = _
  omega
theorem wf64i {x : Int} (h0 : -9223372036854775808 ≤ x) (h1 : x ≤ 9223372036854775807) : (Lit.int .i64 x).wf = true := by
  show (decide ((-9223372036854775808 : Int) ≤ x) && decide (x ≤ (9223372036854775807 : Int))) = true
  rw [decide_eq_true h0, decide_eq_true h1]; rfl
section
variable {W0 W : World} {L L' : List Asn}
theorem lawInts {a b : Option Addr} {c d : Nat} {l m : List Int} {k : Value → World → Prop} (h : St W0 L W) [hr : Rd W0 L a I64 l] [hr2 : Rd W0 L b I64 m] (hl : l.length < 4611686018427387904)
    (hk : ∀ W', St W0 L W' → k (.bool (decide (l = m))) W') : callK PR F_rostrumlaw5_ints [.slice a l.length c, .slice b m.length d] k W := by
  apply S.rostrumlaw5_ints.call
  unfold S.rostrumlaw5_ints.body
  by_cases hn : l.length = m.length
  · have f1 := decide_eq_true hn
    have f1' : decide ((l.length : Int) = (m.length : Int)) = true := decide_eq_true (by omega)
    (repeat (first | (first | (with_reducible (first | refine w1 fun _ _ => ?_ | refine w3 fun _ _ _ => ?_ | refine w4 fun _ _ _ => ?_ | refine w11 fun _ _ _ => ?_ | refine stb_n ?_)) | ((with_reducible refine w2 ?_); try simp -implicitDefEqProofs only [EN, lsub, lget, stL, beq_self_eq_true, ne_eq, if_true, if_false, List.cons_append, List.nil_append, Option.isNone_some, Option.isNone_none, f1']; intro _ _) | ((with_reducible (first | refine w5 ?_ ?_ | refine w6 ?_ ?_ | refine w7 ?_ ?_)); simp; refine ⟨_, rfl, ?_⟩) | ((with_reducible (first | refine w8 ?_ ?_ ?_ | refine w9 ?_ ?_ ?_ | refine w10 ?_ ?_ ?_)); exact rfl; simp) | ((with_reducible refine w12 ?_ ?_ ?_ fun _ _ => ?_); simp; simp; simp [oneC]) | ((with_reducible (first | refine eqs ?_ | refine nes ?_)); refine ⟨_, rfl, ?_⟩) | ((refine okF_i (bldP_eq rfl) ?_); try simp only [BLS, List.take_succ_cons, List.take_zero, List.drop_succ_cons, List.drop_zero, List.cons_append, List.nil_append, Nat.reduceAdd])) | simp -implicitDefEqProofs only [EN, lsub, lget, stL, beq_self_eq_true, ne_eq, if_true, if_false, List.cons_append, List.nil_append, Option.isNone_some, Option.isNone_none, f1']))
    refine loop_c (σ := Unit) l.length (fun i _ => [.slice a l.length c, .slice b m.length d, .int .i64 i]) (fun i _ W1 => (∀ j (hj : j < l.length), j < i → l[j] = m[j]'(by omega)) ∧ St W0 L W1) () rfl ⟨fun j _ h => by omega, h⟩ ?_
    clear h
    rintro K i _ W1 hi ⟨hall, h⟩ hK
    simp -implicitDefEqProofs only [EN, lsub, lget, stL, beq_self_eq_true, ne_eq, if_true, if_false, List.cons_append, List.nil_append, Option.isNone_some, Option.isNone_none]
    unfold S.rostrumlaw5_ints.l1
    by_cases hlt : (i : Int) < (l.length : Int)
    · have hib : i < l.length := by omega
      have hib2 : i < m.length := by omega
      have ew : IntKind.i64.wrap ((i : Int) + 1) = ((i + 1 : Nat) : Int) := by rw [i64w]; omega
      (repeat (first | (first | (with_reducible (first | refine w1 fun _ _ => ?_ | refine w3 fun _ _ _ => ?_ | refine w4 fun _ _ _ => ?_ | refine w11 fun _ _ _ => ?_ | refine stb_n ?_)) | ((with_reducible refine w2 ?_); try simp -implicitDefEqProofs only [EN, lsub, lget, stL, beq_self_eq_true, ne_eq, if_true, if_false, List.cons_append, List.nil_append, Option.isNone_some, Option.isNone_none, hlt]; intro _ _) | ((with_reducible (first | refine w5 ?_ ?_ | refine w6 ?_ ?_ | refine w7 ?_ ?_)); simp; refine ⟨_, rfl, ?_⟩) | ((with_reducible (first | refine w8 ?_ ?_ ?_ | refine w9 ?_ ?_ ?_ | refine w10 ?_ ?_ ?_)); exact rfl; simp) | ((with_reducible refine w12 ?_ ?_ ?_ fun _ _ => ?_); simp; simp; simp [oneC]) | ((with_reducible (first | refine eqs ?_ | refine nes ?_)); refine ⟨_, rfl, ?_⟩) | ((refine okF_i (bldP_eq rfl) ?_); try simp only [BLS, List.take_succ_cons, List.take_zero, List.drop_succ_cons, List.drop_zero, List.cons_append, List.nil_append, Nat.reduceAdd])) | simp -implicitDefEqProofs only [EN, lsub, lget, stL, beq_self_eq_true, ne_eq, if_true, if_false, List.cons_append, List.nil_append, Option.isNone_some, Option.isNone_none, hlt]))
      refine ixA (i := i) (a := a) (l := l) (A := I64) h.tick rfl rfl hib fun g o ha => ?_
      cases ha
      refine ldA0 (i := i) (l := l) (A := I64) h.tick rfl hib (v := .int .i64 l[i]) rfl (by simp) ?_
      refine ixA (i := i) (a := b) (l := m) (A := I64) h.tick rfl rfl hib2 fun g' o' ha => ?_
      cases ha
      refine ldA0 (i := i) (l := m) (A := I64) h.tick rfl hib2 (v := .int .i64 m[i]) rfl (by simp) ?_
      by_cases he : l[i] = m[i]
      · have f2 := decide_eq_true he
        (repeat (first | (first | (with_reducible (first | refine w1 fun _ _ => ?_ | refine w3 fun _ _ _ => ?_ | refine w4 fun _ _ _ => ?_ | refine w11 fun _ _ _ => ?_ | refine stb_n ?_)) | ((with_reducible refine w2 ?_); try simp -implicitDefEqProofs only [EN, lsub, lget, stL, beq_self_eq_true, ne_eq, if_true, if_false, List.cons_append, List.nil_append, Option.isNone_some, Option.isNone_none, f2, ew]; intro _ _) | ((with_reducible (first | refine w5 ?_ ?_ | refine w6 ?_ ?_ | refine w7 ?_ ?_)); simp; refine ⟨_, rfl, ?_⟩) | ((with_reducible (first | refine w8 ?_ ?_ ?_ | refine w9 ?_ ?_ ?_ | refine w10 ?_ ?_ ?_)); exact rfl; simp) | ((with_reducible refine w12 ?_ ?_ ?_ fun _ _ => ?_); simp; simp; simp [oneC]) | ((with_reducible (first | refine eqs ?_ | refine nes ?_)); refine ⟨_, rfl, ?_⟩) | ((refine okF_i (bldP_eq rfl) ?_); try simp only [BLS, List.take_succ_cons, List.take_zero, List.drop_succ_cons, List.drop_zero, List.cons_append, List.nil_append, Nat.reduceAdd])) | simp -implicitDefEqProofs only [EN, lsub, lget, stL, beq_self_eq_true, ne_eq, if_true, if_false, List.cons_append, List.nil_append, Option.isNone_some, Option.isNone_none, f2, ew]))
        refine hK () _ hib ⟨fun j hj h1 => ?_, h.tick⟩
        by_cases e : j = i
        · subst e; exact he
        · exact hall j hj (by omega)
      · have f2 := decide_eq_false he
        have f3 : decide (l = m) = false := decide_eq_false fun e => he (by subst e; rfl)
        rw [f3] at hk
        (repeat (first | (first | (with_reducible (first | refine w1 fun _ _ => ?_ | refine w3 fun _ _ _ => ?_ | refine w4 fun _ _ _ => ?_ | refine w11 fun _ _ _ => ?_ | refine stb_n ?_)) | ((with_reducible refine w2 ?_); try simp -implicitDefEqProofs only [EN, lsub, lget, stL, beq_self_eq_true, ne_eq, if_true, if_false, List.cons_append, List.nil_append, Option.isNone_some, Option.isNone_none, f2]; intro _ _) | ((with_reducible (first | refine w5 ?_ ?_ | refine w6 ?_ ?_ | refine w7 ?_ ?_)); simp; refine ⟨_, rfl, ?_⟩) | ((with_reducible (first | refine w8 ?_ ?_ ?_ | refine w9 ?_ ?_ ?_ | refine w10 ?_ ?_ ?_)); exact rfl; simp) | ((with_reducible refine w12 ?_ ?_ ?_ fun _ _ => ?_); simp; simp; simp [oneC]) | ((with_reducible (first | refine eqs ?_ | refine nes ?_)); refine ⟨_, rfl, ?_⟩) | ((refine okF_i (bldP_eq rfl) ?_); try simp only [BLS, List.take_succ_cons, List.take_zero, List.drop_succ_cons, List.drop_zero, List.cons_append, List.nil_append, Nat.reduceAdd])) | simp -implicitDefEqProofs only [EN, lsub, lget, stL, beq_self_eq_true, ne_eq, if_true, if_false, List.cons_append, List.nil_append, Option.isNone_some, Option.isNone_none, f2]))
        exact hk _ h.tick
    · have f3 : decide (l = m) = true := decide_eq_true (List.ext_getElem hn fun j hj _ => hall j hj (by omega))
      rw [f3] at hk
      (repeat (first | (first | (with_reducible (first | refine w1 fun _ _ => ?_ | refine w3 fun _ _ _ => ?_ | refine w4 fun _ _ _ => ?_ | refine w11 fun _ _ _ => ?_ | refine stb_n ?_)) | ((with_reducible refine w2 ?_); try simp -implicitDefEqProofs only [EN, lsub, lget, stL, beq_self_eq_true, ne_eq, if_true, if_false, List.cons_append, List.nil_append, Option.isNone_some, Option.isNone_none, hlt]; intro _ _) | ((with_reducible (first | refine w5 ?_ ?_ | refine w6 ?_ ?_ | refine w7 ?_ ?_)); simp; refine ⟨_, rfl, ?_⟩) | ((with_reducible (first | refine w8 ?_ ?_ ?_ | refine w9 ?_ ?_ ?_ | refine w10 ?_ ?_ ?_)); exact rfl; simp) | ((with_reducible refine w12 ?_ ?_ ?_ fun _ _ => ?_); simp; simp; simp [oneC]) | ((with_reducible (first | refine eqs ?_ | refine nes ?_)); refine ⟨_, rfl, ?_⟩) | ((refine okF_i (bldP_eq rfl) ?_); try simp only [BLS, List.take_succ_cons, List.take_zero, List.drop_succ_cons, List.drop_zero, List.cons_append, List.nil_append, Nat.reduceAdd])) | simp -implicitDefEqProofs only [EN, lsub, lget, stL, beq_self_eq_true, ne_eq, if_true, if_false, List.cons_append, List.nil_append, Option.isNone_some, Option.isNone_none, hlt]))
      exact hk _ h
  · have f1' : decide ((l.length : Int) = (m.length : Int)) = false := decide_eq_false (by omega)
    have f3 : decide (l = m) = false := decide_eq_false fun e => hn (by rw [e])
    rw [f3] at hk
    (repeat (first | (first | (with_reducible (first | refine w1 fun _ _ => ?_ | refine w3 fun _ _ _ => ?_ | refine w4 fun _ _ _ => ?_ | refine w11 fun _ _ _ => ?_ | refine stb_n ?_)) | ((with_reducible refine w2 ?_); try simp -implicitDefEqProofs only [EN, lsub, lget, stL, beq_self_eq_true, ne_eq, if_true, if_false, List.cons_append, List.nil_append, Option.isNone_some, Option.isNone_none, f1']; intro _ _) | ((with_reducible (first | refine w5 ?_ ?_ | refine w6 ?_ ?_ | refine w7 ?_ ?_)); simp; refine ⟨_, rfl, ?_⟩) | ((with_reducible (first | refine w8 ?_ ?_ ?_ | refine w9 ?_ ?_ ?_ | refine w10 ?_ ?_ ?_)); exact rfl; simp) | ((with_reducible refine w12 ?_ ?_ ?_ fun _ _ => ?_); simp; simp; simp [oneC]) | ((with_reducible (first | refine eqs ?_ | refine nes ?_)); refine ⟨_, rfl, ?_⟩) | ((refine okF_i (bldP_eq rfl) ?_); try simp only [BLS, List.take_succ_cons, List.take_zero, List.drop_succ_cons, List.drop_zero, List.cons_append, List.nil_append, Nat.reduceAdd])) | simp -implicitDefEqProofs only [EN, lsub, lget, stL, beq_self_eq_true, ne_eq, if_true, if_false, List.cons_append, List.nil_append, Option.isNone_some, Option.isNone_none, f1']))
    exact hk _ h
theorem diskFiles {p : Nat} {d : DS} {k : Value → World → Prop} (h : St W0 L W) (h0 : W0.drawn = 0) [ht : Tk (dk p) L d L'] (hl : d.fs.length ≤ 1000) (hw : ∀ x ∈ d.fs, 0 ≤ x.1 ∧ x.1 < 1000)
    (hk : ∀ a c W', St W0 (arr I64 T_int a c d.files :: dk p d :: L') W' → k (.slice a d.files.length c) W') : callK PR F_disk_Disk_Files [.pointer (some ⟨p, 0, none⟩)] k W := by
  apply S.disk_Disk_Files.call
  unfold S.disk_Disk_Files.body
  obtain ⟨r, a, c, fs, hf, h⟩ := dk_at (h.perm ht.perm)
  unfold DS.files at hk
  cases hon : d.on with
  | false =>
    rw [hon] at hk h
    (repeat (first | (first | (with_reducible (first | refine w1 fun _ _ => ?_ | refine w3 fun _ _ _ => ?_ | refine w4 fun _ _ _ => ?_ | refine w11 fun _ _ _ => ?_ | refine stb_n ?_)) | ((with_reducible refine w2 ?_); try simp -implicitDefEqProofs only [EN, lsub, lget, stL, beq_self_eq_true, ne_eq, if_true, if_false, List.cons_append, List.nil_append, Option.isNone_some, Option.isNone_none]; intro _ _) | ((with_reducible (first | refine w5 ?_ ?_ | refine w6 ?_ ?_ | refine w7 ?_ ?_)); simp; refine ⟨_, rfl, ?_⟩) | ((with_reducible (first | refine w8 ?_ ?_ ?_ | refine w9 ?_ ?_ ?_ | refine w10 ?_ ?_ ?_)); exact rfl; simp) | ((with_reducible refine w12 ?_ ?_ ?_ fun _ _ => ?_); simp; simp; simp [oneC]) | ((with_reducible (first | refine eqs ?_ | refine nes ?_)); refine ⟨_, rfl, ?_⟩) | ((refine okF_i (bldP_eq rfl) ?_); try simp only [BLS, List.take_succ_cons, List.take_zero, List.drop_succ_cons, List.drop_zero, List.cons_append, List.nil_append, Nat.reduceAdd])) | simp -implicitDefEqProofs only [EN, lsub, lget, stL, beq_self_eq_true, ne_eq, if_true, if_false, List.cons_append, List.nil_append, Option.isNone_some, Option.isNone_none]))
    exact hk none 0 _ ((St.ent (by first | assumption | exact St.tick (by assumption) | exact St.tick (St.tick (by assumption))) (hon ▸ dk_ent (d := d) hf)).ent (arr_nil _ _))
  | true =>
    rw [hon, if_pos rfl] at hk
    rw [hon] at h
    (repeat (first | (first | (with_reducible (first | refine w1 fun _ _ => ?_ | refine w3 fun _ _ _ => ?_ | refine w4 fun _ _ _ => ?_ | refine w11 fun _ _ _ => ?_ | refine stb_n ?_)) | ((with_reducible refine w2 ?_); try simp -implicitDefEqProofs only [EN, lsub, lget, stL, beq_self_eq_true, ne_eq, if_true, if_false, List.cons_append, List.nil_append, Option.isNone_some, Option.isNone_none]; intro _ _) | ((with_reducible (first | refine w5 ?_ ?_ | refine w6 ?_ ?_ | refine w7 ?_ ?_)); simp; refine ⟨_, rfl, ?_⟩) | ((with_reducible (first | refine w8 ?_ ?_ ?_ | refine w9 ?_ ?_ ?_ | refine w10 ?_ ?_ ?_)); exact rfl; simp) | ((with_reducible refine w12 ?_ ?_ ?_ fun _ _ => ?_); simp; simp; simp [oneC]) | ((with_reducible (first | refine eqs ?_ | refine nes ?_)); refine ⟨_, rfl, ?_⟩) | ((refine okF_i (bldP_eq rfl) ?_); try simp only [BLS, List.take_succ_cons, List.take_zero, List.drop_succ_cons, List.drop_zero, List.cons_append, List.nil_append, Nat.reduceAdd])) | simp -implicitDefEqProofs only [EN, lsub, lget, stL, beq_self_eq_true, ne_eq, if_true, if_false, List.cons_append, List.nil_append, Option.isNone_some, Option.isNone_none]))
    refine keysI (ρ := layKeys_ren) layKeys h fun b W2 h => ?_
    have hlf : (mvs fs).length = d.fs.length := by rw [← hf]; simp
    have hkf : (mvs fs).map (·.1) = d.fs.map (·.1) := by rw [← hf]; simp
    have h := St.perm h (List.Perm.cons _ (List.Perm.swap _ _ _))
    refine sortedI (ρ := laySorted_ren) (g := layKeys_ren.f 10) laySorted (sortsI (ρ' := laySortI_ren) laySortI rfl) (enters_of Try.func63 (by kernel_rfl) rfl) (enters_of Try.func64 (by kernel_rfl) rfl) h h0 (by omega) (keysGive (ρ := layKeys_ren) layKeys h (by rw [hlf]; simp only [maxLen]; omega) fun x hx => ?_) fun a' c' ss W3 hS h => ?_
    · have hx2 : x.1 ∈ (mvs fs).map (·.1) := List.mem_map.2 ⟨x, hx, rfl⟩
      rw [hkf] at hx2
      obtain ⟨z, hz, hz2⟩ := List.mem_map.1 hx2
      have := hw z hz
      rw [show x.1 = z.1 from hz2.symm]
      exact wf64i (by omega) (by omega)
    · rw [hkf] at hS
      have e : (ss.mergeSort fun x y => decide (x ≤ y)) = (d.fs.map (·.1)).mergeSort fun x y => decide (x ≤ y) := mergeSort_of_perm_i hS
      rw [e] at h ⊢
      have h : St W0 (arr I64 T_int a' c' ((d.fs.map (·.1)).mergeSort fun x y => decide (x ≤ y)) :: _) W3 := h
      refine hk a' c' W3 ((St.wk (L' := arr I64 T_int a' c' _ :: cells p [.int .i64 d.room, .map (some r), .slice a d.ws.length c, .bool true, .int .i64 d.lives] T_disk_Disk :: mp KI r (mvs fs) :: arr WRT T_disk_write a c d.ws :: many fch (fs.map (fun x : Int × BSl => x.2)) :: L') h).ent (ent.cons _ ?_))
      exact hon ▸ dk_ent (d := d) hf
theorem diskSpoil {p : Nat} {d : DS} {f at' : Int} {b : UInt8} {k : Value → World → Prop} (h : St W0 L W) [ht : Tk (dk p) L d L'] (hd : d.ok)
    (hk : ∀ W', St W0 (dk p (d.spoil f at' b).1 :: L') W' → k (.bool (d.spoil f at' b).2) W') : callK PR F_disk_Disk_Spoil [.pointer (some ⟨p, 0, none⟩), .int .i64 f, .int .i64 at', b8 b] k W := by
  apply S.disk_Disk_Spoil.call
  unfold S.disk_Disk_Spoil.body
  refine diskFind h fun W1 h => ?_
  unfold DS.spoil at hk
  by_cases ha : d.find f = 0
  · have e1 : decide (d.find f = 0) = true := decide_eq_true ha
    by_cases h1 : at' < 0
    · rw [if_pos (.inr (.inl h1))] at hk
      (repeat (first | (first | (with_reducible (first | refine w1 fun _ _ => ?_ | refine w3 fun _ _ _ => ?_ | refine w4 fun _ _ _ => ?_ | refine w11 fun _ _ _ => ?_ | refine stb_n ?_)) | ((with_reducible refine w2 ?_); try simp -implicitDefEqProofs only [EN, lsub, lget, stL, beq_self_eq_true, ne_eq, if_true, if_false, List.cons_append, List.nil_append, Option.isNone_some, Option.isNone_none, e1, h1]; intro _ _) | ((with_reducible (first | refine w5 ?_ ?_ | refine w6 ?_ ?_ | refine w7 ?_ ?_)); simp; refine ⟨_, rfl, ?_⟩) | ((with_reducible (first | refine w8 ?_ ?_ ?_ | refine w9 ?_ ?_ ?_ | refine w10 ?_ ?_ ?_)); exact rfl; simp) | ((with_reducible refine w12 ?_ ?_ ?_ fun _ _ => ?_); simp; simp; simp [oneC]) | ((with_reducible (first | refine eqs ?_ | refine nes ?_)); refine ⟨_, rfl, ?_⟩) | ((refine okF_i (bldP_eq rfl) ?_); try simp only [BLS, List.take_succ_cons, List.take_zero, List.drop_succ_cons, List.drop_zero, List.cons_append, List.nil_append, Nat.reduceAdd])) | simp -implicitDefEqProofs only [EN, lsub, lget, stL, beq_self_eq_true, ne_eq, if_true, if_false, List.cons_append, List.nil_append, Option.isNone_some, Option.isNone_none, e1, h1]))
      exact hk _ h
    · obtain ⟨r, a, c, fs, hf, h⟩ := dk_at h
      have hcl := lens_cont d.fs f
      have hsm := (find_some ha).1
      rw [← hf, ← mget_mvs_some, mvs, mget_map] at hsm
      obtain ⟨y, hy⟩ : ∃ y, mget fs f = some y := by
        cases hm : mget fs f with
        | none => rw [hm] at hsm; cases hsm
        | some y => exact ⟨y, rfl⟩
      have ec : cont d.fs f = y.bs := by rw [← hf, cont_cts, hy]; rfl
      rw [ec] at hk hcl
      (repeat (first | (first | (with_reducible (first | refine w1 fun _ _ => ?_ | refine w3 fun _ _ _ => ?_ | refine w4 fun _ _ _ => ?_ | refine w11 fun _ _ _ => ?_ | refine stb_n ?_)) | ((with_reducible refine w2 ?_); try simp -implicitDefEqProofs only [EN, lsub, lget, stL, beq_self_eq_true, ne_eq, if_true, if_false, List.cons_append, List.nil_append, Option.isNone_some, Option.isNone_none, e1, h1]; intro _ _) | ((with_reducible (first | refine w5 ?_ ?_ | refine w6 ?_ ?_ | refine w7 ?_ ?_)); simp; refine ⟨_, rfl, ?_⟩) | ((with_reducible (first | refine w8 ?_ ?_ ?_ | refine w9 ?_ ?_ ?_ | refine w10 ?_ ?_ ?_)); exact rfl; simp) | ((with_reducible refine w12 ?_ ?_ ?_ fun _ _ => ?_); simp; simp; simp [oneC]) | ((with_reducible (first | refine eqs ?_ | refine nes ?_)); refine ⟨_, rfl, ?_⟩) | ((refine okF_i (bldP_eq rfl) ?_); try simp only [BLS, List.take_succ_cons, List.take_zero, List.drop_succ_cons, List.drop_zero, List.cons_append, List.nil_append, Nat.reduceAdd])) | simp -implicitDefEqProofs only [EN, lsub, lget, stL, beq_self_eq_true, ne_eq, if_true, if_false, List.cons_append, List.nil_append, Option.isNone_some, Option.isNone_none, e1, h1]))
      refine lkp (K := KI) (z := .slice none 0 0) f (by first | assumption | exact St.tick (by assumption) | exact St.tick (St.tick (by assumption))) ?_
      rw [mget_mvs, hy]
      simp only [Option.getD_some]
      by_cases h2 : (y.bs.length : Int) ≤ at'
      · rw [if_pos (.inr (.inr (.inl h2)))] at hk
        (repeat (first | (first | (with_reducible (first | refine w1 fun _ _ => ?_ | refine w3 fun _ _ _ => ?_ | refine w4 fun _ _ _ => ?_ | refine w11 fun _ _ _ => ?_ | refine stb_n ?_)) | ((with_reducible refine w2 ?_); try simp -implicitDefEqProofs only [EN, lsub, lget, stL, beq_self_eq_true, ne_eq, if_true, if_false, List.cons_append, List.nil_append, Option.isNone_some, Option.isNone_none, h2]; intro _ _) | ((with_reducible (first | refine w5 ?_ ?_ | refine w6 ?_ ?_ | refine w7 ?_ ?_)); simp; refine ⟨_, rfl, ?_⟩) | ((with_reducible (first | refine w8 ?_ ?_ ?_ | refine w9 ?_ ?_ ?_ | refine w10 ?_ ?_ ?_)); exact rfl; simp) | ((with_reducible refine w12 ?_ ?_ ?_ fun _ _ => ?_); simp; simp; simp [oneC]) | ((with_reducible (first | refine eqs ?_ | refine nes ?_)); refine ⟨_, rfl, ?_⟩) | ((refine okF_i (bldP_eq rfl) ?_); try simp only [BLS, List.take_succ_cons, List.take_zero, List.drop_succ_cons, List.drop_zero, List.cons_append, List.nil_append, Nat.reduceAdd])) | simp -implicitDefEqProofs only [EN, lsub, lget, stL, beq_self_eq_true, ne_eq, if_true, if_false, List.cons_append, List.nil_append, Option.isNone_some, Option.isNone_none, h2]))
        exact hk _ (St.ent (by first | assumption | exact St.tick (by assumption) | exact St.tick (St.tick (by assumption))) (dk_ent (d := d) hf))
      · by_cases h3 : b = 0
        · rw [if_pos (.inr (.inr (.inr h3)))] at hk
          subst h3
          (repeat (first | (first | (with_reducible (first | refine w1 fun _ _ => ?_ | refine w3 fun _ _ _ => ?_ | refine w4 fun _ _ _ => ?_ | refine w11 fun _ _ _ => ?_ | refine stb_n ?_)) | ((with_reducible refine w2 ?_); try simp -implicitDefEqProofs only [EN, lsub, lget, stL, beq_self_eq_true, ne_eq, if_true, if_false, List.cons_append, List.nil_append, Option.isNone_some, Option.isNone_none, h2]; intro _ _) | ((with_reducible (first | refine w5 ?_ ?_ | refine w6 ?_ ?_ | refine w7 ?_ ?_)); simp; refine ⟨_, rfl, ?_⟩) | ((with_reducible (first | refine w8 ?_ ?_ ?_ | refine w9 ?_ ?_ ?_ | refine w10 ?_ ?_ ?_)); exact rfl; simp) | ((with_reducible refine w12 ?_ ?_ ?_ fun _ _ => ?_); simp; simp; simp [oneC]) | ((with_reducible (first | refine eqs ?_ | refine nes ?_)); refine ⟨_, rfl, ?_⟩) | ((refine okF_i (bldP_eq rfl) ?_); try simp only [BLS, List.take_succ_cons, List.take_zero, List.drop_succ_cons, List.drop_zero, List.cons_append, List.nil_append, Nat.reduceAdd])) | simp -implicitDefEqProofs only [EN, lsub, lget, stL, beq_self_eq_true, ne_eq, if_true, if_false, List.cons_append, List.nil_append, Option.isNone_some, Option.isNone_none, h2]))
          exact hk _ (St.ent (by first | assumption | exact St.tick (by assumption) | exact St.tick (St.tick (by assumption))) (dk_ent (d := d) hf))
        · have e3 : decide ((b.toNat : Int) = 0) = false := decide_eq_false fun e => h3 (UInt8.toNat.inj (by show b.toNat = 0; omega))
          rw [if_neg (fun h => h.elim (· ha) fun h => h.elim h1 fun h => h.elim h2 h3)] at hk
          rw [show b8 b = .int .u8 (b.toNat : Int) from rfl]
          (repeat (first | (first | (with_reducible (first | refine w1 fun _ _ => ?_ | refine w3 fun _ _ _ => ?_ | refine w4 fun _ _ _ => ?_ | refine w11 fun _ _ _ => ?_ | refine stb_n ?_)) | ((with_reducible refine w2 ?_); try simp -implicitDefEqProofs only [EN, lsub, lget, stL, beq_self_eq_true, ne_eq, if_true, if_false, List.cons_append, List.nil_append, Option.isNone_some, Option.isNone_none, h2, e3]; intro _ _) | ((with_reducible (first | refine w5 ?_ ?_ | refine w6 ?_ ?_ | refine w7 ?_ ?_)); simp; refine ⟨_, rfl, ?_⟩) | ((with_reducible (first | refine w8 ?_ ?_ ?_ | refine w9 ?_ ?_ ?_ | refine w10 ?_ ?_ ?_)); exact rfl; simp) | ((with_reducible refine w12 ?_ ?_ ?_ fun _ _ => ?_); simp; simp; simp [oneC]) | ((with_reducible (first | refine eqs ?_ | refine nes ?_)); refine ⟨_, rfl, ?_⟩) | ((refine okF_i (bldP_eq rfl) ?_); try simp only [BLS, List.take_succ_cons, List.take_zero, List.drop_succ_cons, List.drop_zero, List.cons_append, List.nil_append, Nat.reduceAdd])) | simp -implicitDefEqProofs only [EN, lsub, lget, stL, beq_self_eq_true, ne_eq, if_true, if_false, List.cons_append, List.nil_append, Option.isNone_some, Option.isNone_none, h2, e3]))
          refine lkp (K := KI) (z := .slice none 0 0) f (by first | assumption | exact St.tick (by assumption) | exact St.tick (St.tick (by assumption))) ?_
          rw [mget_mvs, hy]
          simp only [Option.getD_some]
          obtain ⟨i, rfl⟩ : ∃ i : Nat, at' = (i : Int) := ⟨at'.toNat, by omega⟩
          have hib : i < y.bs.length := by omega
          rw [Int.toNat_natCast] at hk
          have h' := St.ent (by first | assumption | exact St.tick (by assumption) | exact St.tick (St.tick (by assumption))) (ent.cons _ (ent.cons _ (ent.cons _ (many_take (F := fch) f ⟨none, 0, []⟩ fch0))))
          rw [hy] at h'
          simp only [Option.getD_some] at h'
          have h := (show St W0 (_ :: _ :: _ :: arr B8 T_uint8 y.a y.c y.bs :: _) _ from h')
          clear h'
          refine ixA (i := i) (a := y.a) (l := y.bs) (A := B8) h rfl rfl hib fun g o ha => ?_
          rw [ha] at h
          refine ldA0 (i := i) (l := y.bs) (A := B8) h rfl hib (v := b8 y.bs[i]) rfl (by simp) ?_
          have ex := xor8 y.bs[i] b
          rw [show b8 y.bs[i] = .int .u8 (y.bs[i].toNat : Int) from rfl]
          (repeat (first | (first | (with_reducible (first | refine w1 fun _ _ => ?_ | refine w3 fun _ _ _ => ?_ | refine w4 fun _ _ _ => ?_ | refine w11 fun _ _ _ => ?_ | refine stb_n ?_)) | ((with_reducible refine w2 ?_); try simp -implicitDefEqProofs only [EN, lsub, lget, stL, beq_self_eq_true, ne_eq, if_true, if_false, List.cons_append, List.nil_append, Option.isNone_some, Option.isNone_none, ex]; intro _ _) | ((with_reducible (first | refine w5 ?_ ?_ | refine w6 ?_ ?_ | refine w7 ?_ ?_)); simp; refine ⟨_, rfl, ?_⟩) | ((with_reducible (first | refine w8 ?_ ?_ ?_ | refine w9 ?_ ?_ ?_ | refine w10 ?_ ?_ ?_)); exact rfl; simp) | ((with_reducible refine w12 ?_ ?_ ?_ fun _ _ => ?_); simp; simp; simp [oneC]) | ((with_reducible (first | refine eqs ?_ | refine nes ?_)); refine ⟨_, rfl, ?_⟩) | ((refine okF_i (bldP_eq rfl) ?_); try simp only [BLS, List.take_succ_cons, List.take_zero, List.drop_succ_cons, List.drop_zero, List.cons_append, List.nil_append, Nat.reduceAdd])) | simp -implicitDefEqProofs only [EN, lsub, lget, stL, beq_self_eq_true, ne_eq, if_true, if_false, List.cons_append, List.nil_append, Option.isNone_some, Option.isNone_none, ex]))
          refine ixA (i := i) (a := y.a) (l := y.bs) (A := B8) (ha ▸ h) rfl rfl hib fun g2 o2 ha2 => ?_
          rw [ha] at ha2
          cases ha2
          refine stA (i := i) (x := y.bs[i] ^^^ b) (l := y.bs) (A := B8) h rfl hib (congrArg (fun n => [Value.int .u8 n]) ex) fun W3 h => ?_
          have eg : y.bs.getD i 0 = y.bs[i] := by rw [List.getD_eq_getElem?_getD, List.getElem?_eq_getElem hib]; rfl
          rw [eg] at hk
          have hv : BSl.v ⟨some ⟨g, o, none⟩, y.c, y.bs.set i (y.bs[i] ^^^ b)⟩ = y.v := by simp [BSl.v, ha]
          have hm : mvs fs = mvs (mput fs f ⟨some ⟨g, o, none⟩, y.c, y.bs.set i (y.bs[i] ^^^ b)⟩) := by
            rw [mvs, mvs, ← mput_map BSl.v fs f _, hv]
            exact (mputSame (by rw [mget_map, hy]; rfl)).symm
          rw [hm] at h
          refine hk _ ((St.wk (L' := cells p [.int .i64 d.room, .map (some r), .slice a d.ws.length c, .bool d.on, .int .i64 d.lives] T_disk_Disk :: mp KI r _ :: arr WRT T_disk_write a c d.ws :: fch ⟨some ⟨g, o, none⟩, y.c, y.bs.set i (y.bs[i] ^^^ b)⟩ :: many fch ((mdel fs f).map (fun x : Int × BSl => x.2)) :: L') h).ent ((ent.cons _ (ent.cons _ (ent.cons _ (many_put f _)))).trans (dk_ent (d := ⟨d.room, mput d.fs f (y.bs.set i (y.bs[i] ^^^ b)), d.ws, d.on, d.lives⟩) ?_)))
          rw [← hf]
          exact (mput_map BSl.bs fs f _).symm
  · have e1 : decide (d.find f = 0) = false := decide_eq_false ha
    rw [if_pos (.inl ha)] at hk
    (repeat (first | (first | (with_reducible (first | refine w1 fun _ _ => ?_ | refine w3 fun _ _ _ => ?_ | refine w4 fun _ _ _ => ?_ | refine w11 fun _ _ _ => ?_ | refine stb_n ?_)) | ((with_reducible refine w2 ?_); try simp -implicitDefEqProofs only [EN, lsub, lget, stL, beq_self_eq_true, ne_eq, if_true, if_false, List.cons_append, List.nil_append, Option.isNone_some, Option.isNone_none, e1]; intro _ _) | ((with_reducible (first | refine w5 ?_ ?_ | refine w6 ?_ ?_ | refine w7 ?_ ?_)); simp; refine ⟨_, rfl, ?_⟩) | ((with_reducible (first | refine w8 ?_ ?_ ?_ | refine w9 ?_ ?_ ?_ | refine w10 ?_ ?_ ?_)); exact rfl; simp) | ((with_reducible refine w12 ?_ ?_ ?_ fun _ _ => ?_); simp; simp; simp [oneC]) | ((with_reducible (first | refine eqs ?_ | refine nes ?_)); refine ⟨_, rfl, ?_⟩) | ((refine okF_i (bldP_eq rfl) ?_); try simp only [BLS, List.take_succ_cons, List.take_zero, List.drop_succ_cons, List.drop_zero, List.cons_append, List.nil_append, Nat.reduceAdd])) | simp -implicitDefEqProofs only [EN, lsub, lget, stL, beq_self_eq_true, ne_eq, if_true, if_false, List.cons_append, List.nil_append, Option.isNone_some, Option.isNone_none, e1]))
    exact hk _ h
end
end Go.Proofs.Ythladblmjoaeoaa
namespace Go.Proofs.Ythladblmjoaeoaa
set_option linter.unusedVariables false
set_option linter.unusedSimpArgs false
open Go.Eng
/-! ### rostrum/rostrumlaw5.awake (14) -/
def S.rostrumlaw5_awake.body (R : Value → World → Prop) (W : World) : Prop :=
  callK PR F_disk_New [(.int .i64 64)] (fun v12 W =>
  okF (extP 0 v12) fun v13 =>
  okF (extP 1 v12) fun v14 =>
  okF (binP .neq v14 (.int .i64 0)) fun v16 =>
  gdK (wantd v16 false) (fun k W => k v13 W) (fun v18 W =>
  gdK (wantd v16 false) (fun k W => okF (eqP (.pointer T_disk_Disk) .eql v18 (.pointer none)) fun v => k v W) (fun v19 W =>
  okF (pickP v16 (.bool true) v19) fun v20 =>
  ifK v20 (
  R (.bool false) W) (
  efK PR (Instr.buildSlice T_s_uint8 2 #[(0, (.int .u8 120)), (1, (.int .u8 121))]) (fun v22 W =>
  efK PR (convert T_s_uint8 T_s_uint8 v22) (fun v23 W =>
  callK PR F_disk_Disk_Append [v13, (.int .i64 0), v23] (fun v24 W =>
  efK PR (Instr.buildSlice T_s_uint8 2 #[(0, (.int .u8 122)), (1, (.int .u8 122))]) (fun v26 W =>
  efK PR (convert T_s_uint8 T_s_uint8 v26) (fun v27 W =>
  callK PR F_disk_Disk_Append [v13, (.int .i64 1), v27] (fun v28 W =>
  callK PR F_disk_Disk_Crash [v13, (.int .i64 1), (.int .i64 1)] (fun v30 W =>
  callK PR F_disk_Disk_Read [v13, (.int .i64 0)] (fun v33 W =>
  okF (extP 0 v33) fun v34 =>
  okF (extP 1 v33) fun v35 =>
  callK PR F_disk_Disk_On [v13] (fun v37 W =>
  callK PR F_disk_Disk_Read [v13, (.int .i64 0)] (fun v40 W =>
  okF (extP 0 v40) fun v41 =>
  okF (extP 1 v40) fun v42 =>
  callK PR F_disk_Disk_Read [v13, (.int .i64 1)] (fun v45 W =>
  okF (extP 0 v45) fun v46 =>
  okF (extP 1 v45) fun v47 =>
  okF (binP .eql v24 (.int .i64 0)) fun v49 =>
  gdK (wantd v49 true) (fun k W => k v28 W) (fun v51 W =>
  gdK (wantd v49 true) (fun k W => okF (binP .eql v51 (.int .i64 0)) fun v => k v W) (fun v52 W =>
  okF (pickP v49 v52 (.bool false)) fun v53 =>
  gdK (wantd v53 true) (fun k W => k v35 W) (fun v55 W =>
  gdK (wantd v53 true) (fun k W => okF (binP .eql v55 (.int .i64 7)) fun v => k v W) (fun v56 W =>
  okF (pickP v53 v56 (.bool false)) fun v57 =>
  gdK (wantd v57 true) (fun k W => k v42 W) (fun v59 W =>
  gdK (wantd v57 true) (fun k W => okF (binP .eql v59 (.int .i64 0)) fun v => k v W) (fun v60 W =>
  okF (pickP v57 v60 (.bool false)) fun v61 =>
  gdK (wantd v61 true) (fun k W => k v47 W) (fun v63 W =>
  gdK (wantd v61 true) (fun k W => okF (binP .eql v63 (.int .i64 0)) fun v => k v W) (fun v64 W =>
  okF (pickP v61 v64 (.bool false)) fun v65 =>
  gdK (wantd v65 true) (fun k W => k v41 W) (fun v67 W =>
  gdK (wantd v65 true) (fun k W => rdK PR (convert T_s_uint8 T_string v67) k W) (fun v68 W =>
  gdK (wantd v65 true) (fun k W => okF (binP .eql v68 (.string ⟨#[120, 121]⟩)) fun v => k v W) (fun v69 W =>
  okF (pickP v65 v69 (.bool false)) fun v70 =>
  gdK (wantd v70 true) (fun k W => k v46 W) (fun v72 W =>
  gdK (wantd v70 true) (fun k W => rdK PR (convert T_s_uint8 T_string v72) k W) (fun v73 W =>
  gdK (wantd v70 true) (fun k W => okF (binP .eql v73 (.string ⟨#[122]⟩)) fun v => k v W) (fun v74 W =>
  okF (pickP v70 v74 (.bool false)) fun v75 =>
  gdK (wantd v75 true) (fun k W => k v13 W) (fun v77 W =>
  gdK (wantd v75 true) (fun k W => callK PR F_disk_Disk_Lives [v77] k W) (fun v78 W =>
  gdK (wantd v75 true) (fun k W => okF (binP .eql v78 (.int .i64 2)) fun v => k v W) (fun v79 W =>
  okF (pickP v75 v79 (.bool false)) fun v80 =>
  gdK (wantd v80 true) (fun k W => k v13 W) (fun v82 W =>
  gdK (wantd v80 true) (fun k W => callK PR F_disk_Disk_Power [v82] k W) (fun v83 W =>
  okF (pickP v80 v83 (.bool false)) fun v84 =>
  R v84 W) W) W) W) W) W) W) W) W) W) W) W) W) W) W) W) W) W) W) W) W) W) W) W) W) W) W) W) W) W) W)) W) W) W
def S.rostrumlaw5_awake.hint : Hint := (.two .nil (.two .nil (.two (.two .nil (.two (.two .nil .nil) .nil)) (.two .nil (.two .nil (.two .nil (.two .nil (.two .nil (.two .nil (.two .nil .nil))))))))))
theorem S.rostrumlaw5_awake.ok (R : Value → World → Prop) (W : World) : bodyK PR CB Try.f14 S.rostrumlaw5_awake.hint [] R W = S.rostrumlaw5_awake.body R  W := by kernel_rfl
theorem S.rostrumlaw5_awake.fn : PR.funcs[F_rostrumlaw5_awake]? = some Try.f14 := by kernel_rfl
theorem S.rostrumlaw5_awake.call {R : Value → World → Prop} {W : World} (h : S.rostrumlaw5_awake.body R  W) : callK PR F_rostrumlaw5_awake [] R W :=
  callK_of_body (g := F_rostrumlaw5_awake) (fn := Try.f14) (args := []) (R := R) (w := W) mixed CBok S.rostrumlaw5_awake.fn S.rostrumlaw5_awake.hint (by rw [S.rostrumlaw5_awake.ok]; exact h)
/-! ### rostrum/rostrumlaw5.DiskOrder (3) -/
def S.rostrumlaw5_DiskOrder.l1 (R : Value → World → Prop) (K1 : List Value → World → Prop) (x7 x11 x14 : Value) (W : World) : Prop :=
  okF (binP .lss x14 (.int .i64 4)) fun v115 =>
  ifK v115 (
  callK PR F_disk_Disk_Read [x7, x14] (fun v121 W =>
  okF (extP 0 v121) fun v122 =>
  okF (extP 1 v121) fun v123 =>
  rdK PR (convert T_s_uint8 T_string v122) (fun v125 W =>
  okF (idxA 4 1 x11 x14) fun v127 =>
  rdK PR (Instr.loadAt T_string v127) (fun v128 W =>
  okF (binP .neq v125 v128) fun v129 =>
  ifK v129 (
  R (.bool false) W) (
  okF (binP .add x14 (.int .i64 1)) fun v117 =>
  K1 [x7, x11, v117] W)) W) (tick W)) W) (
  R (.bool true) W)
def S.rostrumlaw5_DiskOrder.j2 (R : Value → World → Prop) (x7 x11 : Value) (W : World) : Prop :=
  loopK (fun K1 s W => S.rostrumlaw5_DiskOrder.l1 R K1 (nthv s 0) (nthv s 1) (nthv s 2) W) [x7, x11, (.int .i64 0)] W
def S.rostrumlaw5_DiskOrder.j3 (K2 : List Value → World → Prop) (x0 x1 x2 x7 x11 x12 x13 : Value) (W : World) : Prop :=
  okF (idxS 6 x0 x12) fun v98 =>
  okF (addrF 1 v98) fun v99 =>
  rdK PR (Instr.loadAt T_int v99) (fun v100 W =>
  okF (binP .and v100 (.int .i64 3)) fun v101 =>
  okF (idxS 6 x0 x12) fun v104 =>
  okF (addrF 1 v104) fun v105 =>
  rdK PR (Instr.loadAt T_int v105) (fun v106 W =>
  okF (binP .and v106 (.int .i64 3)) fun v107 =>
  okF (idxA 4 1 x11 v107) fun v108 =>
  rdK PR (Instr.loadAt T_string v108) (fun v109 W =>
  rdK PR (convert T_s_uint8 T_string x13) (fun v111 W =>
  okF (binP .add v109 v111) fun v112 =>
  okF (idxA 4 1 x11 v101) fun v113 =>
  efK PR (Instr.storeAt T_string v113 v112) (fun _ W =>
  okF (binP .add x12 (.int .i64 1)) fun v73 =>
  K2 [x0, x1, x2, x7, x11, v73] W) W) W) W) W) (tick W)
def S.rostrumlaw5_DiskOrder.l2 (J2 : List Value → World → Prop) (K2 : List Value → World → Prop) (x0 x1 x2 x7 x11 x12 : Value) (W : World) : Prop :=
  okF (lenP (.slice T_rostrumlaw5_Act) x0) fun v70 =>
  okF (binP .lss x12 v70) fun v71 =>
  ifK v71 (
  okF (idxS 6 x0 x12) fun v76 =>
  okF (addrF 5 v76) fun v77 =>
  rdK PR (Instr.loadAt T_s_uint8 v77) (fun v78 W =>
  joinK (fun s W => S.rostrumlaw5_DiskOrder.j3 K2 (nthv s 0) (nthv s 1) (nthv s 2) (nthv s 3) (nthv s 4) (nthv s 5) (nthv s 6) W) (fun J3 =>
  okF (binP .geq x12 x1) fun v81 =>
  ifK v81 (
  okF (binP .gtr x12 x1) fun v84 =>
  gdK (wantd v84 false) (fun k W => k x2 W) (fun v86 W =>
  gdK (wantd v84 false) (fun k W => okF (binP .leq v86 (.int .i64 0)) fun v => k v W) (fun v87 W =>
  okF (pickP v84 (.bool true) v87) fun v88 =>
  ifK v88 (
  J3 [x0, x1, x2, x7, x11, x12, (.slice none 0 0)] W) (
  okF (lenP (.slice T_uint8) v78) fun v91 =>
  okF (binP .lss x2 v91) fun v92 =>
  ifK v92 (
  okF (slcS 1 v78 none (some x2) none) fun v95 =>
  J3 [x0, x1, x2, x7, x11, x12, v95] W) (
  J3 [x0, x1, x2, x7, x11, x12, v78] W))) W) W) (
  J3 [x0, x1, x2, x7, x11, x12, v78] W))) W) (
  J2 [x7, x11] W)
def S.rostrumlaw5_DiskOrder.j1 (R : Value → World → Prop) (x0 x1 x2 x7 : Value) (W : World) : Prop :=
  callK PR F_disk_Disk_Crash [x7, x1, x2] (fun v64 W =>
  callK PR F_disk_Disk_On [x7] (fun v66 W =>
  okF (bldP (fun i => some (i * 1, 1)) [.string ⟨#[]⟩, .string ⟨#[]⟩, .string ⟨#[]⟩, .string ⟨#[]⟩] []) fun v67 =>
  efK PR (Instr.alloc T_a4_string true (.tuple #[])) (fun v11 W =>
  efK PR (Instr.storeAt T_a4_string v11 v67) (fun _ W =>
  joinK (fun s W => S.rostrumlaw5_DiskOrder.j2 R (nthv s 0) (nthv s 1) W) (fun J2 =>
  loopK (fun K2 s W => S.rostrumlaw5_DiskOrder.l2 J2 K2 (nthv s 0) (nthv s 1) (nthv s 2) (nthv s 3) (nthv s 4) (nthv s 5) W) [x0, x1, x2, x7, v11, (.int .i64 0)] W)) W) W) W) W
def S.rostrumlaw5_DiskOrder.l3 (R : Value → World → Prop) (J1 : List Value → World → Prop) (K3 : List Value → World → Prop) (x0 x1 x2 x7 x9 x10 : Value) (W : World) : Prop :=
  okF (lenP (.slice T_rostrumlaw5_Act) x0) fun v28 =>
  okF (binP .lss x10 v28) fun v29 =>
  ifK v29 (
  okF (idxS 6 x0 x10) fun v34 =>
  okF (addrF 5 v34) fun v35 =>
  rdK PR (Instr.loadAt T_s_uint8 v35) (fun v36 W =>
  okF (lenP (.slice T_uint8) v36) fun v37 =>
  okF (binP .gtr v37 (.int .i64 200)) fun v38 =>
  ifK v38 (
  R (.bool true) W) (
  okF (idxS 6 x0 x10) fun v42 =>
  okF (addrF 1 v42) fun v43 =>
  rdK PR (Instr.loadAt T_int v43) (fun v44 W =>
  okF (binP .and v44 (.int .i64 3)) fun v45 =>
  okF (idxS 6 x0 x10) fun v48 =>
  okF (addrF 5 v48) fun v49 =>
  rdK PR (Instr.loadAt T_s_uint8 v49) (fun v50 W =>
  callK PR F_disk_Disk_Append [x7, v45, v50] (fun v51 W =>
  okF (binP .neq v51 (.int .i64 0)) fun v52 =>
  ifK v52 (
  R (.bool false) W) (
  okF (idxS 6 x0 x10) fun v56 =>
  okF (addrF 5 v56) fun v57 =>
  rdK PR (Instr.loadAt T_s_uint8 v57) (fun v58 W =>
  okF (lenP (.slice T_uint8) v58) fun v59 =>
  okF (binP .add x9 v59) fun v60 =>
  okF (binP .add x10 (.int .i64 1)) fun v31 =>
  K3 [x0, x1, x2, x7, v60, v31] W) W)) W) W) (tick W))) W) (
  J1 [x0, x1, x2, x7] W)
def S.rostrumlaw5_DiskOrder.body (R : Value → World → Prop) (v0 v1 v2 : Value) (W : World) : Prop :=
  callK PR F_rostrumlaw5_awake [] (fun v17 W =>
  okF (unP .not v17) fun v18 =>
  ifK v18 (
  R (.bool false) W) (
  okF (lenP (.slice T_rostrumlaw5_Act) v0) fun v20 =>
  okF (binP .gtr v20 (.int .i64 30)) fun v21 =>
  ifK v21 (
  R (.bool true) W) (
  callK PR F_disk_New [(.int .i64 65536)] (fun v23 W =>
  okF (extP 0 v23) fun v24 =>
  okF (extP 1 v23) fun v25 =>
  joinK (fun s W => S.rostrumlaw5_DiskOrder.j1 R (nthv s 0) (nthv s 1) (nthv s 2) (nthv s 3) W) (fun J1 =>
  loopK (fun K3 s W => S.rostrumlaw5_DiskOrder.l3 R J1 K3 (nthv s 0) (nthv s 1) (nthv s 2) (nthv s 3) (nthv s 4) (nthv s 5) W) [v0, v1, v2, v24, (.int .i64 0), (.int .i64 0)] W)) W))) W
def S.rostrumlaw5_DiskOrder.hint : Hint := (.two .nil (.two (.two .nil (.two (.two .nil .nil) .nil)) (.two (.two .nil (.two (.two .nil .nil) .nil)) (.two .nil (.two .nil (.at [0, 1, 2, 7] (.two .nil (.at [0, 1, 2, 7, 9, 10] (.two (.two .nil (.two .nil .nil)) (.two (.two (.two .nil (.two (.two .nil .nil) .nil)) (.two (.two .nil (.two (.two .nil .nil) .nil)) .nil)) .nil)) .nil)) (.two .nil (.two .nil (.two .nil (.at [7, 11] (.two .nil (.at [0, 1, 2, 7, 11, 12] (.two (.two .nil (.two .nil .nil)) (.two (.two .nil (.at [0, 1, 2, 7, 11, 12, 13] (.two .nil (.two (.two .nil (.two .nil (.two .nil (.two .nil .nil)))) .nil)) .nil)) .nil)) .nil)) (.two (.two .nil (.at [7, 11, 14] (.two (.two .nil (.two .nil .nil)) (.two (.two .nil (.two .nil (.two (.two .nil .nil) .nil))) .nil)) .nil)) (.two .nil .nil))))))))))))
theorem S.rostrumlaw5_DiskOrder.ok (R : Value → World → Prop) (v0 v1 v2 : Value) (W : World) : bodyK PR CB Try.f3 S.rostrumlaw5_DiskOrder.hint [v0, v1, v2] R W = S.rostrumlaw5_DiskOrder.body R v0 v1 v2 W := by kernel_rfl
theorem S.rostrumlaw5_DiskOrder.fn : PR.funcs[F_rostrumlaw5_DiskOrder]? = some Try.f3 := by kernel_rfl
theorem S.rostrumlaw5_DiskOrder.call {R : Value → World → Prop} {v0 v1 v2 : Value} {W : World} (h : S.rostrumlaw5_DiskOrder.body R v0 v1 v2 W) : callK PR F_rostrumlaw5_DiskOrder [v0, v1, v2] R W :=
  callK_of_body (g := F_rostrumlaw5_DiskOrder) (fn := Try.f3) (args := [v0, v1, v2]) (R := R) (w := W) mixed CBok S.rostrumlaw5_DiskOrder.fn S.rostrumlaw5_DiskOrder.hint (by rw [S.rostrumlaw5_DiskOrder.ok]; exact h)
/-! ### rostrum/rostrumlaw5.DiskApart (4) -/
def S.rostrumlaw5_DiskApart.body (R : Value → World → Prop) (v0 : Value) (W : World) : Prop :=
  callK PR F_rostrumlaw5_awake [] (fun v10 W =>
  okF (unP .not v10) fun v11 =>
  ifK v11 (
  R (.bool false) W) (
  okF (lenP (.slice T_uint8) v0) fun v13 =>
  okF (binP .lss v13 (.int .i64 1)) fun v14 =>
  gdK (wantd v14 false) (fun k W => k v0 W) (fun v16 W =>
  gdK (wantd v14 false) (fun k W => okF (lenP (.slice T_uint8) v16) fun v => k v W) (fun v17 W =>
  gdK (wantd v14 false) (fun k W => okF (binP .gtr v17 (.int .i64 100)) fun v => k v W) (fun v18 W =>
  okF (pickP v14 (.bool true) v18) fun v19 =>
  ifK v19 (
  R (.bool true) W) (
  callK PR F_disk_New [(.int .i64 1000)] (fun v21 W =>
  okF (extP 0 v21) fun v22 =>
  okF (extP 1 v21) fun v23 =>
  efK PR (Instr.buildSlice T_s_uint8 0 #[]) (fun v24 W =>
  efK PR (Builtin.append_ #[T_s_uint8, T_s_uint8] T_s_uint8 #[v24, v0]) (fun v26 W =>
  callK PR F_disk_Disk_Append [v22, (.int .i64 3), v26] (fun v29 W =>
  okF (idxS 1 v26 (.int .i64 0)) fun v31 =>
  rdK PR (Instr.loadAt T_uint8 v31) (fun v32 W =>
  okF (binP .add v32 (.int .u8 1)) fun v33 =>
  okF (idxS 1 v26 (.int .i64 0)) fun v34 =>
  efK PR (Instr.storeAt T_uint8 v34 v33) (fun _ W =>
  callK PR F_disk_Disk_Read [v22, (.int .i64 3)] (fun v37 W =>
  okF (extP 0 v37) fun v38 =>
  okF (extP 1 v37) fun v39 =>
  okF (lenP (.slice T_uint8) v38) fun v41 =>
  okF (lenP (.slice T_uint8) v0) fun v43 =>
  okF (binP .neq v41 v43) fun v44 =>
  ifK v44 (
  R (.bool false) W) (
  okF (idxS 1 v38 (.int .i64 0)) fun v46 =>
  rdK PR (Instr.loadAt T_uint8 v46) (fun v47 W =>
  okF (binP .add v47 (.int .u8 1)) fun v48 =>
  okF (idxS 1 v38 (.int .i64 0)) fun v49 =>
  efK PR (Instr.storeAt T_uint8 v49 v48) (fun _ W =>
  callK PR F_disk_Disk_Read [v22, (.int .i64 3)] (fun v52 W =>
  okF (extP 0 v52) fun v53 =>
  okF (extP 1 v52) fun v54 =>
  okF (binP .eql v54 (.int .i64 0)) fun v56 =>
  gdK (wantd v56 true) (fun k W => k v53 W) (fun v58 W =>
  gdK (wantd v56 true) (fun k W => rdK PR (convert T_s_uint8 T_string v58) k W) (fun v59 W =>
  gdK (wantd v56 true) (fun k W => k v0 W) (fun v60 W =>
  gdK (wantd v56 true) (fun k W => rdK PR (convert T_s_uint8 T_string v60) k W) (fun v61 W =>
  gdK (wantd v56 true) (fun k W => okF (binP .eql v59 v61) fun v => k v W) (fun v62 W =>
  okF (pickP v56 v62 (.bool false)) fun v63 =>
  R v63 W) W) W) W) W) W) W) W) W)) W) W) W) W) W) W) W)) W) W) W)) W
def S.rostrumlaw5_DiskApart.hint : Hint := (.two .nil (.two (.two .nil (.two (.two .nil .nil) .nil)) (.two (.two .nil (.two (.two .nil .nil) .nil)) (.two .nil (.two .nil (.two .nil (.two .nil (.two .nil (.two (.two .nil (.two (.two .nil .nil) .nil)) (.two .nil (.two .nil (.two .nil .nil))))))))))))
theorem S.rostrumlaw5_DiskApart.ok (R : Value → World → Prop) (v0 : Value) (W : World) : bodyK PR CB Try.f4 S.rostrumlaw5_DiskApart.hint [v0] R W = S.rostrumlaw5_DiskApart.body R v0 W := by kernel_rfl
theorem S.rostrumlaw5_DiskApart.fn : PR.funcs[F_rostrumlaw5_DiskApart]? = some Try.f4 := by kernel_rfl
theorem S.rostrumlaw5_DiskApart.call {R : Value → World → Prop} {v0 : Value} {W : World} (h : S.rostrumlaw5_DiskApart.body R v0 W) : callK PR F_rostrumlaw5_DiskApart [v0] R W :=
  callK_of_body (g := F_rostrumlaw5_DiskApart) (fn := Try.f4) (args := [v0]) (R := R) (w := W) mixed CBok S.rostrumlaw5_DiskApart.fn S.rostrumlaw5_DiskApart.hint (by rw [S.rostrumlaw5_DiskApart.ok]; exact h)
/-! ### rostrum/rostrumlaw5.DiskSafe (5) -/
def S.rostrumlaw5_DiskSafe.j1 (R : Value → World → Prop) (x0 x1 x2 x3 x9 x11 : Value) (W : World) : Prop :=
  callK PR F_disk_Disk_Crash [x9, x2, x3] (fun v70 W =>
  callK PR F_disk_Disk_On [x9] (fun v72 W =>
  callK PR F_disk_Disk_Read [x9, (.int .i64 7)] (fun v75 W =>
  okF (extP 0 v75) fun v76 =>
  okF (extP 1 v75) fun v77 =>
  okF (binP .eql v77 (.int .i64 0)) fun v79 =>
  gdK (wantd v79 true) (fun k W => k v76 W) (fun v81 W =>
  gdK (wantd v79 true) (fun k W => okF (lenP (.slice T_uint8) v81) fun v => k v W) (fun v82 W =>
  gdK (wantd v79 true) (fun k W => k x0 W) (fun v83 W =>
  gdK (wantd v79 true) (fun k W => okF (lenP (.slice T_uint8) v83) fun v => k v W) (fun v84 W =>
  gdK (wantd v79 true) (fun k W => okF (binP .geq v82 v84) fun v => k v W) (fun v85 W =>
  okF (pickP v79 v85 (.bool false)) fun v86 =>
  gdK (wantd v86 true) (fun k W => k v76 W) (fun v88 W =>
  gdK (wantd v86 true) (fun k W => okF (lenP (.slice T_uint8) v88) fun v => k v W) (fun v89 W =>
  gdK (wantd v86 true) (fun k W => k x11 W) (fun v90 W =>
  gdK (wantd v86 true) (fun k W => okF (lenP .string v90) fun v => k v W) (fun v91 W =>
  gdK (wantd v86 true) (fun k W => okF (binP .leq v89 v91) fun v => k v W) (fun v92 W =>
  okF (pickP v86 v92 (.bool false)) fun v93 =>
  gdK (wantd v93 true) (fun k W => k v76 W) (fun v95 W =>
  gdK (wantd v93 true) (fun k W => rdK PR (convert T_s_uint8 T_string v95) k W) (fun v96 W =>
  gdK (wantd v93 true) (fun k W => k x11 W) (fun v97 W =>
  gdK (wantd v93 true) (fun k W => k v76 W) (fun v98 W =>
  gdK (wantd v93 true) (fun k W => okF (lenP (.slice T_uint8) v98) fun v => k v W) (fun v99 W =>
  gdK (wantd v93 true) (fun k W => okF (slcStr v97 none (some v99)) fun v => k v W) (fun v100 W =>
  gdK (wantd v93 true) (fun k W => okF (binP .eql v96 v100) fun v => k v W) (fun v101 W =>
  okF (pickP v93 v101 (.bool false)) fun v102 =>
  gdK (wantd v102 true) (fun k W => k x2 W) (fun v104 W =>
  gdK (wantd v102 true) (fun k W => k x1 W) (fun v105 W =>
  gdK (wantd v102 true) (fun k W => okF (lenP (.slice T_s_uint8) v105) fun v => k v W) (fun v106 W =>
  gdK (wantd v102 true) (fun k W => okF (binP .lss v104 v106) fun v => k v W) (fun v107 W =>
  gdK (wantd v102 true) (fun k W => k v107 W) (fun v108 W =>
  gdK (wantd v108 false) (fun k W => k v76 W) (fun v109 W =>
  gdK (wantd v108 false) (fun k W => rdK PR (convert T_s_uint8 T_string v109) k W) (fun v110 W =>
  gdK (wantd v108 false) (fun k W => k x11 W) (fun v111 W =>
  gdK (wantd v108 false) (fun k W => okF (binP .eql v110 v111) fun v => k v W) (fun v112 W =>
  gdK (wantd v102 true) (fun k W => okF (pickP v108 (.bool true) v112) fun v => k v W) (fun v113 W =>
  okF (pickP v102 v113 (.bool false)) fun v114 =>
  R v114 W) W) W) W) W) W) W) W) W) W) W) W) W) W) W) W) W) W) W) W) W) W) W) W) W) W) W) (tick W)) W) W) W
def S.rostrumlaw5_DiskSafe.j2 (K1 : List Value → World → Prop) (x0 x1 x2 x3 x9 x11 x12 : Value) (W : World) : Prop :=
  okF (binP .add x12 (.int .i64 1)) fun v41 =>
  K1 [x0, x1, x2, x3, x9, x11, v41] W
def S.rostrumlaw5_DiskSafe.l1 (R : Value → World → Prop) (J1 : List Value → World → Prop) (K1 : List Value → World → Prop) (x0 x1 x2 x3 x9 x11 x12 : Value) (W : World) : Prop :=
  okF (lenP (.slice T_s_uint8) x1) fun v38 =>
  okF (binP .lss x12 v38) fun v39 =>
  ifK v39 (
  joinK (fun s W => S.rostrumlaw5_DiskSafe.j2 K1 (nthv s 0) (nthv s 1) (nthv s 2) (nthv s 3) (nthv s 4) (nthv s 5) (nthv s 6) W) (fun J2 =>
  okF (idxS 1 x1 x12) fun v44 =>
  rdK PR (Instr.loadAt T_s_uint8 v44) (fun v45 W =>
  okF (lenP (.slice T_uint8) v45) fun v46 =>
  okF (binP .gtr v46 (.int .i64 100)) fun v47 =>
  ifK v47 (
  R (.bool true) W) (
  okF (binP .rem x12 (.int .i64 3)) fun v50 =>
  okF (binP .add v50 (.int .i64 6)) fun v51 =>
  okF (idxS 1 x1 x12) fun v54 =>
  rdK PR (Instr.loadAt T_s_uint8 v54) (fun v55 W =>
  callK PR F_disk_Disk_Append [x9, v51, v55] (fun v56 W =>
  okF (binP .rem x12 (.int .i64 3)) fun v58 =>
  okF (binP .eql v58 (.int .i64 1)) fun v59 =>
  ifK v59 (
  okF (idxS 1 x1 x12) fun v63 =>
  rdK PR (Instr.loadAt T_s_uint8 v63) (fun v64 W =>
  rdK PR (convert T_s_uint8 T_string v64) (fun v65 W =>
  okF (binP .add x11 v65) fun v66 =>
  J2 [x0, x1, x2, x3, x9, v66, x12] W) W) W) (
  J2 [x0, x1, x2, x3, x9, x11, x12] W)) W) W)) W)) (
  J1 [x0, x1, x2, x3, x9, x11] W)
def S.rostrumlaw5_DiskSafe.body (R : Value → World → Prop) (v0 v1 v2 v3 : Value) (W : World) : Prop :=
  callK PR F_rostrumlaw5_awake [] (fun v15 W =>
  okF (unP .not v15) fun v16 =>
  ifK v16 (
  R (.bool false) W) (
  okF (lenP (.slice T_uint8) v0) fun v18 =>
  okF (binP .gtr v18 (.int .i64 200)) fun v19 =>
  gdK (wantd v19 false) (fun k W => k v1 W) (fun v21 W =>
  gdK (wantd v19 false) (fun k W => okF (lenP (.slice T_s_uint8) v21) fun v => k v W) (fun v22 W =>
  gdK (wantd v19 false) (fun k W => okF (binP .gtr v22 (.int .i64 20)) fun v => k v W) (fun v23 W =>
  okF (pickP v19 (.bool true) v23) fun v24 =>
  ifK v24 (
  R (.bool true) W) (
  callK PR F_disk_New [(.int .i64 65536)] (fun v26 W =>
  okF (extP 0 v26) fun v27 =>
  okF (extP 1 v26) fun v28 =>
  callK PR F_disk_Disk_Append [v27, (.int .i64 7), v0] (fun v31 W =>
  callK PR F_disk_Disk_Sync [v27, (.int .i64 7)] (fun v33 W =>
  rdK PR (convert T_s_uint8 T_string v0) (fun v35 W =>
  joinK (fun s W => S.rostrumlaw5_DiskSafe.j1 R (nthv s 0) (nthv s 1) (nthv s 2) (nthv s 3) (nthv s 4) (nthv s 5) W) (fun J1 =>
  loopK (fun K1 s W => S.rostrumlaw5_DiskSafe.l1 R J1 K1 (nthv s 0) (nthv s 1) (nthv s 2) (nthv s 3) (nthv s 4) (nthv s 5) (nthv s 6) W) [v0, v1, v2, v3, v27, v35, (.int .i64 0)] W)) W) W) W) W)) W) W) W)) W
def S.rostrumlaw5_DiskSafe.hint : Hint := (.two .nil (.two (.two .nil (.two (.two .nil .nil) .nil)) (.two (.two .nil (.two (.two .nil .nil) .nil)) (.two .nil (.two .nil (.two .nil (.two .nil (.at [0, 1, 2, 3, 9, 11] (.two .nil (.at [0, 1, 2, 3, 9, 11, 12] (.two (.two .nil (.two .nil .nil)) (.at [0, 1, 2, 3, 9, 11, 12] (.two (.two .nil (.two (.two .nil .nil) .nil)) (.two .nil (.two .nil (.two .nil .nil)))) .nil)) .nil)) (.two .nil (.two .nil (.two .nil (.two .nil .nil))))))))))))
theorem S.rostrumlaw5_DiskSafe.ok (R : Value → World → Prop) (v0 v1 v2 v3 : Value) (W : World) : bodyK PR CB Try.f5 S.rostrumlaw5_DiskSafe.hint [v0, v1, v2, v3] R W = S.rostrumlaw5_DiskSafe.body R v0 v1 v2 v3 W := by kernel_rfl
theorem S.rostrumlaw5_DiskSafe.fn : PR.funcs[F_rostrumlaw5_DiskSafe]? = some Try.f5 := by kernel_rfl
theorem S.rostrumlaw5_DiskSafe.call {R : Value → World → Prop} {v0 v1 v2 v3 : Value} {W : World} (h : S.rostrumlaw5_DiskSafe.body R v0 v1 v2 v3 W) : callK PR F_rostrumlaw5_DiskSafe [v0, v1, v2, v3] R W :=
  callK_of_body (g := F_rostrumlaw5_DiskSafe) (fn := Try.f5) (args := [v0, v1, v2, v3]) (R := R) (w := W) mixed CBok S.rostrumlaw5_DiskSafe.fn S.rostrumlaw5_DiskSafe.hint (by rw [S.rostrumlaw5_DiskSafe.ok]; exact h)
end Go.Proofs.Ythladblmjoaeoaa
namespace Go.Eng
set_option linter.unusedVariables false
set_option linter.unusedSimpArgs false
open Go Go.RowKit Go.ChangeShapes Go.WideShapes Go.Deep

inductive Cl where
  | int (k : IntKind)
  | str
  | bool
  | sl (e : List Cl)

mutual
inductive GoodC (W : World) : Cl → Value → Prop where
  | int {k : IntKind} {n : Int} (h : (Lit.int k n).wf = true) : GoodC W (.int k) (.int k n)
  | str {s : ByteArray} (h : s.size ≤ maxLen) : GoodC W .str (.string s)
  | bool {b : Bool} : GoodC W .bool (.bool b)
  | sl {e : List Cl} {a : Option Addr} {n c : Nat} (rows : Nat → List Value) (hc : n ≤ c) (hm : c ≤ maxLen) (hn : a = none → c = 0)
      (hr : ∀ i, i < n → ∃ b o, a = some ⟨b, o, none⟩ ∧ ro W b (o + i * e.length) (rows i)) (hg : ∀ i, i < n → GoodL W e (rows i)) : GoodC W (.sl e) (.slice a n c)
inductive GoodL (W : World) : List Cl → List Value → Prop where
  | nil : GoodL W [] []
  | cons {c : Cl} {cs : List Cl} {v : Value} {vs : List Value} (h : GoodC W c v) (hs : GoodL W cs vs) : GoodL W (c :: cs) (v :: vs)
end

theorem GoodL.app {W : World} : ∀ {l : List Cl} {vs : List Value} {l' : List Cl} {vs' : List Value}, GoodL W l vs → GoodL W l' vs' → GoodL W (l ++ l') (vs ++ vs')
  | _, _, _, _, .nil, h => h
  | _, _, _, _, .cons h hs, h' => .cons h (hs.app h')
theorem GoodL.len {W : World} : ∀ {l : List Cl} {vs : List Value}, GoodL W l vs → vs.length = l.length
  | _, _, .nil => rfl
  | _, _, .cons h hs => by simp [hs.len]

def clF (P : Program) (g : TypeId → Option (List Cl)) : List Field → Nat → Option (List Cl)
  | [], _ => some []
  | f :: r, off => match Nat.beq f.offset off with
    | false => none
    | true => match g f.type with
      | some ks => match Nat.beq (P.cellsOf f.type) ks.length with
        | true => (match clF P g r (off + ks.length) with | some l => some (ks ++ l) | none => none)
        | false => none
      | none => none
/-- the cells of a type -/
def cls (P : Program) : Nat → TypeId → Option (List Cl)
  | 0, _ => none
  | d + 1, t => match P.underlying t with
    | some (.int k) => some [.int k]
    | some .string => some [.str]
    | some .bool => some [.bool]
    | some (.slice e) => (match cls P d e with | some l => (match Nat.beq (P.cellsOf e) l.length && !Nat.beq l.length 0 with | true => some [.sl l] | false => none) | none => none)
    | some (.struct fs) => (match clF P (cls P d) fs.toList 0 with | some l => (match Nat.beq (P.cellsOf t) l.length with | true => some l | false => none) | none => none)
    | some (.array n e) => (match cls P d e with | some l => (match Nat.beq (P.cellsOf e) l.length && Nat.beq (P.cellsOf t) (n * l.length) with | true => some (List.replicate n l).flatten | false => none) | none => none)
    | _ => none

section
variable {P : Program} {w : World} {H : Type} {enc : TypeId × Value → H}

theorem good_fields {g : TypeId → Option (List Cl)} {n : Nat} {cs : List Value}
    (hg : ∀ t l, g t = some l → ∀ cs x, DataW.trod enc P w 0 (fun _ => true) true n t cs = some x → GoodL w l cs) :
    ∀ (fs : List Field) (off : Nat) (l : List Cl), clF P g fs off = some l → (∀ f ∈ fs, ∃ x, DataW.trod enc P w 0 (fun _ => true) true n f.type ((cs.drop f.offset).take (P.cellsOf f.type)) = some x) →
      GoodL w l ((cs.drop off).take l.length)
  | [], off, l, h, _ => by simp only [clF, Option.some.injEq] at h; subst h; simpa using GoodL.nil
  | f :: fs, off, l, h, hx => by
    simp only [clF] at h
    split at h
    · cases h
    · rename_i ho
      have ho := Nat.eq_of_beq_eq_true ho
      split at h
      · rename_i ks hks
        split at h
        · rename_i hsz
          have hsz := Nat.eq_of_beq_eq_true hsz
          split at h
          · rename_i l' hl'
            simp only [Option.some.injEq] at h
            subst h
            obtain ⟨x, hx0⟩ := hx f (by simp)
            rw [hsz, ho] at hx0
            have h1 := hg _ _ hks _ _ hx0
            have h2 := good_fields hg fs _ _ hl' (fun f' hf' => hx f' (List.mem_cons_of_mem _ hf'))
            have := h1.app h2
            rw [← List.drop_drop, ← List.take_add] at this
            simpa using this
          · cases h
        · cases h
      · cases h

theorem open_cls : ∀ (m : Nat) (t : TypeId) (l : List Cl), cls P m t = some l → ∀ (fuel : Nat) (cs : List Value) (x : DataW H × List MemPlace), DataW.trod enc P w 0 (fun _ => true) true fuel t cs = some x → GoodL w l cs
  | 0, _, _, h => by simp [cls] at h
  | m + 1, t, l, h => by
    intro fuel cs x hx
    simp only [cls] at h
    cases ht : P.underlying t with
    | none => rw [ht] at h; cases h
    | some d =>
      rw [ht] at h
      cases d <;> simp only at h <;> try (cases h; done)
      case int k =>
        simp only [Option.some.injEq] at h
        subst h
        obtain ⟨n, rfl, _, hw⟩ := DataW.trod_int ht hx
        exact .cons (.int hw) .nil
      case string =>
        simp only [Option.some.injEq] at h
        subst h
        obtain ⟨n, rfl, _, hw⟩ := DataW.trod_string ht hx
        exact .cons (.str hw) .nil
      case bool =>
        simp only [Option.some.injEq] at h
        subst h
        obtain ⟨n, rfl, _⟩ := DataW.trod_bool ht hx
        exact .cons .bool .nil
      case slice e =>
        split at h
        · rename_i le hle
          split at h
          · rename_i hb
            simp only [Bool.and_eq_true, Bool.not_eq_true'] at hb
            have hsz := Nat.eq_of_beq_eq_true hb.1
            have hpos : 0 < le.length := Nat.pos_of_ne_zero fun e => by rw [e] at hb; simp at hb
            simp only [Option.some.injEq] at h
            subst h
            rcases open_slice ht hx with ⟨rfl, _⟩ | ⟨a, len, cap, mm, n, D, Pl, rfl, hb0, hl, hmx, hmm, rfl, hel⟩
            · exact .cons (.sl (fun _ => []) (by omega) (by simp [maxLen]) (fun _ => rfl) (fun i hi => by omega) (fun i hi => by omega)) .nil
            · simp only [if_true] at hmm
              subst hmm
              rw [hsz] at hel
              obtain ⟨rows, hrows⟩ := choose_lt (α := List Value) (p := fun i cs' => w.cells? 0 (a.add (i * le.length)) le.length = some cs' ∧ DataW.trod enc P w 0 (fun _ => true) true n e cs' = some (D i, Pl i)) hel
              refine .cons (.sl rows hl hmx (fun h => by cases h) (fun i hi => ?_) (fun i hi => open_cls m e le hle n _ _ (hrows i (by omega)).2)) .nil
              obtain ⟨_, hlen0, hcell0⟩ := World.cells?_some (hrows 0 (by omega)).1
              obtain ⟨_, hlen, hcell⟩ := World.cells?_some (hrows i (by omega)).1
              have h0 : ∃ v, w.cell? a = some v := by
                have := hcell0 0 hpos
                simp only [Nat.zero_mul, Addr.add, if_true] at this
                rw [this]
                exact ⟨(rows 0)[0]'(by omega), by simp⟩
              obtain ⟨v, hv⟩ := h0
              have hsp := World.cell?_spot hv
              obtain ⟨ab, ao, asp⟩ := a
              simp only at hsp
              subst hsp
              refine ⟨ab, ao, rfl, fun j hj => ?_⟩
              have := hcell j (by omega)
              rw [add_none, add_none] at this
              exact this
          · cases h
        · cases h
      case struct fs =>
        split at h
        · rename_i l' hl'
          split at h
          · rename_i hsz
            have hsz := Nat.eq_of_beq_eq_true hsz
            simp only [Option.some.injEq] at h
            subst h
            obtain ⟨xs, n, rfl, rfl, hlen, hxs, hf⟩ := DataW.trod_struct ht hx
            have := good_fields (cs := cs) (fun t l hl cs x hx => open_cls m t l hl n cs x hx) fs.toList 0 l' hl' (fun f hf' => by
              obtain ⟨i, hi, rfl⟩ := List.getElem_of_mem hf'
              have hi' : i < fs.size := by simpa using hi
              have := hf i fs[i] (by simp [hi'])
              rw [show fs.toList[i] = fs[i] by simp, this]
              exact ⟨xs[i]'(by omega), by simp⟩)
            rw [← hsz, ← hlen] at this
            simpa using this
          · cases h
        · cases h
      case array k e =>
        split at h
        · rename_i le hle
          split at h
          · rename_i hb
            simp only [Bool.and_eq_true] at hb
            have hsz := Nat.eq_of_beq_eq_true hb.1
            have hsz2 := Nat.eq_of_beq_eq_true hb.2
            simp only [Option.some.injEq] at h
            subst h
            obtain ⟨xs, n, rfl, rfl, hlen, hxs, hf⟩ := DataW.trod_array ht hx
            rw [hsz2] at hlen
            rw [hsz] at hf
            have key : ∀ j, j ≤ k → GoodL w (List.replicate j le).flatten (cs.take (j * le.length)) := by
              intro j
              induction j with
              | zero => intro _; simpa using GoodL.nil
              | succ j ih =>
                intro hj
                have h1 := hf j (by omega)
                have h2 : GoodL w le ((cs.drop (j * le.length)).take le.length) := by
                  refine open_cls m e le hle n _ (xs[j]'(by omega)) ?_
                  rw [h1]; simp
                have := (ih (by omega)).app h2
                rw [← List.take_add] at this
                rw [List.replicate_succ', List.flatten_append, Nat.succ_mul]
                simpa using this
            have := key k (Nat.le_refl _)
            rw [← hlen] at this
            simpa using this
          · cases h
        · cases h

/-- an argument of a law -/
def GoodA (w : World) (l : List Cl) (agg : Bool) (v : Value) : Prop := GoodL w l (vcells v) ∧ (agg = true → ∃ cs : List Value, v = .agg cs.toArray) ∧ (agg = false → vcells v = [v])
theorem open_arg {t : TypeId} {l : List Cl} {agg : Bool} {m : Nat} {v : Value} {d : DataW H} {ps : List MemPlace} {r : Reach} {b0 : Nat} (hl : cls P m t = some l) (ha : (P.underlying t).map aggB = some agg)
    (hval : Value.okWide P w r b0 t v) (h : DataW.Trod enc P w 0 (fun _ => true) true t v d ps) : GoodA w l agg v := by
  obtain ⟨fuel, hf⟩ := h
  obtain ⟨u, hu, hu'⟩ := Option.map_eq_some_iff.1 ha
  refine ⟨by have := open_cls m t l hl _ _ _ hf; rwa [vcells_eq] at this, fun hagg => ?_, fun hagg => ?_⟩
  · subst hagg
    cases u <;> simp only [aggB] at hu' <;> try (cases hu'; done)
    case struct fs =>
      obtain ⟨cs, rfl, _⟩ := okWide_struct hu hval
      exact ⟨cs.toList, rfl⟩
    case array n e =>
      simp only [Value.okWide, hu] at hval
      cases v <;> simp_all
      exact ⟨_, (Array.toArray_toList).symm⟩
  · subst hagg
    cases m with
    | zero => simp [cls] at hl
    | succ m =>
      simp only [cls, hu] at hl
      cases u <;> simp only [aggB] at hu' <;> simp only at hl <;> try (first | (cases hu'; done) | (cases hl; done))
      case int k => obtain ⟨n, rfl⟩ := okWide_int hu hval; rfl
      case string => obtain ⟨n, rfl⟩ := okWide_string hu hval; rfl
      case bool => obtain ⟨n, rfl⟩ := okWide_bool hu hval; rfl
      case slice e => obtain ⟨a, b, c, rfl⟩ := okWide_slice hu hval; rfl
theorem GoodL.cons' {c : Cl} {cs : List Cl} {vs : List Value} (h : GoodL w (c :: cs) vs) : ∃ v vs', vs = v :: vs' ∧ GoodC w c v ∧ GoodL w cs vs' := by
  cases h with | cons h1 h2 => exact ⟨_, _, rfl, h1, h2⟩
theorem GoodL.nil' {vs : List Value} (h : GoodL w [] vs) : vs = [] := by cases h; rfl
theorem GoodA.one {c : Cl} {v : Value} (h : GoodA w [c] false v) : GoodC w c v := by
  obtain ⟨h1, _, h2⟩ := h
  rw [h2 rfl] at h1
  cases h1 with | cons h _ => exact h
theorem GoodC.int' {k : IntKind} {v : Value} (h : GoodC w (.int k) v) : ∃ n, v = .int k n ∧ (Lit.int k n).wf = true := by
  cases h with | int h => exact ⟨_, rfl, h⟩
theorem GoodC.str' {v : Value} (h : GoodC w .str v) : ∃ s : ByteArray, v = .string s ∧ s.size ≤ maxLen := by
  cases h with | str h => exact ⟨_, rfl, h⟩
theorem GoodC.bool' {v : Value} (h : GoodC w .bool v) : ∃ b, v = .bool b := by
  cases h with | bool => exact ⟨_, rfl⟩
/-- a slice whose rows are of a kind -/
theorem GoodC.sl' {e : List Cl} {v : Value} {α : Type} [Inhabited α] {q : α → List Value → Prop} (h : GoodC w (.sl e) v) (hq : ∀ vs, GoodL w e vs → ∃ a, q a vs) :
    ∃ a n c, ∃ A : Nat → α, v = .slice a n c ∧ n ≤ c ∧ c ≤ maxLen ∧ (a = none → c = 0) ∧ ∀ i, i < n → ∃ b o vs, a = some ⟨b, o, none⟩ ∧ ro w b (o + i * e.length) vs ∧ q (A i) vs := by
  cases h with
  | sl rows hc hm hn hr hg =>
    obtain ⟨A, hA⟩ := choose_lt fun i hi => hq _ (hg i hi)
    exact ⟨_, _, _, A, rfl, hc, hm, hn, fun i hi => let ⟨b, o, h1, h2⟩ := hr i hi; ⟨b, o, rows i, h1, h2, hA i hi⟩⟩
theorem keep_all (hl : laidOutB P = true) : ∀ {ts : List TypeId} {vs : List Value} {ds : List (DataW H)} {ps : List MemPlace} {W W' : World}, ts.all (fun t => P.readableRec t && decide (t < P.types.size)) = true →
    DataW.TrodAll enc P W 0 (fun _ => true) true ts vs ds ps → Below W.heap.size W W' → DataW.TrodAll enc P W' 0 (fun b => decide (b < W.heap.size)) true ts vs ds ps
  | [], [], [], _, _, _, _, h, _ => h
  | [], [], _ :: _, _, _, _, _, h, _ => h.elim
  | [], _ :: _, _, _, _, _, _, h, _ => h.elim
  | _ :: _, [], _, _, _, _, _, h, _ => h.elim
  | _ :: _, _ :: _, [], _, _, _, _, h, _ => h.elim
  | t :: ts, v :: vs, d :: ds, ps, W, W', ha, h, hb => by
    obtain ⟨p, q, h1, h2, rfl⟩ := h
    simp only [List.all_cons, Bool.and_eq_true, decide_eq_true_eq] at ha
    have lt : ∀ x ∈ p, x.block < W.heap.size := by obtain ⟨m, hm⟩ := h1; exact DataW.trod_lt m _ _ _ hm
    exact ⟨p, q, Below.trod hl ha.1.1 ha.1.2 h1 hb lt, keep_all hl ha.2 h2 hb, rfl⟩
end
end Go.Eng
namespace Go.Eng
set_option linter.unusedVariables false
set_option linter.unusedSimpArgs false
open Go Go.RowKit

theorem wf64 {n : Int} (h : (Lit.int .i64 n).wf = true) : -9223372036854775808 ≤ n ∧ n ≤ 9223372036854775807 := by
  simp only [Lit.wf, Bool.and_eq_true, decide_eq_true_eq] at h
  exact h
theorem wf8 {n : Int} (h : (Lit.int .u8 n).wf = true) : 0 ≤ n ∧ n ≤ 255 := by
  simp only [Lit.wf, Bool.and_eq_true, decide_eq_true_eq] at h
  exact h
theorem ro_rows {α : Type} {A : Ly α} {w : World} {b o : Nat} : ∀ (l : List α), (∀ i (hi : i < l.length), ro w b (o + i * A.sz) (A.row l[i])) → ro w b o (A.rows l) := by
  intro l h j hj
  rw [Ly.rows_len] at hj
  have hp := A.pos
  have hi : j / A.sz < l.length := Nat.div_lt_of_lt_mul (by rw [Nat.mul_comm]; exact hj)
  have hr : j % A.sz < A.sz := Nat.mod_lt _ hp
  have h1 := h _ hi (j % A.sz) (by rw [A.len]; exact hr)
  have e : o + j / A.sz * A.sz + j % A.sz = o + j := by rw [Nat.add_assoc, Nat.div_add_mod']
  rw [e] at h1
  rw [h1, ← Ly.rows_at hi, List.getElem?_take_of_lt hr, List.getElem?_drop, Nat.div_add_mod']
theorem openArr {α : Type} [Inhabited α] (A : Ly α) {e : List Cl} (p : α → Prop) {w : World} {v : Value} (h : GoodC w (.sl e) v) (he : e.length = A.sz) (hq : ∀ vs, GoodL w e vs → ∃ a, vs = A.row a ∧ p a) :
    ∃ (a : Option Addr) (c : Nat) (l : List α), v = .slice a l.length c ∧ l.length ≤ c ∧ c ≤ maxLen ∧ Rd w [] a A l ∧ ∀ x ∈ l, p x := by
  obtain ⟨a, n, c, F, rfl, hn, hc, ha, hr⟩ := h.sl' (q := fun x vs => vs = A.row x ∧ p x) hq
  refine ⟨a, c, (List.range n).map F, by simp, by simpa using hn, hc, Rd.base ?_, fun x hx => ?_⟩
  · by_cases hn0 : n = 0
    · subst hn0; exact .inl rfl
    · right
      obtain ⟨b, o, vs, rfl, _⟩ := hr 0 (by omega)
      refine ⟨b, o, rfl, ro_rows _ fun i hi => ?_⟩
      obtain ⟨b', o', vs, h1, h2, h3, _⟩ := hr i (by simpa using hi)
      cases h1
      rw [he] at h2
      subst h3
      simpa using h2
  · obtain ⟨i, hi, rfl⟩ := List.mem_map.1 hx
    obtain ⟨_, _, _, _, _, _, h⟩ := hr i (by simpa using hi)
    exact h
/-- a slice of bytes -/
theorem openBytes {w : World} {v : Value} (h : GoodC w (.sl [.int .u8]) v) : ∃ (a : Option Addr) (c : Nat) (l : List UInt8), v = .slice a l.length c ∧ l.length ≤ c ∧ c ≤ maxLen ∧ Rd w [] a B8 l := by
  obtain ⟨a, c, l, h1, h2, h3, h4, _⟩ := openArr B8 (fun _ => True) h rfl fun vs hv => by
    obtain ⟨_, _, rfl, h1, h⟩ := hv.cons'
    obtain rfl := h.nil'
    obtain ⟨n, rfl, hn⟩ := h1.int'
    have := wf8 hn
    refine ⟨UInt8.ofNat n.toNat, ?_, trivial⟩
    have e : (UInt8.ofNat n.toNat).toNat = n.toNat := by simp [UInt8.toNat_ofNat']; omega
    show _ = [b8 _]
    simp only [b8, e]
    rw [Int.toNat_of_nonneg this.1]
  exact ⟨a, c, l, h1, h2, h3, h4⟩
end Go.Eng
namespace Go.Proofs.Ythladblmjoaeoaa
set_option linter.unusedVariables false
set_option linter.unusedSimpArgs false
open Go Go.Eng

instance diskAwake : Pure0 PR F_rostrumlaw5_awake [] (.bool true) := ⟨fun W => by
  apply S.rostrumlaw5_awake.call
  unfold S.rostrumlaw5_awake.body
  have h := St.start W
  refine diskNew h (by omega) (by omega) fun p W1 h => ?_
  (repeat (first | (first | (with_reducible (first | refine w1 fun _ _ => ?_ | refine w3 fun _ _ _ => ?_ | refine w4 fun _ _ _ => ?_ | refine w11 fun _ _ _ => ?_ | refine stb_n ?_)) | ((with_reducible refine w2 ?_); try simp -implicitDefEqProofs only [EN, lsub, lget, stL, beq_self_eq_true, ne_eq, if_true, if_false, List.cons_append, List.nil_append, Option.isNone_some, Option.isNone_none]; intro _ _) | ((with_reducible (first | refine w5 ?_ ?_ | refine w6 ?_ ?_ | refine w7 ?_ ?_)); simp; refine ⟨_, rfl, ?_⟩) | ((with_reducible (first | refine w8 ?_ ?_ ?_ | refine w9 ?_ ?_ ?_ | refine w10 ?_ ?_ ?_)); exact rfl; simp) | ((with_reducible refine w12 ?_ ?_ ?_ fun _ _ => ?_); simp; simp; simp [oneC]) | ((with_reducible (first | refine eqs ?_ | refine nes ?_)); refine ⟨_, rfl, ?_⟩) | ((refine okF_i (bldP_eq rfl) ?_); try simp only [BLS, List.take_succ_cons, List.take_zero, List.drop_succ_cons, List.drop_zero, List.cons_append, List.nil_append, Nat.reduceAdd])) | simp -implicitDefEqProofs only [EN, lsub, lget, stL, beq_self_eq_true, ne_eq, if_true, if_false, List.cons_append, List.nil_append, Option.isNone_some, Option.isNone_none]))
  have ok0 : DS.ok ⟨64, [], [], true, 1⟩ := ⟨by decide, by decide, by decide⟩
  have ft0 : DS.fit ⟨64, [], [], true, 1⟩ := trivial
  have s1 : DS.append ⟨64, [], [], true, 1⟩ 0 [120, 121] = (⟨64, [(0, [120, 121])], [(0, 0, 2)], true, 1⟩, 0) := by rfl
  have ok1 := ok0.append 0 [120, 121]
  have ft1 := ft0.append 0 [120, 121]
  rw [s1] at ok1 ft1
  have s2 : DS.append ⟨64, [(0, [120, 121])], [(0, 0, 2)], true, 1⟩ 1 [122, 122] = (⟨64, [(0, [120, 121]), (1, [122, 122])], [(0, 0, 2), (1, 0, 2)], true, 1⟩, 0) := by rfl
  have ok2 := ok1.append 1 [122, 122]
  have ft2 := ft1.append 1 [122, 122]
  rw [s2] at ok2 ft2
  have s3 : DS.crash ⟨64, [(0, [120, 121]), (1, [122, 122])], [(0, 0, 2), (1, 0, 2)], true, 1⟩ 1 1 = ⟨64, [(0, [120, 121]), (1, [122])], [], false, 1⟩ := by rfl
  have ok3 := ok2.crash 1 1
  rw [s3] at ok3
  refine bytesLit [120, 121] (by first | assumption | exact St.tick (by assumption) | exact St.tick (St.tick (by assumption))) rfl (by decide) (by decide) rfl fun a1 c1 W2 h => ?_
  refine diskAppend (f := 0) (bs := [120, 121]) (by first | assumption | exact St.tick (by assumption) | exact St.tick (St.tick (by assumption))) ok0 (by decide) (by decide) fun W3 h => ?_
  rw [s1] at h ⊢
  refine bytesLit [122, 122] (by first | assumption | exact St.tick (by assumption) | exact St.tick (St.tick (by assumption))) rfl (by decide) (by decide) rfl fun a2 c2 W4 h => ?_
  refine diskAppend (f := 1) (bs := [122, 122]) (by first | assumption | exact St.tick (by assumption) | exact St.tick (St.tick (by assumption))) ok1 (by decide) (by decide) fun W5 h => ?_
  rw [s2] at h ⊢
  refine diskCrash (keep := 1) (torn := 1) (by first | assumption | exact St.tick (by assumption) | exact St.tick (St.tick (by assumption))) ok2 ft2 (by decide) fun W6 h => ?_
  rw [s3] at h
  refine diskRead (d := ⟨64, [(0, [120, 121]), (1, [122])], [], false, 1⟩) (f := 0) (by first | assumption | exact St.tick (by assumption) | exact St.tick (St.tick (by assumption))) (by decide) fun a3 c3 W7 h => ?_
  have r1 : DS.read ⟨64, [(0, [120, 121]), (1, [122])], [], false, 1⟩ 0 = ([], 7) := by rfl
  rw [r1] at h ⊢
  (repeat (first | (first | (with_reducible (first | refine w1 fun _ _ => ?_ | refine w3 fun _ _ _ => ?_ | refine w4 fun _ _ _ => ?_ | refine w11 fun _ _ _ => ?_ | refine stb_n ?_)) | ((with_reducible refine w2 ?_); try simp -implicitDefEqProofs only [EN, lsub, lget, stL, beq_self_eq_true, ne_eq, if_true, if_false, List.cons_append, List.nil_append, Option.isNone_some, Option.isNone_none]; intro _ _) | ((with_reducible (first | refine w5 ?_ ?_ | refine w6 ?_ ?_ | refine w7 ?_ ?_)); simp; refine ⟨_, rfl, ?_⟩) | ((with_reducible (first | refine w8 ?_ ?_ ?_ | refine w9 ?_ ?_ ?_ | refine w10 ?_ ?_ ?_)); exact rfl; simp) | ((with_reducible refine w12 ?_ ?_ ?_ fun _ _ => ?_); simp; simp; simp [oneC]) | ((with_reducible (first | refine eqs ?_ | refine nes ?_)); refine ⟨_, rfl, ?_⟩) | ((refine okF_i (bldP_eq rfl) ?_); try simp only [BLS, List.take_succ_cons, List.take_zero, List.drop_succ_cons, List.drop_zero, List.cons_append, List.nil_append, Nat.reduceAdd])) | simp -implicitDefEqProofs only [EN, lsub, lget, stL, beq_self_eq_true, ne_eq, if_true, if_false, List.cons_append, List.nil_append, Option.isNone_some, Option.isNone_none]))
  refine diskOn (by first | assumption | exact St.tick (by assumption) | exact St.tick (St.tick (by assumption))) fun W8 h => ?_
  have s4 : DS.power ⟨64, [(0, [120, 121]), (1, [122])], [], false, 1⟩ = ⟨64, [(0, [120, 121]), (1, [122])], [], true, 2⟩ := by rfl
  rw [s4] at h
  refine diskRead (d := ⟨64, [(0, [120, 121]), (1, [122])], [], true, 2⟩) (f := 0) (by first | assumption | exact St.tick (by assumption) | exact St.tick (St.tick (by assumption))) (by decide) fun a4 c4 W9 h => ?_
  have r2 : DS.read ⟨64, [(0, [120, 121]), (1, [122])], [], true, 2⟩ 0 = ([120, 121], 0) := by rfl
  rw [r2] at h ⊢
  (repeat (first | (first | (with_reducible (first | refine w1 fun _ _ => ?_ | refine w3 fun _ _ _ => ?_ | refine w4 fun _ _ _ => ?_ | refine w11 fun _ _ _ => ?_ | refine stb_n ?_)) | ((with_reducible refine w2 ?_); try simp -implicitDefEqProofs only [EN, lsub, lget, stL, beq_self_eq_true, ne_eq, if_true, if_false, List.cons_append, List.nil_append, Option.isNone_some, Option.isNone_none]; intro _ _) | ((with_reducible (first | refine w5 ?_ ?_ | refine w6 ?_ ?_ | refine w7 ?_ ?_)); simp; refine ⟨_, rfl, ?_⟩) | ((with_reducible (first | refine w8 ?_ ?_ ?_ | refine w9 ?_ ?_ ?_ | refine w10 ?_ ?_ ?_)); exact rfl; simp) | ((with_reducible refine w12 ?_ ?_ ?_ fun _ _ => ?_); simp; simp; simp [oneC]) | ((with_reducible (first | refine eqs ?_ | refine nes ?_)); refine ⟨_, rfl, ?_⟩) | ((refine okF_i (bldP_eq rfl) ?_); try simp only [BLS, List.take_succ_cons, List.take_zero, List.drop_succ_cons, List.drop_zero, List.cons_append, List.nil_append, Nat.reduceAdd])) | simp -implicitDefEqProofs only [EN, lsub, lget, stL, beq_self_eq_true, ne_eq, if_true, if_false, List.cons_append, List.nil_append, Option.isNone_some, Option.isNone_none]))
  refine diskRead (d := ⟨64, [(0, [120, 121]), (1, [122])], [], true, 2⟩) (f := 1) (by first | assumption | exact St.tick (by assumption) | exact St.tick (St.tick (by assumption))) (by decide) fun a5 c5 W10 h => ?_
  have r3 : DS.read ⟨64, [(0, [120, 121]), (1, [122])], [], true, 2⟩ 1 = ([122], 0) := by rfl
  rw [r3] at h ⊢
  (repeat (first | (first | (with_reducible (first | refine w1 fun _ _ => ?_ | refine w3 fun _ _ _ => ?_ | refine w4 fun _ _ _ => ?_ | refine w11 fun _ _ _ => ?_ | refine stb_n ?_)) | ((with_reducible refine w2 ?_); try simp -implicitDefEqProofs only [EN, lsub, lget, stL, beq_self_eq_true, ne_eq, if_true, if_false, List.cons_append, List.nil_append, Option.isNone_some, Option.isNone_none]; intro _ _) | ((with_reducible (first | refine w5 ?_ ?_ | refine w6 ?_ ?_ | refine w7 ?_ ?_)); simp; refine ⟨_, rfl, ?_⟩) | ((with_reducible (first | refine w8 ?_ ?_ ?_ | refine w9 ?_ ?_ ?_ | refine w10 ?_ ?_ ?_)); exact rfl; simp) | ((with_reducible refine w12 ?_ ?_ ?_ fun _ _ => ?_); simp; simp; simp [oneC]) | ((with_reducible (first | refine eqs ?_ | refine nes ?_)); refine ⟨_, rfl, ?_⟩) | ((refine okF_i (bldP_eq rfl) ?_); try simp only [BLS, List.take_succ_cons, List.take_zero, List.drop_succ_cons, List.drop_zero, List.cons_append, List.nil_append, Nat.reduceAdd])) | simp -implicitDefEqProofs only [EN, lsub, lget, stL, beq_self_eq_true, ne_eq, if_true, if_false, List.cons_append, List.nil_append, Option.isNone_some, Option.isNone_none]))
  refine b2s (a := a4) (l := [120, 121]) (by first | assumption | exact St.tick (by assumption) | exact St.tick (St.tick (by assumption))) ?_
  (repeat (first | (first | (with_reducible (first | refine w1 fun _ _ => ?_ | refine w3 fun _ _ _ => ?_ | refine w4 fun _ _ _ => ?_ | refine w11 fun _ _ _ => ?_ | refine stb_n ?_)) | ((with_reducible refine w2 ?_); try simp -implicitDefEqProofs only [EN, lsub, lget, stL, beq_self_eq_true, ne_eq, if_true, if_false, List.cons_append, List.nil_append, Option.isNone_some, Option.isNone_none, eq_self]; intro _ _) | ((with_reducible (first | refine w5 ?_ ?_ | refine w6 ?_ ?_ | refine w7 ?_ ?_)); simp; refine ⟨_, rfl, ?_⟩) | ((with_reducible (first | refine w8 ?_ ?_ ?_ | refine w9 ?_ ?_ ?_ | refine w10 ?_ ?_ ?_)); exact rfl; simp) | ((with_reducible refine w12 ?_ ?_ ?_ fun _ _ => ?_); simp; simp; simp [oneC]) | ((with_reducible (first | refine eqs ?_ | refine nes ?_)); refine ⟨_, rfl, ?_⟩) | ((refine okF_i (bldP_eq rfl) ?_); try simp only [BLS, List.take_succ_cons, List.take_zero, List.drop_succ_cons, List.drop_zero, List.cons_append, List.nil_append, Nat.reduceAdd])) | simp -implicitDefEqProofs only [EN, lsub, lget, stL, beq_self_eq_true, ne_eq, if_true, if_false, List.cons_append, List.nil_append, Option.isNone_some, Option.isNone_none, eq_self]))
  refine b2s (a := a5) (l := [122]) (by first | assumption | exact St.tick (by assumption) | exact St.tick (St.tick (by assumption))) ?_
  (repeat (first | (first | (with_reducible (first | refine w1 fun _ _ => ?_ | refine w3 fun _ _ _ => ?_ | refine w4 fun _ _ _ => ?_ | refine w11 fun _ _ _ => ?_ | refine stb_n ?_)) | ((with_reducible refine w2 ?_); try simp -implicitDefEqProofs only [EN, lsub, lget, stL, beq_self_eq_true, ne_eq, if_true, if_false, List.cons_append, List.nil_append, Option.isNone_some, Option.isNone_none, eq_self]; intro _ _) | ((with_reducible (first | refine w5 ?_ ?_ | refine w6 ?_ ?_ | refine w7 ?_ ?_)); simp; refine ⟨_, rfl, ?_⟩) | ((with_reducible (first | refine w8 ?_ ?_ ?_ | refine w9 ?_ ?_ ?_ | refine w10 ?_ ?_ ?_)); exact rfl; simp) | ((with_reducible refine w12 ?_ ?_ ?_ fun _ _ => ?_); simp; simp; simp [oneC]) | ((with_reducible (first | refine eqs ?_ | refine nes ?_)); refine ⟨_, rfl, ?_⟩) | ((refine okF_i (bldP_eq rfl) ?_); try simp only [BLS, List.take_succ_cons, List.take_zero, List.drop_succ_cons, List.drop_zero, List.cons_append, List.nil_append, Nat.reduceAdd])) | simp -implicitDefEqProofs only [EN, lsub, lget, stL, beq_self_eq_true, ne_eq, if_true, if_false, List.cons_append, List.nil_append, Option.isNone_some, Option.isNone_none, eq_self]))
  refine diskLives (by first | assumption | exact St.tick (by assumption) | exact St.tick (St.tick (by assumption))) fun W11 h => ?_
  (repeat (first | (first | (with_reducible (first | refine w1 fun _ _ => ?_ | refine w3 fun _ _ _ => ?_ | refine w4 fun _ _ _ => ?_ | refine w11 fun _ _ _ => ?_ | refine stb_n ?_)) | ((with_reducible refine w2 ?_); try simp -implicitDefEqProofs only [EN, lsub, lget, stL, beq_self_eq_true, ne_eq, if_true, if_false, List.cons_append, List.nil_append, Option.isNone_some, Option.isNone_none, eq_self]; intro _ _) | ((with_reducible (first | refine w5 ?_ ?_ | refine w6 ?_ ?_ | refine w7 ?_ ?_)); simp; refine ⟨_, rfl, ?_⟩) | ((with_reducible (first | refine w8 ?_ ?_ ?_ | refine w9 ?_ ?_ ?_ | refine w10 ?_ ?_ ?_)); exact rfl; simp) | ((with_reducible refine w12 ?_ ?_ ?_ fun _ _ => ?_); simp; simp; simp [oneC]) | ((with_reducible (first | refine eqs ?_ | refine nes ?_)); refine ⟨_, rfl, ?_⟩) | ((refine okF_i (bldP_eq rfl) ?_); try simp only [BLS, List.take_succ_cons, List.take_zero, List.drop_succ_cons, List.drop_zero, List.cons_append, List.nil_append, Nat.reduceAdd])) | simp -implicitDefEqProofs only [EN, lsub, lget, stL, beq_self_eq_true, ne_eq, if_true, if_false, List.cons_append, List.nil_append, Option.isNone_some, Option.isNone_none, eq_self]))
  refine diskPower (by first | assumption | exact St.tick (by assumption) | exact St.tick (St.tick (by assumption))) fun W12 h => ?_
  (repeat (first | (first | (with_reducible (first | refine w1 fun _ _ => ?_ | refine w3 fun _ _ _ => ?_ | refine w4 fun _ _ _ => ?_ | refine w11 fun _ _ _ => ?_ | refine stb_n ?_)) | ((with_reducible refine w2 ?_); try simp -implicitDefEqProofs only [EN, lsub, lget, stL, beq_self_eq_true, ne_eq, if_true, if_false, List.cons_append, List.nil_append, Option.isNone_some, Option.isNone_none]; intro _ _) | ((with_reducible (first | refine w5 ?_ ?_ | refine w6 ?_ ?_ | refine w7 ?_ ?_)); simp; refine ⟨_, rfl, ?_⟩) | ((with_reducible (first | refine w8 ?_ ?_ ?_ | refine w9 ?_ ?_ ?_ | refine w10 ?_ ?_ ?_)); exact rfl; simp) | ((with_reducible refine w12 ?_ ?_ ?_ fun _ _ => ?_); simp; simp; simp [oneC]) | ((with_reducible (first | refine eqs ?_ | refine nes ?_)); refine ⟨_, rfl, ?_⟩) | ((refine okF_i (bldP_eq rfl) ?_); try simp only [BLS, List.take_succ_cons, List.take_zero, List.drop_succ_cons, List.drop_zero, List.cons_append, List.nil_append, Nat.reduceAdd])) | simp -implicitDefEqProofs only [EN, lsub, lget, stL, beq_self_eq_true, ne_eq, if_true, if_false, List.cons_append, List.nil_append, Option.isNone_some, Option.isNone_none]))
  exact St.nil (by first | assumption | exact St.tick (by assumption) | exact St.tick (St.tick (by assumption)))⟩

theorem diskApart_walk {W : World} {v0 : Value} (h0 : GoodA W [.sl [.int .u8]] false v0) : callK PR F_rostrumlaw5_DiskApart [v0] (fun v W' => v = .bool true ∧ St W [] W') W := by
  obtain ⟨b, c, l, rfl, hbc, hbm, hrb⟩ := openBytes h0.one
  apply S.rostrumlaw5_DiskApart.call
  unfold S.rostrumlaw5_DiskApart.body
  have h := St.start W
  by_cases h1 : (l.length : Int) < 1
  · (repeat (first | (first | (with_reducible (first | refine w1 fun _ _ => ?_ | refine w3 fun _ _ _ => ?_ | refine w4 fun _ _ _ => ?_ | refine w11 fun _ _ _ => ?_ | refine stb_n ?_)) | ((with_reducible refine w2 ?_); try simp -implicitDefEqProofs only [EN, lsub, lget, stL, beq_self_eq_true, ne_eq, if_true, if_false, List.cons_append, List.nil_append, Option.isNone_some, Option.isNone_none, h1]; intro _ _) | ((with_reducible (first | refine w5 ?_ ?_ | refine w6 ?_ ?_ | refine w7 ?_ ?_)); simp; refine ⟨_, rfl, ?_⟩) | ((with_reducible (first | refine w8 ?_ ?_ ?_ | refine w9 ?_ ?_ ?_ | refine w10 ?_ ?_ ?_)); exact rfl; simp) | ((with_reducible refine w12 ?_ ?_ ?_ fun _ _ => ?_); simp; simp; simp [oneC]) | ((with_reducible (first | refine eqs ?_ | refine nes ?_)); refine ⟨_, rfl, ?_⟩) | ((refine okF_i (bldP_eq rfl) ?_); try simp only [BLS, List.take_succ_cons, List.take_zero, List.drop_succ_cons, List.drop_zero, List.cons_append, List.nil_append, Nat.reduceAdd])) | simp -implicitDefEqProofs only [EN, lsub, lget, stL, beq_self_eq_true, ne_eq, if_true, if_false, List.cons_append, List.nil_append, Option.isNone_some, Option.isNone_none, h1]))
    (first | exact St.nil (by first | assumption | exact St.tick (by assumption) | exact St.tick (St.tick (by assumption))) | exact ⟨rfl, St.nil (by first | assumption | exact St.tick (by assumption) | exact St.tick (St.tick (by assumption)))⟩)
  by_cases h2 : (100 : Int) < (l.length : Int)
  · (repeat (first | (first | (with_reducible (first | refine w1 fun _ _ => ?_ | refine w3 fun _ _ _ => ?_ | refine w4 fun _ _ _ => ?_ | refine w11 fun _ _ _ => ?_ | refine stb_n ?_)) | ((with_reducible refine w2 ?_); try simp -implicitDefEqProofs only [EN, lsub, lget, stL, beq_self_eq_true, ne_eq, if_true, if_false, List.cons_append, List.nil_append, Option.isNone_some, Option.isNone_none, h1, h2]; intro _ _) | ((with_reducible (first | refine w5 ?_ ?_ | refine w6 ?_ ?_ | refine w7 ?_ ?_)); simp; refine ⟨_, rfl, ?_⟩) | ((with_reducible (first | refine w8 ?_ ?_ ?_ | refine w9 ?_ ?_ ?_ | refine w10 ?_ ?_ ?_)); exact rfl; simp) | ((with_reducible refine w12 ?_ ?_ ?_ fun _ _ => ?_); simp; simp; simp [oneC]) | ((with_reducible (first | refine eqs ?_ | refine nes ?_)); refine ⟨_, rfl, ?_⟩) | ((refine okF_i (bldP_eq rfl) ?_); try simp only [BLS, List.take_succ_cons, List.take_zero, List.drop_succ_cons, List.drop_zero, List.cons_append, List.nil_append, Nat.reduceAdd])) | simp -implicitDefEqProofs only [EN, lsub, lget, stL, beq_self_eq_true, ne_eq, if_true, if_false, List.cons_append, List.nil_append, Option.isNone_some, Option.isNone_none, h1, h2]))
    (first | exact St.nil (by first | assumption | exact St.tick (by assumption) | exact St.tick (St.tick (by assumption))) | exact ⟨rfl, St.nil (by first | assumption | exact St.tick (by assumption) | exact St.tick (St.tick (by assumption)))⟩)
  (repeat (first | (first | (with_reducible (first | refine w1 fun _ _ => ?_ | refine w3 fun _ _ _ => ?_ | refine w4 fun _ _ _ => ?_ | refine w11 fun _ _ _ => ?_ | refine stb_n ?_)) | ((with_reducible refine w2 ?_); try simp -implicitDefEqProofs only [EN, lsub, lget, stL, beq_self_eq_true, ne_eq, if_true, if_false, List.cons_append, List.nil_append, Option.isNone_some, Option.isNone_none, h1, h2]; intro _ _) | ((with_reducible (first | refine w5 ?_ ?_ | refine w6 ?_ ?_ | refine w7 ?_ ?_)); simp; refine ⟨_, rfl, ?_⟩) | ((with_reducible (first | refine w8 ?_ ?_ ?_ | refine w9 ?_ ?_ ?_ | refine w10 ?_ ?_ ?_)); exact rfl; simp) | ((with_reducible refine w12 ?_ ?_ ?_ fun _ _ => ?_); simp; simp; simp [oneC]) | ((with_reducible (first | refine eqs ?_ | refine nes ?_)); refine ⟨_, rfl, ?_⟩) | ((refine okF_i (bldP_eq rfl) ?_); try simp only [BLS, List.take_succ_cons, List.take_zero, List.drop_succ_cons, List.drop_zero, List.cons_append, List.nil_append, Nat.reduceAdd])) | simp -implicitDefEqProofs only [EN, lsub, lget, stL, beq_self_eq_true, ne_eq, if_true, if_false, List.cons_append, List.nil_append, Option.isNone_some, Option.isNone_none, h1, h2]))
  refine diskNew (by first | assumption | exact St.tick (by assumption) | exact St.tick (St.tick (by assumption))) (by omega) (by omega) fun p W1 h => ?_
  have ok0 : DS.ok ⟨1000, [], [], true, 1⟩ := ⟨by decide, by decide, by decide⟩
  (repeat (first | (first | (with_reducible (first | refine w1 fun _ _ => ?_ | refine w3 fun _ _ _ => ?_ | refine w4 fun _ _ _ => ?_ | refine w11 fun _ _ _ => ?_ | refine stb_n ?_)) | ((with_reducible refine w2 ?_); try simp -implicitDefEqProofs only [EN, lsub, lget, stL, beq_self_eq_true, ne_eq, if_true, if_false, List.cons_append, List.nil_append, Option.isNone_some, Option.isNone_none]; intro _ _) | ((with_reducible (first | refine w5 ?_ ?_ | refine w6 ?_ ?_ | refine w7 ?_ ?_)); simp; refine ⟨_, rfl, ?_⟩) | ((with_reducible (first | refine w8 ?_ ?_ ?_ | refine w9 ?_ ?_ ?_ | refine w10 ?_ ?_ ?_)); exact rfl; simp) | ((with_reducible refine w12 ?_ ?_ ?_ fun _ _ => ?_); simp; simp; simp [oneC]) | ((with_reducible (first | refine eqs ?_ | refine nes ?_)); refine ⟨_, rfl, ?_⟩) | ((refine okF_i (bldP_eq rfl) ?_); try simp only [BLS, List.take_succ_cons, List.take_zero, List.drop_succ_cons, List.drop_zero, List.cons_append, List.nil_append, Nat.reduceAdd])) | simp -implicitDefEqProofs only [EN, lsub, lget, stL, beq_self_eq_true, ne_eq, if_true, if_false, List.cons_append, List.nil_append, Option.isNone_some, Option.isNone_none]))
  refine bs0 B8 (by first | assumption | exact St.tick (by assumption) | exact St.tick (St.tick (by assumption))) fun a1 c1 W2 h => ?_
  refine appA (a := a1) (l := []) (m := l) h rfl (by simp; omega) (by simp [maxLen]; omega) fun a2 c2 W3 h => ?_
  have s1 : DS.append ⟨1000, [], [], true, 1⟩ 3 l = (⟨1000, [(3, l)], [(3, 0, (l.length : Int))], true, 1⟩, 0) := by
    unfold DS.append
    rw [if_neg (by decide), if_neg (by simp [lens]; omega)]
    simp [mput, cont, mget]
  have ok1 := ok0.append 3 l
  rw [s1] at ok1
  rw [List.nil_append] at h ⊢
  refine diskAppend (f := 3) (a := a2) (bs := l) (by first | assumption | exact St.tick (by assumption) | exact St.tick (St.tick (by assumption))) ok0 (by omega) (by decide) fun W4 h => ?_
  rw [s1] at h
  have hl0 : 0 < l.length := by omega
  have hb8 : ∀ x : UInt8, vcells (.int .u8 (IntKind.u8.wrap (((x.toNat : Nat) : Int) + 1))) = B8.row (x + 1) := by
    intro x
    have e : IntKind.u8.wrap (((x.toNat : Nat) : Int) + 1) = (((x + 1).toNat : Nat) : Int) := by
      simp [IntKind.wrap, IntKind.bits, IntKind.signed, UInt8.toNat_add]
    rw [e]; rfl
  refine ixA (i := 0) (a := a2) (l := l) (A := B8) h rfl rfl hl0 fun g o ha => ?_
  cases ha
  refine ldA0 (i := 0) (l := l) (A := B8) h rfl hl0 (v := .int .u8 (l[0].toNat : Nat)) rfl (by simp) ?_
  (repeat (first | (first | (with_reducible (first | refine w1 fun _ _ => ?_ | refine w3 fun _ _ _ => ?_ | refine w4 fun _ _ _ => ?_ | refine w11 fun _ _ _ => ?_ | refine stb_n ?_)) | ((with_reducible refine w2 ?_); try simp -implicitDefEqProofs only [EN, lsub, lget, stL, beq_self_eq_true, ne_eq, if_true, if_false, List.cons_append, List.nil_append, Option.isNone_some, Option.isNone_none]; intro _ _) | ((with_reducible (first | refine w5 ?_ ?_ | refine w6 ?_ ?_ | refine w7 ?_ ?_)); simp; refine ⟨_, rfl, ?_⟩) | ((with_reducible (first | refine w8 ?_ ?_ ?_ | refine w9 ?_ ?_ ?_ | refine w10 ?_ ?_ ?_)); exact rfl; simp) | ((with_reducible refine w12 ?_ ?_ ?_ fun _ _ => ?_); simp; simp; simp [oneC]) | ((with_reducible (first | refine eqs ?_ | refine nes ?_)); refine ⟨_, rfl, ?_⟩) | ((refine okF_i (bldP_eq rfl) ?_); try simp only [BLS, List.take_succ_cons, List.take_zero, List.drop_succ_cons, List.drop_zero, List.cons_append, List.nil_append, Nat.reduceAdd])) | simp -implicitDefEqProofs only [EN, lsub, lget, stL, beq_self_eq_true, ne_eq, if_true, if_false, List.cons_append, List.nil_append, Option.isNone_some, Option.isNone_none]))
  refine ixA (i := 0) (a := some ⟨g, o, none⟩) (l := l) (A := B8) (by first | assumption | exact St.tick (by assumption) | exact St.tick (St.tick (by assumption))) rfl rfl hl0 fun g' o' ha => ?_
  cases ha
  refine stA (i := 0) (l := l) (A := B8) (x := l[0] + 1) (by first | assumption | exact St.tick (by assumption) | exact St.tick (St.tick (by assumption))) rfl hl0 (hb8 _) fun W5 h => ?_
  have r1 : DS.read ⟨1000, [(3, l)], [(3, 0, (l.length : Int))], true, 1⟩ 3 = (l, 0) := by
    unfold DS.read
    rw [if_neg (by simp [DS.find, DS.ask, mget])]
    simp [cont, mget]
  have hls : lens [((3 : Int), l)] ≤ 1048576 := by simp [lens]; omega
  refine diskRead (d := ⟨1000, [(3, l)], [(3, 0, (l.length : Int))], true, 1⟩) (f := 3) (by first | assumption | exact St.tick (by assumption) | exact St.tick (St.tick (by assumption))) hls fun a3 c3 W6 h => ?_
  rw [r1] at h ⊢
  (repeat (first | (first | (with_reducible (first | refine w1 fun _ _ => ?_ | refine w3 fun _ _ _ => ?_ | refine w4 fun _ _ _ => ?_ | refine w11 fun _ _ _ => ?_ | refine stb_n ?_)) | ((with_reducible refine w2 ?_); try simp -implicitDefEqProofs only [EN, lsub, lget, stL, beq_self_eq_true, ne_eq, if_true, if_false, List.cons_append, List.nil_append, Option.isNone_some, Option.isNone_none, eq_self]; intro _ _) | ((with_reducible (first | refine w5 ?_ ?_ | refine w6 ?_ ?_ | refine w7 ?_ ?_)); simp; refine ⟨_, rfl, ?_⟩) | ((with_reducible (first | refine w8 ?_ ?_ ?_ | refine w9 ?_ ?_ ?_ | refine w10 ?_ ?_ ?_)); exact rfl; simp) | ((with_reducible refine w12 ?_ ?_ ?_ fun _ _ => ?_); simp; simp; simp [oneC]) | ((with_reducible (first | refine eqs ?_ | refine nes ?_)); refine ⟨_, rfl, ?_⟩) | ((refine okF_i (bldP_eq rfl) ?_); try simp only [BLS, List.take_succ_cons, List.take_zero, List.drop_succ_cons, List.drop_zero, List.cons_append, List.nil_append, Nat.reduceAdd])) | simp -implicitDefEqProofs only [EN, lsub, lget, stL, beq_self_eq_true, ne_eq, if_true, if_false, List.cons_append, List.nil_append, Option.isNone_some, Option.isNone_none, eq_self]))
  refine ixA (i := 0) (a := a3) (l := l) (A := B8) (by first | assumption | exact St.tick (by assumption) | exact St.tick (St.tick (by assumption))) rfl rfl hl0 fun g' o' ha => ?_
  cases ha
  refine ldA0 (i := 0) (l := l) (A := B8) (by first | assumption | exact St.tick (by assumption) | exact St.tick (St.tick (by assumption))) rfl hl0 (v := .int .u8 (l[0].toNat : Nat)) rfl (by simp) ?_
  (repeat (first | (first | (with_reducible (first | refine w1 fun _ _ => ?_ | refine w3 fun _ _ _ => ?_ | refine w4 fun _ _ _ => ?_ | refine w11 fun _ _ _ => ?_ | refine stb_n ?_)) | ((with_reducible refine w2 ?_); try simp -implicitDefEqProofs only [EN, lsub, lget, stL, beq_self_eq_true, ne_eq, if_true, if_false, List.cons_append, List.nil_append, Option.isNone_some, Option.isNone_none]; intro _ _) | ((with_reducible (first | refine w5 ?_ ?_ | refine w6 ?_ ?_ | refine w7 ?_ ?_)); simp; refine ⟨_, rfl, ?_⟩) | ((with_reducible (first | refine w8 ?_ ?_ ?_ | refine w9 ?_ ?_ ?_ | refine w10 ?_ ?_ ?_)); exact rfl; simp) | ((with_reducible refine w12 ?_ ?_ ?_ fun _ _ => ?_); simp; simp; simp [oneC]) | ((with_reducible (first | refine eqs ?_ | refine nes ?_)); refine ⟨_, rfl, ?_⟩) | ((refine okF_i (bldP_eq rfl) ?_); try simp only [BLS, List.take_succ_cons, List.take_zero, List.drop_succ_cons, List.drop_zero, List.cons_append, List.nil_append, Nat.reduceAdd])) | simp -implicitDefEqProofs only [EN, lsub, lget, stL, beq_self_eq_true, ne_eq, if_true, if_false, List.cons_append, List.nil_append, Option.isNone_some, Option.isNone_none]))
  refine ixA (i := 0) (a := some ⟨g', o', none⟩) (l := l) (A := B8) (by first | assumption | exact St.tick (by assumption) | exact St.tick (St.tick (by assumption))) rfl rfl hl0 fun g' o' ha => ?_
  cases ha
  refine stA (i := 0) (l := l) (A := B8) (x := l[0] + 1) (by first | assumption | exact St.tick (by assumption) | exact St.tick (St.tick (by assumption))) rfl hl0 (hb8 _) fun W7 h => ?_
  refine diskRead (d := ⟨1000, [(3, l)], [(3, 0, (l.length : Int))], true, 1⟩) (f := 3) (by first | assumption | exact St.tick (by assumption) | exact St.tick (St.tick (by assumption))) hls fun a4 c4 W8 h => ?_
  rw [r1] at h ⊢
  (repeat (first | (first | (with_reducible (first | refine w1 fun _ _ => ?_ | refine w3 fun _ _ _ => ?_ | refine w4 fun _ _ _ => ?_ | refine w11 fun _ _ _ => ?_ | refine stb_n ?_)) | ((with_reducible refine w2 ?_); try simp -implicitDefEqProofs only [EN, lsub, lget, stL, beq_self_eq_true, ne_eq, if_true, if_false, List.cons_append, List.nil_append, Option.isNone_some, Option.isNone_none]; intro _ _) | ((with_reducible (first | refine w5 ?_ ?_ | refine w6 ?_ ?_ | refine w7 ?_ ?_)); simp; refine ⟨_, rfl, ?_⟩) | ((with_reducible (first | refine w8 ?_ ?_ ?_ | refine w9 ?_ ?_ ?_ | refine w10 ?_ ?_ ?_)); exact rfl; simp) | ((with_reducible refine w12 ?_ ?_ ?_ fun _ _ => ?_); simp; simp; simp [oneC]) | ((with_reducible (first | refine eqs ?_ | refine nes ?_)); refine ⟨_, rfl, ?_⟩) | ((refine okF_i (bldP_eq rfl) ?_); try simp only [BLS, List.take_succ_cons, List.take_zero, List.drop_succ_cons, List.drop_zero, List.cons_append, List.nil_append, Nat.reduceAdd])) | simp -implicitDefEqProofs only [EN, lsub, lget, stL, beq_self_eq_true, ne_eq, if_true, if_false, List.cons_append, List.nil_append, Option.isNone_some, Option.isNone_none]))
  refine b2s (a := a4) (l := l) (by first | assumption | exact St.tick (by assumption) | exact St.tick (St.tick (by assumption))) ?_
  (repeat (first | (first | (with_reducible (first | refine w1 fun _ _ => ?_ | refine w3 fun _ _ _ => ?_ | refine w4 fun _ _ _ => ?_ | refine w11 fun _ _ _ => ?_ | refine stb_n ?_)) | ((with_reducible refine w2 ?_); try simp -implicitDefEqProofs only [EN, lsub, lget, stL, beq_self_eq_true, ne_eq, if_true, if_false, List.cons_append, List.nil_append, Option.isNone_some, Option.isNone_none]; intro _ _) | ((with_reducible (first | refine w5 ?_ ?_ | refine w6 ?_ ?_ | refine w7 ?_ ?_)); simp; refine ⟨_, rfl, ?_⟩) | ((with_reducible (first | refine w8 ?_ ?_ ?_ | refine w9 ?_ ?_ ?_ | refine w10 ?_ ?_ ?_)); exact rfl; simp) | ((with_reducible refine w12 ?_ ?_ ?_ fun _ _ => ?_); simp; simp; simp [oneC]) | ((with_reducible (first | refine eqs ?_ | refine nes ?_)); refine ⟨_, rfl, ?_⟩) | ((refine okF_i (bldP_eq rfl) ?_); try simp only [BLS, List.take_succ_cons, List.take_zero, List.drop_succ_cons, List.drop_zero, List.cons_append, List.nil_append, Nat.reduceAdd])) | simp -implicitDefEqProofs only [EN, lsub, lget, stL, beq_self_eq_true, ne_eq, if_true, if_false, List.cons_append, List.nil_append, Option.isNone_some, Option.isNone_none]))
  refine b2s (a := b) (l := l) (by first | assumption | exact St.tick (by assumption) | exact St.tick (St.tick (by assumption))) ?_
  (repeat (first | (first | (with_reducible (first | refine w1 fun _ _ => ?_ | refine w3 fun _ _ _ => ?_ | refine w4 fun _ _ _ => ?_ | refine w11 fun _ _ _ => ?_ | refine stb_n ?_)) | ((with_reducible refine w2 ?_); try simp -implicitDefEqProofs only [EN, lsub, lget, stL, beq_self_eq_true, ne_eq, if_true, if_false, List.cons_append, List.nil_append, Option.isNone_some, Option.isNone_none, eq_self]; intro _ _) | ((with_reducible (first | refine w5 ?_ ?_ | refine w6 ?_ ?_ | refine w7 ?_ ?_)); simp; refine ⟨_, rfl, ?_⟩) | ((with_reducible (first | refine w8 ?_ ?_ ?_ | refine w9 ?_ ?_ ?_ | refine w10 ?_ ?_ ?_)); exact rfl; simp) | ((with_reducible refine w12 ?_ ?_ ?_ fun _ _ => ?_); simp; simp; simp [oneC]) | ((with_reducible (first | refine eqs ?_ | refine nes ?_)); refine ⟨_, rfl, ?_⟩) | ((refine okF_i (bldP_eq rfl) ?_); try simp only [BLS, List.take_succ_cons, List.take_zero, List.drop_succ_cons, List.drop_zero, List.cons_append, List.nil_append, Nat.reduceAdd])) | simp -implicitDefEqProofs only [EN, lsub, lget, stL, beq_self_eq_true, ne_eq, if_true, if_false, List.cons_append, List.nil_append, Option.isNone_some, Option.isNone_none, eq_self]))
  exact St.nil (by first | assumption | exact St.tick (by assumption) | exact St.tick (St.tick (by assumption)))
end Go.Proofs.Ythladblmjoaeoaa
