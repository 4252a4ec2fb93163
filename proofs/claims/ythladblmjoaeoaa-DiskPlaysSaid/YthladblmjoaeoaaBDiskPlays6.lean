/- Texts of the claim DiskPlays, joined: CDisk6, PRef5, PRef5b, PDisk2, PRef5c, ShRef5. -/
import Derived.Test.YthladblmjoaeoaaBDiskPlays5
import Derived.Test.YthladblmjoaeoaaBDiskPlays4
import Derived.Test.YthladblmjoaeoaaBDiskPlays3
namespace Go.Proofs.Ythladblmjoaeoaa
set_option linter.unusedVariables false
set_option linter.unusedSimpArgs false
open Go Go.Eng

def DS.files (d : DS) : List Int := if d.on then (d.fs.map (·.1)).mergeSort (fun x y => decide (x ≤ y)) else []
def DS.spoil (d : DS) (f at' : Int) (b : UInt8) : DS × Bool :=
  if d.find f ≠ 0 ∨ at' < 0 ∨ ((cont d.fs f).length : Int) ≤ at' ∨ b = 0 then (d, false)
  else ({ d with fs := mput d.fs f ((cont d.fs f).set at'.toNat ((cont d.fs f).getD at'.toNat 0 ^^^ b)) }, true)
theorem mputSame {κ β : Type} [DecidableEq κ] {l : List (κ × β)} {k : κ} {v : β} (h : mget l k = some v) : mput l k v = l := by
  induction l with
  | nil => cases h
  | cons p l ih =>
    obtain ⟨a, b⟩ := p
    by_cases hk : a = k
    · subst hk
      simp only [mget, if_true, Option.some.injEq] at h
      subst h
      simp [mput]
    · simp only [mget, if_neg hk] at h
      simp only [mput, if_neg hk, ih h]
theorem xor8 (a b : UInt8) : IntKind.u8.wrap (BitVec.ofInt 8 (a.toNat : Int) ^^^ BitVec.ofInt 8 (b.toNat : Int)).toNat = ((a ^^^ b).toNat : Int) := by
  have e1 : (BitVec.ofInt 8 (a.toNat : Int) ^^^ BitVec.ofInt 8 (b.toNat : Int)).toNat = (a ^^^ b).toNat := by
    rw [BitVec.toNat_xor, UInt8.toNat_xor]
    have ha := a.toNat_lt
    have hb := b.toNat_lt
    rw [BitVec.ofInt_natCast, BitVec.ofInt_natCast, BitVec.toNat_ofNat, BitVec.toNat_ofNat, Nat.mod_eq_of_lt ha, Nat.mod_eq_of_lt hb]
  rw [e1]
  have := (a ^^^ b).toNat_lt
  show ((((a ^^^ b).toNat : Int)) % 256) = _
  omega
theorem wf64i {x : Int} (h0 : -9223372036854775808 ≤ x) (h1 : x ≤ 9223372036854775807) : (Lit.int .i64 x).wf = true := by
  show (decide ((-9223372036854775808 : Int) ≤ x) && decide (x ≤ (9223372036854775807 : Int))) = true
  rw [decide_eq_true h0, decide_eq_true h1]; rfl
section
variable {W0 W : World} {L L' : List Asn}
theorem lawInts {a b : Option Addr} {c d : Nat} {l m : List Int} {k : Value → World → Prop} (h : St W0 L W) [hr : Rd W0 L a I64 l] [hr2 : Rd W0 L b I64 m] (hl : l.length < 4611686018427387904)
    (hk : ∀ W', St W0 L W' → k (.bool (decide (l = m))) W') : callK PR F_rostrumlaw5_ints [.slice a l.length c, .slice b m.length d] k W := by
  apply S.rostrumlaw5_ints.call
  unfold S.rostrumlaw5_ints.body
  by_cases hn : l.length = m.length
  · have f1 := decide_eq_true hn
    have f1' : decide ((l.length : Int) = (m.length : Int)) = true := decide_eq_true (by omega)
    (repeat (first | (first | (with_reducible (first | refine w1 fun _ _ => ?_ | refine w3 fun _ _ _ => ?_ | refine w4 fun _ _ _ => ?_ | refine w11 fun _ _ _ => ?_ | refine stb_n ?_)) | ((with_reducible refine w2 ?_); try simp -implicitDefEqProofs only [EN, lsub, lget, stL, beq_self_eq_true, ne_eq, if_true, if_false, List.cons_append, List.nil_append, Option.isNone_some, Option.isNone_none, f1']; intro _ _) | ((with_reducible (first | refine w5 ?_ ?_ | refine w6 ?_ ?_ | refine w7 ?_ ?_)); simp; refine ⟨_, rfl, ?_⟩) | ((with_reducible (first | refine w8 ?_ ?_ ?_ | refine w9 ?_ ?_ ?_ | refine w10 ?_ ?_ ?_)); exact rfl; simp) | ((with_reducible refine w12 ?_ ?_ ?_ fun _ _ => ?_); simp; simp; simp [oneC]) | ((with_reducible (first | refine eqs ?_ | refine nes ?_)); refine ⟨_, rfl, ?_⟩) | ((refine okF_i (bldP_eq rfl) ?_); try simp only [BLS, List.take_succ_cons, List.take_zero, List.drop_succ_cons, List.drop_zero, List.cons_append, List.nil_append, Nat.reduceAdd])) | simp -implicitDefEqProofs only [EN, lsub, lget, stL, beq_self_eq_true, ne_eq, if_true, if_false, List.cons_append, List.nil_append, Option.isNone_some, Option.isNone_none, f1']))
    refine loop_c (σ := Unit) l.length (fun i _ => [.slice a l.length c, .slice b m.length d, .int .i64 i]) (fun i _ W1 => (∀ j (hj : j < l.length), j < i → l[j] = m[j]'(by omega)) ∧ St W0 L W1) () rfl ⟨fun j _ h => by omega, h⟩ ?_
    clear h
    rintro K i _ W1 hi ⟨hall, h⟩ hK
    simp -implicitDefEqProofs only [EN, lsub, lget, stL, beq_self_eq_true, ne_eq, if_true, if_false, List.cons_append, List.nil_append, Option.isNone_some, Option.isNone_none]
    unfold S.rostrumlaw5_ints.l1
    by_cases hlt : (i : Int) < (l.length : Int)
    · have hib : i < l.length := by omega
      have hib2 : i < m.length := by omega
      have ew : IntKind.i64.wrap ((i : Int) + 1) = ((i + 1 : Nat) : Int) := by rw [i64w]; omega
      (repeat (first | (first | (with_reducible (first | refine w1 fun _ _ => ?_ | refine w3 fun _ _ _ => ?_ | refine w4 fun _ _ _ => ?_ | refine w11 fun _ _ _ => ?_ | refine stb_n ?_)) | ((with_reducible refine w2 ?_); try simp -implicitDefEqProofs only [EN, lsub, lget, stL, beq_self_eq_true, ne_eq, if_true, if_false, List.cons_append, List.nil_append, Option.isNone_some, Option.isNone_none, hlt]; intro _ _) | ((with_reducible (first | refine w5 ?_ ?_ | refine w6 ?_ ?_ | refine w7 ?_ ?_)); simp; refine ⟨_, rfl, ?_⟩) | ((with_reducible (first | refine w8 ?_ ?_ ?_ | refine w9 ?_ ?_ ?_ | refine w10 ?_ ?_ ?_)); exact rfl; simp) | ((with_reducible refine w12 ?_ ?_ ?_ fun _ _ => ?_); simp; simp; simp [oneC]) | ((with_reducible (first | refine eqs ?_ | refine nes ?_)); refine ⟨_, rfl, ?_⟩) | ((refine okF_i (bldP_eq rfl) ?_); try simp only [BLS, List.take_succ_cons, List.take_zero, List.drop_succ_cons, List.drop_zero, List.cons_append, List.nil_append, Nat.reduceAdd])) | simp -implicitDefEqProofs only [EN, lsub, lget, stL, beq_self_eq_true, ne_eq, if_true, if_false, List.cons_append, List.nil_append, Option.isNone_some, Option.isNone_none, hlt]))
      refine ixA (i := i) (a := a) (l := l) (A := I64) h.tick rfl rfl hib fun g o ha => ?_
      cases ha
      refine ldA0 (i := i) (l := l) (A := I64) h.tick rfl hib (v := .int .i64 l[i]) rfl (by simp) ?_
      refine ixA (i := i) (a := b) (l := m) (A := I64) h.tick rfl rfl hib2 fun g' o' ha => ?_
      cases ha
      refine ldA0 (i := i) (l := m) (A := I64) h.tick rfl hib2 (v := .int .i64 m[i]) rfl (by simp) ?_
      by_cases he : l[i] = m[i]
      · have f2 := decide_eq_true he
        (repeat (first | (first | (with_reducible (first | refine w1 fun _ _ => ?_ | refine w3 fun _ _ _ => ?_ | refine w4 fun _ _ _ => ?_ | refine w11 fun _ _ _ => ?_ | refine stb_n ?_)) | ((with_reducible refine w2 ?_); try simp -implicitDefEqProofs only [EN, lsub, lget, stL, beq_self_eq_true, ne_eq, if_true, if_false, List.cons_append, List.nil_append, Option.isNone_some, Option.isNone_none, f2, ew]; intro _ _) | ((with_reducible (first | refine w5 ?_ ?_ | refine w6 ?_ ?_ | refine w7 ?_ ?_)); simp; refine ⟨_, rfl, ?_⟩) | ((with_reducible (first | refine w8 ?_ ?_ ?_ | refine w9 ?_ ?_ ?_ | refine w10 ?_ ?_ ?_)); exact rfl; simp) | ((with_reducible refine w12 ?_ ?_ ?_ fun _ _ => ?_); simp; simp; simp [oneC]) | ((with_reducible (first | refine eqs ?_ | refine nes ?_)); refine ⟨_, rfl, ?_⟩) | ((refine okF_i (bldP_eq rfl) ?_); try simp only [BLS, List.take_succ_cons, List.take_zero, List.drop_succ_cons, List.drop_zero, List.cons_append, List.nil_append, Nat.reduceAdd])) | simp -implicitDefEqProofs only [EN, lsub, lget, stL, beq_self_eq_true, ne_eq, if_true, if_false, List.cons_append, List.nil_append, Option.isNone_some, Option.isNone_none, f2, ew]))
        refine hK () _ hib ⟨fun j hj h1 => ?_, h.tick⟩
        by_cases e : j = i
        · subst e; exact he
        · exact hall j hj (by omega)
      · have f2 := decide_eq_false he
        have f3 : decide (l = m) = false := decide_eq_false fun e => he (by subst e; rfl)
        rw [f3] at hk
        (repeat (first | (first | (with_reducible (first | refine w1 fun _ _ => ?_ | refine w3 fun _ _ _ => ?_ | refine w4 fun _ _ _ => ?_ | refine w11 fun _ _ _ => ?_ | refine stb_n ?_)) | ((with_reducible refine w2 ?_); try simp -implicitDefEqProofs only [EN, lsub, lget, stL, beq_self_eq_true, ne_eq, if_true, if_false, List.cons_append, List.nil_append, Option.isNone_some, Option.isNone_none, f2]; intro _ _) | ((with_reducible (first | refine w5 ?_ ?_ | refine w6 ?_ ?_ | refine w7 ?_ ?_)); simp; refine ⟨_, rfl, ?_⟩) | ((with_reducible (first | refine w8 ?_ ?_ ?_ | refine w9 ?_ ?_ ?_ | refine w10 ?_ ?_ ?_)); exact rfl; simp) | ((with_reducible refine w12 ?_ ?_ ?_ fun _ _ => ?_); simp; simp; simp [oneC]) | ((with_reducible (first | refine eqs ?_ | refine nes ?_)); refine ⟨_, rfl, ?_⟩) | ((refine okF_i (bldP_eq rfl) ?_); try simp only [BLS, List.take_succ_cons, List.take_zero, List.drop_succ_cons, List.drop_zero, List.cons_append, List.nil_append, Nat.reduceAdd])) | simp -implicitDefEqProofs only [EN, lsub, lget, stL, beq_self_eq_true, ne_eq, if_true, if_false, List.cons_append, List.nil_append, Option.isNone_some, Option.isNone_none, f2]))
        exact hk _ h.tick
    · have f3 : decide (l = m) = true := decide_eq_true (List.ext_getElem hn fun j hj _ => hall j hj (by omega))
      rw [f3] at hk
      (repeat (first | (first | (with_reducible (first | refine w1 fun _ _ => ?_ | refine w3 fun _ _ _ => ?_ | refine w4 fun _ _ _ => ?_ | refine w11 fun _ _ _ => ?_ | refine stb_n ?_)) | ((with_reducible refine w2 ?_); try simp -implicitDefEqProofs only [EN, lsub, lget, stL, beq_self_eq_true, ne_eq, if_true, if_false, List.cons_append, List.nil_append, Option.isNone_some, Option.isNone_none, hlt]; intro _ _) | ((with_reducible (first | refine w5 ?_ ?_ | refine w6 ?_ ?_ | refine w7 ?_ ?_)); simp; refine ⟨_, rfl, ?_⟩) | ((with_reducible (first | refine w8 ?_ ?_ ?_ | refine w9 ?_ ?_ ?_ | refine w10 ?_ ?_ ?_)); exact rfl; simp) | ((with_reducible refine w12 ?_ ?_ ?_ fun _ _ => ?_); simp; simp; simp [oneC]) | ((with_reducible (first | refine eqs ?_ | refine nes ?_)); refine ⟨_, rfl, ?_⟩) | ((refine okF_i (bldP_eq rfl) ?_); try simp only [BLS, List.take_succ_cons, List.take_zero, List.drop_succ_cons, List.drop_zero, List.cons_append, List.nil_append, Nat.reduceAdd])) | simp -implicitDefEqProofs only [EN, lsub, lget, stL, beq_self_eq_true, ne_eq, if_true, if_false, List.cons_append, List.nil_append, Option.isNone_some, Option.isNone_none, hlt]))
      exact hk _ h
  · have f1' : decide ((l.length : Int) = (m.length : Int)) = false := decide_eq_false (by omega)
    have f3 : decide (l = m) = false := decide_eq_false fun e => hn (by rw [e])
    rw [f3] at hk
    (repeat (first | (first | (with_reducible (first | refine w1 fun _ _ => ?_ | refine w3 fun _ _ _ => ?_ | refine w4 fun _ _ _ => ?_ | refine w11 fun _ _ _ => ?_ | refine stb_n ?_)) | ((with_reducible refine w2 ?_); try simp -implicitDefEqProofs only [EN, lsub, lget, stL, beq_self_eq_true, ne_eq, if_true, if_false, List.cons_append, List.nil_append, Option.isNone_some, Option.isNone_none, f1']; intro _ _) | ((with_reducible (first | refine w5 ?_ ?_ | refine w6 ?_ ?_ | refine w7 ?_ ?_)); simp; refine ⟨_, rfl, ?_⟩) | ((with_reducible (first | refine w8 ?_ ?_ ?_ | refine w9 ?_ ?_ ?_ | refine w10 ?_ ?_ ?_)); exact rfl; simp) | ((with_reducible refine w12 ?_ ?_ ?_ fun _ _ => ?_); simp; simp; simp [oneC]) | ((with_reducible (first | refine eqs ?_ | refine nes ?_)); refine ⟨_, rfl, ?_⟩) | ((refine okF_i (bldP_eq rfl) ?_); try simp only [BLS, List.take_succ_cons, List.take_zero, List.drop_succ_cons, List.drop_zero, List.cons_append, List.nil_append, Nat.reduceAdd])) | simp -implicitDefEqProofs only [EN, lsub, lget, stL, beq_self_eq_true, ne_eq, if_true, if_false, List.cons_append, List.nil_append, Option.isNone_some, Option.isNone_none, f1']))
    exact hk _ h
theorem diskFiles {p : Nat} {d : DS} {k : Value → World → Prop} (h : St W0 L W) (h0 : W0.drawn = 0) [ht : Tk (dk p) L d L'] (hl : d.fs.length ≤ 1000) (hw : ∀ x ∈ d.fs, 0 ≤ x.1 ∧ x.1 < 1000)
    (hk : ∀ a c W', St W0 (arr I64 T_int a c d.files :: dk p d :: L') W' → k (.slice a d.files.length c) W') : callK PR F_disk_Disk_Files [.pointer (some ⟨p, 0, none⟩)] k W := by
  apply S.disk_Disk_Files.call
  unfold S.disk_Disk_Files.body
  obtain ⟨r, a, c, fs, hf, h⟩ := dk_at (h.perm ht.perm)
  unfold DS.files at hk
  cases hon : d.on with
  | false =>
    rw [hon] at hk h
    (repeat (first | (first | (with_reducible (first | refine w1 fun _ _ => ?_ | refine w3 fun _ _ _ => ?_ | refine w4 fun _ _ _ => ?_ | refine w11 fun _ _ _ => ?_ | refine stb_n ?_)) | ((with_reducible refine w2 ?_); try simp -implicitDefEqProofs only [EN, lsub, lget, stL, beq_self_eq_true, ne_eq, if_true, if_false, List.cons_append, List.nil_append, Option.isNone_some, Option.isNone_none]; intro _ _) | ((with_reducible (first | refine w5 ?_ ?_ | refine w6 ?_ ?_ | refine w7 ?_ ?_)); simp; refine ⟨_, rfl, ?_⟩) | ((with_reducible (first | refine w8 ?_ ?_ ?_ | refine w9 ?_ ?_ ?_ | refine w10 ?_ ?_ ?_)); exact rfl; simp) | ((with_reducible refine w12 ?_ ?_ ?_ fun _ _ => ?_); simp; simp; simp [oneC]) | ((with_reducible (first | refine eqs ?_ | refine nes ?_)); refine ⟨_, rfl, ?_⟩) | ((refine okF_i (bldP_eq rfl) ?_); try simp only [BLS, List.take_succ_cons, List.take_zero, List.drop_succ_cons, List.drop_zero, List.cons_append, List.nil_append, Nat.reduceAdd])) | simp -implicitDefEqProofs only [EN, lsub, lget, stL, beq_self_eq_true, ne_eq, if_true, if_false, List.cons_append, List.nil_append, Option.isNone_some, Option.isNone_none]))
    exact hk none 0 _ ((St.ent (by first | assumption | exact St.tick (by assumption) | exact St.tick (St.tick (by assumption))) (hon ▸ dk_ent (d := d) hf)).ent (arr_nil _ _))
  | true =>
    rw [hon, if_pos rfl] at hk
    rw [hon] at h
    (repeat (first | (first | (with_reducible (first | refine w1 fun _ _ => ?_ | refine w3 fun _ _ _ => ?_ | refine w4 fun _ _ _ => ?_ | refine w11 fun _ _ _ => ?_ | refine stb_n ?_)) | ((with_reducible refine w2 ?_); try simp -implicitDefEqProofs only [EN, lsub, lget, stL, beq_self_eq_true, ne_eq, if_true, if_false, List.cons_append, List.nil_append, Option.isNone_some, Option.isNone_none]; intro _ _) | ((with_reducible (first | refine w5 ?_ ?_ | refine w6 ?_ ?_ | refine w7 ?_ ?_)); simp; refine ⟨_, rfl, ?_⟩) | ((with_reducible (first | refine w8 ?_ ?_ ?_ | refine w9 ?_ ?_ ?_ | refine w10 ?_ ?_ ?_)); exact rfl; simp) | ((with_reducible refine w12 ?_ ?_ ?_ fun _ _ => ?_); simp; simp; simp [oneC]) | ((with_reducible (first | refine eqs ?_ | refine nes ?_)); refine ⟨_, rfl, ?_⟩) | ((refine okF_i (bldP_eq rfl) ?_); try simp only [BLS, List.take_succ_cons, List.take_zero, List.drop_succ_cons, List.drop_zero, List.cons_append, List.nil_append, Nat.reduceAdd])) | simp -implicitDefEqProofs only [EN, lsub, lget, stL, beq_self_eq_true, ne_eq, if_true, if_false, List.cons_append, List.nil_append, Option.isNone_some, Option.isNone_none]))
    refine keysI (ρ := layKeys_ren) layKeys h fun b W2 h => ?_
    have hlf : (mvs fs).length = d.fs.length := by rw [← hf]; simp
    have hkf : (mvs fs).map (·.1) = d.fs.map (·.1) := by rw [← hf]; simp
    have h := St.perm h (List.Perm.cons _ (List.Perm.swap _ _ _))
    refine sortedI (ρ := laySorted_ren) (g := layKeys_ren.f 10) laySorted (sortsI (ρ' := laySortI_ren) laySortI rfl) (enters_of Try.func63 (by kernel_rfl) rfl) (enters_of Try.func64 (by kernel_rfl) rfl) h h0 (by omega) (keysGive (ρ := layKeys_ren) layKeys h (by rw [hlf]; simp only [maxLen]; omega) fun x hx => ?_) fun a' c' ss W3 hS h => ?_
    · have hx2 : x.1 ∈ (mvs fs).map (·.1) := List.mem_map.2 ⟨x, hx, rfl⟩
      rw [hkf] at hx2
      obtain ⟨z, hz, hz2⟩ := List.mem_map.1 hx2
      have := hw z hz
      rw [show x.1 = z.1 from hz2.symm]
      exact wf64i (by omega) (by omega)
    · rw [hkf] at hS
      have e : (ss.mergeSort fun x y => decide (x ≤ y)) = (d.fs.map (·.1)).mergeSort fun x y => decide (x ≤ y) := mergeSort_of_perm_i hS
      rw [e] at h ⊢
      have h : St W0 (arr I64 T_int a' c' ((d.fs.map (·.1)).mergeSort fun x y => decide (x ≤ y)) :: _) W3 := h
      refine hk a' c' W3 ((St.wk (L' := arr I64 T_int a' c' _ :: cells p [.int .i64 d.room, .map (some r), .slice a d.ws.length c, .bool true, .int .i64 d.lives] T_disk_Disk :: mp KI r (mvs fs) :: arr WRT T_disk_write a c d.ws :: many fch (fs.map (fun x : Int × BSl => x.2)) :: L') h).ent (ent.cons _ ?_))
      exact hon ▸ dk_ent (d := d) hf
theorem diskSpoil {p : Nat} {d : DS} {f at' : Int} {b : UInt8} {k : Value → World → Prop} (h : St W0 L W) [ht : Tk (dk p) L d L'] (hd : d.ok)
    (hk : ∀ W', St W0 (dk p (d.spoil f at' b).1 :: L') W' → k (.bool (d.spoil f at' b).2) W') : callK PR F_disk_Disk_Spoil [.pointer (some ⟨p, 0, none⟩), .int .i64 f, .int .i64 at', b8 b] k W := by
  apply S.disk_Disk_Spoil.call
  unfold S.disk_Disk_Spoil.body
  refine diskFind h fun W1 h => ?_
  unfold DS.spoil at hk
  by_cases ha : d.find f = 0
  · have e1 : decide (d.find f = 0) = true := decide_eq_true ha
    by_cases h1 : at' < 0
    · rw [if_pos (.inr (.inl h1))] at hk
      (repeat (first | (first | (with_reducible (first | refine w1 fun _ _ => ?_ | refine w3 fun _ _ _ => ?_ | refine w4 fun _ _ _ => ?_ | refine w11 fun _ _ _ => ?_ | refine stb_n ?_)) | ((with_reducible refine w2 ?_); try simp -implicitDefEqProofs only [EN, lsub, lget, stL, beq_self_eq_true, ne_eq, if_true, if_false, List.cons_append, List.nil_append, Option.isNone_some, Option.isNone_none, e1, h1]; intro _ _) | ((with_reducible (first | refine w5 ?_ ?_ | refine w6 ?_ ?_ | refine w7 ?_ ?_)); simp; refine ⟨_, rfl, ?_⟩) | ((with_reducible (first | refine w8 ?_ ?_ ?_ | refine w9 ?_ ?_ ?_ | refine w10 ?_ ?_ ?_)); exact rfl; simp) | ((with_reducible refine w12 ?_ ?_ ?_ fun _ _ => ?_); simp; simp; simp [oneC]) | ((with_reducible (first | refine eqs ?_ | refine nes ?_)); refine ⟨_, rfl, ?_⟩) | ((refine okF_i (bldP_eq rfl) ?_); try simp only [BLS, List.take_succ_cons, List.take_zero, List.drop_succ_cons, List.drop_zero, List.cons_append, List.nil_append, Nat.reduceAdd])) | simp -implicitDefEqProofs only [EN, lsub, lget, stL, beq_self_eq_true, ne_eq, if_true, if_false, List.cons_append, List.nil_append, Option.isNone_some, Option.isNone_none, e1, h1]))
      exact hk _ h
    · obtain ⟨r, a, c, fs, hf, h⟩ := dk_at h
      have hcl := lens_cont d.fs f
      have hsm := (find_some ha).1
      rw [← hf, ← mget_mvs_some, mvs, mget_map] at hsm
      obtain ⟨y, hy⟩ : ∃ y, mget fs f = some y := by
        cases hm : mget fs f with
        | none => rw [hm] at hsm; cases hsm
        | some y => exact ⟨y, rfl⟩
      have ec : cont d.fs f = y.bs := by rw [← hf, cont_cts, hy]; rfl
      rw [ec] at hk hcl
      (repeat (first | (first | (with_reducible (first | refine w1 fun _ _ => ?_ | refine w3 fun _ _ _ => ?_ | refine w4 fun _ _ _ => ?_ | refine w11 fun _ _ _ => ?_ | refine stb_n ?_)) | ((with_reducible refine w2 ?_); try simp -implicitDefEqProofs only [EN, lsub, lget, stL, beq_self_eq_true, ne_eq, if_true, if_false, List.cons_append, List.nil_append, Option.isNone_some, Option.isNone_none, e1, h1]; intro _ _) | ((with_reducible (first | refine w5 ?_ ?_ | refine w6 ?_ ?_ | refine w7 ?_ ?_)); simp; refine ⟨_, rfl, ?_⟩) | ((with_reducible (first | refine w8 ?_ ?_ ?_ | refine w9 ?_ ?_ ?_ | refine w10 ?_ ?_ ?_)); exact rfl; simp) | ((with_reducible refine w12 ?_ ?_ ?_ fun _ _ => ?_); simp; simp; simp [oneC]) | ((with_reducible (first | refine eqs ?_ | refine nes ?_)); refine ⟨_, rfl, ?_⟩) | ((refine okF_i (bldP_eq rfl) ?_); try simp only [BLS, List.take_succ_cons, List.take_zero, List.drop_succ_cons, List.drop_zero, List.cons_append, List.nil_append, Nat.reduceAdd])) | simp -implicitDefEqProofs only [EN, lsub, lget, stL, beq_self_eq_true, ne_eq, if_true, if_false, List.cons_append, List.nil_append, Option.isNone_some, Option.isNone_none, e1, h1]))
      refine lkp (K := KI) (z := .slice none 0 0) f (by first | assumption | exact St.tick (by assumption) | exact St.tick (St.tick (by assumption))) ?_
      rw [mget_mvs, hy]
      simp only [Option.getD_some]
      by_cases h2 : (y.bs.length : Int) ≤ at'
      · rw [if_pos (.inr (.inr (.inl h2)))] at hk
        (repeat (first | (first | (with_reducible (first | refine w1 fun _ _ => ?_ | refine w3 fun _ _ _ => ?_ | refine w4 fun _ _ _ => ?_ | refine w11 fun _ _ _ => ?_ | refine stb_n ?_)) | ((with_reducible refine w2 ?_); try simp -implicitDefEqProofs only [EN, lsub, lget, stL, beq_self_eq_true, ne_eq, if_true, if_false, List.cons_append, List.nil_append, Option.isNone_some, Option.isNone_none, h2]; intro _ _) | ((with_reducible (first | refine w5 ?_ ?_ | refine w6 ?_ ?_ | refine w7 ?_ ?_)); simp; refine ⟨_, rfl, ?_⟩) | ((with_reducible (first | refine w8 ?_ ?_ ?_ | refine w9 ?_ ?_ ?_ | refine w10 ?_ ?_ ?_)); exact rfl; simp) | ((with_reducible refine w12 ?_ ?_ ?_ fun _ _ => ?_); simp; simp; simp [oneC]) | ((with_reducible (first | refine eqs ?_ | refine nes ?_)); refine ⟨_, rfl, ?_⟩) | ((refine okF_i (bldP_eq rfl) ?_); try simp only [BLS, List.take_succ_cons, List.take_zero, List.drop_succ_cons, List.drop_zero, List.cons_append, List.nil_append, Nat.reduceAdd])) | simp -implicitDefEqProofs only [EN, lsub, lget, stL, beq_self_eq_true, ne_eq, if_true, if_false, List.cons_append, List.nil_append, Option.isNone_some, Option.isNone_none, h2]))
        exact hk _ (St.ent (by first | assumption | exact St.tick (by assumption) | exact St.tick (St.tick (by assumption))) (dk_ent (d := d) hf))
      · by_cases h3 : b = 0
        · rw [if_pos (.inr (.inr (.inr h3)))] at hk
          subst h3
          (repeat (first | (first | (with_reducible (first | refine w1 fun _ _ => ?_ | refine w3 fun _ _ _ => ?_ | refine w4 fun _ _ _ => ?_ | refine w11 fun _ _ _ => ?_ | refine stb_n ?_)) | ((with_reducible refine w2 ?_); try simp -implicitDefEqProofs only [EN, lsub, lget, stL, beq_self_eq_true, ne_eq, if_true, if_false, List.cons_append, List.nil_append, Option.isNone_some, Option.isNone_none, h2]; intro _ _) | ((with_reducible (first | refine w5 ?_ ?_ | refine w6 ?_ ?_ | refine w7 ?_ ?_)); simp; refine ⟨_, rfl, ?_⟩) | ((with_reducible (first | refine w8 ?_ ?_ ?_ | refine w9 ?_ ?_ ?_ | refine w10 ?_ ?_ ?_)); exact rfl; simp) | ((with_reducible refine w12 ?_ ?_ ?_ fun _ _ => ?_); simp; simp; simp [oneC]) | ((with_reducible (first | refine eqs ?_ | refine nes ?_)); refine ⟨_, rfl, ?_⟩) | ((refine okF_i (bldP_eq rfl) ?_); try simp only [BLS, List.take_succ_cons, List.take_zero, List.drop_succ_cons, List.drop_zero, List.cons_append, List.nil_append, Nat.reduceAdd])) | simp -implicitDefEqProofs only [EN, lsub, lget, stL, beq_self_eq_true, ne_eq, if_true, if_false, List.cons_append, List.nil_append, Option.isNone_some, Option.isNone_none, h2]))
          exact hk _ (St.ent (by first | assumption | exact St.tick (by assumption) | exact St.tick (St.tick (by assumption))) (dk_ent (d := d) hf))
        · have e3 : decide ((b.toNat : Int) = 0) = false := decide_eq_false fun e => h3 (UInt8.toNat.inj (by show b.toNat = 0; omega))
          rw [if_neg (fun h => h.elim (· ha) fun h => h.elim h1 fun h => h.elim h2 h3)] at hk
          rw [show b8 b = .int .u8 (b.toNat : Int) from rfl]
          (repeat (first | (first | (with_reducible (first | refine w1 fun _ _ => ?_ | refine w3 fun _ _ _ => ?_ | refine w4 fun _ _ _ => ?_ | refine w11 fun _ _ _ => ?_ | refine stb_n ?_)) | ((with_reducible refine w2 ?_); try simp -implicitDefEqProofs only [EN, lsub, lget, stL, beq_self_eq_true, ne_eq, if_true, if_false, List.cons_append, List.nil_append, Option.isNone_some, Option.isNone_none, h2, e3]; intro _ _) | ((with_reducible (first | refine w5 ?_ ?_ | refine w6 ?_ ?_ | refine w7 ?_ ?_)); simp; refine ⟨_, rfl, ?_⟩) | ((with_reducible (first | refine w8 ?_ ?_ ?_ | refine w9 ?_ ?_ ?_ | refine w10 ?_ ?_ ?_)); exact rfl; simp) | ((with_reducible refine w12 ?_ ?_ ?_ fun _ _ => ?_); simp; simp; simp [oneC]) | ((with_reducible (first | refine eqs ?_ | refine nes ?_)); refine ⟨_, rfl, ?_⟩) | ((refine okF_i (bldP_eq rfl) ?_); try simp only [BLS, List.take_succ_cons, List.take_zero, List.drop_succ_cons, List.drop_zero, List.cons_append, List.nil_append, Nat.reduceAdd])) | simp -implicitDefEqProofs only [EN, lsub, lget, stL, beq_self_eq_true, ne_eq, if_true, if_false, List.cons_append, List.nil_append, Option.isNone_some, Option.isNone_none, h2, e3]))
          refine lkp (K := KI) (z := .slice none 0 0) f (by first | assumption | exact St.tick (by assumption) | exact St.tick (St.tick (by assumption))) ?_
          rw [mget_mvs, hy]
          simp only [Option.getD_some]
          obtain ⟨i, rfl⟩ : ∃ i : Nat, at' = (i : Int) := ⟨at'.toNat, by omega⟩
          have hib : i < y.bs.length := by omega
          rw [Int.toNat_natCast] at hk
          have h' := St.ent (by first | assumption | exact St.tick (by assumption) | exact St.tick (St.tick (by assumption))) (ent.cons _ (ent.cons _ (ent.cons _ (many_take (F := fch) f ⟨none, 0, []⟩ fch0))))
          rw [hy] at h'
          simp only [Option.getD_some] at h'
          have h := (show St W0 (_ :: _ :: _ :: arr B8 T_uint8 y.a y.c y.bs :: _) _ from h')
          clear h'
          refine ixA (i := i) (a := y.a) (l := y.bs) (A := B8) h rfl rfl hib fun g o ha => ?_
          rw [ha] at h
          refine ldA0 (i := i) (l := y.bs) (A := B8) h rfl hib (v := b8 y.bs[i]) rfl (by simp) ?_
          have ex := xor8 y.bs[i] b
          rw [show b8 y.bs[i] = .int .u8 (y.bs[i].toNat : Int) from rfl]
          (repeat (first | (first | (with_reducible (first | refine w1 fun _ _ => ?_ | refine w3 fun _ _ _ => ?_ | refine w4 fun _ _ _ => ?_ | refine w11 fun _ _ _ => ?_ | refine stb_n ?_)) | ((with_reducible refine w2 ?_); try simp -implicitDefEqProofs only [EN, lsub, lget, stL, beq_self_eq_true, ne_eq, if_true, if_false, List.cons_append, List.nil_append, Option.isNone_some, Option.isNone_none, ex]; intro _ _) | ((with_reducible (first | refine w5 ?_ ?_ | refine w6 ?_ ?_ | refine w7 ?_ ?_)); simp; refine ⟨_, rfl, ?_⟩) | ((with_reducible (first | refine w8 ?_ ?_ ?_ | refine w9 ?_ ?_ ?_ | refine w10 ?_ ?_ ?_)); exact rfl; simp) | ((with_reducible refine w12 ?_ ?_ ?_ fun _ _ => ?_); simp; simp; simp [oneC]) | ((with_reducible (first | refine eqs ?_ | refine nes ?_)); refine ⟨_, rfl, ?_⟩) | ((refine okF_i (bldP_eq rfl) ?_); try simp only [BLS, List.take_succ_cons, List.take_zero, List.drop_succ_cons, List.drop_zero, List.cons_append, List.nil_append, Nat.reduceAdd])) | simp -implicitDefEqProofs only [EN, lsub, lget, stL, beq_self_eq_true, ne_eq, if_true, if_false, List.cons_append, List.nil_append, Option.isNone_some, Option.isNone_none, ex]))
          refine ixA (i := i) (a := y.a) (l := y.bs) (A := B8) (ha ▸ h) rfl rfl hib fun g2 o2 ha2 => ?_
          rw [ha] at ha2
          cases ha2
          refine stA (i := i) (x := y.bs[i] ^^^ b) (l := y.bs) (A := B8) h rfl hib (congrArg (fun n => [Value.int .u8 n]) ex) fun W3 h => ?_
          have eg : y.bs.getD i 0 = y.bs[i] := by rw [List.getD_eq_getElem?_getD, List.getElem?_eq_getElem hib]; rfl
          rw [eg] at hk
          have hv : BSl.v ⟨some ⟨g, o, none⟩, y.c, y.bs.set i (y.bs[i] ^^^ b)⟩ = y.v := by simp [BSl.v, ha]
          have hm : mvs fs = mvs (mput fs f ⟨some ⟨g, o, none⟩, y.c, y.bs.set i (y.bs[i] ^^^ b)⟩) := by
            rw [mvs, mvs, ← mput_map BSl.v fs f _, hv]
            exact (mputSame (by rw [mget_map, hy]; rfl)).symm
          rw [hm] at h
          refine hk _ ((St.wk (L' := cells p [.int .i64 d.room, .map (some r), .slice a d.ws.length c, .bool d.on, .int .i64 d.lives] T_disk_Disk :: mp KI r _ :: arr WRT T_disk_write a c d.ws :: fch ⟨some ⟨g, o, none⟩, y.c, y.bs.set i (y.bs[i] ^^^ b)⟩ :: many fch ((mdel fs f).map (fun x : Int × BSl => x.2)) :: L') h).ent ((ent.cons _ (ent.cons _ (ent.cons _ (many_put f _)))).trans (dk_ent (d := ⟨d.room, mput d.fs f (y.bs.set i (y.bs[i] ^^^ b)), d.ws, d.on, d.lives⟩) ?_)))
          rw [← hf]
          exact (mput_map BSl.bs fs f _).symm
  · have e1 : decide (d.find f = 0) = false := decide_eq_false ha
    rw [if_pos (.inl ha)] at hk
    (repeat (first | (first | (with_reducible (first | refine w1 fun _ _ => ?_ | refine w3 fun _ _ _ => ?_ | refine w4 fun _ _ _ => ?_ | refine w11 fun _ _ _ => ?_ | refine stb_n ?_)) | ((with_reducible refine w2 ?_); try simp -implicitDefEqProofs only [EN, lsub, lget, stL, beq_self_eq_true, ne_eq, if_true, if_false, List.cons_append, List.nil_append, Option.isNone_some, Option.isNone_none, e1]; intro _ _) | ((with_reducible (first | refine w5 ?_ ?_ | refine w6 ?_ ?_ | refine w7 ?_ ?_)); simp; refine ⟨_, rfl, ?_⟩) | ((with_reducible (first | refine w8 ?_ ?_ ?_ | refine w9 ?_ ?_ ?_ | refine w10 ?_ ?_ ?_)); exact rfl; simp) | ((with_reducible refine w12 ?_ ?_ ?_ fun _ _ => ?_); simp; simp; simp [oneC]) | ((with_reducible (first | refine eqs ?_ | refine nes ?_)); refine ⟨_, rfl, ?_⟩) | ((refine okF_i (bldP_eq rfl) ?_); try simp only [BLS, List.take_succ_cons, List.take_zero, List.drop_succ_cons, List.drop_zero, List.cons_append, List.nil_append, Nat.reduceAdd])) | simp -implicitDefEqProofs only [EN, lsub, lget, stL, beq_self_eq_true, ne_eq, if_true, if_false, List.cons_append, List.nil_append, Option.isNone_some, Option.isNone_none, e1]))
    exact hk _ h
end
end Go.Proofs.Ythladblmjoaeoaa
namespace Go.Proofs.Ythladblmjoaeoaa
set_option linter.unusedVariables false
set_option linter.unusedSimpArgs false
open Go Go.Eng

structure RW where
  file : Int
  b : List UInt8
  safe : Bool
structure RD where
  room : Int
  is : List Bool
  w : List RW
  off : Bool
  lives : Int
def contR : List RW → Int → List UInt8
  | [], _ => []
  | x :: l, f => (if x.file = f then x.b else []) ++ contR l f
def totR : List RW → Nat
  | [] => 0
  | x :: l => x.b.length + totR l
def RD.isN (r : RD) (f : Int) : Bool := r.is.getD f.toNat false
def RD.ask (r : RD) (f : Int) : Int := if r.off then 7 else if f < 0 ∨ 999 < f then 1 else if r.isN f then 0 else 4
def RD.append (r : RD) (f : Int) (b : List UInt8) : RD × Int :=
  if r.ask f ≠ 0 ∧ r.ask f ≠ 4 then (r, r.ask f)
  else if r.room < (b.length : Int) + totR r.w then (r, 6)
  else ({ r with is := r.is.set f.toNat true, w := r.w ++ [⟨f, b, false⟩] }, 0)
def syR (f : Int) (x : RW) : RW := if x.file = f then ⟨x.file, x.b, true⟩ else x
def RD.sync (r : RD) (f : Int) : RD × Int := if r.ask f = 0 then ({ r with w := r.w.map (syR f) }, 0) else (r, r.ask f)
def RD.read (r : RD) (f : Int) : List UInt8 × Int := if r.ask f = 0 then (contR r.w f, 0) else ([], r.ask f)
def RD.drop (r : RD) (f : Int) : RD × Int :=
  if r.ask f ≠ 0 then (r, r.ask f) else ({ r with is := r.is.set f.toNat false, w := r.w.filter fun x => !decide (x.file = f) }, 0)
def RD.files (r : RD) : List Int := if r.off then [] else ((List.range 1000).filter fun i => r.is.getD i false).map (fun i : Nat => (i : Int))
def spoilW (f : Int) (b : UInt8) : Nat → List RW → Option (List RW)
  | _, [] => none
  | at', x :: l => if x.file = f then (if at' < x.b.length then some (⟨x.file, x.b.set at' (x.b.getD at' 0 ^^^ b), x.safe⟩ :: l) else (spoilW f b (at' - x.b.length) l).map (x :: ·)) else (spoilW f b at' l).map (x :: ·)
def RD.spoil (r : RD) (f at' : Int) (b : UInt8) : RD × Bool :=
  if r.ask f ≠ 0 ∨ at' < 0 ∨ b = 0 then (r, false)
  else match spoilW f b at'.toNat r.w with
    | some w => ({ r with w := w }, true)
    | none => (r, false)
def cutb (keep torn : Int) (n : Nat) (b : List UInt8) : List UInt8 :=
  if (n : Int) < keep then b else if (n : Int) = keep ∧ 0 < torn then (if torn < b.length then b.take torn.toNat else b) else []
def cutR (keep torn : Int) : Nat → List RW → List RW
  | _, [] => []
  | n, x :: l => if x.safe then x :: cutR keep torn n l else ⟨x.file, cutb keep torn n x.b, true⟩ :: cutR keep torn (n + 1) l
def RD.crash (r : RD) (keep torn : Int) : RD := { r with off := true, w := cutR keep torn 0 r.w }
def RD.power (r : RD) : RD := { r with off := false, lives := IntKind.i64.wrap (r.lives + 1) }

theorem contR_app (f : Int) : ∀ (l m : List RW), contR (l ++ m) f = contR l f ++ contR m f
  | [], m => rfl
  | x :: l, m => by simp only [List.cons_append, contR, contR_app f l m, List.append_assoc]
theorem totR_app : ∀ (l m : List RW), totR (l ++ m) = totR l + totR m
  | [], m => by simp [totR]
  | x :: l, m => by simp only [List.cons_append, totR, totR_app l m]; omega
/-- the writes that are not safe, where they lie -/
def wsG (pre : List RW) : List RW → List Wr
  | [] => []
  | x :: l => (if x.safe then [] else [((x.file, ((contR pre x.file).length : Int), ((contR pre x.file).length : Int) + (x.b.length : Int)) : Wr)]) ++ wsG (pre ++ [x]) l
theorem wsG_app : ∀ (pre l m : List RW), wsG pre (l ++ m) = wsG pre l ++ wsG (pre ++ l) m
  | pre, [], m => by simp [wsG]
  | pre, x :: l, m => by simp only [List.cons_append, wsG, wsG_app _ l m, List.append_assoc, List.nil_append]
theorem wsG_len (pre : List RW) : ∀ (l : List RW) (pre' : List RW), (wsG pre l).length = (wsG pre' l).length
  | [], pre' => rfl
  | x :: l, pre' => by
    simp only [wsG, List.length_append]
    have := wsG_len (pre ++ [x]) l (pre' ++ [x])
    split <;> simp <;> omega
theorem wsG_congr : ∀ (l pre pre' : List RW), (∀ f, (contR pre f).length = (contR pre' f).length) → wsG pre l = wsG pre' l
  | [], _, _, _ => rfl
  | x :: l, pre, pre', h => by
    simp only [wsG]
    rw [wsG_congr l (pre ++ [x]) (pre' ++ [x]) (fun f => by rw [contR_app, contR_app, List.length_append, List.length_append, h]), h]
def suf (w : List RW) : Prop := w.Pairwise fun x y => x.safe = false → y.safe = true → x.file ≠ y.file
structure DRl (d : DS) (r : RD) : Prop where
  room : r.room = d.room
  off : r.off = !d.on
  lives : r.lives = d.lives
  isl : r.is.length = 1000
  keys : ∀ p ∈ d.fs, 0 ≤ p.1 ∧ p.1 < 1000
  nd : (d.fs.map (·.1)).Nodup
  iss : ∀ f : Nat, f < 1000 → r.is.getD f false = (mget d.fs (f : Int)).isSome
  con : ∀ f, cont d.fs f = contR r.w f
  ws : d.ws = wsG [] r.w
  sf : suf r.w
  tot : lens d.fs = totR r.w
  fil : ∀ x ∈ r.w, (mget d.fs x.file).isSome = true
section
variable {d : DS} {r : RD}
theorem mget_some_mem {fs : List (Int × List UInt8)} {f : Int} (h : (mget fs f).isSome = true) : ∃ p ∈ fs, p.1 = f := by
  refine Classical.byContradiction fun hn => ?_
  rw [mget_none.2 (fun p hp he => hn ⟨p, hp, he⟩)] at h
  cases h
theorem mget_mem_some {fs : List (Int × List UInt8)} {f : Int} {p : Int × List UInt8} (hp : p ∈ fs) (he : p.1 = f) : (mget fs f).isSome = true := by
  cases hm : mget fs f with
  | some _ => rfl
  | none => exact absurd he (mget_none.1 hm p hp)
theorem DRl.ask (h : DRl d r) (f : Int) : r.ask f = d.find f := by
  unfold RD.ask DS.find DS.ask
  rw [h.off]
  cases hon : d.on with
  | false => simp
  | true =>
    simp only [Bool.not_true, Bool.false_eq_true, if_false]
    by_cases h1 : f < 0 ∨ 1000 ≤ f
    · rw [if_pos (by omega), if_pos h1]; simp
    · rw [if_neg (by omega), if_neg h1]
      simp only [ne_eq, not_true, if_false]
      have := h.iss f.toNat (by omega)
      rw [Int.toNat_of_nonneg (by omega)] at this
      unfold RD.isN
      rw [this]
theorem mput_keys {fs : List (Int × List UInt8)} {f : Int} (b : List UInt8) (h : (mget fs f).isSome = true) : (mput fs f b).map (·.1) = fs.map (·.1) := by
  induction fs with
  | nil => cases h
  | cons p fs ih =>
    obtain ⟨a, v⟩ := p
    by_cases ha : a = f
    · subst ha; simp [mput]
    · simp only [mget, if_neg ha] at h
      simp only [mput, if_neg ha, List.map_cons, ih h]
theorem isSome_keys {fs fs' : List (Int × List UInt8)} (h : fs'.map (·.1) = fs.map (·.1)) (f : Int) : (mget fs' f).isSome = (mget fs f).isSome := by
  rw [Bool.eq_iff_iff]
  constructor
  · intro h1
    obtain ⟨p, hp, he⟩ := mget_some_mem h1
    have : p.1 ∈ fs.map (·.1) := by rw [← h]; exact List.mem_map.2 ⟨p, hp, rfl⟩
    obtain ⟨q, hq, hq2⟩ := List.mem_map.1 this
    exact mget_mem_some hq (hq2.trans he)
  · intro h1
    obtain ⟨p, hp, he⟩ := mget_some_mem h1
    have : p.1 ∈ fs'.map (·.1) := by rw [h]; exact List.mem_map.2 ⟨p, hp, rfl⟩
    obtain ⟨q, hq, hq2⟩ := List.mem_map.1 this
    exact mget_mem_some hq (hq2.trans he)
/-! ### Append -/
theorem getD_set_same {l : List Bool} {i : Nat} {b : Bool} (h : i < l.length) : (l.set i b).getD i false = b := by
  rw [List.getD_eq_getElem?_getD, List.getElem?_set_self h]; rfl
theorem getD_set_ne {l : List Bool} {i j : Nat} {b : Bool} (h : i ≠ j) : (l.set i b).getD j false = l.getD j false := by
  rw [List.getD_eq_getElem?_getD, List.getElem?_set_ne h, ← List.getD_eq_getElem?_getD]
theorem DRl.append (h : DRl d r) (f : Int) (b : List UInt8) : (r.append f b).2 = (d.append f b).2 ∧ DRl (d.append f b).1 (r.append f b).1 := by
  unfold RD.append DS.append
  rw [h.ask]
  by_cases ha : d.ask f = 0
  · have hf : d.on = true ∧ 0 ≤ f ∧ f < 1000 := by
      unfold DS.ask at ha
      cases hon : d.on with
      | false => rw [hon] at ha; simp at ha
      | true =>
        rw [hon] at ha
        simp only [Bool.not_true, Bool.false_eq_true, if_false] at ha
        by_cases h1 : f < 0 ∨ 1000 ≤ f
        · rw [if_pos h1] at ha; cases ha
        · exact ⟨rfl, by omega, by omega⟩
    have hfd : ¬ (d.find f ≠ 0 ∧ d.find f ≠ 4) := by
      unfold DS.find
      rw [ha]
      simp only [ne_eq, not_true, if_false]
      split <;> simp
    rw [if_neg hfd, if_neg (show ¬ d.ask f ≠ 0 by simp [ha])]
    by_cases hr : r.room < (b.length : Int) + totR r.w
    · rw [if_pos hr, if_pos (show (b.length : Int) > d.room - lens d.fs by rw [h.tot, ← h.room]; omega)]; exact ⟨rfl, h⟩
    · rw [if_neg hr, if_neg (show ¬ (b.length : Int) > d.room - lens d.fs by rw [h.tot, ← h.room]; omega)]
      have hc := h.con f
      refine ⟨rfl, ⟨h.room, h.off, h.lives, ?_, ?_, ?_, ?_, ?_, ?_, ?_, ?_, ?_⟩⟩
      · simp [h.isl]
      · intro p hp
        cases hm : (mget d.fs f).isSome with
        | true =>
          have hk : p.1 ∈ (mput d.fs f (cont d.fs f ++ b)).map (·.1) := List.mem_map.2 ⟨p, hp, rfl⟩
          rw [mput_keys _ hm] at hk
          obtain ⟨q, hq, hq2⟩ := List.mem_map.1 hk
          rw [← show q.1 = p.1 from hq2]; exact h.keys q hq
        | false =>
          have hm : mget d.fs f = none := by cases hx : mget d.fs f with | none => rfl | some _ => rw [hx] at hm; cases hm
          have hp : p ∈ mput d.fs f (cont d.fs f ++ b) := hp
          rw [mput_new (mget_none.1 hm)] at hp
          rcases List.mem_append.1 hp with hp | hp
          · exact h.keys p hp
          · simp only [List.mem_singleton] at hp; subst hp; exact ⟨hf.2.1, hf.2.2⟩
      · show ((mput d.fs f (cont d.fs f ++ b)).map (·.1)).Nodup
        cases hm : (mget d.fs f).isSome with
        | true => rw [mput_keys _ hm]; exact h.nd
        | false =>
          have hm : mget d.fs f = none := by cases hx : mget d.fs f with | none => rfl | some _ => rw [hx] at hm; cases hm
          rw [mput_new (mget_none.1 hm), List.map_append, List.nodup_append]
          refine ⟨h.nd, by simp, fun a ha b hb e => ?_⟩
          simp only [List.map_cons, List.map_nil, List.mem_singleton] at hb
          obtain ⟨q, hq, rfl⟩ := List.mem_map.1 ha
          exact mget_none.1 hm q hq (e.trans hb)
      · intro g hg
        simp only [mget_mput]
        by_cases hgf : f = (g : Int)
        · rw [if_pos hgf]
          subst hgf
          rw [Int.toNat_natCast, getD_set_same (by rw [h.isl]; exact hg)]; rfl
        · rw [if_neg hgf, getD_set_ne (by omega)]; exact h.iss g hg
      · intro g
        simp only [cont_put, contR_app, contR, List.append_nil]
        by_cases hgf : f = g
        · subst hgf; rw [if_pos rfl, if_pos rfl, h.con]
        · rw [if_neg hgf, if_neg hgf, List.append_nil, h.con]
      · simp only [wsG_app, wsG, List.nil_append, List.append_nil, Bool.false_eq_true, if_false, h.ws, h.con]
      · refine List.pairwise_append.2 ⟨h.sf, by simp, fun x _ y hy => ?_⟩
        simp only [List.mem_singleton] at hy; subst hy
        intro _ hs; cases hs
      · simp only [lens_put, totR_app, totR, List.length_append, h.tot]; omega
      · intro x hx
        simp only [mget_mput]
        split
        · rfl
        · rename_i hne
          rcases List.mem_append.1 hx with hx | hx
          · exact h.fil x hx
          · simp only [List.mem_singleton] at hx; subst hx; exact absurd rfl hne
  · have hfd : d.find f = d.ask f := by unfold DS.find; rw [if_pos ha]
    have h4 : d.ask f ≠ 4 := by unfold DS.ask; split; simp; split <;> simp
    rw [hfd, if_pos ⟨ha, h4⟩, if_pos ha]; exact ⟨rfl, h⟩
/-! ### Sync -/
theorem contR_sync (f g : Int) : ∀ l : List RW, contR (l.map (syR f)) g = contR l g
  | [] => rfl
  | x :: l => by
    simp only [List.map_cons, contR, contR_sync f g l]
    unfold syR; split <;> rfl
theorem totR_sync (f : Int) : ∀ l : List RW, totR (l.map (syR f)) = totR l
  | [] => rfl
  | x :: l => by
    simp only [List.map_cons, totR, totR_sync f l]
    unfold syR; split <;> rfl
theorem wsG_sync (f : Int) : ∀ (l pre pre' : List RW), (∀ g, contR pre' g = contR pre g) → wsG pre' (l.map (syR f)) = (wsG pre l).filter fun w => !decide (w.1 = f)
  | [], _, _, _ => rfl
  | x :: l, pre, pre', h => by
    have ih := wsG_sync f l (pre ++ [x]) (pre' ++ [syR f x]) fun g => by
      rw [contR_app, contR_app, h]
      congr 1
      exact contR_sync f g [x]
    simp only [List.map_cons, wsG, List.filter_append, ih]
    congr 1
    unfold syR
    by_cases hx : x.file = f
    · rw [if_pos hx]
      cases x.safe <;> simp [hx]
    · rw [if_neg hx, h]
      cases x.safe <;> simp [hx]
theorem DRl.sync (h : DRl d r) (f : Int) : (r.sync f).2 = (d.sync f).2 ∧ DRl (d.sync f).1 (r.sync f).1 := by
  unfold RD.sync DS.sync
  rw [h.ask]
  by_cases ha : d.find f = 0
  · rw [if_pos ha, if_pos ha]
    refine ⟨rfl, ⟨h.room, h.off, h.lives, h.isl, h.keys, h.nd, h.iss, fun g => by rw [show (d.safe f).fs = d.fs from rfl, h.con, contR_sync], ?_, ?_, by rw [show (d.safe f).fs = d.fs from rfl, h.tot, totR_sync], ?_⟩⟩
    · show d.ws.filter _ = _
      rw [h.ws, wsG_sync f r.w [] [] fun _ => rfl]
    · refine List.pairwise_map.2 (h.sf.imp fun {x y} hxy => ?_)
      unfold syR
      by_cases hx : x.file = f
      · rw [if_pos hx]; intro h1; cases h1
      · rw [if_neg hx]
        intro h1 h2
        by_cases hy : y.file = f
        · rw [if_pos hy]; simp only; rw [hy]; exact hx
        · rw [if_neg hy] at h2 ⊢; exact hxy h1 h2
    · intro x hx
      obtain ⟨y, hy, rfl⟩ := List.mem_map.1 hx
      have : (syR f y).file = y.file := by unfold syR; split <;> rfl
      rw [this]; exact h.fil y hy
  · rw [if_neg ha, if_neg ha]; exact ⟨rfl, h⟩
theorem DRl.read (h : DRl d r) (f : Int) : r.read f = d.read f := by
  unfold RD.read DS.read
  rw [h.ask]
  by_cases ha : d.find f = 0
  · rw [if_pos ha, if_neg (show ¬ d.find f ≠ 0 by simp [ha]), h.con]
  · rw [if_neg ha, if_pos ha]
end
end Go.Proofs.Ythladblmjoaeoaa
namespace Go.Proofs.Ythladblmjoaeoaa
set_option linter.unusedVariables false
set_option linter.unusedSimpArgs false
open Go Go.Eng

section
variable {d : DS} {r : RD}
theorem find0 {f : Int} (h : d.find f = 0) : d.on = true ∧ 0 ≤ f ∧ f < 1000 ∧ (mget d.fs f).isSome = true := by
  obtain ⟨h1, h2⟩ := find_some h
  unfold DS.ask at h2
  cases hon : d.on with
  | false => rw [hon] at h2; simp at h2
  | true =>
    rw [hon] at h2
    simp only [Bool.not_true, Bool.false_eq_true, if_false] at h2
    by_cases h3 : f < 0 ∨ 1000 ≤ f
    · rw [if_pos h3] at h2; cases h2
    · exact ⟨rfl, by omega, by omega, h1⟩
theorem contR_drop_ne {f g : Int} (hg : f ≠ g) : ∀ l : List RW, contR (l.filter fun x => !decide (x.file = f)) g = contR l g
  | [] => rfl
  | x :: l => by
    by_cases hx : x.file = f
    · simp only [List.filter_cons, hx, decide_true, Bool.not_true, Bool.false_eq_true, if_false, contR, contR_drop_ne hg l, if_neg hg, List.nil_append]
    · simp only [List.filter_cons, decide_eq_false hx, Bool.not_false, if_true, contR, contR_drop_ne hg l]
theorem contR_drop_eq (f : Int) : ∀ l : List RW, contR (l.filter fun x => !decide (x.file = f)) f = []
  | [] => rfl
  | x :: l => by
    by_cases hx : x.file = f
    · simp only [List.filter_cons, hx, decide_true, Bool.not_true, Bool.false_eq_true, if_false, contR_drop_eq f l]
    · simp only [List.filter_cons, decide_eq_false hx, Bool.not_false, if_true, contR, contR_drop_eq f l, if_neg hx, List.nil_append]
theorem totR_drop (f : Int) : ∀ l : List RW, totR l = totR (l.filter fun x => !decide (x.file = f)) + (contR l f).length
  | [] => rfl
  | x :: l => by
    have := totR_drop f l
    by_cases hx : x.file = f
    · simp only [List.filter_cons, hx, decide_true, Bool.not_true, Bool.false_eq_true, if_false, contR, if_true, totR, List.length_append]; omega
    · simp only [List.filter_cons, decide_eq_false hx, Bool.not_false, if_true, contR, if_neg hx, totR, List.nil_append]; omega
theorem wsG_drop (f : Int) : ∀ (l pre pre' : List RW), (∀ g, f ≠ g → contR pre' g = contR pre g) → wsG pre' (l.filter fun x => !decide (x.file = f)) = (wsG pre l).filter fun w => !decide (w.1 = f)
  | [], _, _, _ => rfl
  | x :: l, pre, pre', h => by
    by_cases hx : x.file = f
    · have ih := wsG_drop f l (pre ++ [x]) pre' fun g hg => by
        rw [contR_app, h g hg]
        simp only [contR, if_neg (show ¬ x.file = g by rw [hx]; exact hg), List.append_nil]
      simp only [List.filter_cons, hx, decide_true, Bool.not_true, Bool.false_eq_true, if_false, wsG, List.filter_append, ih]
      cases x.safe <;> simp
    · have ih := wsG_drop f l (pre ++ [x]) (pre' ++ [x]) fun g hg => by rw [contR_app, contR_app, h g hg]
      simp only [List.filter_cons, decide_eq_false hx, Bool.not_false, if_true, wsG, List.filter_append, ih, h x.file (Ne.symm hx)]
      congr 1
      cases x.safe <;> simp [hx]
theorem mdel_mem {fs : List (Int × List UInt8)} {f : Int} (hn : (fs.map (·.1)).Nodup) {p : Int × List UInt8} : p ∈ mdel fs f ↔ p ∈ fs ∧ p.1 ≠ f := by
  induction fs with
  | nil => simp [mdel]
  | cons q fs ih =>
    obtain ⟨a, v⟩ := q
    simp only [List.map_cons, List.nodup_cons] at hn
    by_cases ha : a = f
    · subst ha
      simp only [mdel, if_true, List.mem_cons]
      constructor
      · intro hp; exact ⟨.inr hp, fun e => hn.1 (List.mem_map.2 ⟨p, hp, e⟩)⟩
      · rintro ⟨h1 | h1, h2⟩
        · subst h1; exact absurd rfl h2
        · exact h1
    · simp only [mdel, if_neg ha, List.mem_cons, ih hn.2]
      constructor
      · rintro (h1 | h1)
        · subst h1; exact ⟨.inl rfl, ha⟩
        · exact ⟨.inr h1.1, h1.2⟩
      · rintro ⟨h1 | h1, h2⟩
        · exact .inl h1
        · exact .inr ⟨h1, h2⟩
theorem mdel_sub (fs : List (Int × List UInt8)) (f : Int) : (mdel fs f).Sublist fs := by
  induction fs with
  | nil => exact .slnil
  | cons q fs ih =>
    obtain ⟨a, v⟩ := q
    by_cases ha : a = f
    · simp only [mdel, if_pos ha]; exact List.sublist_cons_self _ _
    · simp only [mdel, if_neg ha]; exact ih.cons_cons _
theorem mget_mdel {fs : List (Int × List UInt8)} (hn : (fs.map (·.1)).Nodup) (f g : Int) : mget (mdel fs f) g = if f = g then none else mget fs g := by
  induction fs with
  | nil => simp [mdel, mget]
  | cons q fs ih =>
    obtain ⟨a, v⟩ := q
    simp only [List.map_cons, List.nodup_cons] at hn
    by_cases ha : a = f
    · subst ha
      simp only [mdel, if_true, mget]
      by_cases hg : a = g
      · subst hg
        rw [if_pos rfl]
        exact mget_none.2 fun p hp e => hn.1 (List.mem_map.2 ⟨p, hp, e⟩)
      · rw [if_neg hg, if_neg hg]
    · simp only [mdel, if_neg ha, mget, ih hn.2]
      by_cases hg : f = g
      · subst hg; simp only [if_true, if_neg ha]
      · simp only [if_neg hg]
theorem lens_del {fs : List (Int × List UInt8)} (f : Int) : lens (mdel fs f) = lens fs - (cont fs f).length := by
  induction fs with
  | nil => simp [mdel, lens, cont, mget]
  | cons q fs ih =>
    obtain ⟨a, v⟩ := q
    by_cases ha : a = f
    · subst ha
      simp only [mdel, if_true, lens, cont, mget, List.map_cons, List.sum_cons, Option.getD_some]; omega
    · simp only [mdel, if_neg ha, lens, cont, mget, List.map_cons, List.sum_cons] at *; omega
theorem DRl.drop (h : DRl d r) (f : Int) : (r.drop f).2 = (d.drop f).2 ∧ DRl (d.drop f).1 (r.drop f).1 := by
  unfold RD.drop DS.drop
  rw [h.ask]
  by_cases ha : d.find f = 0
  · obtain ⟨_, hf0, hf1, hs⟩ := find0 ha
    rw [if_neg (show ¬ d.find f ≠ 0 by simp [ha]), if_pos ha]
    have hfs : (d.safe f).fs = d.fs := rfl
    refine ⟨rfl, ⟨h.room, h.off, h.lives, ?_, ?_, ?_, ?_, ?_, ?_, ?_, ?_, ?_⟩⟩
    · simp [h.isl]
    · intro p hp; exact h.keys p ((mdel_mem h.nd).1 hp).1
    · exact ((mdel_sub d.fs f).map _).nodup h.nd
    · intro g hg
      simp only [mget_mdel h.nd]
      by_cases hgf : f = (g : Int)
      · rw [if_pos hgf]
        subst hgf
        rw [Int.toNat_natCast, getD_set_same (by rw [h.isl]; exact hg)]; rfl
      · rw [if_neg hgf, getD_set_ne (by omega)]; exact h.iss g hg
    · intro g
      simp only [cont, mget_mdel h.nd]
      by_cases hgf : f = g
      · subst hgf; rw [if_pos rfl, contR_drop_eq]; rfl
      · rw [if_neg hgf, contR_drop_ne hgf, ← h.con]; rfl
    · show d.ws.filter _ = _
      rw [h.ws, wsG_drop f r.w [] [] fun _ _ => rfl]
    · exact List.Pairwise.filter _ h.sf
    · simp only [lens_del, h.tot, h.con]
      have := totR_drop f r.w
      omega
    · intro x hx
      obtain ⟨hx1, hx2⟩ := List.mem_filter.1 hx
      have hne : f ≠ x.file := fun e => by rw [e] at hx2; simp at hx2
      simp only [mget_mdel h.nd, if_neg hne]
      exact h.fil x hx1
  · rw [if_pos ha, if_neg ha]; exact ⟨rfl, h⟩
theorem DRl.power (h : DRl d r) : DRl d.power r.power :=
  ⟨h.room, rfl, by show IntKind.i64.wrap _ = IntKind.i64.wrap _; rw [h.lives], h.isl, h.keys, h.nd, h.iss, h.con, h.ws, h.sf, h.tot, h.fil⟩
/-! ### Spoil -/
theorem spoilW_none {f : Int} {b : UInt8} : ∀ {l : List RW} {n : Nat}, spoilW f b n l = none ↔ (contR l f).length ≤ n
  | [], n => by simp [spoilW, contR]
  | x :: l, n => by
    simp only [spoilW, contR]
    by_cases hx : x.file = f
    · rw [if_pos hx, if_pos hx]
      by_cases hn : n < x.b.length
      · rw [if_pos hn]; simp; omega
      · rw [if_neg hn, Option.map_eq_none_iff, spoilW_none, List.length_append]; omega
    · rw [if_neg hx, if_neg hx, Option.map_eq_none_iff, spoilW_none, List.nil_append]
theorem set_app {b : List UInt8} {m : List UInt8} {n : Nat} {v : UInt8} (h : b.length ≤ n) : (b ++ m).set n v = b ++ m.set (n - b.length) v := by
  rw [List.set_append, if_neg (by omega)]
theorem spoilW_some {f : Int} {b : UInt8} : ∀ {l m : List RW} {n : Nat}, spoilW f b n l = some m →
    (∀ g, contR m g = if f = g then (contR l f).set n ((contR l f).getD n 0 ^^^ b) else contR l g) ∧ (∀ pre pre', (∀ g, (contR pre g).length = (contR pre' g).length) → wsG pre m = wsG pre' l) ∧ m.map (fun x => (x.file, x.safe)) = l.map (fun x => (x.file, x.safe)) ∧ totR m = totR l
  | [], m, n, h => by simp [spoilW] at h
  | x :: l, m, n, h => by
    simp only [spoilW] at h
    by_cases hx : x.file = f
    · rw [if_pos hx] at h
      by_cases hn : n < x.b.length
      · rw [if_pos hn] at h
        cases h
        refine ⟨fun g => ?_, fun pre pre' hp => ?_, ?_, ?_⟩
        · simp only [contR, hx]
          by_cases hg : f = g
          · subst hg
            simp only [if_true]
            rw [List.set_append, if_pos hn, List.getD_eq_getElem?_getD, List.getD_eq_getElem?_getD, List.getElem?_append_left hn]
          · simp only [if_neg hg]
        · simp only [wsG, List.length_set, hp]
          rw [wsG_congr l _ (pre' ++ [x]) fun g => by rw [contR_app, contR_app, List.length_append, List.length_append, hp]; simp only [contR]; split <;> simp]
        · simp
        · simp [totR]
      · rw [if_neg hn] at h
        obtain ⟨m', hm, rfl⟩ := Option.map_eq_some_iff.1 h
        obtain ⟨h1, h2, h3, h4⟩ := spoilW_some hm
        refine ⟨fun g => ?_, fun pre pre' hp => ?_, ?_, ?_⟩
        · simp only [contR, hx]
          by_cases hg : f = g
          · subst hg
            simp only [if_true]
            rw [set_app (by omega), h1, if_pos rfl, List.getD_eq_getElem?_getD, List.getD_eq_getElem?_getD, List.getElem?_append_right (by omega)]
          · simp only [if_neg hg, h1]
        · simp only [wsG, hp]
          rw [h2 (pre ++ [x]) (pre' ++ [x]) fun g => by rw [contR_app, contR_app, List.length_append, List.length_append, hp]]
        · simp [h3]
        · simp [totR, h4]
    · rw [if_neg hx] at h
      obtain ⟨m', hm, rfl⟩ := Option.map_eq_some_iff.1 h
      obtain ⟨h1, h2, h3, h4⟩ := spoilW_some hm
      refine ⟨fun g => ?_, fun pre pre' hp => ?_, ?_, ?_⟩
      · simp only [contR, h1, if_neg hx, List.nil_append]
        by_cases hg : f = g
        · subst hg; simp only [if_true, if_neg hx, List.nil_append]
        · simp only [if_neg hg]
      · simp only [wsG, hp]
        rw [h2 (pre ++ [x]) (pre' ++ [x]) fun g => by rw [contR_app, contR_app, List.length_append, List.length_append, hp]]
      · simp [h3]
      · simp [totR, h4]
theorem DRl.spoil (h : DRl d r) (f at' : Int) (b : UInt8) : (r.spoil f at' b).2 = (d.spoil f at' b).2 ∧ DRl (d.spoil f at' b).1 (r.spoil f at' b).1 := by
  unfold RD.spoil DS.spoil
  rw [h.ask, h.con]
  by_cases h1 : d.find f ≠ 0 ∨ at' < 0 ∨ b = 0
  · rw [if_pos h1, if_pos (by rcases h1 with h1 | h1 | h1 <;> simp [h1])]; exact ⟨rfl, h⟩
  · rw [if_neg h1]
    cases hw : spoilW f b at'.toNat r.w with
    | none =>
      have := spoilW_none.1 hw
      rw [if_pos (.inr (.inr (.inl (by omega))))]; exact ⟨rfl, h⟩
    | some m =>
      have hlt : ¬ ((contR r.w f).length : Int) ≤ at' := fun hle => by
        rw [spoilW_none.2 (show (contR r.w f).length ≤ at'.toNat by omega)] at hw; cases hw
      rw [if_neg (fun hh => hh.elim (fun e => h1 (.inl e)) fun hh => hh.elim (fun e => h1 (.inr (.inl e))) fun hh => hh.elim hlt fun e => h1 (.inr (.inr e)))]
      obtain ⟨s1, s2, s3, s4⟩ := spoilW_some hw
      have hs : (mget d.fs f).isSome = true := (find0 (Classical.byContradiction fun e => h1 (.inl e))).2.2.2
      have hk := mput_keys ((contR r.w f).set at'.toNat ((contR r.w f).getD at'.toNat 0 ^^^ b)) hs
      refine ⟨rfl, ⟨h.room, h.off, h.lives, h.isl, ?_, ?_, ?_, ?_, ?_, ?_, ?_, ?_⟩⟩
      · intro p hp
        have : p.1 ∈ d.fs.map (·.1) := by rw [← hk]; exact List.mem_map.2 ⟨p, hp, rfl⟩
        obtain ⟨q, hq, hq2⟩ := List.mem_map.1 this
        rw [← show q.1 = p.1 from hq2]; exact h.keys q hq
      · show ((mput d.fs f _).map (·.1)).Nodup
        rw [hk]; exact h.nd
      · intro g hg
        rw [h.iss g hg]; exact (isSome_keys hk g).symm
      · intro g
        simp only [cont_put]
        rw [s1, h.con]
      · rw [h.ws]; exact (s2 [] [] fun _ => rfl).symm
      · have e1 : suf m = ((m.map (fun x => (x.file, x.safe))).Pairwise fun a b => a.2 = false → b.2 = true → a.1 ≠ b.1) := by rw [List.pairwise_map]; rfl
        show suf m
        rw [e1, s3, List.pairwise_map]; exact h.sf
      · simp only [lens_put, List.length_set]
        rw [s4, h.tot, h.con]; omega
      · intro x hx
        have : (x.file, x.safe) ∈ r.w.map (fun x => (x.file, x.safe)) := by rw [← s3]; exact List.mem_map.2 ⟨x, hx, rfl⟩
        obtain ⟨y, hy, he⟩ := List.mem_map.1 this
        have := h.fil y hy
        rw [show y.file = x.file from congrArg Prod.fst he] at this
        rw [isSome_keys hk]; exact this
/-! ### Files -/
theorem DRl.files (h : DRl d r) : r.files = d.files := by
  unfold RD.files DS.files
  rw [h.off]
  cases d.on with
  | false => rfl
  | true =>
    simp only [Bool.not_true, Bool.false_eq_true, if_false, if_true]
    refine List.Perm.eq_of_pairwise (le := fun a b : Int => a ≤ b) (fun a b _ _ h1 h2 => by omega) ?_ ?_ ?_
    · refine List.pairwise_map.2 ?_
      exact (List.Pairwise.filter _ (List.pairwise_lt_range)).imp fun {a b} h => by omega
    · exact (List.pairwise_mergeSort (fun a b c h1 h2 => by simp at *; omega) (fun a b => by simp; omega) _).imp fun {a b} h => by simpa using h
    · refine List.Perm.trans ?_ (List.mergeSort_perm _ _).symm
      refine (List.perm_ext_iff_of_nodup ?_ h.nd).2 fun x => ?_
      · refine List.pairwise_map.2 ?_
        exact (List.Pairwise.filter _ (List.pairwise_lt_range)).imp fun {a b} h => by omega
      · simp only [List.mem_map, List.mem_filter, List.mem_range]
        constructor
        · rintro ⟨i, ⟨hi, hs⟩, rfl⟩
          rw [h.iss i hi] at hs
          obtain ⟨p, hp, he⟩ := mget_some_mem hs
          exact ⟨p, hp, he⟩
        · rintro ⟨p, hp, rfl⟩
          obtain ⟨k1, k2⟩ := h.keys p hp
          refine ⟨p.1.toNat, ⟨by omega, ?_⟩, by omega⟩
          rw [h.iss _ (by omega), Int.toNat_of_nonneg k1]
          exact mget_mem_some hp rfl
end
end Go.Proofs.Ythladblmjoaeoaa
namespace Go.Proofs.Ythladblmjoaeoaa
set_option linter.unusedVariables false
set_option linter.unusedSimpArgs false
open Go Go.Eng

/-- the first n pieces that go to f, one behind the other -/
def pcs (F : Nat → Int) (B : Nat → List UInt8) : Nat → Int → List UInt8
  | 0, _ => []
  | i + 1, f => pcs F B i f ++ if F i = f then B i else []
def cutB (keep torn : Int) (B : Nat → List UInt8) (j : Nat) : List UInt8 :=
  if (j : Int) < keep then B j else if (j : Int) = keep then (B j).take (tornN torn (B j).length).toNat else []
theorem pcs_congr {F : Nat → Int} {B B' : Nat → List UInt8} : ∀ (n : Nat), (∀ j, j < n → B j = B' j) → ∀ f, pcs F B n f = pcs F B' n f
  | 0, _, _ => rfl
  | n + 1, h, f => by simp only [pcs, pcs_congr n (fun j hj => h j (by omega)) f, h n (by omega)]
theorem crash_stop {keep torn : Int} {ws : List Wr} {n : Nat} {fs : List (Int × List UInt8)} (h : (n : Int) ≤ keep) : crashGo keep torn ws n fs = fs := by
  cases n with
  | zero => rfl
  | succ n => rw [crashGo, if_pos (by omega)]
theorem crash_cont {F : Nat → Int} {B : Nat → List UInt8} {keep torn : Int} {ws : List Wr} : ∀ (n : Nat) (fs : List (Int × List UInt8)),
    (∀ j, j < n → ws[j]? = some (F j, ((pcs F B j (F j)).length : Int), ((pcs F B j (F j)).length : Int) + ((B j).length : Int))) → (∀ f, cont fs f = pcs F B n f) →
    ∀ f, cont (crashGo keep torn ws n fs) f = pcs F (cutB keep torn B) n f
  | 0, fs, _, hc, f => by simp only [crashGo, hc, pcs]
  | n + 1, fs, hw, hc, f => by
    rw [crashGo_succ (hw n (by omega))]
    by_cases h1 : (n : Int) < keep
    · rw [if_pos h1, hc]
      exact pcs_congr _ (fun j hj => by unfold cutB; rw [if_pos (by omega)]) f
    rw [if_neg h1]
    have hcn : cont fs (F n) = pcs F B n (F n) ++ B n := by rw [hc]; simp [pcs]
    simp only
    by_cases h2 : (n : Int) = keep
    · rw [crash_stop (by omega), cont_put, hcn]
      have hs : stayN keep torn n (F n, ((pcs F B n (F n)).length : Int), ((pcs F B n (F n)).length : Int) + ((B n).length : Int)) = ((pcs F B n (F n)).length : Int) + tornN torn (B n).length := by
        unfold stayN
        rw [if_pos h2]
        simp only
        rw [show ((pcs F B n (F n)).length : Int) + ((B n).length : Int) - ((pcs F B n (F n)).length : Int) = (B n).length by omega]
      have ht := tornN_range torn (x := ((B n).length : Int)) (by omega)
      have hcut : cutB keep torn B n = (B n).take (tornN torn (B n).length).toNat := by unfold cutB; rw [if_neg h1, if_pos h2]
      have hpre : pcs F (cutB keep torn B) n f = pcs F B n f := pcs_congr _ (fun j hj => by unfold cutB; rw [if_pos (by omega)]) f
      simp only [pcs, hpre, hcut]
      by_cases hf : F n = f
      · subst hf
        rw [if_pos rfl, if_pos rfl, hs, show (((pcs F B n (F n)).length : Int) + tornN torn (B n).length).toNat = (pcs F B n (F n)).length + (tornN torn (B n).length).toNat by omega, List.take_append, List.take_of_length_le (Nat.le_add_right _ _)]
        simp
      · rw [if_neg hf, if_neg hf, hc]
        simp [pcs, hf]
    · have hs : stayN keep torn n (F n, ((pcs F B n (F n)).length : Int), ((pcs F B n (F n)).length : Int) + ((B n).length : Int)) = (pcs F B n (F n)).length := by unfold stayN; rw [if_neg h2]
      have hcut : cutB keep torn B n = [] := by unfold cutB; rw [if_neg h1, if_neg h2]
      simp only [pcs, hcut, ite_self, List.append_nil]
      refine crash_cont n _ (fun j hj => hw j (by omega)) (fun g => ?_) f
      rw [cont_put, hcn, hs, Int.toNat_natCast, List.take_left' rfl]
      by_cases hg : F n = g
      · rw [if_pos hg, hg]
      · rw [if_neg hg, hc]
        simp [pcs, hg]
/-- behind n appends -/
structure Apps (F : Nat → Int) (B : Nat → List UInt8) (n : Nat) (d : DS) : Prop where
  ok : d.ok
  fit : d.fit
  on : d.on = true
  room : d.room = 65536
  len : d.ws.length = n
  ws : ∀ j, j < n → d.ws[j]? = some (F j, ((pcs F B j (F j)).length : Int), ((pcs F B j (F j)).length : Int) + ((B j).length : Int))
  fs : ∀ f, cont d.fs f = pcs F B n f
  tot : lens d.fs ≤ 200 * n
theorem Apps.next {F : Nat → Int} {B : Nat → List UInt8} {n : Nat} {d : DS} (h : Apps F B n d) (hn : n < 100) (h0 : 0 ≤ F n) (h1 : F n < 1000) (hb : (B n).length ≤ 200) : (d.append (F n) (B n)).2 = 0 ∧ Apps F B (n + 1) (d.append (F n) (B n)).1 := by
  obtain ⟨ok, fit, on, room, len, ws, fs, tot⟩ := h
  have ha : d.ask (F n) = 0 := by unfold DS.ask; rw [on]; simp; omega
  have e : d.append (F n) (B n) = ({ d with fs := mput d.fs (F n) (cont d.fs (F n) ++ B n), ws := d.ws ++ [((F n, ((cont d.fs (F n)).length : Int), ((cont d.fs (F n)).length : Int) + ((B n).length : Int)) : Wr)] }, 0) := by
    unfold DS.append
    rw [ha, if_neg (by omega), if_neg (by omega)]
  have ok' := ok.append (F n) (B n)
  have fit' := fit.append (F n) (B n)
  rw [e] at ok' fit' ⊢
  refine ⟨rfl, ok', fit', on, room, by simp [len], fun j hj => ?_, fun f => ?_, ?_⟩
  · simp only
    by_cases hjn : j = n
    · subst hjn
      rw [List.getElem?_append_right (by omega), len, Nat.sub_self]
      simp [fs]
    · rw [List.getElem?_append_left (by omega)]
      exact ws j (by omega)
  · simp only [cont_put, pcs]
    by_cases hf : F n = f
    · subst hf; rw [if_pos rfl, if_pos rfl, fs]
    · rw [if_neg hf, if_neg hf, fs, List.append_nil]
  · simp only [lens_put, List.length_append]
    omega
end Go.Proofs.Ythladblmjoaeoaa
namespace Go.Proofs.Ythladblmjoaeoaa
set_option linter.unusedVariables false
set_option linter.unusedSimpArgs false
open Go Go.Eng

section
variable {d : DS} {r : RD} {keep torn : Int}
theorem cutR_app : ∀ (n : Nat) (A B : List RW), cutR keep torn n (A ++ B) = cutR keep torn n A ++ cutR keep torn (n + (wsG [] A).length) B
  | n, [], B => by simp [cutR, wsG]
  | n, x :: A, B => by
    simp only [List.cons_append, cutR, wsG, List.nil_append, List.length_append]
    rw [wsG_len [x] A []]
    cases x.safe with
    | true => simp only [if_true, List.cons_append, cutR_app n A B, List.length_nil, Nat.zero_add]
    | false => simp only [Bool.false_eq_true, if_false, List.cons_append, cutR_app (n + 1) A B, List.length_singleton, Nat.add_assoc]
theorem cutR_keep : ∀ (n : Nat) (A : List RW), (n : Int) + (wsG [] A).length ≤ keep → (∀ f, contR (cutR keep torn n A) f = contR A f) ∧ totR (cutR keep torn n A) = totR A
  | n, [], _ => ⟨fun _ => rfl, rfl⟩
  | n, x :: A, h => by
    simp only [wsG, List.nil_append, List.length_append] at h
    rw [wsG_len [x] A []] at h
    cases hs : x.safe with
    | true =>
      rw [hs] at h
      simp only [if_true, List.length_nil, Nat.zero_add] at h
      obtain ⟨h1, h2⟩ := cutR_keep n A h
      simp only [cutR, hs, if_true, contR, totR, h2, and_true]
      intro f; rw [h1]
    | false =>
      rw [hs] at h
      simp only [Bool.false_eq_true, if_false, List.length_singleton] at h
      obtain ⟨h1, h2⟩ := cutR_keep (n + 1) A (by omega)
      have hc : cutb keep torn n x.b = x.b := by unfold cutb; rw [if_pos (by omega)]
      simp only [cutR, hs, Bool.false_eq_true, if_false, contR, totR, h2, hc, and_true]
      intro f; rw [h1]
theorem cutb_at {n : Nat} {b : List UInt8} (h : (n : Int) = keep) : cutb keep torn n b = b.take (tornN torn b.length).toNat := by
  unfold cutb tornN
  rw [if_neg (by omega)]
  by_cases ht : 0 < torn
  · rw [if_pos ⟨h, ht⟩]
    by_cases hl : torn < b.length
    · rw [if_pos hl]
      rw [if_neg (show ¬ (b.length : Int) < torn by omega), if_neg (show ¬ torn < 0 by omega)]
    · rw [if_neg hl]
      by_cases h2 : (b.length : Int) < torn
      · rw [if_pos h2, if_neg (by omega), List.take_of_length_le (by omega)]
      · rw [if_neg h2, if_neg (by omega), List.take_of_length_le (by omega)]
  · rw [if_neg (fun e => ht e.2)]
    by_cases h2 : (b.length : Int) < torn
    · omega
    · rw [if_neg h2]
      split
      · rfl
      · rw [show torn = 0 by omega]; rfl
theorem cutb_len (n : Nat) (b : List UInt8) : (cutb keep torn n b).length ≤ b.length := by
  unfold cutb
  split
  · omega
  · split
    · split
      · rw [List.length_take]; omega
      · omega
    · simp
theorem contR_empty {C : List RW} {f : Int} (h : ∀ y ∈ C, y.file = f → y.b = []) : contR C f = [] := by
  induction C with
  | nil => rfl
  | cons y C ih =>
    simp only [contR, ih fun z hz => h z (by simp [hz]), List.append_nil]
    split
    · exact h y (by simp) (by assumption)
    · rfl
theorem suf_left {A B : List RW} (h : suf (A ++ B)) : suf A := (List.pairwise_append.1 h).1
theorem crash_main {ws : List Wr} : ∀ (n : Nat) (A C : List RW) (fs : List (Int × List UInt8)), A.length = n → suf A → (∀ f, cont fs f = contR (A ++ C) f) → lens fs = totR (A ++ C) →
    (∀ x ∈ A, x.safe = false → ∀ y ∈ C, y.file = x.file → y.b = []) → (∀ i, i < (wsG [] A).length → ws[i]? = (wsG [] A)[i]?) →
    (∀ f, cont (crashGo keep torn ws (wsG [] A).length fs) f = contR (cutR keep torn 0 A ++ C) f) ∧ lens (crashGo keep torn ws (wsG [] A).length fs) = totR (cutR keep torn 0 A ++ C)
  | 0, A, C, fs, hA, _, hc, hl, _, _ => by
    have := List.eq_nil_of_length_eq_zero hA
    subst this
    exact ⟨hc, hl⟩
  | n + 1, A, C, fs, hA, hs, hc, hl, hC, hw => by
    rcases List.eq_nil_or_concat A with rfl | ⟨A', x, rfl⟩
    · simp at hA
    simp only [List.concat_eq_append] at *
    have hA' : A'.length = n := by simpa using hA
    obtain ⟨hs1, _, hs2⟩ := List.pairwise_append.1 hs
    rw [cutR_app, wsG_app] at *
    simp only [List.nil_append, wsG, List.append_nil, Nat.zero_add] at *
    cases hx : x.safe with
    | true =>
      rw [hx] at hw
      simp only [if_true, List.append_nil, List.length_append, List.length_nil, Nat.add_zero, cutR, hx] at hw ⊢
      have := crash_main n A' (x :: C) fs hA' hs1 (fun f => by rw [hc, List.append_assoc]; rfl) (by rw [hl, List.append_assoc]; rfl) (fun u hu hu2 y hy hyf => by
        rcases List.mem_cons.1 hy with rfl | hy
        · exact absurd hyf.symm (hs2 u hu y (by simp) hu2 hx)
        · exact hC u (by simp [hu]) hu2 y hy hyf) hw
      rw [List.append_assoc]; exact this
    | false =>
      rw [hx] at hw
      simp only [Bool.false_eq_true, if_false, List.length_append, List.length_singleton, cutR, hx] at hw ⊢
      have hwi : ws[(wsG [] A').length]? = some (x.file, ((contR A' x.file).length : Int), ((contR A' x.file).length : Int) + (x.b.length : Int)) := by
        rw [hw _ (by omega), List.getElem?_append_right (Nat.le_refl _), Nat.sub_self]; rfl
      have hw' : ∀ i, i < (wsG [] A').length → ws[i]? = (wsG [] A')[i]? := fun i hi => by
        rw [hw i (by omega), List.getElem?_append_left hi]
      rw [crashGo_succ hwi]
      have hCx : contR C x.file = [] := contR_empty fun y hy he => hC x (by simp) hx y hy he
      have hcx : cont fs x.file = contR A' x.file ++ x.b := by
        rw [hc, contR_app, contR_app, hCx]; simp [contR]
      by_cases h1 : ((wsG [] A').length : Int) < keep
      · rw [if_pos h1]
        obtain ⟨k1, k2⟩ := cutR_keep (torn := torn) (keep := keep) 0 A' (by omega)
        have hcb : cutb keep torn (wsG [] A').length x.b = x.b := by unfold cutb; rw [if_pos h1]
        refine ⟨fun f => ?_, ?_⟩
        · rw [hc]; simp only [contR_app, contR, k1, hcb]
        · rw [hl]; simp only [totR_app, totR, k2, hcb]
      rw [if_neg h1]
      simp only
      by_cases h2 : ((wsG [] A').length : Int) = keep
      · rw [crash_stop (by omega)]
        obtain ⟨k1, k2⟩ := cutR_keep (torn := torn) (keep := keep) 0 A' (by omega)
        have ht := tornN_range torn (x := (x.b.length : Int)) (by omega)
        have hst : stayN keep torn (wsG [] A').length (x.file, ((contR A' x.file).length : Int), ((contR A' x.file).length : Int) + (x.b.length : Int)) = ((contR A' x.file).length : Int) + tornN torn x.b.length := by
          unfold stayN
          rw [if_pos h2]
          simp only
          rw [show ((contR A' x.file).length : Int) + (x.b.length : Int) - ((contR A' x.file).length : Int) = (x.b.length : Int) by omega]
        have htk : (cont fs x.file).take (stayN keep torn (wsG [] A').length (x.file, ((contR A' x.file).length : Int), ((contR A' x.file).length : Int) + (x.b.length : Int))).toNat = contR A' x.file ++ cutb keep torn (wsG [] A').length x.b := by
          rw [hst, hcx, cutb_at h2, show (((contR A' x.file).length : Int) + tornN torn x.b.length).toNat = (contR A' x.file).length + (tornN torn x.b.length).toNat by omega, List.take_append, List.take_of_length_le (Nat.le_add_right _ _)]
          simp
        rw [htk]
        refine ⟨fun f => ?_, ?_⟩
        · rw [cont_put]
          simp only [contR_app, contR, k1, List.append_nil]
          by_cases hf : x.file = f
          · subst hf; simp only [if_true, hCx, List.append_nil]
          · simp only [if_neg hf, hc, contR_app, contR, List.append_nil]
        · rw [lens_put, hl, hcx]
          simp only [totR_app, totR, k2, List.length_append]; omega
      · have hst : stayN keep torn (wsG [] A').length (x.file, ((contR A' x.file).length : Int), ((contR A' x.file).length : Int) + (x.b.length : Int)) = (contR A' x.file).length := by unfold stayN; rw [if_neg h2]
        have hcb : cutb keep torn (wsG [] A').length x.b = [] := by unfold cutb; rw [if_neg h1, if_neg fun e => h2 e.1]
        rw [hst, Int.toNat_natCast, hcx, List.take_left' rfl, hcb, List.append_assoc]
        refine crash_main n A' (⟨x.file, [], true⟩ :: C) _ hA' hs1 (fun f => ?_) ?_ (fun u hu hu2 y hy hyf => ?_) hw'
        · rw [cont_put]
          simp only [contR_app, contR, ite_self, List.nil_append]
          by_cases hf : x.file = f
          · subst hf; simp only [if_true, hCx, List.append_nil]
          · simp only [if_neg hf, hc, contR_app, contR, List.append_nil]
        · rw [lens_put, hl, hcx]
          simp only [totR_app, totR, List.length_append, List.length_nil]; omega
        · rcases List.mem_cons.1 hy with rfl | hy
          · rfl
          · exact hC u (by simp [hu]) hu2 y hy hyf
theorem fit_main {ws : List Wr} : ∀ (n : Nat) (A C : List RW) (fs : List (Int × List UInt8)), A.length = n → suf A → (∀ f, cont fs f = contR (A ++ C) f) →
    (∀ x ∈ A, x.safe = false → ∀ y ∈ C, y.file = x.file → y.b = []) → (∀ i, i < (wsG [] A).length → ws[i]? = (wsG [] A)[i]?) → fitGo ws (wsG [] A).length fs
  | 0, A, C, fs, hA, _, _, _, _ => by
    have := List.eq_nil_of_length_eq_zero hA
    subst this
    trivial
  | n + 1, A, C, fs, hA, hs, hc, hC, hw => by
    rcases List.eq_nil_or_concat A with rfl | ⟨A', x, rfl⟩
    · simp at hA
    simp only [List.concat_eq_append] at *
    have hA' : A'.length = n := by simpa using hA
    obtain ⟨hs1, _, hs2⟩ := List.pairwise_append.1 hs
    rw [wsG_app] at *
    simp only [List.nil_append, wsG, List.append_nil] at *
    cases hx : x.safe with
    | true =>
      rw [hx] at hw
      simp only [if_true, List.append_nil, List.length_append, List.length_nil, Nat.add_zero] at hw ⊢
      exact fit_main n A' (x :: C) fs hA' hs1 (fun f => by rw [hc, List.append_assoc]; rfl) (fun u hu hu2 y hy hyf => by
        rcases List.mem_cons.1 hy with rfl | hy
        · exact absurd hyf.symm (hs2 u hu y (by simp) hu2 hx)
        · exact hC u (by simp [hu]) hu2 y hy hyf) hw
    | false =>
      rw [hx] at hw
      simp only [Bool.false_eq_true, if_false, List.length_append, List.length_singleton] at hw ⊢
      have hwi : ws[(wsG [] A').length]? = some (x.file, ((contR A' x.file).length : Int), ((contR A' x.file).length : Int) + (x.b.length : Int)) := by
        rw [hw _ (by omega), List.getElem?_append_right (Nat.le_refl _), Nat.sub_self]; rfl
      have hw' : ∀ i, i < (wsG [] A').length → ws[i]? = (wsG [] A')[i]? := fun i hi => by
        rw [hw i (by omega), List.getElem?_append_left hi]
      have hCx : contR C x.file = [] := contR_empty fun y hy he => hC x (by simp) hx y hy he
      have hcx : cont fs x.file = contR A' x.file ++ x.b := by
        rw [hc, contR_app, contR_app, hCx]; simp [contR]
      intro w hww
      rw [hwi] at hww
      cases hww
      simp only
      refine ⟨by omega, by omega, by rw [hcx, List.length_append]; omega, ?_⟩
      rw [Int.toNat_natCast, hcx, List.take_left' rfl]
      refine fit_main n A' (⟨x.file, [], true⟩ :: C) _ hA' hs1 (fun f => ?_) (fun u hu hu2 y hy hyf => ?_) hw'
      · rw [cont_put]
        simp only [contR_app, contR, ite_self, List.nil_append]
        by_cases hf : x.file = f
        · subst hf; simp only [if_true, hCx, List.append_nil]
        · simp only [if_neg hf, hc, contR_app, contR, List.append_nil]
      · rcases List.mem_cons.1 hy with rfl | hy
        · rfl
        · exact hC u (by simp [hu]) hu2 y hy hyf
theorem crash_keys {ws : List Wr} : ∀ (n : Nat) (fs : List (Int × List UInt8)), (∀ w ∈ ws, (mget fs w.1).isSome = true) → (crashGo keep torn ws n fs).map (·.1) = fs.map (·.1)
  | 0, fs, _ => rfl
  | n + 1, fs, h => by
    unfold crashGo
    split
    · rfl
    · cases hw : ws[n]? with
      | none => rfl
      | some w =>
        simp only
        have hk := mput_keys ((cont fs w.1).take (stayN keep torn n w).toNat) (h w (List.mem_of_getElem? hw))
        rw [crash_keys n _ fun v hv => by rw [isSome_keys hk]; exact h v hv, hk]
theorem wsG_mem : ∀ {l pre : List RW} {w : Wr}, w ∈ wsG pre l → ∃ x ∈ l, x.file = w.1
  | [], _, _, h => by cases h
  | x :: l, pre, w, h => by
    rcases List.mem_append.1 h with h | h
    · cases hx : x.safe with
      | true => rw [hx] at h; cases h
      | false =>
        rw [hx] at h
        simp only [Bool.false_eq_true, if_false, List.mem_singleton] at h
        subst h; exact ⟨x, by simp, rfl⟩
    · obtain ⟨y, hy, he⟩ := wsG_mem h
      exact ⟨y, by simp [hy], he⟩
theorem cutR_safe : ∀ (n : Nat) (l : List RW), ∀ x ∈ cutR keep torn n l, x.safe = true ∧ ∃ y ∈ l, y.file = x.file
  | n, [], x, h => by cases h
  | n, y :: l, x, h => by
    cases hy : y.safe with
    | true =>
      simp only [cutR, hy, if_true, List.mem_cons] at h
      rcases h with rfl | h
      · exact ⟨hy, x, by simp, rfl⟩
      · obtain ⟨h1, z, hz, h2⟩ := cutR_safe n l x h
        exact ⟨h1, z, by simp [hz], h2⟩
    | false =>
      simp only [cutR, hy, Bool.false_eq_true, if_false, List.mem_cons] at h
      rcases h with rfl | h
      · exact ⟨rfl, y, by simp, rfl⟩
      · obtain ⟨h1, z, hz, h2⟩ := cutR_safe (n + 1) l x h
        exact ⟨h1, z, by simp [hz], h2⟩
theorem wsG_safe : ∀ (l pre : List RW), (∀ x ∈ l, x.safe = true) → wsG pre l = []
  | [], _, _ => rfl
  | x :: l, pre, h => by
    simp only [wsG, h x (by simp), if_true, List.nil_append]
    exact wsG_safe l _ fun y hy => h y (by simp [hy])
theorem DRl.fit (h : DRl d r) : d.fit := by
  unfold DS.fit
  rw [h.ws]
  exact fit_main r.w.length r.w [] d.fs rfl h.sf (fun f => by rw [List.append_nil]; exact h.con f) (fun _ _ _ y hy => by cases hy) (fun _ _ => rfl)
theorem DRl.crash (h : DRl d r) (keep torn : Int) : DRl (d.crash keep torn) (r.crash keep torn) := by
  have hm := crash_main (keep := keep) (torn := torn) (ws := d.ws) r.w.length r.w [] d.fs rfl h.sf (fun f => by rw [List.append_nil]; exact h.con f) (by rw [List.append_nil]; exact h.tot) (fun _ _ _ y hy => by cases hy) (fun i _ => by rw [h.ws])
  rw [← h.ws, List.append_nil] at hm
  have hk : (crashGo keep torn d.ws d.ws.length d.fs).map (·.1) = d.fs.map (·.1) := crash_keys _ _ fun w hw => by
    rw [h.ws] at hw
    obtain ⟨x, hx, he⟩ := wsG_mem hw
    rw [← he]; exact h.fil x hx
  have hsf := cutR_safe (keep := keep) (torn := torn) 0 r.w
  refine ⟨h.room, rfl, h.lives, h.isl, ?_, ?_, ?_, hm.1, ?_, ?_, hm.2, ?_⟩
  · intro p hp
    have : p.1 ∈ d.fs.map (·.1) := by rw [← hk]; exact List.mem_map.2 ⟨p, hp, rfl⟩
    obtain ⟨q, hq, hq2⟩ := List.mem_map.1 this
    rw [← show q.1 = p.1 from hq2]; exact h.keys q hq
  · show ((crashGo keep torn d.ws d.ws.length d.fs).map (·.1)).Nodup
    rw [hk]; exact h.nd
  · intro g hg
    rw [show (r.crash keep torn).is = r.is from rfl, h.iss g hg]; exact (isSome_keys hk g).symm
  · exact (wsG_safe _ _ fun x hx => (hsf x hx).1).symm
  · exact List.pairwise_iff_getElem.2 fun i j hi hj _ h1 => by
      have := (hsf _ (List.getElem_mem hi)).1
      rw [h1] at this; cases this
  · intro x hx
    obtain ⟨_, y, hy, he⟩ := hsf x hx
    rw [← he]
    exact (isSome_keys hk _).trans (h.fil y hy)
end
end Go.Proofs.Ythladblmjoaeoaa
namespace Go.Proofs.Ythladblmjoaeoaa
set_option linter.unusedVariables false
set_option linter.unusedSimpArgs false
open Go.Eng
/-! ### (*rostrum/rostrumref5.Disk).Append (25) -/
def S.rostrumref5_Disk_Append.j1 (R : Value → World → Prop) (x0 x1 x2 x8 : Value) (W : World) : Prop :=
  okF (nilP x0) fun v44 =>
  okF (addrF 0 v44) fun v45 =>
  rdK PR (Instr.loadAt T_int v45) (fun v46 W =>
  okF (binP .gtr x8 v46) fun v47 =>
  ifK v47 (
  R (.int .i64 6) W) (
  okF (nilP x0) fun v50 =>
  okF (addrF 1 v50) fun v51 =>
  okF (idxA 1000 1 v51 x1) fun v52 =>
  efK PR (Instr.storeAt T_bool v52 (.bool true)) (fun _ W =>
  efK PR (Instr.buildSlice T_s_rostrumref5_write 0 #[]) (fun v54 W =>
  okF (nilP x0) fun v56 =>
  okF (addrF 1001 v56) fun v57 =>
  rdK PR (Instr.loadAt T_s_rostrumref5_write v57) (fun v58 W =>
  efK PR (Builtin.append_ #[T_s_rostrumref5_write, T_s_rostrumref5_write] T_s_rostrumref5_write #[v54, v58]) (fun v59 W =>
  efK PR (Instr.buildSlice T_s_uint8 0 #[]) (fun v61 W =>
  efK PR (Builtin.append_ #[T_s_uint8, T_s_uint8] T_s_uint8 #[v61, x2]) (fun v63 W =>
  okF (bldP (fun i => ([(0, 1), (1, 1), (2, 1)] : List (Nat × Nat))[i]?) [.int .i64 0, .slice none 0 0, .bool false] [(0, x1), (1, v63), (2, (.bool false))]) fun v64 =>
  efK PR (Instr.buildSlice T_s_rostrumref5_write 1 #[(0, v64)]) (fun v65 W =>
  efK PR (Builtin.append_ #[T_s_rostrumref5_write, T_s_rostrumref5_write] T_s_rostrumref5_write #[v59, v65]) (fun v66 W =>
  okF (nilP x0) fun v67 =>
  okF (addrF 1001 v67) fun v68 =>
  efK PR (Instr.storeAt T_s_rostrumref5_write v68 v66) (fun _ W =>
  R (.int .i64 0) W) W) W) W) W) W) W) W) W) W)) W
def S.rostrumref5_Disk_Append.l1 (J1 : List Value → World → Prop) (K1 : List Value → World → Prop) (x0 x1 x2 x8 x9 : Value) (W : World) : Prop :=
  okF (nilP x0) fun v24 =>
  okF (addrF 1001 v24) fun v25 =>
  rdK PR (Instr.loadAt T_s_rostrumref5_write v25) (fun v26 W =>
  okF (lenP (.slice T_rostrumref5_write) v26) fun v27 =>
  okF (binP .lss x9 v27) fun v28 =>
  ifK v28 (
  okF (nilP x0) fun v33 =>
  okF (addrF 1001 v33) fun v34 =>
  rdK PR (Instr.loadAt T_s_rostrumref5_write v34) (fun v35 W =>
  okF (idxS 3 v35 x9) fun v37 =>
  okF (addrF 1 v37) fun v38 =>
  rdK PR (Instr.loadAt T_s_uint8 v38) (fun v39 W =>
  okF (lenP (.slice T_uint8) v39) fun v40 =>
  okF (binP .add x8 v40) fun v41 =>
  okF (binP .add x9 (.int .i64 1)) fun v30 =>
  K1 [x0, x1, x2, v41, v30] W) W) W) (
  J1 [x0, x1, x2, x8] W)) W
def S.rostrumref5_Disk_Append.body (R : Value → World → Prop) (v0 v1 v2 : Value) (W : World) : Prop :=
  callK PR F_rostrumref5_Disk_ask [v0, v1] (fun v12 W =>
  okF (binP .neq v12 (.int .i64 0)) fun v14 =>
  gdK (wantd v14 true) (fun k W => k v12 W) (fun v16 W =>
  gdK (wantd v14 true) (fun k W => okF (binP .neq v16 (.int .i64 4)) fun v => k v W) (fun v17 W =>
  okF (pickP v14 v17 (.bool false)) fun v18 =>
  ifK v18 (
  R v12 W) (
  okF (lenP (.slice T_uint8) v2) fun v21 =>
  joinK (fun s W => S.rostrumref5_Disk_Append.j1 R (nthv s 0) (nthv s 1) (nthv s 2) (nthv s 3) W) (fun J1 =>
  loopK (fun K1 s W => S.rostrumref5_Disk_Append.l1 J1 K1 (nthv s 0) (nthv s 1) (nthv s 2) (nthv s 3) (nthv s 4) W) [v0, v1, v2, v21, (.int .i64 0)] W))) W) W) W
def S.rostrumref5_Disk_Append.hint : Hint := (.two .nil (.two .nil (.two (.two .nil (.two (.two .nil .nil) .nil)) (.two .nil (.at [0, 1, 2, 8] (.two .nil (.at [0, 1, 2, 8, 9] (.two (.two .nil (.two .nil .nil)) (.two .nil .nil)) .nil)) (.two (.two .nil (.two (.two .nil .nil) .nil)) (.two .nil (.two .nil (.two .nil .nil)))))))))
theorem S.rostrumref5_Disk_Append.ok (R : Value → World → Prop) (v0 v1 v2 : Value) (W : World) : bodyK PR CB Try.f25 S.rostrumref5_Disk_Append.hint [v0, v1, v2] R W = S.rostrumref5_Disk_Append.body R v0 v1 v2 W := by kernel_rfl
theorem S.rostrumref5_Disk_Append.fn : PR.funcs[F_rostrumref5_Disk_Append]? = some Try.f25 := by kernel_rfl
theorem S.rostrumref5_Disk_Append.call {R : Value → World → Prop} {v0 v1 v2 : Value} {W : World} (h : S.rostrumref5_Disk_Append.body R v0 v1 v2 W) : callK PR F_rostrumref5_Disk_Append [v0, v1, v2] R W :=
  callK_of_body (g := F_rostrumref5_Disk_Append) (fn := Try.f25) (args := [v0, v1, v2]) (R := R) (w := W) mixed CBok S.rostrumref5_Disk_Append.fn S.rostrumref5_Disk_Append.hint (by rw [S.rostrumref5_Disk_Append.ok]; exact h)
/-! ### (*rostrum/rostrumref5.Disk).Sync (26) -/
def S.rostrumref5_Disk_Sync.j1 (R : Value → World → Prop) (x5 : Value) (W : World) : Prop :=
  R x5 W
def S.rostrumref5_Disk_Sync.j2 (K1 : List Value → World → Prop) (x0 x1 x5 x6 : Value) (W : World) : Prop :=
  okF (binP .add x6 (.int .i64 1)) fun v22 =>
  K1 [x0, x1, x5, v22] W
def S.rostrumref5_Disk_Sync.l1 (J1 : List Value → World → Prop) (K1 : List Value → World → Prop) (x0 x1 x5 x6 : Value) (W : World) : Prop :=
  okF (nilP x0) fun v12 =>
  okF (addrF 1001 v12) fun v13 =>
  rdK PR (Instr.loadAt T_s_rostrumref5_write v13) (fun v14 W =>
  okF (lenP (.slice T_rostrumref5_write) v14) fun v15 =>
  okF (binP .lss x6 v15) fun v16 =>
  gdK (wantd v16 true) (fun k W => k x5 W) (fun v18 W =>
  gdK (wantd v16 true) (fun k W => okF (binP .eql v18 (.int .i64 0)) fun v => k v W) (fun v19 W =>
  okF (pickP v16 v19 (.bool false)) fun v20 =>
  ifK v20 (
  joinK (fun s W => S.rostrumref5_Disk_Sync.j2 K1 (nthv s 0) (nthv s 1) (nthv s 2) (nthv s 3) W) (fun J2 =>
  okF (nilP x0) fun v24 =>
  okF (addrF 1001 v24) fun v25 =>
  rdK PR (Instr.loadAt T_s_rostrumref5_write v25) (fun v26 W =>
  okF (idxS 3 v26 x6) fun v28 =>
  okF (addrF 0 v28) fun v29 =>
  rdK PR (Instr.loadAt T_int v29) (fun v30 W =>
  okF (binP .eql v30 x1) fun v32 =>
  ifK v32 (
  okF (nilP x0) fun v34 =>
  okF (addrF 1001 v34) fun v35 =>
  rdK PR (Instr.loadAt T_s_rostrumref5_write v35) (fun v36 W =>
  okF (idxS 3 v36 x6) fun v38 =>
  okF (addrF 2 v38) fun v39 =>
  efK PR (Instr.storeAt T_bool v39 (.bool true)) (fun _ W =>
  J2 [x0, x1, x5, x6] W) W) W) (
  J2 [x0, x1, x5, x6] W)) W) W)) (
  J1 [x5] W)) W) W) W
def S.rostrumref5_Disk_Sync.body (R : Value → World → Prop) (v0 v1 : Value) (W : World) : Prop :=
  callK PR F_rostrumref5_Disk_ask [v0, v1] (fun v9 W =>
  joinK (fun s W => S.rostrumref5_Disk_Sync.j1 R (nthv s 0) W) (fun J1 =>
  loopK (fun K1 s W => S.rostrumref5_Disk_Sync.l1 J1 K1 (nthv s 0) (nthv s 1) (nthv s 2) (nthv s 3) W) [v0, v1, v9, (.int .i64 0)] W)) W
def S.rostrumref5_Disk_Sync.hint : Hint := (.two .nil (.two .nil (.at [5] (.two .nil (.at [0, 1, 5, 6] (.two (.two .nil (.two .nil .nil)) (.at [0, 1, 5, 6] (.two .nil (.two .nil .nil)) .nil)) .nil)) (.two .nil .nil))))
theorem S.rostrumref5_Disk_Sync.ok (R : Value → World → Prop) (v0 v1 : Value) (W : World) : bodyK PR CB Try.f26 S.rostrumref5_Disk_Sync.hint [v0, v1] R W = S.rostrumref5_Disk_Sync.body R v0 v1 W := by kernel_rfl
theorem S.rostrumref5_Disk_Sync.fn : PR.funcs[F_rostrumref5_Disk_Sync]? = some Try.f26 := by kernel_rfl
theorem S.rostrumref5_Disk_Sync.call {R : Value → World → Prop} {v0 v1 : Value} {W : World} (h : S.rostrumref5_Disk_Sync.body R v0 v1 W) : callK PR F_rostrumref5_Disk_Sync [v0, v1] R W :=
  callK_of_body (g := F_rostrumref5_Disk_Sync) (fn := Try.f26) (args := [v0, v1]) (R := R) (w := W) mixed CBok S.rostrumref5_Disk_Sync.fn S.rostrumref5_Disk_Sync.hint (by rw [S.rostrumref5_Disk_Sync.ok]; exact h)
/-! ### (*rostrum/rostrumref5.Disk).Drop (27) -/
def S.rostrumref5_Disk_Drop.j1 (R : Value → World → Prop) (x0 x6 : Value) (W : World) : Prop :=
  okF (nilP x0) fun v50 =>
  okF (addrF 1001 v50) fun v51 =>
  efK PR (Instr.storeAt T_s_rostrumref5_write v51 x6) (fun _ W =>
  R (.int .i64 0) W) W
def S.rostrumref5_Disk_Drop.j2 (K1 : List Value → World → Prop) (x0 x1 x6 x7 : Value) (W : World) : Prop :=
  okF (binP .add x7 (.int .i64 1)) fun v27 =>
  K1 [x0, x1, x6, v27] W
def S.rostrumref5_Disk_Drop.l1 (J1 : List Value → World → Prop) (K1 : List Value → World → Prop) (x0 x1 x6 x7 : Value) (W : World) : Prop :=
  okF (nilP x0) fun v21 =>
  okF (addrF 1001 v21) fun v22 =>
  rdK PR (Instr.loadAt T_s_rostrumref5_write v22) (fun v23 W =>
  okF (lenP (.slice T_rostrumref5_write) v23) fun v24 =>
  okF (binP .lss x7 v24) fun v25 =>
  ifK v25 (
  joinK (fun s W => S.rostrumref5_Disk_Drop.j2 K1 (nthv s 0) (nthv s 1) (nthv s 2) (nthv s 3) W) (fun J2 =>
  okF (nilP x0) fun v29 =>
  okF (addrF 1001 v29) fun v30 =>
  rdK PR (Instr.loadAt T_s_rostrumref5_write v30) (fun v31 W =>
  okF (idxS 3 v31 x7) fun v33 =>
  okF (addrF 0 v33) fun v34 =>
  rdK PR (Instr.loadAt T_int v34) (fun v35 W =>
  okF (binP .neq v35 x1) fun v37 =>
  ifK v37 (
  okF (nilP x0) fun v40 =>
  okF (addrF 1001 v40) fun v41 =>
  rdK PR (Instr.loadAt T_s_rostrumref5_write v41) (fun v42 W =>
  okF (idxS 3 v42 x7) fun v44 =>
  rdK PR (Instr.loadAt T_rostrumref5_write v44) (fun v45 W =>
  efK PR (Instr.buildSlice T_s_rostrumref5_write 1 #[(0, v45)]) (fun v46 W =>
  efK PR (Builtin.append_ #[T_s_rostrumref5_write, T_s_rostrumref5_write] T_s_rostrumref5_write #[x6, v46]) (fun v47 W =>
  J2 [x0, x1, v47, x7] W) W) W) W) W) (
  J2 [x0, x1, x6, x7] W)) W) W)) (
  J1 [x0, x6] W)) W
def S.rostrumref5_Disk_Drop.body (R : Value → World → Prop) (v0 v1 : Value) (W : World) : Prop :=
  callK PR F_rostrumref5_Disk_ask [v0, v1] (fun v10 W =>
  okF (binP .neq v10 (.int .i64 0)) fun v12 =>
  ifK v12 (
  R v10 W) (
  okF (nilP v0) fun v16 =>
  okF (addrF 1 v16) fun v17 =>
  okF (idxA 1000 1 v17 v1) fun v18 =>
  efK PR (Instr.storeAt T_bool v18 (.bool false)) (fun _ W =>
  joinK (fun s W => S.rostrumref5_Disk_Drop.j1 R (nthv s 0) (nthv s 1) W) (fun J1 =>
  loopK (fun K1 s W => S.rostrumref5_Disk_Drop.l1 J1 K1 (nthv s 0) (nthv s 1) (nthv s 2) (nthv s 3) W) [v0, v1, (.slice none 0 0), (.int .i64 0)] W)) W)) W
def S.rostrumref5_Disk_Drop.hint : Hint := (.two .nil (.two .nil (.two (.two .nil (.two (.two .nil .nil) .nil)) (.two .nil (.two .nil (.at [0, 6] (.two .nil (.at [0, 1, 6, 7] (.two (.two .nil (.two .nil .nil)) (.at [0, 1, 6, 7] (.two .nil (.two .nil .nil)) .nil)) .nil)) (.two .nil (.two .nil .nil))))))))
theorem S.rostrumref5_Disk_Drop.ok (R : Value → World → Prop) (v0 v1 : Value) (W : World) : bodyK PR CB Try.f27 S.rostrumref5_Disk_Drop.hint [v0, v1] R W = S.rostrumref5_Disk_Drop.body R v0 v1 W := by kernel_rfl
theorem S.rostrumref5_Disk_Drop.fn : PR.funcs[F_rostrumref5_Disk_Drop]? = some Try.f27 := by kernel_rfl
theorem S.rostrumref5_Disk_Drop.call {R : Value → World → Prop} {v0 v1 : Value} {W : World} (h : S.rostrumref5_Disk_Drop.body R v0 v1 W) : callK PR F_rostrumref5_Disk_Drop [v0, v1] R W :=
  callK_of_body (g := F_rostrumref5_Disk_Drop) (fn := Try.f27) (args := [v0, v1]) (R := R) (w := W) mixed CBok S.rostrumref5_Disk_Drop.fn S.rostrumref5_Disk_Drop.hint (by rw [S.rostrumref5_Disk_Drop.ok]; exact h)
/-! ### (*rostrum/rostrumref5.Disk).Crash (28) -/
def S.rostrumref5_Disk_Crash.j1 (R : Value → World → Prop) (x0 x6 : Value) (W : World) : Prop :=
  okF (nilP x0) fun v64 =>
  okF (addrF 1001 v64) fun v65 =>
  efK PR (Instr.storeAt T_s_rostrumref5_write v65 x6) (fun _ W =>
  R (.tuple #[]) W) W
def S.rostrumref5_Disk_Crash.j2 (K1 : List Value → World → Prop) (x0 x1 x2 x6 x7 x8 x9 : Value) (W : World) : Prop :=
  okF (addrF 2 x9) fun v57 =>
  efK PR (Instr.storeAt T_bool v57 (.bool true)) (fun _ W =>
  rdK PR (Instr.loadAt T_rostrumref5_write x9) (fun v59 W =>
  efK PR (Instr.buildSlice T_s_rostrumref5_write 1 #[(0, v59)]) (fun v60 W =>
  efK PR (Builtin.append_ #[T_s_rostrumref5_write, T_s_rostrumref5_write] T_s_rostrumref5_write #[x6, v60]) (fun v61 W =>
  okF (binP .add x8 (.int .i64 1)) fun v21 =>
  K1 [x0, x1, x2, v61, x7, v21] W) W) W) W) W
def S.rostrumref5_Disk_Crash.j3 (J2 : List Value → World → Prop) (x0 x1 x2 x6 x7 x8 x9 : Value) (W : World) : Prop :=
  okF (binP .add x7 (.int .i64 1)) fun v56 =>
  J2 [x0, x1, x2, x6, v56, x8, x9] W
def S.rostrumref5_Disk_Crash.l1 (J1 : List Value → World → Prop) (K1 : List Value → World → Prop) (x0 x1 x2 x6 x7 x8 : Value) (W : World) : Prop :=
  okF (nilP x0) fun v15 =>
  okF (addrF 1001 v15) fun v16 =>
  rdK PR (Instr.loadAt T_s_rostrumref5_write v16) (fun v17 W =>
  okF (lenP (.slice T_rostrumref5_write) v17) fun v18 =>
  okF (binP .lss x8 v18) fun v19 =>
  ifK v19 (
  okF (nilP x0) fun v23 =>
  okF (addrF 1001 v23) fun v24 =>
  rdK PR (Instr.loadAt T_s_rostrumref5_write v24) (fun v25 W =>
  okF (idxS 3 v25 x8) fun v27 =>
  rdK PR (Instr.loadAt T_rostrumref5_write v27) (fun v28 W =>
  efK PR (Instr.alloc T_rostrumref5_write true (.tuple #[])) (fun v9 W =>
  efK PR (Instr.storeAt T_rostrumref5_write v9 v28) (fun _ W =>
  joinK (fun s W => S.rostrumref5_Disk_Crash.j2 K1 (nthv s 0) (nthv s 1) (nthv s 2) (nthv s 3) (nthv s 4) (nthv s 5) (nthv s 6) W) (fun J2 =>
  okF (addrF 2 v9) fun v29 =>
  rdK PR (Instr.loadAt T_bool v29) (fun v30 W =>
  okF (unP .not v30) fun v31 =>
  ifK v31 (
  joinK (fun s W => S.rostrumref5_Disk_Crash.j3 J2 (nthv s 0) (nthv s 1) (nthv s 2) (nthv s 3) (nthv s 4) (nthv s 5) (nthv s 6) W) (fun J3 =>
  okF (binP .lss x7 x1) fun v36 =>
  ifK v36 (
  J3 [x0, x1, x2, x6, x7, x8, v9] W) (
  okF (binP .eql x7 x1) fun v40 =>
  gdK (wantd v40 true) (fun k W => k x2 W) (fun v42 W =>
  gdK (wantd v40 true) (fun k W => okF (binP .gtr v42 (.int .i64 0)) fun v => k v W) (fun v43 W =>
  okF (pickP v40 v43 (.bool false)) fun v44 =>
  ifK v44 (
  okF (addrF 1 v9) fun v46 =>
  rdK PR (Instr.loadAt T_s_uint8 v46) (fun v47 W =>
  okF (lenP (.slice T_uint8) v47) fun v48 =>
  okF (binP .lss x2 v48) fun v49 =>
  ifK v49 (
  okF (addrF 1 v9) fun v50 =>
  rdK PR (Instr.loadAt T_s_uint8 v50) (fun v51 W =>
  okF (slcS 1 v51 none (some x2) none) fun v53 =>
  okF (addrF 1 v9) fun v54 =>
  efK PR (Instr.storeAt T_s_uint8 v54 v53) (fun _ W =>
  J3 [x0, x1, x2, x6, x7, x8, v9] W) W) W) (
  J3 [x0, x1, x2, x6, x7, x8, v9] W)) W) (
  okF (addrF 1 v9) fun v32 =>
  efK PR (Instr.storeAt T_s_uint8 v32 (.slice none 0 0)) (fun _ W =>
  J3 [x0, x1, x2, x6, x7, x8, v9] W) W)) W) W))) (
  J2 [x0, x1, x2, x6, x7, x8, v9] W)) W)) W) W) W) W) (
  J1 [x0, x6] W)) W
def S.rostrumref5_Disk_Crash.body (R : Value → World → Prop) (v0 v1 v2 : Value) (W : World) : Prop :=
  okF (nilP v0) fun v11 =>
  okF (addrF 1002 v11) fun v12 =>
  efK PR (Instr.storeAt T_bool v12 (.bool true)) (fun _ W =>
  joinK (fun s W => S.rostrumref5_Disk_Crash.j1 R (nthv s 0) (nthv s 1) W) (fun J1 =>
  loopK (fun K1 s W => S.rostrumref5_Disk_Crash.l1 J1 K1 (nthv s 0) (nthv s 1) (nthv s 2) (nthv s 3) (nthv s 4) (nthv s 5) W) [v0, v1, v2, (.slice none 0 0), (.int .i64 0), (.int .i64 0)] W)) W
def S.rostrumref5_Disk_Crash.hint : Hint := (.two .nil (.two .nil (.two .nil (.at [0, 6] (.two .nil (.at [0, 1, 2, 6, 7, 8] (.two (.two .nil (.two .nil .nil)) (.two (.two .nil (.at [0, 1, 2, 6, 7, 8, 9] (.two .nil (.two (.at [0, 1, 2, 6, 7, 8, 9] (.two .nil (.two .nil (.two .nil (.two (.two .nil (.two .nil .nil)) .nil)))) .nil) .nil)) (.two .nil .nil))) .nil)) .nil)) .nil))))
theorem S.rostrumref5_Disk_Crash.ok (R : Value → World → Prop) (v0 v1 v2 : Value) (W : World) : bodyK PR CB Try.f28 S.rostrumref5_Disk_Crash.hint [v0, v1, v2] R W = S.rostrumref5_Disk_Crash.body R v0 v1 v2 W := by kernel_rfl
theorem S.rostrumref5_Disk_Crash.fn : PR.funcs[F_rostrumref5_Disk_Crash]? = some Try.f28 := by kernel_rfl
theorem S.rostrumref5_Disk_Crash.call {R : Value → World → Prop} {v0 v1 v2 : Value} {W : World} (h : S.rostrumref5_Disk_Crash.body R v0 v1 v2 W) : callK PR F_rostrumref5_Disk_Crash [v0, v1, v2] R W :=
  callK_of_body (g := F_rostrumref5_Disk_Crash) (fn := Try.f28) (args := [v0, v1, v2]) (R := R) (w := W) mixed CBok S.rostrumref5_Disk_Crash.fn S.rostrumref5_Disk_Crash.hint (by rw [S.rostrumref5_Disk_Crash.ok]; exact h)
/-! ### (*rostrum/rostrumref5.Disk).On (29) -/
def S.rostrumref5_Disk_On.body (R : Value → World → Prop) (v0 : Value) (W : World) : Prop :=
  okF (nilP v0) fun v3 =>
  okF (addrF 1002 v3) fun v4 =>
  efK PR (Instr.storeAt T_bool v4 (.bool false)) (fun _ W =>
  okF (nilP v0) fun v6 =>
  okF (addrF 1003 v6) fun v7 =>
  rdK PR (Instr.loadAt T_int v7) (fun v8 W =>
  okF (binP .add v8 (.int .i64 1)) fun v9 =>
  okF (nilP v0) fun v10 =>
  okF (addrF 1003 v10) fun v11 =>
  efK PR (Instr.storeAt T_int v11 v9) (fun _ W =>
  R (.tuple #[]) W) W) W) W
def S.rostrumref5_Disk_On.hint : Hint := (.two .nil .nil)
theorem S.rostrumref5_Disk_On.ok (R : Value → World → Prop) (v0 : Value) (W : World) : bodyK PR CB Try.f29 S.rostrumref5_Disk_On.hint [v0] R W = S.rostrumref5_Disk_On.body R v0 W := by kernel_rfl
theorem S.rostrumref5_Disk_On.fn : PR.funcs[F_rostrumref5_Disk_On]? = some Try.f29 := by kernel_rfl
theorem S.rostrumref5_Disk_On.call {R : Value → World → Prop} {v0 : Value} {W : World} (h : S.rostrumref5_Disk_On.body R v0 W) : callK PR F_rostrumref5_Disk_On [v0] R W :=
  callK_of_body (g := F_rostrumref5_Disk_On) (fn := Try.f29) (args := [v0]) (R := R) (w := W) mixed CBok S.rostrumref5_Disk_On.fn S.rostrumref5_Disk_On.hint (by rw [S.rostrumref5_Disk_On.ok]; exact h)
/-! ### (*rostrum/rostrumref5.Disk).Spoil (30) -/
def S.rostrumref5_Disk_Spoil.j1 (K1 : List Value → World → Prop) (x0 x1 x2 x3 x9 : Value) (W : World) : Prop :=
  okF (binP .add x9 (.int .i64 1)) fun v30 =>
  K1 [x0, x1, x2, x3, v30] W
def S.rostrumref5_Disk_Spoil.l1 (R : Value → World → Prop) (K1 : List Value → World → Prop) (x0 x1 x2 x3 x9 : Value) (W : World) : Prop :=
  okF (nilP x0) fun v24 =>
  okF (addrF 1001 v24) fun v25 =>
  rdK PR (Instr.loadAt T_s_rostrumref5_write v25) (fun v26 W =>
  okF (lenP (.slice T_rostrumref5_write) v26) fun v27 =>
  okF (binP .lss x9 v27) fun v28 =>
  ifK v28 (
  joinK (fun s W => S.rostrumref5_Disk_Spoil.j1 K1 (nthv s 0) (nthv s 1) (nthv s 2) (nthv s 3) (nthv s 4) W) (fun J1 =>
  okF (nilP x0) fun v32 =>
  okF (addrF 1001 v32) fun v33 =>
  rdK PR (Instr.loadAt T_s_rostrumref5_write v33) (fun v34 W =>
  okF (idxS 3 v34 x9) fun v36 =>
  okF (addrF 0 v36) fun v37 =>
  rdK PR (Instr.loadAt T_int v37) (fun v38 W =>
  okF (binP .neq v38 x1) fun v40 =>
  ifK v40 (
  J1 [x0, x1, x2, x3, x9] W) (
  okF (nilP x0) fun v43 =>
  okF (addrF 1001 v43) fun v44 =>
  rdK PR (Instr.loadAt T_s_rostrumref5_write v44) (fun v45 W =>
  okF (idxS 3 v45 x9) fun v47 =>
  okF (addrF 1 v47) fun v48 =>
  rdK PR (Instr.loadAt T_s_uint8 v48) (fun v49 W =>
  okF (lenP (.slice T_uint8) v49) fun v50 =>
  okF (binP .lss x2 v50) fun v51 =>
  ifK v51 (
  okF (nilP x0) fun v53 =>
  okF (addrF 1001 v53) fun v54 =>
  rdK PR (Instr.loadAt T_s_rostrumref5_write v54) (fun v55 W =>
  okF (idxS 3 v55 x9) fun v57 =>
  okF (addrF 1 v57) fun v58 =>
  rdK PR (Instr.loadAt T_s_uint8 v58) (fun v59 W =>
  okF (nilP x0) fun v62 =>
  okF (addrF 1001 v62) fun v63 =>
  rdK PR (Instr.loadAt T_s_rostrumref5_write v63) (fun v64 W =>
  okF (idxS 3 v64 x9) fun v66 =>
  okF (addrF 1 v66) fun v67 =>
  rdK PR (Instr.loadAt T_s_uint8 v67) (fun v68 W =>
  okF (idxS 1 v68 x2) fun v70 =>
  rdK PR (Instr.loadAt T_uint8 v70) (fun v71 W =>
  okF (binP .xor v71 x3) fun v73 =>
  okF (idxS 1 v59 x2) fun v74 =>
  efK PR (Instr.storeAt T_uint8 v74 v73) (fun _ W =>
  R (.bool true) W) W) W) W) W) W) (tick W)) (
  okF (nilP x0) fun v77 =>
  okF (addrF 1001 v77) fun v78 =>
  rdK PR (Instr.loadAt T_s_rostrumref5_write v78) (fun v79 W =>
  okF (idxS 3 v79 x9) fun v81 =>
  okF (addrF 1 v81) fun v82 =>
  rdK PR (Instr.loadAt T_s_uint8 v82) (fun v83 W =>
  okF (lenP (.slice T_uint8) v83) fun v84 =>
  okF (binP .sub x2 v84) fun v85 =>
  J1 [x0, x1, v85, x3, x9] W) W) W)) W) W)) W) W)) (
  R (.bool false) W)) W
def S.rostrumref5_Disk_Spoil.body (R : Value → World → Prop) (v0 v1 v2 v3 : Value) (W : World) : Prop :=
  callK PR F_rostrumref5_Disk_ask [v0, v1] (fun v12 W =>
  okF (binP .neq v12 (.int .i64 0)) fun v13 =>
  gdK (wantd v13 false) (fun k W => k v2 W) (fun v15 W =>
  gdK (wantd v13 false) (fun k W => okF (binP .lss v15 (.int .i64 0)) fun v => k v W) (fun v16 W =>
  okF (pickP v13 (.bool true) v16) fun v17 =>
  gdK (wantd v17 false) (fun k W => k v3 W) (fun v19 W =>
  gdK (wantd v17 false) (fun k W => okF (binP .eql v19 (.int .u8 0)) fun v => k v W) (fun v20 W =>
  okF (pickP v17 (.bool true) v20) fun v21 =>
  ifK v21 (
  R (.bool false) W) (
  loopK (fun K1 s W => S.rostrumref5_Disk_Spoil.l1 R K1 (nthv s 0) (nthv s 1) (nthv s 2) (nthv s 3) (nthv s 4) W) [v0, v1, v2, v3, (.int .i64 0)] W)) W) W) W) W) W
def S.rostrumref5_Disk_Spoil.hint : Hint := (.two .nil (.two (.two .nil (.two (.two .nil .nil) .nil)) (.two (.two .nil (.at [0, 1, 2, 3, 9] (.two (.two .nil (.two .nil .nil)) (.at [0, 1, 2, 3, 9] (.two (.two .nil (.two .nil .nil)) (.two (.two .nil (.two (.two .nil (.two .nil .nil)) .nil)) .nil)) .nil)) .nil)) (.two .nil .nil))))
theorem S.rostrumref5_Disk_Spoil.ok (R : Value → World → Prop) (v0 v1 v2 v3 : Value) (W : World) : bodyK PR CB Try.f30 S.rostrumref5_Disk_Spoil.hint [v0, v1, v2, v3] R W = S.rostrumref5_Disk_Spoil.body R v0 v1 v2 v3 W := by kernel_rfl
theorem S.rostrumref5_Disk_Spoil.fn : PR.funcs[F_rostrumref5_Disk_Spoil]? = some Try.f30 := by kernel_rfl
theorem S.rostrumref5_Disk_Spoil.call {R : Value → World → Prop} {v0 v1 v2 v3 : Value} {W : World} (h : S.rostrumref5_Disk_Spoil.body R v0 v1 v2 v3 W) : callK PR F_rostrumref5_Disk_Spoil [v0, v1, v2, v3] R W :=
  callK_of_body (g := F_rostrumref5_Disk_Spoil) (fn := Try.f30) (args := [v0, v1, v2, v3]) (R := R) (w := W) mixed CBok S.rostrumref5_Disk_Spoil.fn S.rostrumref5_Disk_Spoil.hint (by rw [S.rostrumref5_Disk_Spoil.ok]; exact h)
/-! ### (*rostrum/rostrumref5.Disk).Read (31) -/
def S.rostrumref5_Disk_Read.j1 (R : Value → World → Prop) (x6 x7 : Value) (W : World) : Prop :=
  R (.tuple #[x7, x6]) W
def S.rostrumref5_Disk_Read.j2 (K1 : List Value → World → Prop) (x0 x1 x6 x7 x8 : Value) (W : World) : Prop :=
  okF (binP .add x8 (.int .i64 1)) fun v24 =>
  K1 [x0, x1, x6, x7, v24] W
def S.rostrumref5_Disk_Read.l1 (J1 : List Value → World → Prop) (K1 : List Value → World → Prop) (x0 x1 x6 x7 x8 : Value) (W : World) : Prop :=
  okF (nilP x0) fun v14 =>
  okF (addrF 1001 v14) fun v15 =>
  rdK PR (Instr.loadAt T_s_rostrumref5_write v15) (fun v16 W =>
  okF (lenP (.slice T_rostrumref5_write) v16) fun v17 =>
  okF (binP .lss x8 v17) fun v18 =>
  gdK (wantd v18 true) (fun k W => k x6 W) (fun v20 W =>
  gdK (wantd v18 true) (fun k W => okF (binP .eql v20 (.int .i64 0)) fun v => k v W) (fun v21 W =>
  okF (pickP v18 v21 (.bool false)) fun v22 =>
  ifK v22 (
  joinK (fun s W => S.rostrumref5_Disk_Read.j2 K1 (nthv s 0) (nthv s 1) (nthv s 2) (nthv s 3) (nthv s 4) W) (fun J2 =>
  okF (nilP x0) fun v26 =>
  okF (addrF 1001 v26) fun v27 =>
  rdK PR (Instr.loadAt T_s_rostrumref5_write v27) (fun v28 W =>
  okF (idxS 3 v28 x8) fun v30 =>
  okF (addrF 0 v30) fun v31 =>
  rdK PR (Instr.loadAt T_int v31) (fun v32 W =>
  okF (binP .eql v32 x1) fun v34 =>
  ifK v34 (
  okF (nilP x0) fun v37 =>
  okF (addrF 1001 v37) fun v38 =>
  rdK PR (Instr.loadAt T_s_rostrumref5_write v38) (fun v39 W =>
  okF (idxS 3 v39 x8) fun v41 =>
  okF (addrF 1 v41) fun v42 =>
  rdK PR (Instr.loadAt T_s_uint8 v42) (fun v43 W =>
  efK PR (Builtin.append_ #[T_s_uint8, T_s_uint8] T_s_uint8 #[x7, v43]) (fun v44 W =>
  J2 [x0, x1, x6, v44, x8] W) W) W) W) (
  J2 [x0, x1, x6, x7, x8] W)) W) W)) (
  J1 [x6, x7] W)) W) W) W
def S.rostrumref5_Disk_Read.body (R : Value → World → Prop) (v0 v1 : Value) (W : World) : Prop :=
  callK PR F_rostrumref5_Disk_ask [v0, v1] (fun v11 W =>
  joinK (fun s W => S.rostrumref5_Disk_Read.j1 R (nthv s 0) (nthv s 1) W) (fun J1 =>
  loopK (fun K1 s W => S.rostrumref5_Disk_Read.l1 J1 K1 (nthv s 0) (nthv s 1) (nthv s 2) (nthv s 3) (nthv s 4) W) [v0, v1, v11, (.slice none 0 0), (.int .i64 0)] W)) W
def S.rostrumref5_Disk_Read.hint : Hint := (.two .nil (.two .nil (.two .nil (.at [6, 7] (.two .nil (.at [0, 1, 6, 7, 8] (.two (.two .nil (.two .nil .nil)) (.at [0, 1, 6, 7, 8] (.two .nil (.two .nil .nil)) .nil)) .nil)) (.two .nil .nil)))))
theorem S.rostrumref5_Disk_Read.ok (R : Value → World → Prop) (v0 v1 : Value) (W : World) : bodyK PR CB Try.f31 S.rostrumref5_Disk_Read.hint [v0, v1] R W = S.rostrumref5_Disk_Read.body R v0 v1 W := by kernel_rfl
theorem S.rostrumref5_Disk_Read.fn : PR.funcs[F_rostrumref5_Disk_Read]? = some Try.f31 := by kernel_rfl
theorem S.rostrumref5_Disk_Read.call {R : Value → World → Prop} {v0 v1 : Value} {W : World} (h : S.rostrumref5_Disk_Read.body R v0 v1 W) : callK PR F_rostrumref5_Disk_Read [v0, v1] R W :=
  callK_of_body (g := F_rostrumref5_Disk_Read) (fn := Try.f31) (args := [v0, v1]) (R := R) (w := W) mixed CBok S.rostrumref5_Disk_Read.fn S.rostrumref5_Disk_Read.hint (by rw [S.rostrumref5_Disk_Read.ok]; exact h)
/-! ### (*rostrum/rostrumref5.Disk).Files (32) -/
def S.rostrumref5_Disk_Files.j1 (R : Value → World → Prop) (x3 : Value) (W : World) : Prop :=
  R x3 W
def S.rostrumref5_Disk_Files.j2 (K1 : List Value → World → Prop) (x0 x3 x4 : Value) (W : World) : Prop :=
  okF (binP .add x4 (.int .i64 1)) fun v15 =>
  K1 [x0, x3, v15] W
def S.rostrumref5_Disk_Files.l1 (J1 : List Value → World → Prop) (K1 : List Value → World → Prop) (x0 x3 x4 : Value) (W : World) : Prop :=
  okF (binP .lss x4 (.int .i64 1000)) fun v6 =>
  gdK (wantd v6 true) (fun k W => k x0 W) (fun v8 W =>
  gdK (wantd v6 true) (fun k W => okF (nilP v8) fun v => k v W) (fun v9 W =>
  gdK (wantd v6 true) (fun k W => okF (addrF 1002 v9) fun v => k v W) (fun v10 W =>
  gdK (wantd v6 true) (fun k W => rdK PR (Instr.loadAt T_bool v10) k W) (fun v11 W =>
  gdK (wantd v6 true) (fun k W => okF (unP .not v11) fun v => k v W) (fun v12 W =>
  okF (pickP v6 v12 (.bool false)) fun v13 =>
  ifK v13 (
  joinK (fun s W => S.rostrumref5_Disk_Files.j2 K1 (nthv s 0) (nthv s 1) (nthv s 2) W) (fun J2 =>
  okF (nilP x0) fun v18 =>
  okF (addrF 1 v18) fun v19 =>
  okF (idxA 1000 1 v19 x4) fun v20 =>
  rdK PR (Instr.loadAt T_bool v20) (fun v21 W =>
  ifK v21 (
  efK PR (Instr.buildSlice T_s_int 1 #[(0, x4)]) (fun v24 W =>
  efK PR (Builtin.append_ #[T_s_int, T_s_int] T_s_int #[x3, v24]) (fun v25 W =>
  J2 [x0, v25, x4] W) W) W) (
  J2 [x0, x3, x4] W)) W)) (
  J1 [x3] W)) W) W) W) W) W
def S.rostrumref5_Disk_Files.body (R : Value → World → Prop) (v0 : Value) (W : World) : Prop :=
  joinK (fun s W => S.rostrumref5_Disk_Files.j1 R (nthv s 0) W) (fun J1 =>
  loopK (fun K1 s W => S.rostrumref5_Disk_Files.l1 J1 K1 (nthv s 0) (nthv s 1) (nthv s 2) W) [v0, (.slice none 0 0), (.int .i64 0)] W)
def S.rostrumref5_Disk_Files.hint : Hint := (.two .nil (.two .nil (.at [3] (.two .nil (.at [0, 3, 4] (.two (.two .nil (.two .nil .nil)) (.at [0, 3, 4] (.two .nil (.two .nil .nil)) .nil)) .nil)) (.two .nil .nil))))
theorem S.rostrumref5_Disk_Files.ok (R : Value → World → Prop) (v0 : Value) (W : World) : bodyK PR CB Try.f32 S.rostrumref5_Disk_Files.hint [v0] R W = S.rostrumref5_Disk_Files.body R v0 W := by kernel_rfl
theorem S.rostrumref5_Disk_Files.fn : PR.funcs[F_rostrumref5_Disk_Files]? = some Try.f32 := by kernel_rfl
theorem S.rostrumref5_Disk_Files.call {R : Value → World → Prop} {v0 : Value} {W : World} (h : S.rostrumref5_Disk_Files.body R v0 W) : callK PR F_rostrumref5_Disk_Files [v0] R W :=
  callK_of_body (g := F_rostrumref5_Disk_Files) (fn := Try.f32) (args := [v0]) (R := R) (w := W) mixed CBok S.rostrumref5_Disk_Files.fn S.rostrumref5_Disk_Files.hint (by rw [S.rostrumref5_Disk_Files.ok]; exact h)
/-! ### (*rostrum/rostrumref5.Disk).ask (52) -/
def S.rostrumref5_Disk_ask.body (R : Value → World → Prop) (v0 v1 : Value) (W : World) : Prop :=
  okF (nilP v0) fun v6 =>
  okF (addrF 1002 v6) fun v7 =>
  rdK PR (Instr.loadAt T_bool v7) (fun v8 W =>
  ifK v8 (
  R (.int .i64 7) W) (
  okF (binP .lss v1 (.int .i64 0)) fun v10 =>
  gdK (wantd v10 false) (fun k W => k v1 W) (fun v12 W =>
  gdK (wantd v10 false) (fun k W => okF (binP .gtr v12 (.int .i64 999)) fun v => k v W) (fun v13 W =>
  okF (pickP v10 (.bool true) v13) fun v14 =>
  ifK v14 (
  R (.int .i64 1) W) (
  okF (nilP v0) fun v17 =>
  okF (addrF 1 v17) fun v18 =>
  okF (idxA 1000 1 v18 v1) fun v19 =>
  rdK PR (Instr.loadAt T_bool v19) (fun v20 W =>
  okF (unP .not v20) fun v21 =>
  ifK v21 (
  R (.int .i64 4) W) (
  R (.int .i64 0) W)) W)) W) W)) W
def S.rostrumref5_Disk_ask.hint : Hint := (.two .nil (.two (.two .nil (.two (.two .nil .nil) .nil)) (.two (.two .nil (.two (.two .nil .nil) .nil)) (.two (.two .nil (.two (.two .nil .nil) .nil)) (.two .nil .nil)))))
theorem S.rostrumref5_Disk_ask.ok (R : Value → World → Prop) (v0 v1 : Value) (W : World) : bodyK PR CB Try.f52 S.rostrumref5_Disk_ask.hint [v0, v1] R W = S.rostrumref5_Disk_ask.body R v0 v1 W := by kernel_rfl
theorem S.rostrumref5_Disk_ask.fn : PR.funcs[F_rostrumref5_Disk_ask]? = some Try.f52 := by kernel_rfl
theorem S.rostrumref5_Disk_ask.call {R : Value → World → Prop} {v0 v1 : Value} {W : World} (h : S.rostrumref5_Disk_ask.body R v0 v1 W) : callK PR F_rostrumref5_Disk_ask [v0, v1] R W :=
  callK_of_body (g := F_rostrumref5_Disk_ask) (fn := Try.f52) (args := [v0, v1]) (R := R) (w := W) mixed CBok S.rostrumref5_Disk_ask.fn S.rostrumref5_Disk_ask.hint (by rw [S.rostrumref5_Disk_ask.ok]; exact h)
end Go.Proofs.Ythladblmjoaeoaa
