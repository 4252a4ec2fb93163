/- Texts of the claim WalSpoilt, joined: CWal4, Srt, Srt3, Lay, ShDisk6, CDisk6, CWal9, LayF, SrtX, ShCmpI. -/
import Derived.Test.YthladblmjoaeoaaBWalSpoilt5
import Derived.Test.YthladblmjoaeoaaBWalSpoilt4
import Derived.Shelf.SlSortCmp.NoneTotal
import Derived.Test.YthladblmjoaeoaaBWalSpoilt3
import Derived.WideShapes
import Derived.Shelf.SlIterI.Sorted
import Derived.Shelf.SortM.Plain
import Derived.Shelf.SortM.SortNone
import Derived.Test.YthladblmjoaeoaaBWalSpoilt1
import Derived.Test.YthladblmjoaeoaaBWalSpoilt6
namespace Go.Proofs.Ythladblmjoaeoaa
set_option linter.unusedVariables false
set_option linter.unusedSimpArgs false
open Go Go.Eng

theorem pgo_nil (n : Nat) (acc : List Bs) : pgo n [] acc = some (acc, false) := by cases n <;> simp [pgo]
section
variable {W0 W : World} {L L' : List Asn}
/-- a cut that is read, and how far it may grow -/
theorem slcRc {α : Type} {A : Ly α} {l : List α} {a : Option Addr} {c : Nat} {sz n lo hi : Nat} {vlo vhi : Option Value} {K : Value → Prop} [hr : Rd W0 L a A l] (hs : A.sz = sz) (hn : n = l.length) (h1 : bnd vhi n c = some hi) (h2 : bnd vlo 0 hi = some lo) (h3 : lo ≤ hi) (h4 : hi ≤ l.length) (h5 : l.length ≤ c)
    (hk : ∀ a' c', ((l.take hi).drop lo).length ≤ c' → Rd W0 L a' A ((l.take hi).drop lo) → K (.slice a' ((l.take hi).drop lo).length c')) : okF (slcS sz (.slice a n c) vlo vhi none) K := by
  subst hs hn
  refine okF_i (slcS_eq h1 h2) ?_
  have := hk _ (c - lo) (by simp; omega) (Rd.cut (W0 := W0) (L := L) (a := a) (A := A) (l := l) lo hi c h3 h4 (by omega))
  simpa [Nat.min_eq_left h4] using this
set_option maxHeartbeats 2000000 in
theorem walParse {num : Int} {a : Option Addr} {c : Nat} {b : Bs} {k : Value → World → Prop} (h : St W0 L W) [hr : Rd W0 L a B8 b] (hc : b.length ≤ c) (hl : b.length < 16777216)
    (hn : parse num b = none → ∀ (x : FC) W', St W0 L W' → k (.tuple #[x.v, .bool false, .int .i64 3]) W')
    (hs : parse num b = some none → ∀ (x : FC) W', St W0 L W' → k (.tuple #[x.v, .bool false, .int .i64 0]) W')
    (hf : ∀ f, parse num b = some (some f) → ∀ (x : FC) W', x.fx = f → St W0 (arr BSY T_s_uint8 x.ra x.rc x.rows :: many fch x.rows :: L) W' → k (.tuple #[x.v, .bool true, .int .i64 0]) W') :
    callK PR F_wal_parse [.int .i64 num, .slice a b.length c] k W := by
  apply S.wal_parse.call
  unfold S.wal_parse.body
  unfold parse at hn hs hf
  by_cases h0 : b.length < 22
  · rw [if_pos h0] at hs
    have e0 : decide ((b.length : Int) < 22) = true := decide_eq_true (by omega)
    (repeat (first | (first | ((with_reducible first | refine w1 ?_ | refine w3 ?_ | refine w4 ?_ | refine w11 ?_ | refine stb_n ?_); intros) | ((with_reducible first | refine v5 ?_ | refine v6 ?_ | refine v7 ?_ | refine ve ?_ | refine vn ?_); refine ⟨_, rfl, ?_⟩) | ((with_reducible first | refine v8 ?_ ?_ | refine v9 ?_ ?_ | refine v10 ?_ ?_ | refine v12 ?_ ?_); exact rfl; intros) | ((with_reducible refine w2 ?_); try simp -implicitDefEqProofs only [SE, SU, SV, e0]; intros) | ((with_reducible refine w5 ?_ ?_); simp; refine ⟨_, rfl, ?_⟩) | ((with_reducible refine w12 ?_ ?_ ?_ ?_); simp; simp; simp [oneC]; intros) | (refine okF_i (bldP_eq rfl) ?_; try simp only [BLS, SB, Nat.reduceAdd])) | simp -implicitDefEqProofs only [SE, SU, SV, e0]))
    rename_i h
    exact hs rfl ⟨num, 0, 0, 0, none, 0, [], false⟩ _ h.drop.drop
  have e0 : decide ((b.length : Int) < 22) = false := decide_eq_false (by omega)
  rw [if_neg h0] at hn hs hf
  (repeat (first | (first | ((with_reducible first | refine w1 ?_ | refine w3 ?_ | refine w4 ?_ | refine w11 ?_ | refine stb_n ?_); intros) | ((with_reducible first | refine v5 ?_ | refine v6 ?_ | refine v7 ?_ | refine ve ?_ | refine vn ?_); refine ⟨_, rfl, ?_⟩) | ((with_reducible first | refine v8 ?_ ?_ | refine v9 ?_ ?_ | refine v10 ?_ ?_ | refine v12 ?_ ?_); exact rfl; intros) | ((with_reducible refine w2 ?_); try simp -implicitDefEqProofs only [SE, SU, SV, e0]; intros) | ((with_reducible refine w5 ?_ ?_); simp; refine ⟨_, rfl, ?_⟩) | ((with_reducible refine w12 ?_ ?_ ?_ ?_); simp; simp; simp [oneC]; intros) | (refine okF_i (bldP_eq rfl) ?_; try simp only [BLS, SB, Nat.reduceAdd])) | simp -implicitDefEqProofs only [SE, SU, SV, e0]))
  rename_i p4 _ _ p7 _ _ W5 h
  (try simp only [BLS, SB, stL_a, stL_b, stL_c, List.append_nil, List.take_nil, List.drop_nil, Nat.reduceAdd] at h)
  refine slcRc (W0 := W0) (L := L) (a := a) (l := b) (A := B8) (lo := 0) (hi := 22) rfl rfl (bnd_int (by decide) (by omega)) bnd_none (by omega) (by omega) hc fun a1 c1 hc1 hr1 => ?_
  rw [List.drop_zero] at hc1 hr1 ⊢
  refine walJust (a := a1) (b := b.take 22) (n := 13) h hc1 (by simp; omega) fun a2 c2 W6 h => ?_
  cases hj : just (b.take 22) 13 with
  | none =>
    rw [hj] at hn
    (repeat (first | (first | ((with_reducible first | refine w1 ?_ | refine w3 ?_ | refine w4 ?_ | refine w11 ?_ | refine stb_n ?_); intros) | ((with_reducible first | refine v5 ?_ | refine v6 ?_ | refine v7 ?_ | refine ve ?_ | refine vn ?_); refine ⟨_, rfl, ?_⟩) | ((with_reducible first | refine v8 ?_ ?_ | refine v9 ?_ ?_ | refine v10 ?_ ?_ | refine v12 ?_ ?_); exact rfl; intros) | ((with_reducible refine w2 ?_); try simp -implicitDefEqProofs only [SE, SU, SV, Option.isSome_none]; intros) | ((with_reducible refine w5 ?_ ?_); simp; refine ⟨_, rfl, ?_⟩) | ((with_reducible refine w12 ?_ ?_ ?_ ?_); simp; simp; simp [oneC]; intros) | (refine okF_i (bldP_eq rfl) ?_; try simp only [BLS, SB, Nat.reduceAdd])) | simp -implicitDefEqProofs only [SE, SU, SV, Option.isSome_none]))
    rename_i h
    exact hn rfl ⟨num, 0, 0, 0, none, 0, [], false⟩ _ h.drop.drop.drop
  | some t =>
    have htl := (just_some hj).2.1
    rw [just_fget hj] at h ⊢
    simp only [hj] at hn hs hf
    have ht0 : 0 < t.length := by omega
    have e13 : (t.drop 9).length = 4 := by simp; omega
    have e8 : ((t.take 9).drop 1).length = 8 := by simp; omega
    have u4 := unle_lt (t.drop 9)
    have u8 := unle_lt ((t.take 9).drop 1)
    rw [e13] at u4
    rw [e8] at u8
    have hf2 := h.arrFacts
    (repeat (first | (first | ((with_reducible first | refine w1 ?_ | refine w3 ?_ | refine w4 ?_ | refine w11 ?_ | refine stb_n ?_); intros) | ((with_reducible first | refine v5 ?_ | refine v6 ?_ | refine v7 ?_ | refine ve ?_ | refine vn ?_); refine ⟨_, rfl, ?_⟩) | ((with_reducible first | refine v8 ?_ ?_ | refine v9 ?_ ?_ | refine v10 ?_ ?_ | refine v12 ?_ ?_); exact rfl; intros) | ((with_reducible refine w2 ?_); try simp -implicitDefEqProofs only [SE, SU, SV, Option.isSome_some]; intros) | ((with_reducible refine w5 ?_ ?_); simp; refine ⟨_, rfl, ?_⟩) | ((with_reducible refine w12 ?_ ?_ ?_ ?_); simp; simp; simp [oneC]; intros) | (refine okF_i (bldP_eq rfl) ?_; try simp only [BLS, SB, Nat.reduceAdd])) | simp -implicitDefEqProofs only [SE, SU, SV, Option.isSome_some]))
    refine ixA (i := 0) (a := a2) (l := t) (A := B8) h rfl rfl ht0 fun g o ha => ?_
    cases ha
    refine ldA0 (i := 0) (l := t) (A := B8) (by first | assumption | exact St.tick (by assumption) | exact St.tick (St.tick (by assumption))) rfl ht0 (v := b8 t[0]) rfl (by simp) ?_
    have ehd : t.headD 0 = t[0] := by cases t with | nil => simp at ht0 | cons x l => rfl
    rw [show b8 t[0] = .int .u8 (t[0].toNat : Int) from rfl]
    have ht256 := t[0].toNat_lt
    have ew1 : IntKind.i64.wrap (t[0].toNat : Int) = (t[0].toNat : Int) := by rw [i64w]; omega
    rw [ehd] at hf
    (repeat (first | (first | ((with_reducible first | refine w1 ?_ | refine w3 ?_ | refine w4 ?_ | refine w11 ?_ | refine stb_n ?_); intros) | ((with_reducible first | refine v5 ?_ | refine v6 ?_ | refine v7 ?_ | refine ve ?_ | refine vn ?_); refine ⟨_, rfl, ?_⟩) | ((with_reducible first | refine v8 ?_ ?_ | refine v9 ?_ ?_ | refine v10 ?_ ?_ | refine v12 ?_ ?_); exact rfl; intros) | ((with_reducible refine w2 ?_); try simp -implicitDefEqProofs only [SE, SU, SV, ew1]; intros) | ((with_reducible refine w5 ?_ ?_); simp; refine ⟨_, rfl, ?_⟩) | ((with_reducible refine w12 ?_ ?_ ?_ ?_); simp; simp; simp [oneC]; intros) | (refine okF_i (bldP_eq rfl) ?_; try simp only [BLS, SB, Nat.reduceAdd])) | simp -implicitDefEqProofs only [SE, SU, SV, ew1]))
    refine slcRc (W0 := W0) (L := arr B8 T_uint8 (some ⟨g, o, none⟩) c2 t :: []) (a := some ⟨g, o, none⟩) (l := t) (A := B8) (lo := 1) (hi := 9) rfl rfl (bnd_int (by decide) (by omega)) (bnd_int (by decide) (by omega)) (by omega) (by omega) hf2.1 fun a3 c3 hc3 hr3 => ?_
    refine slcRc (W0 := W0) (L := arr B8 T_uint8 (some ⟨g, o, none⟩) c2 t :: []) (a := some ⟨g, o, none⟩) (l := t) (A := B8) (lo := 9) (hi := t.length) rfl rfl bnd_none (bnd_int (by decide) (by omega)) (by omega) (by omega) hf2.1 fun a4 c4 hc4 hr4 => ?_
    rw [List.take_length] at hr4 hc4 ⊢
    have hR3 : ∀ L1, Rd W0 (arr B8 T_uint8 (some ⟨g, o, none⟩) c2 t :: L1) a3 B8 ((t.take 9).drop 1) := fun L1 => ⟨fun W h => hr3.ok W (St.left (l := [_]) (rest := L1) h)⟩
    have hR4 : ∀ L1, Rd W0 (arr B8 T_uint8 (some ⟨g, o, none⟩) c2 t :: L1) a4 B8 (t.drop 9) := fun L1 => ⟨fun W h => hr4.ok W (St.left (l := [_]) (rest := L1) h)⟩
    haveI := hR3 (cells p7 [.int .i64 num, .int .i64 0, .int .i64 0, .int .u64 0, .slice none 0 0, .bool false] T_wal_file :: cells p4 [.int .i64 0, .int .i64 0, .int .i64 0, .int .u64 0, .slice none 0 0, .bool false] T_wal_file :: L)
    haveI := hR4 (cells p7 [.int .i64 num, .int .i64 0, .int .i64 0, .int .u64 0, .slice none 0 0, .bool false] T_wal_file :: cells p4 [.int .i64 0, .int .i64 0, .int .i64 0, .int .u64 0, .slice none 0 0, .bool false] T_wal_file :: L)
    (repeat (first | (first | ((with_reducible first | refine w1 ?_ | refine w3 ?_ | refine w4 ?_ | refine w11 ?_ | refine stb_n ?_); intros) | ((with_reducible first | refine v5 ?_ | refine v6 ?_ | refine v7 ?_ | refine ve ?_ | refine vn ?_); refine ⟨_, rfl, ?_⟩) | ((with_reducible first | refine v8 ?_ ?_ | refine v9 ?_ ?_ | refine v10 ?_ ?_ | refine v12 ?_ ?_); exact rfl; intros) | ((with_reducible refine w2 ?_); try simp -implicitDefEqProofs only [SE, SU, SV]; intros) | ((with_reducible refine w5 ?_ ?_); simp; refine ⟨_, rfl, ?_⟩) | ((with_reducible refine w12 ?_ ?_ ?_ ?_); simp; simp; simp [oneC]; intros) | (refine okF_i (bldP_eq rfl) ?_; try simp only [BLS, SB, Nat.reduceAdd])) | simp -implicitDefEqProofs only [SE, SU, SV]))
    refine walRead (a := a3) (l := (t.take 9).drop 1) (St.tick h) (by omega) fun W7 h => ?_
    refine stb_ldA0 (i := 0) (l := t) (A := B8) h rfl ht0 (v := b8 t[0]) rfl (by simp) (stb_n ?_)
    refine walRead (a := a4) (l := t.drop 9) h (by omega) fun W8 h => ?_
    refine stb_ldA0 (i := 0) (l := t) (A := B8) h rfl ht0 (v := b8 t[0]) rfl (by simp) (stb_n ?_)
    have ew2 : IntKind.i64.wrap (unle (t.drop 9) : Int) = (unle (t.drop 9) : Int) := by rw [i64w]; omega
    (repeat (first | (first | ((with_reducible first | refine w1 ?_ | refine w3 ?_ | refine w4 ?_ | refine w11 ?_ | refine stb_n ?_); intros) | ((with_reducible first | refine v5 ?_ | refine v6 ?_ | refine v7 ?_ | refine ve ?_ | refine vn ?_); refine ⟨_, rfl, ?_⟩) | ((with_reducible first | refine v8 ?_ ?_ | refine v9 ?_ ?_ | refine v10 ?_ ?_ | refine v12 ?_ ?_); exact rfl; intros) | ((with_reducible refine w2 ?_); try simp -implicitDefEqProofs only [SE, SU, SV, ew2]; intros) | ((with_reducible refine w5 ?_ ?_); simp; refine ⟨_, rfl, ?_⟩) | ((with_reducible refine w12 ?_ ?_ ?_ ?_); simp; simp; simp [oneC]; intros) | (refine okF_i (bldP_eq rfl) ?_; try simp only [BLS, SB, Nat.reduceAdd])) | simp -implicitDefEqProofs only [SE, SU, SV, ew2]))
    refine joinK_i ?_
    rename_i h
    (try simp only [BLS, SB, stL_a, stL_b, stL_c, List.append_nil, List.take_nil, List.drop_nil, Nat.reduceAdd] at h)
    have hn' : pgo b.length (b.drop 22) [] = none → ∀ (x : FC) W', St W0 L W' → k (.tuple #[x.v, .bool false, .int .i64 3]) W' := fun e => hn (by rw [e])
    have hfin : ∀ (torn : Bool) (ra : Option Addr) (rc : Nat) (rows : List BSl) W', pgo b.length (b.drop 22) [] = some (rows.map (·.bs), torn) →
        St W0 (cells p7 (FCL.row ⟨num, t[0].toNat, unle ((t.take 9).drop 1), unle (t.drop 9), ra, rc, rows, torn⟩) T_wal_file :: cells p4 [.int .i64 0, .int .i64 0, .int .i64 0, .int .u64 0, .slice none 0 0, .bool false] T_wal_file :: arr BSY T_s_uint8 ra rc rows :: many fch rows :: L) W' →
        S.wal_parse.j1 k (.pointer (some ⟨p4, 0, none⟩)) (.pointer (some ⟨p7, 0, none⟩)) W' := by
      intro torn ra rc rows W' hp h
      have h : St W0 (cells p7 [.int .i64 num, .int .i64 (t[0].toNat : Int), .int .i64 (unle (t.drop 9) : Int), .int .u64 (unle ((t.take 9).drop 1) : Int), .slice ra rows.length rc, .bool torn] T_wal_file :: cells p4 [.int .i64 0, .int .i64 0, .int .i64 0, .int .u64 0, .slice none 0 0, .bool false] T_wal_file :: arr BSY T_s_uint8 ra rc rows :: many fch rows :: L) W' := h
      unfold S.wal_parse.j1
      (repeat (first | (first | ((with_reducible first | refine w1 ?_ | refine w3 ?_ | refine w4 ?_ | refine w11 ?_ | refine stb_n ?_); intros) | ((with_reducible first | refine v5 ?_ | refine v6 ?_ | refine v7 ?_ | refine ve ?_ | refine vn ?_); refine ⟨_, rfl, ?_⟩) | ((with_reducible first | refine v8 ?_ ?_ | refine v9 ?_ ?_ | refine v10 ?_ ?_ | refine v12 ?_ ?_); exact rfl; intros) | ((with_reducible refine w2 ?_); try simp -implicitDefEqProofs only [SE, SU, SV]; intros) | ((with_reducible refine w5 ?_ ?_); simp; refine ⟨_, rfl, ?_⟩) | ((with_reducible refine w12 ?_ ?_ ?_ ?_); simp; simp; simp [oneC]; intros) | (refine okF_i (bldP_eq rfl) ?_; try simp only [BLS, SB, Nat.reduceAdd])) | simp -implicitDefEqProofs only [SE, SU, SV]))
      rename_i h
      exact hf ⟨num, t[0].toNat, unle ((t.take 9).drop 1), unle (t.drop 9), rows.map (·.bs), torn⟩ (by rw [hp]) ⟨num, t[0].toNat, unle ((t.take 9).drop 1), unle (t.drop 9), ra, rc, rows, torn⟩ _ rfl h.drop.drop
    clear hf hs hn hR3 hR4
    refine slcRc (W0 := W0) (L := L) (a := a) (l := b) (A := B8) (lo := 22) (hi := b.length) rfl rfl bnd_none (bnd_int (by decide) (by omega)) (by omega) (by omega) hc fun a5 c5 hc5 hr5 => ?_
    rw [List.take_length] at hc5 hr5 ⊢
    have h := h.drop
    refine loop_x (σ := Option Addr × Nat × Bs × Nat × Option Addr × Nat × List BSl) (fun s => [.slice s.1 s.2.2.1.length s.2.1, .pointer (some ⟨p4, 0, none⟩), .pointer (some ⟨p7, 0, none⟩)])
      (fun s W1 => Rd W0 L s.1 B8 s.2.2.1 ∧ s.2.2.1.length ≤ s.2.1 ∧ s.2.2.1.length ≤ s.2.2.2.1 ∧ s.2.2.1.length ≤ b.length ∧ s.2.2.2.2.2.2.length + s.2.2.1.length ≤ b.length ∧ pgo s.2.2.2.1 s.2.2.1 (s.2.2.2.2.2.2.map (·.bs)) = pgo b.length (b.drop 22) [] ∧
        St W0 (cells p7 (FCL.row ⟨num, t[0].toNat, unle ((t.take 9).drop 1), unle (t.drop 9), s.2.2.2.2.1, s.2.2.2.2.2.1, s.2.2.2.2.2.2, false⟩) T_wal_file :: cells p4 [.int .i64 0, .int .i64 0, .int .i64 0, .int .u64 0, .slice none 0 0, .bool false] T_wal_file :: arr BSY T_s_uint8 s.2.2.2.2.1 s.2.2.2.2.2.1 s.2.2.2.2.2.2 :: many fch s.2.2.2.2.2.2 :: L) W1)
      (fun s => s.2.2.1.length) (a5, c5, b.drop 22, b.length, none, 0, []) rfl
      ⟨hr5, hc5, by simp, by simp, by simp, rfl, h.ent (ent.cons _ (ent.cons _ ((many_nil (F := fch)).trans (arr_nil BSY T_s_uint8))))⟩ ?_
    clear h
    rintro K ⟨a6, c6, b', n, ra, rc, rows⟩ W6 ⟨hr6, hc6, hl6, hl7, hl8, hp, h⟩ hK
    simp only at hr6 hc6 hl6 hl7 hl8 hp h hK
    have h : St W0 (cells p7 [.int .i64 num, .int .i64 (t[0].toNat : Int), .int .i64 (unle (t.drop 9) : Int), .int .u64 (unle ((t.take 9).drop 1) : Int), .slice ra rows.length rc, .bool false] T_wal_file :: cells p4 [.int .i64 0, .int .i64 0, .int .i64 0, .int .u64 0, .slice none 0 0, .bool false] T_wal_file :: arr BSY T_s_uint8 ra rc rows :: many fch rows :: L) W6 := h
    simp -implicitDefEqProofs only [SE, SU, SV]
    unfold S.wal_parse.l1
    by_cases hb0 : b' = []
    · subst hb0
      rw [pgo_nil] at hp
      have e1 : decide ((0 : Int) < (([] : Bs).length : Int)) = false := rfl
      (repeat (first | (first | ((with_reducible first | refine w1 ?_ | refine w3 ?_ | refine w4 ?_ | refine w11 ?_ | refine stb_n ?_); intros) | ((with_reducible first | refine v5 ?_ | refine v6 ?_ | refine v7 ?_ | refine ve ?_ | refine vn ?_); refine ⟨_, rfl, ?_⟩) | ((with_reducible first | refine v8 ?_ ?_ | refine v9 ?_ ?_ | refine v10 ?_ ?_ | refine v12 ?_ ?_); exact rfl; intros) | ((with_reducible refine w2 ?_); try simp -implicitDefEqProofs only [SE, SU, SV, e1]; intros) | ((with_reducible refine w5 ?_ ?_); simp; refine ⟨_, rfl, ?_⟩) | ((with_reducible refine w12 ?_ ?_ ?_ ?_); simp; simp; simp [oneC]; intros) | (refine okF_i (bldP_eq rfl) ?_; try simp only [BLS, SB, Nat.reduceAdd])) | simp -implicitDefEqProofs only [SE, SU, SV, e1]))
      exact hfin false ra rc rows _ hp.symm (by first | assumption | exact St.tick (by assumption) | exact St.tick (St.tick (by assumption)))
    have hpos : 0 < b'.length := List.length_pos_iff.2 hb0
    obtain ⟨m, rfl⟩ : ∃ m, n = m + 1 := ⟨n - 1, by omega⟩
    rw [pgo, if_neg hb0] at hp
    have e1 : decide ((0 : Int) < (b'.length : Int)) = true := decide_eq_true (by omega)
    by_cases h13 : b'.length < 13
    · rw [if_pos h13] at hp
      have e2 : decide ((b'.length : Int) < 13) = true := decide_eq_true (by omega)
      (repeat (first | (first | ((with_reducible first | refine w1 ?_ | refine w3 ?_ | refine w4 ?_ | refine w11 ?_ | refine stb_n ?_); intros) | ((with_reducible first | refine v5 ?_ | refine v6 ?_ | refine v7 ?_ | refine ve ?_ | refine vn ?_); refine ⟨_, rfl, ?_⟩) | ((with_reducible first | refine v8 ?_ ?_ | refine v9 ?_ ?_ | refine v10 ?_ ?_ | refine v12 ?_ ?_); exact rfl; intros) | ((with_reducible refine w2 ?_); try simp -implicitDefEqProofs only [SE, SU, SV, e1, e2]; intros) | ((with_reducible refine w5 ?_ ?_); simp; refine ⟨_, rfl, ?_⟩) | ((with_reducible refine w12 ?_ ?_ ?_ ?_); simp; simp; simp [oneC]; intros) | (refine okF_i (bldP_eq rfl) ?_; try simp only [BLS, SB, Nat.reduceAdd])) | simp -implicitDefEqProofs only [SE, SU, SV, e1, e2]))
      rename_i h
      (try simp only [BLS, SB, stL_a, stL_b, stL_c, List.append_nil, List.take_nil, List.drop_nil, Nat.reduceAdd] at h)
      exact hfin true ra rc rows _ hp.symm h
    rw [if_neg h13] at hp
    have e2 : decide ((b'.length : Int) < 13) = false := decide_eq_false (by omega)
    (repeat (first | (first | ((with_reducible first | refine w1 ?_ | refine w3 ?_ | refine w4 ?_ | refine w11 ?_ | refine stb_n ?_); intros) | ((with_reducible first | refine v5 ?_ | refine v6 ?_ | refine v7 ?_ | refine ve ?_ | refine vn ?_); refine ⟨_, rfl, ?_⟩) | ((with_reducible first | refine v8 ?_ ?_ | refine v9 ?_ ?_ | refine v10 ?_ ?_ | refine v12 ?_ ?_); exact rfl; intros) | ((with_reducible refine w2 ?_); try simp -implicitDefEqProofs only [SE, SU, SV, e1, e2]; intros) | ((with_reducible refine w5 ?_ ?_); simp; refine ⟨_, rfl, ?_⟩) | ((with_reducible refine w12 ?_ ?_ ?_ ?_); simp; simp; simp [oneC]; intros) | (refine okF_i (bldP_eq rfl) ?_; try simp only [BLS, SB, Nat.reduceAdd])) | simp -implicitDefEqProofs only [SE, SU, SV, e1, e2]))
    refine slcRc (W0 := W0) (L := L) (a := a6) (l := b') (A := B8) (lo := 0) (hi := 13) rfl rfl (bnd_int (by decide) (by omega)) bnd_none (by omega) (by omega) hc6 fun a7 c7 hc7 hr7 => ?_
    rw [List.drop_zero] at hc7 hr7 ⊢
    refine walJust (a := a7) (b := b'.take 13) (n := 4) (by first | assumption | exact St.tick (by assumption) | exact St.tick (St.tick (by assumption))) hc7 (by simp; omega) fun a8 c8 W8 h => ?_
    cases hj2 : just (b'.take 13) 4 with
    | none =>
      rw [hj2] at hp
      (repeat (first | (first | ((with_reducible first | refine w1 ?_ | refine w3 ?_ | refine w4 ?_ | refine w11 ?_ | refine stb_n ?_); intros) | ((with_reducible first | refine v5 ?_ | refine v6 ?_ | refine v7 ?_ | refine ve ?_ | refine vn ?_); refine ⟨_, rfl, ?_⟩) | ((with_reducible first | refine v8 ?_ ?_ | refine v9 ?_ ?_ | refine v10 ?_ ?_ | refine v12 ?_ ?_); exact rfl; intros) | ((with_reducible refine w2 ?_); try simp -implicitDefEqProofs only [SE, SU, SV, Option.isSome_none]; intros) | ((with_reducible refine w5 ?_ ?_); simp; refine ⟨_, rfl, ?_⟩) | ((with_reducible refine w12 ?_ ?_ ?_ ?_); simp; simp; simp [oneC]; intros) | (refine okF_i (bldP_eq rfl) ?_; try simp only [BLS, SB, Nat.reduceAdd])) | simp -implicitDefEqProofs only [SE, SU, SV, Option.isSome_none]))
      rename_i h
      exact hn' hp.symm ⟨num, t[0].toNat, unle ((t.take 9).drop 1), unle (t.drop 9), ra, rc, rows, false⟩ _ h.drop.drop.drop.drop.drop
    | some q =>
      have hql := (just_some hj2).2.1
      rw [just_fget hj2] at h ⊢
      simp only [hj2] at hp
      have uq := unle_lt q
      rw [hql] at uq
      have ewq : IntKind.i64.wrap (unle q : Int) = (unle q : Int) := by rw [i64w]; omega
      have ewr : IntKind.i64.wrap (22 + (unle q : Int)) = ((22 + unle q : Nat) : Int) := by rw [i64w]; omega
      (repeat (first | (first | ((with_reducible first | refine w1 ?_ | refine w3 ?_ | refine w4 ?_ | refine w11 ?_ | refine stb_n ?_); intros) | ((with_reducible first | refine v5 ?_ | refine v6 ?_ | refine v7 ?_ | refine ve ?_ | refine vn ?_); refine ⟨_, rfl, ?_⟩) | ((with_reducible first | refine v8 ?_ ?_ | refine v9 ?_ ?_ | refine v10 ?_ ?_ | refine v12 ?_ ?_); exact rfl; intros) | ((with_reducible refine w2 ?_); try simp -implicitDefEqProofs only [SE, SU, SV, Option.isSome_some]; intros) | ((with_reducible refine w5 ?_ ?_); simp; refine ⟨_, rfl, ?_⟩) | ((with_reducible refine w12 ?_ ?_ ?_ ?_); simp; simp; simp [oneC]; intros) | (refine okF_i (bldP_eq rfl) ?_; try simp only [BLS, SB, Nat.reduceAdd])) | simp -implicitDefEqProofs only [SE, SU, SV, Option.isSome_some]))
      refine walRead (a := a8) (l := q) (by first | assumption | exact St.tick (by assumption) | exact St.tick (St.tick (by assumption))) (by omega) fun W9 h => ?_
      by_cases h22 : b'.length < 22 + unle q
      · rw [if_pos h22] at hp
        have e3 : decide ((b'.length : Int) < ((22 + unle q : Nat) : Int)) = true := decide_eq_true (by omega)
        (repeat (first | (first | ((with_reducible first | refine w1 ?_ | refine w3 ?_ | refine w4 ?_ | refine w11 ?_ | refine stb_n ?_); intros) | ((with_reducible first | refine v5 ?_ | refine v6 ?_ | refine v7 ?_ | refine ve ?_ | refine vn ?_); refine ⟨_, rfl, ?_⟩) | ((with_reducible first | refine v8 ?_ ?_ | refine v9 ?_ ?_ | refine v10 ?_ ?_ | refine v12 ?_ ?_); exact rfl; intros) | ((with_reducible refine w2 ?_); try simp -implicitDefEqProofs only [SE, SU, SV, ewq, ewr, e3]; intros) | ((with_reducible refine w5 ?_ ?_); simp; refine ⟨_, rfl, ?_⟩) | ((with_reducible refine w12 ?_ ?_ ?_ ?_); simp; simp; simp [oneC]; intros) | (refine okF_i (bldP_eq rfl) ?_; try simp only [BLS, SB, Nat.reduceAdd])) | simp -implicitDefEqProofs only [SE, SU, SV, ewq, ewr, e3]))
        rename_i h
        (try simp only [BLS, SB, stL_a, stL_b, stL_c, List.append_nil, List.take_nil, List.drop_nil, Nat.reduceAdd] at h)
        exact hfin true ra rc rows _ hp.symm h.drop
      rw [if_neg h22] at hp
      have e3 : decide ((b'.length : Int) < ((22 + unle q : Nat) : Int)) = false := decide_eq_false (by omega)
      (repeat (first | (first | ((with_reducible first | refine w1 ?_ | refine w3 ?_ | refine w4 ?_ | refine w11 ?_ | refine stb_n ?_); intros) | ((with_reducible first | refine v5 ?_ | refine v6 ?_ | refine v7 ?_ | refine ve ?_ | refine vn ?_); refine ⟨_, rfl, ?_⟩) | ((with_reducible first | refine v8 ?_ ?_ | refine v9 ?_ ?_ | refine v10 ?_ ?_ | refine v12 ?_ ?_); exact rfl; intros) | ((with_reducible refine w2 ?_); try simp -implicitDefEqProofs only [SE, SU, SV, ewq, ewr, e3]; intros) | ((with_reducible refine w5 ?_ ?_); simp; refine ⟨_, rfl, ?_⟩) | ((with_reducible refine w12 ?_ ?_ ?_ ?_); simp; simp; simp [oneC]; intros) | (refine okF_i (bldP_eq rfl) ?_; try simp only [BLS, SB, Nat.reduceAdd])) | simp -implicitDefEqProofs only [SE, SU, SV, ewq, ewr, e3]))
      refine slcRc (W0 := W0) (L := L) (a := a6) (l := b') (A := B8) (lo := 13) (hi := 22 + unle q) rfl rfl (bnd_nat (by omega)) (bnd_int (by decide) (by omega)) (by omega) (by omega) hc6 fun a9 c9 hc9 hr9 => ?_
      refine walRead (a := a8) (l := q) (St.tick h) (by omega) fun W10 h => ?_
      (repeat (first | (first | ((with_reducible first | refine w1 ?_ | refine w3 ?_ | refine w4 ?_ | refine w11 ?_ | refine stb_n ?_); intros) | ((with_reducible first | refine v5 ?_ | refine v6 ?_ | refine v7 ?_ | refine ve ?_ | refine vn ?_); refine ⟨_, rfl, ?_⟩) | ((with_reducible first | refine v8 ?_ ?_ | refine v9 ?_ ?_ | refine v10 ?_ ?_ | refine v12 ?_ ?_); exact rfl; intros) | ((with_reducible refine w2 ?_); try simp -implicitDefEqProofs only [SE, SU, SV, ewq]; intros) | ((with_reducible refine w5 ?_ ?_); simp; refine ⟨_, rfl, ?_⟩) | ((with_reducible refine w12 ?_ ?_ ?_ ?_); simp; simp; simp [oneC]; intros) | (refine okF_i (bldP_eq rfl) ?_; try simp only [BLS, SB, Nat.reduceAdd])) | simp -implicitDefEqProofs only [SE, SU, SV, ewq]))
      refine walJust (a := a9) (b := (b'.take (22 + unle q)).drop 13) (n := unle q) (by first | assumption | exact St.tick (by assumption) | exact St.tick (St.tick (by assumption))) hc9 (by simp; omega) fun a10 c10 W10 h => ?_
      cases hj3 : just ((b'.take (22 + unle q)).drop 13) (unle q) with
      | none =>
        rw [hj3] at hp
        (repeat (first | (first | ((with_reducible first | refine w1 ?_ | refine w3 ?_ | refine w4 ?_ | refine w11 ?_ | refine stb_n ?_); intros) | ((with_reducible first | refine v5 ?_ | refine v6 ?_ | refine v7 ?_ | refine ve ?_ | refine vn ?_); refine ⟨_, rfl, ?_⟩) | ((with_reducible first | refine v8 ?_ ?_ | refine v9 ?_ ?_ | refine v10 ?_ ?_ | refine v12 ?_ ?_); exact rfl; intros) | ((with_reducible refine w2 ?_); try simp -implicitDefEqProofs only [SE, SU, SV, Option.isSome_none]; intros) | ((with_reducible refine w5 ?_ ?_); simp; refine ⟨_, rfl, ?_⟩) | ((with_reducible refine w12 ?_ ?_ ?_ ?_); simp; simp; simp [oneC]; intros) | (refine okF_i (bldP_eq rfl) ?_; try simp only [BLS, SB, Nat.reduceAdd])) | simp -implicitDefEqProofs only [SE, SU, SV, Option.isSome_none]))
        rename_i h
        exact hn' hp.symm ⟨num, t[0].toNat, unle ((t.take 9).drop 1), unle (t.drop 9), ra, rc, rows, false⟩ _ h.drop.drop.drop.drop.drop.drop
      | some r =>
        rw [just_fget hj3] at h ⊢
        simp only [hj3] at hp
        (repeat (first | (first | ((with_reducible first | refine w1 ?_ | refine w3 ?_ | refine w4 ?_ | refine w11 ?_ | refine stb_n ?_); intros) | ((with_reducible first | refine v5 ?_ | refine v6 ?_ | refine v7 ?_ | refine ve ?_ | refine vn ?_); refine ⟨_, rfl, ?_⟩) | ((with_reducible first | refine v8 ?_ ?_ | refine v9 ?_ ?_ | refine v10 ?_ ?_ | refine v12 ?_ ?_); exact rfl; intros) | ((with_reducible refine w2 ?_); try simp -implicitDefEqProofs only [SE, SU, SV, Option.isSome_some]; intros) | ((with_reducible refine w5 ?_ ?_); simp; refine ⟨_, rfl, ?_⟩) | ((with_reducible refine w12 ?_ ?_ ?_ ?_); simp; simp; simp [oneC]; intros) | (refine okF_i (bldP_eq rfl) ?_; try simp only [BLS, SB, Nat.reduceAdd])) | simp -implicitDefEqProofs only [SE, SU, SV, Option.isSome_some]))
        refine pushA (A := BSY) (l := rows) (a := ra) (⟨a10, c10, r⟩ : BSl) (by first | assumption | exact St.tick (by assumption) | exact St.tick (St.tick (by assumption))) rfl rfl (by omega) (by simp only [maxLen]; omega) (by decide) fun a11 c11 W11 h => ?_
        (repeat (first | (first | ((with_reducible first | refine w1 ?_ | refine w3 ?_ | refine w4 ?_ | refine w11 ?_ | refine stb_n ?_); intros) | ((with_reducible first | refine v5 ?_ | refine v6 ?_ | refine v7 ?_ | refine ve ?_ | refine vn ?_); refine ⟨_, rfl, ?_⟩) | ((with_reducible first | refine v8 ?_ ?_ | refine v9 ?_ ?_ | refine v10 ?_ ?_ | refine v12 ?_ ?_); exact rfl; intros) | ((with_reducible refine w2 ?_); try simp -implicitDefEqProofs only [SE, SU, SV]; intros) | ((with_reducible refine w5 ?_ ?_); simp; refine ⟨_, rfl, ?_⟩) | ((with_reducible refine w12 ?_ ?_ ?_ ?_); simp; simp; simp [oneC]; intros) | (refine okF_i (bldP_eq rfl) ?_; try simp only [BLS, SB, Nat.reduceAdd])) | simp -implicitDefEqProofs only [SE, SU, SV]))
        rename_i h
        (try simp only [BLS, SB, stL_a, stL_b, stL_c, List.append_nil, List.take_nil, List.drop_nil, Nat.reduceAdd] at h)
        refine slcRc (W0 := W0) (L := L) (a := a6) (l := b') (A := B8) (lo := 22 + unle q) (hi := b'.length) rfl rfl bnd_none (bnd_nat (by omega)) (by omega) (Nat.le_refl _) hc6 fun a12 c12 hc12 hr12 => ?_
        rw [List.take_length] at hc12 hr12 ⊢
        have h := St.wk (L' := cells p7 [.int .i64 num, .int .i64 (t[0].toNat : Int), .int .i64 (unle (t.drop 9) : Int), .int .u64 (unle ((t.take 9).drop 1) : Int), .slice a11 (rows ++ [(⟨a10, c10, r⟩ : BSl)]).length c11, .bool false] T_wal_file :: cells p4 [.int .i64 0, .int .i64 0, .int .i64 0, .int .u64 0, .slice none 0 0, .bool false] T_wal_file ::
          arr BSY T_s_uint8 a11 c11 (rows ++ [⟨a10, c10, r⟩]) :: fch ⟨a10, c10, r⟩ :: many fch rows :: L) h
        refine hK (a12, c12, b'.drop (22 + unle q), m, a11, c11, rows ++ [⟨a10, c10, r⟩]) _ (by simp only [List.length_drop]; omega) ⟨hr12, hc12, by simp only [List.length_drop]; omega, by simp only [List.length_drop]; omega, by simp only [List.length_drop, List.length_append, List.length_singleton]; omega, ?_, ?_⟩
        · simp only [List.map_append, List.map_cons, List.map_nil]
          exact hp
        · exact h.ent (ent.cons _ (ent.cons _ (ent.cons _ ((many_uncons (F := fch) _ _).trans (many_perm (F := fch) (List.perm_append_singleton _ _).symm)))))
end
end Go.Proofs.Ythladblmjoaeoaa
namespace Go.Eng
set_option linter.unusedVariables false
set_option linter.unusedSimpArgs false
open Go Go.RowKit Go.Sort Go.Proofs
section
variable {P : Program} {W0 W W' : World} {L L' : List Asn} {e : TypeId}
/-- what a call comes to that keeps all and makes what it makes -/
theorem St.grown (h : St W [] W') : ∃ q os, W' = grow (W.drewN q) os := by
  obtain ⟨⟨⟨h1, h2, h3, h4, h5⟩, h6⟩, _⟩ := h
  refine ⟨W'.drawn - W.drawn, W'.heap.extract W.heap.size W'.heap.size, ?_⟩
  obtain ⟨hp, tp, dr, os, ou⟩ := W'
  simp only at h1 h2 h3 h4 h5 h6
  subst h1 h2 h3
  simp only [grow, World.drewN, World.mk.injEq, true_and, and_true]
  refine ⟨?_, by omega⟩
  apply Array.ext_getElem?
  intro i
  by_cases hi : i < W.heap.size
  · rw [h5 i hi, Array.getElem?_append_left hi]
  · rw [Array.getElem?_append_right (by omega), Array.getElem?_extract]
    by_cases hj : i < hp.size
    · rw [if_pos (by omega)]; congr 1; omega
    · rw [if_neg (by omega), Array.getElem?_eq_none (by omega)]
theorem St.more (h : St W0 L W) (os : Array Obj) : St W0 L (grow W os) := by
  obtain ⟨hb, p, hs, ho⟩ := h
  have hk : ∀ k, k < W.heap.size → (grow W os).heap[k]? = W.heap[k]? := fun k hk => by
    show (W.heap ++ os)[k]? = _
    rw [Array.getElem?_append_left hk]
  refine ⟨hb.trans ⟨⟨rfl, rfl, rfl, by simp, fun k hk' => hk k (Nat.lt_of_lt_of_le hk' hb.size)⟩, Nat.le_refl _⟩, p, hs, fun b o hbo => ⟨(ho b o hbo).1, ?_⟩⟩
  rw [hk b (Array.getElem?_eq_some_iff.1 (ho b o hbo).2).1]
  exact (ho b o hbo).2
theorem St.ahead (h : St W0 L W) (n : Nat) : St W0 L (Sort.ahead W n) :=
  ⟨h.bel.trans ⟨⟨rfl, rfl, rfl, Nat.le_refl _, fun _ _ => rfl⟩, Nat.le_add_right _ _⟩, h.own⟩
theorem putCells_id {F : List Value} {cur : List Value} {o : Nat} (h : o + F.length ≤ cur.length) : putCells id o F.toArray cur.toArray = (cur.take o ++ F ++ cur.drop (o + F.length)).toArray := by
  apply Array.ext_getElem?
  intro i
  simp only [putCells, Array.getElem?_mapIdx, List.getElem?_toArray, List.size_toArray, id_eq]
  by_cases h1 : i < o
  · rw [List.append_assoc, List.getElem?_append_left (by simp; omega), List.getElem?_take_of_lt h1]
    rw [List.getElem?_eq_getElem (by omega)]
    simp only [Option.map_some]
    rw [if_neg (by omega)]
  · by_cases h2 : i < o + F.length
    · rw [List.getElem?_append_left (by simp; omega), List.getElem?_append_right (by simp; omega)]
      simp only [List.length_take]
      rw [Nat.min_eq_left (by omega), List.getElem?_eq_getElem (by omega), List.getElem?_eq_getElem (by omega)]
      simp only [Option.map_some]
      rw [if_pos (by omega), getElem!_pos F.toArray _ (by simp; omega)]
      simp
    · rw [List.getElem?_append_right (by simp; omega), List.getElem?_drop]
      simp only [List.length_append, List.length_take]
      rw [Nat.min_eq_left (by omega)]
      rw [show o + F.length + (i - (o + F.length)) = i by omega]
      cases hc : cur[i]? with
      | none => rfl
      | some v => simp only [Option.map_some]; rw [if_neg (by omega)]
theorem St.putRow {g o n : Nat} {cur F : List Value} {os : Array Obj} (h : St W0 (Eng.cells g cur e :: L) W) (hF : o + F.length ≤ cur.length) :
    St W0 (Eng.cells g (cur.take o ++ F ++ cur.drop (o + F.length)) e :: L) (grow (Sort.putRow id (Sort.ahead W n) g o F.toArray) os) := by
  refine St.more ?_ os
  obtain ⟨fr, hf, hb⟩ := (h.ahead n).cells
  have hbl := hb.blk.2
  have hlt : g < W.heap.size := (Array.getElem?_eq_some_iff.1 hbl).1
  have he : Sort.putRow id (Sort.ahead W n) g o F.toArray = { (Sort.ahead W n) with heap := (Sort.ahead W n).heap.setIfInBounds g (.cells (cur.take o ++ F ++ cur.drop (o + F.length)).toArray e fr) } := by
    unfold Sort.putRow mapBlock
    congr 1
    apply Array.ext_getElem?
    intro j
    rw [Array.getElem?_modify, Array.getElem?_setIfInBounds]
    by_cases hj : g = j
    · subst hj
      rw [if_pos rfl, if_pos rfl, if_pos (show g < (Sort.ahead W n).heap.size from hlt), hbl]
      simp only [Option.map_some, onCells, putCells_id hF]
    · rw [if_neg hj, if_neg hj]
  rw [he]
  refine (hb.setBlk _).weak fun p hp => ⟨fr, ?_, hp⟩
  intro j hj
  refine hf j ?_
  simp at hj
  omega
theorem cells_hold {g o : Nat} {cur : List Value} (h : St W0 (cells g cur e :: L) W) (n : Nat) (hn : o + n ≤ cur.length) : ∀ j, j < n → W.cell? ⟨g, o + j, none⟩ = cur[o + j]? ∧ W.frozen? ⟨g, o + j, none⟩ = false := fun j hj =>
  St.cellOf (L' := L) (b := g) (cs := cur) (T := e) h (o + j) (by omega)
end
section
variable {P : Program} {ρ : Go.Shelf.Ren} {W0 W W' : World} {L L' : List Asn} {e : TypeId} {α : Type} [Inhabited α] {A : Ly α}
theorem flatK_rows {k : Nat} (hk : A.sz = k) (l : List α) : (flatK A.row k l.toArray).toList = A.rows l := by
  subst hk
  refine List.ext_getElem? fun t => ?_
  by_cases ht : t < l.length * A.sz
  · have h0 := get_flatK A.row A.sz l.toArray t (by simpa using ht)
    have hq : t / A.sz < l.length := Nat.div_lt_of_lt_mul (by rw [Nat.mul_comm]; exact ht)
    have hr : t % A.sz < A.sz := Nat.mod_lt _ A.pos
    have hs : t < (flatK A.row A.sz l.toArray).size := by simpa using ht
    rw [getElem!_pos _ t hs] at h0
    rw [Array.getElem?_toList, Array.getElem?_eq_getElem hs, h0]
    have e1 : (A.rows l)[t]? = (A.row l[t / A.sz])[t % A.sz]? := by
      rw [← Ly.rows_at hq, List.getElem?_take_of_lt hr, List.getElem?_drop, Nat.div_add_mod']
    rw [e1, getElem!_pos l.toArray _ (by simpa using hq), getElem!_pos _ _ (by rw [A.len]; exact hr), List.getElem?_eq_getElem (by rw [A.len]; exact hr)]
    simp
  · rw [List.getElem?_eq_none (by simp; omega), List.getElem?_eq_none (by rw [Ly.rows_len]; omega)]
/-- slices.SortFunc at structs, under a function value that parts any two; what it reads may lie anywhere else -/
theorem sortFX (L6 : SlLaysF0.n6 P ρ) (aE : ∀ w, (isAgg (ρ.t 24)).run P w = .ok true w) (zE : ∀ w, (Go.sizeOf (ρ.t 24)).run P w = .ok A.sz w) (cf : α → α → Int) (hO : SWO (ltOf cf)) (hT : ∀ x y, (ltOf cf) x y = false → (ltOf cf) y x = false → x = y)
    (g : Nat) (cb : List Value) {a : Option Addr} {c : Nat} {l : List α} {k : Value → World → Prop} (eg : ∀ args w, (callFunc g args).run P w = .ok (.enter g args) w)
    (h : St W0 L W) [ho : Own a L A e c l L'] (hc : ∀ x y W', St W0 L' W' → callK P g (.agg (A.row x).toArray :: .agg (A.row y).toArray :: cb) (fun v W'' => v = .int .i64 (cf x y) ∧ St W' [] W'') W')
    (hl : l.length < 4611686018427387904) (hk : ∀ W', St W0 (arr A e a c (l.mergeSort fun x y => !(ltOf cf) y x) :: L') W' → k (.tuple #[]) W') : callK P (ρ.f 6) [.slice a l.length c, .func (.func g) #[] cb.toArray] k W := by
  have h := h.took (a := a)
  have hf := h.arrFacts
  by_cases ha : a = none
  · subst ha
    have hl0 : l = [] := List.eq_nil_of_length_eq_zero (by have := hf.2.2.1 rfl; omega)
    subst hl0
    refine (AnyF.slices_SortFunc_none L6 none c (.func (.func g) #[] cb.toArray) W).mono ?_
    rintro ed w' ⟨rfl, rfl⟩
    exact hk _ (by rw [List.mergeSort_nil]; exact h)
  · obtain ⟨b, o, cur, rfl, h1, h2, h3⟩ := h.arrCells ha
    have hle : l.length * A.sz ≤ c * A.sz := Nat.mul_le_mul_right _ hf.1
    have hcell := cells_hold (o := o) h3 (l.length * A.sz) (by omega)
    have hH : HoldsK A.row A.sz W b o l.toArray := by
      intro j hj
      have hj' : j < l.length * A.sz := by simpa using hj
      refine ⟨?_, (hcell j hj').2⟩
      rw [(hcell j hj').1, getElem!_pos _ j hj]
      have e1 := flatK_rows (A := A) rfl l
      have e2 : (flatK A.row A.sz l.toArray)[j] = (flatK A.row A.sz l.toArray).toList[j]'(by simpa using hj) := by simp
      rw [e2]
      have e3 : (A.rows l)[j]? = cur[o + j]? := by rw [← h2, List.getElem?_take_of_lt hj', List.getElem?_drop]
      rw [← e3, ← e1, List.getElem?_eq_getElem (by simpa using hj)]
      rfl
    have hblk : b < W.heap.size := by
      obtain ⟨fr, _, hb⟩ := h3.cells
      exact (Array.getElem?_eq_some_iff.1 hb.blk.2).1
    have hcmp : CmpLays P g cb.toArray A.row A.sz cf b o l.toArray.size W := by
      intro m os dk hdk x y
      have hfs : (flatK A.row A.sz dk).toList.length = l.length * A.sz := by
        have := flatK_rows (A := A) rfl dk.toList
        rw [Array.toArray_toList] at this
        rw [this, Ly.rows_len, Array.length_toList, hdk, List.size_toArray]
      have hw := (St.putRow (n := m) (os := os) h3 (F := (flatK A.row A.sz dk).toList) (by rw [hfs]; exact Nat.le_trans (Nat.add_le_add_left hle o) h1)).drop
      rw [Array.toArray_toList] at hw
      have := hc x y (sortWorldK A.row A.sz W b o m dk os) hw
      refine (show Calls P g _ _ _ from ?_)
      have h5 : Calls P g (.agg (A.row x).toArray :: .agg (A.row y).toArray :: cb).toArray (sortWorldK A.row A.sz W b o m dk os) _ := this
      have e5 : (#[.agg (A.row x).toArray, .agg (A.row y).toArray] ++ cb.toArray : Array Value) = (.agg (A.row x).toArray :: .agg (A.row y).toArray :: cb).toArray := by simp
      rw [e5]
      refine h5.mono fun ed w' hq => ?_
      cases ed with
      | returned v => exact ⟨by rw [hq.1], hq.2.grown⟩
      | _ => exact hq.elim
    have hcon := AnyQ.slices_SortFunc_total L6 A.sz aE zE A.row A.len (fun x v hv => ?_) cf hO g cb.toArray b o c l.toArray W eg hcmp hH hblk (by simpa using hl) hT
    · have e0 : (#[.slice (some ⟨b, o, none⟩) l.toArray.size c, .func (.func g) #[] cb.toArray] : Array Value) = [.slice (some ⟨b, o, none⟩) l.length c, .func (.func g) #[] cb.toArray].toArray := by simp
      rw [e0] at hcon
      refine hcon.mono ?_
      rintro ed w' ⟨rfl, n, os, rfl⟩
      have hlen : (l.mergeSort fun x y => !(ltOf cf) y x).length = l.length := List.length_mergeSort _
      refine hk _ ?_
      unfold sortWorldK putRowK
      have e6 : flatK A.row A.sz (l.mergeSort fun x y => !(ltOf cf) y x).toArray = (A.rows (l.mergeSort fun x y => !(ltOf cf) y x)).toArray := by
        rw [← flatK_rows (A := A) rfl]
      rw [e6]
      have hrl : (A.rows (l.mergeSort fun x y => !(ltOf cf) y x)).length = l.length * A.sz := by rw [Ly.rows_len, hlen]
      refine (St.putRow (n := n) (os := os) h3 (F := A.rows (l.mergeSort fun x y => !(ltOf cf) y x)) (by omega)).ent (arr_of_cells (by omega) hf.2.1 ?_ ?_)
      · simp only [List.length_append, List.length_take, List.length_drop]; omega
      · rw [List.append_assoc, List.drop_append_of_le_length (by simp; omega), List.drop_take, Nat.sub_self, List.take_zero, List.nil_append, hlen, ← hrl, List.take_left]
    · have := List.all_eq_true.1 (A.one x) v hv
      cases v <;> first | rfl | (simp [oneC] at this)
end
end Go.Eng
namespace Go.Eng
set_option linter.unusedVariables false
set_option linter.unusedSimpArgs false
open Go Go.RowKit Go.Sort Go.Proofs
section
variable {P : Program} {ρ ρ' : Go.Shelf.Ren} {W0 W W' : World} {L L' : List Asn} {e : TypeId}
theorem sortsI (L5 : SlLaysM.n5 P ρ') (e : ρ.f 9 = ρ'.f 5) (m : Nat) : AnyZI.SortsIn P ρ Fence.wide m := by
  refine ⟨fun blk off cap ss W hH hblk hsz => ?_, fun p cap W => ?_⟩ <;> rw [e]
  · exact callsIn_wide.2 (AnyM.slices_Sort_int L5 blk off cap ss W hH hblk hsz)
  · exact callsIn_wide.2 (AnyM.slices_Sort_int_none L5 p cap W)
/-- over a base that counts no draws, a world may forget its own -/
theorem St.lax (h : St W0 L W) (h0 : W0.drawn = 0) : St W0 L { W with drawn := 0 } :=
  ⟨⟨⟨h.bel.os, h.bel.tape, h.bel.output, h.bel.size, h.bel.block⟩, by rw [h0]; exact Nat.zero_le _⟩, h.own⟩
theorem St.fresh (h : St W0 L W) (h0 : W0.drawn = 0) (hb : Below W.heap.size W W') {g : Nat} {o : Obj} (hg : W.heap.size ≤ g) (ho : W'.heap[g]? = some o) : St W0 (Eng.blk g o :: L) W' := by
  have h' : St { W with drawn := 0 } [Eng.blk g o] W' := by
   refine ⟨⟨⟨hb.os, hb.tape, hb.output, hb.size, hb.block⟩, Nat.zero_le _⟩, fun x => if x = g then some o else none, ⟨fun x => if x = g then some o else none, fun _ => none, fun x => .inr rfl, ?_, ⟨?_, ?_⟩, fun _ => rfl⟩, ?_⟩
   · funext x; simp [PH.join]
   · simp
   · intro x hx; simp [hx]
   · intro b o' hb
     by_cases hbe : b = g
     · subst hbe
       simp only [if_true, Option.some.injEq] at hb
       subst hb
       exact ⟨hg, ho⟩
     · simp only [hbe, if_false] at hb
       cases hb
  exact (h.lax h0).over h'
theorem St.stay (h : St W0 L W) (h0 : W0.drawn = 0) (hb : Below W.heap.size W W') : St W0 L W' := by
  have h2 : St { W with drawn := 0 } [] W' := ⟨⟨⟨hb.os, hb.tape, hb.output, hb.size, hb.block⟩, Nat.zero_le _⟩, fun _ => none, fun _ => rfl, fun b o h => by cases h⟩
  exact (h.lax h0).over h2
theorem St.ownRow (h : St W0 L W) (h0 : W0.drawn = 0) (hb : Below W.heap.size W W') {v : Value} {l : List Int} (hr : W'.ownsRow W.heap.size e 1 v l.length (l.map encZ)) : ∃ a c, v = .slice a l.length c ∧ St W0 (arr I64 e a c l :: L) W' := by
  rcases hr.2 with ⟨rfl, hz⟩ | ⟨g, cap, cur, rfl, hbase, hg, h1, h2, h3, h4⟩
  · have : l = [] := List.eq_nil_of_length_eq_zero hz
    subst this
    exact ⟨none, 0, rfl, (h.stay h0 hb).ent (arr_nil I64 e)⟩
  · refine ⟨_, _, rfl, ?_⟩
    have hrows : ∀ l : List Int, I64.rows l = l.map encZ := fun l => by
      induction l with
      | nil => rfl
      | cons a l ih => rw [Ly.rows_cons, ih]; rfl
    have h5 : St W0 (Eng.cells g cur.toList e :: L) W' := (h.fresh h0 hb hbase hg).weak fun p hp => ⟨(0, 0), free_zero _, by simpa using hp⟩
    refine h5.ent (arr_of_cells h1 h2 ?_ ?_)
    · rw [show I64.sz = 1 from rfl]; simp [h3]
    · rw [show I64.sz = 1 from rfl, List.drop_zero, hrows]; exact h4
theorem sortedI (L6 : SlLaysZI.n6 P ρ) (hs : ∀ m, AnyZI.SortsIn P ρ Fence.wide m) (e9 : ∀ args w, (callFunc (ρ.f 9) args).run P w = .ok (.enter (ρ.f 9) args) w) {g : Nat} {lb : Array Value} (eg : ∀ args w, (callFunc g args).run P w = .ok (.enter g args) w) {S : List Int → Prop} {N : Nat} {k : Value → World → Prop}
    (h : St W0 L W) (h0 : W0.drawn = 0) (hN : N * 8 ≤ 140737488355328) (hseq : SeqGives Fence.wide 2 P g lb encZ S N W)
    (hk : ∀ a c ss W', S ss → St W0 (arr I64 (ρ.t 26) a c (ss.mergeSort fun x y => decide (x ≤ y)) :: L) W' → k (.slice a (ss.mergeSort fun x y => decide (x ≤ y)).length c) W') : callK P (ρ.f 6) [.func (.func g) #[] lb] k W := by
  have cS := AnyZI.sorted_in L6 Fence.wide 5 trivial trivial trivial trivial rfl (by omega) (hs _) e9 g lb trivial eg S N (by simp only [maxLen]; omega) hN W hseq
  refine (callsIn_wide.1 cS).mono ?_
  rintro ed w' ⟨v, ss, rfl, hS, hrow, -, hb⟩
  have hl : ss.length = (ss.mergeSort fun x y => decide (x ≤ y)).length := (List.length_mergeSort _).symm
  rw [hl] at hrow
  obtain ⟨a, c, rfl, h⟩ := h.ownRow h0 hb hrow
  exact hk a c ss w' hS h
theorem insert_fold {H : Type} : ∀ r : List (Lit × DataW H), (r.foldr DataW.insert []).Perm r
  | [] => List.Perm.nil
  | x :: r => (Go.WideShapes.insert_perm x _).trans ((insert_fold r).cons x)
def valI : Value → Int
  | .int _ a => a
  | _ => 0
theorem mp_owns {r : Nat} {l : List (Int × Value)} {kt : TypeId} (hk : P.underlying kt = some (.int .i64)) (h : St W0 (mp KI r l :: L) W) (hl : l.length ≤ maxLen) (hw : ∀ p ∈ l, (Lit.int .i64 p.1).wf = true) :
    ∃ D : DataW Unit, W.ownsMap P kt (fun _ => some (.nil, [])) r l.length D ∧ (intKeys D).Perm (l.map (·.1)) ∧ Maps.size D = l.length := by
  obtain ⟨es, clock, h1, h2, h3⟩ := h.mp
  have hlen : es.size = l.length := by have := congrArg List.length h1; simpa using this
  have hkey : ∀ x ∈ es.toList, ∃ p ∈ l, x.key = KI p.1 := fun x hx => by
    have : (x.key, x.val) ∈ l.map (fun p => (KI p.1, p.2)) := by rw [← h1]; exact List.mem_map.2 ⟨x, hx, rfl⟩
    obtain ⟨p, hp, he⟩ := List.mem_map.1 this
    exact ⟨p, hp, (congrArg Prod.fst he).symm⟩
  have hrd : ∀ x ∈ es.toList, ∃ p ∈ l, x.key = KI p.1 ∧ Go.WideElems.rd (H := Unit) P kt (fun _ => some (.nil, [])) x = some (.int .i64 p.1, .nil) := fun x hx => by
    obtain ⟨p, hp, he⟩ := hkey x hx
    refine ⟨p, hp, he, ?_⟩
    have hkk : keyOf P kt (KI p.1) = some (.int .i64 p.1) := by simp [KI, keyOf, hk, mapKey, hw p hp]
    unfold Go.WideElems.rd
    rw [he, hkk]; rfl
  refine ⟨_, ⟨es, clock, h3.blk.2, ⟨by omega, h2, fun x hx => ?_⟩, by omega, rfl⟩, ?_, ?_⟩
  · obtain ⟨p, _, _, h⟩ := hrd x hx
    exact ⟨_, h⟩
  · have e1 : (es.toList.map (Go.WideElems.rg (H := Unit) P kt fun _ => some (.nil, []))).map (fun p => intOf p.1) = l.map (·.1) := by
      have e2 : ∀ x ∈ es.toList, intOf (Go.WideElems.rg (H := Unit) P kt (fun _ => some (.nil, [])) x).1 = valI x.key := fun x hx => by
        obtain ⟨p, _, h4, h5⟩ := hrd x hx
        rw [Go.WideElems.rg_of h5, h4]; rfl
      rw [List.map_map]
      refine (List.map_congr_left e2).trans ?_
      have e3 := congrArg (fun t : List (Value × Value) => t.map fun q => valI q.1) h1
      rw [List.map_map, List.map_map] at e3
      exact e3
    rw [← e1]
    exact (insert_fold _).map _
  · show ((es.toList.map _).foldr DataW.insert []).length = _
    rw [(insert_fold _).length_eq, List.length_map, Array.length_toList, hlen]
theorem keysI (L7 : SlLaysZI.n7 P ρ) {mb : Option Nat} {k : Value → World → Prop} (h : St W0 L W)
    (hk : ∀ b W', St W0 (Eng.cells b [.map mb] (ρ.t 23) :: L) W' → k (.func (.func (ρ.f 10)) #[] #[.pointer (some ⟨b, 0, none⟩)]) W') : callK P (ρ.f 7) [.map mb] k W := by
  refine (callsIn_wide.1 (AnyZI.keys_in L7 Fence.wide 1 trivial rfl mb W)).mono ?_
  rintro ed w' ⟨rfl, rfl⟩
  exact hk _ _ (h.allocCells [.map mb] _)
theorem keysGive (L7 : SlLaysZI.n7 P ρ) {b r : Nat} {T : TypeId} {l : List (Int × Value)} (h : St W0 (Eng.cells b [.map (some r)] T :: mp KI r l :: L) W) (hl : l.length ≤ maxLen) (hw : ∀ p ∈ l, (Lit.int .i64 p.1).wf = true) :
    SeqGives Fence.wide 2 P (ρ.f 10) #[.pointer (some ⟨b, 0, none⟩)] encZ (fun ss => ss.Perm (l.map (·.1))) l.length W := by
  have h10 : SlLaysZI.n10 P ρ := { L7 with }
  obtain ⟨D, hD, hp, hsz⟩ := mp_owns h10.t26 (h.drop) hl hw
  have hc := h.cells
  obtain ⟨fr, _, hb⟩ := hc
  have hg := hb.blk.2
  have hseq := AnyZI.keys_gives (ρ := ρ) h10 Fence.wide 2 trivial rfl (by omega) b r l.length D W (Array.getElem?_eq_some_iff.1 hg).1 (by simp [World.cell?, hg]) hD
  rw [hsz] at hseq
  intro l' J W' hW hJ hY h0
  refine (hseq l' J W' hW hJ hY h0).mono ?_
  rintro ed w' ⟨h1, xs, h2, h3⟩
  exact ⟨h1, xs, h2.trans hp, h3⟩
end
end Go.Eng
namespace Go.Proofs.Ythladblmjoaeoaa
set_option linter.unusedVariables false
set_option linter.unusedSimpArgs false
open Go Go.Proofs Go.Shelf
def laySorted_ren : Go.Shelf.Ren := ⟨fun | 6 => 50 | 8 => 62 | 9 => 63 | 11 => 74 | 13 => 76 | 12 => 75 | 23 => 92 | 24 => 93 | 14 => 83 | 15 => 84 | 16 => 85 | 17 => 86 | 18 => 87 | 19 => 88 | 20 => 89 | 21 => 90 | 22 => 91 | 25 => 105 | 26 => 106 | 27 => 107 | 28 => 108 | 29 => 109 | 30 => 80 | 31 => 114 | n => n, fun | 26 => 3 | 28 => 80 | 24 => 42 | 0 => 0 | 3 => 3 | 37 => 112 | 48 => 128 | 50 => 87 | 4 => 4 | 40 => 120 | 39 => 119 | 45 => 125 | 5 => 5 | 9 => 9 | 51 => 139 | 55 => 143 | 57 => 148 | 58 => 149 | 33 => 96 | n => n, fun | n => n⟩
theorem laySorted : Go.Proofs.SlLaysZI.n6 Try.prog laySorted_ren := {
  mixed := by kernel_rfl
  f6 := ⟨Try.f50.name, by decide, Try.func50.trans (congrArg some (by kernel_rfl))⟩
  f8 := ⟨Try.f62.name, by decide, Try.func62.trans (congrArg some (by kernel_rfl))⟩
  f11 := ⟨Try.f74.name, by decide, Try.func74.trans (congrArg some (by kernel_rfl))⟩
  t0 := Try.underlying0
  a0 := Try.isAgg0
  z0 := Try.sizeOf0
  v0 := Try.zeroValue0
  t24 := Try.underlying42
  a24 := Try.isAgg42
  z24 := Try.sizeOf42
  v24 := Try.zeroValue42
  t26 := Try.underlying3
  a26 := Try.isAgg3
  z26 := Try.sizeOf3
  v26 := Try.zeroValue3
  t28 := Try.underlying80
  a28 := Try.isAgg80
  z28 := Try.sizeOf80
  v28 := Try.zeroValue80
  i26 := by kernel_rfl }
def layKeys_ren : Go.Shelf.Ren := ⟨fun | 7 => 51 | 10 => 64 | n => n, fun | 23 => 70 | 26 => 3 | 3 => 28 | 28 => 80 | 0 => 0 | 27 => 79 | 33 => 96 | 4 => 4 | n => n, fun | n => n⟩
theorem layKeys : Go.Proofs.SlLaysZI.n7 Try.prog layKeys_ren := {
  mixed := by kernel_rfl
  f7 := ⟨Try.f51.name, by decide, Try.func51.trans (congrArg some (by kernel_rfl))⟩
  f10 := ⟨Try.f64.name, by decide, Try.func64.trans (congrArg some (by kernel_rfl))⟩
  t0 := Try.underlying0
  a0 := Try.isAgg0
  z0 := Try.sizeOf0
  v0 := Try.zeroValue0
  t4 := Try.underlying4
  a4 := Try.isAgg4
  z4 := Try.sizeOf4
  v4 := Try.zeroValue4
  t23 := Try.underlying70
  a23 := Try.isAgg70
  z23 := Try.sizeOf70
  v23 := Try.zeroValue70
  t26 := Try.underlying3
  a26 := Try.isAgg3
  z26 := Try.sizeOf3
  v26 := Try.zeroValue3
  t27 := Try.underlying79
  a27 := Try.isAgg79
  z27 := Try.sizeOf79
  v27 := Try.zeroValue79
  t28 := Try.underlying80
  a28 := Try.isAgg80
  z28 := Try.sizeOf80
  v28 := Try.zeroValue80
  t33 := Try.underlying96
  a33 := Try.isAgg96
  z33 := Try.sizeOf96
  v33 := Try.zeroValue96 }
def laySortI_ren : Go.Shelf.Ren := ⟨fun | 5 => 63 | 8 => 76 | 7 => 75 | 19 => 92 | 20 => 93 | 10 => 83 | 11 => 84 | 12 => 85 | 13 => 86 | 14 => 87 | 15 => 88 | 16 => 89 | 17 => 90 | 18 => 91 | 30 => 105 | 31 => 106 | 32 => 107 | 33 => 108 | 34 => 109 | 35 => 80 | 40 => 114 | n => n, fun | 23 => 42 | 25 => 3 | 3 => 3 | 32 => 112 | 22 => 42 | 0 => 0 | 44 => 128 | 46 => 87 | 4 => 4 | 36 => 120 | 35 => 119 | 41 => 125 | 5 => 5 | 9 => 9 | 53 => 139 | 57 => 143 | 63 => 148 | 64 => 149 | n => n, fun | n => n⟩
theorem laySortI : Go.Proofs.SlLaysM.n5 Try.prog laySortI_ren := {
  mixed := by kernel_rfl
  f5 := ⟨Try.f63.name, by decide, Try.func63.trans (congrArg some (by kernel_rfl))⟩
  f7 := ⟨Try.f75.name, by decide, Try.func75.trans (congrArg some (by kernel_rfl))⟩
  f8 := Try.func76.trans (congrArg some (by kernel_rfl))
  f10 := ⟨Try.f83.name, by decide, Try.func83.trans (congrArg some (by kernel_rfl))⟩
  f11 := ⟨Try.f84.name, by decide, Try.func84.trans (congrArg some (by kernel_rfl))⟩
  f12 := ⟨Try.f85.name, by decide, Try.func85.trans (congrArg some (by kernel_rfl))⟩
  f13 := ⟨Try.f86.name, by decide, Try.func86.trans (congrArg some (by kernel_rfl))⟩
  f14 := ⟨Try.f87.name, by decide, Try.func87.trans (congrArg some (by kernel_rfl))⟩
  f15 := ⟨Try.f88.name, by decide, Try.func88.trans (congrArg some (by kernel_rfl))⟩
  f16 := ⟨Try.f89.name, by decide, Try.func89.trans (congrArg some (by kernel_rfl))⟩
  f17 := ⟨Try.f90.name, by decide, Try.func90.trans (congrArg some (by kernel_rfl))⟩
  f18 := ⟨Try.f91.name, by decide, Try.func91.trans (congrArg some (by kernel_rfl))⟩
  f19 := Try.func92.trans (congrArg some (by kernel_rfl))
  f20 := Try.func93.trans (congrArg some (by kernel_rfl))
  f30 := ⟨Try.f105.name, by decide, Try.func105.trans (congrArg some (by kernel_rfl))⟩
  f31 := Try.func106.trans (congrArg some (by kernel_rfl))
  f32 := Try.func107.trans (congrArg some (by kernel_rfl))
  f33 := ⟨Try.f108.name, by decide, Try.func108.trans (congrArg some (by kernel_rfl))⟩
  f34 := ⟨Try.f109.name, by decide, Try.func109.trans (congrArg some (by kernel_rfl))⟩
  f35 := ⟨Try.f80.name, by decide, Try.func80.trans (congrArg some (by kernel_rfl))⟩
  f40 := ⟨Try.f114.name, by decide, Try.func114.trans (congrArg some (by kernel_rfl))⟩
  t0 := Try.underlying0
  a0 := Try.isAgg0
  z0 := Try.sizeOf0
  v0 := Try.zeroValue0
  t3 := Try.underlying3
  a3 := Try.isAgg3
  z3 := Try.sizeOf3
  v3 := Try.zeroValue3
  t4 := Try.underlying4
  a4 := Try.isAgg4
  z4 := Try.sizeOf4
  v4 := Try.zeroValue4
  t5 := Try.underlying5
  a5 := Try.isAgg5
  z5 := Try.sizeOf5
  v5 := Try.zeroValue5
  t9 := Try.underlying9
  a9 := Try.isAgg9
  z9 := Try.sizeOf9
  v9 := Try.zeroValue9
  t22 := Try.underlying42
  a22 := Try.isAgg42
  z22 := Try.sizeOf42
  v22 := Try.zeroValue42
  t23 := Try.underlying42
  a23 := Try.isAgg42
  z23 := Try.sizeOf42
  v23 := Try.zeroValue42
  t25 := Try.underlying3
  a25 := Try.isAgg3
  z25 := Try.sizeOf3
  v25 := Try.zeroValue3
  t32 := Try.underlying112
  a32 := Try.isAgg112
  z32 := Try.sizeOf112
  v32 := Try.zeroValue112
  t35 := Try.underlying119
  a35 := Try.isAgg119
  z35 := Try.sizeOf119
  v35 := Try.zeroValue119
  t36 := Try.underlying120
  a36 := Try.isAgg120
  z36 := Try.sizeOf120
  v36 := Try.zeroValue120
  t41 := Try.underlying125
  a41 := Try.isAgg125
  z41 := Try.sizeOf125
  v41 := Try.zeroValue125
  t44 := Try.underlying128
  a44 := Try.isAgg128
  z44 := Try.sizeOf128
  v44 := Try.zeroValue128
  t46 := Try.underlying87
  a46 := Try.isAgg87
  z46 := Try.sizeOf87
  v46 := Try.zeroValue87
  t53 := Try.underlying139
  a53 := Try.isAgg139
  z53 := Try.sizeOf139
  v53 := Try.zeroValue139
  t57 := Try.underlying143
  a57 := Try.isAgg143
  z57 := Try.sizeOf143
  v57 := Try.zeroValue143
  t63 := Try.underlying148
  a63 := Try.isAgg148
  z63 := Try.sizeOf148
  v63 := Try.zeroValue148
  t64 := Try.underlying149
  a64 := Try.isAgg149
  z64 := Try.sizeOf149
  v64 := Try.zeroValue149 }
end Go.Proofs.Ythladblmjoaeoaa
namespace Go.Proofs.Ythladblmjoaeoaa
set_option linter.unusedVariables false
set_option linter.unusedSimpArgs false
open Go.Eng
/-! ### (*rostrum/disk.Disk).Files (22) -/
def S.disk_Disk_Files.body (R : Value → World → Prop) (v0 : Value) (W : World) : Prop :=
  okF (nilP v0) fun v4 =>
  okF (addrF 3 v4) fun v5 =>
  rdK PR (Instr.loadAt T_bool v5) (fun v6 W =>
  okF (unP .not v6) fun v7 =>
  ifK v7 (
  R (.slice none 0 0) W) (
  okF (nilP v0) fun v9 =>
  okF (addrF 1 v9) fun v10 =>
  rdK PR (Instr.loadAt T_m_int_s_uint8 v10) (fun v11 W =>
  callK PR F_maps_Keys_map_int_byte_int_byte [v11] (fun v12 W =>
  callK PR F_slices_Sorted_int [v12] (fun v13 W =>
  R v13 W) W) W) W)) W
def S.disk_Disk_Files.hint : Hint := (.two .nil (.two (.two .nil (.two (.two .nil .nil) .nil)) (.two .nil .nil)))
theorem S.disk_Disk_Files.ok (R : Value → World → Prop) (v0 : Value) (W : World) : bodyK PR CB Try.f22 S.disk_Disk_Files.hint [v0] R W = S.disk_Disk_Files.body R v0 W := by kernel_rfl
theorem S.disk_Disk_Files.fn : PR.funcs[F_disk_Disk_Files]? = some Try.f22 := by kernel_rfl
theorem S.disk_Disk_Files.call {R : Value → World → Prop} {v0 : Value} {W : World} (h : S.disk_Disk_Files.body R v0 W) : callK PR F_disk_Disk_Files [v0] R W :=
  callK_of_body (g := F_disk_Disk_Files) (fn := Try.f22) (args := [v0]) (R := R) (w := W) mixed CBok S.disk_Disk_Files.fn S.disk_Disk_Files.hint (by rw [S.disk_Disk_Files.ok]; exact h)
/-! ### rostrum/rostrumlaw5.ints (24) -/
def S.rostrumlaw5_ints.l1 (R : Value → World → Prop) (K1 : List Value → World → Prop) (x0 x1 x5 : Value) (W : World) : Prop :=
  okF (lenP (.slice T_int) x0) fun v13 =>
  okF (binP .lss x5 v13) fun v14 =>
  ifK v14 (
  okF (idxS 1 x0 x5) fun v19 =>
  rdK PR (Instr.loadAt T_int v19) (fun v20 W =>
  okF (idxS 1 x1 x5) fun v23 =>
  rdK PR (Instr.loadAt T_int v23) (fun v24 W =>
  okF (binP .neq v20 v24) fun v25 =>
  ifK v25 (
  R (.bool false) W) (
  okF (binP .add x5 (.int .i64 1)) fun v16 =>
  K1 [x0, x1, v16] W)) W) (tick W)) (
  R (.bool true) W)
def S.rostrumlaw5_ints.body (R : Value → World → Prop) (v0 v1 : Value) (W : World) : Prop :=
  okF (lenP (.slice T_int) v0) fun v7 =>
  okF (lenP (.slice T_int) v1) fun v9 =>
  okF (binP .neq v7 v9) fun v10 =>
  ifK v10 (
  R (.bool false) W) (
  loopK (fun K1 s W => S.rostrumlaw5_ints.l1 R K1 (nthv s 0) (nthv s 1) (nthv s 2) W) [v0, v1, (.int .i64 0)] W)
def S.rostrumlaw5_ints.hint : Hint := (.two .nil (.two (.two .nil (.two (.two .nil .nil) .nil)) (.two (.two .nil (.at [0, 1, 5] (.two (.two .nil (.two .nil .nil)) (.two (.two .nil (.two (.two .nil .nil) .nil)) .nil)) .nil)) (.two .nil .nil))))
theorem S.rostrumlaw5_ints.ok (R : Value → World → Prop) (v0 v1 : Value) (W : World) : bodyK PR CB Try.f24 S.rostrumlaw5_ints.hint [v0, v1] R W = S.rostrumlaw5_ints.body R v0 v1 W := by kernel_rfl
theorem S.rostrumlaw5_ints.fn : PR.funcs[F_rostrumlaw5_ints]? = some Try.f24 := by kernel_rfl
theorem S.rostrumlaw5_ints.call {R : Value → World → Prop} {v0 v1 : Value} {W : World} (h : S.rostrumlaw5_ints.body R v0 v1 W) : callK PR F_rostrumlaw5_ints [v0, v1] R W :=
  callK_of_body (g := F_rostrumlaw5_ints) (fn := Try.f24) (args := [v0, v1]) (R := R) (w := W) mixed CBok S.rostrumlaw5_ints.fn S.rostrumlaw5_ints.hint (by rw [S.rostrumlaw5_ints.ok]; exact h)
/-! ### rostrum/rostrumlaw5.DiskKnown (6) -/
def S.rostrumlaw5_DiskKnown.body (R : Value → World → Prop) (W : World) : Prop :=
  callK PR F_rostrumlaw5_awake [] (fun v20 W =>
  okF (unP .not v20) fun v21 =>
  ifK v21 (
  R (.bool false) W) (
  callK PR F_disk_New [(.int .i64 63)] (fun v23 W =>
  okF (extP 0 v23) fun v24 =>
  okF (extP 1 v23) fun v25 =>
  callK PR F_disk_New [(.int .i64 64)] (fun v27 W =>
  okF (extP 0 v27) fun v28 =>
  okF (extP 1 v27) fun v29 =>
  callK PR F_disk_Disk_Append [v28, (.int .i64 (-1)), (.slice none 0 0)] (fun v31 W =>
  callK PR F_disk_Disk_Append [v28, (.int .i64 1000), (.slice none 0 0)] (fun v33 W =>
  efK PR (Instr.makeSlice T_s_uint8 (.int .i64 65) (.int .i64 65)) (fun v35 W =>
  callK PR F_disk_Disk_Append [v28, (.int .i64 5), v35] (fun v36 W =>
  callK PR F_disk_Disk_Sync [v28, (.int .i64 5)] (fun v38 W =>
  efK PR (Instr.buildSlice T_s_uint8 3 #[(0, (.int .u8 97)), (1, (.int .u8 98)), (2, (.int .u8 99))]) (fun v40 W =>
  efK PR (convert T_s_uint8 T_s_uint8 v40) (fun v41 W =>
  callK PR F_disk_Disk_Append [v28, (.int .i64 9), v41] (fun v42 W =>
  callK PR F_disk_Disk_Sync [v28, (.int .i64 9)] (fun v44 W =>
  callK PR F_disk_Disk_Spoil [v28, (.int .i64 9), (.int .i64 1), (.int .u8 1)] (fun v46 W =>
  callK PR F_disk_Disk_Spoil [v28, (.int .i64 9), (.int .i64 3), (.int .u8 1)] (fun v48 W =>
  callK PR F_disk_Disk_Spoil [v28, (.int .i64 9), (.int .i64 0), (.int .u8 0)] (fun v50 W =>
  callK PR F_disk_Disk_Read [v28, (.int .i64 9)] (fun v53 W =>
  okF (extP 0 v53) fun v54 =>
  okF (extP 1 v53) fun v55 =>
  callK PR F_disk_Disk_Append [v28, (.int .i64 2), (.slice none 0 0)] (fun v57 W =>
  callK PR F_disk_Disk_Files [v28] (fun v59 W =>
  callK PR F_disk_Disk_Crash [v28, (.int .i64 0), (.int .i64 0)] (fun v61 W =>
  callK PR F_disk_Disk_Files [v28] (fun v63 W =>
  callK PR F_disk_Disk_On [v28] (fun v65 W =>
  callK PR F_disk_Disk_Read [v28, (.int .i64 9)] (fun v68 W =>
  okF (extP 0 v68) fun v69 =>
  okF (extP 1 v68) fun v70 =>
  callK PR F_disk_Disk_Drop [v28, (.int .i64 9)] (fun v72 W =>
  callK PR F_disk_Disk_Drop [v28, (.int .i64 9)] (fun v74 W =>
  okF (binP .eql v25 (.int .i64 1)) fun v76 =>
  gdK (wantd v76 true) (fun k W => k v31 W) (fun v78 W =>
  gdK (wantd v76 true) (fun k W => okF (binP .eql v78 (.int .i64 1)) fun v => k v W) (fun v79 W =>
  okF (pickP v76 v79 (.bool false)) fun v80 =>
  gdK (wantd v80 true) (fun k W => k v33 W) (fun v82 W =>
  gdK (wantd v80 true) (fun k W => okF (binP .eql v82 (.int .i64 1)) fun v => k v W) (fun v83 W =>
  okF (pickP v80 v83 (.bool false)) fun v84 =>
  gdK (wantd v84 true) (fun k W => k v36 W) (fun v86 W =>
  gdK (wantd v84 true) (fun k W => okF (binP .eql v86 (.int .i64 6)) fun v => k v W) (fun v87 W =>
  okF (pickP v84 v87 (.bool false)) fun v88 =>
  gdK (wantd v88 true) (fun k W => k v38 W) (fun v90 W =>
  gdK (wantd v88 true) (fun k W => okF (binP .eql v90 (.int .i64 4)) fun v => k v W) (fun v91 W =>
  okF (pickP v88 v91 (.bool false)) fun v92 =>
  gdK (wantd v92 true) (fun k W => k v46 W) (fun v94 W =>
  okF (pickP v92 v94 (.bool false)) fun v95 =>
  gdK (wantd v95 true) (fun k W => k v48 W) (fun v97 W =>
  gdK (wantd v95 true) (fun k W => okF (unP .not v97) fun v => k v W) (fun v98 W =>
  okF (pickP v95 v98 (.bool false)) fun v99 =>
  gdK (wantd v99 true) (fun k W => k v50 W) (fun v101 W =>
  gdK (wantd v99 true) (fun k W => okF (unP .not v101) fun v => k v W) (fun v102 W =>
  okF (pickP v99 v102 (.bool false)) fun v103 =>
  gdK (wantd v103 true) (fun k W => k v54 W) (fun v105 W =>
  gdK (wantd v103 true) (fun k W => rdK PR (convert T_s_uint8 T_string v105) k W) (fun v106 W =>
  gdK (wantd v103 true) (fun k W => okF (binP .eql v106 (.string ⟨#[97, 99, 99]⟩)) fun v => k v W) (fun v107 W =>
  okF (pickP v103 v107 (.bool false)) fun v108 =>
  gdK (wantd v108 true) (fun k W => k v59 W) (fun v110 W =>
  gdK (wantd v108 true) (fun k W => efK PR (Instr.buildSlice T_s_int 2 #[(0, (.int .i64 2)), (1, (.int .i64 9))]) k W) (fun v111 W =>
  gdK (wantd v108 true) (fun k W => callK PR F_rostrumlaw5_ints [v110, v111] k W) (fun v112 W =>
  okF (pickP v108 v112 (.bool false)) fun v113 =>
  gdK (wantd v113 true) (fun k W => k v63 W) (fun v115 W =>
  gdK (wantd v113 true) (fun k W => okF (lenP (.slice T_int) v115) fun v => k v W) (fun v116 W =>
  gdK (wantd v113 true) (fun k W => okF (binP .eql v116 (.int .i64 0)) fun v => k v W) (fun v117 W =>
  okF (pickP v113 v117 (.bool false)) fun v118 =>
  gdK (wantd v118 true) (fun k W => k v69 W) (fun v120 W =>
  gdK (wantd v118 true) (fun k W => rdK PR (convert T_s_uint8 T_string v120) k W) (fun v121 W =>
  gdK (wantd v118 true) (fun k W => okF (binP .eql v121 (.string ⟨#[97, 99, 99]⟩)) fun v => k v W) (fun v122 W =>
  okF (pickP v118 v122 (.bool false)) fun v123 =>
  gdK (wantd v123 true) (fun k W => k v72 W) (fun v125 W =>
  gdK (wantd v123 true) (fun k W => okF (binP .eql v125 (.int .i64 0)) fun v => k v W) (fun v126 W =>
  okF (pickP v123 v126 (.bool false)) fun v127 =>
  gdK (wantd v127 true) (fun k W => k v74 W) (fun v129 W =>
  gdK (wantd v127 true) (fun k W => okF (binP .eql v129 (.int .i64 4)) fun v => k v W) (fun v130 W =>
  okF (pickP v127 v130 (.bool false)) fun v131 =>
  gdK (wantd v131 true) (fun k W => k v28 W) (fun v133 W =>
  gdK (wantd v131 true) (fun k W => callK PR F_disk_Disk_Files [v133] k W) (fun v134 W =>
  gdK (wantd v131 true) (fun k W => efK PR (Instr.buildSlice T_s_int 1 #[(0, (.int .i64 2))]) k W) (fun v135 W =>
  gdK (wantd v131 true) (fun k W => callK PR F_rostrumlaw5_ints [v134, v135] k W) (fun v136 W =>
  okF (pickP v131 v136 (.bool false)) fun v137 =>
  R v137 W) W) W) W) W) W) W) W) W) W) W) W) W) W) W) W) W) W) W) W) W) W) W) W) W) W) W) W) W) W) W) W) W) W) W) W) W) W) W) W) W) W) W) W) W) W) W) W) W) W) W) W) W) W) W) W) W)) W
def S.rostrumlaw5_DiskKnown.hint : Hint := (.two .nil (.two (.two .nil (.two (.two .nil .nil) .nil)) (.two .nil (.two .nil (.two .nil (.two .nil (.two .nil (.two .nil (.two .nil (.two .nil (.two .nil (.two .nil (.two .nil (.two .nil (.two .nil (.two .nil (.two .nil (.two .nil (.two .nil (.two .nil .nil))))))))))))))))))))
theorem S.rostrumlaw5_DiskKnown.ok (R : Value → World → Prop) (W : World) : bodyK PR CB Try.f6 S.rostrumlaw5_DiskKnown.hint [] R W = S.rostrumlaw5_DiskKnown.body R  W := by kernel_rfl
theorem S.rostrumlaw5_DiskKnown.fn : PR.funcs[F_rostrumlaw5_DiskKnown]? = some Try.f6 := by kernel_rfl
theorem S.rostrumlaw5_DiskKnown.call {R : Value → World → Prop} {W : World} (h : S.rostrumlaw5_DiskKnown.body R  W) : callK PR F_rostrumlaw5_DiskKnown [] R W :=
  callK_of_body (g := F_rostrumlaw5_DiskKnown) (fn := Try.f6) (args := []) (R := R) (w := W) mixed CBok S.rostrumlaw5_DiskKnown.fn S.rostrumlaw5_DiskKnown.hint (by rw [S.rostrumlaw5_DiskKnown.ok]; exact h)
end Go.Proofs.Ythladblmjoaeoaa
namespace Go.Proofs.Ythladblmjoaeoaa
set_option linter.unusedVariables false
set_option linter.unusedSimpArgs false
open Go Go.Eng

def DS.files (d : DS) : List Int := if d.on then (d.fs.map (·.1)).mergeSort (fun x y => decide (x ≤ y)) else []
def DS.spoil (d : DS) (f at' : Int) (b : UInt8) : DS × Bool :=
  if d.find f ≠ 0 ∨ at' < 0 ∨ ((cont d.fs f).length : Int) ≤ at' ∨ b = 0 then (d, false)
  else ({ d with fs := mput d.fs f ((cont d.fs f).set at'.toNat ((cont d.fs f).getD at'.toNat 0 ^^^ b)) }, true)
theorem mputSame {κ β : Type} [DecidableEq κ] {l : List (κ × β)} {k : κ} {v : β} (h : mget l k = some v) : mput l k v = l := by
  induction l with
  | nil => cases h
  | cons p l ih =>
    obtain ⟨a, b⟩ := p
    by_cases hk : a = k
    · subst hk
      simp only [mget, if_true, Option.some.injEq] at h
      subst h
      simp [mput]
    · simp only [mget, if_neg hk] at h
      simp only [mput, if_neg hk, ih h]
theorem xor8 (a b : UInt8) : IntKind.u8.wrap (BitVec.ofInt 8 (a.toNat : Int) ^^^ BitVec.ofInt 8 (b.toNat : Int)).toNat = ((a ^^^ b).toNat : Int) := by
  have e1 : (BitVec.ofInt 8 (a.toNat : Int) ^^^ BitVec.ofInt 8 (b.toNat : Int)).toNat = (a ^^^ b).toNat := by
    rw [BitVec.toNat_xor, UInt8.toNat_xor]
    have ha := a.toNat_lt
    have hb := b.toNat_lt
    rw [BitVec.ofInt_natCast, BitVec.ofInt_natCast, BitVec.toNat_ofNat, BitVec.toNat_ofNat, Nat.mod_eq_of_lt ha, Nat.mod_eq_of_lt hb]
  rw [e1]
  have := (a ^^^ b).toNat_lt
  show ((((a ^^^ b).toNat : Int)) % 256) = _
  omega
theorem wf64i {x : Int} (h0 : -9223372036854775808 ≤ x) (h1 : x ≤ 9223372036854775807) : (Lit.int .i64 x).wf = true := by
  show (decide ((-9223372036854775808 : Int) ≤ x) && decide (x ≤ (9223372036854775807 : Int))) = true
  rw [decide_eq_true h0, decide_eq_true h1]; rfl
section
variable {W0 W : World} {L L' : List Asn}
theorem diskFiles {p : Nat} {d : DS} {k : Value → World → Prop} (h : St W0 L W) (h0 : W0.drawn = 0) [ht : Tk (dk p) L d L'] (hl : d.fs.length ≤ 1000) (hw : ∀ x ∈ d.fs, 0 ≤ x.1 ∧ x.1 < 1000)
    (hk : ∀ a c W', St W0 (arr I64 T_int a c d.files :: dk p d :: L') W' → k (.slice a d.files.length c) W') : callK PR F_disk_Disk_Files [.pointer (some ⟨p, 0, none⟩)] k W := by
  apply S.disk_Disk_Files.call
  unfold S.disk_Disk_Files.body
  obtain ⟨r, a, c, fs, hf, h⟩ := dk_at (h.perm ht.perm)
  unfold DS.files at hk
  cases hon : d.on with
  | false =>
    rw [hon] at hk h
    (repeat (first | (first | ((with_reducible first | refine w1 ?_ | refine w3 ?_ | refine w4 ?_ | refine w11 ?_ | refine stb_n ?_); intros) | ((with_reducible first | refine v5 ?_ | refine v6 ?_ | refine v7 ?_ | refine ve ?_ | refine vn ?_); refine ⟨_, rfl, ?_⟩) | ((with_reducible first | refine v8 ?_ ?_ | refine v9 ?_ ?_ | refine v10 ?_ ?_ | refine v12 ?_ ?_); exact rfl; intros) | ((with_reducible refine w2 ?_); try simp -implicitDefEqProofs only [SE, SU, SV]; intros) | ((with_reducible refine w5 ?_ ?_); simp; refine ⟨_, rfl, ?_⟩) | ((with_reducible refine w12 ?_ ?_ ?_ ?_); simp; simp; simp [oneC]; intros) | (refine okF_i (bldP_eq rfl) ?_; try simp only [BLS, SB, Nat.reduceAdd])) | simp -implicitDefEqProofs only [SE, SU, SV]))
    exact hk none 0 _ ((St.ent (by first | assumption | exact St.tick (by assumption) | exact St.tick (St.tick (by assumption))) (hon ▸ dk_ent (d := d) hf)).ent (arr_nil _ _))
  | true =>
    rw [hon, if_pos rfl] at hk
    rw [hon] at h
    (repeat (first | (first | ((with_reducible first | refine w1 ?_ | refine w3 ?_ | refine w4 ?_ | refine w11 ?_ | refine stb_n ?_); intros) | ((with_reducible first | refine v5 ?_ | refine v6 ?_ | refine v7 ?_ | refine ve ?_ | refine vn ?_); refine ⟨_, rfl, ?_⟩) | ((with_reducible first | refine v8 ?_ ?_ | refine v9 ?_ ?_ | refine v10 ?_ ?_ | refine v12 ?_ ?_); exact rfl; intros) | ((with_reducible refine w2 ?_); try simp -implicitDefEqProofs only [SE, SU, SV]; intros) | ((with_reducible refine w5 ?_ ?_); simp; refine ⟨_, rfl, ?_⟩) | ((with_reducible refine w12 ?_ ?_ ?_ ?_); simp; simp; simp [oneC]; intros) | (refine okF_i (bldP_eq rfl) ?_; try simp only [BLS, SB, Nat.reduceAdd])) | simp -implicitDefEqProofs only [SE, SU, SV]))
    refine keysI (ρ := layKeys_ren) layKeys h fun b W2 h => ?_
    have hlf : (mvs fs).length = d.fs.length := by rw [← hf]; simp
    have hkf : (mvs fs).map (·.1) = d.fs.map (·.1) := by rw [← hf]; simp
    have h := St.perm h (List.Perm.cons _ (List.Perm.swap _ _ _))
    refine sortedI (ρ := laySorted_ren) (g := layKeys_ren.f 10) laySorted (sortsI (ρ' := laySortI_ren) laySortI rfl) (enters_of Try.func63 (by kernel_rfl) rfl) (enters_of Try.func64 (by kernel_rfl) rfl) h h0 (by omega) (keysGive (ρ := layKeys_ren) layKeys h (by rw [hlf]; simp only [maxLen]; omega) fun x hx => ?_) fun a' c' ss W3 hS h => ?_
    · have hx2 : x.1 ∈ (mvs fs).map (·.1) := List.mem_map.2 ⟨x, hx, rfl⟩
      rw [hkf] at hx2
      obtain ⟨z, hz, hz2⟩ := List.mem_map.1 hx2
      have := hw z hz
      rw [show x.1 = z.1 from hz2.symm]
      exact wf64i (by omega) (by omega)
    · rw [hkf] at hS
      have e : (ss.mergeSort fun x y => decide (x ≤ y)) = (d.fs.map (·.1)).mergeSort fun x y => decide (x ≤ y) := mergeSort_of_perm_i hS
      rw [e] at h ⊢
      have h : St W0 (arr I64 T_int a' c' ((d.fs.map (·.1)).mergeSort fun x y => decide (x ≤ y)) :: _) W3 := h
      refine hk a' c' W3 ((St.wk (L' := arr I64 T_int a' c' _ :: cells p [.int .i64 d.room, .map (some r), .slice a d.ws.length c, .bool true, .int .i64 d.lives] T_disk_Disk :: mp KI r (mvs fs) :: arr WRT T_disk_write a c d.ws :: many fch (fs.map (fun x : Int × BSl => x.2)) :: L') h).ent (ent.cons _ ?_))
      exact hon ▸ dk_ent (d := d) hf
theorem diskSpoil {p : Nat} {d : DS} {f at' : Int} {b : UInt8} {k : Value → World → Prop} (h : St W0 L W) [ht : Tk (dk p) L d L'] (hd : d.ok)
    (hk : ∀ W', St W0 (dk p (d.spoil f at' b).1 :: L') W' → k (.bool (d.spoil f at' b).2) W') : callK PR F_disk_Disk_Spoil [.pointer (some ⟨p, 0, none⟩), .int .i64 f, .int .i64 at', b8 b] k W := by
  apply S.disk_Disk_Spoil.call
  unfold S.disk_Disk_Spoil.body
  refine diskFind h fun W1 h => ?_
  unfold DS.spoil at hk
  by_cases ha : d.find f = 0
  · have e1 : decide (d.find f = 0) = true := decide_eq_true ha
    by_cases h1 : at' < 0
    · rw [if_pos (.inr (.inl h1))] at hk
      (repeat (first | (first | ((with_reducible first | refine w1 ?_ | refine w3 ?_ | refine w4 ?_ | refine w11 ?_ | refine stb_n ?_); intros) | ((with_reducible first | refine v5 ?_ | refine v6 ?_ | refine v7 ?_ | refine ve ?_ | refine vn ?_); refine ⟨_, rfl, ?_⟩) | ((with_reducible first | refine v8 ?_ ?_ | refine v9 ?_ ?_ | refine v10 ?_ ?_ | refine v12 ?_ ?_); exact rfl; intros) | ((with_reducible refine w2 ?_); try simp -implicitDefEqProofs only [SE, SU, SV, e1, h1]; intros) | ((with_reducible refine w5 ?_ ?_); simp; refine ⟨_, rfl, ?_⟩) | ((with_reducible refine w12 ?_ ?_ ?_ ?_); simp; simp; simp [oneC]; intros) | (refine okF_i (bldP_eq rfl) ?_; try simp only [BLS, SB, Nat.reduceAdd])) | simp -implicitDefEqProofs only [SE, SU, SV, e1, h1]))
      exact hk _ h
    · obtain ⟨r, a, c, fs, hf, h⟩ := dk_at h
      have hcl := lens_cont d.fs f
      have hsm := (find_some ha).1
      rw [← hf, ← mget_mvs_some, mvs, mget_map] at hsm
      obtain ⟨y, hy⟩ : ∃ y, mget fs f = some y := by
        cases hm : mget fs f with
        | none => rw [hm] at hsm; cases hsm
        | some y => exact ⟨y, rfl⟩
      have ec : cont d.fs f = y.bs := by rw [← hf, cont_cts, hy]; rfl
      rw [ec] at hk hcl
      (repeat (first | (first | ((with_reducible first | refine w1 ?_ | refine w3 ?_ | refine w4 ?_ | refine w11 ?_ | refine stb_n ?_); intros) | ((with_reducible first | refine v5 ?_ | refine v6 ?_ | refine v7 ?_ | refine ve ?_ | refine vn ?_); refine ⟨_, rfl, ?_⟩) | ((with_reducible first | refine v8 ?_ ?_ | refine v9 ?_ ?_ | refine v10 ?_ ?_ | refine v12 ?_ ?_); exact rfl; intros) | ((with_reducible refine w2 ?_); try simp -implicitDefEqProofs only [SE, SU, SV, e1, h1]; intros) | ((with_reducible refine w5 ?_ ?_); simp; refine ⟨_, rfl, ?_⟩) | ((with_reducible refine w12 ?_ ?_ ?_ ?_); simp; simp; simp [oneC]; intros) | (refine okF_i (bldP_eq rfl) ?_; try simp only [BLS, SB, Nat.reduceAdd])) | simp -implicitDefEqProofs only [SE, SU, SV, e1, h1]))
      refine lkp (K := KI) (z := .slice none 0 0) f (by first | assumption | exact St.tick (by assumption) | exact St.tick (St.tick (by assumption))) ?_
      rw [mget_mvs, hy]
      simp only [Option.getD_some]
      by_cases h2 : (y.bs.length : Int) ≤ at'
      · rw [if_pos (.inr (.inr (.inl h2)))] at hk
        (repeat (first | (first | ((with_reducible first | refine w1 ?_ | refine w3 ?_ | refine w4 ?_ | refine w11 ?_ | refine stb_n ?_); intros) | ((with_reducible first | refine v5 ?_ | refine v6 ?_ | refine v7 ?_ | refine ve ?_ | refine vn ?_); refine ⟨_, rfl, ?_⟩) | ((with_reducible first | refine v8 ?_ ?_ | refine v9 ?_ ?_ | refine v10 ?_ ?_ | refine v12 ?_ ?_); exact rfl; intros) | ((with_reducible refine w2 ?_); try simp -implicitDefEqProofs only [SE, SU, SV, h2]; intros) | ((with_reducible refine w5 ?_ ?_); simp; refine ⟨_, rfl, ?_⟩) | ((with_reducible refine w12 ?_ ?_ ?_ ?_); simp; simp; simp [oneC]; intros) | (refine okF_i (bldP_eq rfl) ?_; try simp only [BLS, SB, Nat.reduceAdd])) | simp -implicitDefEqProofs only [SE, SU, SV, h2]))
        exact hk _ (St.ent (by first | assumption | exact St.tick (by assumption) | exact St.tick (St.tick (by assumption))) (dk_ent (d := d) hf))
      · by_cases h3 : b = 0
        · rw [if_pos (.inr (.inr (.inr h3)))] at hk
          subst h3
          (repeat (first | (first | ((with_reducible first | refine w1 ?_ | refine w3 ?_ | refine w4 ?_ | refine w11 ?_ | refine stb_n ?_); intros) | ((with_reducible first | refine v5 ?_ | refine v6 ?_ | refine v7 ?_ | refine ve ?_ | refine vn ?_); refine ⟨_, rfl, ?_⟩) | ((with_reducible first | refine v8 ?_ ?_ | refine v9 ?_ ?_ | refine v10 ?_ ?_ | refine v12 ?_ ?_); exact rfl; intros) | ((with_reducible refine w2 ?_); try simp -implicitDefEqProofs only [SE, SU, SV, h2]; intros) | ((with_reducible refine w5 ?_ ?_); simp; refine ⟨_, rfl, ?_⟩) | ((with_reducible refine w12 ?_ ?_ ?_ ?_); simp; simp; simp [oneC]; intros) | (refine okF_i (bldP_eq rfl) ?_; try simp only [BLS, SB, Nat.reduceAdd])) | simp -implicitDefEqProofs only [SE, SU, SV, h2]))
          exact hk _ (St.ent (by first | assumption | exact St.tick (by assumption) | exact St.tick (St.tick (by assumption))) (dk_ent (d := d) hf))
        · have e3 : decide ((b.toNat : Int) = 0) = false := decide_eq_false fun e => h3 (UInt8.toNat.inj (by show b.toNat = 0; omega))
          rw [if_neg (fun h => h.elim (· ha) fun h => h.elim h1 fun h => h.elim h2 h3)] at hk
          rw [show b8 b = .int .u8 (b.toNat : Int) from rfl]
          (repeat (first | (first | ((with_reducible first | refine w1 ?_ | refine w3 ?_ | refine w4 ?_ | refine w11 ?_ | refine stb_n ?_); intros) | ((with_reducible first | refine v5 ?_ | refine v6 ?_ | refine v7 ?_ | refine ve ?_ | refine vn ?_); refine ⟨_, rfl, ?_⟩) | ((with_reducible first | refine v8 ?_ ?_ | refine v9 ?_ ?_ | refine v10 ?_ ?_ | refine v12 ?_ ?_); exact rfl; intros) | ((with_reducible refine w2 ?_); try simp -implicitDefEqProofs only [SE, SU, SV, h2, e3]; intros) | ((with_reducible refine w5 ?_ ?_); simp; refine ⟨_, rfl, ?_⟩) | ((with_reducible refine w12 ?_ ?_ ?_ ?_); simp; simp; simp [oneC]; intros) | (refine okF_i (bldP_eq rfl) ?_; try simp only [BLS, SB, Nat.reduceAdd])) | simp -implicitDefEqProofs only [SE, SU, SV, h2, e3]))
          refine lkp (K := KI) (z := .slice none 0 0) f (by first | assumption | exact St.tick (by assumption) | exact St.tick (St.tick (by assumption))) ?_
          rw [mget_mvs, hy]
          simp only [Option.getD_some]
          obtain ⟨i, rfl⟩ : ∃ i : Nat, at' = (i : Int) := ⟨at'.toNat, by omega⟩
          have hib : i < y.bs.length := by omega
          rw [Int.toNat_natCast] at hk
          have h' := St.ent (by first | assumption | exact St.tick (by assumption) | exact St.tick (St.tick (by assumption))) (ent.cons _ (ent.cons _ (ent.cons _ (many_take (F := fch) f ⟨none, 0, []⟩ fch0))))
          rw [hy] at h'
          simp only [Option.getD_some] at h'
          have h := (show St W0 (_ :: _ :: _ :: arr B8 T_uint8 y.a y.c y.bs :: _) _ from h')
          clear h'
          refine ixA (i := i) (a := y.a) (l := y.bs) (A := B8) h rfl rfl hib fun g o ha => ?_
          rw [ha] at h
          refine ldA0 (i := i) (l := y.bs) (A := B8) h rfl hib (v := b8 y.bs[i]) rfl (by simp) ?_
          have ex := xor8 y.bs[i] b
          rw [show b8 y.bs[i] = .int .u8 (y.bs[i].toNat : Int) from rfl]
          (repeat (first | (first | ((with_reducible first | refine w1 ?_ | refine w3 ?_ | refine w4 ?_ | refine w11 ?_ | refine stb_n ?_); intros) | ((with_reducible first | refine v5 ?_ | refine v6 ?_ | refine v7 ?_ | refine ve ?_ | refine vn ?_); refine ⟨_, rfl, ?_⟩) | ((with_reducible first | refine v8 ?_ ?_ | refine v9 ?_ ?_ | refine v10 ?_ ?_ | refine v12 ?_ ?_); exact rfl; intros) | ((with_reducible refine w2 ?_); try simp -implicitDefEqProofs only [SE, SU, SV, ex]; intros) | ((with_reducible refine w5 ?_ ?_); simp; refine ⟨_, rfl, ?_⟩) | ((with_reducible refine w12 ?_ ?_ ?_ ?_); simp; simp; simp [oneC]; intros) | (refine okF_i (bldP_eq rfl) ?_; try simp only [BLS, SB, Nat.reduceAdd])) | simp -implicitDefEqProofs only [SE, SU, SV, ex]))
          refine ixA (i := i) (a := y.a) (l := y.bs) (A := B8) (ha ▸ h) rfl rfl hib fun g2 o2 ha2 => ?_
          rw [ha] at ha2
          cases ha2
          refine stA (i := i) (x := y.bs[i] ^^^ b) (l := y.bs) (A := B8) h rfl hib (congrArg (fun n => [Value.int .u8 n]) ex) fun W3 h => ?_
          have eg : y.bs.getD i 0 = y.bs[i] := by rw [List.getD_eq_getElem?_getD, List.getElem?_eq_getElem hib]; rfl
          rw [eg] at hk
          have hv : BSl.v ⟨some ⟨g, o, none⟩, y.c, y.bs.set i (y.bs[i] ^^^ b)⟩ = y.v := by simp [BSl.v, ha]
          have hm : mvs fs = mvs (mput fs f ⟨some ⟨g, o, none⟩, y.c, y.bs.set i (y.bs[i] ^^^ b)⟩) := by
            rw [mvs, mvs, ← mput_map BSl.v fs f _, hv]
            exact (mputSame (by rw [mget_map, hy]; rfl)).symm
          rw [hm] at h
          refine hk _ ((St.wk (L' := cells p [.int .i64 d.room, .map (some r), .slice a d.ws.length c, .bool d.on, .int .i64 d.lives] T_disk_Disk :: mp KI r _ :: arr WRT T_disk_write a c d.ws :: fch ⟨some ⟨g, o, none⟩, y.c, y.bs.set i (y.bs[i] ^^^ b)⟩ :: many fch ((mdel fs f).map (fun x : Int × BSl => x.2)) :: L') h).ent ((ent.cons _ (ent.cons _ (ent.cons _ (many_put f _)))).trans (dk_ent (d := ⟨d.room, mput d.fs f (y.bs.set i (y.bs[i] ^^^ b)), d.ws, d.on, d.lives⟩) ?_)))
          rw [← hf]
          exact (mput_map BSl.bs fs f _).symm
  · have e1 : decide (d.find f = 0) = false := decide_eq_false ha
    rw [if_pos (.inl ha)] at hk
    (repeat (first | (first | ((with_reducible first | refine w1 ?_ | refine w3 ?_ | refine w4 ?_ | refine w11 ?_ | refine stb_n ?_); intros) | ((with_reducible first | refine v5 ?_ | refine v6 ?_ | refine v7 ?_ | refine ve ?_ | refine vn ?_); refine ⟨_, rfl, ?_⟩) | ((with_reducible first | refine v8 ?_ ?_ | refine v9 ?_ ?_ | refine v10 ?_ ?_ | refine v12 ?_ ?_); exact rfl; intros) | ((with_reducible refine w2 ?_); try simp -implicitDefEqProofs only [SE, SU, SV, e1]; intros) | ((with_reducible refine w5 ?_ ?_); simp; refine ⟨_, rfl, ?_⟩) | ((with_reducible refine w12 ?_ ?_ ?_ ?_); simp; simp; simp [oneC]; intros) | (refine okF_i (bldP_eq rfl) ?_; try simp only [BLS, SB, Nat.reduceAdd])) | simp -implicitDefEqProofs only [SE, SU, SV, e1]))
    exact hk _ h
end
end Go.Proofs.Ythladblmjoaeoaa
namespace Go.Proofs.Ythladblmjoaeoaa
set_option linter.unusedVariables false
set_option linter.unusedSimpArgs false
open Go Go.Eng

def fcc (x : FC) : Asn := sep [arr BSY T_s_uint8 x.ra x.rc x.rows, many fch x.rows]
theorem FC.v_eq (x : FC) : x.v = .agg #[.int .i64 x.num, .int .i64 (x.kind : Int), .int .i64 (x.index : Int), .int .u64 (x.turn : Int), .slice x.ra x.rows.length x.rc, .bool x.torn] := rfl
section
variable {W0 W : World} {L L' L1 L2 : List Asn} {p : Nat} {d : DS} {k : Value → World → Prop}
theorem files_perm (ho : d.on = true) : d.files.Perm (d.fs.map (·.1)) := by
  unfold DS.files; rw [if_pos ho]; exact List.mergeSort_perm _ _
theorem walReadAll (h : St W0 L W) (h0 : W0.drawn = 0) [ht : Tk (dk p) L d L'] (hon : d.on = true) (hd : d.ok) (hw : d.ws.length < 500000) (hks : ∀ x ∈ d.fs, 0 ≤ x.1 ∧ x.1 < 1000) (hnd : (d.fs.map (·.1)).Nodup)
    (hn : (readGo d d.files []).2 = none → ∀ W', St W0 (dk p (readGo d d.files []).1 :: L') W' → k (.tuple #[.slice none 0 0, .int .i64 3]) W')
    (hs : ∀ all, (readGo d d.files []).2 = some all → ∀ a c (xs : List FC) W', xs.map FC.fx = all → St W0 (arr FCL T_wal_file a c xs :: many fcc xs :: dk p (readGo d d.files []).1 :: L') W' → k (.tuple #[.slice a xs.length c, .int .i64 0]) W') :
    callK PR F_wal_readAll [.pointer (some ⟨p, 0, none⟩)] k W := by
  apply S.wal_readAll.call
  unfold S.wal_readAll.body
  have hfp := files_perm hon
  have hfl : d.fs.length ≤ 1000 := by
    have := nodup_range (n := 1000) hnd fun x hx => by
      obtain ⟨y, hy, rfl⟩ := List.mem_map.1 hx
      exact hks y hy
    simpa using this
  have hnl : d.files.length ≤ 1000 := by rw [hfp.length_eq, List.length_map]; exact hfl
  refine joinK_i ?_
  refine diskFiles (d := d) h h0 hfl hks fun fa fc W1 h => ?_
  have hsub : ∀ f ∈ d.files, 0 ≤ f ∧ f < 1000 ∧ f ∈ d.fs.map (·.1) := fun f hf => by
    have hf := hfp.subset hf
    obtain ⟨c, hc⟩ := mem_keys hf
    exact ⟨(hks _ hc).1, (hks _ hc).2, hf⟩
  have hndf : d.files.Nodup := hfp.nodup_iff.2 hnd
  generalize d.files = ns at *
  (repeat (first | (first | ((with_reducible first | refine w1 ?_ | refine w3 ?_ | refine w4 ?_ | refine w11 ?_ | refine stb_n ?_); intros) | ((with_reducible first | refine v5 ?_ | refine v6 ?_ | refine v7 ?_ | refine ve ?_ | refine vn ?_); refine ⟨_, rfl, ?_⟩) | ((with_reducible first | refine v8 ?_ ?_ | refine v9 ?_ ?_ | refine v10 ?_ ?_ | refine v12 ?_ ?_); exact rfl; intros) | ((with_reducible refine w2 ?_); try simp -implicitDefEqProofs only [SE, SU, SV]; intros) | ((with_reducible refine w5 ?_ ?_); simp; refine ⟨_, rfl, ?_⟩) | ((with_reducible refine w12 ?_ ?_ ?_ ?_); simp; simp; simp [oneC]; intros) | (refine okF_i (bldP_eq rfl) ?_; try simp only [BLS, SB, Nat.reduceAdd])) | simp -implicitDefEqProofs only [SE, SU, SV]))
  refine loop_c (σ := DS × Option Addr × Nat × List FC) ns.length (fun i x => [.pointer (some ⟨p, 0, none⟩), .slice x.2.1 x.2.2.2.length x.2.2.1, .slice fa ns.length fc, .int .i64 (ns.length : Int), .int .i64 (i : Int)])
    (fun i x W1 => readGo d ns [] = readGo x.1 (ns.drop i) (x.2.2.2.map FC.fx) ∧ x.1.on = true ∧ x.1.ok ∧ x.1.ws.length < 500000 ∧ (List.map (fun y : Int × Bs => y.1) x.1.fs).Nodup ∧ (∀ f ∈ ns.drop i, 0 ≤ f ∧ f < 1000 ∧ f ∈ List.map (fun y : Int × Bs => y.1) x.1.fs) ∧ x.2.2.2.length ≤ i ∧
      St W0 (arr I64 T_int fa fc ns :: arr FCL T_wal_file x.2.1 x.2.2.1 x.2.2.2 :: many fcc x.2.2.2 :: dk p x.1 :: L') W1) (d, none, 0, []) rfl
    ⟨rfl, hon, hd, hw, hnd, hsub, Nat.le_refl _, St.ent (by first | assumption | exact St.tick (by assumption) | exact St.tick (St.tick (by assumption))) (ent.cons _ ((many_nil (F := fcc)).trans (arr_nil FCL T_wal_file)))⟩ ?_
  clear h hsub hnd hon hd hw
  rintro K i ⟨d1, a1, c1, xs⟩ W2 hi ⟨hgo, hon, hd, hw, hnd, hsub, hxl, h⟩ hK
  simp only at hgo hon hd hw hnd hsub hxl h
  simp -implicitDefEqProofs only [SE, SU, SV]
  unfold S.wal_readAll.l1
  by_cases hlt : (i : Int) < (ns.length : Int)
  · have hib : i < ns.length := by omega
    have ew : IntKind.i64.wrap ((i : Int) + 1) = ((i + 1 : Nat) : Int) := by rw [i64w]; omega
    have edr := List.drop_eq_getElem_cons hib
    have hndr : ns[i] ∉ ns.drop (i + 1) := by
      have : (ns.drop i).Nodup := hndf.sublist (List.drop_sublist _ _)
      rw [edr] at this
      exact (List.nodup_cons.1 this).1
    rw [edr] at hgo hsub
    obtain ⟨f0, f1, f2⟩ := hsub ns[i] List.mem_cons_self
    have hsub' : ∀ f ∈ ns.drop (i + 1), 0 ≤ f ∧ f < 1000 ∧ f ∈ d1.fs.map (·.1) := fun f hf => hsub f (List.mem_cons_of_mem _ hf)
    obtain ⟨d1a, d1b, d1c⟩ := hd
    have er : d1.read ns[i] = (cont d1.fs ns[i], 0) := by
      unfold DS.read; rw [find_key hon f2 ⟨f0, f1⟩ hnd]; rfl
    have hcl := lens_cont d1.fs ns[i]
    rw [readGo] at hgo
    (repeat (first | (first | ((with_reducible first | refine w1 ?_ | refine w3 ?_ | refine w4 ?_ | refine w11 ?_ | refine stb_n ?_); intros) | ((with_reducible first | refine v5 ?_ | refine v6 ?_ | refine v7 ?_ | refine ve ?_ | refine vn ?_); refine ⟨_, rfl, ?_⟩) | ((with_reducible first | refine v8 ?_ ?_ | refine v9 ?_ ?_ | refine v10 ?_ ?_ | refine v12 ?_ ?_); exact rfl; intros) | ((with_reducible refine w2 ?_); try simp -implicitDefEqProofs only [SE, SU, SV, hlt]; intros) | ((with_reducible refine w5 ?_ ?_); simp; refine ⟨_, rfl, ?_⟩) | ((with_reducible refine w12 ?_ ?_ ?_ ?_); simp; simp; simp [oneC]; intros) | (refine okF_i (bldP_eq rfl) ?_; try simp only [BLS, SB, Nat.reduceAdd])) | simp -implicitDefEqProofs only [SE, SU, SV, hlt]))
    refine joinK_i ?_
    refine ixA (i := i) (a := fa) (l := ns) (A := I64) h rfl rfl hib fun g o ha => ?_
    cases ha
    refine ldA0 (i := i) (l := ns) (A := I64) h rfl hib (v := .int .i64 ns[i]) rfl (by simp) ?_
    refine diskRead (d := d1) (f := ns[i]) h (by omega) fun a2 c2 W3 h => ?_
    rw [er] at h ⊢
    simp only at h ⊢
    have hcap := h.arrFacts
    (repeat (first | (first | ((with_reducible first | refine w1 ?_ | refine w3 ?_ | refine w4 ?_ | refine w11 ?_ | refine stb_n ?_); intros) | ((with_reducible first | refine v5 ?_ | refine v6 ?_ | refine v7 ?_ | refine ve ?_ | refine vn ?_); refine ⟨_, rfl, ?_⟩) | ((with_reducible first | refine v8 ?_ ?_ | refine v9 ?_ ?_ | refine v10 ?_ ?_ | refine v12 ?_ ?_); exact rfl; intros) | ((with_reducible refine w2 ?_); try simp -implicitDefEqProofs only [SE, SU, SV]; intros) | ((with_reducible refine w5 ?_ ?_); simp; refine ⟨_, rfl, ?_⟩) | ((with_reducible refine w12 ?_ ?_ ?_ ?_); simp; simp; simp [oneC]; intros) | (refine okF_i (bldP_eq rfl) ?_; try simp only [BLS, SB, Nat.reduceAdd])) | simp -implicitDefEqProofs only [SE, SU, SV]))
    refine walParse (a := a2) (b := cont d1.fs ns[i]) (num := ns[i]) (by first | assumption | exact St.tick (by assumption) | exact St.tick (St.tick (by assumption))) hcap.1 (by omega) (fun hp x W4 h => ?_) (fun hp x W4 h => ?_) (fun f hp x W4 hx h => ?_)
    · rw [hp] at hgo
      simp only at hgo
      rw [hgo] at hn
      rw [x.v_eq]
      (repeat (first | (first | ((with_reducible first | refine w1 ?_ | refine w3 ?_ | refine w4 ?_ | refine w11 ?_ | refine stb_n ?_); intros) | ((with_reducible first | refine v5 ?_ | refine v6 ?_ | refine v7 ?_ | refine ve ?_ | refine vn ?_); refine ⟨_, rfl, ?_⟩) | ((with_reducible first | refine v8 ?_ ?_ | refine v9 ?_ ?_ | refine v10 ?_ ?_ | refine v12 ?_ ?_); exact rfl; intros) | ((with_reducible refine w2 ?_); try simp -implicitDefEqProofs only [SE, SU, SV]; intros) | ((with_reducible refine w5 ?_ ?_); simp; refine ⟨_, rfl, ?_⟩) | ((with_reducible refine w12 ?_ ?_ ?_ ?_); simp; simp; simp [oneC]; intros) | (refine okF_i (bldP_eq rfl) ?_; try simp only [BLS, SB, Nat.reduceAdd])) | simp -implicitDefEqProofs only [SE, SU, SV]))
      rename_i h
      exact hn rfl _ (St.wk h)
    · rw [hp] at hgo
      simp only at hgo
      rw [x.v_eq]
      (repeat (first | (first | ((with_reducible first | refine w1 ?_ | refine w3 ?_ | refine w4 ?_ | refine w11 ?_ | refine stb_n ?_); intros) | ((with_reducible first | refine v5 ?_ | refine v6 ?_ | refine v7 ?_ | refine ve ?_ | refine vn ?_); refine ⟨_, rfl, ?_⟩) | ((with_reducible first | refine v8 ?_ ?_ | refine v9 ?_ ?_ | refine v10 ?_ ?_ | refine v12 ?_ ?_); exact rfl; intros) | ((with_reducible refine w2 ?_); try simp -implicitDefEqProofs only [SE, SU, SV]; intros) | ((with_reducible refine w5 ?_ ?_); simp; refine ⟨_, rfl, ?_⟩) | ((with_reducible refine w12 ?_ ?_ ?_ ?_); simp; simp; simp [oneC]; intros) | (refine okF_i (bldP_eq rfl) ?_; try simp only [BLS, SB, Nat.reduceAdd])) | simp -implicitDefEqProofs only [SE, SU, SV]))
      refine diskDrop (d := d1) (f := ns[i]) (by first | assumption | exact St.tick (by assumption) | exact St.tick (St.tick (by assumption))) (by omega) fun W5 h => ?_
      rw [drop_eq0 hon hnd f2 ⟨f0, f1⟩] at h hgo
      unfold S.wal_readAll.j2
      (repeat (first | (first | ((with_reducible first | refine w1 ?_ | refine w3 ?_ | refine w4 ?_ | refine w11 ?_ | refine stb_n ?_); intros) | ((with_reducible first | refine v5 ?_ | refine v6 ?_ | refine v7 ?_ | refine ve ?_ | refine vn ?_); refine ⟨_, rfl, ?_⟩) | ((with_reducible first | refine v8 ?_ ?_ | refine v9 ?_ ?_ | refine v10 ?_ ?_ | refine v12 ?_ ?_); exact rfl; intros) | ((with_reducible refine w2 ?_); try simp -implicitDefEqProofs only [SE, SU, SV, ew]; intros) | ((with_reducible refine w5 ?_ ?_); simp; refine ⟨_, rfl, ?_⟩) | ((with_reducible refine w12 ?_ ?_ ?_ ?_); simp; simp; simp [oneC]; intros) | (refine okF_i (bldP_eq rfl) ?_; try simp only [BLS, SB, Nat.reduceAdd])) | simp -implicitDefEqProofs only [SE, SU, SV, ew]))
      refine hK ({ d1 with fs := mdel d1.fs ns[i], ws := d1.ws.filter fun w => !decide (w.1 = ns[i]) }, a1, c1, xs) _ hib ⟨hgo, hon, ⟨d1a, d1b, ?_⟩, Nat.lt_of_le_of_lt (List.length_filter_le _ _) hw, nd_del hnd f2, fun f hf => ?_, Nat.le_succ_of_le hxl, St.wk h⟩
      · show lens (mdel d1.fs ns[i]) ≤ _
        obtain ⟨cc, hcc⟩ := mem_keys f2
        have := lens_perm (mdel_perm (mget_mem hnd hcc))
        simp only [lens, List.map_cons, List.sum_cons] at this d1c ⊢
        omega
      · obtain ⟨g0, g1, g2⟩ := hsub' f hf
        exact ⟨g0, g1, (cont_del hnd f2 g2 (fun e => hndr (e ▸ hf))).1⟩
    · rw [hp] at hgo
      simp only at hgo
      rw [x.v_eq]
      (repeat (first | (first | ((with_reducible first | refine w1 ?_ | refine w3 ?_ | refine w4 ?_ | refine w11 ?_ | refine stb_n ?_); intros) | ((with_reducible first | refine v5 ?_ | refine v6 ?_ | refine v7 ?_ | refine ve ?_ | refine vn ?_); refine ⟨_, rfl, ?_⟩) | ((with_reducible first | refine v8 ?_ ?_ | refine v9 ?_ ?_ | refine v10 ?_ ?_ | refine v12 ?_ ?_); exact rfl; intros) | ((with_reducible refine w2 ?_); try simp -implicitDefEqProofs only [SE, SU, SV]; intros) | ((with_reducible refine w5 ?_ ?_); simp; refine ⟨_, rfl, ?_⟩) | ((with_reducible refine w12 ?_ ?_ ?_ ?_); simp; simp; simp [oneC]; intros) | (refine okF_i (bldP_eq rfl) ?_; try simp only [BLS, SB, Nat.reduceAdd])) | simp -implicitDefEqProofs only [SE, SU, SV]))
      refine pushA (A := FCL) (l := xs) (a := a1) x (by first | assumption | exact St.tick (by assumption) | exact St.tick (St.tick (by assumption))) rfl rfl (by omega) (by simp only [maxLen]; omega) (by decide) fun a3 c3 W5 h => ?_
      unfold S.wal_readAll.j2
      (repeat (first | (first | ((with_reducible first | refine w1 ?_ | refine w3 ?_ | refine w4 ?_ | refine w11 ?_ | refine stb_n ?_); intros) | ((with_reducible first | refine v5 ?_ | refine v6 ?_ | refine v7 ?_ | refine ve ?_ | refine vn ?_); refine ⟨_, rfl, ?_⟩) | ((with_reducible first | refine v8 ?_ ?_ | refine v9 ?_ ?_ | refine v10 ?_ ?_ | refine v12 ?_ ?_); exact rfl; intros) | ((with_reducible refine w2 ?_); try simp -implicitDefEqProofs only [SE, SU, SV, ew]; intros) | ((with_reducible refine w5 ?_ ?_); simp; refine ⟨_, rfl, ?_⟩) | ((with_reducible refine w12 ?_ ?_ ?_ ?_); simp; simp; simp [oneC]; intros) | (refine okF_i (bldP_eq rfl) ?_; try simp only [BLS, SB, Nat.reduceAdd])) | simp -implicitDefEqProofs only [SE, SU, SV, ew]))
      have h := St.wk (L' := arr I64 T_int (some ⟨g, o, none⟩) fc ns :: arr FCL T_wal_file a3 c3 (xs ++ [x]) :: arr BSY T_s_uint8 x.ra x.rc x.rows :: many fch x.rows :: many fcc xs :: dk p d1 :: L') h
      refine hK (d1, a3, c3, xs ++ [x]) _ hib ⟨?_, hon, ⟨d1a, d1b, d1c⟩, hw, hnd, hsub', by simp; omega, h.ent (ent.cons _ (ent.cons _ (((ent.pack [_, _] _).trans (many_uncons (F := fcc) x xs)).trans (many_perm (F := fcc) (List.perm_append_singleton _ _).symm))))⟩
      show _ = readGo d1 _ ((xs ++ [x]).map FC.fx)
      rw [List.map_append, List.map_cons, List.map_nil, hx]
      exact hgo
  · rw [List.drop_eq_nil_of_le (by omega), readGo] at hgo
    rw [hgo] at hs
    unfold S.wal_readAll.j1
    (repeat (first | (first | ((with_reducible first | refine w1 ?_ | refine w3 ?_ | refine w4 ?_ | refine w11 ?_ | refine stb_n ?_); intros) | ((with_reducible first | refine v5 ?_ | refine v6 ?_ | refine v7 ?_ | refine ve ?_ | refine vn ?_); refine ⟨_, rfl, ?_⟩) | ((with_reducible first | refine v8 ?_ ?_ | refine v9 ?_ ?_ | refine v10 ?_ ?_ | refine v12 ?_ ?_); exact rfl; intros) | ((with_reducible refine w2 ?_); try simp -implicitDefEqProofs only [SE, SU, SV, hlt]; intros) | ((with_reducible refine w5 ?_ ?_); simp; refine ⟨_, rfl, ?_⟩) | ((with_reducible refine w12 ?_ ?_ ?_ ?_); simp; simp; simp [oneC]; intros) | (refine okF_i (bldP_eq rfl) ?_; try simp only [BLS, SB, Nat.reduceAdd])) | simp -implicitDefEqProofs only [SE, SU, SV, hlt]))
    exact hs _ rfl a1 c1 xs _ rfl h.drop
end
end Go.Proofs.Ythladblmjoaeoaa
namespace Go.Proofs.Ythladblmjoaeoaa
set_option linter.unusedVariables false
set_option linter.unusedSimpArgs false
open Go Go.Proofs Go.Shelf
def laySortFile_ren : Go.Shelf.Ren := ⟨fun | 6 => 67 | 15 => 76 | 14 => 79 | 28 => 92 | 29 => 93 | 20 => 95 | 21 => 96 | 22 => 97 | 23 => 98 | 24 => 99 | 25 => 100 | 26 => 101 | 27 => 102 | 46 => 111 | 47 => 106 | 48 => 107 | 49 => 112 | 50 => 113 | 57 => 115 | n => n, fun | 22 => 84 | 24 => 98 | 25 => 104 | 3 => 3 | 39 => 112 | 0 => 0 | 53 => 128 | 55 => 87 | 4 => 4 | 46 => 120 | 45 => 119 | 50 => 125 | 5 => 5 | 9 => 9 | 66 => 139 | 70 => 143 | 76 => 148 | 77 => 149 | n => n, fun | n => n⟩
theorem laySortFile : Go.Proofs.SlLaysF0.n6 Try.prog laySortFile_ren := {
  mixed := by kernel_rfl
  f6 := ⟨Try.f67.name, by decide, Try.func67.trans (congrArg some (by kernel_rfl))⟩
  f14 := ⟨Try.f79.name, by decide, Try.func79.trans (congrArg some (by kernel_rfl))⟩
  f15 := Try.func76.trans (congrArg some (by kernel_rfl))
  f20 := ⟨Try.f95.name, by decide, Try.func95.trans (congrArg some (by kernel_rfl))⟩
  f21 := ⟨Try.f96.name, by decide, Try.func96.trans (congrArg some (by kernel_rfl))⟩
  f22 := ⟨Try.f97.name, by decide, Try.func97.trans (congrArg some (by kernel_rfl))⟩
  f23 := ⟨Try.f98.name, by decide, Try.func98.trans (congrArg some (by kernel_rfl))⟩
  f24 := ⟨Try.f99.name, by decide, Try.func99.trans (congrArg some (by kernel_rfl))⟩
  f25 := ⟨Try.f100.name, by decide, Try.func100.trans (congrArg some (by kernel_rfl))⟩
  f26 := ⟨Try.f101.name, by decide, Try.func101.trans (congrArg some (by kernel_rfl))⟩
  f27 := ⟨Try.f102.name, by decide, Try.func102.trans (congrArg some (by kernel_rfl))⟩
  f28 := Try.func92.trans (congrArg some (by kernel_rfl))
  f29 := Try.func93.trans (congrArg some (by kernel_rfl))
  f46 := ⟨Try.f111.name, by decide, Try.func111.trans (congrArg some (by kernel_rfl))⟩
  f47 := Try.func106.trans (congrArg some (by kernel_rfl))
  f48 := Try.func107.trans (congrArg some (by kernel_rfl))
  f49 := ⟨Try.f112.name, by decide, Try.func112.trans (congrArg some (by kernel_rfl))⟩
  f50 := ⟨Try.f113.name, by decide, Try.func113.trans (congrArg some (by kernel_rfl))⟩
  f57 := ⟨Try.f115.name, by decide, Try.func115.trans (congrArg some (by kernel_rfl))⟩
  t0 := Try.underlying0
  a0 := Try.isAgg0
  z0 := Try.sizeOf0
  v0 := Try.zeroValue0
  t3 := Try.underlying3
  a3 := Try.isAgg3
  z3 := Try.sizeOf3
  v3 := Try.zeroValue3
  t4 := Try.underlying4
  a4 := Try.isAgg4
  z4 := Try.sizeOf4
  v4 := Try.zeroValue4
  t5 := Try.underlying5
  a5 := Try.isAgg5
  z5 := Try.sizeOf5
  v5 := Try.zeroValue5
  t9 := Try.underlying9
  a9 := Try.isAgg9
  z9 := Try.sizeOf9
  v9 := Try.zeroValue9
  t22 := Try.underlying84
  a22 := Try.isAgg84
  z22 := Try.sizeOf84
  v22 := Try.zeroValue84
  t25 := Try.underlying104
  a25 := Try.isAgg104
  z25 := Try.sizeOf104
  v25 := Try.zeroValue104
  t39 := Try.underlying112
  a39 := Try.isAgg112
  z39 := Try.sizeOf112
  v39 := Try.zeroValue112
  t45 := Try.underlying119
  a45 := Try.isAgg119
  z45 := Try.sizeOf119
  v45 := Try.zeroValue119
  t46 := Try.underlying120
  a46 := Try.isAgg120
  z46 := Try.sizeOf120
  v46 := Try.zeroValue120
  t50 := Try.underlying125
  a50 := Try.isAgg125
  z50 := Try.sizeOf125
  v50 := Try.zeroValue125
  t53 := Try.underlying128
  a53 := Try.isAgg128
  z53 := Try.sizeOf128
  v53 := Try.zeroValue128
  t55 := Try.underlying87
  a55 := Try.isAgg87
  z55 := Try.sizeOf87
  v55 := Try.zeroValue87
  t66 := Try.underlying139
  a66 := Try.isAgg139
  z66 := Try.sizeOf139
  v66 := Try.zeroValue139
  t70 := Try.underlying143
  a70 := Try.isAgg143
  z70 := Try.sizeOf143
  v70 := Try.zeroValue143
  t76 := Try.underlying148
  a76 := Try.isAgg148
  z76 := Try.sizeOf148
  v76 := Try.zeroValue148
  t77 := Try.underlying149
  a77 := Try.isAgg149
  z77 := Try.sizeOf149
  v77 := Try.zeroValue149 }
end Go.Proofs.Ythladblmjoaeoaa
namespace Go.Eng
set_option linter.unusedVariables false
set_option linter.unusedSimpArgs false
open Go Go.RowKit Go.Sort Go.Proofs
section
variable {P : Program} {ρ : Go.Shelf.Ren} {W0 W W' : World} {L L' : List Asn} {e : TypeId} {α : Type} {A : Ly α}
def atF (l : List α) (i : Fin l.length) : α := l[i]
def Ly.ix (A : Ly α) (l : List α) : Ly (Fin l.length) := ⟨A.sz, A.pos, fun i => A.row (atF l i), fun _ => A.len _, fun _ => A.one _⟩
theorem ix_rows (l : List α) (m : List (Fin l.length)) : (A.ix l).rows m = A.rows (m.map (atF l)) := by
  induction m with
  | nil => rfl
  | cons i m ih => rw [Ly.rows_cons, ih, List.map_cons, Ly.rows_cons]; rfl
theorem arr_ix {l : List α} {m : List (Fin l.length)} {a : Option Addr} {c : Nat} : arr (A.ix l) e a c m = arr A e a c (m.map (atF l)) := by
  unfold arr; rw [ix_rows, List.length_map]; rfl
theorem fin_map (l : List α) : ((List.finRange l.length).map (atF l)) = l := by
  apply List.ext_getElem
  · simp
  · intro i h1 h2; simp [atF]
theorem swo_total {α : Type} {lt : α → α → Bool} (hO : SWO lt) (a b : α) : ((!lt b a) || (!lt a b)) = true := by
  cases h1 : lt b a with
  | false => rfl
  | true =>
    cases h2 : lt a b with
    | false => rfl
    | true => have := hO.trans _ _ _ h1 h2; rw [hO.irrefl] at this; cases this
theorem sortIx (L6 : SlLaysF0.n6 P ρ) (aE : ∀ w, (isAgg (ρ.t 24)).run P w = .ok true w) (zE : ∀ w, (Go.sizeOf (ρ.t 24)).run P w = .ok A.sz w) (cf : α → α → Int) {l : List α} (hO : SWO (ltOf fun i j : Fin l.length => cf (atF l i) (atF l j)))
    (hT : ∀ i j : Fin l.length, (ltOf fun i j : Fin l.length => cf (atF l i) (atF l j)) i j = false → (ltOf fun i j : Fin l.length => cf (atF l i) (atF l j)) j i = false → i = j)
    (g : Nat) (cb : List Value) {a : Option Addr} {c : Nat} {k : Value → World → Prop} (eg : ∀ args w, (callFunc g args).run P w = .ok (.enter g args) w)
    (h : St W0 L W) [ho : Own a L A e c l L'] (hc : ∀ x ∈ l, ∀ y ∈ l, ∀ W', St W0 L' W' → callK P g (.agg (A.row x).toArray :: .agg (A.row y).toArray :: cb) (fun v W'' => v = .int .i64 (cf x y) ∧ St W' [] W'') W')
    (hl : l.length < 4611686018427387904) (hk : ∀ m W', m.Perm l → m.Pairwise (fun x y => ¬ cf y x < 0) → St W0 (arr A e a c m :: L') W' → k (.tuple #[]) W') : callK P (ρ.f 6) [.slice a l.length c, .func (.func g) #[] cb.toArray] k W := by
  have h := h.took (a := a)
  by_cases hl0 : l = []
  · subst hl0
    refine (AnyF.slices_SortFunc_none L6 a c (.func (.func g) #[] cb.toArray) W).mono ?_
    rintro ed w' ⟨rfl, rfl⟩
    exact hk [] _ (List.Perm.refl _) List.Pairwise.nil h
  · have hpos : 0 < l.length := List.length_pos_iff.2 hl0
    haveI : Inhabited (Fin l.length) := ⟨⟨0, hpos⟩⟩
    have h2 : St W0 (arr (A.ix l) e a c (List.finRange l.length) :: L') W := by rw [arr_ix, fin_map]; exact h
    have hlen : (List.finRange l.length).length = l.length := List.length_finRange
    have key := sortFX (A := A.ix l) L6 aE zE (fun i j : Fin l.length => cf (atF l i) (atF l j)) hO hT g cb eg h2 (a := a) (c := c) (l := List.finRange l.length) (k := k) (fun i j W' h => hc (atF l i) (List.getElem_mem _) (atF l j) (List.getElem_mem _) W' h) (by rw [hlen]; exact hl) (fun W' h => by
      rw [arr_ix] at h
      refine hk _ W' ?_ ?_ h
      · have := ((List.mergeSort_perm (List.finRange l.length) fun x y => !(ltOf fun i j : Fin l.length => cf (atF l i) (atF l j)) y x).map (atF l))
        rwa [fin_map] at this
      · refine List.pairwise_map.2 ((List.pairwise_mergeSort (fun a b c h1 h2 => ?_) (fun a b => swo_total hO a b) _).imp fun {a b} h => ?_)
        · simp only [Bool.not_eq_true'] at *
          exact hO.ntrans _ _ _ h2 h1
        · simp only [ltOf, Bool.not_eq_true', decide_eq_false_iff_not] at h
          exact h)
    rw [hlen] at key
    exact key
theorem rows_one {enc : α → Value} (hA : ∀ x, A.row x = [enc x]) (l : List α) : A.rows l = l.map enc := by
  induction l with
  | nil => rfl
  | cons a l ih => rw [Ly.rows_cons, ih, hA]; rfl
end
end Go.Eng
namespace Go.Proofs.Ythladblmjoaeoaa
set_option linter.unusedVariables false
set_option linter.unusedSimpArgs false
open Go.Eng
/-! ### cmp.Compare[int] (69) -/
def S.cmp_Compare_int.body (R : Value → World → Prop) (v0 v1 : Value) (W : World) : Prop :=
  callK PR F_cmp_isNaN_int [v0] (fun v8 W =>
  callK PR F_cmp_isNaN_int [v1] (fun v10 W =>
  ifK v8 (
  ifK v10 (
  R (.int .i64 0) W) (
  R (.int .i64 (-1)) W)) (
  ifK v10 (
  R (.int .i64 1) W) (
  okF (binP .lss v0 v1) fun v16 =>
  ifK v16 (
  R (.int .i64 (-1)) W) (
  okF (binP .gtr v0 v1) fun v19 =>
  ifK v19 (
  R (.int .i64 1) W) (
  R (.int .i64 0) W))))) W) W
def S.cmp_Compare_int.hint : Hint := (.two .nil (.two .nil (.two .nil (.two (.two .nil (.two (.two (.two .nil (.two (.two .nil .nil) .nil)) (.two .nil .nil)) .nil)) (.two (.two .nil (.two (.two .nil .nil) .nil)) (.two (.two .nil (.two (.two .nil .nil) .nil)) (.two (.two .nil (.two (.two .nil .nil) .nil)) (.two .nil .nil))))))))
theorem S.cmp_Compare_int.ok (R : Value → World → Prop) (v0 v1 : Value) (W : World) : bodyK PR CB Try.f69 S.cmp_Compare_int.hint [v0, v1] R W = S.cmp_Compare_int.body R v0 v1 W := by kernel_rfl
theorem S.cmp_Compare_int.fn : PR.funcs[F_cmp_Compare_int]? = some Try.f69 := by kernel_rfl
theorem S.cmp_Compare_int.call {R : Value → World → Prop} {v0 v1 : Value} {W : World} (h : S.cmp_Compare_int.body R v0 v1 W) : callK PR F_cmp_Compare_int [v0, v1] R W :=
  callK_of_body (g := F_cmp_Compare_int) (fn := Try.f69) (args := [v0, v1]) (R := R) (w := W) mixed CBok S.cmp_Compare_int.fn S.cmp_Compare_int.hint (by rw [S.cmp_Compare_int.ok]; exact h)
/-! ### cmp.isNaN[int] (80) -/
def S.cmp_isNaN_int.body (R : Value → World → Prop) (v0 : Value) (W : World) : Prop :=
  okF (binP .neq v0 v0) fun v5 =>
  R v5 W
def S.cmp_isNaN_int.hint : Hint := (.two .nil (.two .nil .nil))
theorem S.cmp_isNaN_int.ok (R : Value → World → Prop) (v0 : Value) (W : World) : bodyK PR CB Try.f80 S.cmp_isNaN_int.hint [v0] R W = S.cmp_isNaN_int.body R v0 W := by kernel_rfl
theorem S.cmp_isNaN_int.fn : PR.funcs[F_cmp_isNaN_int]? = some Try.f80 := by kernel_rfl
theorem S.cmp_isNaN_int.call {R : Value → World → Prop} {v0 : Value} {W : World} (h : S.cmp_isNaN_int.body R v0 W) : callK PR F_cmp_isNaN_int [v0] R W :=
  callK_of_body (g := F_cmp_isNaN_int) (fn := Try.f80) (args := [v0]) (R := R) (w := W) mixed CBok S.cmp_isNaN_int.fn S.cmp_isNaN_int.hint (by rw [S.cmp_isNaN_int.ok]; exact h)
end Go.Proofs.Ythladblmjoaeoaa
