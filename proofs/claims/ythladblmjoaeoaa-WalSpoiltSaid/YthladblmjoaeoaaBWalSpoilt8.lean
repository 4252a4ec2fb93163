/- Texts of the claim WalSpoilt, joined: CWal10, CWal11, PWal7, ShDiskL, Opn, Opn2, LDisk, LDisk4, ShWlaw. -/
import Derived.Test.YthladblmjoaeoaaBWalSpoilt7
import Derived.Test.YthladblmjoaeoaaBWalSpoilt6
import Derived.Test.YthladblmjoaeoaaBWalSpoilt1
import Derived.Test.YthladblmjoaeoaaBWalSpoilt2
import Derived.Deep.Slices
import Derived.OpenShut
import Derived.ShutString
import Derived.ChangeOld
import Derived.Carry
import Derived.Test.YthladblmjoaeoaaBWalSpoilt5
import Derived.Test.YthladblmjoaeoaaBWalSpoilt4
namespace Go.Proofs.Ythladblmjoaeoaa
set_option linter.unusedVariables false
set_option linter.unusedSimpArgs false
open Go Go.Eng Go.Sort

def cmpI (a b : Int) : Int := if a < b then -1 else if b < a then 1 else 0
instance isNaNi (a : Int) : Pure0 PR F_cmp_isNaN_int [.int .i64 a] (.bool false) := ⟨fun W => by
  apply S.cmp_isNaN_int.call
  unfold S.cmp_isNaN_int.body
  simp -implicitDefEqProofs only [SE, SU, SV]
  exact St.start W⟩
instance cmpi (a b : Int) : Pure0 PR F_cmp_Compare_int [.int .i64 a, .int .i64 b] (.int .i64 (cmpI a b)) := ⟨fun W => by
  apply S.cmp_Compare_int.call
  unfold S.cmp_Compare_int.body
  have h := St.start W
  (first | ((with_reducible first | refine w1 ?_ | refine w3 ?_ | refine w4 ?_ | refine w11 ?_ | refine stb_n ?_); intros) | ((with_reducible first | refine v5 ?_ | refine v6 ?_ | refine v7 ?_ | refine ve ?_ | refine vn ?_); refine ⟨_, rfl, ?_⟩) | ((with_reducible first | refine v8 ?_ ?_ | refine v9 ?_ ?_ | refine v10 ?_ ?_ | refine v12 ?_ ?_); exact rfl; intros) | ((with_reducible refine w2 ?_); try simp -implicitDefEqProofs only [SE, SU, SV]; intros) | ((with_reducible refine w5 ?_ ?_); simp; refine ⟨_, rfl, ?_⟩) | ((with_reducible refine w12 ?_ ?_ ?_ ?_); simp; simp; simp [oneC]; intros) | (refine okF_i (bldP_eq rfl) ?_; try simp only [BLS, SB, Nat.reduceAdd]))
  (first | ((with_reducible first | refine w1 ?_ | refine w3 ?_ | refine w4 ?_ | refine w11 ?_ | refine stb_n ?_); intros) | ((with_reducible first | refine v5 ?_ | refine v6 ?_ | refine v7 ?_ | refine ve ?_ | refine vn ?_); refine ⟨_, rfl, ?_⟩) | ((with_reducible first | refine v8 ?_ ?_ | refine v9 ?_ ?_ | refine v10 ?_ ?_ | refine v12 ?_ ?_); exact rfl; intros) | ((with_reducible refine w2 ?_); try simp -implicitDefEqProofs only [SE, SU, SV]; intros) | ((with_reducible refine w5 ?_ ?_); simp; refine ⟨_, rfl, ?_⟩) | ((with_reducible refine w12 ?_ ?_ ?_ ?_); simp; simp; simp [oneC]; intros) | (refine okF_i (bldP_eq rfl) ?_; try simp only [BLS, SB, Nat.reduceAdd]))
  simp -implicitDefEqProofs only [SE, SU, SV]
  refine ifK_d (fun h1 => ?_) (fun h1 => ifK_d (fun h2 => ?_) (fun h2 => ?_))
  · exact ⟨by simp [cmpI, h1], by assumption⟩
  · exact ⟨by rw [cmpI, if_neg h1, if_pos h2], by assumption⟩
  · exact ⟨by rw [cmpI, if_neg h1, if_neg h2], by assumption⟩⟩
theorem cmpI_lt (a b : Int) : cmpI a b < 0 ↔ a < b := by
  unfold cmpI
  split
  · simp [*]
  · split <;> simp <;> omega
section
variable {W0 W : World} {L L' L1 L2 : List Asn} {q dp : Nat} {d : DS} {k : Value → World → Prop}
theorem walCmp (x y : FC) (W : World) : callK PR F_wal_Log_take_2 [x.v, y.v] (fun v W' => v = .int .i64 (cmpI x.index y.index) ∧ St W [] W') W := by
  apply S.wal_Log_take_2.call
  unfold S.wal_Log_take_2.body
  have h := St.start W
  rw [x.v_eq, y.v_eq]
  (repeat (first | (first | ((with_reducible first | refine w1 ?_ | refine w3 ?_ | refine w4 ?_ | refine w11 ?_ | refine stb_n ?_); intros) | ((with_reducible first | refine v5 ?_ | refine v6 ?_ | refine v7 ?_ | refine ve ?_ | refine vn ?_); refine ⟨_, rfl, ?_⟩) | ((with_reducible first | refine v8 ?_ ?_ | refine v9 ?_ ?_ | refine v10 ?_ ?_ | refine v12 ?_ ?_); exact rfl; intros) | ((with_reducible refine w2 ?_); try simp -implicitDefEqProofs only [SE, SU, SV]; intros) | ((with_reducible refine w5 ?_ ?_); simp; refine ⟨_, rfl, ?_⟩) | ((with_reducible refine w12 ?_ ?_ ?_ ?_); simp; simp; simp [oneC]; intros) | (refine okF_i (bldP_eq rfl) ?_; try simp only [BLS, SB, Nat.reduceAdd])) | simp -implicitDefEqProofs only [SE, SU, SV]))
  (first | exact St.nil (by first | assumption | exact St.tick (by assumption) | exact St.tick (St.tick (by assumption))) | exact ⟨rfl, St.nil (by first | assumption | exact St.tick (by assumption) | exact St.tick (St.tick (by assumption)))⟩)
theorem walWhole (x : FC) (W : World) : callK PR F_wal_Log_take_1 [x.v] (fun v W' => v = .bool (whole x.fx) ∧ St W [] W') W := by
  apply S.wal_Log_take_1.call
  unfold S.wal_Log_take_1.body
  have h := St.start W
  rw [x.v_eq]
  unfold whole FC.fx
  simp only [List.length_map]
  by_cases h1 : x.kind = 0
  · have f1 : decide ((x.kind : Int) = 0) = true := decide_eq_true (by omega)
    by_cases h2 : x.rows.length = 1
    · have f2 : decide ((x.rows.length : Int) = 1) = true := decide_eq_true (by omega)
      (repeat (first | (first | ((with_reducible first | refine w1 ?_ | refine w3 ?_ | refine w4 ?_ | refine w11 ?_ | refine stb_n ?_); intros) | ((with_reducible first | refine v5 ?_ | refine v6 ?_ | refine v7 ?_ | refine ve ?_ | refine vn ?_); refine ⟨_, rfl, ?_⟩) | ((with_reducible first | refine v8 ?_ ?_ | refine v9 ?_ ?_ | refine v10 ?_ ?_ | refine v12 ?_ ?_); exact rfl; intros) | ((with_reducible refine w2 ?_); try simp -implicitDefEqProofs only [SE, SU, SV, f1, f2]; intros) | ((with_reducible refine w5 ?_ ?_); simp; refine ⟨_, rfl, ?_⟩) | ((with_reducible refine w12 ?_ ?_ ?_ ?_); simp; simp; simp [oneC]; intros) | (refine okF_i (bldP_eq rfl) ?_; try simp only [BLS, SB, Nat.reduceAdd])) | simp -implicitDefEqProofs only [SE, SU, SV, f1, f2]))
      exact ⟨by rw [h1, h2]; simp, St.nil (by first | assumption | exact St.tick (by assumption) | exact St.tick (St.tick (by assumption)))⟩
    · have f2 : decide ((x.rows.length : Int) = 1) = false := decide_eq_false (by omega)
      (repeat (first | (first | ((with_reducible first | refine w1 ?_ | refine w3 ?_ | refine w4 ?_ | refine w11 ?_ | refine stb_n ?_); intros) | ((with_reducible first | refine v5 ?_ | refine v6 ?_ | refine v7 ?_ | refine ve ?_ | refine vn ?_); refine ⟨_, rfl, ?_⟩) | ((with_reducible first | refine v8 ?_ ?_ | refine v9 ?_ ?_ | refine v10 ?_ ?_ | refine v12 ?_ ?_); exact rfl; intros) | ((with_reducible refine w2 ?_); try simp -implicitDefEqProofs only [SE, SU, SV, f1, f2]; intros) | ((with_reducible refine w5 ?_ ?_); simp; refine ⟨_, rfl, ?_⟩) | ((with_reducible refine w12 ?_ ?_ ?_ ?_); simp; simp; simp [oneC]; intros) | (refine okF_i (bldP_eq rfl) ?_; try simp only [BLS, SB, Nat.reduceAdd])) | simp -implicitDefEqProofs only [SE, SU, SV, f1, f2]))
      exact ⟨by rw [decide_eq_false h2]; simp, St.nil (by first | assumption | exact St.tick (by assumption) | exact St.tick (St.tick (by assumption)))⟩
  · have f1 : decide ((x.kind : Int) = 0) = false := decide_eq_false (by omega)
    (repeat (first | (first | ((with_reducible first | refine w1 ?_ | refine w3 ?_ | refine w4 ?_ | refine w11 ?_ | refine stb_n ?_); intros) | ((with_reducible first | refine v5 ?_ | refine v6 ?_ | refine v7 ?_ | refine ve ?_ | refine vn ?_); refine ⟨_, rfl, ?_⟩) | ((with_reducible first | refine v8 ?_ ?_ | refine v9 ?_ ?_ | refine v10 ?_ ?_ | refine v12 ?_ ?_); exact rfl; intros) | ((with_reducible refine w2 ?_); try simp -implicitDefEqProofs only [SE, SU, SV, f1]; intros) | ((with_reducible refine w5 ?_ ?_); simp; refine ⟨_, rfl, ?_⟩) | ((with_reducible refine w12 ?_ ?_ ?_ ?_); simp; simp; simp [oneC]; intros) | (refine okF_i (bldP_eq rfl) ?_; try simp only [BLS, SB, Nat.reduceAdd])) | simp -implicitDefEqProofs only [SE, SU, SV, f1]))
    exact ⟨by rw [decide_eq_false h1]; simp, St.nil (by first | assumption | exact St.tick (by assumption) | exact St.tick (St.tick (by assumption)))⟩
theorem many_app {β : Type} {F : β → Asn} (a b : List β) : ent (many F a :: many F b :: L) (many F (a ++ b) :: L) := by
  have h1 := (ent.cons (many F a) (ent.flat (b.map F) L)).trans (ent.flat (a.map F) (b.map F ++ L))
  have h2 := ent.pack (a.map F ++ b.map F) L
  rw [List.append_assoc] at h2
  show ent _ (sep ((a ++ b).map F) :: L)
  rw [List.map_append]
  exact h1.trans h2
/-- the rows of files, all together -/
theorem rowsOut : ∀ (m : List FC) (L : List Asn), entd (many fcc m :: L) (many fch (m.flatMap (·.rows)) :: L)
  | [], L => (entd.drop _ _).trans (many_nil (F := fch)).d
  | x :: m, L => by
    have h1 : entd (many fcc (x :: m) :: L) (arr BSY T_s_uint8 x.ra x.rc x.rows :: many fch x.rows :: many fcc m :: L) := ((many_cons (F := fcc) x m).trans (ent.flat [_, _] _)).d
    have h2 := (h1.trans (entd.drop _ _)).trans ((rowsOut m L).cons (many fch x.rows))
    exact h2.trans (many_app x.rows _).d
theorem rdFcc {x : FC} {xs : List FC} (hx : x ∈ xs) : Rd W0 (many fcc xs :: L) x.ra BSY x.rows ∧ ∀ y ∈ x.rows, Rd W0 (many fcc xs :: L) y.a B8 y.bs := by
  obtain ⟨A, C, rfl⟩ := List.append_of_mem hx
  have h0 : ∀ {W : World}, St W0 (many fcc (A ++ x :: C) :: L) W → St W0 (arr BSY T_s_uint8 x.ra x.rc x.rows :: many fch x.rows :: many fcc (A ++ C) :: L) W := fun h =>
    h.ent (((many_perm (F := fcc) List.perm_middle).trans (many_cons _ _)).trans (ent.flat [_, _] _))
  constructor
  · exact ⟨fun W h => by
      have hr : Rd W0 (arr BSY T_s_uint8 x.ra x.rc x.rows :: many fch x.rows :: many fcc (A ++ C) :: L) x.ra BSY x.rows := inferInstance
      exact hr.ok W (h0 h)⟩
  · exact fun y hy => ⟨fun W h => by
      have hr : Rd W0 (many fch x.rows :: many fcc (A ++ C) :: L) y.a B8 y.bs := rdMany (.inr hy)
      exact hr.ok W (h0 h).drop⟩
theorem lastCur_snoc : ∀ (l : List FX) (f : FX), lastCur (l ++ [f]) = if f.torn then -1 else f.num
  | [], f => rfl
  | [g], f => rfl
  | g :: g' :: l, f => by rw [← lastCur_snoc (g' :: l) f]; rfl
theorem lastCount_snoc : ∀ (l : List FX) (f : FX), lastCount (l ++ [f]) = f.recs.length
  | [], f => rfl
  | [g], f => rfl
  | g :: g' :: l, f => by rw [← lastCount_snoc (g' :: l) f]; rfl
set_option maxRecDepth 20000 in
theorem filSort {a : Option Addr} {c : Nat} {l : List FC} (h : St W0 L W) [ho : Own a L FCL T_wal_file c l L'] (hl : l.length < 1000000) (hn : (l.map (·.index)).Nodup)
    (hk : ∀ m W', m.Perm l → (m.Pairwise fun x y => x.index ≤ y.index) → St W0 (arr FCL T_wal_file a c m :: L') W' → k (.tuple #[]) W') : callK PR F_slices_SortFunc_wal_file_wal_file [.slice a l.length c, .func (.func F_wal_Log_take_2) #[] #[]] k W := by
  obtain ⟨d, i, h1, h2, h3, h4⟩ := (inferInstance : TyI PR T_wal_file true 6).ok
  refine sortIx (P := PR) (A := FCL) (ρ := laySortFile_ren) laySortFile (fun w => ?_) (fun w => ?_) (fun x y => cmpI x.index y.index) (l := l) ⟨fun x => ?_, fun x y z g1 g2 => ?_, fun x y z g1 g2 => ?_⟩ (fun i j g1 g2 => ?_) F_wal_Log_take_2 [] (fun args w => callFunc_ok (CBok _ (by kernel_rfl)) w) h (fun x _ y _ W' _ => walCmp x y W') (by omega) fun m W' hp hs h => hk m W' hp (hs.imp fun {x y} h => by rw [cmpI_lt] at h; omega) h
  · have := run_isAgg' (P := PR) (w := w) h1
    rw [h2] at this
    exact this
  · have := run_sizeOf' (P := PR) (w := w) h3
    rw [h4] at this
    exact this
  · unfold Proofs.ltOf; rw [decide_eq_false_iff_not, cmpI_lt]; omega
  · unfold Proofs.ltOf at *; rw [decide_eq_true_eq, cmpI_lt] at *; omega
  · unfold Proofs.ltOf at *; rw [decide_eq_false_iff_not, cmpI_lt] at *; omega
  · unfold Proofs.ltOf at g1 g2
    rw [decide_eq_false_iff_not, cmpI_lt] at g1 g2
    have h3 := List.getElem_inj (h₀ := by simp) (h₁ := by simp) (i := i.1) (j := j.1) hn
    have g1' : ¬ ((l[i.1].index : Int) < l[j.1].index) := g1
    have g2' : ¬ ((l[j.1].index : Int) < l[i.1].index) := g2
    exact Fin.ext (h3.1 (by rw [List.getElem_map, List.getElem_map]; omega))
theorem walTakeJ2 {tu : Nat} {part lives : Int} {bb : BSl} {nums : List Int} {na pa : Option Addr} {nc pc : Nat} {ps xs : List FC} {P : List PT}
    (hps : (ps.map FC.fx).Perm (pfx tu 0 P)) (hsub : ∀ x ∈ ps, x ∈ xs) (hP : P.length ≤ 1000) (hrl : (recsOf P).length < 500000)
    (h : St W0 (cells q [.pointer (some ⟨dp, 0, none⟩), .int .i64 part, .int .i64 lives, .int .u64 (tu : Int), .slice na nums.length nc, .int .i64 (-1), .int .i64 0, .int .i64 0, .slice none 0 0, .slice bb.a bb.bs.length bb.c, .slice none 0 0, .bool false] T_wal_Log ::
      arr FCL T_wal_file pa pc ps :: many fcc xs :: L) W)
    (hk : ∀ (m : List FC) ra rc W', m.Perm ps → m.map FC.fx = pfx tu 0 P → St W0 (cells q [.pointer (some ⟨dp, 0, none⟩), .int .i64 part, .int .i64 lives, .int .u64 (tu : Int), .slice na nums.length nc, .int .i64 (lastCur (pfx tu 0 P)), .int .i64 (lastCount (pfx tu 0 P)), .int .i64 (P.length : Int), .slice none 0 0, .slice bb.a bb.bs.length bb.c, .slice ra (m.flatMap (·.rows)).length rc, .bool false] T_wal_Log ::
      arr BSY T_s_uint8 ra rc (m.flatMap (·.rows)) :: many fcc xs :: L) W' → k (.int .i64 0) W') :
    S.wal_Log_take.j2 k (.pointer (some ⟨q, 0, none⟩)) (.slice pa ps.length pc) W := by
  unfold S.wal_Log_take.j2
  have hlen : ps.length = P.length := by have := hps.length_eq; rwa [List.length_map, pfx_len] at this
  have hnd : (ps.map (·.index)).Nodup := by
    have h1 := pfx_sorted tu P 0
    have h2 : ((pfx tu 0 P).map (·.index)).Nodup := List.pairwise_map.2 (h1.imp fun h => Nat.ne_of_lt h)
    have h3 := (hps.map (·.index)).nodup_iff.2 h2
    rw [List.map_map] at h3
    exact h3
  have h := h.ent (ent.swap _ _ _)
  refine filSort (a := pa) (l := ps) h (by omega) hnd fun m W1 hm hso h => ?_
  have hmx : m.map FC.fx = pfx tu 0 P := sorted_uniq ((hm.map _).trans hps) (List.pairwise_map.2 hso) (pfx_sorted tu P 0)
  have hmlen : m.length = P.length := by rw [hm.length_eq, hlen]
  rw [← hm.length_eq]
  have hfl : (m.flatMap (·.rows)).length = (recsOf P).length := by
    have e1 : (m.flatMap fun x => x.rows).map (·.bs) = recsOf P := by
      rw [List.map_flatMap, ← pfx_recs tu P 0, ← hmx, List.flatMap_map]; rfl
    rw [← e1, List.length_map]
  (repeat (first | (first | ((with_reducible first | refine w1 ?_ | refine w3 ?_ | refine w4 ?_ | refine w11 ?_ | refine stb_n ?_); intros) | ((with_reducible first | refine v5 ?_ | refine v6 ?_ | refine v7 ?_ | refine ve ?_ | refine vn ?_); refine ⟨_, rfl, ?_⟩) | ((with_reducible first | refine v8 ?_ ?_ | refine v9 ?_ ?_ | refine v10 ?_ ?_ | refine v12 ?_ ?_); exact rfl; intros) | ((with_reducible refine w2 ?_); try simp -implicitDefEqProofs only [SE, SU, SV]; intros) | ((with_reducible refine w5 ?_ ?_); simp; refine ⟨_, rfl, ?_⟩) | ((with_reducible refine w12 ?_ ?_ ?_ ?_); simp; simp; simp [oneC]; intros) | (refine okF_i (bldP_eq rfl) ?_; try simp only [BLS, SB, Nat.reduceAdd])) | simp -implicitDefEqProofs only [SE, SU, SV]))
  refine loop_c (σ := Option Addr × Nat) m.length (fun i _ => [.pointer (some ⟨q, 0, none⟩), .slice pa m.length pc, .int .i64 (m.length : Int), .int .i64 (i : Int)])
    (fun i x W1 => St W0 (cells q [.pointer (some ⟨dp, 0, none⟩), .int .i64 part, .int .i64 lives, .int .u64 (tu : Int), .slice na nums.length nc, .int .i64 (lastCur ((m.take i).map FC.fx)), .int .i64 (lastCount ((m.take i).map FC.fx)), .int .i64 (i : Int), .slice none 0 0, .slice bb.a bb.bs.length bb.c, .slice x.1 ((m.take i).flatMap (·.rows)).length x.2, .bool false] T_wal_Log ::
      arr BSY T_s_uint8 x.1 x.2 ((m.take i).flatMap (·.rows)) :: arr FCL T_wal_file pa pc m :: many fcc xs :: L) W1) (none, 0) rfl (St.ent (by first | assumption | exact St.tick (by assumption) | exact St.tick (St.tick (by assumption))) ((ent.swap _ _ _).trans (ent.cons _ (arr_nil BSY T_s_uint8)))) ?_
  clear h
  rintro K i ⟨ra, rc⟩ W2 hi h hK
  simp only at h
  simp -implicitDefEqProofs only [SE, SU, SV]
  unfold S.wal_Log_take.l1
  by_cases hlt : (i : Int) < (m.length : Int)
  · have hib : i < m.length := by omega
    have ew : IntKind.i64.wrap ((i : Int) + 1) = ((i + 1 : Nat) : Int) := by rw [i64w]; omega
    have hix : m[i].index = i := by
      have := pfx_at tu P 0 i (FC.fx m[i]) (by rw [← hmx]; simp [hib])
      have e : (FC.fx m[i]).index = m[i].index := rfl
      omega
    have hmem : m[i] ∈ xs := hsub _ (hm.subset (List.getElem_mem hib))
    have e1 : (m.take (i + 1)).flatMap (fun x : FC => x.rows) = (m.take i).flatMap (fun x : FC => x.rows) ++ m[i].rows := by rw [take_snoc hib, List.flatMap_append]; simp
    have e2 : (m.take (i + 1)).map FC.fx = (m.take i).map FC.fx ++ [m[i].fx] := by rw [take_snoc hib, List.map_append]; rfl
    have e3 : ((m.take i).flatMap (fun x : FC => x.rows)).length + m[i].rows.length < 500000 := by
      have : (m.take (i + 1)).flatMap (fun x : FC => x.rows) ++ (m.drop (i + 1)).flatMap (fun x : FC => x.rows) = m.flatMap (fun x : FC => x.rows) := by rw [← List.flatMap_append, List.take_append_drop]
      have := congrArg List.length this
      rw [List.length_append, e1, List.length_append, hfl] at this
      omega
    simp only [e1, e2, lastCur_snoc, lastCount_snoc] at hK
    (repeat (first | (first | ((with_reducible first | refine w1 ?_ | refine w3 ?_ | refine w4 ?_ | refine w11 ?_ | refine stb_n ?_); intros) | ((with_reducible first | refine v5 ?_ | refine v6 ?_ | refine v7 ?_ | refine ve ?_ | refine vn ?_); refine ⟨_, rfl, ?_⟩) | ((with_reducible first | refine v8 ?_ ?_ | refine v9 ?_ ?_ | refine v10 ?_ ?_ | refine v12 ?_ ?_); exact rfl; intros) | ((with_reducible refine w2 ?_); try simp -implicitDefEqProofs only [SE, SU, SV, hlt]; intros) | ((with_reducible refine w5 ?_ ?_); simp; refine ⟨_, rfl, ?_⟩) | ((with_reducible refine w12 ?_ ?_ ?_ ?_); simp; simp; simp [oneC]; intros) | (refine okF_i (bldP_eq rfl) ?_; try simp only [BLS, SB, Nat.reduceAdd])) | simp -implicitDefEqProofs only [SE, SU, SV, hlt]))
    refine joinK_i ?_
    refine ixA (i := i) (a := pa) (l := m) (A := FCL) h rfl rfl hib fun g o ha => ?_
    cases ha
    refine ldA0 (i := i) (l := m) (A := FCL) h rfl hib (v := m[i].v) rfl (by simp) ?_
    have ex : m[i].fx.torn = m[i].torn ∧ m[i].fx.num = m[i].num ∧ m[i].fx.recs.length = m[i].rows.length := ⟨rfl, rfl, by simp [FC.fx]⟩
    rw [ex.1, ex.2.1, ex.2.2] at hK
    generalize m[i] = x at *
    rw [x.v_eq]
    have f1 : decide ((x.index : Int) = (i : Int)) = true := decide_eq_true (by omega)
    haveI hrd := (rdFcc (W0 := W0) (L := L) hmem).1
    (repeat (first | (first | ((with_reducible first | refine w1 ?_ | refine w3 ?_ | refine w4 ?_ | refine w11 ?_ | refine stb_n ?_); intros) | ((with_reducible first | refine v5 ?_ | refine v6 ?_ | refine v7 ?_ | refine ve ?_ | refine vn ?_); refine ⟨_, rfl, ?_⟩) | ((with_reducible first | refine v8 ?_ ?_ | refine v9 ?_ ?_ | refine v10 ?_ ?_ | refine v12 ?_ ?_); exact rfl; intros) | ((with_reducible refine w2 ?_); try simp -implicitDefEqProofs only [SE, SU, SV, f1]; intros) | ((with_reducible refine w5 ?_ ?_); simp; refine ⟨_, rfl, ?_⟩) | ((with_reducible refine w12 ?_ ?_ ?_ ?_); simp; simp; simp [oneC]; intros) | (refine okF_i (bldP_eq rfl) ?_; try simp only [BLS, SB, Nat.reduceAdd])) | simp -implicitDefEqProofs only [SE, SU, SV, f1]))
    refine appA (A := BSY) (a := ra) (l := (m.take i).flatMap fun x : FC => x.rows) (m := x.rows) (by first | assumption | exact St.tick (by assumption) | exact St.tick (St.tick (by assumption))) rfl (by omega) (by simp only [maxLen]; omega) fun a4 c4 W6 h => ?_
    unfold S.wal_Log_take.j3
    (repeat (first | (first | ((with_reducible first | refine w1 ?_ | refine w3 ?_ | refine w4 ?_ | refine w11 ?_ | refine stb_n ?_); intros) | ((with_reducible first | refine v5 ?_ | refine v6 ?_ | refine v7 ?_ | refine ve ?_ | refine vn ?_); refine ⟨_, rfl, ?_⟩) | ((with_reducible first | refine v8 ?_ ?_ | refine v9 ?_ ?_ | refine v10 ?_ ?_ | refine v12 ?_ ?_); exact rfl; intros) | ((with_reducible refine w2 ?_); try simp -implicitDefEqProofs only [SE, SU, SV, ew]; intros) | ((with_reducible refine w5 ?_ ?_); simp; refine ⟨_, rfl, ?_⟩) | ((with_reducible refine w12 ?_ ?_ ?_ ?_); simp; simp; simp [oneC]; intros) | (refine okF_i (bldP_eq rfl) ?_; try simp only [BLS, SB, Nat.reduceAdd])) | simp -implicitDefEqProofs only [SE, SU, SV, ew]))
    rename_i h
    (try simp only [BLS, SB, stL_a, stL_b, stL_c, List.append_nil, List.take_nil, List.drop_nil, Nat.reduceAdd] at h)
    (repeat (first | (first | ((with_reducible first | refine w1 ?_ | refine w3 ?_ | refine w4 ?_ | refine w11 ?_ | refine stb_n ?_); intros) | ((with_reducible first | refine v5 ?_ | refine v6 ?_ | refine v7 ?_ | refine ve ?_ | refine vn ?_); refine ⟨_, rfl, ?_⟩) | ((with_reducible first | refine v8 ?_ ?_ | refine v9 ?_ ?_ | refine v10 ?_ ?_ | refine v12 ?_ ?_); exact rfl; intros) | ((with_reducible refine w2 ?_); try simp -implicitDefEqProofs only [SE, SU, SV]; intros) | ((with_reducible refine w5 ?_ ?_); simp; refine ⟨_, rfl, ?_⟩) | ((with_reducible refine w12 ?_ ?_ ?_ ?_); simp; simp; simp [oneC]; intros) | (refine okF_i (bldP_eq rfl) ?_; try simp only [BLS, SB, Nat.reduceAdd])) | simp -implicitDefEqProofs only [SE, SU, SV]))
    rename_i h
    (try simp only [BLS, SB, stL_a, stL_b, stL_c, List.append_nil, List.take_nil, List.drop_nil, Nat.reduceAdd] at h)
    cases ht : x.torn with
    | true =>
      rw [ht, if_pos rfl] at hK
      (repeat (first | (first | ((with_reducible first | refine w1 ?_ | refine w3 ?_ | refine w4 ?_ | refine w11 ?_ | refine stb_n ?_); intros) | ((with_reducible first | refine v5 ?_ | refine v6 ?_ | refine v7 ?_ | refine ve ?_ | refine vn ?_); refine ⟨_, rfl, ?_⟩) | ((with_reducible first | refine v8 ?_ ?_ | refine v9 ?_ ?_ | refine v10 ?_ ?_ | refine v12 ?_ ?_); exact rfl; intros) | ((with_reducible refine w2 ?_); try simp -implicitDefEqProofs only [SE, SU, SV, ew]; intros) | ((with_reducible refine w5 ?_ ?_); simp; refine ⟨_, rfl, ?_⟩) | ((with_reducible refine w12 ?_ ?_ ?_ ?_); simp; simp; simp [oneC]; intros) | (refine okF_i (bldP_eq rfl) ?_; try simp only [BLS, SB, Nat.reduceAdd])) | simp -implicitDefEqProofs only [SE, SU, SV, ew]))
      rename_i h
      (try simp only [BLS, SB, stL_a, stL_b, stL_c, List.append_nil, List.take_nil, List.drop_nil, Nat.reduceAdd] at h)
      exact hK (a4, c4) _ hib (St.wk h)
    | false =>
      rw [ht, if_neg Bool.false_ne_true] at hK
      (repeat (first | (first | ((with_reducible first | refine w1 ?_ | refine w3 ?_ | refine w4 ?_ | refine w11 ?_ | refine stb_n ?_); intros) | ((with_reducible first | refine v5 ?_ | refine v6 ?_ | refine v7 ?_ | refine ve ?_ | refine vn ?_); refine ⟨_, rfl, ?_⟩) | ((with_reducible first | refine v8 ?_ ?_ | refine v9 ?_ ?_ | refine v10 ?_ ?_ | refine v12 ?_ ?_); exact rfl; intros) | ((with_reducible refine w2 ?_); try simp -implicitDefEqProofs only [SE, SU, SV, ew]; intros) | ((with_reducible refine w5 ?_ ?_); simp; refine ⟨_, rfl, ?_⟩) | ((with_reducible refine w12 ?_ ?_ ?_ ?_); simp; simp; simp [oneC]; intros) | (refine okF_i (bldP_eq rfl) ?_; try simp only [BLS, SB, Nat.reduceAdd])) | simp -implicitDefEqProofs only [SE, SU, SV, ew]))
      exact hK (a4, c4) _ hib (St.wk h)
  · have ei : m.take i = m := List.take_of_length_le (by omega)
    rw [ei, hmx] at h
    have him : (i : Int) = (P.length : Int) := by omega
    rw [him] at h
    (repeat (first | (first | ((with_reducible first | refine w1 ?_ | refine w3 ?_ | refine w4 ?_ | refine w11 ?_ | refine stb_n ?_); intros) | ((with_reducible first | refine v5 ?_ | refine v6 ?_ | refine v7 ?_ | refine ve ?_ | refine vn ?_); refine ⟨_, rfl, ?_⟩) | ((with_reducible first | refine v8 ?_ ?_ | refine v9 ?_ ?_ | refine v10 ?_ ?_ | refine v12 ?_ ?_); exact rfl; intros) | ((with_reducible refine w2 ?_); try simp -implicitDefEqProofs only [SE, SU, SV, hlt]; intros) | ((with_reducible refine w5 ?_ ?_); simp; refine ⟨_, rfl, ?_⟩) | ((with_reducible refine w12 ?_ ?_ ?_ ?_); simp; simp; simp [oneC]; intros) | (refine okF_i (bldP_eq rfl) ?_; try simp only [BLS, SB, Nat.reduceAdd])) | simp -implicitDefEqProofs only [SE, SU, SV, hlt]))
    exact hk m ra rc _ hm hmx (St.wk h)
/-- the first loop's state: the base, when it was met -/
def Inv1 (t : Nat) (l : List FC) (tu : Nat) (bb : BSl) : Prop := (tu = 0 ∧ bb = ⟨none, 0, []⟩ ∧ ∀ x ∈ l, x.kind ≠ 0) ∨ (tu = t ∧ t ≠ 0 ∧ ∃ x ∈ l, x.kind = 0 ∧ x.rows = [bb])
theorem bfx_mem {t : Nat} {bn : Int} {base : Bs} {f : FX} (h : f ∈ bfx t bn base) : t ≠ 0 ∧ f = ⟨bn, 0, t, 0, [base], false⟩ := by
  unfold bfx at h
  split at h
  · cases h
  · exact ⟨by assumption, List.mem_singleton.1 h⟩
theorem all_kinds {xs : List FC} {t : Nat} {bn : Int} {base : Bs} {P : List PT} (hall : (xs.map FC.fx).Perm (bfx t bn base ++ pfx t 0 P)) : ∀ x ∈ xs, x.turn = t ∧ ((x.kind = 0 ∧ t ≠ 0 ∧ whole x.fx = true ∧ bsOf x.rows = [base]) ∨ (x.kind = 1 ∧ whole x.fx = false)) := by
  intro x hx
  rcases List.mem_append.1 (hall.subset (List.mem_map_of_mem hx)) with h | h
  · obtain ⟨h1, h2⟩ := bfx_mem h
    have e1 := congrArg FX.kind h2
    have e2 := congrArg FX.turn h2
    have e3 := congrArg FX.recs h2
    exact ⟨e2, .inl ⟨e1, h1, by rw [h2]; rfl, e3⟩⟩
  · obtain ⟨h1, h2, _⟩ := pfx_mem h
    refine ⟨h1, .inr ⟨h2, ?_⟩⟩
    unfold whole
    rw [show x.fx.kind = 1 from h2]; rfl
set_option maxHeartbeats 2000000 in
theorem walTake {part lives : Int} {aa : Option Addr} {ac : Nat} {xs : List FC} {t : Nat} {bn : Int} {P : List PT} {base : Bs}
    (hall : (xs.map FC.fx).Perm (bfx t bn base ++ pfx t 0 P)) (hb0 : t = 0 → base = []) (htb : t < 2 ^ 62) (hP : P.length ≤ 1000) (hxl : xs.length ≤ 1001) (hrl : (recsOf P).length < 500000) (hw : d.ws = [])
    (h : St W0 (cells q [.pointer (some ⟨dp, 0, none⟩), .int .i64 part, .int .i64 lives, .int .u64 0, .slice none 0 0, .int .i64 (-1), .int .i64 0, .int .i64 0, .slice none 0 0, .slice none 0 0, .slice none 0 0, .bool false] T_wal_Log ::
      arr FCL T_wal_file aa ac xs :: many fcc xs :: dk dp d :: L) W)
    (hk : ∀ W', St W0 (lg q dp (openL part lives t base ((xs.map FC.fx).map fun f => f.num) (pfx t 0 P)) :: dk dp d :: L) W' → k (.int .i64 0) W') :
    callK PR F_wal_Log_take [.pointer (some ⟨q, 0, none⟩), .slice aa xs.length ac] k W := by
  have hkinds := all_kinds hall
  apply S.wal_Log_take.call
  unfold S.wal_Log_take.body
  refine joinK_i ?_
  simp -implicitDefEqProofs only [SE, SU, SV]
  refine loop_c (σ := Nat × BSl) xs.length (fun i _ => [.pointer (some ⟨q, 0, none⟩), .slice aa xs.length ac, .func (.func F_wal_Log_take_1) #[] #[], .slice aa xs.length ac, .int .i64 (xs.length : Int), .int .i64 (i : Int)])
    (fun i s W1 => Inv1 t (xs.take i) s.1 s.2 ∧ St W0 (cells q [.pointer (some ⟨dp, 0, none⟩), .int .i64 part, .int .i64 lives, .int .u64 (s.1 : Int), .slice none 0 0, .int .i64 (-1), .int .i64 0, .int .i64 0, .slice none 0 0, .slice s.2.a s.2.bs.length s.2.c, .slice none 0 0, .bool false] T_wal_Log ::
      arr FCL T_wal_file aa ac xs :: many fcc xs :: dk dp d :: L) W1) (0, ⟨none, 0, []⟩) rfl ⟨.inl ⟨rfl, rfl, fun x hx => (by simp at hx)⟩, h⟩ ?_
  clear h
  rintro K i ⟨tu, bb⟩ W2 hi ⟨hinv, h⟩ hK
  simp only at hinv h
  simp -implicitDefEqProofs only [SE, SU, SV]
  unfold S.wal_Log_take.l3
  by_cases hlt : (i : Int) < (xs.length : Int)
  · have hib : i < xs.length := by omega
    have ew : IntKind.i64.wrap ((i : Int) + 1) = ((i + 1 : Nat) : Int) := by rw [i64w]; omega
    have hmem := List.getElem_mem hib
    obtain ⟨k1, k2⟩ := hkinds _ hmem
    have e1 : xs.take (i + 1) = xs.take i ++ [xs[i]] := take_snoc hib
    rw [e1] at hK
    (repeat (first | (first | ((with_reducible first | refine w1 ?_ | refine w3 ?_ | refine w4 ?_ | refine w11 ?_ | refine stb_n ?_); intros) | ((with_reducible first | refine v5 ?_ | refine v6 ?_ | refine v7 ?_ | refine ve ?_ | refine vn ?_); refine ⟨_, rfl, ?_⟩) | ((with_reducible first | refine v8 ?_ ?_ | refine v9 ?_ ?_ | refine v10 ?_ ?_ | refine v12 ?_ ?_); exact rfl; intros) | ((with_reducible refine w2 ?_); try simp -implicitDefEqProofs only [SE, SU, SV, hlt]; intros) | ((with_reducible refine w5 ?_ ?_); simp; refine ⟨_, rfl, ?_⟩) | ((with_reducible refine w12 ?_ ?_ ?_ ?_); simp; simp; simp [oneC]; intros) | (refine okF_i (bldP_eq rfl) ?_; try simp only [BLS, SB, Nat.reduceAdd])) | simp -implicitDefEqProofs only [SE, SU, SV, hlt]))
    refine joinK_i ?_
    refine ixA (i := i) (a := aa) (l := xs) (A := FCL) h rfl rfl hib fun g o ha => ?_
    cases ha
    refine ldA0 (i := i) (l := xs) (A := FCL) h rfl hib (v := xs[i].v) rfl (by simp) ?_
    generalize xs[i] = x at *
    rw [x.v_eq]
    (repeat (first | (first | ((with_reducible first | refine w1 ?_ | refine w3 ?_ | refine w4 ?_ | refine w11 ?_ | refine stb_n ?_); intros) | ((with_reducible first | refine v5 ?_ | refine v6 ?_ | refine v7 ?_ | refine ve ?_ | refine vn ?_); refine ⟨_, rfl, ?_⟩) | ((with_reducible first | refine v8 ?_ ?_ | refine v9 ?_ ?_ | refine v10 ?_ ?_ | refine v12 ?_ ?_); exact rfl; intros) | ((with_reducible refine w2 ?_); try simp -implicitDefEqProofs only [SE, SU, SV]; intros) | ((with_reducible refine w5 ?_ ?_); simp; refine ⟨_, rfl, ?_⟩) | ((with_reducible refine w12 ?_ ?_ ?_ ?_); simp; simp; simp [oneC]; intros) | (refine okF_i (bldP_eq rfl) ?_; try simp only [BLS, SB, Nat.reduceAdd])) | simp -implicitDefEqProofs only [SE, SU, SV]))
    rename_i pb _ _ W3 h
    (try simp only [BLS, SB, stL_a, stL_b, stL_c, List.append_nil, List.take_nil, List.drop_nil, Nat.reduceAdd] at h)
    refine ⟨CBok _ (by kernel_rfl), callK_mono (walWhole x _) ?_⟩
    rintro v W4 ⟨rfl, h4⟩
    have h := h.tick.over0 h4
    rcases k2 with ⟨k3, k4, k5, k6⟩ | ⟨k3, k5⟩
    · rw [k5]
      have hrows : ∃ y, x.rows = [y] ∧ y.bs = base := by
        cases hr : x.rows with
        | nil => rw [hr] at k6; simp at k6
        | cons y l =>
          rw [hr] at k6
          simp only [bsOf, List.map_cons, List.cons.injEq, List.map_eq_nil_iff] at k6
          exact ⟨y, by rw [k6.2], k6.1⟩
      obtain ⟨y, hy, hyb⟩ := hrows
      by_cases hgt : tu < x.turn
      · have f1 : decide ((tu : Int) < (x.turn : Int)) = true := decide_eq_true (by omega)
        (repeat (first | (first | ((with_reducible first | refine w1 ?_ | refine w3 ?_ | refine w4 ?_ | refine w11 ?_ | refine stb_n ?_); intros) | ((with_reducible first | refine v5 ?_ | refine v6 ?_ | refine v7 ?_ | refine ve ?_ | refine vn ?_); refine ⟨_, rfl, ?_⟩) | ((with_reducible first | refine v8 ?_ ?_ | refine v9 ?_ ?_ | refine v10 ?_ ?_ | refine v12 ?_ ?_); exact rfl; intros) | ((with_reducible refine w2 ?_); try simp -implicitDefEqProofs only [SE, SU, SV, f1]; intros) | ((with_reducible refine w5 ?_ ?_); simp; refine ⟨_, rfl, ?_⟩) | ((with_reducible refine w12 ?_ ?_ ?_ ?_); simp; simp; simp [oneC]; intros) | (refine okF_i (bldP_eq rfl) ?_; try simp only [BLS, SB, Nat.reduceAdd])) | simp -implicitDefEqProofs only [SE, SU, SV, f1]))
        haveI hrd := (rdFcc (W0 := W0) (L := dk dp d :: L) hmem).1
        rw [hy] at hrd ⊢
        refine ixA (i := 0) (a := x.ra) (l := [y]) (A := BSY) h rfl rfl (by simp) fun g2 o2 ha2 => ?_
        refine ldA0 (i := 0) (l := [y]) (A := BSY) (hr := ha2 ▸ inferInstance) (St.tick h) rfl (by simp) (v := y.v) rfl (by simp) ?_
        unfold S.wal_Log_take.j6
        (repeat (first | (first | ((with_reducible first | refine w1 ?_ | refine w3 ?_ | refine w4 ?_ | refine w11 ?_ | refine stb_n ?_); intros) | ((with_reducible first | refine v5 ?_ | refine v6 ?_ | refine v7 ?_ | refine ve ?_ | refine vn ?_); refine ⟨_, rfl, ?_⟩) | ((with_reducible first | refine v8 ?_ ?_ | refine v9 ?_ ?_ | refine v10 ?_ ?_ | refine v12 ?_ ?_); exact rfl; intros) | ((with_reducible refine w2 ?_); try simp -implicitDefEqProofs only [SE, SU, SV, ew]; intros) | ((with_reducible refine w5 ?_ ?_); simp; refine ⟨_, rfl, ?_⟩) | ((with_reducible refine w12 ?_ ?_ ?_ ?_); simp; simp; simp [oneC]; intros) | (refine okF_i (bldP_eq rfl) ?_; try simp only [BLS, SB, Nat.reduceAdd])) | simp -implicitDefEqProofs only [SE, SU, SV, ew]))
        rename_i h
        (try simp only [BLS, SB, stL_a, stL_b, stL_c, List.append_nil, List.take_nil, List.drop_nil, Nat.reduceAdd] at h)
        refine hK (x.turn, y) _ hib ⟨.inr ⟨k1, k4, x, by simp, k3, hy⟩, St.wk h⟩
      · have f1 : decide ((tu : Int) < (x.turn : Int)) = false := decide_eq_false (by omega)
        unfold S.wal_Log_take.j6
        (repeat (first | (first | ((with_reducible first | refine w1 ?_ | refine w3 ?_ | refine w4 ?_ | refine w11 ?_ | refine stb_n ?_); intros) | ((with_reducible first | refine v5 ?_ | refine v6 ?_ | refine v7 ?_ | refine ve ?_ | refine vn ?_); refine ⟨_, rfl, ?_⟩) | ((with_reducible first | refine v8 ?_ ?_ | refine v9 ?_ ?_ | refine v10 ?_ ?_ | refine v12 ?_ ?_); exact rfl; intros) | ((with_reducible refine w2 ?_); try simp -implicitDefEqProofs only [SE, SU, SV, f1, ew]; intros) | ((with_reducible refine w5 ?_ ?_); simp; refine ⟨_, rfl, ?_⟩) | ((with_reducible refine w12 ?_ ?_ ?_ ?_); simp; simp; simp [oneC]; intros) | (refine okF_i (bldP_eq rfl) ?_; try simp only [BLS, SB, Nat.reduceAdd])) | simp -implicitDefEqProofs only [SE, SU, SV, f1, ew]))
        refine hK (tu, bb) _ hib ⟨?_, St.wk (by first | assumption | exact St.tick (by assumption) | exact St.tick (St.tick (by assumption)))⟩
        rcases hinv with ⟨g1, g2, g3⟩ | ⟨g1, g2, y2, g3, g4⟩
        · omega
        · exact .inr ⟨g1, g2, y2, by simp [g3], g4⟩
    · rw [k5]
      unfold S.wal_Log_take.j6
      (repeat (first | (first | ((with_reducible first | refine w1 ?_ | refine w3 ?_ | refine w4 ?_ | refine w11 ?_ | refine stb_n ?_); intros) | ((with_reducible first | refine v5 ?_ | refine v6 ?_ | refine v7 ?_ | refine ve ?_ | refine vn ?_); refine ⟨_, rfl, ?_⟩) | ((with_reducible first | refine v8 ?_ ?_ | refine v9 ?_ ?_ | refine v10 ?_ ?_ | refine v12 ?_ ?_); exact rfl; intros) | ((with_reducible refine w2 ?_); try simp -implicitDefEqProofs only [SE, SU, SV, ew]; intros) | ((with_reducible refine w5 ?_ ?_); simp; refine ⟨_, rfl, ?_⟩) | ((with_reducible refine w12 ?_ ?_ ?_ ?_); simp; simp; simp [oneC]; intros) | (refine okF_i (bldP_eq rfl) ?_; try simp only [BLS, SB, Nat.reduceAdd])) | simp -implicitDefEqProofs only [SE, SU, SV, ew]))
      refine hK (tu, bb) _ hib ⟨?_, St.wk (by first | assumption | exact St.tick (by assumption) | exact St.tick (St.tick (by assumption)))⟩
      rcases hinv with ⟨g1, g2, g3⟩ | ⟨g1, g2, y2, g3, g4⟩
      · refine .inl ⟨g1, g2, fun z hz => ?_⟩
        rcases List.mem_append.1 hz with hz | hz
        · exact g3 z hz
        · rw [List.mem_singleton.1 hz, k3]; decide
      · exact .inr ⟨g1, g2, y2, by simp [g3], g4⟩
  rw [List.take_of_length_le (by omega)] at hinv
  have hps1 : ((xs.filter fun x => decide (x.kind = 1)).map FC.fx).Perm (pfx t 0 P) := by
    have h1 := hall.filter (fun f => decide (f.kind = 1))
    rw [List.filter_map, List.filter_append] at h1
    have e1 : (bfx t bn base).filter (fun f => decide (f.kind = 1)) = [] := List.filter_eq_nil_iff.2 fun f hf => by rw [(bfx_mem hf).2]; simp
    have e2 : (pfx t 0 P).filter (fun f => decide (f.kind = 1)) = pfx t 0 P := List.filter_eq_self.2 fun f hf => by simp [(pfx_mem hf).2.1]
    rw [e1, e2] at h1
    exact h1
  have hno : (xs.filter fun x => !decide (x.kind = 1)).length ≤ 1 := by
    have h1 := (hall.filter (fun f => !decide (f.kind = 1))).length_eq
    rw [List.filter_map, List.length_map, List.filter_append, List.length_append] at h1
    have e2 : (pfx t 0 P).filter (fun f => !decide (f.kind = 1)) = [] := List.filter_eq_nil_iff.2 fun f hf => by simp [(pfx_mem hf).2.1]
    have e3 : (bfx t bn base).length ≤ 1 := by unfold bfx; split <;> simp
    have e4 := List.length_filter_le (fun f : FX => !decide (f.kind = 1)) (bfx t bn base)
    rw [e2, List.length_nil] at h1
    have e5 : (xs.filter fun x => !decide (x.kind = 1)).length = (xs.filter ((fun f : FX => !decide (f.kind = 1)) ∘ FC.fx)).length := rfl
    omega
  have hbase : tu = t ∧ bb.bs = base ∧ ((bb = ⟨none, 0, []⟩ ∧ xs.Perm (xs.filter fun x => decide (x.kind = 1))) ∨ ∃ x0, x0.rows = [bb] ∧ xs.Perm (x0 :: xs.filter fun x => decide (x.kind = 1))) := by
    rcases hinv with ⟨g1, g2, g3⟩ | ⟨g1, g2, x0, g3, g4, g5⟩
    · have ht0 : t = 0 := Classical.byContradiction fun hne => by
        have h1 : (⟨bn, 0, t, 0, [base], false⟩ : FX) ∈ xs.map FC.fx := hall.symm.subset (List.mem_append_left _ (by unfold bfx; rw [if_neg hne]; simp))
        obtain ⟨z, hz, hz2⟩ := List.mem_map.1 h1
        exact g3 z hz (congrArg FX.kind hz2)
      refine ⟨by omega, by rw [g2, hb0 ht0], .inl ⟨g2, ?_⟩⟩
      rw [List.filter_eq_self.2 fun x hx => ?_]
      rcases (hkinds x hx).2 with ⟨a1, _⟩ | ⟨a1, _⟩
      · exact absurd a1 (g3 x hx)
      · simp [a1]
    · have hx0 : x0 ∈ xs.filter fun x => !decide (x.kind = 1) := List.mem_filter.2 ⟨g3, by simp [g4]⟩
      have hone : (xs.filter fun x => !decide (x.kind = 1)) = [x0] := by
        match hh : xs.filter fun x => !decide (x.kind = 1) with
        | [] => rw [hh] at hx0; cases hx0
        | [z] => rw [hh] at hx0; rw [hh, List.mem_singleton.1 hx0]
        | z :: z2 :: l => rw [hh] at hno; simp at hno
      refine ⟨g1, ?_, .inr ⟨x0, g5, ?_⟩⟩
      · rcases (hkinds x0 g3).2 with ⟨_, _, _, a1⟩ | ⟨a1, _⟩
        · rw [g5] at a1; simpa [bsOf] using a1
        · omega
      · have := List.filter_append_perm (fun x : FC => decide (x.kind = 1)) xs
        rw [hone] at this
        exact this.symm.trans (List.perm_append_singleton _ _)
  obtain ⟨rfl, hbb, hown⟩ := hbase
  clear hK hinv hno
  (repeat (first | (first | ((with_reducible first | refine w1 ?_ | refine w3 ?_ | refine w4 ?_ | refine w11 ?_ | refine stb_n ?_); intros) | ((with_reducible first | refine v5 ?_ | refine v6 ?_ | refine v7 ?_ | refine ve ?_ | refine vn ?_); refine ⟨_, rfl, ?_⟩) | ((with_reducible first | refine v8 ?_ ?_ | refine v9 ?_ ?_ | refine v10 ?_ ?_ | refine v12 ?_ ?_); exact rfl; intros) | ((with_reducible refine w2 ?_); try simp -implicitDefEqProofs only [SE, SU, SV, hlt]; intros) | ((with_reducible refine w5 ?_ ?_); simp; refine ⟨_, rfl, ?_⟩) | ((with_reducible refine w12 ?_ ?_ ?_ ?_); simp; simp; simp [oneC]; intros) | (refine okF_i (bldP_eq rfl) ?_; try simp only [BLS, SB, Nat.reduceAdd])) | simp -implicitDefEqProofs only [SE, SU, SV, hlt]))
  clear hlt
  unfold S.wal_Log_take.j1
  refine joinK_i ?_
  (repeat (first | (first | ((with_reducible first | refine w1 ?_ | refine w3 ?_ | refine w4 ?_ | refine w11 ?_ | refine stb_n ?_); intros) | ((with_reducible first | refine v5 ?_ | refine v6 ?_ | refine v7 ?_ | refine ve ?_ | refine vn ?_); refine ⟨_, rfl, ?_⟩) | ((with_reducible first | refine v8 ?_ ?_ | refine v9 ?_ ?_ | refine v10 ?_ ?_ | refine v12 ?_ ?_); exact rfl; intros) | ((with_reducible refine w2 ?_); try simp -implicitDefEqProofs only [SE, SU, SV]; intros) | ((with_reducible refine w5 ?_ ?_); simp; refine ⟨_, rfl, ?_⟩) | ((with_reducible refine w12 ?_ ?_ ?_ ?_); simp; simp; simp [oneC]; intros) | (refine okF_i (bldP_eq rfl) ?_; try simp only [BLS, SB, Nat.reduceAdd])) | simp -implicitDefEqProofs only [SE, SU, SV]))
  refine loop_c (σ := Option Addr × Nat × Option Addr × Nat) xs.length (fun i s => [.pointer (some ⟨q, 0, none⟩), .func (.func F_wal_Log_take_1) #[] #[], .slice s.1 ((xs.take i).filter fun x => decide (x.kind = 1)).length s.2.1, .slice aa xs.length ac, .int .i64 (xs.length : Int), .int .i64 (i : Int)])
    (fun i s W1 => St W0 (cells q [.pointer (some ⟨dp, 0, none⟩), .int .i64 part, .int .i64 lives, .int .u64 (tu : Int), .slice s.2.2.1 ((xs.take i).map FC.num).length s.2.2.2, .int .i64 (-1), .int .i64 0, .int .i64 0, .slice none 0 0, .slice bb.a bb.bs.length bb.c, .slice none 0 0, .bool false] T_wal_Log ::
      arr I64 T_int s.2.2.1 s.2.2.2 ((xs.take i).map FC.num) :: arr FCL T_wal_file s.1 s.2.1 ((xs.take i).filter fun x => decide (x.kind = 1)) :: arr FCL T_wal_file aa ac xs :: many fcc xs :: dk dp d :: L) W1) (none, 0, none, 0) rfl
    (St.ent (by first | assumption | exact St.tick (by assumption) | exact St.tick (St.tick (by assumption))) (ent.cons _ ((arr_nil FCL T_wal_file).trans (arr_nil I64 T_int)))) ?_
  clear h
  rintro K i ⟨pa, pc, na, nc⟩ W2 hi h hK
  simp only at h
  simp -implicitDefEqProofs only [SE, SU, SV]
  unfold S.wal_Log_take.l2
  by_cases hlt : (i : Int) < (xs.length : Int)
  · have hib : i < xs.length := by omega
    have ew : IntKind.i64.wrap ((i : Int) + 1) = ((i + 1 : Nat) : Int) := by rw [i64w]; omega
    have hmem := List.getElem_mem hib
    obtain ⟨k1, k2⟩ := hkinds _ hmem
    have e1 : xs.take (i + 1) = xs.take i ++ [xs[i]] := take_snoc hib
    have hpl : ((xs.take i).filter fun x => decide (x.kind = 1)).length ≤ 1001 := Nat.le_trans (List.length_filter_le _ _) (by simp; omega)
    have hnl : ((xs.take i).map FC.num).length ≤ 1001 := by simp; omega
    rw [e1] at hK
    simp only [List.map_append, List.map_cons, List.map_nil, List.filter_append] at hK
    generalize ((xs.take i).filter fun x => decide (x.kind = 1)) = pp at *
    generalize (xs.take i).map FC.num = nn at *
    haveI hrdx : Rd W0 (cells q [.pointer (some ⟨dp, 0, none⟩), .int .i64 part, .int .i64 lives, .int .u64 (tu : Int), .slice na nn.length nc, .int .i64 (-1), .int .i64 0, .int .i64 0, .slice none 0 0, .slice bb.a bb.bs.length bb.c, .slice none 0 0, .bool false] T_wal_Log ::
      arr I64 T_int na nc nn :: arr FCL T_wal_file pa pc pp :: arr FCL T_wal_file aa ac xs :: many fcc xs :: dk dp d :: L) aa FCL xs := ⟨fun W h => by
        have h2 := St.wk (L' := arr FCL T_wal_file aa ac xs :: []) h
        have hr : Rd W0 (arr FCL T_wal_file aa ac xs :: []) aa FCL xs := inferInstance
        exact hr.ok W h2⟩
    (repeat (first | (first | ((with_reducible first | refine w1 ?_ | refine w3 ?_ | refine w4 ?_ | refine w11 ?_ | refine stb_n ?_); intros) | ((with_reducible first | refine v5 ?_ | refine v6 ?_ | refine v7 ?_ | refine ve ?_ | refine vn ?_); refine ⟨_, rfl, ?_⟩) | ((with_reducible first | refine v8 ?_ ?_ | refine v9 ?_ ?_ | refine v10 ?_ ?_ | refine v12 ?_ ?_); exact rfl; intros) | ((with_reducible refine w2 ?_); try simp -implicitDefEqProofs only [SE, SU, SV, hlt]; intros) | ((with_reducible refine w5 ?_ ?_); simp; refine ⟨_, rfl, ?_⟩) | ((with_reducible refine w12 ?_ ?_ ?_ ?_); simp; simp; simp [oneC]; intros) | (refine okF_i (bldP_eq rfl) ?_; try simp only [BLS, SB, Nat.reduceAdd])) | simp -implicitDefEqProofs only [SE, SU, SV, hlt]))
    refine joinK_i ?_
    refine ixA (i := i) (a := aa) (l := xs) (A := FCL) h rfl rfl hib fun g o ha => ?_
    refine ldA0 (i := i) (l := xs) (A := FCL) (hr := ha ▸ hrdx) h rfl hib (v := xs[i].v) rfl (by simp) ?_
    generalize xs[i] = x at *
    rw [x.v_eq]
    have f1 : decide ((x.turn : Int) = (tu : Int)) = true := decide_eq_true (by omega)
    (repeat (first | (first | ((with_reducible first | refine w1 ?_ | refine w3 ?_ | refine w4 ?_ | refine w11 ?_ | refine stb_n ?_); intros) | ((with_reducible first | refine v5 ?_ | refine v6 ?_ | refine v7 ?_ | refine ve ?_ | refine vn ?_); refine ⟨_, rfl, ?_⟩) | ((with_reducible first | refine v8 ?_ ?_ | refine v9 ?_ ?_ | refine v10 ?_ ?_ | refine v12 ?_ ?_); exact rfl; intros) | ((with_reducible refine w2 ?_); try simp -implicitDefEqProofs only [SE, SU, SV]; intros) | ((with_reducible refine w5 ?_ ?_); simp; refine ⟨_, rfl, ?_⟩) | ((with_reducible refine w12 ?_ ?_ ?_ ?_); simp; simp; simp [oneC]; intros) | (refine okF_i (bldP_eq rfl) ?_; try simp only [BLS, SB, Nat.reduceAdd])) | simp -implicitDefEqProofs only [SE, SU, SV]))
    rename_i pb _ _ W3 h
    (try simp only [BLS, SB, stL_a, stL_b, stL_c, List.append_nil, List.take_nil, List.drop_nil, Nat.reduceAdd] at h)
    refine joinK_i ?_
    have hJ5 : ∀ (a' : Option Addr) (c' : Nat) (pp' : List FC) W', pp' = pp ++ [x].filter (fun x => decide (x.kind = 1)) → St W0 (cells pb [.int .i64 x.num, .int .i64 (x.kind : Int), .int .i64 (x.index : Int), .int .u64 (x.turn : Int), .slice x.ra x.rows.length x.rc, .bool x.torn] T_wal_file ::
        cells q [.pointer (some ⟨dp, 0, none⟩), .int .i64 part, .int .i64 lives, .int .u64 (tu : Int), .slice na nn.length nc, .int .i64 (-1), .int .i64 0, .int .i64 0, .slice none 0 0, .slice bb.a bb.bs.length bb.c, .slice none 0 0, .bool false] T_wal_Log ::
        arr I64 T_int na nc nn :: arr FCL T_wal_file a' c' pp' :: arr FCL T_wal_file aa ac xs :: many fcc xs :: dk dp d :: L) W' →
        S.wal_Log_take.j5 (fun s W => S.wal_Log_take.j4 K (nthv s 0) (nthv s 1) (nthv s 2) (nthv s 3) (nthv s 4) (nthv s 5) W) (.pointer (some ⟨q, 0, none⟩)) (.func (.func F_wal_Log_take_1) #[] #[]) (.slice a' pp'.length c') (.pointer (some ⟨pb, 0, none⟩)) (.slice aa xs.length ac) (.int .i64 (xs.length : Int)) (.int .i64 (i : Int)) W' := by
      intro a' c' pp' W' hpp h
      unfold S.wal_Log_take.j5
      (repeat (first | (first | ((with_reducible first | refine w1 ?_ | refine w3 ?_ | refine w4 ?_ | refine w11 ?_ | refine stb_n ?_); intros) | ((with_reducible first | refine v5 ?_ | refine v6 ?_ | refine v7 ?_ | refine ve ?_ | refine vn ?_); refine ⟨_, rfl, ?_⟩) | ((with_reducible first | refine v8 ?_ ?_ | refine v9 ?_ ?_ | refine v10 ?_ ?_ | refine v12 ?_ ?_); exact rfl; intros) | ((with_reducible refine w2 ?_); try simp -implicitDefEqProofs only [SE, SU, SV]; intros) | ((with_reducible refine w5 ?_ ?_); simp; refine ⟨_, rfl, ?_⟩) | ((with_reducible refine w12 ?_ ?_ ?_ ?_); simp; simp; simp [oneC]; intros) | (refine okF_i (bldP_eq rfl) ?_; try simp only [BLS, SB, Nat.reduceAdd])) | simp -implicitDefEqProofs only [SE, SU, SV]))
      refine bsA I64 [x.num] (n := 1) (by first | assumption | exact St.tick (by assumption) | exact St.tick (St.tick (by assumption))) rfl rfl (by decide) (by decide) rfl fun a3 c3 W5 h => ?_
      (repeat (first | (first | ((with_reducible first | refine w1 ?_ | refine w3 ?_ | refine w4 ?_ | refine w11 ?_ | refine stb_n ?_); intros) | ((with_reducible first | refine v5 ?_ | refine v6 ?_ | refine v7 ?_ | refine ve ?_ | refine vn ?_); refine ⟨_, rfl, ?_⟩) | ((with_reducible first | refine v8 ?_ ?_ | refine v9 ?_ ?_ | refine v10 ?_ ?_ | refine v12 ?_ ?_); exact rfl; intros) | ((with_reducible refine w2 ?_); try simp -implicitDefEqProofs only [SE, SU, SV]; intros) | ((with_reducible refine w5 ?_ ?_); simp; refine ⟨_, rfl, ?_⟩) | ((with_reducible refine w12 ?_ ?_ ?_ ?_); simp; simp; simp [oneC]; intros) | (refine okF_i (bldP_eq rfl) ?_; try simp only [BLS, SB, Nat.reduceAdd])) | simp -implicitDefEqProofs only [SE, SU, SV]))
      refine appA (A := I64) (a := na) (l := nn) (m := [x.num]) (by first | assumption | exact St.tick (by assumption) | exact St.tick (St.tick (by assumption))) rfl (by simp; omega) (by simp [maxLen]; omega) fun a4 c4 W6 h => ?_
      (repeat (first | (first | ((with_reducible first | refine w1 ?_ | refine w3 ?_ | refine w4 ?_ | refine w11 ?_ | refine stb_n ?_); intros) | ((with_reducible first | refine v5 ?_ | refine v6 ?_ | refine v7 ?_ | refine ve ?_ | refine vn ?_); refine ⟨_, rfl, ?_⟩) | ((with_reducible first | refine v8 ?_ ?_ | refine v9 ?_ ?_ | refine v10 ?_ ?_ | refine v12 ?_ ?_); exact rfl; intros) | ((with_reducible refine w2 ?_); try simp -implicitDefEqProofs only [SE, SU, SV]; intros) | ((with_reducible refine w5 ?_ ?_); simp; refine ⟨_, rfl, ?_⟩) | ((with_reducible refine w12 ?_ ?_ ?_ ?_); simp; simp; simp [oneC]; intros) | (refine okF_i (bldP_eq rfl) ?_; try simp only [BLS, SB, Nat.reduceAdd])) | simp -implicitDefEqProofs only [SE, SU, SV]))
      rename_i h
      (try simp only [BLS, SB, stL_a, stL_b, stL_c, List.append_nil, List.take_nil, List.drop_nil, Nat.reduceAdd] at h)
      refine diskSync (d := d) (f := x.num) h.tick (by rw [hw]; simp) fun W7 h => ?_
      rw [sync_id hw] at h
      unfold S.wal_Log_take.j4
      (repeat (first | (first | ((with_reducible first | refine w1 ?_ | refine w3 ?_ | refine w4 ?_ | refine w11 ?_ | refine stb_n ?_); intros) | ((with_reducible first | refine v5 ?_ | refine v6 ?_ | refine v7 ?_ | refine ve ?_ | refine vn ?_); refine ⟨_, rfl, ?_⟩) | ((with_reducible first | refine v8 ?_ ?_ | refine v9 ?_ ?_ | refine v10 ?_ ?_ | refine v12 ?_ ?_); exact rfl; intros) | ((with_reducible refine w2 ?_); try simp -implicitDefEqProofs only [SE, SU, SV, ew]; intros) | ((with_reducible refine w5 ?_ ?_); simp; refine ⟨_, rfl, ?_⟩) | ((with_reducible refine w12 ?_ ?_ ?_ ?_); simp; simp; simp [oneC]; intros) | (refine okF_i (bldP_eq rfl) ?_; try simp only [BLS, SB, Nat.reduceAdd])) | simp -implicitDefEqProofs only [SE, SU, SV, ew]))
      subst hpp
      exact hK (a', c', a4, c4) _ hib (St.wk h)
    rcases k2 with ⟨k3, k4, k5, k6⟩ | ⟨k3, k5⟩
    · have f2 : decide ((x.kind : Int) = 1) = false := decide_eq_false (by omega)
      (repeat (first | (first | ((with_reducible first | refine w1 ?_ | refine w3 ?_ | refine w4 ?_ | refine w11 ?_ | refine stb_n ?_); intros) | ((with_reducible first | refine v5 ?_ | refine v6 ?_ | refine v7 ?_ | refine ve ?_ | refine vn ?_); refine ⟨_, rfl, ?_⟩) | ((with_reducible first | refine v8 ?_ ?_ | refine v9 ?_ ?_ | refine v10 ?_ ?_ | refine v12 ?_ ?_); exact rfl; intros) | ((with_reducible refine w2 ?_); try simp -implicitDefEqProofs only [SE, SU, SV, f1, f2]; intros) | ((with_reducible refine w5 ?_ ?_); simp; refine ⟨_, rfl, ?_⟩) | ((with_reducible refine w12 ?_ ?_ ?_ ?_); simp; simp; simp [oneC]; intros) | (refine okF_i (bldP_eq rfl) ?_; try simp only [BLS, SB, Nat.reduceAdd])) | simp -implicitDefEqProofs only [SE, SU, SV, f1, f2]))
      refine ⟨CBok _ (by kernel_rfl), ?_⟩
      refine callK_mono (walWhole x _) ?_
      rintro v W4 ⟨rfl, h4⟩
      rw [k5]
      (repeat (first | (first | ((with_reducible first | refine w1 ?_ | refine w3 ?_ | refine w4 ?_ | refine w11 ?_ | refine stb_n ?_); intros) | ((with_reducible first | refine v5 ?_ | refine v6 ?_ | refine v7 ?_ | refine ve ?_ | refine vn ?_); refine ⟨_, rfl, ?_⟩) | ((with_reducible first | refine v8 ?_ ?_ | refine v9 ?_ ?_ | refine v10 ?_ ?_ | refine v12 ?_ ?_); exact rfl; intros) | ((with_reducible refine w2 ?_); try simp -implicitDefEqProofs only [SE, SU, SV]; intros) | ((with_reducible refine w5 ?_ ?_); simp; refine ⟨_, rfl, ?_⟩) | ((with_reducible refine w12 ?_ ?_ ?_ ?_); simp; simp; simp [oneC]; intros) | (refine okF_i (bldP_eq rfl) ?_; try simp only [BLS, SB, Nat.reduceAdd])) | simp -implicitDefEqProofs only [SE, SU, SV]))
      refine hJ5 pa pc pp _ (by simp [k3]) (St.over0 (W := tick (tick W3)) h.tick.tick h4)
    · have f2 : decide ((x.kind : Int) = 1) = true := decide_eq_true (by omega)
      (repeat (first | (first | ((with_reducible first | refine w1 ?_ | refine w3 ?_ | refine w4 ?_ | refine w11 ?_ | refine stb_n ?_); intros) | ((with_reducible first | refine v5 ?_ | refine v6 ?_ | refine v7 ?_ | refine ve ?_ | refine vn ?_); refine ⟨_, rfl, ?_⟩) | ((with_reducible first | refine v8 ?_ ?_ | refine v9 ?_ ?_ | refine v10 ?_ ?_ | refine v12 ?_ ?_); exact rfl; intros) | ((with_reducible refine w2 ?_); try simp -implicitDefEqProofs only [SE, SU, SV, f1, f2]; intros) | ((with_reducible refine w5 ?_ ?_); simp; refine ⟨_, rfl, ?_⟩) | ((with_reducible refine w12 ?_ ?_ ?_ ?_); simp; simp; simp [oneC]; intros) | (refine okF_i (bldP_eq rfl) ?_; try simp only [BLS, SB, Nat.reduceAdd])) | simp -implicitDefEqProofs only [SE, SU, SV, f1, f2]))
      refine pushA (A := FCL) (l := pp) (a := pa) x (by first | assumption | exact St.tick (by assumption) | exact St.tick (St.tick (by assumption))) rfl rfl (by omega) (by simp only [maxLen]; omega) (by decide) fun a3 c3 W5 h => ?_
      (repeat (first | (first | ((with_reducible first | refine w1 ?_ | refine w3 ?_ | refine w4 ?_ | refine w11 ?_ | refine stb_n ?_); intros) | ((with_reducible first | refine v5 ?_ | refine v6 ?_ | refine v7 ?_ | refine ve ?_ | refine vn ?_); refine ⟨_, rfl, ?_⟩) | ((with_reducible first | refine v8 ?_ ?_ | refine v9 ?_ ?_ | refine v10 ?_ ?_ | refine v12 ?_ ?_); exact rfl; intros) | ((with_reducible refine w2 ?_); try simp -implicitDefEqProofs only [SE, SU, SV]; intros) | ((with_reducible refine w5 ?_ ?_); simp; refine ⟨_, rfl, ?_⟩) | ((with_reducible refine w12 ?_ ?_ ?_ ?_); simp; simp; simp [oneC]; intros) | (refine okF_i (bldP_eq rfl) ?_; try simp only [BLS, SB, Nat.reduceAdd])) | simp -implicitDefEqProofs only [SE, SU, SV]))
      exact hJ5 a3 c3 (pp ++ [x]) _ (by simp [k3]) (St.wk h)
  · have ei : xs.take i = xs := List.take_of_length_le (by omega)
    rw [ei] at h ⊢
    clear hK
    (repeat (first | (first | ((with_reducible first | refine w1 ?_ | refine w3 ?_ | refine w4 ?_ | refine w11 ?_ | refine stb_n ?_); intros) | ((with_reducible first | refine v5 ?_ | refine v6 ?_ | refine v7 ?_ | refine ve ?_ | refine vn ?_); refine ⟨_, rfl, ?_⟩) | ((with_reducible first | refine v8 ?_ ?_ | refine v9 ?_ ?_ | refine v10 ?_ ?_ | refine v12 ?_ ?_); exact rfl; intros) | ((with_reducible refine w2 ?_); try simp -implicitDefEqProofs only [SE, SU, SV, hlt]; intros) | ((with_reducible refine w5 ?_ ?_); simp; refine ⟨_, rfl, ?_⟩) | ((with_reducible refine w12 ?_ ?_ ?_ ?_); simp; simp; simp [oneC]; intros) | (refine okF_i (bldP_eq rfl) ?_; try simp only [BLS, SB, Nat.reduceAdd])) | simp -implicitDefEqProofs only [SE, SU, SV, hlt]))
    have h := St.wk (L' := cells q [.pointer (some ⟨dp, 0, none⟩), .int .i64 part, .int .i64 lives, .int .u64 (tu : Int), .slice na (xs.map FC.num).length nc, .int .i64 (-1), .int .i64 0, .int .i64 0, .slice none 0 0, .slice bb.a bb.bs.length bb.c, .slice none 0 0, .bool false] T_wal_Log ::
      arr FCL T_wal_file pa pc (xs.filter fun x => decide (x.kind = 1)) :: many fcc xs :: arr I64 T_int na nc (xs.map FC.num) :: dk dp d :: L) h
    refine walTakeJ2 hps1 (fun x hx => (List.mem_filter.1 hx).1) hP hrl h fun m ra rc W5 hm hmx h => ?_
    have hnum : (xs.map FC.fx).map (fun f => f.num) = xs.map FC.num := by rw [List.map_map]; rfl
    rw [hnum] at hk
    have hrec : (m.flatMap (·.rows)).map (fun x : BSl => x.bs) = (pfx tu 0 P).flatMap (·.recs) := by rw [List.map_flatMap, ← hmx, List.flatMap_map]; rfl
    have hlen2 : (P.length : Int) = ((pfx tu 0 P).length : Int) := by rw [pfx_len]
    rw [hlen2] at h
    have hfin : ∀ W', St W0 (fch bb :: many fch (m.flatMap (·.rows)) :: cells q [.pointer (some ⟨dp, 0, none⟩), .int .i64 part, .int .i64 lives, .int .u64 (tu : Int), .slice na (xs.map FC.num).length nc, .int .i64 (lastCur (pfx tu 0 P)), .int .i64 (lastCount (pfx tu 0 P)), .int .i64 ((pfx tu 0 P).length : Int), .slice none 0 0, .slice bb.a bb.bs.length bb.c, .slice ra (m.flatMap (·.rows)).length rc, .bool false] T_wal_Log ::
        arr BSY T_s_uint8 ra rc (m.flatMap (·.rows)) :: arr I64 T_int na nc (xs.map FC.num) :: dk dp d :: L) W' → k (.int .i64 0) W' := fun W' h => by
      have h := h.ent (arr_nil I64 T_int)
      have h := lg_mk q dp (openL part lives tu base (xs.map FC.num) (pfx tu 0 P)) na nc none 0 bb ra rc (m.flatMap fun x : FC => x.rows) h hbb hrec
      exact hk _ (St.wk h)
    have h := St.wk (L' := many fcc xs :: cells q [.pointer (some ⟨dp, 0, none⟩), .int .i64 part, .int .i64 lives, .int .u64 (tu : Int), .slice na (xs.map FC.num).length nc, .int .i64 (lastCur (pfx tu 0 P)), .int .i64 (lastCount (pfx tu 0 P)), .int .i64 ((pfx tu 0 P).length : Int), .slice none 0 0, .slice bb.a bb.bs.length bb.c, .slice ra (m.flatMap (·.rows)).length rc, .bool false] T_wal_Log ::
        arr BSY T_s_uint8 ra rc (m.flatMap (·.rows)) :: arr I64 T_int na nc (xs.map FC.num) :: dk dp d :: L) h
    rcases hown with ⟨g1, g2⟩ | ⟨x0, g1, g2⟩
    · subst g1
      have h := (h.ent (many_perm (F := fcc) (g2.trans hm.symm))).entd (rowsOut m _)
      exact hfin _ (h.ent (fch0 _))
    · have h := (h.ent (many_perm (F := fcc) (g2.trans (hm.symm.cons x0)))).entd (rowsOut (x0 :: m) _)
      rw [List.flatMap_cons, g1] at h
      exact hfin _ (h.ent (many_cons _ _))
end
end Go.Proofs.Ythladblmjoaeoaa
namespace Go.Proofs.Ythladblmjoaeoaa
set_option linter.unusedVariables false
set_option linter.unusedSimpArgs false
open Go Go.Eng

section
variable {W0 W : World} {L L' : List Asn} {dp : Nat} {d : DS} {k : Value → World → Prop}
/-- a disk of which a file is spoilt -/
theorem walOpenBad {part : Int} (h : St W0 L W) (h0 : W0.drawn = 0) [ht : Tk (dk dp) L d L'] (h1 : ¬ part < 1) (h2 : ¬ 1000 < part) (ho : d.on = true) (hd : d.ok) (hw : d.ws.length < 500000) (hks : ∀ x ∈ d.fs, 0 ≤ x.1 ∧ x.1 < 1000) (hnd : (d.fs.map (·.1)).Nodup)
    (hb : (readGo d d.files []).2 = none) (hk : ∀ W', St W0 (dk dp (readGo d d.files []).1 :: L') W' → k (.tuple #[.pointer none, .int .i64 3]) W') : callK PR F_wal_Open [.pointer (some ⟨dp, 0, none⟩), .int .i64 part] k W := by
  apply S.wal_Open.call
  unfold S.wal_Open.body
  (repeat (first | (first | ((with_reducible first | refine w1 ?_ | refine w3 ?_ | refine w4 ?_ | refine w11 ?_ | refine stb_n ?_); intros) | ((with_reducible first | refine v5 ?_ | refine v6 ?_ | refine v7 ?_ | refine ve ?_ | refine vn ?_); refine ⟨_, rfl, ?_⟩) | ((with_reducible first | refine v8 ?_ ?_ | refine v9 ?_ ?_ | refine v10 ?_ ?_ | refine v12 ?_ ?_); exact rfl; intros) | ((with_reducible refine w2 ?_); try simp -implicitDefEqProofs only [SE, SU, SV, h1, h2]; intros) | ((with_reducible refine w5 ?_ ?_); simp; refine ⟨_, rfl, ?_⟩) | ((with_reducible refine w12 ?_ ?_ ?_ ?_); simp; simp; simp [oneC]; intros) | (refine okF_i (bldP_eq rfl) ?_; try simp only [BLS, SB, Nat.reduceAdd])) | simp -implicitDefEqProofs only [SE, SU, SV, h1, h2]))
  refine diskPower (d := d) (by first | assumption | exact St.tick (by assumption) | exact St.tick (St.tick (by assumption))) fun W1 h => ?_
  rw [ho]
  (repeat (first | (first | ((with_reducible first | refine w1 ?_ | refine w3 ?_ | refine w4 ?_ | refine w11 ?_ | refine stb_n ?_); intros) | ((with_reducible first | refine v5 ?_ | refine v6 ?_ | refine v7 ?_ | refine ve ?_ | refine vn ?_); refine ⟨_, rfl, ?_⟩) | ((with_reducible first | refine v8 ?_ ?_ | refine v9 ?_ ?_ | refine v10 ?_ ?_ | refine v12 ?_ ?_); exact rfl; intros) | ((with_reducible refine w2 ?_); try simp -implicitDefEqProofs only [SE, SU, SV]; intros) | ((with_reducible refine w5 ?_ ?_); simp; refine ⟨_, rfl, ?_⟩) | ((with_reducible refine w12 ?_ ?_ ?_ ?_); simp; simp; simp [oneC]; intros) | (refine okF_i (bldP_eq rfl) ?_; try simp only [BLS, SB, Nat.reduceAdd])) | simp -implicitDefEqProofs only [SE, SU, SV]))
  refine walReadAll (p := dp) (d := d) (by first | assumption | exact St.tick (by assumption) | exact St.tick (St.tick (by assumption))) h0 ho hd hw hks hnd (fun _ W2 h => ?_) (fun all e => by rw [hb] at e; cases e)
  (repeat (first | (first | ((with_reducible first | refine w1 ?_ | refine w3 ?_ | refine w4 ?_ | refine w11 ?_ | refine stb_n ?_); intros) | ((with_reducible first | refine v5 ?_ | refine v6 ?_ | refine v7 ?_ | refine ve ?_ | refine vn ?_); refine ⟨_, rfl, ?_⟩) | ((with_reducible first | refine v8 ?_ ?_ | refine v9 ?_ ?_ | refine v10 ?_ ?_ | refine v12 ?_ ?_); exact rfl; intros) | ((with_reducible refine w2 ?_); try simp -implicitDefEqProofs only [SE, SU, SV]; intros) | ((with_reducible refine w5 ?_ ?_); simp; refine ⟨_, rfl, ?_⟩) | ((with_reducible refine w12 ?_ ?_ ?_ ?_); simp; simp; simp [oneC]; intros) | (refine okF_i (bldP_eq rfl) ?_; try simp only [BLS, SB, Nat.reduceAdd])) | simp -implicitDefEqProofs only [SE, SU, SV]))
  exact hk _ h
theorem walOpen {part : Int} {t : Nat} {bn : Int} {base : Bs} {P : List PT} {J : Fs} (h : St W0 L W) (h0 : W0.drawn = 0) [ht : Tk (dk dp) L d L'] (h1 : ¬ part < 1) (h2 : ¬ 1000 < part) (ho : d.on = true) (hd : d.ok) (hw : d.ws = []) (hg : GD t bn base P J d.fs) (hrl : (recsOf P).length < 500000)
    (hk : ∀ q fs' nums W', Live bn P P { d with fs := fs' } (openL part d.lives t base nums (pfx t 0 P)) → fs'.length ≤ d.fs.length → lens fs' ≤ lens d.fs → St W0 (lg q dp (openL part d.lives t base nums (pfx t 0 P)) :: dk dp { d with fs := fs' } :: L') W' → k (.tuple #[.pointer (some ⟨q, 0, none⟩), .int .i64 0]) W') :
    callK PR F_wal_Open [.pointer (some ⟨dp, 0, none⟩), .int .i64 part] k W := by
  obtain ⟨fs', all, e1, e2, e3, e4, e5⟩ := open_live part hg ho hw (files_perm ho)
  apply S.wal_Open.call
  unfold S.wal_Open.body
  (repeat (first | (first | ((with_reducible first | refine w1 ?_ | refine w3 ?_ | refine w4 ?_ | refine w11 ?_ | refine stb_n ?_); intros) | ((with_reducible first | refine v5 ?_ | refine v6 ?_ | refine v7 ?_ | refine ve ?_ | refine vn ?_); refine ⟨_, rfl, ?_⟩) | ((with_reducible first | refine v8 ?_ ?_ | refine v9 ?_ ?_ | refine v10 ?_ ?_ | refine v12 ?_ ?_); exact rfl; intros) | ((with_reducible refine w2 ?_); try simp -implicitDefEqProofs only [SE, SU, SV, h1, h2]; intros) | ((with_reducible refine w5 ?_ ?_); simp; refine ⟨_, rfl, ?_⟩) | ((with_reducible refine w12 ?_ ?_ ?_ ?_); simp; simp; simp [oneC]; intros) | (refine okF_i (bldP_eq rfl) ?_; try simp only [BLS, SB, Nat.reduceAdd])) | simp -implicitDefEqProofs only [SE, SU, SV, h1, h2]))
  refine diskPower (d := d) (by first | assumption | exact St.tick (by assumption) | exact St.tick (St.tick (by assumption))) fun W1 h => ?_
  rw [ho]
  (repeat (first | (first | ((with_reducible first | refine w1 ?_ | refine w3 ?_ | refine w4 ?_ | refine w11 ?_ | refine stb_n ?_); intros) | ((with_reducible first | refine v5 ?_ | refine v6 ?_ | refine v7 ?_ | refine ve ?_ | refine vn ?_); refine ⟨_, rfl, ?_⟩) | ((with_reducible first | refine v8 ?_ ?_ | refine v9 ?_ ?_ | refine v10 ?_ ?_ | refine v12 ?_ ?_); exact rfl; intros) | ((with_reducible refine w2 ?_); try simp -implicitDefEqProofs only [SE, SU, SV]; intros) | ((with_reducible refine w5 ?_ ?_); simp; refine ⟨_, rfl, ?_⟩) | ((with_reducible refine w12 ?_ ?_ ?_ ?_); simp; simp; simp [oneC]; intros) | (refine okF_i (bldP_eq rfl) ?_; try simp only [BLS, SB, Nat.reduceAdd])) | simp -implicitDefEqProofs only [SE, SU, SV]))
  refine walReadAll (p := dp) (d := d) (by first | assumption | exact St.tick (by assumption) | exact St.tick (St.tick (by assumption))) h0 ho hd (by rw [hw]; decide) hg.ks hg.nd (fun e => by rw [e1] at e; cases e) (fun all' e a c xs W2 hx h => ?_)
  rw [e1] at e h
  simp only [Option.some.injEq] at e h
  subst e
  have hxl : xs.length ≤ 1001 := by
    have q1 := e2.length_eq
    have q2 := hg.parts
    have q3 : (bfx t bn base).length ≤ 1 := by unfold bfx; split <;> simp
    rw [← hx, List.length_map, List.length_append, pfx_len] at q1
    omega
  (repeat (first | (first | ((with_reducible first | refine w1 ?_ | refine w3 ?_ | refine w4 ?_ | refine w11 ?_ | refine stb_n ?_); intros) | ((with_reducible first | refine v5 ?_ | refine v6 ?_ | refine v7 ?_ | refine ve ?_ | refine vn ?_); refine ⟨_, rfl, ?_⟩) | ((with_reducible first | refine v8 ?_ ?_ | refine v9 ?_ ?_ | refine v10 ?_ ?_ | refine v12 ?_ ?_); exact rfl; intros) | ((with_reducible refine w2 ?_); try simp -implicitDefEqProofs only [SE, SU, SV]; intros) | ((with_reducible refine w5 ?_ ?_); simp; refine ⟨_, rfl, ?_⟩) | ((with_reducible refine w12 ?_ ?_ ?_ ?_); simp; simp; simp [oneC]; intros) | (refine okF_i (bldP_eq rfl) ?_; try simp only [BLS, SB, Nat.reduceAdd])) | simp -implicitDefEqProofs only [SE, SU, SV]))
  refine diskLives (d := { d with fs := fs' }) (by first | assumption | exact St.tick (by assumption) | exact St.tick (St.tick (by assumption))) fun W3 h => ?_
  (repeat (first | (first | ((with_reducible first | refine w1 ?_ | refine w3 ?_ | refine w4 ?_ | refine w11 ?_ | refine stb_n ?_); intros) | ((with_reducible first | refine v5 ?_ | refine v6 ?_ | refine v7 ?_ | refine ve ?_ | refine vn ?_); refine ⟨_, rfl, ?_⟩) | ((with_reducible first | refine v8 ?_ ?_ | refine v9 ?_ ?_ | refine v10 ?_ ?_ | refine v12 ?_ ?_); exact rfl; intros) | ((with_reducible refine w2 ?_); try simp -implicitDefEqProofs only [SE, SU, SV]; intros) | ((with_reducible refine w5 ?_ ?_); simp; refine ⟨_, rfl, ?_⟩) | ((with_reducible refine w12 ?_ ?_ ?_ ?_); simp; simp; simp [oneC]; intros) | (refine okF_i (bldP_eq rfl) ?_; try simp only [BLS, SB, Nat.reduceAdd])) | simp -implicitDefEqProofs only [SE, SU, SV]))
  refine walTake (L := L') (part := part) (lives := d.lives) (aa := a) (ac := c) (dp := dp) (d := { d with fs := fs' }) (xs := xs) (t := t) (bn := bn) (P := P) (base := base) (by rw [hx]; exact e2) hg.b0 hg.tb hg.parts hxl hrl hw (St.wk (by first | assumption | exact St.tick (by assumption) | exact St.tick (St.tick (by assumption)))) fun W5 h => ?_
  rw [hx] at h
  (repeat (first | (first | ((with_reducible first | refine w1 ?_ | refine w3 ?_ | refine w4 ?_ | refine w11 ?_ | refine stb_n ?_); intros) | ((with_reducible first | refine v5 ?_ | refine v6 ?_ | refine v7 ?_ | refine ve ?_ | refine vn ?_); refine ⟨_, rfl, ?_⟩) | ((with_reducible first | refine v8 ?_ ?_ | refine v9 ?_ ?_ | refine v10 ?_ ?_ | refine v12 ?_ ?_); exact rfl; intros) | ((with_reducible refine w2 ?_); try simp -implicitDefEqProofs only [SE, SU, SV]; intros) | ((with_reducible refine w5 ?_ ?_); simp; refine ⟨_, rfl, ?_⟩) | ((with_reducible refine w12 ?_ ?_ ?_ ?_); simp; simp; simp [oneC]; intros) | (refine okF_i (bldP_eq rfl) ?_; try simp only [BLS, SB, Nat.reduceAdd])) | simp -implicitDefEqProofs only [SE, SU, SV]))
  exact hk _ fs' _ _ e3 e4 e5 h
end
end Go.Proofs.Ythladblmjoaeoaa
namespace Go.Proofs.Ythladblmjoaeoaa
set_option linter.unusedVariables false
set_option linter.unusedSimpArgs false
open Go Go.Eng

theorem mput_keys {fs : Fs} {f : Int} {v : Bs} (h : f ∈ fs.map (·.1)) : (mput fs f v).map (·.1) = fs.map (·.1) := by
  induction fs with
  | nil => cases h
  | cons p l ih =>
    obtain ⟨a, b⟩ := p
    by_cases e : a = f
    · subst e; simp [mput]
    · simp only [List.map_cons, List.mem_cons] at h
      simp only [mput, if_neg e, List.map_cons]
      rw [ih (h.resolve_left fun h => e h.symm)]
theorem crashGo_keys (keep torn : Int) (ws : List Wr) : ∀ (n : Nat) {fs : Fs}, (∀ w ∈ ws, w.1 ∈ fs.map (·.1)) → (crashGo keep torn ws n fs).map (·.1) = fs.map (·.1)
  | 0, _, _ => rfl
  | n + 1, fs, h => by
    unfold crashGo
    split
    · rfl
    · split
      · rename_i w hw
        have hk := h w (List.mem_of_getElem? hw)
        rw [crashGo_keys keep torn ws n (fun w' hw' => by rw [mput_keys hk]; exact h w' hw'), mput_keys hk]
      · rfl
theorem fitGo_pre {ws ws' : List Wr} {fs : Fs} {n : Nat} (hn : n ≤ ws.length) (h : fitGo ws n fs) : fitGo (ws ++ ws') n fs :=
  fitGo_congr n (fun i hi => by rw [List.getElem?_append_left (by omega)]) (fun _ => rfl) h
theorem crs_fit {t : Nat} {bn : Int} {base : Bs} {P P0 : List PT} {ws : List Wr} (hc : Crs t P ws P0) : ∀ {J fs : Fs}, GD t bn base P J fs → fitGo ws ws.length fs := by
  induction hc with
  | nil => exact fun _ => trivial
  | @old P p ws P0 r hcr ht hr ih =>
    intro J fs h
    rw [List.length_append, List.length_singleton]
    intro w hw
    rw [List.getElem?_append_right (Nat.le_refl _), Nat.sub_self] at hw
    cases hw
    have hcont := h.contLast
    simp only at hcont
    simp only [hcont, cP_add _ _ ht, Int.toNat_natCast, List.take_left]
    refine ⟨by omega, by simp; omega, trivial, fitGo_pre (Nat.le_refl _) (ih (h.setLast (q := p) rfl (by rw [ht]; exact Tail.nil) (fun x hx => h.rl _ (List.mem_append_right _ (List.mem_singleton.2 rfl)) x (by simp [hx])) rfl))⟩
  | @new P ws P0 f r hcr hr ih =>
    intro J fs h
    rw [List.length_append, List.length_singleton]
    intro w hw
    rw [List.getElem?_append_right (Nat.le_refl _), Nat.sub_self] at hw
    cases hw
    have hcont := h.contLast
    simp only at hcont
    simp only [hcont]
    refine ⟨by omega, by omega, trivial, fitGo_pre (Nat.le_refl _) (ih (h.cutLast (p := ⟨f, [r], []⟩) (c := []) (by simp)))⟩
theorem write_lives (d : DS) (l : LS) (f : Int) (b : Bs) : (LS.write d l f b).2.1.lives = l.lives := by unfold LS.write; split <;> rfl
theorem add_lives (d : DS) (l : LS) (r : Bs) : (LS.add d l r).2.1.lives = l.lives := by
  unfold LS.add
  split
  · exact write_lives _ _ _ _
  · split
    · rfl
    · exact write_lives _ _ _ _
theorem addGo_lives : ∀ (rs : List Bs) (d : DS) (l : LS), (addGo d l rs).2.1.lives = l.lives
  | [], _, _ => rfl
  | r :: rs, d, l => by
    unfold addGo
    split
    · exact add_lives _ _ _
    · rw [addGo_lives rs, add_lives]
theorem addAll_lives (d : DS) (l : LS) (rs : List Bs) : (LS.addAll d l rs).2.1.lives = l.lives := by
  unfold LS.addAll
  split
  · rfl
  · split
    · rfl
    · split
      · exact addGo_lives rs d l
      · exact addGo_lives rs d l
theorem keep_lives (d : DS) (l : LS) (b : Bs) : (LS.keep d l b).2.1.lives = l.lives := by
  unfold LS.keep
  split
  · rfl
  · split
    · rfl
    · split
      · rfl
      · split
        · exact write_lives _ _ _ _
        · rfl
/-- a log that lives, and its bounds -/
structure WV (n : Nat) (d : DS) (l : LS) (part : Int) (base : Bs) (all : List Bs) (safe : Nat) (room used : Int) (turns files : Nat) (nt : Bool) : Prop where
  live : ∃ bn P P0, Live bn P P0 d l ∧ recsOf P = all ∧ (recsOf P0).length = safe ∧ (nt = true → ∀ p ∈ P, p.tail = [])
  recs : l.recs = all
  part : l.part = part
  base : l.base = base
  room : d.room = room
  used : lens d.fs ≤ used
  nf : d.fs.length ≤ files
  tn : l.turn ≤ turns
  lok : LOk n d l
def cost (rs : List Bs) : Int := (rs.map fun r => 44 + (r.length : Int)).sum
theorem addGo_ok : ∀ (rs : List Bs) {n : Nat} {d : DS} {l : LS} {bn : Int} {P P0 : List PT} {part : Int} {files : Nat}, Live bn P P0 d l → LOk (n + rs.length) d l → (∀ r ∈ rs, r.length ≤ 65536) → l.part = part → 1 ≤ part → d.fs.length ≤ files → files + rs.length ≤ 1000 → lens d.fs + cost rs ≤ d.room →
    ∃ P', (addGo d l rs).2.2 = 0 ∧ Live bn P' P0 (addGo d l rs).1 (addGo d l rs).2.1 ∧ recsOf P' = recsOf P ++ rs ∧ (addGo d l rs).2.1.recs = l.recs ∧ (addGo d l rs).2.1.part = part ∧ (addGo d l rs).2.1.base = l.base ∧ lens (addGo d l rs).1.fs ≤ lens d.fs + cost rs ∧ (addGo d l rs).1.room = d.room ∧
      (addGo d l rs).1.fs.length ≤ files + rs.length ∧ (addGo d l rs).2.1.turn = l.turn ∧ LOk n (addGo d l rs).1 (addGo d l rs).2.1 ∧ ((∀ p ∈ P, p.tail = []) → ∀ p ∈ P', p.tail = [])
  | [], n, d, l, bn, P, P0, part, files, h, hL, hr, hp, hp1, hf, hf2, hroom => ⟨P, rfl, h, by simp, rfl, hp, rfl, by simp [cost, addGo], rfl, by simpa [addGo] using hf, rfl, hL, id⟩
  | r :: rs, n, d, l, bn, P, P0, part, files, h, hL, hr, hp, hp1, hf, hf2, hroom => by
    simp only [List.length_cons] at hf2 hL
    have hc : cost (r :: rs) = 44 + (r.length : Int) + cost rs := by simp [cost]
    have hc0 : 0 ≤ cost rs := by
      clear hc hroom hf2 hr hL
      induction rs with
      | nil => simp [cost]
      | cons a l ih => simp only [cost, List.map_cons, List.sum_cons] at *; omega
    rw [hc] at hroom
    obtain ⟨P', a1, a2, a3, a4, a5, a6, a7, a8, a9, a10, a11, a12⟩ := h.add (r := r) (hr r (by simp)) (by omega) (by omega) (.inr (by omega))
    have hL2 := LOk.add (n := n + rs.length) hL r
    obtain ⟨P'', b1, b2, b3, b4, b5, b6, b7, b8, b9, b10, b11, b12⟩ := addGo_ok rs (files := files + 1) a2 hL2 (fun x hx => hr x (by simp [hx])) (a5.trans hp) hp1 (by omega) (by omega) (by rw [a8]; omega)
    have e : addGo d l (r :: rs) = addGo (LS.add d l r).1 (LS.add d l r).2.1 rs := by rw [addGo, if_neg (fun hh => hh a1)]
    rw [e]
    exact ⟨P'', b1, b2, by rw [b3, a3, List.append_assoc]; rfl, b4.trans a4, b5, b6.trans a6, by rw [hc]; omega, b8.trans a8, by simp only [List.length_cons]; omega, b10.trans a11, b11, fun h => b12 (a12 h)⟩
section
variable {n : Nat} {d : DS} {l : LS} {part : Int} {base : Bs} {all : List Bs} {safe : Nat} {room used : Int} {turns files : Nat} {nt : Bool}
theorem WV.done (h : WV n d l part base all safe room used turns files nt) : l.done d = false := by
  obtain ⟨bn, P, P0, h1, _⟩ := h.live; exact h1.done
theorem WV.addAll {rs : List Bs} (h : WV (n + rs.length) d l part base all safe room used turns files nt) (hr : ∀ r ∈ rs, r.length ≤ 65536) (hp : 1 ≤ part) (hf : files + rs.length ≤ 1000) (hroom : used + cost rs ≤ room) :
    (LS.addAll d l rs).2.2 = 0 ∧ WV n (LS.addAll d l rs).1 (LS.addAll d l rs).2.1 part base (all ++ rs) safe room (used + cost rs) turns (files + rs.length) nt := by
  obtain ⟨bn, P, P0, h1, h2, h3, h4⟩ := h.live
  obtain ⟨P', a1, a2, a3, a4, a5, a6, a7, a8, a9, a10, a11, a12⟩ := addGo_ok rs h1 h.lok hr h.part hp h.nf hf (by have := h.used; have := h.room; omega)
  have hany : (rs.any fun r => decide (65536 < r.length)) = false := by
    rw [List.any_eq_false]; intro r hr2; have := hr r hr2; simp; omega
  have e : LS.addAll d l rs = ((addGo d l rs).1, { (addGo d l rs).2.1 with recs := (addGo d l rs).2.1.recs ++ rs }, 0) := by
    unfold LS.addAll
    rw [h.done, hany, if_neg (by simp), if_neg (by simp), if_neg (fun hh => hh a1)]
  rw [e]
  refine ⟨rfl, ⟨bn, P', P0, ⟨a2.gd, a2.nums, a2.idx, a2.cur, a2.full, a2.lives, a2.on, a2.crs, a2.dirt, a2.dirk⟩, by rw [a3, h2], h3, fun hn => a12 (h4 hn)⟩, ?_, a5, a6.trans h.base, a8.trans h.room, ?_, a9, ?_, ⟨a11.ok, a11.ws, a11.nums, a11.dirty, a11.turn, a11.index, a11.count⟩⟩
  · show (addGo d l rs).2.1.recs ++ rs = _
    rw [a4, h.recs]
  · have := h.used; show lens (addGo d l rs).1.fs ≤ _; omega
  · show (addGo d l rs).2.1.turn ≤ _; rw [a10]; exact h.tn
theorem WV.sync (h : WV n d l part base all safe room used turns files nt) : (LS.sync d l).2.2 = 0 ∧ WV n (LS.sync d l).1 (LS.sync d l).2.1 part base all all.length room used turns files nt := by
  obtain ⟨bn, P, P0, h1, h2, h3, h5⟩ := h.live
  obtain ⟨e, h4⟩ := h1.sync
  obtain ⟨g1, g2, g3, g4, g5, g6, g7⟩ := h.lok
  rw [e]
  exact ⟨rfl, ⟨bn, P, P, h4, h2, by rw [h2], h5⟩, h.recs, h.part, h.base, h.room, h.used, h.nf, h.tn, ⟨g1, by show ([] : List Wr).length + n < _; simp; omega, g3, by show ([] : List Int).length + n < _; simp; omega, g5, g6, g7⟩⟩
theorem WV.keep {b : Bs} (h : WV (n + 1) d l part base all safe room used turns files nt) (hb : b.length ≤ 65536) (hf : files < 1000) (ht : turns + 1 < 2 ^ 62) (hroom : used + 44 + (b.length : Int) ≤ room) :
    (LS.keep d l b).2.2 = 0 ∧ WV n (LS.keep d l b).1 (LS.keep d l b).2.1 part b [] 0 room (44 + (b.length : Int)) (turns + 1) 1 nt := by
  obtain ⟨bn, P, P0, h1, h2, h3, _⟩ := h.live
  have := h.used
  have := h.room
  have htn := h.tn
  have := h.nf
  obtain ⟨g1, g2, g3, g4, g5, g6, g7⟩ := h.lok
  obtain ⟨bn', a1, a2, a3, a4, a5, a6, a7, a8, a9, a10⟩ := h1.keep hb (by omega) (by omega) (by omega)
  have hws : (LS.keep d l b).1.ws = [] := by
    have := a2.crs
    generalize (LS.keep d l b).1.ws = ws at this
    cases ws with
    | nil => rfl
    | cons w ws => obtain ⟨p, hp, _⟩ := this.nums w (by simp); cases hp
  have hnl : (LS.keep d l b).2.1.nums.length = 1 := by rw [a2.nlen, a9]
  have hdl : (LS.keep d l b).2.1.dirty.length ≤ l.dirty.length + 1 ∧ 0 ≤ (LS.keep d l b).2.1.count ∧ (LS.keep d l b).2.1.count ≤ l.count := by
    have hc := g7.1
    unfold LS.keep at a1 ⊢
    rw [h1.done] at a1 ⊢
    simp only [Bool.false_eq_true, if_false] at a1 ⊢
    rw [if_neg (by omega)] at a1 ⊢
    split at a1
    · cases a1
    · rename_i c1
      rw [if_neg c1]
      split at a1
      · rename_i c2; exact absurd a1 c2
      · rename_i c2
        rw [if_neg c2]
        simp only [List.length_nil]
        omega
  have := lens_nonneg d.fs
  have hok : (LS.keep d l b).1.ok := ⟨by rw [a8]; exact g1.1, by rw [a8]; exact g1.2.1, by rw [a8]; have := g1.2.2; omega⟩
  refine ⟨a1, ⟨bn', [], [], a2, rfl, rfl, fun _ p hp => (by cases hp)⟩, a4, a5.trans h.part, a3, a8.trans h.room, a7, by omega, by rw [a6]; omega, ⟨hok, by rw [hws]; simp; omega, by omega, ?_, by rw [a6]; omega, by rw [a2.idx]; simp; omega, ⟨hdl.2.1, by omega⟩⟩⟩
  have : (LS.keep d l b).2.1.dirty = [] := by
    have h5 := a2.dirk
    clear hnl hws hok a3 a4 a5 a6 a7 a8 a9 a10
    unfold LS.keep at a1 ⊢
    rw [h1.done] at a1 ⊢
    simp only [Bool.false_eq_true, if_false] at a1 ⊢
    rw [if_neg (by omega)] at a1 ⊢
    split at a1
    · cases a1
    · rename_i c1
      rw [if_neg c1]
      split at a1
      · rename_i c2; exact absurd a1 c2
      · rename_i c2
        rw [if_neg c2]
  rw [this]; simp; omega
/-- behind a fall -/
theorem WV.crash (h : WV n d l part base all safe room used turns files nt) (keep torn : Int) : ∃ t bn P' J m, GD t bn base P' J (d.crash keep torn).fs ∧ t ≤ turns ∧ recsOf P' = all.take m ∧ safe ≤ m ∧ m ≤ all.length ∧ (keep ≤ 0 → torn ≤ 0 → m = safe) ∧
    lens (d.crash keep torn).fs ≤ used ∧ (d.crash keep torn).fs.length ≤ files ∧ (d.crash keep torn).ok ∧ (d.crash keep torn).room = room ∧ d.fit := by
  obtain ⟨bn, P, P0, h1, h2, h3, _⟩ := h.live
  have hg := h1.gd
  rw [h.base] at hg
  obtain ⟨P', J, m, a1, a2, a3, a4, a5⟩ := crash_gd h1.crs keep torn hg
  refine ⟨l.turn, bn, P', J, m, a1, h.tn, by rw [a2, h2], by omega, by rw [← h2]; exact a4, fun h4 h5 => by rw [a5 h4 h5, h3], ?_, ?_, h.lok.ok.crash keep torn, h.room, crs_fit h1.crs hg⟩
  · exact Int.le_trans (lens_crash _ _ _ _ _) h.used
  · have := congrArg List.length (crashGo_keys keep torn d.ws d.ws.length (fs := d.fs) fun w hw => h1.dirk _ (h1.dirt w hw))
    simp only [List.length_map] at this
    have := h.nf
    show (crashGo keep torn d.ws d.ws.length d.fs).length ≤ files
    omega
/-- a log that was just opened -/
theorem WV.opened {bn : Int} {P : List PT} (h : Live bn P P d l) (hw : d.ws = []) (hl : l.recs = recsOf P) (hp : l.part = part) (hb : l.base = base) (hroom : d.room = room) (hu : lens d.fs ≤ used) (hf : d.fs.length ≤ files) (ht : l.turn ≤ turns) (ht2 : turns < 2 ^ 62) (hd : d.ok) (hn : (recsOf P).length + n < 400000) (hd2 : l.dirty = [])
    (hc : 0 ≤ l.count ∧ l.count ≤ (recsOf P).length) (hnt : nt = true → ∀ p ∈ P, p.tail = []) : WV n d l part base (recsOf P) (recsOf P).length room used turns files nt := by
  have h2 := h.gd.parts
  have h3 := h.gd.files
  refine ⟨⟨bn, P, P, h, rfl, rfl, hnt⟩, hl, hp, hb, hroom, hu, hf, ht, ⟨hd, by rw [hw]; simp; omega, by rw [h.nlen]; omega, by rw [hd2]; simp; omega, by omega, by rw [h.idx]; omega, ⟨hc.1, by omega⟩⟩⟩
end
theorem lastCount_le : ∀ (l : List FX), 0 ≤ lastCount l ∧ lastCount l ≤ ((l.flatMap (·.recs)).length : Int)
  | [] => ⟨Int.le_refl _, Int.le_refl _⟩
  | [f] => by simp [lastCount]
  | f :: g :: l => by
    have := lastCount_le (g :: l)
    refine ⟨this.1, ?_⟩
    show lastCount (g :: l) ≤ _
    simp only [List.flatMap_cons, List.length_append] at this ⊢
    omega
/-- a byte of a file is another one: that is told -/
theorem spoilt_read {t : Nat} {bn : Int} {base : Bs} {P : List PT} {d : DS} {f : Int} {i : Nat} {x : UInt8} {ns : List Int} (h : GD t bn base P [] d.fs) (ht : ∀ p ∈ P, p.tail = []) (hf : f ∈ d.fs.map (·.1)) (hx : (cont d.fs f).set i x ≠ cont d.fs f) (hns : ∀ g, g ∈ ns ↔ g ∈ d.fs.map (·.1)) :
    readGo { d with fs := mput d.fs f ((cont d.fs f).set i x) } ns [] = ({ d with fs := mput d.fs f ((cont d.fs f).set i x) }, none) := by
  obtain ⟨c, hc⟩ := mem_keys hf
  have hcont := cont_mem h.nd hc
  rw [hcont] at hx ⊢
  have hbad : parse f (c.set i x) = none := by
    rcases List.mem_append.1 (h.pm.subset hc) with hm | hm
    · unfold bfs at hm
      split at hm
      · cases hm
      · have e := List.mem_singleton.1 hm
        have e2 : c = topB 0 t 0 ++ units [base] := by rw [show c = cB t base from congrArg Prod.snd e]; simp [cB, units]
        rw [e2] at hx ⊢
        exact parse_spoilt (by simpa using h.bl) hx
    · rw [List.append_nil] at hm
      have : ∀ (P : List PT) (j : Nat), (∀ p ∈ P, p.tail = []) → (∀ p ∈ P, ∀ r ∈ p.recs, r.length ≤ 65536) → (f, c) ∈ pfs t j P → parse f (c.set i x) = none := by
        intro P
        induction P with
        | nil => intro j _ _ hm; cases hm
        | cons p P ih =>
          intro j h1 h2 hm
          rcases List.mem_cons.1 hm with e | hm
          · have e2 : c = topB 1 t j ++ units p.recs := by rw [show c = cP t j p from congrArg Prod.snd e, cP, h1 p (by simp), List.append_nil]
            rw [e2] at hx ⊢
            exact parse_spoilt (h2 p (by simp)) hx
          · exact ih (j + 1) (fun q hq => h1 q (by simp [hq])) (fun q hq => h2 q (by simp [hq])) hm
      exact this P 0 ht h.rl hm
  have hother : ∀ g ∈ d.fs.map (·.1), parse g (cont d.fs g) ≠ some none := by
    intro g hg
    obtain ⟨c2, hc2⟩ := mem_keys hg
    rw [cont_mem h.nd hc2]
    rcases List.mem_append.1 (h.pm.subset hc2) with hm | hm
    · obtain ⟨y, hy⟩ := (rd_bfs (bn := bn) h.tb h.bl).2 _ hm
      rw [show parse g c2 = some (some y) from hy]; simp
    · rw [List.append_nil] at hm
      obtain ⟨y, hy⟩ := (rd_pfs h.tb P 0 (by have := h.parts; omega) h.tl h.rl).2 _ hm
      rw [show parse g c2 = some (some y) from hy]; simp
  refine readGo_bad ns (fun g hg => ?_) ⟨f, (hns f).2 hf, ?_⟩
  · show parse g (cont (mput d.fs f (c.set i x)) g) ≠ _
    rw [cont_put]
    split
    · rename_i e; rw [← e, hbad]; simp
    · exact hother g ((hns g).1 hg)
  · show parse f (cont (mput d.fs f (c.set i x)) f) = none
    rw [cont_put, if_pos rfl, hbad]
end Go.Proofs.Ythladblmjoaeoaa
namespace Go.Proofs.Ythladblmjoaeoaa
set_option linter.unusedVariables false
set_option linter.unusedSimpArgs false
open Go.Eng
/-! ### rostrum/rostrumlaw5.awake (14) -/
def S.rostrumlaw5_awake.body (R : Value → World → Prop) (W : World) : Prop :=
  callK PR F_disk_New [(.int .i64 64)] (fun v12 W =>
  okF (extP 0 v12) fun v13 =>
  okF (extP 1 v12) fun v14 =>
  okF (binP .neq v14 (.int .i64 0)) fun v16 =>
  gdK (wantd v16 false) (fun k W => k v13 W) (fun v18 W =>
  gdK (wantd v16 false) (fun k W => okF (eqP (.pointer T_disk_Disk) .eql v18 (.pointer none)) fun v => k v W) (fun v19 W =>
  okF (pickP v16 (.bool true) v19) fun v20 =>
  ifK v20 (
  R (.bool false) W) (
  efK PR (Instr.buildSlice T_s_uint8 2 #[(0, (.int .u8 120)), (1, (.int .u8 121))]) (fun v22 W =>
  efK PR (convert T_s_uint8 T_s_uint8 v22) (fun v23 W =>
  callK PR F_disk_Disk_Append [v13, (.int .i64 0), v23] (fun v24 W =>
  efK PR (Instr.buildSlice T_s_uint8 2 #[(0, (.int .u8 122)), (1, (.int .u8 122))]) (fun v26 W =>
  efK PR (convert T_s_uint8 T_s_uint8 v26) (fun v27 W =>
  callK PR F_disk_Disk_Append [v13, (.int .i64 1), v27] (fun v28 W =>
  callK PR F_disk_Disk_Crash [v13, (.int .i64 1), (.int .i64 1)] (fun v30 W =>
  callK PR F_disk_Disk_Read [v13, (.int .i64 0)] (fun v33 W =>
  okF (extP 0 v33) fun v34 =>
  okF (extP 1 v33) fun v35 =>
  callK PR F_disk_Disk_On [v13] (fun v37 W =>
  callK PR F_disk_Disk_Read [v13, (.int .i64 0)] (fun v40 W =>
  okF (extP 0 v40) fun v41 =>
  okF (extP 1 v40) fun v42 =>
  callK PR F_disk_Disk_Read [v13, (.int .i64 1)] (fun v45 W =>
  okF (extP 0 v45) fun v46 =>
  okF (extP 1 v45) fun v47 =>
  okF (binP .eql v24 (.int .i64 0)) fun v49 =>
  gdK (wantd v49 true) (fun k W => k v28 W) (fun v51 W =>
  gdK (wantd v49 true) (fun k W => okF (binP .eql v51 (.int .i64 0)) fun v => k v W) (fun v52 W =>
  okF (pickP v49 v52 (.bool false)) fun v53 =>
  gdK (wantd v53 true) (fun k W => k v35 W) (fun v55 W =>
  gdK (wantd v53 true) (fun k W => okF (binP .eql v55 (.int .i64 7)) fun v => k v W) (fun v56 W =>
  okF (pickP v53 v56 (.bool false)) fun v57 =>
  gdK (wantd v57 true) (fun k W => k v42 W) (fun v59 W =>
  gdK (wantd v57 true) (fun k W => okF (binP .eql v59 (.int .i64 0)) fun v => k v W) (fun v60 W =>
  okF (pickP v57 v60 (.bool false)) fun v61 =>
  gdK (wantd v61 true) (fun k W => k v47 W) (fun v63 W =>
  gdK (wantd v61 true) (fun k W => okF (binP .eql v63 (.int .i64 0)) fun v => k v W) (fun v64 W =>
  okF (pickP v61 v64 (.bool false)) fun v65 =>
  gdK (wantd v65 true) (fun k W => k v41 W) (fun v67 W =>
  gdK (wantd v65 true) (fun k W => rdK PR (convert T_s_uint8 T_string v67) k W) (fun v68 W =>
  gdK (wantd v65 true) (fun k W => okF (binP .eql v68 (.string ⟨#[120, 121]⟩)) fun v => k v W) (fun v69 W =>
  okF (pickP v65 v69 (.bool false)) fun v70 =>
  gdK (wantd v70 true) (fun k W => k v46 W) (fun v72 W =>
  gdK (wantd v70 true) (fun k W => rdK PR (convert T_s_uint8 T_string v72) k W) (fun v73 W =>
  gdK (wantd v70 true) (fun k W => okF (binP .eql v73 (.string ⟨#[122]⟩)) fun v => k v W) (fun v74 W =>
  okF (pickP v70 v74 (.bool false)) fun v75 =>
  gdK (wantd v75 true) (fun k W => k v13 W) (fun v77 W =>
  gdK (wantd v75 true) (fun k W => callK PR F_disk_Disk_Lives [v77] k W) (fun v78 W =>
  gdK (wantd v75 true) (fun k W => okF (binP .eql v78 (.int .i64 2)) fun v => k v W) (fun v79 W =>
  okF (pickP v75 v79 (.bool false)) fun v80 =>
  gdK (wantd v80 true) (fun k W => k v13 W) (fun v82 W =>
  gdK (wantd v80 true) (fun k W => callK PR F_disk_Disk_Power [v82] k W) (fun v83 W =>
  okF (pickP v80 v83 (.bool false)) fun v84 =>
  R v84 W) W) W) W) W) W) W) W) W) W) W) W) W) W) W) W) W) W) W) W) W) W) W) W) W) W) W) W) W) W) W)) W) W) W
def S.rostrumlaw5_awake.hint : Hint := (.two .nil (.two .nil (.two (.two .nil (.two (.two .nil .nil) .nil)) (.two .nil (.two .nil (.two .nil (.two .nil (.two .nil (.two .nil (.two .nil .nil))))))))))
theorem S.rostrumlaw5_awake.ok (R : Value → World → Prop) (W : World) : bodyK PR CB Try.f14 S.rostrumlaw5_awake.hint [] R W = S.rostrumlaw5_awake.body R  W := by kernel_rfl
theorem S.rostrumlaw5_awake.fn : PR.funcs[F_rostrumlaw5_awake]? = some Try.f14 := by kernel_rfl
theorem S.rostrumlaw5_awake.call {R : Value → World → Prop} {W : World} (h : S.rostrumlaw5_awake.body R  W) : callK PR F_rostrumlaw5_awake [] R W :=
  callK_of_body (g := F_rostrumlaw5_awake) (fn := Try.f14) (args := []) (R := R) (w := W) mixed CBok S.rostrumlaw5_awake.fn S.rostrumlaw5_awake.hint (by rw [S.rostrumlaw5_awake.ok]; exact h)
/-! ### rostrum/rostrumlaw5.DiskOrder (3) -/
def S.rostrumlaw5_DiskOrder.l1 (R : Value → World → Prop) (K1 : List Value → World → Prop) (x7 x11 x14 : Value) (W : World) : Prop :=
  okF (binP .lss x14 (.int .i64 4)) fun v115 =>
  ifK v115 (
  callK PR F_disk_Disk_Read [x7, x14] (fun v121 W =>
  okF (extP 0 v121) fun v122 =>
  okF (extP 1 v121) fun v123 =>
  rdK PR (convert T_s_uint8 T_string v122) (fun v125 W =>
  okF (idxA 4 1 x11 x14) fun v127 =>
  rdK PR (Instr.loadAt T_string v127) (fun v128 W =>
  okF (binP .neq v125 v128) fun v129 =>
  ifK v129 (
  R (.bool false) W) (
  okF (binP .add x14 (.int .i64 1)) fun v117 =>
  K1 [x7, x11, v117] W)) W) (tick W)) W) (
  R (.bool true) W)
def S.rostrumlaw5_DiskOrder.j2 (R : Value → World → Prop) (x7 x11 : Value) (W : World) : Prop :=
  loopK (fun K1 s W => S.rostrumlaw5_DiskOrder.l1 R K1 (nthv s 0) (nthv s 1) (nthv s 2) W) [x7, x11, (.int .i64 0)] W
def S.rostrumlaw5_DiskOrder.j3 (K2 : List Value → World → Prop) (x0 x1 x2 x7 x11 x12 x13 : Value) (W : World) : Prop :=
  okF (idxS 6 x0 x12) fun v98 =>
  okF (addrF 1 v98) fun v99 =>
  rdK PR (Instr.loadAt T_int v99) (fun v100 W =>
  okF (binP .and v100 (.int .i64 3)) fun v101 =>
  okF (idxS 6 x0 x12) fun v104 =>
  okF (addrF 1 v104) fun v105 =>
  rdK PR (Instr.loadAt T_int v105) (fun v106 W =>
  okF (binP .and v106 (.int .i64 3)) fun v107 =>
  okF (idxA 4 1 x11 v107) fun v108 =>
  rdK PR (Instr.loadAt T_string v108) (fun v109 W =>
  rdK PR (convert T_s_uint8 T_string x13) (fun v111 W =>
  okF (binP .add v109 v111) fun v112 =>
  okF (idxA 4 1 x11 v101) fun v113 =>
  efK PR (Instr.storeAt T_string v113 v112) (fun _ W =>
  okF (binP .add x12 (.int .i64 1)) fun v73 =>
  K2 [x0, x1, x2, x7, x11, v73] W) W) W) W) W) (tick W)
def S.rostrumlaw5_DiskOrder.l2 (J2 : List Value → World → Prop) (K2 : List Value → World → Prop) (x0 x1 x2 x7 x11 x12 : Value) (W : World) : Prop :=
  okF (lenP (.slice T_rostrumlaw5_Act) x0) fun v70 =>
  okF (binP .lss x12 v70) fun v71 =>
  ifK v71 (
  okF (idxS 6 x0 x12) fun v76 =>
  okF (addrF 5 v76) fun v77 =>
  rdK PR (Instr.loadAt T_s_uint8 v77) (fun v78 W =>
  joinK (fun s W => S.rostrumlaw5_DiskOrder.j3 K2 (nthv s 0) (nthv s 1) (nthv s 2) (nthv s 3) (nthv s 4) (nthv s 5) (nthv s 6) W) (fun J3 =>
  okF (binP .geq x12 x1) fun v81 =>
  ifK v81 (
  okF (binP .gtr x12 x1) fun v84 =>
  gdK (wantd v84 false) (fun k W => k x2 W) (fun v86 W =>
  gdK (wantd v84 false) (fun k W => okF (binP .leq v86 (.int .i64 0)) fun v => k v W) (fun v87 W =>
  okF (pickP v84 (.bool true) v87) fun v88 =>
  ifK v88 (
  J3 [x0, x1, x2, x7, x11, x12, (.slice none 0 0)] W) (
  okF (lenP (.slice T_uint8) v78) fun v91 =>
  okF (binP .lss x2 v91) fun v92 =>
  ifK v92 (
  okF (slcS 1 v78 none (some x2) none) fun v95 =>
  J3 [x0, x1, x2, x7, x11, x12, v95] W) (
  J3 [x0, x1, x2, x7, x11, x12, v78] W))) W) W) (
  J3 [x0, x1, x2, x7, x11, x12, v78] W))) W) (
  J2 [x7, x11] W)
def S.rostrumlaw5_DiskOrder.j1 (R : Value → World → Prop) (x0 x1 x2 x7 : Value) (W : World) : Prop :=
  callK PR F_disk_Disk_Crash [x7, x1, x2] (fun v64 W =>
  callK PR F_disk_Disk_On [x7] (fun v66 W =>
  okF (bldP (fun i => some (i * 1, 1)) [.string ⟨#[]⟩, .string ⟨#[]⟩, .string ⟨#[]⟩, .string ⟨#[]⟩] []) fun v67 =>
  efK PR (Instr.alloc T_a4_string true (.tuple #[])) (fun v11 W =>
  efK PR (Instr.storeAt T_a4_string v11 v67) (fun _ W =>
  joinK (fun s W => S.rostrumlaw5_DiskOrder.j2 R (nthv s 0) (nthv s 1) W) (fun J2 =>
  loopK (fun K2 s W => S.rostrumlaw5_DiskOrder.l2 J2 K2 (nthv s 0) (nthv s 1) (nthv s 2) (nthv s 3) (nthv s 4) (nthv s 5) W) [x0, x1, x2, x7, v11, (.int .i64 0)] W)) W) W) W) W
def S.rostrumlaw5_DiskOrder.l3 (R : Value → World → Prop) (J1 : List Value → World → Prop) (K3 : List Value → World → Prop) (x0 x1 x2 x7 x9 x10 : Value) (W : World) : Prop :=
  okF (lenP (.slice T_rostrumlaw5_Act) x0) fun v28 =>
  okF (binP .lss x10 v28) fun v29 =>
  ifK v29 (
  okF (idxS 6 x0 x10) fun v34 =>
  okF (addrF 5 v34) fun v35 =>
  rdK PR (Instr.loadAt T_s_uint8 v35) (fun v36 W =>
  okF (lenP (.slice T_uint8) v36) fun v37 =>
  okF (binP .gtr v37 (.int .i64 200)) fun v38 =>
  ifK v38 (
  R (.bool true) W) (
  okF (idxS 6 x0 x10) fun v42 =>
  okF (addrF 1 v42) fun v43 =>
  rdK PR (Instr.loadAt T_int v43) (fun v44 W =>
  okF (binP .and v44 (.int .i64 3)) fun v45 =>
  okF (idxS 6 x0 x10) fun v48 =>
  okF (addrF 5 v48) fun v49 =>
  rdK PR (Instr.loadAt T_s_uint8 v49) (fun v50 W =>
  callK PR F_disk_Disk_Append [x7, v45, v50] (fun v51 W =>
  okF (binP .neq v51 (.int .i64 0)) fun v52 =>
  ifK v52 (
  R (.bool false) W) (
  okF (idxS 6 x0 x10) fun v56 =>
  okF (addrF 5 v56) fun v57 =>
  rdK PR (Instr.loadAt T_s_uint8 v57) (fun v58 W =>
  okF (lenP (.slice T_uint8) v58) fun v59 =>
  okF (binP .add x9 v59) fun v60 =>
  okF (binP .add x10 (.int .i64 1)) fun v31 =>
  K3 [x0, x1, x2, x7, v60, v31] W) W)) W) W) (tick W))) W) (
  J1 [x0, x1, x2, x7] W)
def S.rostrumlaw5_DiskOrder.body (R : Value → World → Prop) (v0 v1 v2 : Value) (W : World) : Prop :=
  callK PR F_rostrumlaw5_awake [] (fun v17 W =>
  okF (unP .not v17) fun v18 =>
  ifK v18 (
  R (.bool false) W) (
  okF (lenP (.slice T_rostrumlaw5_Act) v0) fun v20 =>
  okF (binP .gtr v20 (.int .i64 30)) fun v21 =>
  ifK v21 (
  R (.bool true) W) (
  callK PR F_disk_New [(.int .i64 65536)] (fun v23 W =>
  okF (extP 0 v23) fun v24 =>
  okF (extP 1 v23) fun v25 =>
  joinK (fun s W => S.rostrumlaw5_DiskOrder.j1 R (nthv s 0) (nthv s 1) (nthv s 2) (nthv s 3) W) (fun J1 =>
  loopK (fun K3 s W => S.rostrumlaw5_DiskOrder.l3 R J1 K3 (nthv s 0) (nthv s 1) (nthv s 2) (nthv s 3) (nthv s 4) (nthv s 5) W) [v0, v1, v2, v24, (.int .i64 0), (.int .i64 0)] W)) W))) W
def S.rostrumlaw5_DiskOrder.hint : Hint := (.two .nil (.two (.two .nil (.two (.two .nil .nil) .nil)) (.two (.two .nil (.two (.two .nil .nil) .nil)) (.two .nil (.two .nil (.at [0, 1, 2, 7] (.two .nil (.at [0, 1, 2, 7, 9, 10] (.two (.two .nil (.two .nil .nil)) (.two (.two (.two .nil (.two (.two .nil .nil) .nil)) (.two (.two .nil (.two (.two .nil .nil) .nil)) .nil)) .nil)) .nil)) (.two .nil (.two .nil (.two .nil (.at [7, 11] (.two .nil (.at [0, 1, 2, 7, 11, 12] (.two (.two .nil (.two .nil .nil)) (.two (.two .nil (.at [0, 1, 2, 7, 11, 12, 13] (.two .nil (.two (.two .nil (.two .nil (.two .nil (.two .nil .nil)))) .nil)) .nil)) .nil)) .nil)) (.two (.two .nil (.at [7, 11, 14] (.two (.two .nil (.two .nil .nil)) (.two (.two .nil (.two .nil (.two (.two .nil .nil) .nil))) .nil)) .nil)) (.two .nil .nil))))))))))))
theorem S.rostrumlaw5_DiskOrder.ok (R : Value → World → Prop) (v0 v1 v2 : Value) (W : World) : bodyK PR CB Try.f3 S.rostrumlaw5_DiskOrder.hint [v0, v1, v2] R W = S.rostrumlaw5_DiskOrder.body R v0 v1 v2 W := by kernel_rfl
theorem S.rostrumlaw5_DiskOrder.fn : PR.funcs[F_rostrumlaw5_DiskOrder]? = some Try.f3 := by kernel_rfl
theorem S.rostrumlaw5_DiskOrder.call {R : Value → World → Prop} {v0 v1 v2 : Value} {W : World} (h : S.rostrumlaw5_DiskOrder.body R v0 v1 v2 W) : callK PR F_rostrumlaw5_DiskOrder [v0, v1, v2] R W :=
  callK_of_body (g := F_rostrumlaw5_DiskOrder) (fn := Try.f3) (args := [v0, v1, v2]) (R := R) (w := W) mixed CBok S.rostrumlaw5_DiskOrder.fn S.rostrumlaw5_DiskOrder.hint (by rw [S.rostrumlaw5_DiskOrder.ok]; exact h)
/-! ### rostrum/rostrumlaw5.DiskApart (4) -/
def S.rostrumlaw5_DiskApart.body (R : Value → World → Prop) (v0 : Value) (W : World) : Prop :=
  callK PR F_rostrumlaw5_awake [] (fun v10 W =>
  okF (unP .not v10) fun v11 =>
  ifK v11 (
  R (.bool false) W) (
  okF (lenP (.slice T_uint8) v0) fun v13 =>
  okF (binP .lss v13 (.int .i64 1)) fun v14 =>
  gdK (wantd v14 false) (fun k W => k v0 W) (fun v16 W =>
  gdK (wantd v14 false) (fun k W => okF (lenP (.slice T_uint8) v16) fun v => k v W) (fun v17 W =>
  gdK (wantd v14 false) (fun k W => okF (binP .gtr v17 (.int .i64 100)) fun v => k v W) (fun v18 W =>
  okF (pickP v14 (.bool true) v18) fun v19 =>
  ifK v19 (
  R (.bool true) W) (
  callK PR F_disk_New [(.int .i64 1000)] (fun v21 W =>
  okF (extP 0 v21) fun v22 =>
  okF (extP 1 v21) fun v23 =>
  efK PR (Instr.buildSlice T_s_uint8 0 #[]) (fun v24 W =>
  efK PR (Builtin.append_ #[T_s_uint8, T_s_uint8] T_s_uint8 #[v24, v0]) (fun v26 W =>
  callK PR F_disk_Disk_Append [v22, (.int .i64 3), v26] (fun v29 W =>
  okF (idxS 1 v26 (.int .i64 0)) fun v31 =>
  rdK PR (Instr.loadAt T_uint8 v31) (fun v32 W =>
  okF (binP .add v32 (.int .u8 1)) fun v33 =>
  okF (idxS 1 v26 (.int .i64 0)) fun v34 =>
  efK PR (Instr.storeAt T_uint8 v34 v33) (fun _ W =>
  callK PR F_disk_Disk_Read [v22, (.int .i64 3)] (fun v37 W =>
  okF (extP 0 v37) fun v38 =>
  okF (extP 1 v37) fun v39 =>
  okF (lenP (.slice T_uint8) v38) fun v41 =>
  okF (lenP (.slice T_uint8) v0) fun v43 =>
  okF (binP .neq v41 v43) fun v44 =>
  ifK v44 (
  R (.bool false) W) (
  okF (idxS 1 v38 (.int .i64 0)) fun v46 =>
  rdK PR (Instr.loadAt T_uint8 v46) (fun v47 W =>
  okF (binP .add v47 (.int .u8 1)) fun v48 =>
  okF (idxS 1 v38 (.int .i64 0)) fun v49 =>
  efK PR (Instr.storeAt T_uint8 v49 v48) (fun _ W =>
  callK PR F_disk_Disk_Read [v22, (.int .i64 3)] (fun v52 W =>
  okF (extP 0 v52) fun v53 =>
  okF (extP 1 v52) fun v54 =>
  okF (binP .eql v54 (.int .i64 0)) fun v56 =>
  gdK (wantd v56 true) (fun k W => k v53 W) (fun v58 W =>
  gdK (wantd v56 true) (fun k W => rdK PR (convert T_s_uint8 T_string v58) k W) (fun v59 W =>
  gdK (wantd v56 true) (fun k W => k v0 W) (fun v60 W =>
  gdK (wantd v56 true) (fun k W => rdK PR (convert T_s_uint8 T_string v60) k W) (fun v61 W =>
  gdK (wantd v56 true) (fun k W => okF (binP .eql v59 v61) fun v => k v W) (fun v62 W =>
  okF (pickP v56 v62 (.bool false)) fun v63 =>
  R v63 W) W) W) W) W) W) W) W) W)) W) W) W) W) W) W) W)) W) W) W)) W
def S.rostrumlaw5_DiskApart.hint : Hint := (.two .nil (.two (.two .nil (.two (.two .nil .nil) .nil)) (.two (.two .nil (.two (.two .nil .nil) .nil)) (.two .nil (.two .nil (.two .nil (.two .nil (.two .nil (.two (.two .nil (.two (.two .nil .nil) .nil)) (.two .nil (.two .nil (.two .nil .nil))))))))))))
theorem S.rostrumlaw5_DiskApart.ok (R : Value → World → Prop) (v0 : Value) (W : World) : bodyK PR CB Try.f4 S.rostrumlaw5_DiskApart.hint [v0] R W = S.rostrumlaw5_DiskApart.body R v0 W := by kernel_rfl
theorem S.rostrumlaw5_DiskApart.fn : PR.funcs[F_rostrumlaw5_DiskApart]? = some Try.f4 := by kernel_rfl
theorem S.rostrumlaw5_DiskApart.call {R : Value → World → Prop} {v0 : Value} {W : World} (h : S.rostrumlaw5_DiskApart.body R v0 W) : callK PR F_rostrumlaw5_DiskApart [v0] R W :=
  callK_of_body (g := F_rostrumlaw5_DiskApart) (fn := Try.f4) (args := [v0]) (R := R) (w := W) mixed CBok S.rostrumlaw5_DiskApart.fn S.rostrumlaw5_DiskApart.hint (by rw [S.rostrumlaw5_DiskApart.ok]; exact h)
/-! ### rostrum/rostrumlaw5.DiskSafe (5) -/
def S.rostrumlaw5_DiskSafe.j1 (R : Value → World → Prop) (x0 x1 x2 x3 x9 x11 : Value) (W : World) : Prop :=
  callK PR F_disk_Disk_Crash [x9, x2, x3] (fun v70 W =>
  callK PR F_disk_Disk_On [x9] (fun v72 W =>
  callK PR F_disk_Disk_Read [x9, (.int .i64 7)] (fun v75 W =>
  okF (extP 0 v75) fun v76 =>
  okF (extP 1 v75) fun v77 =>
  okF (binP .eql v77 (.int .i64 0)) fun v79 =>
  gdK (wantd v79 true) (fun k W => k v76 W) (fun v81 W =>
  gdK (wantd v79 true) (fun k W => okF (lenP (.slice T_uint8) v81) fun v => k v W) (fun v82 W =>
  gdK (wantd v79 true) (fun k W => k x0 W) (fun v83 W =>
  gdK (wantd v79 true) (fun k W => okF (lenP (.slice T_uint8) v83) fun v => k v W) (fun v84 W =>
  gdK (wantd v79 true) (fun k W => okF (binP .geq v82 v84) fun v => k v W) (fun v85 W =>
  okF (pickP v79 v85 (.bool false)) fun v86 =>
  gdK (wantd v86 true) (fun k W => k v76 W) (fun v88 W =>
  gdK (wantd v86 true) (fun k W => okF (lenP (.slice T_uint8) v88) fun v => k v W) (fun v89 W =>
  gdK (wantd v86 true) (fun k W => k x11 W) (fun v90 W =>
  gdK (wantd v86 true) (fun k W => okF (lenP .string v90) fun v => k v W) (fun v91 W =>
  gdK (wantd v86 true) (fun k W => okF (binP .leq v89 v91) fun v => k v W) (fun v92 W =>
  okF (pickP v86 v92 (.bool false)) fun v93 =>
  gdK (wantd v93 true) (fun k W => k v76 W) (fun v95 W =>
  gdK (wantd v93 true) (fun k W => rdK PR (convert T_s_uint8 T_string v95) k W) (fun v96 W =>
  gdK (wantd v93 true) (fun k W => k x11 W) (fun v97 W =>
  gdK (wantd v93 true) (fun k W => k v76 W) (fun v98 W =>
  gdK (wantd v93 true) (fun k W => okF (lenP (.slice T_uint8) v98) fun v => k v W) (fun v99 W =>
  gdK (wantd v93 true) (fun k W => okF (slcStr v97 none (some v99)) fun v => k v W) (fun v100 W =>
  gdK (wantd v93 true) (fun k W => okF (binP .eql v96 v100) fun v => k v W) (fun v101 W =>
  okF (pickP v93 v101 (.bool false)) fun v102 =>
  gdK (wantd v102 true) (fun k W => k x2 W) (fun v104 W =>
  gdK (wantd v102 true) (fun k W => k x1 W) (fun v105 W =>
  gdK (wantd v102 true) (fun k W => okF (lenP (.slice T_s_uint8) v105) fun v => k v W) (fun v106 W =>
  gdK (wantd v102 true) (fun k W => okF (binP .lss v104 v106) fun v => k v W) (fun v107 W =>
  gdK (wantd v102 true) (fun k W => k v107 W) (fun v108 W =>
  gdK (wantd v108 false) (fun k W => k v76 W) (fun v109 W =>
  gdK (wantd v108 false) (fun k W => rdK PR (convert T_s_uint8 T_string v109) k W) (fun v110 W =>
  gdK (wantd v108 false) (fun k W => k x11 W) (fun v111 W =>
  gdK (wantd v108 false) (fun k W => okF (binP .eql v110 v111) fun v => k v W) (fun v112 W =>
  gdK (wantd v102 true) (fun k W => okF (pickP v108 (.bool true) v112) fun v => k v W) (fun v113 W =>
  okF (pickP v102 v113 (.bool false)) fun v114 =>
  R v114 W) W) W) W) W) W) W) W) W) W) W) W) W) W) W) W) W) W) W) W) W) W) W) W) W) W) W) (tick W)) W) W) W
def S.rostrumlaw5_DiskSafe.j2 (K1 : List Value → World → Prop) (x0 x1 x2 x3 x9 x11 x12 : Value) (W : World) : Prop :=
  okF (binP .add x12 (.int .i64 1)) fun v41 =>
  K1 [x0, x1, x2, x3, x9, x11, v41] W
def S.rostrumlaw5_DiskSafe.l1 (R : Value → World → Prop) (J1 : List Value → World → Prop) (K1 : List Value → World → Prop) (x0 x1 x2 x3 x9 x11 x12 : Value) (W : World) : Prop :=
  okF (lenP (.slice T_s_uint8) x1) fun v38 =>
  okF (binP .lss x12 v38) fun v39 =>
  ifK v39 (
  joinK (fun s W => S.rostrumlaw5_DiskSafe.j2 K1 (nthv s 0) (nthv s 1) (nthv s 2) (nthv s 3) (nthv s 4) (nthv s 5) (nthv s 6) W) (fun J2 =>
  okF (idxS 1 x1 x12) fun v44 =>
  rdK PR (Instr.loadAt T_s_uint8 v44) (fun v45 W =>
  okF (lenP (.slice T_uint8) v45) fun v46 =>
  okF (binP .gtr v46 (.int .i64 100)) fun v47 =>
  ifK v47 (
  R (.bool true) W) (
  okF (binP .rem x12 (.int .i64 3)) fun v50 =>
  okF (binP .add v50 (.int .i64 6)) fun v51 =>
  okF (idxS 1 x1 x12) fun v54 =>
  rdK PR (Instr.loadAt T_s_uint8 v54) (fun v55 W =>
  callK PR F_disk_Disk_Append [x9, v51, v55] (fun v56 W =>
  okF (binP .rem x12 (.int .i64 3)) fun v58 =>
  okF (binP .eql v58 (.int .i64 1)) fun v59 =>
  ifK v59 (
  okF (idxS 1 x1 x12) fun v63 =>
  rdK PR (Instr.loadAt T_s_uint8 v63) (fun v64 W =>
  rdK PR (convert T_s_uint8 T_string v64) (fun v65 W =>
  okF (binP .add x11 v65) fun v66 =>
  J2 [x0, x1, x2, x3, x9, v66, x12] W) W) W) (
  J2 [x0, x1, x2, x3, x9, x11, x12] W)) W) W)) W)) (
  J1 [x0, x1, x2, x3, x9, x11] W)
def S.rostrumlaw5_DiskSafe.body (R : Value → World → Prop) (v0 v1 v2 v3 : Value) (W : World) : Prop :=
  callK PR F_rostrumlaw5_awake [] (fun v15 W =>
  okF (unP .not v15) fun v16 =>
  ifK v16 (
  R (.bool false) W) (
  okF (lenP (.slice T_uint8) v0) fun v18 =>
  okF (binP .gtr v18 (.int .i64 200)) fun v19 =>
  gdK (wantd v19 false) (fun k W => k v1 W) (fun v21 W =>
  gdK (wantd v19 false) (fun k W => okF (lenP (.slice T_s_uint8) v21) fun v => k v W) (fun v22 W =>
  gdK (wantd v19 false) (fun k W => okF (binP .gtr v22 (.int .i64 20)) fun v => k v W) (fun v23 W =>
  okF (pickP v19 (.bool true) v23) fun v24 =>
  ifK v24 (
  R (.bool true) W) (
  callK PR F_disk_New [(.int .i64 65536)] (fun v26 W =>
  okF (extP 0 v26) fun v27 =>
  okF (extP 1 v26) fun v28 =>
  callK PR F_disk_Disk_Append [v27, (.int .i64 7), v0] (fun v31 W =>
  callK PR F_disk_Disk_Sync [v27, (.int .i64 7)] (fun v33 W =>
  rdK PR (convert T_s_uint8 T_string v0) (fun v35 W =>
  joinK (fun s W => S.rostrumlaw5_DiskSafe.j1 R (nthv s 0) (nthv s 1) (nthv s 2) (nthv s 3) (nthv s 4) (nthv s 5) W) (fun J1 =>
  loopK (fun K1 s W => S.rostrumlaw5_DiskSafe.l1 R J1 K1 (nthv s 0) (nthv s 1) (nthv s 2) (nthv s 3) (nthv s 4) (nthv s 5) (nthv s 6) W) [v0, v1, v2, v3, v27, v35, (.int .i64 0)] W)) W) W) W) W)) W) W) W)) W
def S.rostrumlaw5_DiskSafe.hint : Hint := (.two .nil (.two (.two .nil (.two (.two .nil .nil) .nil)) (.two (.two .nil (.two (.two .nil .nil) .nil)) (.two .nil (.two .nil (.two .nil (.two .nil (.at [0, 1, 2, 3, 9, 11] (.two .nil (.at [0, 1, 2, 3, 9, 11, 12] (.two (.two .nil (.two .nil .nil)) (.at [0, 1, 2, 3, 9, 11, 12] (.two (.two .nil (.two (.two .nil .nil) .nil)) (.two .nil (.two .nil (.two .nil .nil)))) .nil)) .nil)) (.two .nil (.two .nil (.two .nil (.two .nil .nil))))))))))))
theorem S.rostrumlaw5_DiskSafe.ok (R : Value → World → Prop) (v0 v1 v2 v3 : Value) (W : World) : bodyK PR CB Try.f5 S.rostrumlaw5_DiskSafe.hint [v0, v1, v2, v3] R W = S.rostrumlaw5_DiskSafe.body R v0 v1 v2 v3 W := by kernel_rfl
theorem S.rostrumlaw5_DiskSafe.fn : PR.funcs[F_rostrumlaw5_DiskSafe]? = some Try.f5 := by kernel_rfl
theorem S.rostrumlaw5_DiskSafe.call {R : Value → World → Prop} {v0 v1 v2 v3 : Value} {W : World} (h : S.rostrumlaw5_DiskSafe.body R v0 v1 v2 v3 W) : callK PR F_rostrumlaw5_DiskSafe [v0, v1, v2, v3] R W :=
  callK_of_body (g := F_rostrumlaw5_DiskSafe) (fn := Try.f5) (args := [v0, v1, v2, v3]) (R := R) (w := W) mixed CBok S.rostrumlaw5_DiskSafe.fn S.rostrumlaw5_DiskSafe.hint (by rw [S.rostrumlaw5_DiskSafe.ok]; exact h)
end Go.Proofs.Ythladblmjoaeoaa
namespace Go.Eng
set_option linter.unusedVariables false
set_option linter.unusedSimpArgs false
open Go Go.RowKit Go.ChangeShapes Go.WideShapes Go.Deep

inductive Cl where
  | int (k : IntKind)
  | str
  | bool
  | sl (e : List Cl)

mutual
inductive GoodC (W : World) : Cl → Value → Prop where
  | int {k : IntKind} {n : Int} (h : (Lit.int k n).wf = true) : GoodC W (.int k) (.int k n)
  | str {s : ByteArray} (h : s.size ≤ maxLen) : GoodC W .str (.string s)
  | bool {b : Bool} : GoodC W .bool (.bool b)
  | sl {e : List Cl} {a : Option Addr} {n c : Nat} (rows : Nat → List Value) (hc : n ≤ c) (hm : c ≤ maxLen) (hn : a = none → c = 0)
      (hr : ∀ i, i < n → ∃ b o, a = some ⟨b, o, none⟩ ∧ ro W b (o + i * e.length) (rows i)) (hg : ∀ i, i < n → GoodL W e (rows i)) : GoodC W (.sl e) (.slice a n c)
inductive GoodL (W : World) : List Cl → List Value → Prop where
  | nil : GoodL W [] []
  | cons {c : Cl} {cs : List Cl} {v : Value} {vs : List Value} (h : GoodC W c v) (hs : GoodL W cs vs) : GoodL W (c :: cs) (v :: vs)
end

theorem GoodL.app {W : World} : ∀ {l : List Cl} {vs : List Value} {l' : List Cl} {vs' : List Value}, GoodL W l vs → GoodL W l' vs' → GoodL W (l ++ l') (vs ++ vs')
  | _, _, _, _, .nil, h => h
  | _, _, _, _, .cons h hs, h' => .cons h (hs.app h')
theorem GoodL.len {W : World} : ∀ {l : List Cl} {vs : List Value}, GoodL W l vs → vs.length = l.length
  | _, _, .nil => rfl
  | _, _, .cons h hs => by simp [hs.len]

def clF (P : Program) (g : TypeId → Option (List Cl)) : List Field → Nat → Option (List Cl)
  | [], _ => some []
  | f :: r, off => match Nat.beq f.offset off with
    | false => none
    | true => match g f.type with
      | some ks => match Nat.beq (P.cellsOf f.type) ks.length with
        | true => (match clF P g r (off + ks.length) with | some l => some (ks ++ l) | none => none)
        | false => none
      | none => none
/-- the cells of a type -/
def cls (P : Program) : Nat → TypeId → Option (List Cl)
  | 0, _ => none
  | d + 1, t => match P.underlying t with
    | some (.int k) => some [.int k]
    | some .string => some [.str]
    | some .bool => some [.bool]
    | some (.slice e) => (match cls P d e with | some l => (match Nat.beq (P.cellsOf e) l.length && !Nat.beq l.length 0 with | true => some [.sl l] | false => none) | none => none)
    | some (.struct fs) => (match clF P (cls P d) fs.toList 0 with | some l => (match Nat.beq (P.cellsOf t) l.length with | true => some l | false => none) | none => none)
    | some (.array n e) => (match cls P d e with | some l => (match Nat.beq (P.cellsOf e) l.length && Nat.beq (P.cellsOf t) (n * l.length) with | true => some (List.replicate n l).flatten | false => none) | none => none)
    | _ => none

section
variable {P : Program} {w : World} {H : Type} {enc : TypeId × Value → H}

theorem good_fields {g : TypeId → Option (List Cl)} {n : Nat} {cs : List Value}
    (hg : ∀ t l, g t = some l → ∀ cs x, DataW.trod enc P w 0 (fun _ => true) true n t cs = some x → GoodL w l cs) :
    ∀ (fs : List Field) (off : Nat) (l : List Cl), clF P g fs off = some l → (∀ f ∈ fs, ∃ x, DataW.trod enc P w 0 (fun _ => true) true n f.type ((cs.drop f.offset).take (P.cellsOf f.type)) = some x) →
      GoodL w l ((cs.drop off).take l.length)
  | [], off, l, h, _ => by simp only [clF, Option.some.injEq] at h; subst h; simpa using GoodL.nil
  | f :: fs, off, l, h, hx => by
    simp only [clF] at h
    split at h
    · cases h
    · rename_i ho
      have ho := Nat.eq_of_beq_eq_true ho
      split at h
      · rename_i ks hks
        split at h
        · rename_i hsz
          have hsz := Nat.eq_of_beq_eq_true hsz
          split at h
          · rename_i l' hl'
            simp only [Option.some.injEq] at h
            subst h
            obtain ⟨x, hx0⟩ := hx f (by simp)
            rw [hsz, ho] at hx0
            have h1 := hg _ _ hks _ _ hx0
            have h2 := good_fields hg fs _ _ hl' (fun f' hf' => hx f' (List.mem_cons_of_mem _ hf'))
            have := h1.app h2
            rw [← List.drop_drop, ← List.take_add] at this
            simpa using this
          · cases h
        · cases h
      · cases h

theorem open_cls : ∀ (m : Nat) (t : TypeId) (l : List Cl), cls P m t = some l → ∀ (fuel : Nat) (cs : List Value) (x : DataW H × List MemPlace), DataW.trod enc P w 0 (fun _ => true) true fuel t cs = some x → GoodL w l cs
  | 0, _, _, h => by simp [cls] at h
  | m + 1, t, l, h => by
    intro fuel cs x hx
    simp only [cls] at h
    cases ht : P.underlying t with
    | none => rw [ht] at h; cases h
    | some d =>
      rw [ht] at h
      cases d <;> simp only at h <;> try (cases h; done)
      case int k =>
        simp only [Option.some.injEq] at h
        subst h
        obtain ⟨n, rfl, _, hw⟩ := DataW.trod_int ht hx
        exact .cons (.int hw) .nil
      case string =>
        simp only [Option.some.injEq] at h
        subst h
        obtain ⟨n, rfl, _, hw⟩ := DataW.trod_string ht hx
        exact .cons (.str hw) .nil
      case bool =>
        simp only [Option.some.injEq] at h
        subst h
        obtain ⟨n, rfl, _⟩ := DataW.trod_bool ht hx
        exact .cons .bool .nil
      case slice e =>
        split at h
        · rename_i le hle
          split at h
          · rename_i hb
            simp only [Bool.and_eq_true, Bool.not_eq_true'] at hb
            have hsz := Nat.eq_of_beq_eq_true hb.1
            have hpos : 0 < le.length := Nat.pos_of_ne_zero fun e => by rw [e] at hb; simp at hb
            simp only [Option.some.injEq] at h
            subst h
            rcases open_slice ht hx with ⟨rfl, _⟩ | ⟨a, len, cap, mm, n, D, Pl, rfl, hb0, hl, hmx, hmm, rfl, hel⟩
            · exact .cons (.sl (fun _ => []) (by omega) (by simp [maxLen]) (fun _ => rfl) (fun i hi => by omega) (fun i hi => by omega)) .nil
            · simp only [if_true] at hmm
              subst hmm
              rw [hsz] at hel
              obtain ⟨rows, hrows⟩ := choose_lt (α := List Value) (p := fun i cs' => w.cells? 0 (a.add (i * le.length)) le.length = some cs' ∧ DataW.trod enc P w 0 (fun _ => true) true n e cs' = some (D i, Pl i)) hel
              refine .cons (.sl rows hl hmx (fun h => by cases h) (fun i hi => ?_) (fun i hi => open_cls m e le hle n _ _ (hrows i (by omega)).2)) .nil
              obtain ⟨_, hlen0, hcell0⟩ := World.cells?_some (hrows 0 (by omega)).1
              obtain ⟨_, hlen, hcell⟩ := World.cells?_some (hrows i (by omega)).1
              have h0 : ∃ v, w.cell? a = some v := by
                have := hcell0 0 hpos
                simp only [Nat.zero_mul, Addr.add, if_true] at this
                rw [this]
                exact ⟨(rows 0)[0]'(by omega), by simp⟩
              obtain ⟨v, hv⟩ := h0
              have hsp := World.cell?_spot hv
              obtain ⟨ab, ao, asp⟩ := a
              simp only at hsp
              subst hsp
              refine ⟨ab, ao, rfl, fun j hj => ?_⟩
              have := hcell j (by omega)
              rw [add_none, add_none] at this
              exact this
          · cases h
        · cases h
      case struct fs =>
        split at h
        · rename_i l' hl'
          split at h
          · rename_i hsz
            have hsz := Nat.eq_of_beq_eq_true hsz
            simp only [Option.some.injEq] at h
            subst h
            obtain ⟨xs, n, rfl, rfl, hlen, hxs, hf⟩ := DataW.trod_struct ht hx
            have := good_fields (cs := cs) (fun t l hl cs x hx => open_cls m t l hl n cs x hx) fs.toList 0 l' hl' (fun f hf' => by
              obtain ⟨i, hi, rfl⟩ := List.getElem_of_mem hf'
              have hi' : i < fs.size := by simpa using hi
              have := hf i fs[i] (by simp [hi'])
              rw [show fs.toList[i] = fs[i] by simp, this]
              exact ⟨xs[i]'(by omega), by simp⟩)
            rw [← hsz, ← hlen] at this
            simpa using this
          · cases h
        · cases h
      case array k e =>
        split at h
        · rename_i le hle
          split at h
          · rename_i hb
            simp only [Bool.and_eq_true] at hb
            have hsz := Nat.eq_of_beq_eq_true hb.1
            have hsz2 := Nat.eq_of_beq_eq_true hb.2
            simp only [Option.some.injEq] at h
            subst h
            obtain ⟨xs, n, rfl, rfl, hlen, hxs, hf⟩ := DataW.trod_array ht hx
            rw [hsz2] at hlen
            rw [hsz] at hf
            have key : ∀ j, j ≤ k → GoodL w (List.replicate j le).flatten (cs.take (j * le.length)) := by
              intro j
              induction j with
              | zero => intro _; simpa using GoodL.nil
              | succ j ih =>
                intro hj
                have h1 := hf j (by omega)
                have h2 : GoodL w le ((cs.drop (j * le.length)).take le.length) := by
                  refine open_cls m e le hle n _ (xs[j]'(by omega)) ?_
                  rw [h1]; simp
                have := (ih (by omega)).app h2
                rw [← List.take_add] at this
                rw [List.replicate_succ', List.flatten_append, Nat.succ_mul]
                simpa using this
            have := key k (Nat.le_refl _)
            rw [← hlen] at this
            simpa using this
          · cases h
        · cases h

/-- an argument of a law -/
def GoodA (w : World) (l : List Cl) (agg : Bool) (v : Value) : Prop := GoodL w l (vcells v) ∧ (agg = true → ∃ cs : List Value, v = .agg cs.toArray) ∧ (agg = false → vcells v = [v])
theorem open_arg {t : TypeId} {l : List Cl} {agg : Bool} {m : Nat} {v : Value} {d : DataW H} {ps : List MemPlace} {r : Reach} {b0 : Nat} (hl : cls P m t = some l) (ha : (P.underlying t).map aggB = some agg)
    (hval : Value.okWide P w r b0 t v) (h : DataW.Trod enc P w 0 (fun _ => true) true t v d ps) : GoodA w l agg v := by
  obtain ⟨fuel, hf⟩ := h
  obtain ⟨u, hu, hu'⟩ := Option.map_eq_some_iff.1 ha
  refine ⟨by have := open_cls m t l hl _ _ _ hf; rwa [vcells_eq] at this, fun hagg => ?_, fun hagg => ?_⟩
  · subst hagg
    cases u <;> simp only [aggB] at hu' <;> try (cases hu'; done)
    case struct fs =>
      obtain ⟨cs, rfl, _⟩ := okWide_struct hu hval
      exact ⟨cs.toList, rfl⟩
    case array n e =>
      simp only [Value.okWide, hu] at hval
      cases v <;> simp_all
      exact ⟨_, (Array.toArray_toList).symm⟩
  · subst hagg
    cases m with
    | zero => simp [cls] at hl
    | succ m =>
      simp only [cls, hu] at hl
      cases u <;> simp only [aggB] at hu' <;> simp only at hl <;> try (first | (cases hu'; done) | (cases hl; done))
      case int k => obtain ⟨n, rfl⟩ := okWide_int hu hval; rfl
      case string => obtain ⟨n, rfl⟩ := okWide_string hu hval; rfl
      case bool => obtain ⟨n, rfl⟩ := okWide_bool hu hval; rfl
      case slice e => obtain ⟨a, b, c, rfl⟩ := okWide_slice hu hval; rfl
theorem GoodL.cons' {c : Cl} {cs : List Cl} {vs : List Value} (h : GoodL w (c :: cs) vs) : ∃ v vs', vs = v :: vs' ∧ GoodC w c v ∧ GoodL w cs vs' := by
  cases h with | cons h1 h2 => exact ⟨_, _, rfl, h1, h2⟩
theorem GoodL.nil' {vs : List Value} (h : GoodL w [] vs) : vs = [] := by cases h; rfl
theorem GoodA.one {c : Cl} {v : Value} (h : GoodA w [c] false v) : GoodC w c v := by
  obtain ⟨h1, _, h2⟩ := h
  rw [h2 rfl] at h1
  cases h1 with | cons h _ => exact h
theorem GoodC.int' {k : IntKind} {v : Value} (h : GoodC w (.int k) v) : ∃ n, v = .int k n ∧ (Lit.int k n).wf = true := by
  cases h with | int h => exact ⟨_, rfl, h⟩
/-- a slice whose rows are of a kind -/
theorem GoodC.sl' {e : List Cl} {v : Value} {α : Type} [Inhabited α] {q : α → List Value → Prop} (h : GoodC w (.sl e) v) (hq : ∀ vs, GoodL w e vs → ∃ a, q a vs) :
    ∃ a n c, ∃ A : Nat → α, v = .slice a n c ∧ n ≤ c ∧ c ≤ maxLen ∧ (a = none → c = 0) ∧ ∀ i, i < n → ∃ b o vs, a = some ⟨b, o, none⟩ ∧ ro w b (o + i * e.length) vs ∧ q (A i) vs := by
  cases h with
  | sl rows hc hm hn hr hg =>
    obtain ⟨A, hA⟩ := choose_lt fun i hi => hq _ (hg i hi)
    exact ⟨_, _, _, A, rfl, hc, hm, hn, fun i hi => let ⟨b, o, h1, h2⟩ := hr i hi; ⟨b, o, rows i, h1, h2, hA i hi⟩⟩
theorem keep_all (hl : laidOutB P = true) : ∀ {ts : List TypeId} {vs : List Value} {ds : List (DataW H)} {ps : List MemPlace} {W W' : World}, ts.all (fun t => P.readableRec t && decide (t < P.types.size)) = true →
    DataW.TrodAll enc P W 0 (fun _ => true) true ts vs ds ps → Below W.heap.size W W' → DataW.TrodAll enc P W' 0 (fun b => decide (b < W.heap.size)) true ts vs ds ps
  | [], [], [], _, _, _, _, h, _ => h
  | [], [], _ :: _, _, _, _, _, h, _ => h.elim
  | [], _ :: _, _, _, _, _, _, h, _ => h.elim
  | _ :: _, [], _, _, _, _, _, h, _ => h.elim
  | _ :: _, _ :: _, [], _, _, _, _, h, _ => h.elim
  | t :: ts, v :: vs, d :: ds, ps, W, W', ha, h, hb => by
    obtain ⟨p, q, h1, h2, rfl⟩ := h
    simp only [List.all_cons, Bool.and_eq_true, decide_eq_true_eq] at ha
    have lt : ∀ x ∈ p, x.block < W.heap.size := by obtain ⟨m, hm⟩ := h1; exact DataW.trod_lt m _ _ _ hm
    exact ⟨p, q, Below.trod hl ha.1.1 ha.1.2 h1 hb lt, keep_all hl ha.2 h2 hb, rfl⟩
end
end Go.Eng
namespace Go.Eng
set_option linter.unusedVariables false
set_option linter.unusedSimpArgs false
open Go Go.RowKit

theorem wf64 {n : Int} (h : (Lit.int .i64 n).wf = true) : -9223372036854775808 ≤ n ∧ n ≤ 9223372036854775807 := by
  simp only [Lit.wf, Bool.and_eq_true, decide_eq_true_eq] at h
  exact h
theorem wf8 {n : Int} (h : (Lit.int .u8 n).wf = true) : 0 ≤ n ∧ n ≤ 255 := by
  simp only [Lit.wf, Bool.and_eq_true, decide_eq_true_eq] at h
  exact h
theorem ro_rows {α : Type} {A : Ly α} {w : World} {b o : Nat} : ∀ (l : List α), (∀ i (hi : i < l.length), ro w b (o + i * A.sz) (A.row l[i])) → ro w b o (A.rows l) := by
  intro l h j hj
  rw [Ly.rows_len] at hj
  have hp := A.pos
  have hi : j / A.sz < l.length := Nat.div_lt_of_lt_mul (by rw [Nat.mul_comm]; exact hj)
  have hr : j % A.sz < A.sz := Nat.mod_lt _ hp
  have h1 := h _ hi (j % A.sz) (by rw [A.len]; exact hr)
  have e : o + j / A.sz * A.sz + j % A.sz = o + j := by rw [Nat.add_assoc, Nat.div_add_mod']
  rw [e] at h1
  rw [h1, ← Ly.rows_at hi, List.getElem?_take_of_lt hr, List.getElem?_drop, Nat.div_add_mod']
theorem openArr {α : Type} [Inhabited α] (A : Ly α) {e : List Cl} (p : α → Prop) {w : World} {v : Value} (h : GoodC w (.sl e) v) (he : e.length = A.sz) (hq : ∀ vs, GoodL w e vs → ∃ a, vs = A.row a ∧ p a) :
    ∃ (a : Option Addr) (c : Nat) (l : List α), v = .slice a l.length c ∧ l.length ≤ c ∧ c ≤ maxLen ∧ Rd w [] a A l ∧ ∀ x ∈ l, p x := by
  obtain ⟨a, n, c, F, rfl, hn, hc, ha, hr⟩ := h.sl' (q := fun x vs => vs = A.row x ∧ p x) hq
  refine ⟨a, c, (List.range n).map F, by simp, by simpa using hn, hc, Rd.base ?_, fun x hx => ?_⟩
  · by_cases hn0 : n = 0
    · subst hn0; exact .inl rfl
    · right
      obtain ⟨b, o, vs, rfl, _⟩ := hr 0 (by omega)
      refine ⟨b, o, rfl, ro_rows _ fun i hi => ?_⟩
      obtain ⟨b', o', vs, h1, h2, h3, _⟩ := hr i (by simpa using hi)
      cases h1
      rw [he] at h2
      subst h3
      simpa using h2
  · obtain ⟨i, hi, rfl⟩ := List.mem_map.1 hx
    obtain ⟨_, _, _, _, _, _, h⟩ := hr i (by simpa using hi)
    exact h
/-- a slice of bytes -/
theorem openBytes {w : World} {v : Value} (h : GoodC w (.sl [.int .u8]) v) : ∃ (a : Option Addr) (c : Nat) (l : List UInt8), v = .slice a l.length c ∧ l.length ≤ c ∧ c ≤ maxLen ∧ Rd w [] a B8 l := by
  obtain ⟨a, c, l, h1, h2, h3, h4, _⟩ := openArr B8 (fun _ => True) h rfl fun vs hv => by
    obtain ⟨_, _, rfl, h1, h⟩ := hv.cons'
    obtain rfl := h.nil'
    obtain ⟨n, rfl, hn⟩ := h1.int'
    have := wf8 hn
    refine ⟨UInt8.ofNat n.toNat, ?_, trivial⟩
    have e : (UInt8.ofNat n.toNat).toNat = n.toNat := by simp [UInt8.toNat_ofNat']; omega
    show _ = [b8 _]
    simp only [b8, e]
    rw [Int.toNat_of_nonneg this.1]
  exact ⟨a, c, l, h1, h2, h3, h4⟩
end Go.Eng
namespace Go.Proofs.Ythladblmjoaeoaa
set_option linter.unusedVariables false
set_option linter.unusedSimpArgs false
open Go Go.Eng

instance diskAwake : Pure0 PR F_rostrumlaw5_awake [] (.bool true) := ⟨fun W => by
  apply S.rostrumlaw5_awake.call
  unfold S.rostrumlaw5_awake.body
  have h := St.start W
  refine diskNew h (by omega) (by omega) fun p W1 h => ?_
  (repeat (first | (first | ((with_reducible first | refine w1 ?_ | refine w3 ?_ | refine w4 ?_ | refine w11 ?_ | refine stb_n ?_); intros) | ((with_reducible first | refine v5 ?_ | refine v6 ?_ | refine v7 ?_ | refine ve ?_ | refine vn ?_); refine ⟨_, rfl, ?_⟩) | ((with_reducible first | refine v8 ?_ ?_ | refine v9 ?_ ?_ | refine v10 ?_ ?_ | refine v12 ?_ ?_); exact rfl; intros) | ((with_reducible refine w2 ?_); try simp -implicitDefEqProofs only [SE, SU, SV]; intros) | ((with_reducible refine w5 ?_ ?_); simp; refine ⟨_, rfl, ?_⟩) | ((with_reducible refine w12 ?_ ?_ ?_ ?_); simp; simp; simp [oneC]; intros) | (refine okF_i (bldP_eq rfl) ?_; try simp only [BLS, SB, Nat.reduceAdd])) | simp -implicitDefEqProofs only [SE, SU, SV]))
  have ok0 : DS.ok ⟨64, [], [], true, 1⟩ := ⟨by decide, by decide, by decide⟩
  have ft0 : DS.fit ⟨64, [], [], true, 1⟩ := trivial
  have s1 : DS.append ⟨64, [], [], true, 1⟩ 0 [120, 121] = (⟨64, [(0, [120, 121])], [(0, 0, 2)], true, 1⟩, 0) := by rfl
  have ok1 := ok0.append 0 [120, 121]
  have ft1 := ft0.append 0 [120, 121]
  rw [s1] at ok1 ft1
  have s2 : DS.append ⟨64, [(0, [120, 121])], [(0, 0, 2)], true, 1⟩ 1 [122, 122] = (⟨64, [(0, [120, 121]), (1, [122, 122])], [(0, 0, 2), (1, 0, 2)], true, 1⟩, 0) := by rfl
  have ok2 := ok1.append 1 [122, 122]
  have ft2 := ft1.append 1 [122, 122]
  rw [s2] at ok2 ft2
  have s3 : DS.crash ⟨64, [(0, [120, 121]), (1, [122, 122])], [(0, 0, 2), (1, 0, 2)], true, 1⟩ 1 1 = ⟨64, [(0, [120, 121]), (1, [122])], [], false, 1⟩ := by rfl
  have ok3 := ok2.crash 1 1
  rw [s3] at ok3
  refine bytesLit [120, 121] (by first | assumption | exact St.tick (by assumption) | exact St.tick (St.tick (by assumption))) rfl (by decide) (by decide) rfl fun a1 c1 W2 h => ?_
  refine diskAppend (f := 0) (bs := [120, 121]) (by first | assumption | exact St.tick (by assumption) | exact St.tick (St.tick (by assumption))) ok0 (by decide) (by decide) fun W3 h => ?_
  rw [s1] at h ⊢
  refine bytesLit [122, 122] (by first | assumption | exact St.tick (by assumption) | exact St.tick (St.tick (by assumption))) rfl (by decide) (by decide) rfl fun a2 c2 W4 h => ?_
  refine diskAppend (f := 1) (bs := [122, 122]) (by first | assumption | exact St.tick (by assumption) | exact St.tick (St.tick (by assumption))) ok1 (by decide) (by decide) fun W5 h => ?_
  rw [s2] at h ⊢
  refine diskCrash (keep := 1) (torn := 1) (by first | assumption | exact St.tick (by assumption) | exact St.tick (St.tick (by assumption))) ok2 ft2 (by decide) fun W6 h => ?_
  rw [s3] at h
  refine diskRead (d := ⟨64, [(0, [120, 121]), (1, [122])], [], false, 1⟩) (f := 0) (by first | assumption | exact St.tick (by assumption) | exact St.tick (St.tick (by assumption))) (by decide) fun a3 c3 W7 h => ?_
  have r1 : DS.read ⟨64, [(0, [120, 121]), (1, [122])], [], false, 1⟩ 0 = ([], 7) := by rfl
  rw [r1] at h ⊢
  (repeat (first | (first | ((with_reducible first | refine w1 ?_ | refine w3 ?_ | refine w4 ?_ | refine w11 ?_ | refine stb_n ?_); intros) | ((with_reducible first | refine v5 ?_ | refine v6 ?_ | refine v7 ?_ | refine ve ?_ | refine vn ?_); refine ⟨_, rfl, ?_⟩) | ((with_reducible first | refine v8 ?_ ?_ | refine v9 ?_ ?_ | refine v10 ?_ ?_ | refine v12 ?_ ?_); exact rfl; intros) | ((with_reducible refine w2 ?_); try simp -implicitDefEqProofs only [SE, SU, SV]; intros) | ((with_reducible refine w5 ?_ ?_); simp; refine ⟨_, rfl, ?_⟩) | ((with_reducible refine w12 ?_ ?_ ?_ ?_); simp; simp; simp [oneC]; intros) | (refine okF_i (bldP_eq rfl) ?_; try simp only [BLS, SB, Nat.reduceAdd])) | simp -implicitDefEqProofs only [SE, SU, SV]))
  refine diskOn (by first | assumption | exact St.tick (by assumption) | exact St.tick (St.tick (by assumption))) fun W8 h => ?_
  have s4 : DS.power ⟨64, [(0, [120, 121]), (1, [122])], [], false, 1⟩ = ⟨64, [(0, [120, 121]), (1, [122])], [], true, 2⟩ := by rfl
  rw [s4] at h
  refine diskRead (d := ⟨64, [(0, [120, 121]), (1, [122])], [], true, 2⟩) (f := 0) (by first | assumption | exact St.tick (by assumption) | exact St.tick (St.tick (by assumption))) (by decide) fun a4 c4 W9 h => ?_
  have r2 : DS.read ⟨64, [(0, [120, 121]), (1, [122])], [], true, 2⟩ 0 = ([120, 121], 0) := by rfl
  rw [r2] at h ⊢
  (repeat (first | (first | ((with_reducible first | refine w1 ?_ | refine w3 ?_ | refine w4 ?_ | refine w11 ?_ | refine stb_n ?_); intros) | ((with_reducible first | refine v5 ?_ | refine v6 ?_ | refine v7 ?_ | refine ve ?_ | refine vn ?_); refine ⟨_, rfl, ?_⟩) | ((with_reducible first | refine v8 ?_ ?_ | refine v9 ?_ ?_ | refine v10 ?_ ?_ | refine v12 ?_ ?_); exact rfl; intros) | ((with_reducible refine w2 ?_); try simp -implicitDefEqProofs only [SE, SU, SV]; intros) | ((with_reducible refine w5 ?_ ?_); simp; refine ⟨_, rfl, ?_⟩) | ((with_reducible refine w12 ?_ ?_ ?_ ?_); simp; simp; simp [oneC]; intros) | (refine okF_i (bldP_eq rfl) ?_; try simp only [BLS, SB, Nat.reduceAdd])) | simp -implicitDefEqProofs only [SE, SU, SV]))
  refine diskRead (d := ⟨64, [(0, [120, 121]), (1, [122])], [], true, 2⟩) (f := 1) (by first | assumption | exact St.tick (by assumption) | exact St.tick (St.tick (by assumption))) (by decide) fun a5 c5 W10 h => ?_
  have r3 : DS.read ⟨64, [(0, [120, 121]), (1, [122])], [], true, 2⟩ 1 = ([122], 0) := by rfl
  rw [r3] at h ⊢
  (repeat (first | (first | ((with_reducible first | refine w1 ?_ | refine w3 ?_ | refine w4 ?_ | refine w11 ?_ | refine stb_n ?_); intros) | ((with_reducible first | refine v5 ?_ | refine v6 ?_ | refine v7 ?_ | refine ve ?_ | refine vn ?_); refine ⟨_, rfl, ?_⟩) | ((with_reducible first | refine v8 ?_ ?_ | refine v9 ?_ ?_ | refine v10 ?_ ?_ | refine v12 ?_ ?_); exact rfl; intros) | ((with_reducible refine w2 ?_); try simp -implicitDefEqProofs only [SE, SU, SV]; intros) | ((with_reducible refine w5 ?_ ?_); simp; refine ⟨_, rfl, ?_⟩) | ((with_reducible refine w12 ?_ ?_ ?_ ?_); simp; simp; simp [oneC]; intros) | (refine okF_i (bldP_eq rfl) ?_; try simp only [BLS, SB, Nat.reduceAdd])) | simp -implicitDefEqProofs only [SE, SU, SV]))
  refine b2s (a := a4) (l := [120, 121]) (by first | assumption | exact St.tick (by assumption) | exact St.tick (St.tick (by assumption))) ?_
  (repeat (first | (first | ((with_reducible first | refine w1 ?_ | refine w3 ?_ | refine w4 ?_ | refine w11 ?_ | refine stb_n ?_); intros) | ((with_reducible first | refine v5 ?_ | refine v6 ?_ | refine v7 ?_ | refine ve ?_ | refine vn ?_); refine ⟨_, rfl, ?_⟩) | ((with_reducible first | refine v8 ?_ ?_ | refine v9 ?_ ?_ | refine v10 ?_ ?_ | refine v12 ?_ ?_); exact rfl; intros) | ((with_reducible refine w2 ?_); try simp -implicitDefEqProofs only [SE, SU, SV, eq_self]; intros) | ((with_reducible refine w5 ?_ ?_); simp; refine ⟨_, rfl, ?_⟩) | ((with_reducible refine w12 ?_ ?_ ?_ ?_); simp; simp; simp [oneC]; intros) | (refine okF_i (bldP_eq rfl) ?_; try simp only [BLS, SB, Nat.reduceAdd])) | simp -implicitDefEqProofs only [SE, SU, SV, eq_self]))
  refine b2s (a := a5) (l := [122]) (by first | assumption | exact St.tick (by assumption) | exact St.tick (St.tick (by assumption))) ?_
  (repeat (first | (first | ((with_reducible first | refine w1 ?_ | refine w3 ?_ | refine w4 ?_ | refine w11 ?_ | refine stb_n ?_); intros) | ((with_reducible first | refine v5 ?_ | refine v6 ?_ | refine v7 ?_ | refine ve ?_ | refine vn ?_); refine ⟨_, rfl, ?_⟩) | ((with_reducible first | refine v8 ?_ ?_ | refine v9 ?_ ?_ | refine v10 ?_ ?_ | refine v12 ?_ ?_); exact rfl; intros) | ((with_reducible refine w2 ?_); try simp -implicitDefEqProofs only [SE, SU, SV, eq_self]; intros) | ((with_reducible refine w5 ?_ ?_); simp; refine ⟨_, rfl, ?_⟩) | ((with_reducible refine w12 ?_ ?_ ?_ ?_); simp; simp; simp [oneC]; intros) | (refine okF_i (bldP_eq rfl) ?_; try simp only [BLS, SB, Nat.reduceAdd])) | simp -implicitDefEqProofs only [SE, SU, SV, eq_self]))
  refine diskLives (by first | assumption | exact St.tick (by assumption) | exact St.tick (St.tick (by assumption))) fun W11 h => ?_
  (repeat (first | (first | ((with_reducible first | refine w1 ?_ | refine w3 ?_ | refine w4 ?_ | refine w11 ?_ | refine stb_n ?_); intros) | ((with_reducible first | refine v5 ?_ | refine v6 ?_ | refine v7 ?_ | refine ve ?_ | refine vn ?_); refine ⟨_, rfl, ?_⟩) | ((with_reducible first | refine v8 ?_ ?_ | refine v9 ?_ ?_ | refine v10 ?_ ?_ | refine v12 ?_ ?_); exact rfl; intros) | ((with_reducible refine w2 ?_); try simp -implicitDefEqProofs only [SE, SU, SV, eq_self]; intros) | ((with_reducible refine w5 ?_ ?_); simp; refine ⟨_, rfl, ?_⟩) | ((with_reducible refine w12 ?_ ?_ ?_ ?_); simp; simp; simp [oneC]; intros) | (refine okF_i (bldP_eq rfl) ?_; try simp only [BLS, SB, Nat.reduceAdd])) | simp -implicitDefEqProofs only [SE, SU, SV, eq_self]))
  refine diskPower (by first | assumption | exact St.tick (by assumption) | exact St.tick (St.tick (by assumption))) fun W12 h => ?_
  (repeat (first | (first | ((with_reducible first | refine w1 ?_ | refine w3 ?_ | refine w4 ?_ | refine w11 ?_ | refine stb_n ?_); intros) | ((with_reducible first | refine v5 ?_ | refine v6 ?_ | refine v7 ?_ | refine ve ?_ | refine vn ?_); refine ⟨_, rfl, ?_⟩) | ((with_reducible first | refine v8 ?_ ?_ | refine v9 ?_ ?_ | refine v10 ?_ ?_ | refine v12 ?_ ?_); exact rfl; intros) | ((with_reducible refine w2 ?_); try simp -implicitDefEqProofs only [SE, SU, SV]; intros) | ((with_reducible refine w5 ?_ ?_); simp; refine ⟨_, rfl, ?_⟩) | ((with_reducible refine w12 ?_ ?_ ?_ ?_); simp; simp; simp [oneC]; intros) | (refine okF_i (bldP_eq rfl) ?_; try simp only [BLS, SB, Nat.reduceAdd])) | simp -implicitDefEqProofs only [SE, SU, SV]))
  exact St.nil (by first | assumption | exact St.tick (by assumption) | exact St.tick (St.tick (by assumption)))⟩

end Go.Proofs.Ythladblmjoaeoaa
namespace Go.Proofs.Ythladblmjoaeoaa
set_option linter.unusedVariables false
set_option linter.unusedSimpArgs false
open Go Go.Eng Go.RowKit

structure Lo (W W' : World) : Prop where
  below : Below W.heap.size W W'
theorem St.startz (W : World) : St { W with drawn := 0 } [] W := ⟨⟨⟨rfl, rfl, rfl, Nat.le_refl _, fun _ _ => rfl⟩, Nat.zero_le _⟩, fun _ => none, fun _ => rfl, fun b o h => by cases h⟩
theorem St.lo {W W' : World} {L : List Asn} (h : St { W with drawn := 0 } L W') : Lo W W' := ⟨⟨h.bel.os, h.bel.tape, h.bel.output, h.bel.size, h.bel.block⟩⟩
section
variable {W0 W : World} {L L' : List Asn}
end
end Go.Proofs.Ythladblmjoaeoaa
namespace Go.Proofs.Ythladblmjoaeoaa
set_option linter.unusedVariables false
set_option linter.unusedSimpArgs false
open Go.Eng
/-! ### rostrum/rostrumlaw6.awake (35) -/
def S.rostrumlaw6_awake.body (R : Value → World → Prop) (W : World) : Prop :=
  callK PR F_disk_New [(.int .i64 10000)] (fun v12 W =>
  okF (extP 0 v12) fun v13 =>
  okF (extP 1 v12) fun v14 =>
  callK PR F_wal_Open [v13, (.int .i64 2)] (fun v17 W =>
  okF (extP 0 v17) fun v18 =>
  okF (extP 1 v17) fun v19 =>
  okF (binP .neq v19 (.int .i64 0)) fun v21 =>
  gdK (wantd v21 false) (fun k W => k v18 W) (fun v23 W =>
  gdK (wantd v21 false) (fun k W => okF (eqP (.pointer T_wal_Log) .eql v23 (.pointer none)) fun v => k v W) (fun v24 W =>
  okF (pickP v21 (.bool true) v24) fun v25 =>
  ifK v25 (
  R (.bool false) W) (
  efK PR (Instr.buildSlice T_s_uint8 1 #[(0, (.int .u8 120))]) (fun v27 W =>
  efK PR (convert T_s_uint8 T_s_uint8 v27) (fun v28 W =>
  efK PR (Instr.buildSlice T_s_s_uint8 1 #[(0, v28)]) (fun v29 W =>
  callK PR F_wal_Log_Add [v18, v29] (fun v30 W =>
  callK PR F_wal_Log_Sync [v18] (fun v32 W =>
  efK PR (Instr.buildSlice T_s_uint8 1 #[(0, (.int .u8 121))]) (fun v34 W =>
  efK PR (convert T_s_uint8 T_s_uint8 v34) (fun v35 W =>
  efK PR (Instr.buildSlice T_s_s_uint8 1 #[(0, v35)]) (fun v36 W =>
  callK PR F_wal_Log_Add [v18, v36] (fun v37 W =>
  callK PR F_wal_Log_All [v18] (fun v39 W =>
  callK PR F_disk_Disk_Crash [v13, (.int .i64 0), (.int .i64 0)] (fun v41 W =>
  callK PR F_disk_Disk_On [v13] (fun v43 W =>
  callK PR F_wal_Open [v13, (.int .i64 2)] (fun v46 W =>
  okF (extP 0 v46) fun v47 =>
  okF (extP 1 v46) fun v48 =>
  okF (binP .neq v48 (.int .i64 0)) fun v50 =>
  gdK (wantd v50 false) (fun k W => k v47 W) (fun v52 W =>
  gdK (wantd v50 false) (fun k W => okF (eqP (.pointer T_wal_Log) .eql v52 (.pointer none)) fun v => k v W) (fun v53 W =>
  okF (pickP v50 (.bool true) v53) fun v54 =>
  ifK v54 (
  R (.bool false) W) (
  okF (binP .eql v30 (.int .i64 0)) fun v56 =>
  gdK (wantd v56 true) (fun k W => k v32 W) (fun v58 W =>
  gdK (wantd v56 true) (fun k W => okF (binP .eql v58 (.int .i64 0)) fun v => k v W) (fun v59 W =>
  okF (pickP v56 v59 (.bool false)) fun v60 =>
  gdK (wantd v60 true) (fun k W => k v37 W) (fun v62 W =>
  gdK (wantd v60 true) (fun k W => okF (binP .eql v62 (.int .i64 0)) fun v => k v W) (fun v63 W =>
  okF (pickP v60 v63 (.bool false)) fun v64 =>
  gdK (wantd v64 true) (fun k W => k v39 W) (fun v66 W =>
  gdK (wantd v64 true) (fun k W => efK PR (Instr.buildSlice T_s_uint8 1 #[(0, (.int .u8 120))]) k W) (fun v67 W =>
  gdK (wantd v64 true) (fun k W => efK PR (convert T_s_uint8 T_s_uint8 v67) k W) (fun v68 W =>
  gdK (wantd v64 true) (fun k W => efK PR (Instr.buildSlice T_s_uint8 1 #[(0, (.int .u8 121))]) k W) (fun v69 W =>
  gdK (wantd v64 true) (fun k W => efK PR (convert T_s_uint8 T_s_uint8 v69) k W) (fun v70 W =>
  gdK (wantd v64 true) (fun k W => efK PR (Instr.buildSlice T_s_s_uint8 2 #[(0, v68), (1, v70)]) k W) (fun v71 W =>
  gdK (wantd v64 true) (fun k W => callK PR F_rostrumref1_Same [v66, v71] k W) (fun v72 W =>
  okF (pickP v64 v72 (.bool false)) fun v73 =>
  gdK (wantd v73 true) (fun k W => k v47 W) (fun v75 W =>
  gdK (wantd v73 true) (fun k W => callK PR F_wal_Log_All [v75] k W) (fun v76 W =>
  gdK (wantd v73 true) (fun k W => efK PR (Instr.buildSlice T_s_uint8 1 #[(0, (.int .u8 120))]) k W) (fun v77 W =>
  gdK (wantd v73 true) (fun k W => efK PR (convert T_s_uint8 T_s_uint8 v77) k W) (fun v78 W =>
  gdK (wantd v73 true) (fun k W => efK PR (Instr.buildSlice T_s_s_uint8 1 #[(0, v78)]) k W) (fun v79 W =>
  gdK (wantd v73 true) (fun k W => callK PR F_rostrumref1_Same [v76, v79] k W) (fun v80 W =>
  okF (pickP v73 v80 (.bool false)) fun v81 =>
  gdK (wantd v81 true) (fun k W => k v47 W) (fun v83 W =>
  gdK (wantd v81 true) (fun k W => callK PR F_wal_Log_Base [v83] k W) (fun v84 W =>
  gdK (wantd v81 true) (fun k W => okF (lenP (.slice T_uint8) v84) fun v => k v W) (fun v85 W =>
  gdK (wantd v81 true) (fun k W => okF (binP .eql v85 (.int .i64 0)) fun v => k v W) (fun v86 W =>
  okF (pickP v81 v86 (.bool false)) fun v87 =>
  R v87 W) W) W) W) W) W) W) W) W) W) W) W) W) W) W) W) W) W) W) W) W) W)) W) W) W) W) W) W) W) W) W) W) W) W) W) W) W)) W) W) W) W
def S.rostrumlaw6_awake.hint : Hint := (.two .nil (.two .nil (.two .nil (.two (.two .nil (.two (.two .nil .nil) .nil)) (.two .nil (.two .nil (.two .nil (.two .nil (.two .nil (.two (.two .nil (.two (.two .nil .nil) .nil)) (.two .nil .nil)))))))))))
theorem S.rostrumlaw6_awake.ok (R : Value → World → Prop) (W : World) : bodyK PR CB Try.f35 S.rostrumlaw6_awake.hint [] R W = S.rostrumlaw6_awake.body R  W := by kernel_rfl
theorem S.rostrumlaw6_awake.fn : PR.funcs[F_rostrumlaw6_awake]? = some Try.f35 := by kernel_rfl
theorem S.rostrumlaw6_awake.call {R : Value → World → Prop} {W : World} (h : S.rostrumlaw6_awake.body R  W) : callK PR F_rostrumlaw6_awake [] R W :=
  callK_of_body (g := F_rostrumlaw6_awake) (fn := Try.f35) (args := []) (R := R) (w := W) mixed CBok S.rostrumlaw6_awake.fn S.rostrumlaw6_awake.hint (by rw [S.rostrumlaw6_awake.ok]; exact h)
/-! ### rostrum/rostrumref1.Same (41) -/
def S.rostrumref1_Same.l1 (R : Value → World → Prop) (K1 : List Value → World → Prop) (x0 x1 x5 : Value) (W : World) : Prop :=
  okF (lenP (.slice T_s_uint8) x0) fun v13 =>
  okF (binP .lss x5 v13) fun v14 =>
  ifK v14 (
  okF (idxS 1 x0 x5) fun v19 =>
  rdK PR (Instr.loadAt T_s_uint8 v19) (fun v20 W =>
  rdK PR (convert T_s_uint8 T_string v20) (fun v21 W =>
  okF (idxS 1 x1 x5) fun v24 =>
  rdK PR (Instr.loadAt T_s_uint8 v24) (fun v25 W =>
  rdK PR (convert T_s_uint8 T_string v25) (fun v26 W =>
  okF (binP .neq v21 v26) fun v27 =>
  ifK v27 (
  R (.bool false) W) (
  okF (binP .add x5 (.int .i64 1)) fun v16 =>
  K1 [x0, x1, v16] W)) W) W) W) (tick W)) (
  R (.bool true) W)
def S.rostrumref1_Same.body (R : Value → World → Prop) (v0 v1 : Value) (W : World) : Prop :=
  okF (lenP (.slice T_s_uint8) v0) fun v7 =>
  okF (lenP (.slice T_s_uint8) v1) fun v9 =>
  okF (binP .neq v7 v9) fun v10 =>
  ifK v10 (
  R (.bool false) W) (
  loopK (fun K1 s W => S.rostrumref1_Same.l1 R K1 (nthv s 0) (nthv s 1) (nthv s 2) W) [v0, v1, (.int .i64 0)] W)
def S.rostrumref1_Same.hint : Hint := (.two .nil (.two (.two .nil (.two (.two .nil .nil) .nil)) (.two (.two .nil (.at [0, 1, 5] (.two (.two .nil (.two .nil .nil)) (.two (.two .nil (.two (.two .nil .nil) .nil)) .nil)) .nil)) (.two .nil .nil))))
theorem S.rostrumref1_Same.ok (R : Value → World → Prop) (v0 v1 : Value) (W : World) : bodyK PR CB Try.f41 S.rostrumref1_Same.hint [v0, v1] R W = S.rostrumref1_Same.body R v0 v1 W := by kernel_rfl
theorem S.rostrumref1_Same.fn : PR.funcs[F_rostrumref1_Same]? = some Try.f41 := by kernel_rfl
theorem S.rostrumref1_Same.call {R : Value → World → Prop} {v0 v1 : Value} {W : World} (h : S.rostrumref1_Same.body R v0 v1 W) : callK PR F_rostrumref1_Same [v0, v1] R W :=
  callK_of_body (g := F_rostrumref1_Same) (fn := Try.f41) (args := [v0, v1]) (R := R) (w := W) mixed CBok S.rostrumref1_Same.fn S.rostrumref1_Same.hint (by rw [S.rostrumref1_Same.ok]; exact h)
end Go.Proofs.Ythladblmjoaeoaa
