/- 'WalSpoilt' holds. Printed by an own tool (wip/tools/law.py), after the kit's shell. -/
import Derived.Test.YthladblmjoaeoaaBWalSpoilt8
import Derived.Test.YthladblmjoaeoaaBWalSpoilt4
import Derived.Test.YthladblmjoaeoaaBWalSpoilt1
import Derived.Test.YthladblmjoaeoaaRows
import Derived.WalkKit
import Derived.ProofKit
namespace Go.Proofs.Ythladblmjoaeoaa
set_option linter.unusedVariables false
set_option linter.unusedSimpArgs false
open Go Go.Eng

theorem str_eq {l m : Bs} : ((⟨l.toArray⟩ : ByteArray) = ⟨m.toArray⟩) ↔ l = m := by
  constructor
  · intro h
    injection h with h
    exact Array.toList_inj.2 h |> fun h => by simpa using h
  · rintro rfl; rfl
theorem GD.fresh : GD 0 0 [] [] [] [] := ⟨.refl _, .nil, fun x hx => (by cases hx), fun p hp => (by cases hp), fun p hp => (by cases hp), fun _ => rfl, by simp, fun x hx => (by cases hx), by decide⟩
section
variable {W0 W : World} {L L' L1 L2 : List Asn} {q dp : Nat} {d : DS} {l : LS} {k : Value → World → Prop}
theorem refSame {a b : Option Addr} {c e : Nat} {r1 r2 : List BSl} (h : St W0 L W) [hr1 : Rd W0 L a BSY r1] [hr2 : Rd W0 L b BSY r2] (h1 : ∀ x ∈ r1, Rd W0 L x.a B8 x.bs) (h2 : ∀ x ∈ r2, Rd W0 L x.a B8 x.bs) (hl : r1.length < 4611686018427387904)
    (hk : ∀ W', St W0 L W' → k (.bool (decide (bsOf r1 = bsOf r2))) W') : callK PR F_rostrumref1_Same [.slice a r1.length c, .slice b r2.length e] k W := by
  apply S.rostrumref1_Same.call
  unfold S.rostrumref1_Same.body
  by_cases hn : r1.length = r2.length
  · have f1 : decide ((r1.length : Int) = (r2.length : Int)) = true := decide_eq_true (by omega)
    (repeat (first | (first | ((with_reducible first | refine w1 ?_ | refine w3 ?_ | refine w4 ?_ | refine w11 ?_ | refine stb_n ?_); intros) | ((with_reducible first | refine v5 ?_ | refine v6 ?_ | refine v7 ?_ | refine ve ?_ | refine vn ?_); refine ⟨_, rfl, ?_⟩) | ((with_reducible first | refine v8 ?_ ?_ | refine v9 ?_ ?_ | refine v10 ?_ ?_ | refine v12 ?_ ?_); exact rfl; intros) | ((with_reducible refine w2 ?_); try simp -implicitDefEqProofs only [SE, SU, SV, f1]; intros) | ((with_reducible refine w5 ?_ ?_); simp; refine ⟨_, rfl, ?_⟩) | ((with_reducible refine w12 ?_ ?_ ?_ ?_); simp; simp; simp [oneC]; intros) | (refine okF_i (bldP_eq rfl) ?_; try simp only [BLS, SB, Nat.reduceAdd])) | simp -implicitDefEqProofs only [SE, SU, SV, f1]))
    refine loop_c (σ := Unit) r1.length (fun i _ => [.slice a r1.length c, .slice b r2.length e, .int .i64 i]) (fun i _ W1 => bsOf (r1.take i) = bsOf (r2.take i) ∧ St W0 L W1) () rfl ⟨rfl, h⟩ ?_
    clear h
    rintro K i _ W1 hi ⟨hall, h⟩ hK
    simp -implicitDefEqProofs only [SE, SU, SV]
    unfold S.rostrumref1_Same.l1
    by_cases hlt : (i : Int) < (r1.length : Int)
    · have hib : i < r1.length := by omega
      have hib2 : i < r2.length := by omega
      have ew : IntKind.i64.wrap ((i : Int) + 1) = ((i + 1 : Nat) : Int) := by rw [i64w]; omega
      haveI := h1 _ (List.getElem_mem hib)
      haveI := h2 _ (List.getElem_mem hib2)
      (repeat (first | (first | ((with_reducible first | refine w1 ?_ | refine w3 ?_ | refine w4 ?_ | refine w11 ?_ | refine stb_n ?_); intros) | ((with_reducible first | refine v5 ?_ | refine v6 ?_ | refine v7 ?_ | refine ve ?_ | refine vn ?_); refine ⟨_, rfl, ?_⟩) | ((with_reducible first | refine v8 ?_ ?_ | refine v9 ?_ ?_ | refine v10 ?_ ?_ | refine v12 ?_ ?_); exact rfl; intros) | ((with_reducible refine w2 ?_); try simp -implicitDefEqProofs only [SE, SU, SV, hlt]; intros) | ((with_reducible refine w5 ?_ ?_); simp; refine ⟨_, rfl, ?_⟩) | ((with_reducible refine w12 ?_ ?_ ?_ ?_); simp; simp; simp [oneC]; intros) | (refine okF_i (bldP_eq rfl) ?_; try simp only [BLS, SB, Nat.reduceAdd])) | simp -implicitDefEqProofs only [SE, SU, SV, hlt]))
      refine ixA (i := i) (a := a) (l := r1) (A := BSY) h.tick rfl rfl hib fun g o ha => ?_
      cases ha
      refine ldA0 (i := i) (l := r1) (A := BSY) h.tick rfl hib (v := r1[i].v) rfl (by simp) ?_
      refine b2s (a := r1[i].a) (l := r1[i].bs) h.tick ?_
      refine ixA (i := i) (a := b) (l := r2) (A := BSY) h.tick rfl rfl hib2 fun g' o' ha => ?_
      cases ha
      refine ldA0 (i := i) (l := r2) (A := BSY) h.tick rfl hib2 (v := r2[i].v) rfl (by simp) ?_
      refine b2s (a := r2[i].a) (l := r2[i].bs) h.tick ?_
      by_cases he : r1[i].bs = r2[i].bs
      · have f2 : decide ((⟨r1[i].bs.toArray⟩ : ByteArray) = ⟨r2[i].bs.toArray⟩) = true := decide_eq_true (str_eq.2 he)
        (repeat (first | (first | ((with_reducible first | refine w1 ?_ | refine w3 ?_ | refine w4 ?_ | refine w11 ?_ | refine stb_n ?_); intros) | ((with_reducible first | refine v5 ?_ | refine v6 ?_ | refine v7 ?_ | refine ve ?_ | refine vn ?_); refine ⟨_, rfl, ?_⟩) | ((with_reducible first | refine v8 ?_ ?_ | refine v9 ?_ ?_ | refine v10 ?_ ?_ | refine v12 ?_ ?_); exact rfl; intros) | ((with_reducible refine w2 ?_); try simp -implicitDefEqProofs only [SE, SU, SV, f2, ew]; intros) | ((with_reducible refine w5 ?_ ?_); simp; refine ⟨_, rfl, ?_⟩) | ((with_reducible refine w12 ?_ ?_ ?_ ?_); simp; simp; simp [oneC]; intros) | (refine okF_i (bldP_eq rfl) ?_; try simp only [BLS, SB, Nat.reduceAdd])) | simp -implicitDefEqProofs only [SE, SU, SV, f2, ew]))
        refine hK () _ hib ⟨?_, h.tick⟩
        simp only [bsOf] at hall ⊢
        rw [take_snoc hib, take_snoc hib2, List.map_append, List.map_append, hall, List.map_cons, List.map_cons, he]
      · have f2 : decide ((⟨r1[i].bs.toArray⟩ : ByteArray) = ⟨r2[i].bs.toArray⟩) = false := decide_eq_false fun h => he (str_eq.1 h)
        have f3 : decide (bsOf r1 = bsOf r2) = false := decide_eq_false fun e => he (by
          have e1 : (bsOf r1)[i]? = (bsOf r2)[i]? := by rw [e]
          simpa [hib, hib2] using e1)
        rw [f3] at hk
        (repeat (first | (first | ((with_reducible first | refine w1 ?_ | refine w3 ?_ | refine w4 ?_ | refine w11 ?_ | refine stb_n ?_); intros) | ((with_reducible first | refine v5 ?_ | refine v6 ?_ | refine v7 ?_ | refine ve ?_ | refine vn ?_); refine ⟨_, rfl, ?_⟩) | ((with_reducible first | refine v8 ?_ ?_ | refine v9 ?_ ?_ | refine v10 ?_ ?_ | refine v12 ?_ ?_); exact rfl; intros) | ((with_reducible refine w2 ?_); try simp -implicitDefEqProofs only [SE, SU, SV, f2]; intros) | ((with_reducible refine w5 ?_ ?_); simp; refine ⟨_, rfl, ?_⟩) | ((with_reducible refine w12 ?_ ?_ ?_ ?_); simp; simp; simp [oneC]; intros) | (refine okF_i (bldP_eq rfl) ?_; try simp only [BLS, SB, Nat.reduceAdd])) | simp -implicitDefEqProofs only [SE, SU, SV, f2]))
        exact hk _ h.tick
    · rw [List.take_of_length_le (by omega), List.take_of_length_le (by omega)] at hall
      have f3 := decide_eq_true hall
      rw [f3] at hk
      (repeat (first | (first | ((with_reducible first | refine w1 ?_ | refine w3 ?_ | refine w4 ?_ | refine w11 ?_ | refine stb_n ?_); intros) | ((with_reducible first | refine v5 ?_ | refine v6 ?_ | refine v7 ?_ | refine ve ?_ | refine vn ?_); refine ⟨_, rfl, ?_⟩) | ((with_reducible first | refine v8 ?_ ?_ | refine v9 ?_ ?_ | refine v10 ?_ ?_ | refine v12 ?_ ?_); exact rfl; intros) | ((with_reducible refine w2 ?_); try simp -implicitDefEqProofs only [SE, SU, SV, hlt]; intros) | ((with_reducible refine w5 ?_ ?_); simp; refine ⟨_, rfl, ?_⟩) | ((with_reducible refine w12 ?_ ?_ ?_ ?_); simp; simp; simp [oneC]; intros) | (refine okF_i (bldP_eq rfl) ?_; try simp only [BLS, SB, Nat.reduceAdd])) | simp -implicitDefEqProofs only [SE, SU, SV, hlt]))
      exact hk _ h
  · have f1 : decide ((r1.length : Int) = (r2.length : Int)) = false := decide_eq_false (by omega)
    have f3 : decide (bsOf r1 = bsOf r2) = false := decide_eq_false fun e => hn (by have := congrArg List.length e; simpa using this)
    rw [f3] at hk
    (repeat (first | (first | ((with_reducible first | refine w1 ?_ | refine w3 ?_ | refine w4 ?_ | refine w11 ?_ | refine stb_n ?_); intros) | ((with_reducible first | refine v5 ?_ | refine v6 ?_ | refine v7 ?_ | refine ve ?_ | refine vn ?_); refine ⟨_, rfl, ?_⟩) | ((with_reducible first | refine v8 ?_ ?_ | refine v9 ?_ ?_ | refine v10 ?_ ?_ | refine v12 ?_ ?_); exact rfl; intros) | ((with_reducible refine w2 ?_); try simp -implicitDefEqProofs only [SE, SU, SV, f1]; intros) | ((with_reducible refine w5 ?_ ?_); simp; refine ⟨_, rfl, ?_⟩) | ((with_reducible refine w12 ?_ ?_ ?_ ?_); simp; simp; simp [oneC]; intros) | (refine okF_i (bldP_eq rfl) ?_; try simp only [BLS, SB, Nat.reduceAdd])) | simp -implicitDefEqProofs only [SE, SU, SV, f1]))
    exact hk _ h
variable {n : Nat} {part : Int} {base : Bs} {all : List Bs} {safe : Nat} {room used : Int} {turns files : Nat} {nt : Bool}
theorem walOpenV {t : Nat} {bn : Int} {P : List PT} {J : Fs} (h : St W0 L W) (h0 : W0.drawn = 0) [ht : Tk (dk dp) L d L'] (h1 : ¬ part < 1) (h2 : ¬ 1000 < part) (ho : d.on = true) (hd : d.ok) (hw : d.ws = []) (hg : GD t bn base P J d.fs) (hroom : d.room = room) (hu : lens d.fs ≤ used) (hf : d.fs.length ≤ files) (htn : t ≤ turns) (htn2 : turns < 2 ^ 62)
    (hrl : (recsOf P).length + n < 400000) (hnt : nt = true → ∀ p ∈ P, p.tail = []) (hk : ∀ q d' l W', WV n d' l part base (recsOf P) (recsOf P).length room used turns files nt → d'.lives = d.lives ∧ d'.ws = [] → St W0 (lg q dp l :: dk dp d' :: L') W' → k (.tuple #[.pointer (some ⟨q, 0, none⟩), .int .i64 0]) W') :
    callK PR F_wal_Open [.pointer (some ⟨dp, 0, none⟩), .int .i64 part] k W := by
  refine walOpen h h0 h1 h2 ho hd hw hg (by omega) fun q fs' nums W1 e1 e2 e3 h => ?_
  refine hk q _ _ _ (WV.opened (P := P) e1 hw (pfx_recs t P 0) rfl rfl hroom (Int.le_trans e3 hu) (Nat.le_trans e2 hf) htn htn2 ⟨hd.1, hd.2.1, Int.le_trans e3 hd.2.2⟩ hrl rfl ?_ hnt) ⟨rfl, hw⟩ h
  have := lastCount_le (pfx t 0 P)
  rw [pfx_recs] at this
  exact this
theorem walAddV {a : Option Addr} {c : Nat} {rs : List BSl} (h : St W0 L W) [hl : Tk (lg q dp) L l L1] [hd : Tk (dk dp) L1 d L2] [hr : Rd W0 L2 a BSY rs] (hrs : ∀ x ∈ rs, Rd W0 L2 x.a B8 x.bs) (hv : WV (n + rs.length) d l part base all safe room used turns files nt) (hal : all.length < 500000)
    (hb : ∀ r ∈ bsOf rs, r.length ≤ 65536) (hp : 1 ≤ part) (hf : files + rs.length ≤ 1000) (hroom : used + cost (bsOf rs) ≤ room)
    (hk : ∀ d' l' W', d'.lives = d.lives → WV n d' l' part base (all ++ bsOf rs) safe room (used + cost (bsOf rs)) turns (files + rs.length) nt → St W0 (lg q dp l' :: dk dp d' :: L2) W' → k (.int .i64 0) W') : callK PR F_wal_Log_Add [.pointer (some ⟨q, 0, none⟩), .slice a rs.length c] k W := by
  have e0 : (bsOf rs).length = rs.length := by simp
  have hv2 : WV (n + (bsOf rs).length) d l part base all safe room used turns files nt := by rw [e0]; exact hv
  obtain ⟨e1, e2⟩ := hv2.addAll hb hp (by rw [e0]; exact hf) hroom
  rw [e0] at e2
  have hlv : (LS.addAll d l (bsOf rs)).1.lives = d.lives := by
    obtain ⟨_, _, _, g1, _⟩ := hv.live
    obtain ⟨_, _, _, g2, _⟩ := e2.live
    rw [← g1.lives, ← g2.lives]
    exact addAll_lives _ _ _
  have hL := hv.lok
  refine walAdd (dp := dp) h hrs (by have := hL.ws; omega) (by rw [hv.recs]; exact hal) (fun x hx => by have := hb x.bs (List.mem_map_of_mem hx); omega) ⟨hL.ok, by have := hL.ws; omega, by have := hL.nums; omega, by have := hL.dirty; omega, hL.turn, by have := hL.index; omega, by have := hL.count; omega⟩ fun W1 h => ?_
  rw [e1]
  exact hk _ _ _ hlv e2 h
theorem walSyncV (h : St W0 L W) [hl : Tk (lg q dp) L l L1] [hd : Tk (dk dp) L1 d L2] (hv : WV n d l part base all safe room used turns files nt)
    (hk : ∀ d' l' W', d'.lives = d.lives ∧ d'.ws = [] → WV n d' l' part base all all.length room used turns files nt → St W0 (lg q dp l' :: dk dp d' :: L2) W' → k (.int .i64 0) W') : callK PR F_wal_Log_Sync [.pointer (some ⟨q, 0, none⟩)] k W := by
  obtain ⟨e1, e2⟩ := hv.sync
  have hlv : (LS.sync d l).1.lives = d.lives ∧ (LS.sync d l).1.ws = [] := by
    obtain ⟨_, _, _, g1, _⟩ := hv.live
    rw [g1.sync.1]; exact ⟨rfl, rfl⟩
  refine walSync (dp := dp) h (by have := hv.lok.ws; omega) (by have := hv.lok.dirty; omega) fun W1 h => ?_
  rw [e1]
  exact hk _ _ _ hlv e2 h
theorem walKeepV {a : Option Addr} {c : Nat} {b : Bs} (h : St W0 L W) [hl : Tk (lg q dp) L l L1] [hd : Tk (dk dp) L1 d L2] [hr : Rd W0 L2 a B8 b] (hv : WV (n + 2) d l part base all safe room used turns files nt) (hb : b.length ≤ 65536) (hf : files < 1000) (ht : turns + 1 < 2 ^ 62) (hroom : used + 44 + (b.length : Int) ≤ room)
    (hk : ∀ d' l' W', d'.lives = d.lives → WV (n + 1) d' l' part b [] 0 room (44 + (b.length : Int)) (turns + 1) 1 nt → St W0 (lg q dp l' :: dk dp d' :: L2) W' → k (.int .i64 0) W') : callK PR F_wal_Log_Keep [.pointer (some ⟨q, 0, none⟩), .slice a b.length c] k W := by
  obtain ⟨e1, e2⟩ := WV.keep (n := n + 1) hv hb hf ht hroom
  have hlv : (LS.keep d l b).1.lives = d.lives := by
    obtain ⟨_, _, _, g1, _⟩ := hv.live
    obtain ⟨_, _, _, g2, _⟩ := e2.live
    rw [← g1.lives, ← g2.lives]
    exact keep_lives _ _ _
  obtain ⟨g1, g2, g3, g4, g5, g6, g7⟩ := hv.lok
  refine walKeep (dp := dp) h ⟨g1, by omega, by omega, by omega, g5, by omega, by omega⟩ (by omega) fun W1 h => ?_
  rw [e1]
  exact hk _ _ _ hlv e2 h
end
end Go.Proofs.Ythladblmjoaeoaa
namespace Go.Eng
set_option linter.unusedVariables false
set_option linter.unusedSimpArgs false
open Go Go.RowKit
section
variable {P : Program} {W0 W : World} {L : List Asn} {e : TypeId}
theorem bl1 (l : List UInt8) {t : TypeId} {by' n : Nat} {z : Value} [ht : TyS P t e 1 by' z] {ps : List (Nat × Value)} {k : Value → World → Prop} (h : St W0 L W) (hln : l.length = n) (hn : n ≤ 16777216) (hn0 : n ≠ 0)
    (hc : fillL (fun i => some (i * 1, 1)) ((List.range (n * 1)).map fun i => ((vcells z)[i % (vcells z).length]?).getD undef) ps = some (B8.rows l))
    (hk : ∀ b W', St W0 (blk b (.cells (B8.rows l).toArray e) :: L) W' → k (.slice (some ⟨b, 0, none⟩) l.length l.length) W') : efK P (Instr.buildSlice t n ps.toArray) k W := by
  subst hln
  exact ⟨_, _, bs_run (P := P) (t := t) (e := e) (by omega) (by omega) hc, hk _ _ (h.alloc _)⟩
theorem bl2 (l : List UInt8) {b n c : Nat} {t : TypeId} [hb : BytesT P t e] {k : Value → World → Prop} (h : St W0 (blk b (.cells (B8.rows l).toArray e) :: L) W) (hl : l.length ≤ maxLen)
    (hk : ∀ W', St W0 (arr B8 e (some ⟨b, 0, none⟩) l.length l :: L) W' → k (.slice (some ⟨b, 0, none⟩) n c) W') : efK P (convert t t (.slice (some ⟨b, 0, none⟩) n c)) k W := by
  have hbl := h.blk.2
  have hsh : W.shape? b = some (e, (B8.rows l).toArray.size) := by
    unfold World.shape?; rw [hbl]
  have hfr : W.freeze ⟨b, (B8.rows l).toArray.size, none⟩ 1 = { W with heap := W.heap.setIfInBounds b (.cells (B8.rows l).toArray e ((B8.rows l).toArray.size, (B8.rows l).toArray.size + 1)) } := by
    unfold World.freeze
    rw [if_neg (by decide)]
    congr 1
    apply Array.ext_getElem?
    intro i
    rw [Array.getElem?_modify, Array.getElem?_setIfInBounds]
    by_cases hi : b = i
    · subst hi
      rw [if_pos rfl, if_pos rfl, hbl]
      rw [if_pos (Array.getElem?_eq_some_iff.1 hbl).1]
      rfl
    · rw [if_neg hi, if_neg hi]
  refine ⟨.slice (some ⟨b, 0, none⟩) n c, W.freeze ⟨b, (B8.rows l).toArray.size, none⟩ 1, ?_, hk _ ?_⟩
  · simp [convert, run_underlying hb.ok.1, run_underlying hb.ok.2, markStringish, hsh]
  · rw [hfr]
    refine (((h.setBlk _).weak (a' := cells b (B8.rows l) e) fun p hp => ⟨((B8.rows l).toArray.size, (B8.rows l).toArray.size + 1), ?_, hp⟩).ent (arr_full (A := B8) hl))
    intro i hi
    simp; omega
end
end Go.Eng
namespace Go.Proofs.Ythladblmjoaeoaa
set_option linter.unusedVariables false
set_option linter.unusedSimpArgs false
open Go Go.Eng

section
variable {W0 W : World} {L L' : List Asn} {k : Value → World → Prop}
theorem bsOf1 (a : Option Addr) (c : Nat) (b : Bs) : bsOf [⟨a, c, b⟩] = [b] := rfl
theorem rd1 {W0 : World} {L : List Asn} {a : Option Addr} {c : Nat} {b : Bs} [h : Rd W0 L a B8 b] : ∀ x ∈ [(⟨a, c, b⟩ : BSl)], Rd W0 L x.a B8 x.bs := fun x hx => by rw [List.mem_singleton.1 hx]; exact h
theorem rdIn {rs : List BSl} {L : List Asn} : ∀ x ∈ rs, Rd W0 (many fch rs :: L) x.a B8 x.bs := fun x hx => rdMany (.inr hx)
theorem rdUp {rs : List BSl} {x : Asn} {L : List Asn} (h : ∀ y ∈ rs, Rd W0 L y.a B8 y.bs) : ∀ y ∈ rs, Rd W0 (x :: L) y.a B8 y.bs := fun y hy => by haveI := h y hy; exact Rd.there _ _ _ _ _ _
set_option maxRecDepth 20000 in
set_option maxHeartbeats 2000000 in
theorem lawAwake6 (h : St W0 L W) (h0 : W0.drawn = 0) (hk : ∀ W', St W0 L W' → k (.bool true) W') : callK PR F_rostrumlaw6_awake [] k W := by
  apply S.rostrumlaw6_awake.call
  unfold S.rostrumlaw6_awake.body
  refine diskNew h (by decide) (by decide) fun p W1 h => ?_
  (repeat (first | (first | ((with_reducible first | refine w1 ?_ | refine w3 ?_ | refine w4 ?_ | refine w11 ?_ | refine stb_n ?_); intros) | ((with_reducible first | refine v5 ?_ | refine v6 ?_ | refine v7 ?_ | refine ve ?_ | refine vn ?_); refine ⟨_, rfl, ?_⟩) | ((with_reducible first | refine v8 ?_ ?_ | refine v9 ?_ ?_ | refine v10 ?_ ?_ | refine v12 ?_ ?_); exact rfl; intros) | ((with_reducible refine w2 ?_); try simp -implicitDefEqProofs only [SE, SU, SV]; intros) | ((with_reducible refine w5 ?_ ?_); simp; refine ⟨_, rfl, ?_⟩) | ((with_reducible refine w12 ?_ ?_ ?_ ?_); simp; simp; simp [oneC]; intros) | (refine okF_i (bldP_eq rfl) ?_; try simp only [BLS, SB, Nat.reduceAdd])) | simp -implicitDefEqProofs only [SE, SU, SV]))
  refine walOpenV (dp := p) (d := ⟨10000, [], [], true, 1⟩) (part := 2) (n := 1000) (room := 10000) (used := 0) (turns := 0) (files := 0) (by first | assumption | exact St.tick (by assumption) | exact St.tick (St.tick (by assumption))) h0 (by decide) (by decide) rfl ⟨by decide, by decide, by decide⟩ rfl (nt := false) GD.fresh rfl (Int.le_refl _) (Nat.le_refl _) (Nat.le_refl _) (by decide) (by decide) (fun h => nomatch h) fun q d1 l1 W2 hv _ h => ?_
  (repeat (first | (first | ((with_reducible first | refine w1 ?_ | refine w3 ?_ | refine w4 ?_ | refine w11 ?_ | refine stb_n ?_); intros) | ((with_reducible first | refine v5 ?_ | refine v6 ?_ | refine v7 ?_ | refine ve ?_ | refine vn ?_); refine ⟨_, rfl, ?_⟩) | ((with_reducible first | refine v8 ?_ ?_ | refine v9 ?_ ?_ | refine v10 ?_ ?_ | refine v12 ?_ ?_); exact rfl; intros) | ((with_reducible refine w2 ?_); try simp -implicitDefEqProofs only [SE, SU, SV]; intros) | ((with_reducible refine w5 ?_ ?_); simp; refine ⟨_, rfl, ?_⟩) | ((with_reducible refine w12 ?_ ?_ ?_ ?_); simp; simp; simp [oneC]; intros) | (refine okF_i (bldP_eq rfl) ?_; try simp only [BLS, SB, Nat.reduceAdd])) | simp -implicitDefEqProofs only [SE, SU, SV]))
  refine bytesLit [120] (by first | assumption | exact St.tick (by assumption) | exact St.tick (St.tick (by assumption))) rfl (by decide) (by decide) rfl fun a1 c1 W3 h => ?_
  refine bsA BSY [⟨a1, c1, [120]⟩] (n := 1) h rfl rfl (by decide) (by decide) rfl fun a2 c2 W4 h => ?_
  refine walAddV (dp := p) (q := q) (rs := [⟨a1, c1, [120]⟩]) (n := 999) h rd1 hv (by decide) (by rw [bsOf1]; decide) (by decide) (show 0 + 1 ≤ 1000 by decide) (by rw [bsOf1]; decide) fun d2 l2 W5 _ hv h => ?_
  have hv : WV 999 d2 l2 2 [] [[120]] 0 10000 45 0 1 false := hv
  refine walSyncV (dp := p) (q := q) h hv fun d3 l3 W6 _ hv h => ?_
  refine bytesLit [121] h rfl (by decide) (by decide) rfl fun a3 c3 W7 h => ?_
  refine bsA BSY [⟨a3, c3, [121]⟩] (n := 1) h rfl rfl (by decide) (by decide) rfl fun a4 c4 W8 h => ?_
  refine walAddV (dp := p) (q := q) (rs := [⟨a3, c3, [121]⟩]) (n := 998) h rd1 hv (by decide) (by rw [bsOf1]; decide) (by decide) (show 1 + 1 ≤ 1000 by decide) (by rw [bsOf1]; decide) fun d4 l4 W9 _ hv h => ?_
  have hv : WV 998 d4 l4 2 [] [[120], [121]] 1 10000 90 0 2 false := hv
  refine walAll (dp := p) (l := l4) h (by rw [hv.recs]; decide) (by rw [hv.recs]; decide) fun a5 c5 rs5 W10 hrs5 h => ?_
  rw [hv.recs] at hrs5
  obtain ⟨t, bn, P, J, m, g1, g2, g3, g4, g5, g6, g7, g8, g9, g10, g11⟩ := hv.crash 0 0
  have hm := g6 (Int.le_refl _) (Int.le_refl _)
  refine diskCrash (d := d4) (keep := 0) (torn := 0) h hv.lok.ok g11 (by have := hv.lok.ws; omega) fun W11 h => ?_
  refine diskOn (d := d4.crash 0 0) h fun W12 h => ?_
  have hr3 : recsOf P = [[120]] := by rw [g3, hm]; rfl
  refine walOpenV (dp := p) (d := (d4.crash 0 0).power) (part := 2) (n := 1000) h h0 (by decide) (by decide) rfl g9 rfl g1 g10 g7 g8 g2 (by decide) (by rw [hr3]; decide) (nt := false) (fun h => nomatch h) fun q2 d5 l5 W13 hv _ h => ?_
  rw [hr3] at hv
  (repeat (first | (first | ((with_reducible first | refine w1 ?_ | refine w3 ?_ | refine w4 ?_ | refine w11 ?_ | refine stb_n ?_); intros) | ((with_reducible first | refine v5 ?_ | refine v6 ?_ | refine v7 ?_ | refine ve ?_ | refine vn ?_); refine ⟨_, rfl, ?_⟩) | ((with_reducible first | refine v8 ?_ ?_ | refine v9 ?_ ?_ | refine v10 ?_ ?_ | refine v12 ?_ ?_); exact rfl; intros) | ((with_reducible refine w2 ?_); try simp -implicitDefEqProofs only [SE, SU, SV]; intros) | ((with_reducible refine w5 ?_ ?_); simp; refine ⟨_, rfl, ?_⟩) | ((with_reducible refine w12 ?_ ?_ ?_ ?_); simp; simp; simp [oneC]; intros) | (refine okF_i (bldP_eq rfl) ?_; try simp only [BLS, SB, Nat.reduceAdd])) | simp -implicitDefEqProofs only [SE, SU, SV]))
  refine bl1 [120] (by first | assumption | exact St.tick (by assumption) | exact St.tick (St.tick (by assumption))) rfl (by decide) (by decide) rfl fun b1 W14 h => ?_
  (repeat (first | (first | ((with_reducible first | refine w1 ?_ | refine w3 ?_ | refine w4 ?_ | refine w11 ?_ | refine stb_n ?_); intros) | ((with_reducible first | refine v5 ?_ | refine v6 ?_ | refine v7 ?_ | refine ve ?_ | refine vn ?_); refine ⟨_, rfl, ?_⟩) | ((with_reducible first | refine v8 ?_ ?_ | refine v9 ?_ ?_ | refine v10 ?_ ?_ | refine v12 ?_ ?_); exact rfl; intros) | ((with_reducible refine w2 ?_); try simp -implicitDefEqProofs only [SE, SU, SV]; intros) | ((with_reducible refine w5 ?_ ?_); simp; refine ⟨_, rfl, ?_⟩) | ((with_reducible refine w12 ?_ ?_ ?_ ?_); simp; simp; simp [oneC]; intros) | (refine okF_i (bldP_eq rfl) ?_; try simp only [BLS, SB, Nat.reduceAdd])) | simp -implicitDefEqProofs only [SE, SU, SV]))
  refine bl2 [120] (by first | assumption | exact St.tick (by assumption) | exact St.tick (St.tick (by assumption))) (by decide) fun W15 h => ?_
  (repeat (first | (first | ((with_reducible first | refine w1 ?_ | refine w3 ?_ | refine w4 ?_ | refine w11 ?_ | refine stb_n ?_); intros) | ((with_reducible first | refine v5 ?_ | refine v6 ?_ | refine v7 ?_ | refine ve ?_ | refine vn ?_); refine ⟨_, rfl, ?_⟩) | ((with_reducible first | refine v8 ?_ ?_ | refine v9 ?_ ?_ | refine v10 ?_ ?_ | refine v12 ?_ ?_); exact rfl; intros) | ((with_reducible refine w2 ?_); try simp -implicitDefEqProofs only [SE, SU, SV]; intros) | ((with_reducible refine w5 ?_ ?_); simp; refine ⟨_, rfl, ?_⟩) | ((with_reducible refine w12 ?_ ?_ ?_ ?_); simp; simp; simp [oneC]; intros) | (refine okF_i (bldP_eq rfl) ?_; try simp only [BLS, SB, Nat.reduceAdd])) | simp -implicitDefEqProofs only [SE, SU, SV]))
  refine bl1 [121] (by first | assumption | exact St.tick (by assumption) | exact St.tick (St.tick (by assumption))) rfl (by decide) (by decide) rfl fun b2 W16 h => ?_
  (repeat (first | (first | ((with_reducible first | refine w1 ?_ | refine w3 ?_ | refine w4 ?_ | refine w11 ?_ | refine stb_n ?_); intros) | ((with_reducible first | refine v5 ?_ | refine v6 ?_ | refine v7 ?_ | refine ve ?_ | refine vn ?_); refine ⟨_, rfl, ?_⟩) | ((with_reducible first | refine v8 ?_ ?_ | refine v9 ?_ ?_ | refine v10 ?_ ?_ | refine v12 ?_ ?_); exact rfl; intros) | ((with_reducible refine w2 ?_); try simp -implicitDefEqProofs only [SE, SU, SV]; intros) | ((with_reducible refine w5 ?_ ?_); simp; refine ⟨_, rfl, ?_⟩) | ((with_reducible refine w12 ?_ ?_ ?_ ?_); simp; simp; simp [oneC]; intros) | (refine okF_i (bldP_eq rfl) ?_; try simp only [BLS, SB, Nat.reduceAdd])) | simp -implicitDefEqProofs only [SE, SU, SV]))
  refine bl2 [121] (by first | assumption | exact St.tick (by assumption) | exact St.tick (St.tick (by assumption))) (by decide) fun W17 h => ?_
  (repeat (first | (first | ((with_reducible first | refine w1 ?_ | refine w3 ?_ | refine w4 ?_ | refine w11 ?_ | refine stb_n ?_); intros) | ((with_reducible first | refine v5 ?_ | refine v6 ?_ | refine v7 ?_ | refine ve ?_ | refine vn ?_); refine ⟨_, rfl, ?_⟩) | ((with_reducible first | refine v8 ?_ ?_ | refine v9 ?_ ?_ | refine v10 ?_ ?_ | refine v12 ?_ ?_); exact rfl; intros) | ((with_reducible refine w2 ?_); try simp -implicitDefEqProofs only [SE, SU, SV]; intros) | ((with_reducible refine w5 ?_ ?_); simp; refine ⟨_, rfl, ?_⟩) | ((with_reducible refine w12 ?_ ?_ ?_ ?_); simp; simp; simp [oneC]; intros) | (refine okF_i (bldP_eq rfl) ?_; try simp only [BLS, SB, Nat.reduceAdd])) | simp -implicitDefEqProofs only [SE, SU, SV]))
  refine bsA BSY [⟨some ⟨b1, 0, none⟩, 1, [120]⟩, ⟨some ⟨b2, 0, none⟩, 1, [121]⟩] (n := 2) (by first | assumption | exact St.tick (by assumption) | exact St.tick (St.tick (by assumption))) rfl rfl (by decide) (by decide) rfl fun a6 c6 W18 h => ?_
  (repeat (first | (first | ((with_reducible first | refine w1 ?_ | refine w3 ?_ | refine w4 ?_ | refine w11 ?_ | refine stb_n ?_); intros) | ((with_reducible first | refine v5 ?_ | refine v6 ?_ | refine v7 ?_ | refine ve ?_ | refine vn ?_); refine ⟨_, rfl, ?_⟩) | ((with_reducible first | refine v8 ?_ ?_ | refine v9 ?_ ?_ | refine v10 ?_ ?_ | refine v12 ?_ ?_); exact rfl; intros) | ((with_reducible refine w2 ?_); try simp -implicitDefEqProofs only [SE, SU, SV]; intros) | ((with_reducible refine w5 ?_ ?_); simp; refine ⟨_, rfl, ?_⟩) | ((with_reducible refine w12 ?_ ?_ ?_ ?_); simp; simp; simp [oneC]; intros) | (refine okF_i (bldP_eq rfl) ?_; try simp only [BLS, SB, Nat.reduceAdd])) | simp -implicitDefEqProofs only [SE, SU, SV]))
  have h := St.wk (L' := arr BSY T_s_uint8 a6 c6 [⟨some ⟨b1, 0, none⟩, 1, [120]⟩, ⟨some ⟨b2, 0, none⟩, 1, [121]⟩] :: arr B8 T_uint8 (some ⟨b1, 0, none⟩) 1 [120] :: arr B8 T_uint8 (some ⟨b2, 0, none⟩) 1 [121] :: arr BSY T_s_uint8 a5 c5 rs5 :: many fch rs5 :: lg q2 p l5 :: dk p d5 :: L) (by first | assumption | exact St.tick (by assumption) | exact St.tick (St.tick (by assumption)))
  refine refSame (a := a5) (b := a6) (r1 := rs5) (r2 := [⟨some ⟨b1, 0, none⟩, 1, [120]⟩, ⟨some ⟨b2, 0, none⟩, 1, [121]⟩]) h (rdUp (rdUp (rdUp (rdUp rdIn)))) (fun x hx => ?_) (by have := congrArg List.length hrs5; simp at this; omega) fun W19 h => ?_
  · simp only [List.mem_cons, List.not_mem_nil, or_false] at hx
    rcases hx with rfl | rfl <;> exact inferInstance
  rw [hrs5, decide_eq_true (show ([[120], [121]] : List Bs) = bsOf [⟨some ⟨b1, 0, none⟩, 1, [120]⟩, ⟨some ⟨b2, 0, none⟩, 1, [121]⟩] from rfl)]
  (repeat (first | (first | ((with_reducible first | refine w1 ?_ | refine w3 ?_ | refine w4 ?_ | refine w11 ?_ | refine stb_n ?_); intros) | ((with_reducible first | refine v5 ?_ | refine v6 ?_ | refine v7 ?_ | refine ve ?_ | refine vn ?_); refine ⟨_, rfl, ?_⟩) | ((with_reducible first | refine v8 ?_ ?_ | refine v9 ?_ ?_ | refine v10 ?_ ?_ | refine v12 ?_ ?_); exact rfl; intros) | ((with_reducible refine w2 ?_); try simp -implicitDefEqProofs only [SE, SU, SV]; intros) | ((with_reducible refine w5 ?_ ?_); simp; refine ⟨_, rfl, ?_⟩) | ((with_reducible refine w12 ?_ ?_ ?_ ?_); simp; simp; simp [oneC]; intros) | (refine okF_i (bldP_eq rfl) ?_; try simp only [BLS, SB, Nat.reduceAdd])) | simp -implicitDefEqProofs only [SE, SU, SV]))
  refine walAll (dp := p) (l := l5) (by first | assumption | exact St.tick (by assumption) | exact St.tick (St.tick (by assumption))) (by rw [hv.recs]; decide) (by rw [hv.recs]; decide) fun a7 c7 rs7 W20 hrs7 h => ?_
  rw [hv.recs] at hrs7
  (repeat (first | (first | ((with_reducible first | refine w1 ?_ | refine w3 ?_ | refine w4 ?_ | refine w11 ?_ | refine stb_n ?_); intros) | ((with_reducible first | refine v5 ?_ | refine v6 ?_ | refine v7 ?_ | refine ve ?_ | refine vn ?_); refine ⟨_, rfl, ?_⟩) | ((with_reducible first | refine v8 ?_ ?_ | refine v9 ?_ ?_ | refine v10 ?_ ?_ | refine v12 ?_ ?_); exact rfl; intros) | ((with_reducible refine w2 ?_); try simp -implicitDefEqProofs only [SE, SU, SV]; intros) | ((with_reducible refine w5 ?_ ?_); simp; refine ⟨_, rfl, ?_⟩) | ((with_reducible refine w12 ?_ ?_ ?_ ?_); simp; simp; simp [oneC]; intros) | (refine okF_i (bldP_eq rfl) ?_; try simp only [BLS, SB, Nat.reduceAdd])) | simp -implicitDefEqProofs only [SE, SU, SV]))
  refine bl1 [120] (by first | assumption | exact St.tick (by assumption) | exact St.tick (St.tick (by assumption))) rfl (by decide) (by decide) rfl fun b3 W21 h => ?_
  (repeat (first | (first | ((with_reducible first | refine w1 ?_ | refine w3 ?_ | refine w4 ?_ | refine w11 ?_ | refine stb_n ?_); intros) | ((with_reducible first | refine v5 ?_ | refine v6 ?_ | refine v7 ?_ | refine ve ?_ | refine vn ?_); refine ⟨_, rfl, ?_⟩) | ((with_reducible first | refine v8 ?_ ?_ | refine v9 ?_ ?_ | refine v10 ?_ ?_ | refine v12 ?_ ?_); exact rfl; intros) | ((with_reducible refine w2 ?_); try simp -implicitDefEqProofs only [SE, SU, SV]; intros) | ((with_reducible refine w5 ?_ ?_); simp; refine ⟨_, rfl, ?_⟩) | ((with_reducible refine w12 ?_ ?_ ?_ ?_); simp; simp; simp [oneC]; intros) | (refine okF_i (bldP_eq rfl) ?_; try simp only [BLS, SB, Nat.reduceAdd])) | simp -implicitDefEqProofs only [SE, SU, SV]))
  refine bl2 [120] (by first | assumption | exact St.tick (by assumption) | exact St.tick (St.tick (by assumption))) (by decide) fun W22 h => ?_
  (repeat (first | (first | ((with_reducible first | refine w1 ?_ | refine w3 ?_ | refine w4 ?_ | refine w11 ?_ | refine stb_n ?_); intros) | ((with_reducible first | refine v5 ?_ | refine v6 ?_ | refine v7 ?_ | refine ve ?_ | refine vn ?_); refine ⟨_, rfl, ?_⟩) | ((with_reducible first | refine v8 ?_ ?_ | refine v9 ?_ ?_ | refine v10 ?_ ?_ | refine v12 ?_ ?_); exact rfl; intros) | ((with_reducible refine w2 ?_); try simp -implicitDefEqProofs only [SE, SU, SV]; intros) | ((with_reducible refine w5 ?_ ?_); simp; refine ⟨_, rfl, ?_⟩) | ((with_reducible refine w12 ?_ ?_ ?_ ?_); simp; simp; simp [oneC]; intros) | (refine okF_i (bldP_eq rfl) ?_; try simp only [BLS, SB, Nat.reduceAdd])) | simp -implicitDefEqProofs only [SE, SU, SV]))
  refine bsA BSY [⟨some ⟨b3, 0, none⟩, 1, [120]⟩] (n := 1) (by first | assumption | exact St.tick (by assumption) | exact St.tick (St.tick (by assumption))) rfl rfl (by decide) (by decide) rfl fun a8 c8 W23 h => ?_
  (repeat (first | (first | ((with_reducible first | refine w1 ?_ | refine w3 ?_ | refine w4 ?_ | refine w11 ?_ | refine stb_n ?_); intros) | ((with_reducible first | refine v5 ?_ | refine v6 ?_ | refine v7 ?_ | refine ve ?_ | refine vn ?_); refine ⟨_, rfl, ?_⟩) | ((with_reducible first | refine v8 ?_ ?_ | refine v9 ?_ ?_ | refine v10 ?_ ?_ | refine v12 ?_ ?_); exact rfl; intros) | ((with_reducible refine w2 ?_); try simp -implicitDefEqProofs only [SE, SU, SV]; intros) | ((with_reducible refine w5 ?_ ?_); simp; refine ⟨_, rfl, ?_⟩) | ((with_reducible refine w12 ?_ ?_ ?_ ?_); simp; simp; simp [oneC]; intros) | (refine okF_i (bldP_eq rfl) ?_; try simp only [BLS, SB, Nat.reduceAdd])) | simp -implicitDefEqProofs only [SE, SU, SV]))
  have h := St.wk (L' := arr BSY T_s_uint8 a8 c8 [⟨some ⟨b3, 0, none⟩, 1, [120]⟩] :: arr B8 T_uint8 (some ⟨b3, 0, none⟩) 1 [120] :: arr BSY T_s_uint8 a7 c7 rs7 :: many fch rs7 :: lg q2 p l5 :: dk p d5 :: L) (by first | assumption | exact St.tick (by assumption) | exact St.tick (St.tick (by assumption)))
  refine refSame (a := a7) (b := a8) (r1 := rs7) (r2 := [⟨some ⟨b3, 0, none⟩, 1, [120]⟩]) h (rdUp (rdUp (rdUp rdIn))) rd1 (by have := congrArg List.length hrs7; simp at this; omega) fun W24 h => ?_
  rw [hrs7, decide_eq_true (show ([[120]] : List Bs) = bsOf [⟨some ⟨b3, 0, none⟩, 1, [120]⟩] from rfl)]
  (repeat (first | (first | ((with_reducible first | refine w1 ?_ | refine w3 ?_ | refine w4 ?_ | refine w11 ?_ | refine stb_n ?_); intros) | ((with_reducible first | refine v5 ?_ | refine v6 ?_ | refine v7 ?_ | refine ve ?_ | refine vn ?_); refine ⟨_, rfl, ?_⟩) | ((with_reducible first | refine v8 ?_ ?_ | refine v9 ?_ ?_ | refine v10 ?_ ?_ | refine v12 ?_ ?_); exact rfl; intros) | ((with_reducible refine w2 ?_); try simp -implicitDefEqProofs only [SE, SU, SV]; intros) | ((with_reducible refine w5 ?_ ?_); simp; refine ⟨_, rfl, ?_⟩) | ((with_reducible refine w12 ?_ ?_ ?_ ?_); simp; simp; simp [oneC]; intros) | (refine okF_i (bldP_eq rfl) ?_; try simp only [BLS, SB, Nat.reduceAdd])) | simp -implicitDefEqProofs only [SE, SU, SV]))
  refine walBase (dp := p) (l := l5) (by first | assumption | exact St.tick (by assumption) | exact St.tick (St.tick (by assumption))) (by rw [hv.base]; decide) fun a9 c9 W25 h => ?_
  rw [hv.base]
  (repeat (first | (first | ((with_reducible first | refine w1 ?_ | refine w3 ?_ | refine w4 ?_ | refine w11 ?_ | refine stb_n ?_); intros) | ((with_reducible first | refine v5 ?_ | refine v6 ?_ | refine v7 ?_ | refine ve ?_ | refine vn ?_); refine ⟨_, rfl, ?_⟩) | ((with_reducible first | refine v8 ?_ ?_ | refine v9 ?_ ?_ | refine v10 ?_ ?_ | refine v12 ?_ ?_); exact rfl; intros) | ((with_reducible refine w2 ?_); try simp -implicitDefEqProofs only [SE, SU, SV]; intros) | ((with_reducible refine w5 ?_ ?_); simp; refine ⟨_, rfl, ?_⟩) | ((with_reducible refine w12 ?_ ?_ ?_ ?_); simp; simp; simp [oneC]; intros) | (refine okF_i (bldP_eq rfl) ?_; try simp only [BLS, SB, Nat.reduceAdd])) | simp -implicitDefEqProofs only [SE, SU, SV]))
  exact hk _ (St.wk (by first | assumption | exact St.tick (by assumption) | exact St.tick (St.tick (by assumption))))
end
end Go.Proofs.Ythladblmjoaeoaa
namespace Go.Proofs.Ythladblmjoaeoaa
set_option linter.unusedVariables false
set_option linter.unusedSimpArgs false
open Go Go.Eng Go.RowKit

mutual
theorem goodCz {W : World} {c : Cl} {v : Value} : GoodC W c v → GoodC { W with drawn := 0 } c v
  | .int h => .int h
  | .str h => .str h
  | .bool => .bool
  | .sl rows hc hm hn hr hg => .sl rows hc hm hn hr fun i hi => goodLz (hg i hi)
theorem goodLz {W : World} {l : List Cl} {v : List Value} : GoodL W l v → GoodL { W with drawn := 0 } l v
  | .nil => .nil
  | .cons h hs => .cons (goodCz h) (goodLz hs)
end
theorem goodAz {W : World} {l : List Cl} {b : Bool} {v : Value} (h : GoodA W l b v) : GoodA { W with drawn := 0 } l b v := ⟨goodLz h.1, h.2⟩
def rgBs (W : World) (x : BSl) : Prop := x.bs.length ≤ x.c ∧ x.c ≤ maxLen ∧ Rd W [] x.a B8 x.bs
instance : Inhabited BSl := ⟨⟨none, 0, []⟩⟩
theorem openBsC {W : World} {v : Value} (h : GoodC W (.sl [.sl [.int .u8]]) v) : ∃ (a : Option Addr) (c : Nat) (l : List BSl), v = .slice a l.length c ∧ l.length ≤ c ∧ c ≤ maxLen ∧ Rd W [] a BSY l ∧ ∀ x ∈ l, rgBs W x :=
  openArr BSY (rgBs W) h rfl fun vs h => by
    obtain ⟨_, _, rfl, h1, h⟩ := h.cons'
    obtain rfl := h.nil'
    obtain ⟨a, c, l, rfl, hl, hc, hr⟩ := openBytes h1
    exact ⟨⟨a, c, l⟩, rfl, hl, hc, hr⟩
theorem Rd.any {α : Type} {A : Ly α} {W0 : World} {L : List Asn} {a : Option Addr} {l : List α} (h : Rd W0 [] a A l) : Rd W0 L a A l := ⟨fun W hs => h.ok W hs.nil⟩
theorem Rd.wk {α : Type} {A : Ly α} {W0 : World} {L L' : List Asn} {a : Option Addr} {l : List α} (h : Rd W0 L' a A l) [hw : Wk L L'] : Rd W0 L a A l := ⟨fun W hs => h.ok W hs.wk⟩
theorem WV.mono {n m : Nat} {d : DS} {l : LS} {part : Int} {base : Bs} {all : List Bs} {safe : Nat} {room used used' : Int} {turns files files' : Nat} {nt : Bool} (h : WV n d l part base all safe room used turns files nt) (hm : m ≤ n) (hu : used ≤ used') (hf : files ≤ files') : WV m d l part base all safe room used' turns files' nt :=
  ⟨h.live, h.recs, h.part, h.base, h.room, Int.le_trans h.used hu, Nat.le_trans h.nf hf, h.tn, ⟨h.lok.ok, by have := h.lok.ws; omega, by have := h.lok.nums; omega, by have := h.lok.dirty; omega, h.lok.turn, by have := h.lok.index; omega, by have := h.lok.count; omega⟩⟩
theorem WV.turns {n : Nat} {d : DS} {l : LS} {part : Int} {base : Bs} {all : List Bs} {safe : Nat} {room used : Int} {turns turns' files : Nat} {nt : Bool} (h : WV n d l part base all safe room used turns files nt) (ht : turns ≤ turns') : WV n d l part base all safe room used turns' files nt :=
  ⟨h.live, h.recs, h.part, h.base, h.room, h.used, h.nf, Nat.le_trans h.tn ht, h.lok⟩
end Go.Proofs.Ythladblmjoaeoaa
namespace Go.Proofs.Ythladblmjoaeoaa
set_option linter.unusedVariables false
set_option linter.unusedSimpArgs false
open Go.Eng
/-! ### rostrum/rostrumlaw6.WalSpoilt (13) -/
def S.rostrumlaw6_WalSpoilt.j1 (R : Value → World → Prop) (x0 x1 x2 x3 x4 x5 x13 x15 : Value) (W : World) : Prop :=
  callK PR F_wal_Log_Sync [x15] (fun v97 W =>
  okF (binP .neq v97 (.int .i64 0)) fun v98 =>
  ifK v98 (
  R (.bool false) W) (
  callK PR F_disk_Disk_Files [x13] (fun v100 W =>
  okF (lenP (.slice T_int) v100) fun v102 =>
  okF (binP .eql v102 (.int .i64 0)) fun v103 =>
  ifK v103 (
  R (.bool true) W) (
  okF (lenP (.slice T_int) v100) fun v109 =>
  okF (binP .rem x3 v109) fun v110 =>
  okF (idxS 1 v100 v110) fun v111 =>
  rdK PR (Instr.loadAt T_int v111) (fun v112 W =>
  callK PR F_disk_Disk_Read [x13, v112] (fun v113 W =>
  okF (extP 0 v113) fun v114 =>
  okF (extP 1 v113) fun v115 =>
  okF (lenP (.slice T_uint8) v114) fun v117 =>
  okF (binP .eql v117 (.int .i64 0)) fun v118 =>
  gdK (wantd v118 false) (fun k W => k x13 W) (fun v120 W =>
  gdK (wantd v118 false) (fun k W => k v100 W) (fun v121 W =>
  gdK (wantd v118 false) (fun k W => k x3 W) (fun v122 W =>
  gdK (wantd v118 false) (fun k W => k v100 W) (fun v123 W =>
  gdK (wantd v118 false) (fun k W => okF (lenP (.slice T_int) v123) fun v => k v W) (fun v124 W =>
  gdK (wantd v118 false) (fun k W => okF (binP .rem v122 v124) fun v => k v W) (fun v125 W =>
  gdK (wantd v118 false) (fun k W => okF (idxS 1 v121 v125) fun v => k v W) (fun v126 W =>
  gdK (wantd v118 false) (fun k W => rdK PR (Instr.loadAt T_int v126) k W) (fun v127 W =>
  gdK (wantd v118 false) (fun k W => k x4 W) (fun v128 W =>
  gdK (wantd v118 false) (fun k W => k v114 W) (fun v129 W =>
  gdK (wantd v118 false) (fun k W => okF (lenP (.slice T_uint8) v129) fun v => k v W) (fun v130 W =>
  gdK (wantd v118 false) (fun k W => okF (binP .rem v128 v130) fun v => k v W) (fun v131 W =>
  gdK (wantd v118 false) (fun k W => k x5 W) (fun v132 W =>
  gdK (wantd v118 false) (fun k W => callK PR F_disk_Disk_Spoil [v120, v127, v131, v132] k W) (fun v133 W =>
  gdK (wantd v118 false) (fun k W => okF (unP .not v133) fun v => k v W) (fun v134 W =>
  okF (pickP v118 (.bool true) v134) fun v135 =>
  ifK v135 (
  R (.bool true) W) (
  callK PR F_wal_Open [x13, x0] (fun v139 W =>
  okF (extP 0 v139) fun v140 =>
  okF (extP 1 v139) fun v141 =>
  okF (binP .neq v141 (.int .i64 0)) fun v143 =>
  ifK v143 (
  okF (binP .eql v141 (.int .i64 3)) fun v145 =>
  gdK (wantd v145 true) (fun k W => k v140 W) (fun v147 W =>
  gdK (wantd v145 true) (fun k W => okF (eqP (.pointer T_wal_Log) .eql v147 (.pointer none)) fun v => k v W) (fun v148 W =>
  okF (pickP v145 v148 (.bool false)) fun v149 =>
  R v149 W) W) W) (
  okF (eqP (.pointer T_wal_Log) .neq v140 (.pointer none)) fun v151 =>
  gdK (wantd v151 true) (fun k W => k v140 W) (fun v153 W =>
  gdK (wantd v151 true) (fun k W => k x2 W) (fun v156 W =>
  gdK (wantd v151 true) (fun k W => rdK PR (convert T_s_uint8 T_string v156) k W) (fun v157 W =>
  gdK (wantd v151 true) (fun k W => callK PR F_wal_Log_Base [v153] (fun v W => stb PR [(7, (wantd v151 true), (convert T_s_uint8 T_string v156), v157)] (fun W => k v W) W) W) (fun v154 W =>
  gdK (wantd v151 true) (fun k W => rdK PR (convert T_s_uint8 T_string v154) k W) (fun v155 W =>
  gdK (wantd v151 true) (fun k W => okF (binP .eql v155 v157) fun v => k v W) (fun v158 W =>
  okF (pickP v151 v158 (.bool false)) fun v159 =>
  gdK (wantd v159 true) (fun k W => k v140 W) (fun v161 W =>
  gdK (wantd v159 true) (fun k W => k x1 W) (fun v163 W =>
  gdK (wantd v159 true) (fun k W => callK PR F_wal_Log_All [v161] k W) (fun v162 W =>
  gdK (wantd v159 true) (fun k W => callK PR F_rostrumref1_Same [v162, v163] k W) (fun v164 W =>
  okF (pickP v159 v164 (.bool false)) fun v165 =>
  R v165 W) W) W) W) W) W) W) W) W) W) (tick W))) W)) W) W) W) W) W) W) W) W) W) W) W) W) W) W) (tick W)) W) W)) W)) W
def S.rostrumlaw6_WalSpoilt.l1 (R : Value → World → Prop) (J1 : List Value → World → Prop) (K1 : List Value → World → Prop) (x0 x1 x2 x3 x4 x5 x13 x15 x17 : Value) (W : World) : Prop :=
  okF (lenP (.slice T_s_uint8) x1) fun v78 =>
  okF (binP .lss x17 v78) fun v79 =>
  ifK v79 (
  okF (idxS 1 x1 x17) fun v84 =>
  rdK PR (Instr.loadAt T_s_uint8 v84) (fun v85 W =>
  okF (lenP (.slice T_uint8) v85) fun v86 =>
  okF (binP .gtr v86 (.int .i64 200)) fun v87 =>
  ifK v87 (
  R (.bool true) W) (
  okF (idxS 1 x1 x17) fun v91 =>
  rdK PR (Instr.loadAt T_s_uint8 v91) (fun v92 W =>
  efK PR (Instr.buildSlice T_s_s_uint8 1 #[(0, v92)]) (fun v93 W =>
  callK PR F_wal_Log_Add [x15, v93] (fun v94 W =>
  okF (binP .neq v94 (.int .i64 0)) fun v95 =>
  ifK v95 (
  R (.bool false) W) (
  okF (binP .add x17 (.int .i64 1)) fun v81 =>
  K1 [x0, x1, x2, x3, x4, x5, x13, x15, v81] W)) W) W) W)) W) (
  J1 [x0, x1, x2, x3, x4, x5, x13, x15] W)
def S.rostrumlaw6_WalSpoilt.body (R : Value → World → Prop) (v0 v1 v2 v3 v4 v5 : Value) (W : World) : Prop :=
  callK PR F_rostrumlaw6_awake [] (fun v23 W =>
  okF (unP .not v23) fun v24 =>
  ifK v24 (
  R (.bool false) W) (
  okF (binP .lss v0 (.int .i64 1)) fun v26 =>
  gdK (wantd v26 false) (fun k W => k v0 W) (fun v28 W =>
  gdK (wantd v26 false) (fun k W => okF (binP .gtr v28 (.int .i64 1000)) fun v => k v W) (fun v29 W =>
  okF (pickP v26 (.bool true) v29) fun v30 =>
  gdK (wantd v30 false) (fun k W => k v1 W) (fun v32 W =>
  gdK (wantd v30 false) (fun k W => okF (lenP (.slice T_s_uint8) v32) fun v => k v W) (fun v33 W =>
  gdK (wantd v30 false) (fun k W => okF (binP .gtr v33 (.int .i64 12)) fun v => k v W) (fun v34 W =>
  okF (pickP v30 (.bool true) v34) fun v35 =>
  gdK (wantd v35 false) (fun k W => k v2 W) (fun v37 W =>
  gdK (wantd v35 false) (fun k W => okF (lenP (.slice T_uint8) v37) fun v => k v W) (fun v38 W =>
  gdK (wantd v35 false) (fun k W => okF (binP .gtr v38 (.int .i64 200)) fun v => k v W) (fun v39 W =>
  okF (pickP v35 (.bool true) v39) fun v40 =>
  gdK (wantd v40 false) (fun k W => k v3 W) (fun v42 W =>
  gdK (wantd v40 false) (fun k W => okF (binP .lss v42 (.int .i64 0)) fun v => k v W) (fun v43 W =>
  okF (pickP v40 (.bool true) v43) fun v44 =>
  gdK (wantd v44 false) (fun k W => k v4 W) (fun v46 W =>
  gdK (wantd v44 false) (fun k W => okF (binP .lss v46 (.int .i64 0)) fun v => k v W) (fun v47 W =>
  okF (pickP v44 (.bool true) v47) fun v48 =>
  ifK v48 (
  R (.bool true) W) (
  callK PR F_disk_New [(.int .i64 262144)] (fun v50 W =>
  okF (extP 0 v50) fun v51 =>
  okF (extP 1 v50) fun v52 =>
  callK PR F_wal_Open [v51, v0] (fun v56 W =>
  okF (extP 0 v56) fun v57 =>
  okF (extP 1 v56) fun v58 =>
  okF (binP .neq v58 (.int .i64 0)) fun v60 =>
  gdK (wantd v60 false) (fun k W => k v57 W) (fun v62 W =>
  gdK (wantd v60 false) (fun k W => okF (eqP (.pointer T_wal_Log) .eql v62 (.pointer none)) fun v => k v W) (fun v63 W =>
  okF (pickP v60 (.bool true) v63) fun v64 =>
  gdK (wantd v64 false) (fun k W => k v2 W) (fun v66 W =>
  gdK (wantd v64 false) (fun k W => okF (lenP (.slice T_uint8) v66) fun v => k v W) (fun v67 W =>
  gdK (wantd v64 false) (fun k W => okF (binP .gtr v67 (.int .i64 0)) fun v => k v W) (fun v68 W =>
  gdK (wantd v64 false) (fun k W => k v68 W) (fun v69 W =>
  gdK (wantd v69 true) (fun k W => k v57 W) (fun v70 W =>
  gdK (wantd v69 true) (fun k W => k v2 W) (fun v71 W =>
  gdK (wantd v69 true) (fun k W => callK PR F_wal_Log_Keep [v70, v71] k W) (fun v72 W =>
  gdK (wantd v69 true) (fun k W => okF (binP .neq v72 (.int .i64 0)) fun v => k v W) (fun v73 W =>
  gdK (wantd v64 false) (fun k W => okF (pickP v69 v73 (.bool false)) fun v => k v W) (fun v74 W =>
  okF (pickP v64 (.bool true) v74) fun v75 =>
  ifK v75 (
  R (.bool false) W) (
  joinK (fun s W => S.rostrumlaw6_WalSpoilt.j1 R (nthv s 0) (nthv s 1) (nthv s 2) (nthv s 3) (nthv s 4) (nthv s 5) (nthv s 6) (nthv s 7) W) (fun J1 =>
  loopK (fun K1 s W => S.rostrumlaw6_WalSpoilt.l1 R J1 K1 (nthv s 0) (nthv s 1) (nthv s 2) (nthv s 3) (nthv s 4) (nthv s 5) (nthv s 6) (nthv s 7) (nthv s 8) W) [v0, v1, v2, v3, v4, v5, v51, v57, (.int .i64 0)] W))) W) W) W) W) W) W) W) W) W) W) W) W) W)) W) W) W) W) W) W) W) W) W) W) W) W)) W
def S.rostrumlaw6_WalSpoilt.hint : Hint := (.two .nil (.two (.two .nil (.two (.two .nil .nil) .nil)) (.two (.two .nil (.two (.two .nil .nil) .nil)) (.two .nil (.two .nil (.two (.two .nil (.two (.two .nil .nil) .nil)) (.at [0, 1, 2, 3, 4, 5, 13, 15] (.two .nil (.at [0, 1, 2, 3, 4, 5, 13, 15, 17] (.two (.two .nil (.two .nil .nil)) (.two (.two (.two .nil (.two (.two .nil .nil) .nil)) (.two .nil (.two (.two .nil .nil) .nil))) .nil)) .nil)) (.two (.two .nil (.two (.two .nil .nil) .nil)) (.two .nil (.two (.two .nil (.two (.two .nil .nil) .nil)) (.two .nil (.two (.two .nil (.two (.two .nil .nil) .nil)) (.two .nil (.two (.two .nil (.two (.two .nil .nil) .nil)) (.two .nil .nil)))))))))))))))
theorem S.rostrumlaw6_WalSpoilt.ok (R : Value → World → Prop) (v0 v1 v2 v3 v4 v5 : Value) (W : World) : bodyK PR CB Try.f13 S.rostrumlaw6_WalSpoilt.hint [v0, v1, v2, v3, v4, v5] R W = S.rostrumlaw6_WalSpoilt.body R v0 v1 v2 v3 v4 v5 W := by kernel_rfl
theorem S.rostrumlaw6_WalSpoilt.fn : PR.funcs[F_rostrumlaw6_WalSpoilt]? = some Try.f13 := by kernel_rfl
theorem S.rostrumlaw6_WalSpoilt.call {R : Value → World → Prop} {v0 v1 v2 v3 v4 v5 : Value} {W : World} (h : S.rostrumlaw6_WalSpoilt.body R v0 v1 v2 v3 v4 v5 W) : callK PR F_rostrumlaw6_WalSpoilt [v0, v1, v2, v3, v4, v5] R W :=
  callK_of_body (g := F_rostrumlaw6_WalSpoilt) (fn := Try.f13) (args := [v0, v1, v2, v3, v4, v5]) (R := R) (w := W) mixed CBok S.rostrumlaw6_WalSpoilt.fn S.rostrumlaw6_WalSpoilt.hint (by rw [S.rostrumlaw6_WalSpoilt.ok]; exact h)
end Go.Proofs.Ythladblmjoaeoaa
namespace Go.Proofs.Ythladblmjoaeoaa
set_option linter.unusedVariables false
set_option linter.unusedSimpArgs false
open Go Go.Eng Go.RowKit

theorem xor_ne {x b : UInt8} (h : b ≠ 0) : x ^^^ b ≠ x := fun e => h (by
  have e2 := congrArg (x ^^^ ·) e
  simp only [← UInt8.xor_assoc, UInt8.xor_self, UInt8.zero_xor] at e2
  exact e2)
theorem set_ne {c : Bs} {i : Nat} {x : UInt8} (hi : i < c.length) (h : x ≠ c.getD i 0) : c.set i x ≠ c := fun e => h (by
  have e2 := congrArg (fun l : Bs => l[i]?) e
  simp only [List.getElem?_set_self hi] at e2
  rw [List.getD_eq_getElem?_getD, ← e2]; rfl)
theorem tmod_nat {a : Int} {n : Nat} (h : 0 ≤ a) : a.tmod (n : Int) = ((a.toNat % n : Nat) : Int) := by
  obtain ⟨m, rfl⟩ : ∃ m : Nat, a = m := ⟨a.toNat, by omega⟩
  rw [Int.toNat_natCast]; rfl
set_option maxRecDepth 100000 in
set_option maxHeartbeats 4000000 in
theorem walSpoilt_walk {W : World} {v0 v1 v2 v3 v4 v5 : Value} (h0 : GoodA W [.int .i64] false v0) (h1 : GoodA W [.sl [.sl [.int .u8]]] false v1) (h2 : GoodA W [.sl [.int .u8]] false v2) (h3 : GoodA W [.int .i64] false v3) (h4 : GoodA W [.int .i64] false v4) (h5 : GoodA W [.int .u8] false v5) :
    callK PR F_rostrumlaw6_WalSpoilt [v0, v1, v2, v3, v4, v5] (fun v W' => v = .bool true ∧ Lo W W') W := by
  obtain ⟨part, rfl, _⟩ := h0.one.int'
  obtain ⟨a1, c1, l, rfl, hlc, hlm, hlr, hlg⟩ := openBsC (goodAz h1).one
  obtain ⟨a2, c2, base, rfl, hbc, hbm, hbr⟩ := openBytes (goodAz h2).one
  obtain ⟨file, rfl, hfw⟩ := h3.one.int'
  obtain ⟨at_, rfl, haw⟩ := h4.one.int'
  obtain ⟨by_, rfl, hyw⟩ := h5.one.int'
  have hy8 : Value.int .u8 by_ = b8 (UInt8.ofNat by_.toNat) := by
    have := wf8 hyw
    rw [← b8_ofNat (by omega)]
    congr 1; omega
  rw [hy8]
  generalize UInt8.ofNat by_.toNat = byt
  have hf64 := Eng.wf64 hfw
  have ha64 := Eng.wf64 haw
  apply S.rostrumlaw6_WalSpoilt.call
  unfold S.rostrumlaw6_WalSpoilt.body
  have h := St.startz W
  refine lawAwake6 h rfl fun W1 h => ?_
  by_cases q1 : part < 1
  · (repeat (first | (first | ((with_reducible first | refine w1 ?_ | refine w3 ?_ | refine w4 ?_ | refine w11 ?_ | refine stb_n ?_); intros) | ((with_reducible first | refine v5 ?_ | refine v6 ?_ | refine v7 ?_ | refine ve ?_ | refine vn ?_); refine ⟨_, rfl, ?_⟩) | ((with_reducible first | refine v8 ?_ ?_ | refine v9 ?_ ?_ | refine v10 ?_ ?_ | refine v12 ?_ ?_); exact rfl; intros) | ((with_reducible refine w2 ?_); try simp -implicitDefEqProofs only [SE, SU, SV, q1]; intros) | ((with_reducible refine w5 ?_ ?_); simp; refine ⟨_, rfl, ?_⟩) | ((with_reducible refine w12 ?_ ?_ ?_ ?_); simp; simp; simp [oneC]; intros) | (refine okF_i (bldP_eq rfl) ?_; try simp only [BLS, SB, Nat.reduceAdd])) | simp -implicitDefEqProofs only [SE, SU, SV, q1])); exact St.lo h
  by_cases q2 : 1000 < part
  · (repeat (first | (first | ((with_reducible first | refine w1 ?_ | refine w3 ?_ | refine w4 ?_ | refine w11 ?_ | refine stb_n ?_); intros) | ((with_reducible first | refine v5 ?_ | refine v6 ?_ | refine v7 ?_ | refine ve ?_ | refine vn ?_); refine ⟨_, rfl, ?_⟩) | ((with_reducible first | refine v8 ?_ ?_ | refine v9 ?_ ?_ | refine v10 ?_ ?_ | refine v12 ?_ ?_); exact rfl; intros) | ((with_reducible refine w2 ?_); try simp -implicitDefEqProofs only [SE, SU, SV, q1, q2]; intros) | ((with_reducible refine w5 ?_ ?_); simp; refine ⟨_, rfl, ?_⟩) | ((with_reducible refine w12 ?_ ?_ ?_ ?_); simp; simp; simp [oneC]; intros) | (refine okF_i (bldP_eq rfl) ?_; try simp only [BLS, SB, Nat.reduceAdd])) | simp -implicitDefEqProofs only [SE, SU, SV, q1, q2])); exact St.lo h
  by_cases q3 : (12 : Int) < (l.length : Int)
  · (repeat (first | (first | ((with_reducible first | refine w1 ?_ | refine w3 ?_ | refine w4 ?_ | refine w11 ?_ | refine stb_n ?_); intros) | ((with_reducible first | refine v5 ?_ | refine v6 ?_ | refine v7 ?_ | refine ve ?_ | refine vn ?_); refine ⟨_, rfl, ?_⟩) | ((with_reducible first | refine v8 ?_ ?_ | refine v9 ?_ ?_ | refine v10 ?_ ?_ | refine v12 ?_ ?_); exact rfl; intros) | ((with_reducible refine w2 ?_); try simp -implicitDefEqProofs only [SE, SU, SV, q1, q2, q3]; intros) | ((with_reducible refine w5 ?_ ?_); simp; refine ⟨_, rfl, ?_⟩) | ((with_reducible refine w12 ?_ ?_ ?_ ?_); simp; simp; simp [oneC]; intros) | (refine okF_i (bldP_eq rfl) ?_; try simp only [BLS, SB, Nat.reduceAdd])) | simp -implicitDefEqProofs only [SE, SU, SV, q1, q2, q3])); exact St.lo h
  by_cases q4 : (200 : Int) < (base.length : Int)
  · (repeat (first | (first | ((with_reducible first | refine w1 ?_ | refine w3 ?_ | refine w4 ?_ | refine w11 ?_ | refine stb_n ?_); intros) | ((with_reducible first | refine v5 ?_ | refine v6 ?_ | refine v7 ?_ | refine ve ?_ | refine vn ?_); refine ⟨_, rfl, ?_⟩) | ((with_reducible first | refine v8 ?_ ?_ | refine v9 ?_ ?_ | refine v10 ?_ ?_ | refine v12 ?_ ?_); exact rfl; intros) | ((with_reducible refine w2 ?_); try simp -implicitDefEqProofs only [SE, SU, SV, q1, q2, q3, q4]; intros) | ((with_reducible refine w5 ?_ ?_); simp; refine ⟨_, rfl, ?_⟩) | ((with_reducible refine w12 ?_ ?_ ?_ ?_); simp; simp; simp [oneC]; intros) | (refine okF_i (bldP_eq rfl) ?_; try simp only [BLS, SB, Nat.reduceAdd])) | simp -implicitDefEqProofs only [SE, SU, SV, q1, q2, q3, q4])); exact St.lo h
  by_cases q5 : file < 0
  · (repeat (first | (first | ((with_reducible first | refine w1 ?_ | refine w3 ?_ | refine w4 ?_ | refine w11 ?_ | refine stb_n ?_); intros) | ((with_reducible first | refine v5 ?_ | refine v6 ?_ | refine v7 ?_ | refine ve ?_ | refine vn ?_); refine ⟨_, rfl, ?_⟩) | ((with_reducible first | refine v8 ?_ ?_ | refine v9 ?_ ?_ | refine v10 ?_ ?_ | refine v12 ?_ ?_); exact rfl; intros) | ((with_reducible refine w2 ?_); try simp -implicitDefEqProofs only [SE, SU, SV, q1, q2, q3, q4, q5]; intros) | ((with_reducible refine w5 ?_ ?_); simp; refine ⟨_, rfl, ?_⟩) | ((with_reducible refine w12 ?_ ?_ ?_ ?_); simp; simp; simp [oneC]; intros) | (refine okF_i (bldP_eq rfl) ?_; try simp only [BLS, SB, Nat.reduceAdd])) | simp -implicitDefEqProofs only [SE, SU, SV, q1, q2, q3, q4, q5])); exact St.lo h
  by_cases q6 : at_ < 0
  · (repeat (first | (first | ((with_reducible first | refine w1 ?_ | refine w3 ?_ | refine w4 ?_ | refine w11 ?_ | refine stb_n ?_); intros) | ((with_reducible first | refine v5 ?_ | refine v6 ?_ | refine v7 ?_ | refine ve ?_ | refine vn ?_); refine ⟨_, rfl, ?_⟩) | ((with_reducible first | refine v8 ?_ ?_ | refine v9 ?_ ?_ | refine v10 ?_ ?_ | refine v12 ?_ ?_); exact rfl; intros) | ((with_reducible refine w2 ?_); try simp -implicitDefEqProofs only [SE, SU, SV, q1, q2, q3, q4, q5, q6]; intros) | ((with_reducible refine w5 ?_ ?_); simp; refine ⟨_, rfl, ?_⟩) | ((with_reducible refine w12 ?_ ?_ ?_ ?_); simp; simp; simp [oneC]; intros) | (refine okF_i (bldP_eq rfl) ?_; try simp only [BLS, SB, Nat.reduceAdd])) | simp -implicitDefEqProofs only [SE, SU, SV, q1, q2, q3, q4, q5, q6])); exact St.lo h
  (repeat (first | (first | ((with_reducible first | refine w1 ?_ | refine w3 ?_ | refine w4 ?_ | refine w11 ?_ | refine stb_n ?_); intros) | ((with_reducible first | refine v5 ?_ | refine v6 ?_ | refine v7 ?_ | refine ve ?_ | refine vn ?_); refine ⟨_, rfl, ?_⟩) | ((with_reducible first | refine v8 ?_ ?_ | refine v9 ?_ ?_ | refine v10 ?_ ?_ | refine v12 ?_ ?_); exact rfl; intros) | ((with_reducible refine w2 ?_); try simp -implicitDefEqProofs only [SE, SU, SV, q1, q2, q3, q4, q5, q6]; intros) | ((with_reducible refine w5 ?_ ?_); simp; refine ⟨_, rfl, ?_⟩) | ((with_reducible refine w12 ?_ ?_ ?_ ?_); simp; simp; simp [oneC]; intros) | (refine okF_i (bldP_eq rfl) ?_; try simp only [BLS, SB, Nat.reduceAdd])) | simp -implicitDefEqProofs only [SE, SU, SV, q1, q2, q3, q4, q5, q6]))
  refine diskNew (by first | assumption | exact St.tick (by assumption) | exact St.tick (St.tick (by assumption))) (by omega) (by omega) fun p W3 h => ?_
  (repeat (first | (first | ((with_reducible first | refine w1 ?_ | refine w3 ?_ | refine w4 ?_ | refine w11 ?_ | refine stb_n ?_); intros) | ((with_reducible first | refine v5 ?_ | refine v6 ?_ | refine v7 ?_ | refine ve ?_ | refine vn ?_); refine ⟨_, rfl, ?_⟩) | ((with_reducible first | refine v8 ?_ ?_ | refine v9 ?_ ?_ | refine v10 ?_ ?_ | refine v12 ?_ ?_); exact rfl; intros) | ((with_reducible refine w2 ?_); try simp -implicitDefEqProofs only [SE, SU, SV]; intros) | ((with_reducible refine w5 ?_ ?_); simp; refine ⟨_, rfl, ?_⟩) | ((with_reducible refine w12 ?_ ?_ ?_ ?_); simp; simp; simp [oneC]; intros) | (refine okF_i (bldP_eq rfl) ?_; try simp only [BLS, SB, Nat.reduceAdd])) | simp -implicitDefEqProofs only [SE, SU, SV]))
  refine walOpenV (dp := p) (d := ⟨262144, [], [], true, 1⟩) (part := part) (n := 1000) (room := 262144) (used := 0) (turns := 0) (files := 0) (by first | assumption | exact St.tick (by assumption) | exact St.tick (St.tick (by assumption))) rfl q1 q2 rfl ⟨by decide, by decide, by decide⟩ rfl (nt := true) GD.fresh rfl (Int.le_refl _) (Nat.le_refl _) (Nat.le_refl _) (by decide) (by decide) (fun _ p hp => nomatch hp) fun q d1 l1 W4 hv _ h => ?_
  have hv : WV 1000 d1 l1 part [] [] 0 262144 0 0 0 true := hv
  rcases Classical.em ((0 : Int) < (base.length : Int)) with q7 | q7
  case' inl =>
    (repeat (first | (first | ((with_reducible first | refine w1 ?_ | refine w3 ?_ | refine w4 ?_ | refine w11 ?_ | refine stb_n ?_); intros) | ((with_reducible first | refine v5 ?_ | refine v6 ?_ | refine v7 ?_ | refine ve ?_ | refine vn ?_); refine ⟨_, rfl, ?_⟩) | ((with_reducible first | refine v8 ?_ ?_ | refine v9 ?_ ?_ | refine v10 ?_ ?_ | refine v12 ?_ ?_); exact rfl; intros) | ((with_reducible refine w2 ?_); try simp -implicitDefEqProofs only [SE, SU, SV, q7]; intros) | ((with_reducible refine w5 ?_ ?_); simp; refine ⟨_, rfl, ?_⟩) | ((with_reducible refine w12 ?_ ?_ ?_ ?_); simp; simp; simp [oneC]; intros) | (refine okF_i (bldP_eq rfl) ?_; try simp only [BLS, SB, Nat.reduceAdd])) | simp -implicitDefEqProofs only [SE, SU, SV, q7]))
    refine walKeepV (dp := p) (q := q) (a := a2) (c := c2) (b := base) (n := 900) (by first | assumption | exact St.tick (by assumption) | exact St.tick (St.tick (by assumption))) (hv.mono (by omega) (Int.le_refl _) (Nat.le_refl _)) (by omega) (by omega) (by decide) (by omega) fun d1 l1 W6 _ hv h => ?_
    have hv : WV 800 d1 l1 part base [] 0 262144 300 1 1 true := hv.mono (by omega) (by omega) (Nat.le_refl _)
    (repeat (first | (first | ((with_reducible first | refine w1 ?_ | refine w3 ?_ | refine w4 ?_ | refine w11 ?_ | refine stb_n ?_); intros) | ((with_reducible first | refine v5 ?_ | refine v6 ?_ | refine v7 ?_ | refine ve ?_ | refine vn ?_); refine ⟨_, rfl, ?_⟩) | ((with_reducible first | refine v8 ?_ ?_ | refine v9 ?_ ?_ | refine v10 ?_ ?_ | refine v12 ?_ ?_); exact rfl; intros) | ((with_reducible refine w2 ?_); try simp -implicitDefEqProofs only [SE, SU, SV]; intros) | ((with_reducible refine w5 ?_ ?_); simp; refine ⟨_, rfl, ?_⟩) | ((with_reducible refine w12 ?_ ?_ ?_ ?_); simp; simp; simp [oneC]; intros) | (refine okF_i (bldP_eq rfl) ?_; try simp only [BLS, SB, Nat.reduceAdd])) | simp -implicitDefEqProofs only [SE, SU, SV]))
  case' inr =>
    have hb0 : base = [] := List.eq_nil_of_length_eq_zero (by omega)
    have hv : WV 800 d1 l1 part base [] 0 262144 300 1 1 true := by rw [hb0]; exact (hv.mono (by omega) (by omega) (by omega)).turns (by omega)
    (repeat (first | (first | ((with_reducible first | refine w1 ?_ | refine w3 ?_ | refine w4 ?_ | refine w11 ?_ | refine stb_n ?_); intros) | ((with_reducible first | refine v5 ?_ | refine v6 ?_ | refine v7 ?_ | refine ve ?_ | refine vn ?_); refine ⟨_, rfl, ?_⟩) | ((with_reducible first | refine v8 ?_ ?_ | refine v9 ?_ ?_ | refine v10 ?_ ?_ | refine v12 ?_ ?_); exact rfl; intros) | ((with_reducible refine w2 ?_); try simp -implicitDefEqProofs only [SE, SU, SV, q7]; intros) | ((with_reducible refine w5 ?_ ?_); simp; refine ⟨_, rfl, ?_⟩) | ((with_reducible refine w12 ?_ ?_ ?_ ?_); simp; simp; simp [oneC]; intros) | (refine okF_i (bldP_eq rfl) ?_; try simp only [BLS, SB, Nat.reduceAdd])) | simp -implicitDefEqProofs only [SE, SU, SV, q7]))
  all_goals
    refine joinK_i ?_
    refine loop_c (σ := DS × LS) l.length (fun i _ => [.int .i64 part, .slice a1 l.length c1, .slice a2 base.length c2, .int .i64 file, .int .i64 at_, b8 byt, .pointer (some ⟨p, 0, none⟩), .pointer (some ⟨q, 0, none⟩), .int .i64 (i : Int)])
      (fun i x W1 => (∃ safe, WV (800 - i) x.1 x.2 part base (bsOf (l.take i)) safe 262144 (300 + 300 * i) 1 (1 + i) true) ∧ St { W with drawn := 0 } [lg q p x.2, dk p x.1] W1) (d1, l1) rfl ⟨⟨0, hv⟩, (by first | assumption | exact St.tick (by assumption) | exact St.tick (St.tick (by assumption)))⟩ ?_
    clear h hv
    rintro K i ⟨d2, l2⟩ W5 hi ⟨⟨safe, hv⟩, h⟩ hK
    simp only at hv h
    simp -implicitDefEqProofs only [SE, SU, SV]
    unfold S.rostrumlaw6_WalSpoilt.l1
    by_cases hlt : (i : Int) < (l.length : Int)
    · have hib : i < l.length := by omega
      have ew : IntKind.i64.wrap ((i : Int) + 1) = ((i + 1 : Nat) : Int) := by rw [i64w]; omega
      have hx := hlg _ (List.getElem_mem hib)
      have e1 : l.take (i + 1) = l.take i ++ [l[i]] := take_snoc hib
      rw [e1] at hK
      (repeat (first | (first | ((with_reducible first | refine w1 ?_ | refine w3 ?_ | refine w4 ?_ | refine w11 ?_ | refine stb_n ?_); intros) | ((with_reducible first | refine v5 ?_ | refine v6 ?_ | refine v7 ?_ | refine ve ?_ | refine vn ?_); refine ⟨_, rfl, ?_⟩) | ((with_reducible first | refine v8 ?_ ?_ | refine v9 ?_ ?_ | refine v10 ?_ ?_ | refine v12 ?_ ?_); exact rfl; intros) | ((with_reducible refine w2 ?_); try simp -implicitDefEqProofs only [SE, SU, SV, hlt]; intros) | ((with_reducible refine w5 ?_ ?_); simp; refine ⟨_, rfl, ?_⟩) | ((with_reducible refine w12 ?_ ?_ ?_ ?_); simp; simp; simp [oneC]; intros) | (refine okF_i (bldP_eq rfl) ?_; try simp only [BLS, SB, Nat.reduceAdd])) | simp -implicitDefEqProofs only [SE, SU, SV, hlt]))
      refine ixA (i := i) (a := a1) (l := l) (A := BSY) h rfl rfl hib fun g o ha => ?_
      refine ldA0 (i := i) (l := l) (A := BSY) (hr := ha ▸ Rd.any hlr) h rfl hib (v := l[i].v) rfl (by simp) ?_
      by_cases hb : (200 : Int) < (l[i].bs.length : Int)
      · (repeat (first | (first | ((with_reducible first | refine w1 ?_ | refine w3 ?_ | refine w4 ?_ | refine w11 ?_ | refine stb_n ?_); intros) | ((with_reducible first | refine v5 ?_ | refine v6 ?_ | refine v7 ?_ | refine ve ?_ | refine vn ?_); refine ⟨_, rfl, ?_⟩) | ((with_reducible first | refine v8 ?_ ?_ | refine v9 ?_ ?_ | refine v10 ?_ ?_ | refine v12 ?_ ?_); exact rfl; intros) | ((with_reducible refine w2 ?_); try simp -implicitDefEqProofs only [SE, SU, SV, hb]; intros) | ((with_reducible refine w5 ?_ ?_); simp; refine ⟨_, rfl, ?_⟩) | ((with_reducible refine w12 ?_ ?_ ?_ ?_); simp; simp; simp [oneC]; intros) | (refine okF_i (bldP_eq rfl) ?_; try simp only [BLS, SB, Nat.reduceAdd])) | simp -implicitDefEqProofs only [SE, SU, SV, hb])); exact St.lo h
      (repeat (first | (first | ((with_reducible first | refine w1 ?_ | refine w3 ?_ | refine w4 ?_ | refine w11 ?_ | refine stb_n ?_); intros) | ((with_reducible first | refine v5 ?_ | refine v6 ?_ | refine v7 ?_ | refine ve ?_ | refine vn ?_); refine ⟨_, rfl, ?_⟩) | ((with_reducible first | refine v8 ?_ ?_ | refine v9 ?_ ?_ | refine v10 ?_ ?_ | refine v12 ?_ ?_); exact rfl; intros) | ((with_reducible refine w2 ?_); try simp -implicitDefEqProofs only [SE, SU, SV, hb]; intros) | ((with_reducible refine w5 ?_ ?_); simp; refine ⟨_, rfl, ?_⟩) | ((with_reducible refine w12 ?_ ?_ ?_ ?_); simp; simp; simp [oneC]; intros) | (refine okF_i (bldP_eq rfl) ?_; try simp only [BLS, SB, Nat.reduceAdd])) | simp -implicitDefEqProofs only [SE, SU, SV, hb]))
      refine ixA (i := i) (a := a1) (l := l) (A := BSY) (by first | assumption | exact St.tick (by assumption) | exact St.tick (St.tick (by assumption))) rfl rfl hib fun g o ha => ?_
      refine ldA0 (i := i) (l := l) (A := BSY) (hr := ha ▸ Rd.any hlr) (by first | assumption | exact St.tick (by assumption) | exact St.tick (St.tick (by assumption))) rfl hib (v := l[i].v) rfl (by simp) ?_
      generalize l[i] = x at *
      obtain ⟨hx1, hx2, hx3⟩ := hx
      refine bsA BSY [x] (n := 1) (by first | assumption | exact St.tick (by assumption) | exact St.tick (St.tick (by assumption))) rfl rfl (by decide) (by decide) rfl fun a3 c3 W6 h => ?_
      haveI hx4 : Rd { W with drawn := 0 } [arr BSY T_s_uint8 a3 c3 [x]] x.a B8 x.bs := Rd.any hx3
      have hcx : cost (bsOf [x]) = 44 + (x.bs.length : Int) := by simp [cost]
      refine walAddV (dp := p) (q := q) (rs := [x]) (n := 799 - i) h (fun y hy => by rw [List.mem_singleton.1 hy]; exact hx4) (hv.mono (by simp; omega) (Int.le_refl _) (Nat.le_refl _)) (by simp; omega) (fun r hr => by have e : r = x.bs := (by simpa using hr); subst e; omega) (by omega) (by simp; omega) (by rw [hcx]; omega) fun d3 l3 W7 _ hv h => ?_
      (repeat (first | (first | ((with_reducible first | refine w1 ?_ | refine w3 ?_ | refine w4 ?_ | refine w11 ?_ | refine stb_n ?_); intros) | ((with_reducible first | refine v5 ?_ | refine v6 ?_ | refine v7 ?_ | refine ve ?_ | refine vn ?_); refine ⟨_, rfl, ?_⟩) | ((with_reducible first | refine v8 ?_ ?_ | refine v9 ?_ ?_ | refine v10 ?_ ?_ | refine v12 ?_ ?_); exact rfl; intros) | ((with_reducible refine w2 ?_); try simp -implicitDefEqProofs only [SE, SU, SV, ew]; intros) | ((with_reducible refine w5 ?_ ?_); simp; refine ⟨_, rfl, ?_⟩) | ((with_reducible refine w12 ?_ ?_ ?_ ?_); simp; simp; simp [oneC]; intros) | (refine okF_i (bldP_eq rfl) ?_; try simp only [BLS, SB, Nat.reduceAdd])) | simp -implicitDefEqProofs only [SE, SU, SV, ew]))
      refine hK (d3, l3) _ hib ⟨⟨safe, ?_⟩, St.wk (by first | assumption | exact St.tick (by assumption) | exact St.tick (St.tick (by assumption)))⟩
      rw [show bsOf (l.take i ++ [x]) = bsOf (l.take i) ++ bsOf [x] from List.map_append]
      exact hv.mono (by omega) (by rw [hcx]; omega) (by simp; omega)
    rw [List.take_of_length_le (by omega)] at hv
    clear hK
    (repeat (first | (first | ((with_reducible first | refine w1 ?_ | refine w3 ?_ | refine w4 ?_ | refine w11 ?_ | refine stb_n ?_); intros) | ((with_reducible first | refine v5 ?_ | refine v6 ?_ | refine v7 ?_ | refine ve ?_ | refine vn ?_); refine ⟨_, rfl, ?_⟩) | ((with_reducible first | refine v8 ?_ ?_ | refine v9 ?_ ?_ | refine v10 ?_ ?_ | refine v12 ?_ ?_); exact rfl; intros) | ((with_reducible refine w2 ?_); try simp -implicitDefEqProofs only [SE, SU, SV, hlt]; intros) | ((with_reducible refine w5 ?_ ?_); simp; refine ⟨_, rfl, ?_⟩) | ((with_reducible refine w12 ?_ ?_ ?_ ?_); simp; simp; simp [oneC]; intros) | (refine okF_i (bldP_eq rfl) ?_; try simp only [BLS, SB, Nat.reduceAdd])) | simp -implicitDefEqProofs only [SE, SU, SV, hlt]))
    unfold S.rostrumlaw6_WalSpoilt.j1
    refine walSyncV (dp := p) (q := q) (by first | assumption | exact St.tick (by assumption) | exact St.tick (St.tick (by assumption))) hv fun d3 l3 W6 hd3 hv h => ?_
    obtain ⟨bn, P, P0, hlv, hrec, _, hnt⟩ := hv.live
    have hnt := hnt rfl
    have hgd := hlv.gd
    have hfp := files_perm hlv.on
    have hok := hv.lok.ok
    have hfl := hgd.files
    have hfn : d3.files.length ≤ 1000 := by rw [hfp.length_eq, List.length_map]; exact hfl
    (repeat (first | (first | ((with_reducible first | refine w1 ?_ | refine w3 ?_ | refine w4 ?_ | refine w11 ?_ | refine stb_n ?_); intros) | ((with_reducible first | refine v5 ?_ | refine v6 ?_ | refine v7 ?_ | refine ve ?_ | refine vn ?_); refine ⟨_, rfl, ?_⟩) | ((with_reducible first | refine v8 ?_ ?_ | refine v9 ?_ ?_ | refine v10 ?_ ?_ | refine v12 ?_ ?_); exact rfl; intros) | ((with_reducible refine w2 ?_); try simp -implicitDefEqProofs only [SE, SU, SV]; intros) | ((with_reducible refine w5 ?_ ?_); simp; refine ⟨_, rfl, ?_⟩) | ((with_reducible refine w12 ?_ ?_ ?_ ?_); simp; simp; simp [oneC]; intros) | (refine okF_i (bldP_eq rfl) ?_; try simp only [BLS, SB, Nat.reduceAdd])) | simp -implicitDefEqProofs only [SE, SU, SV]))
    refine diskFiles (d := d3) (by first | assumption | exact St.tick (by assumption) | exact St.tick (St.tick (by assumption))) rfl hfl hgd.ks fun fa fc W7 h => ?_
    by_cases hz : d3.files.length = 0
    · have f1 : decide ((d3.files.length : Int) = 0) = true := decide_eq_true (by omega)
      (repeat (first | (first | ((with_reducible first | refine w1 ?_ | refine w3 ?_ | refine w4 ?_ | refine w11 ?_ | refine stb_n ?_); intros) | ((with_reducible first | refine v5 ?_ | refine v6 ?_ | refine v7 ?_ | refine ve ?_ | refine vn ?_); refine ⟨_, rfl, ?_⟩) | ((with_reducible first | refine v8 ?_ ?_ | refine v9 ?_ ?_ | refine v10 ?_ ?_ | refine v12 ?_ ?_); exact rfl; intros) | ((with_reducible refine w2 ?_); try simp -implicitDefEqProofs only [SE, SU, SV, f1]; intros) | ((with_reducible refine w5 ?_ ?_); simp; refine ⟨_, rfl, ?_⟩) | ((with_reducible refine w12 ?_ ?_ ?_ ?_); simp; simp; simp [oneC]; intros) | (refine okF_i (bldP_eq rfl) ?_; try simp only [BLS, SB, Nat.reduceAdd])) | simp -implicitDefEqProofs only [SE, SU, SV, f1]))
      exact St.lo h
    have f1 : decide ((d3.files.length : Int) = 0) = false := decide_eq_false (by omega)
    have hib : file.toNat % d3.files.length < d3.files.length := Nat.mod_lt _ (by omega)
    have hmem := hfp.subset (List.getElem_mem hib)
    obtain ⟨d3a, d3b, d3c⟩ := hok
    have hrng := hgd.key hmem
    have er : d3.read d3.files[file.toNat % d3.files.length] = (cont d3.fs d3.files[file.toNat % d3.files.length], 0) := by
      unfold DS.read; rw [find_key hlv.on hmem hrng hgd.nd]; rfl
    (repeat (first | (first | ((with_reducible first | refine w1 ?_ | refine w3 ?_ | refine w4 ?_ | refine w11 ?_ | refine stb_n ?_); intros) | ((with_reducible first | refine v5 ?_ | refine v6 ?_ | refine v7 ?_ | refine ve ?_ | refine vn ?_); refine ⟨_, rfl, ?_⟩) | ((with_reducible first | refine v8 ?_ ?_ | refine v9 ?_ ?_ | refine v10 ?_ ?_ | refine v12 ?_ ?_); exact rfl; intros) | ((with_reducible refine w2 ?_); try simp -implicitDefEqProofs only [SE, SU, SV, f1]; intros) | ((with_reducible refine w5 ?_ ?_); simp; refine ⟨_, rfl, ?_⟩) | ((with_reducible refine w12 ?_ ?_ ?_ ?_); simp; simp; simp [oneC]; intros) | (refine okF_i (bldP_eq rfl) ?_; try simp only [BLS, SB, Nat.reduceAdd])) | simp -implicitDefEqProofs only [SE, SU, SV, f1]))
    refine okF_i (binP_rem (by omega)) ?_
    rw [tmod_nat (by omega)]
    refine ixA (i := file.toNat % d3.files.length) (a := fa) (l := d3.files) (A := I64) (by first | assumption | exact St.tick (by assumption) | exact St.tick (St.tick (by assumption))) rfl rfl hib fun g o ha => ?_
    cases ha
    refine ldA0 (i := file.toNat % d3.files.length) (l := d3.files) (A := I64) (by first | assumption | exact St.tick (by assumption) | exact St.tick (St.tick (by assumption))) rfl hib (v := .int .i64 d3.files[file.toNat % d3.files.length]) rfl (by simp) ?_
    refine diskRead (d := d3) (f := d3.files[file.toNat % d3.files.length]) (by first | assumption | exact St.tick (by assumption) | exact St.tick (St.tick (by assumption))) (by omega) fun a4 c4 W8 h => ?_
    rw [er] at h ⊢
    simp only at h ⊢
    have hcl := lens_cont d3.fs d3.files[file.toNat % d3.files.length]
    by_cases hz2 : (cont d3.fs d3.files[file.toNat % d3.files.length]).length = 0
    · have f2 : decide (((cont d3.fs d3.files[file.toNat % d3.files.length]).length : Int) = 0) = true := decide_eq_true (by omega)
      (repeat (first | (first | ((with_reducible first | refine w1 ?_ | refine w3 ?_ | refine w4 ?_ | refine w11 ?_ | refine stb_n ?_); intros) | ((with_reducible first | refine v5 ?_ | refine v6 ?_ | refine v7 ?_ | refine ve ?_ | refine vn ?_); refine ⟨_, rfl, ?_⟩) | ((with_reducible first | refine v8 ?_ ?_ | refine v9 ?_ ?_ | refine v10 ?_ ?_ | refine v12 ?_ ?_); exact rfl; intros) | ((with_reducible refine w2 ?_); try simp -implicitDefEqProofs only [SE, SU, SV, f2]; intros) | ((with_reducible refine w5 ?_ ?_); simp; refine ⟨_, rfl, ?_⟩) | ((with_reducible refine w12 ?_ ?_ ?_ ?_); simp; simp; simp [oneC]; intros) | (refine okF_i (bldP_eq rfl) ?_; try simp only [BLS, SB, Nat.reduceAdd])) | simp -implicitDefEqProofs only [SE, SU, SV, f2]))
      exact St.lo (St.tick h)
    have f2 : decide (((cont d3.fs d3.files[file.toNat % d3.files.length]).length : Int) = 0) = false := decide_eq_false (by omega)
    (repeat (first | (first | ((with_reducible first | refine w1 ?_ | refine w3 ?_ | refine w4 ?_ | refine w11 ?_ | refine stb_n ?_); intros) | ((with_reducible first | refine v5 ?_ | refine v6 ?_ | refine v7 ?_ | refine ve ?_ | refine vn ?_); refine ⟨_, rfl, ?_⟩) | ((with_reducible first | refine v8 ?_ ?_ | refine v9 ?_ ?_ | refine v10 ?_ ?_ | refine v12 ?_ ?_); exact rfl; intros) | ((with_reducible refine w2 ?_); try simp -implicitDefEqProofs only [SE, SU, SV, f2]; intros) | ((with_reducible refine w5 ?_ ?_); simp; refine ⟨_, rfl, ?_⟩) | ((with_reducible refine w12 ?_ ?_ ?_ ?_); simp; simp; simp [oneC]; intros) | (refine okF_i (bldP_eq rfl) ?_; try simp only [BLS, SB, Nat.reduceAdd])) | simp -implicitDefEqProofs only [SE, SU, SV, f2]))
    refine okF_i (binP_rem (by omega)) ?_
    rw [tmod_nat (by omega)]
    refine ixA (i := file.toNat % d3.files.length) (a := some ⟨g, o, none⟩) (l := d3.files) (A := I64) (by first | assumption | exact St.tick (by assumption) | exact St.tick (St.tick (by assumption))) rfl rfl hib fun g o ha => ?_
    cases ha
    (repeat (first | (first | ((with_reducible first | refine w1 ?_ | refine w3 ?_ | refine w4 ?_ | refine w11 ?_ | refine stb_n ?_); intros) | ((with_reducible first | refine v5 ?_ | refine v6 ?_ | refine v7 ?_ | refine ve ?_ | refine vn ?_); refine ⟨_, rfl, ?_⟩) | ((with_reducible first | refine v8 ?_ ?_ | refine v9 ?_ ?_ | refine v10 ?_ ?_ | refine v12 ?_ ?_); exact rfl; intros) | ((with_reducible refine w2 ?_); try simp -implicitDefEqProofs only [SE, SU, SV]; intros) | ((with_reducible refine w5 ?_ ?_); simp; refine ⟨_, rfl, ?_⟩) | ((with_reducible refine w12 ?_ ?_ ?_ ?_); simp; simp; simp [oneC]; intros) | (refine okF_i (bldP_eq rfl) ?_; try simp only [BLS, SB, Nat.reduceAdd])) | simp -implicitDefEqProofs only [SE, SU, SV]))
    refine ldA0 (i := file.toNat % d3.files.length) (l := d3.files) (A := I64) (by first | assumption | exact St.tick (by assumption) | exact St.tick (St.tick (by assumption))) rfl hib (v := .int .i64 d3.files[file.toNat % d3.files.length]) rfl (by simp) ?_
    (repeat (first | (first | ((with_reducible first | refine w1 ?_ | refine w3 ?_ | refine w4 ?_ | refine w11 ?_ | refine stb_n ?_); intros) | ((with_reducible first | refine v5 ?_ | refine v6 ?_ | refine v7 ?_ | refine ve ?_ | refine vn ?_); refine ⟨_, rfl, ?_⟩) | ((with_reducible first | refine v8 ?_ ?_ | refine v9 ?_ ?_ | refine v10 ?_ ?_ | refine v12 ?_ ?_); exact rfl; intros) | ((with_reducible refine w2 ?_); try simp -implicitDefEqProofs only [SE, SU, SV]; intros) | ((with_reducible refine w5 ?_ ?_); simp; refine ⟨_, rfl, ?_⟩) | ((with_reducible refine w12 ?_ ?_ ?_ ?_); simp; simp; simp [oneC]; intros) | (refine okF_i (bldP_eq rfl) ?_; try simp only [BLS, SB, Nat.reduceAdd])) | simp -implicitDefEqProofs only [SE, SU, SV]))
    refine okF_i (binP_rem (by omega)) ?_
    rw [tmod_nat (by omega)]
    (repeat (first | (first | ((with_reducible first | refine w1 ?_ | refine w3 ?_ | refine w4 ?_ | refine w11 ?_ | refine stb_n ?_); intros) | ((with_reducible first | refine v5 ?_ | refine v6 ?_ | refine v7 ?_ | refine ve ?_ | refine vn ?_); refine ⟨_, rfl, ?_⟩) | ((with_reducible first | refine v8 ?_ ?_ | refine v9 ?_ ?_ | refine v10 ?_ ?_ | refine v12 ?_ ?_); exact rfl; intros) | ((with_reducible refine w2 ?_); try simp -implicitDefEqProofs only [SE, SU, SV]; intros) | ((with_reducible refine w5 ?_ ?_); simp; refine ⟨_, rfl, ?_⟩) | ((with_reducible refine w12 ?_ ?_ ?_ ?_); simp; simp; simp [oneC]; intros) | (refine okF_i (bldP_eq rfl) ?_; try simp only [BLS, SB, Nat.reduceAdd])) | simp -implicitDefEqProofs only [SE, SU, SV]))
    have hn2 : at_.toNat % (cont d3.fs d3.files[file.toNat % d3.files.length]).length < (cont d3.fs d3.files[file.toNat % d3.files.length]).length := Nat.mod_lt _ (by omega)
    have hfind := find_key hlv.on hmem hrng hgd.nd
    generalize d3.files[file.toNat % d3.files.length] = f at *
    generalize at_.toNat % (cont d3.fs f).length = m at *
    refine diskSpoil (d := d3) (f := f) (at' := (m : Int)) (b := byt) (by first | assumption | exact St.tick (by assumption) | exact St.tick (St.tick (by assumption))) ⟨d3a, d3b, d3c⟩ fun W9 h => ?_
    by_cases hs : byt = 0
    · have e9 : d3.spoil f (m : Int) byt = (d3, false) := by unfold DS.spoil; rw [if_pos (.inr (.inr (.inr hs)))]
      rw [e9] at h ⊢
      (repeat (first | (first | ((with_reducible first | refine w1 ?_ | refine w3 ?_ | refine w4 ?_ | refine w11 ?_ | refine stb_n ?_); intros) | ((with_reducible first | refine v5 ?_ | refine v6 ?_ | refine v7 ?_ | refine ve ?_ | refine vn ?_); refine ⟨_, rfl, ?_⟩) | ((with_reducible first | refine v8 ?_ ?_ | refine v9 ?_ ?_ | refine v10 ?_ ?_ | refine v12 ?_ ?_); exact rfl; intros) | ((with_reducible refine w2 ?_); try simp -implicitDefEqProofs only [SE, SU, SV]; intros) | ((with_reducible refine w5 ?_ ?_); simp; refine ⟨_, rfl, ?_⟩) | ((with_reducible refine w12 ?_ ?_ ?_ ?_); simp; simp; simp [oneC]; intros) | (refine okF_i (bldP_eq rfl) ?_; try simp only [BLS, SB, Nat.reduceAdd])) | simp -implicitDefEqProofs only [SE, SU, SV]))
      exact St.lo h
    have e9 : d3.spoil f (m : Int) byt = ({ d3 with fs := mput d3.fs f ((cont d3.fs f).set m ((cont d3.fs f).getD m 0 ^^^ byt)) }, true) := by
      unfold DS.spoil
      rw [if_neg (fun hh => hh.elim (· hfind) fun hh => hh.elim (by omega) fun hh => hh.elim (by omega) hs), Int.toNat_natCast]
    have hne := set_ne hn2 (xor_ne (x := (cont d3.fs f).getD m 0) hs)
    have hkeys : ((mput d3.fs f ((cont d3.fs f).set m ((cont d3.fs f).getD m 0 ^^^ byt))).map (·.1)) = d3.fs.map (·.1) := mput_keys hmem
    rw [e9] at h ⊢
    (repeat (first | (first | ((with_reducible first | refine w1 ?_ | refine w3 ?_ | refine w4 ?_ | refine w11 ?_ | refine stb_n ?_); intros) | ((with_reducible first | refine v5 ?_ | refine v6 ?_ | refine v7 ?_ | refine ve ?_ | refine vn ?_); refine ⟨_, rfl, ?_⟩) | ((with_reducible first | refine v8 ?_ ?_ | refine v9 ?_ ?_ | refine v10 ?_ ?_ | refine v12 ?_ ?_); exact rfl; intros) | ((with_reducible refine w2 ?_); try simp -implicitDefEqProofs only [SE, SU, SV]; intros) | ((with_reducible refine w5 ?_ ?_); simp; refine ⟨_, rfl, ?_⟩) | ((with_reducible refine w12 ?_ ?_ ?_ ?_); simp; simp; simp [oneC]; intros) | (refine okF_i (bldP_eq rfl) ?_; try simp only [BLS, SB, Nat.reduceAdd])) | simp -implicitDefEqProofs only [SE, SU, SV]))
    have hd4 : DS.ok { d3 with fs := mput d3.fs f ((cont d3.fs f).set m ((cont d3.fs f).getD m 0 ^^^ byt)) } := ⟨d3a, d3b, by
      simp only [lens_put, List.length_set]; omega⟩
    have hfp4 := files_perm (d := { d3 with fs := mput d3.fs f ((cont d3.fs f).set m ((cont d3.fs f).getD m 0 ^^^ byt)) }) hlv.on
    have hbad := spoilt_read hgd hnt hmem hne (ns := DS.files { d3 with fs := mput d3.fs f ((cont d3.fs f).set m ((cont d3.fs f).getD m 0 ^^^ byt)) }) (fun g => by
      have := hfp4.mem_iff (a := g)
      rw [show (DS.fs { d3 with fs := mput d3.fs f ((cont d3.fs f).set m ((cont d3.fs f).getD m 0 ^^^ byt)) }).map (fun x : Int × List UInt8 => x.1) = d3.fs.map (fun x : Int × List UInt8 => x.1) from hkeys] at this
      exact this)
    refine walOpenBad (dp := p) (d := { d3 with fs := mput d3.fs f ((cont d3.fs f).set m ((cont d3.fs f).getD m 0 ^^^ byt)) }) (part := part) (by first | assumption | exact St.tick (by assumption) | exact St.tick (St.tick (by assumption))) rfl q1 q2 hlv.on hd4 (by rw [hd3.2]; simp) (fun x hx => ?_) (by rw [hkeys]; exact hgd.nd) (by rw [hbad]) fun W10 h => ?_
    · have hx2 : x.1 ∈ d3.fs.map (fun x : Int × List UInt8 => x.1) := by rw [← hkeys]; exact List.mem_map_of_mem (f := fun x : Int × List UInt8 => x.1) hx
      exact hgd.key hx2
    (repeat (first | (first | ((with_reducible first | refine w1 ?_ | refine w3 ?_ | refine w4 ?_ | refine w11 ?_ | refine stb_n ?_); intros) | ((with_reducible first | refine v5 ?_ | refine v6 ?_ | refine v7 ?_ | refine ve ?_ | refine vn ?_); refine ⟨_, rfl, ?_⟩) | ((with_reducible first | refine v8 ?_ ?_ | refine v9 ?_ ?_ | refine v10 ?_ ?_ | refine v12 ?_ ?_); exact rfl; intros) | ((with_reducible refine w2 ?_); try simp -implicitDefEqProofs only [SE, SU, SV]; intros) | ((with_reducible refine w5 ?_ ?_); simp; refine ⟨_, rfl, ?_⟩) | ((with_reducible refine w12 ?_ ?_ ?_ ?_); simp; simp; simp [oneC]; intros) | (refine okF_i (bldP_eq rfl) ?_; try simp only [BLS, SB, Nat.reduceAdd])) | simp -implicitDefEqProofs only [SE, SU, SV]))
    exact St.lo h
end Go.Proofs.Ythladblmjoaeoaa
namespace Go.Proofs.Ythladblmjoaeoaa.walSpoiltDone
set_option linter.unusedVariables false
set_option linter.unusedSimpArgs false
open Go Go.Eng Go.ChangeShapes Go.WideShapes Go.ChangeAt Go.RowKit

theorem own : ownKnob Try.prog.godebug = none := by kernel_rfl
theorem laidOut : laidOutB Try.prog = true := by kernel_rfl

set_option maxRecDepth 100000 in
theorem lifted (os : Os) (started : os.Started) (H : Type) (enc : TypeId × Value → H) :
    ReturnsInHanded {} Try.checked os F_rostrumlaw6_WalSpoilt .any (Rows.walSpoiltSpec.pre6 enc Try.prog Try.f13 Rows.walSpoiltRow.domain false) (Rows.walSpoiltSpec.post enc Try.prog Try.f13 false true false false) := by
  refine returnsInHanded_of_change (C := Try.checked) own started (by kernel_rfl) S.rostrumlaw6_WalSpoilt.fn
    (ChangeSpec.witness6 (enc := enc) (C := Try.checked) false ⟨#[], #[(.int .i64 0), (.slice none 0 0), (.slice none 0 0), (.int .i64 0), (.int .i64 0), (.int .u8 0)], []⟩ 8 (by kernel_rfl) (by kernel_rfl) (by kernel_rfl) (by kernel_rfl)) ?_
  intro W base args ds gs before hval0 hW hcnd _
  have hval : ∀ (j : Nat) t v, Try.f13.params[j]? = some t → args[j]? = some v → Value.okWide Try.prog W .any base t v := hval0
  have hW' := hW
  obtain ⟨p, q, hA0, hV, rfl, hfz, hnd⟩ := hW
  have hA : DataW.TrodAll enc Try.prog W 0 (fun _ => true) true Try.f13.params.toList args.toList ds p := hA0
  have hpar : Try.f13.params.toList = [T_int, T_s_s_uint8, T_s_uint8, T_int, T_int, T_uint8] := by kernel_rfl
  rw [hpar] at hA
  have hA1 := hA
  obtain ⟨v0, vs0, d0, ds0, p0, q0, hargs, rfl, rfl, h0, r0⟩ := trodAll_cons hA
  obtain ⟨v1, vs1, d1, ds1, p1, q1, rfl, rfl, rfl, h1, r1⟩ := trodAll_cons r0
  obtain ⟨v2, vs2, d2, ds2, p2, q2, rfl, rfl, rfl, h2, r2⟩ := trodAll_cons r1
  obtain ⟨v3, vs3, d3, ds3, p3, q3, rfl, rfl, rfl, h3, r3⟩ := trodAll_cons r2
  obtain ⟨v4, vs4, d4, ds4, p4, q4, rfl, rfl, rfl, h4, r4⟩ := trodAll_cons r3
  obtain ⟨v5, vs5, d5, ds5, p5, q5, rfl, rfl, rfl, h5, r5⟩ := trodAll_cons r4
  obtain ⟨rfl, rfl, rfl⟩ := trodAll_nil r5
  obtain rfl : args = #[v0, v1, v2, v3, v4, v5] := by cases args; simp_all
  obtain ⟨rfl, rfl⟩ := trodVars_none hV
  have g0 : GoodA W [.int .i64] false v0 := open_arg (m := 8) (by kernel_rfl) (by kernel_rfl) (hval 0 T_int v0 (by kernel_rfl) rfl) h0
  have g1 : GoodA W [.sl [.sl [.int .u8]]] false v1 := open_arg (m := 8) (by kernel_rfl) (by kernel_rfl) (hval 1 T_s_s_uint8 v1 (by kernel_rfl) rfl) h1
  have g2 : GoodA W [.sl [.int .u8]] false v2 := open_arg (m := 8) (by kernel_rfl) (by kernel_rfl) (hval 2 T_s_uint8 v2 (by kernel_rfl) rfl) h2
  have g3 : GoodA W [.int .i64] false v3 := open_arg (m := 8) (by kernel_rfl) (by kernel_rfl) (hval 3 T_int v3 (by kernel_rfl) rfl) h3
  have g4 : GoodA W [.int .i64] false v4 := open_arg (m := 8) (by kernel_rfl) (by kernel_rfl) (hval 4 T_int v4 (by kernel_rfl) rfl) h4
  have g5 : GoodA W [.int .u8] false v5 := open_arg (m := 8) (by kernel_rfl) (by kernel_rfl) (hval 5 T_uint8 v5 (by kernel_rfl) rfl) h5
  clear hA0 hval0
  have hc : Calls Try.prog F_rostrumlaw6_WalSpoilt #[v0, v1, v2, v3, v4, v5] W fun e W' => e = .returned (.bool true) ∧ Below W.heap.size W W' :=
    Calls.mono (walSpoilt_walk g0 g1 g2 g3 g4 g5) fun e W' h => by
      cases e <;> first | exact ⟨by rw [h.1], h.2.below⟩ | exact h.elim
  refine hc.mono fun e W' ⟨he, bel⟩ => ?_
  subst he
  exact ⟨_, rfl, _, _, _, [], _, [], hW', trodAll_mk1 (shut_bool (t := T_bool) (by kernel_rfl) _), keep_all laidOut (by kernel_rfl) hA1 bel, rfl, bel.frame _, fun h => by cases h⟩

theorem proved : Rows.WalSpoiltSaid :=
  OpenClaim.holds_of_wide F_rostrumlaw6_WalSpoilt Try.f13 rfl rfl rfl rfl rfl rfl rfl ⟨rfl, rfl, rfl, rfl, rfl⟩ rfl rfl rfl rfl rfl (by kernel_rfl) S.rostrumlaw6_WalSpoilt.fn (by kernel_rfl)
    (of_decide_eq_true (by kernel_rfl)) (by unfold Func.isWrapper; first | (rw [if_pos (by decide +kernel)]; kernel_rfl) | (rw [if_neg (by decide +kernel)]; exact ⟨rfl, rfl⟩))
    (fun os started H enc _ => lifted os started H enc)
end Go.Proofs.Ythladblmjoaeoaa.walSpoiltDone
