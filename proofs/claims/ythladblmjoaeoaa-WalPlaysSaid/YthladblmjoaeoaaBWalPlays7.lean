/- Texts of the claim WalPlays, joined: Srt3, Lay, ShDisk6, CDisk6, CWal9, LayF, SrtX, ShCmpI, CWal10, CWal11, PWal7. -/
import Derived.Test.YthladblmjoaeoaaBWalPlays6
import Derived.Test.YthladblmjoaeoaaBWalPlays3
import Derived.WideShapes
import Derived.Shelf.SlIterI.Sorted
import Derived.Shelf.SortM.Plain
import Derived.Shelf.SortM.SortNone
import Derived.Test.YthladblmjoaeoaaBWalPlays1
import Derived.Test.YthladblmjoaeoaaBWalPlays5
import Derived.Test.YthladblmjoaeoaaBWalPlays4
import Derived.Shelf.SlSortCmp.NoneTotal
namespace Go.Eng
set_option linter.unusedVariables false
set_option linter.unusedSimpArgs false
open Go Go.RowKit Go.Sort Go.Proofs
section
variable {P : Program} {ρ ρ' : Go.Shelf.Ren} {W0 W W' : World} {L L' : List Asn} {e : TypeId}
theorem sortsI (L5 : SlLaysM.n5 P ρ') (e : ρ.f 9 = ρ'.f 5) (m : Nat) : AnyZI.SortsIn P ρ Fence.wide m := by
  refine ⟨fun blk off cap ss W hH hblk hsz => ?_, fun p cap W => ?_⟩ <;> rw [e]
  · exact callsIn_wide.2 (AnyM.slices_Sort_int L5 blk off cap ss W hH hblk hsz)
  · exact callsIn_wide.2 (AnyM.slices_Sort_int_none L5 p cap W)
/-- over a base that counts no draws, a world may forget its own -/
theorem St.lax (h : St W0 L W) (h0 : W0.drawn = 0) : St W0 L { W with drawn := 0 } :=
  ⟨⟨⟨h.bel.os, h.bel.tape, h.bel.output, h.bel.size, h.bel.block⟩, by rw [h0]; exact Nat.zero_le _⟩, h.own⟩
theorem St.fresh (h : St W0 L W) (h0 : W0.drawn = 0) (hb : Below W.heap.size W W') {g : Nat} {o : Obj} (hg : W.heap.size ≤ g) (ho : W'.heap[g]? = some o) : St W0 (Eng.blk g o :: L) W' := by
  have h' : St { W with drawn := 0 } [Eng.blk g o] W' := by
   refine ⟨⟨⟨hb.os, hb.tape, hb.output, hb.size, hb.block⟩, Nat.zero_le _⟩, fun x => if x = g then some o else none, ⟨fun x => if x = g then some o else none, fun _ => none, fun x => .inr rfl, ?_, ⟨?_, ?_⟩, fun _ => rfl⟩, ?_⟩
   · funext x; simp [PH.join]
   · simp
   · intro x hx; simp [hx]
   · intro b o' hb
     by_cases hbe : b = g
     · subst hbe
       simp only [if_true, Option.some.injEq] at hb
       subst hb
       exact ⟨hg, ho⟩
     · simp only [hbe, if_false] at hb
       cases hb
  exact (h.lax h0).over h'
theorem St.stay (h : St W0 L W) (h0 : W0.drawn = 0) (hb : Below W.heap.size W W') : St W0 L W' := by
  have h2 : St { W with drawn := 0 } [] W' := ⟨⟨⟨hb.os, hb.tape, hb.output, hb.size, hb.block⟩, Nat.zero_le _⟩, fun _ => none, fun _ => rfl, fun b o h => by cases h⟩
  exact (h.lax h0).over h2
theorem St.ownRow (h : St W0 L W) (h0 : W0.drawn = 0) (hb : Below W.heap.size W W') {v : Value} {l : List Int} (hr : W'.ownsRow W.heap.size e 1 v l.length (l.map encZ)) : ∃ a c, v = .slice a l.length c ∧ St W0 (arr I64 e a c l :: L) W' := by
  rcases hr.2 with ⟨rfl, hz⟩ | ⟨g, cap, cur, rfl, hbase, hg, h1, h2, h3, h4⟩
  · have : l = [] := List.eq_nil_of_length_eq_zero hz
    subst this
    exact ⟨none, 0, rfl, (h.stay h0 hb).ent (arr_nil I64 e)⟩
  · refine ⟨_, _, rfl, ?_⟩
    have hrows : ∀ l : List Int, I64.rows l = l.map encZ := fun l => by
      induction l with
      | nil => rfl
      | cons a l ih => rw [Ly.rows_cons, ih]; rfl
    have h5 : St W0 (Eng.cells g cur.toList e :: L) W' := (h.fresh h0 hb hbase hg).weak fun p hp => ⟨(0, 0), free_zero _, by simpa using hp⟩
    refine h5.ent (arr_of_cells h1 h2 ?_ ?_)
    · rw [show I64.sz = 1 from rfl]; simp [h3]
    · rw [show I64.sz = 1 from rfl, List.drop_zero, hrows]; exact h4
theorem sortedI (L6 : SlLaysZI.n6 P ρ) (hs : ∀ m, AnyZI.SortsIn P ρ Fence.wide m) (e9 : ∀ args w, (callFunc (ρ.f 9) args).run P w = .ok (.enter (ρ.f 9) args) w) {g : Nat} {lb : Array Value} (eg : ∀ args w, (callFunc g args).run P w = .ok (.enter g args) w) {S : List Int → Prop} {N : Nat} {k : Value → World → Prop}
    (h : St W0 L W) (h0 : W0.drawn = 0) (hN : N * 8 ≤ 140737488355328) (hseq : SeqGives Fence.wide 2 P g lb encZ S N W)
    (hk : ∀ a c ss W', S ss → St W0 (arr I64 (ρ.t 26) a c (ss.mergeSort fun x y => decide (x ≤ y)) :: L) W' → k (.slice a (ss.mergeSort fun x y => decide (x ≤ y)).length c) W') : callK P (ρ.f 6) [.func (.func g) #[] lb] k W := by
  have cS := AnyZI.sorted_in L6 Fence.wide 5 trivial trivial trivial trivial rfl (by omega) (hs _) e9 g lb trivial eg S N (by simp only [maxLen]; omega) hN W hseq
  refine (callsIn_wide.1 cS).mono ?_
  rintro ed w' ⟨v, ss, rfl, hS, hrow, -, hb⟩
  have hl : ss.length = (ss.mergeSort fun x y => decide (x ≤ y)).length := (List.length_mergeSort _).symm
  rw [hl] at hrow
  obtain ⟨a, c, rfl, h⟩ := h.ownRow h0 hb hrow
  exact hk a c ss w' hS h
theorem insert_fold {H : Type} : ∀ r : List (Lit × DataW H), (r.foldr DataW.insert []).Perm r
  | [] => List.Perm.nil
  | x :: r => (Go.WideShapes.insert_perm x _).trans ((insert_fold r).cons x)
def valI : Value → Int
  | .int _ a => a
  | _ => 0
theorem mp_owns {r : Nat} {l : List (Int × Value)} {kt : TypeId} (hk : P.underlying kt = some (.int .i64)) (h : St W0 (mp KI r l :: L) W) (hl : l.length ≤ maxLen) (hw : ∀ p ∈ l, (Lit.int .i64 p.1).wf = true) :
    ∃ D : DataW Unit, W.ownsMap P kt (fun _ => some (.nil, [])) r l.length D ∧ (intKeys D).Perm (l.map (·.1)) ∧ Maps.size D = l.length := by
  obtain ⟨es, clock, h1, h2, h3⟩ := h.mp
  have hlen : es.size = l.length := by have := congrArg List.length h1; simpa using this
  have hkey : ∀ x ∈ es.toList, ∃ p ∈ l, x.key = KI p.1 := fun x hx => by
    have : (x.key, x.val) ∈ l.map (fun p => (KI p.1, p.2)) := by rw [← h1]; exact List.mem_map.2 ⟨x, hx, rfl⟩
    obtain ⟨p, hp, he⟩ := List.mem_map.1 this
    exact ⟨p, hp, (congrArg Prod.fst he).symm⟩
  have hrd : ∀ x ∈ es.toList, ∃ p ∈ l, x.key = KI p.1 ∧ Go.WideElems.rd (H := Unit) P kt (fun _ => some (.nil, [])) x = some (.int .i64 p.1, .nil) := fun x hx => by
    obtain ⟨p, hp, he⟩ := hkey x hx
    refine ⟨p, hp, he, ?_⟩
    have hkk : keyOf P kt (KI p.1) = some (.int .i64 p.1) := by simp [KI, keyOf, hk, mapKey, hw p hp]
    unfold Go.WideElems.rd
    rw [he, hkk]; rfl
  refine ⟨_, ⟨es, clock, h3.blk.2, ⟨by omega, h2, fun x hx => ?_⟩, by omega, rfl⟩, ?_, ?_⟩
  · obtain ⟨p, _, _, h⟩ := hrd x hx
    exact ⟨_, h⟩
  · have e1 : (es.toList.map (Go.WideElems.rg (H := Unit) P kt fun _ => some (.nil, []))).map (fun p => intOf p.1) = l.map (·.1) := by
      have e2 : ∀ x ∈ es.toList, intOf (Go.WideElems.rg (H := Unit) P kt (fun _ => some (.nil, [])) x).1 = valI x.key := fun x hx => by
        obtain ⟨p, _, h4, h5⟩ := hrd x hx
        rw [Go.WideElems.rg_of h5, h4]; rfl
      rw [List.map_map]
      refine (List.map_congr_left e2).trans ?_
      have e3 := congrArg (fun t : List (Value × Value) => t.map fun q => valI q.1) h1
      rw [List.map_map, List.map_map] at e3
      exact e3
    rw [← e1]
    exact (insert_fold _).map _
  · show ((es.toList.map _).foldr DataW.insert []).length = _
    rw [(insert_fold _).length_eq, List.length_map, Array.length_toList, hlen]
theorem keysI (L7 : SlLaysZI.n7 P ρ) {mb : Option Nat} {k : Value → World → Prop} (h : St W0 L W)
    (hk : ∀ b W', St W0 (Eng.cells b [.map mb] (ρ.t 23) :: L) W' → k (.func (.func (ρ.f 10)) #[] #[.pointer (some ⟨b, 0, none⟩)]) W') : callK P (ρ.f 7) [.map mb] k W := by
  refine (callsIn_wide.1 (AnyZI.keys_in L7 Fence.wide 1 trivial rfl mb W)).mono ?_
  rintro ed w' ⟨rfl, rfl⟩
  exact hk _ _ (h.allocCells [.map mb] _)
theorem keysGive (L7 : SlLaysZI.n7 P ρ) {b r : Nat} {T : TypeId} {l : List (Int × Value)} (h : St W0 (Eng.cells b [.map (some r)] T :: mp KI r l :: L) W) (hl : l.length ≤ maxLen) (hw : ∀ p ∈ l, (Lit.int .i64 p.1).wf = true) :
    SeqGives Fence.wide 2 P (ρ.f 10) #[.pointer (some ⟨b, 0, none⟩)] encZ (fun ss => ss.Perm (l.map (·.1))) l.length W := by
  have h10 : SlLaysZI.n10 P ρ := { L7 with }
  obtain ⟨D, hD, hp, hsz⟩ := mp_owns h10.t26 (h.drop) hl hw
  have hc := h.cells
  obtain ⟨fr, _, hb⟩ := hc
  have hg := hb.blk.2
  have hseq := AnyZI.keys_gives (ρ := ρ) h10 Fence.wide 2 trivial rfl (by omega) b r l.length D W (Array.getElem?_eq_some_iff.1 hg).1 (by simp [World.cell?, hg]) hD
  rw [hsz] at hseq
  intro l' J W' hW hJ hY h0
  refine (hseq l' J W' hW hJ hY h0).mono ?_
  rintro ed w' ⟨h1, xs, h2, h3⟩
  exact ⟨h1, xs, h2.trans hp, h3⟩
end
end Go.Eng
namespace Go.Proofs.Ythladblmjoaeoaa
set_option linter.unusedVariables false
set_option linter.unusedSimpArgs false
open Go Go.Proofs Go.Shelf
def laySorted_ren : Go.Shelf.Ren := ⟨fun | 6 => 50 | 8 => 62 | 9 => 63 | 11 => 74 | 13 => 76 | 12 => 75 | 23 => 92 | 24 => 93 | 14 => 83 | 15 => 84 | 16 => 85 | 17 => 86 | 18 => 87 | 19 => 88 | 20 => 89 | 21 => 90 | 22 => 91 | 25 => 105 | 26 => 106 | 27 => 107 | 28 => 108 | 29 => 109 | 30 => 80 | 31 => 114 | n => n, fun | 26 => 3 | 28 => 80 | 24 => 42 | 0 => 0 | 3 => 3 | 37 => 112 | 48 => 128 | 50 => 87 | 4 => 4 | 40 => 120 | 39 => 119 | 45 => 125 | 5 => 5 | 9 => 9 | 51 => 139 | 55 => 143 | 57 => 148 | 58 => 149 | 33 => 96 | n => n, fun | n => n⟩
theorem laySorted : Go.Proofs.SlLaysZI.n6 Try.prog laySorted_ren := {
  mixed := by kernel_rfl
  f6 := ⟨Try.f50.name, by decide, Try.func50.trans (congrArg some (by kernel_rfl))⟩
  f8 := ⟨Try.f62.name, by decide, Try.func62.trans (congrArg some (by kernel_rfl))⟩
  f11 := ⟨Try.f74.name, by decide, Try.func74.trans (congrArg some (by kernel_rfl))⟩
  t0 := Try.underlying0
  a0 := Try.isAgg0
  z0 := Try.sizeOf0
  v0 := Try.zeroValue0
  t24 := Try.underlying42
  a24 := Try.isAgg42
  z24 := Try.sizeOf42
  v24 := Try.zeroValue42
  t26 := Try.underlying3
  a26 := Try.isAgg3
  z26 := Try.sizeOf3
  v26 := Try.zeroValue3
  t28 := Try.underlying80
  a28 := Try.isAgg80
  z28 := Try.sizeOf80
  v28 := Try.zeroValue80
  i26 := by kernel_rfl }
def layKeys_ren : Go.Shelf.Ren := ⟨fun | 7 => 51 | 10 => 64 | n => n, fun | 23 => 70 | 26 => 3 | 3 => 28 | 28 => 80 | 0 => 0 | 27 => 79 | 33 => 96 | 4 => 4 | n => n, fun | n => n⟩
theorem layKeys : Go.Proofs.SlLaysZI.n7 Try.prog layKeys_ren := {
  mixed := by kernel_rfl
  f7 := ⟨Try.f51.name, by decide, Try.func51.trans (congrArg some (by kernel_rfl))⟩
  f10 := ⟨Try.f64.name, by decide, Try.func64.trans (congrArg some (by kernel_rfl))⟩
  t0 := Try.underlying0
  a0 := Try.isAgg0
  z0 := Try.sizeOf0
  v0 := Try.zeroValue0
  t4 := Try.underlying4
  a4 := Try.isAgg4
  z4 := Try.sizeOf4
  v4 := Try.zeroValue4
  t23 := Try.underlying70
  a23 := Try.isAgg70
  z23 := Try.sizeOf70
  v23 := Try.zeroValue70
  t26 := Try.underlying3
  a26 := Try.isAgg3
  z26 := Try.sizeOf3
  v26 := Try.zeroValue3
  t27 := Try.underlying79
  a27 := Try.isAgg79
  z27 := Try.sizeOf79
  v27 := Try.zeroValue79
  t28 := Try.underlying80
  a28 := Try.isAgg80
  z28 := Try.sizeOf80
  v28 := Try.zeroValue80
  t33 := Try.underlying96
  a33 := Try.isAgg96
  z33 := Try.sizeOf96
  v33 := Try.zeroValue96 }
def laySortI_ren : Go.Shelf.Ren := ⟨fun | 5 => 63 | 8 => 76 | 7 => 75 | 19 => 92 | 20 => 93 | 10 => 83 | 11 => 84 | 12 => 85 | 13 => 86 | 14 => 87 | 15 => 88 | 16 => 89 | 17 => 90 | 18 => 91 | 30 => 105 | 31 => 106 | 32 => 107 | 33 => 108 | 34 => 109 | 35 => 80 | 40 => 114 | n => n, fun | 23 => 42 | 25 => 3 | 3 => 3 | 32 => 112 | 22 => 42 | 0 => 0 | 44 => 128 | 46 => 87 | 4 => 4 | 36 => 120 | 35 => 119 | 41 => 125 | 5 => 5 | 9 => 9 | 53 => 139 | 57 => 143 | 63 => 148 | 64 => 149 | n => n, fun | n => n⟩
theorem laySortI : Go.Proofs.SlLaysM.n5 Try.prog laySortI_ren := {
  mixed := by kernel_rfl
  f5 := ⟨Try.f63.name, by decide, Try.func63.trans (congrArg some (by kernel_rfl))⟩
  f7 := ⟨Try.f75.name, by decide, Try.func75.trans (congrArg some (by kernel_rfl))⟩
  f8 := Try.func76.trans (congrArg some (by kernel_rfl))
  f10 := ⟨Try.f83.name, by decide, Try.func83.trans (congrArg some (by kernel_rfl))⟩
  f11 := ⟨Try.f84.name, by decide, Try.func84.trans (congrArg some (by kernel_rfl))⟩
  f12 := ⟨Try.f85.name, by decide, Try.func85.trans (congrArg some (by kernel_rfl))⟩
  f13 := ⟨Try.f86.name, by decide, Try.func86.trans (congrArg some (by kernel_rfl))⟩
  f14 := ⟨Try.f87.name, by decide, Try.func87.trans (congrArg some (by kernel_rfl))⟩
  f15 := ⟨Try.f88.name, by decide, Try.func88.trans (congrArg some (by kernel_rfl))⟩
  f16 := ⟨Try.f89.name, by decide, Try.func89.trans (congrArg some (by kernel_rfl))⟩
  f17 := ⟨Try.f90.name, by decide, Try.func90.trans (congrArg some (by kernel_rfl))⟩
  f18 := ⟨Try.f91.name, by decide, Try.func91.trans (congrArg some (by kernel_rfl))⟩
  f19 := Try.func92.trans (congrArg some (by kernel_rfl))
  f20 := Try.func93.trans (congrArg some (by kernel_rfl))
  f30 := ⟨Try.f105.name, by decide, Try.func105.trans (congrArg some (by kernel_rfl))⟩
  f31 := Try.func106.trans (congrArg some (by kernel_rfl))
  f32 := Try.func107.trans (congrArg some (by kernel_rfl))
  f33 := ⟨Try.f108.name, by decide, Try.func108.trans (congrArg some (by kernel_rfl))⟩
  f34 := ⟨Try.f109.name, by decide, Try.func109.trans (congrArg some (by kernel_rfl))⟩
  f35 := ⟨Try.f80.name, by decide, Try.func80.trans (congrArg some (by kernel_rfl))⟩
  f40 := ⟨Try.f114.name, by decide, Try.func114.trans (congrArg some (by kernel_rfl))⟩
  t0 := Try.underlying0
  a0 := Try.isAgg0
  z0 := Try.sizeOf0
  v0 := Try.zeroValue0
  t3 := Try.underlying3
  a3 := Try.isAgg3
  z3 := Try.sizeOf3
  v3 := Try.zeroValue3
  t4 := Try.underlying4
  a4 := Try.isAgg4
  z4 := Try.sizeOf4
  v4 := Try.zeroValue4
  t5 := Try.underlying5
  a5 := Try.isAgg5
  z5 := Try.sizeOf5
  v5 := Try.zeroValue5
  t9 := Try.underlying9
  a9 := Try.isAgg9
  z9 := Try.sizeOf9
  v9 := Try.zeroValue9
  t22 := Try.underlying42
  a22 := Try.isAgg42
  z22 := Try.sizeOf42
  v22 := Try.zeroValue42
  t23 := Try.underlying42
  a23 := Try.isAgg42
  z23 := Try.sizeOf42
  v23 := Try.zeroValue42
  t25 := Try.underlying3
  a25 := Try.isAgg3
  z25 := Try.sizeOf3
  v25 := Try.zeroValue3
  t32 := Try.underlying112
  a32 := Try.isAgg112
  z32 := Try.sizeOf112
  v32 := Try.zeroValue112
  t35 := Try.underlying119
  a35 := Try.isAgg119
  z35 := Try.sizeOf119
  v35 := Try.zeroValue119
  t36 := Try.underlying120
  a36 := Try.isAgg120
  z36 := Try.sizeOf120
  v36 := Try.zeroValue120
  t41 := Try.underlying125
  a41 := Try.isAgg125
  z41 := Try.sizeOf125
  v41 := Try.zeroValue125
  t44 := Try.underlying128
  a44 := Try.isAgg128
  z44 := Try.sizeOf128
  v44 := Try.zeroValue128
  t46 := Try.underlying87
  a46 := Try.isAgg87
  z46 := Try.sizeOf87
  v46 := Try.zeroValue87
  t53 := Try.underlying139
  a53 := Try.isAgg139
  z53 := Try.sizeOf139
  v53 := Try.zeroValue139
  t57 := Try.underlying143
  a57 := Try.isAgg143
  z57 := Try.sizeOf143
  v57 := Try.zeroValue143
  t63 := Try.underlying148
  a63 := Try.isAgg148
  z63 := Try.sizeOf148
  v63 := Try.zeroValue148
  t64 := Try.underlying149
  a64 := Try.isAgg149
  z64 := Try.sizeOf149
  v64 := Try.zeroValue149 }
end Go.Proofs.Ythladblmjoaeoaa
namespace Go.Proofs.Ythladblmjoaeoaa
set_option linter.unusedVariables false
set_option linter.unusedSimpArgs false
open Go.Eng
/-! ### (*rostrum/disk.Disk).Files (22) -/
def S.disk_Disk_Files.body (R : Value → World → Prop) (v0 : Value) (W : World) : Prop :=
  okF (nilP v0) fun v4 =>
  okF (addrF 3 v4) fun v5 =>
  rdK PR (Instr.loadAt T_bool v5) (fun v6 W =>
  okF (unP .not v6) fun v7 =>
  ifK v7 (
  R (.slice none 0 0) W) (
  okF (nilP v0) fun v9 =>
  okF (addrF 1 v9) fun v10 =>
  rdK PR (Instr.loadAt T_m_int_s_uint8 v10) (fun v11 W =>
  callK PR F_maps_Keys_map_int_byte_int_byte [v11] (fun v12 W =>
  callK PR F_slices_Sorted_int [v12] (fun v13 W =>
  R v13 W) W) W) W)) W
def S.disk_Disk_Files.hint : Hint := (.two .nil (.two (.two .nil (.two (.two .nil .nil) .nil)) (.two .nil .nil)))
theorem S.disk_Disk_Files.ok (R : Value → World → Prop) (v0 : Value) (W : World) : bodyK PR CB Try.f22 S.disk_Disk_Files.hint [v0] R W = S.disk_Disk_Files.body R v0 W := by kernel_rfl
theorem S.disk_Disk_Files.fn : PR.funcs[F_disk_Disk_Files]? = some Try.f22 := by kernel_rfl
theorem S.disk_Disk_Files.call {R : Value → World → Prop} {v0 : Value} {W : World} (h : S.disk_Disk_Files.body R v0 W) : callK PR F_disk_Disk_Files [v0] R W :=
  callK_of_body (g := F_disk_Disk_Files) (fn := Try.f22) (args := [v0]) (R := R) (w := W) mixed CBok S.disk_Disk_Files.fn S.disk_Disk_Files.hint (by rw [S.disk_Disk_Files.ok]; exact h)
/-! ### rostrum/rostrumlaw5.ints (24) -/
def S.rostrumlaw5_ints.l1 (R : Value → World → Prop) (K1 : List Value → World → Prop) (x0 x1 x5 : Value) (W : World) : Prop :=
  okF (lenP (.slice T_int) x0) fun v13 =>
  okF (binP .lss x5 v13) fun v14 =>
  ifK v14 (
  okF (idxS 1 x0 x5) fun v19 =>
  rdK PR (Instr.loadAt T_int v19) (fun v20 W =>
  okF (idxS 1 x1 x5) fun v23 =>
  rdK PR (Instr.loadAt T_int v23) (fun v24 W =>
  okF (binP .neq v20 v24) fun v25 =>
  ifK v25 (
  R (.bool false) W) (
  okF (binP .add x5 (.int .i64 1)) fun v16 =>
  K1 [x0, x1, v16] W)) W) (tick W)) (
  R (.bool true) W)
def S.rostrumlaw5_ints.body (R : Value → World → Prop) (v0 v1 : Value) (W : World) : Prop :=
  okF (lenP (.slice T_int) v0) fun v7 =>
  okF (lenP (.slice T_int) v1) fun v9 =>
  okF (binP .neq v7 v9) fun v10 =>
  ifK v10 (
  R (.bool false) W) (
  loopK (fun K1 s W => S.rostrumlaw5_ints.l1 R K1 (nthv s 0) (nthv s 1) (nthv s 2) W) [v0, v1, (.int .i64 0)] W)
def S.rostrumlaw5_ints.hint : Hint := (.two .nil (.two (.two .nil (.two (.two .nil .nil) .nil)) (.two (.two .nil (.at [0, 1, 5] (.two (.two .nil (.two .nil .nil)) (.two (.two .nil (.two (.two .nil .nil) .nil)) .nil)) .nil)) (.two .nil .nil))))
theorem S.rostrumlaw5_ints.ok (R : Value → World → Prop) (v0 v1 : Value) (W : World) : bodyK PR CB Try.f24 S.rostrumlaw5_ints.hint [v0, v1] R W = S.rostrumlaw5_ints.body R v0 v1 W := by kernel_rfl
theorem S.rostrumlaw5_ints.fn : PR.funcs[F_rostrumlaw5_ints]? = some Try.f24 := by kernel_rfl
theorem S.rostrumlaw5_ints.call {R : Value → World → Prop} {v0 v1 : Value} {W : World} (h : S.rostrumlaw5_ints.body R v0 v1 W) : callK PR F_rostrumlaw5_ints [v0, v1] R W :=
  callK_of_body (g := F_rostrumlaw5_ints) (fn := Try.f24) (args := [v0, v1]) (R := R) (w := W) mixed CBok S.rostrumlaw5_ints.fn S.rostrumlaw5_ints.hint (by rw [S.rostrumlaw5_ints.ok]; exact h)
/-! ### rostrum/rostrumlaw5.DiskKnown (6) -/
def S.rostrumlaw5_DiskKnown.body (R : Value → World → Prop) (W : World) : Prop :=
  callK PR F_rostrumlaw5_awake [] (fun v20 W =>
  okF (unP .not v20) fun v21 =>
  ifK v21 (
  R (.bool false) W) (
  callK PR F_disk_New [(.int .i64 63)] (fun v23 W =>
  okF (extP 0 v23) fun v24 =>
  okF (extP 1 v23) fun v25 =>
  callK PR F_disk_New [(.int .i64 64)] (fun v27 W =>
  okF (extP 0 v27) fun v28 =>
  okF (extP 1 v27) fun v29 =>
  callK PR F_disk_Disk_Append [v28, (.int .i64 (-1)), (.slice none 0 0)] (fun v31 W =>
  callK PR F_disk_Disk_Append [v28, (.int .i64 1000), (.slice none 0 0)] (fun v33 W =>
  efK PR (Instr.makeSlice T_s_uint8 (.int .i64 65) (.int .i64 65)) (fun v35 W =>
  callK PR F_disk_Disk_Append [v28, (.int .i64 5), v35] (fun v36 W =>
  callK PR F_disk_Disk_Sync [v28, (.int .i64 5)] (fun v38 W =>
  efK PR (Instr.buildSlice T_s_uint8 3 #[(0, (.int .u8 97)), (1, (.int .u8 98)), (2, (.int .u8 99))]) (fun v40 W =>
  efK PR (convert T_s_uint8 T_s_uint8 v40) (fun v41 W =>
  callK PR F_disk_Disk_Append [v28, (.int .i64 9), v41] (fun v42 W =>
  callK PR F_disk_Disk_Sync [v28, (.int .i64 9)] (fun v44 W =>
  callK PR F_disk_Disk_Spoil [v28, (.int .i64 9), (.int .i64 1), (.int .u8 1)] (fun v46 W =>
  callK PR F_disk_Disk_Spoil [v28, (.int .i64 9), (.int .i64 3), (.int .u8 1)] (fun v48 W =>
  callK PR F_disk_Disk_Spoil [v28, (.int .i64 9), (.int .i64 0), (.int .u8 0)] (fun v50 W =>
  callK PR F_disk_Disk_Read [v28, (.int .i64 9)] (fun v53 W =>
  okF (extP 0 v53) fun v54 =>
  okF (extP 1 v53) fun v55 =>
  callK PR F_disk_Disk_Append [v28, (.int .i64 2), (.slice none 0 0)] (fun v57 W =>
  callK PR F_disk_Disk_Files [v28] (fun v59 W =>
  callK PR F_disk_Disk_Crash [v28, (.int .i64 0), (.int .i64 0)] (fun v61 W =>
  callK PR F_disk_Disk_Files [v28] (fun v63 W =>
  callK PR F_disk_Disk_On [v28] (fun v65 W =>
  callK PR F_disk_Disk_Read [v28, (.int .i64 9)] (fun v68 W =>
  okF (extP 0 v68) fun v69 =>
  okF (extP 1 v68) fun v70 =>
  callK PR F_disk_Disk_Drop [v28, (.int .i64 9)] (fun v72 W =>
  callK PR F_disk_Disk_Drop [v28, (.int .i64 9)] (fun v74 W =>
  okF (binP .eql v25 (.int .i64 1)) fun v76 =>
  gdK (wantd v76 true) (fun k W => k v31 W) (fun v78 W =>
  gdK (wantd v76 true) (fun k W => okF (binP .eql v78 (.int .i64 1)) fun v => k v W) (fun v79 W =>
  okF (pickP v76 v79 (.bool false)) fun v80 =>
  gdK (wantd v80 true) (fun k W => k v33 W) (fun v82 W =>
  gdK (wantd v80 true) (fun k W => okF (binP .eql v82 (.int .i64 1)) fun v => k v W) (fun v83 W =>
  okF (pickP v80 v83 (.bool false)) fun v84 =>
  gdK (wantd v84 true) (fun k W => k v36 W) (fun v86 W =>
  gdK (wantd v84 true) (fun k W => okF (binP .eql v86 (.int .i64 6)) fun v => k v W) (fun v87 W =>
  okF (pickP v84 v87 (.bool false)) fun v88 =>
  gdK (wantd v88 true) (fun k W => k v38 W) (fun v90 W =>
  gdK (wantd v88 true) (fun k W => okF (binP .eql v90 (.int .i64 4)) fun v => k v W) (fun v91 W =>
  okF (pickP v88 v91 (.bool false)) fun v92 =>
  gdK (wantd v92 true) (fun k W => k v46 W) (fun v94 W =>
  okF (pickP v92 v94 (.bool false)) fun v95 =>
  gdK (wantd v95 true) (fun k W => k v48 W) (fun v97 W =>
  gdK (wantd v95 true) (fun k W => okF (unP .not v97) fun v => k v W) (fun v98 W =>
  okF (pickP v95 v98 (.bool false)) fun v99 =>
  gdK (wantd v99 true) (fun k W => k v50 W) (fun v101 W =>
  gdK (wantd v99 true) (fun k W => okF (unP .not v101) fun v => k v W) (fun v102 W =>
  okF (pickP v99 v102 (.bool false)) fun v103 =>
  gdK (wantd v103 true) (fun k W => k v54 W) (fun v105 W =>
  gdK (wantd v103 true) (fun k W => rdK PR (convert T_s_uint8 T_string v105) k W) (fun v106 W =>
  gdK (wantd v103 true) (fun k W => okF (binP .eql v106 (.string ⟨#[97, 99, 99]⟩)) fun v => k v W) (fun v107 W =>
  okF (pickP v103 v107 (.bool false)) fun v108 =>
  gdK (wantd v108 true) (fun k W => k v59 W) (fun v110 W =>
  gdK (wantd v108 true) (fun k W => efK PR (Instr.buildSlice T_s_int 2 #[(0, (.int .i64 2)), (1, (.int .i64 9))]) k W) (fun v111 W =>
  gdK (wantd v108 true) (fun k W => callK PR F_rostrumlaw5_ints [v110, v111] k W) (fun v112 W =>
  okF (pickP v108 v112 (.bool false)) fun v113 =>
  gdK (wantd v113 true) (fun k W => k v63 W) (fun v115 W =>
  gdK (wantd v113 true) (fun k W => okF (lenP (.slice T_int) v115) fun v => k v W) (fun v116 W =>
  gdK (wantd v113 true) (fun k W => okF (binP .eql v116 (.int .i64 0)) fun v => k v W) (fun v117 W =>
  okF (pickP v113 v117 (.bool false)) fun v118 =>
  gdK (wantd v118 true) (fun k W => k v69 W) (fun v120 W =>
  gdK (wantd v118 true) (fun k W => rdK PR (convert T_s_uint8 T_string v120) k W) (fun v121 W =>
  gdK (wantd v118 true) (fun k W => okF (binP .eql v121 (.string ⟨#[97, 99, 99]⟩)) fun v => k v W) (fun v122 W =>
  okF (pickP v118 v122 (.bool false)) fun v123 =>
  gdK (wantd v123 true) (fun k W => k v72 W) (fun v125 W =>
  gdK (wantd v123 true) (fun k W => okF (binP .eql v125 (.int .i64 0)) fun v => k v W) (fun v126 W =>
  okF (pickP v123 v126 (.bool false)) fun v127 =>
  gdK (wantd v127 true) (fun k W => k v74 W) (fun v129 W =>
  gdK (wantd v127 true) (fun k W => okF (binP .eql v129 (.int .i64 4)) fun v => k v W) (fun v130 W =>
  okF (pickP v127 v130 (.bool false)) fun v131 =>
  gdK (wantd v131 true) (fun k W => k v28 W) (fun v133 W =>
  gdK (wantd v131 true) (fun k W => callK PR F_disk_Disk_Files [v133] k W) (fun v134 W =>
  gdK (wantd v131 true) (fun k W => efK PR (Instr.buildSlice T_s_int 1 #[(0, (.int .i64 2))]) k W) (fun v135 W =>
  gdK (wantd v131 true) (fun k W => callK PR F_rostrumlaw5_ints [v134, v135] k W) (fun v136 W =>
  okF (pickP v131 v136 (.bool false)) fun v137 =>
  R v137 W) W) W) W) W) W) W) W) W) W) W) W) W) W) W) W) W) W) W) W) W) W) W) W) W) W) W) W) W) W) W) W) W) W) W) W) W) W) W) W) W) W) W) W) W) W) W) W) W) W) W) W) W) W) W) W) W)) W
def S.rostrumlaw5_DiskKnown.hint : Hint := (.two .nil (.two (.two .nil (.two (.two .nil .nil) .nil)) (.two .nil (.two .nil (.two .nil (.two .nil (.two .nil (.two .nil (.two .nil (.two .nil (.two .nil (.two .nil (.two .nil (.two .nil (.two .nil (.two .nil (.two .nil (.two .nil (.two .nil (.two .nil .nil))))))))))))))))))))
theorem S.rostrumlaw5_DiskKnown.ok (R : Value → World → Prop) (W : World) : bodyK PR CB Try.f6 S.rostrumlaw5_DiskKnown.hint [] R W = S.rostrumlaw5_DiskKnown.body R  W := by kernel_rfl
theorem S.rostrumlaw5_DiskKnown.fn : PR.funcs[F_rostrumlaw5_DiskKnown]? = some Try.f6 := by kernel_rfl
theorem S.rostrumlaw5_DiskKnown.call {R : Value → World → Prop} {W : World} (h : S.rostrumlaw5_DiskKnown.body R  W) : callK PR F_rostrumlaw5_DiskKnown [] R W :=
  callK_of_body (g := F_rostrumlaw5_DiskKnown) (fn := Try.f6) (args := []) (R := R) (w := W) mixed CBok S.rostrumlaw5_DiskKnown.fn S.rostrumlaw5_DiskKnown.hint (by rw [S.rostrumlaw5_DiskKnown.ok]; exact h)
end Go.Proofs.Ythladblmjoaeoaa
namespace Go.Proofs.Ythladblmjoaeoaa
set_option linter.unusedVariables false
set_option linter.unusedSimpArgs false
open Go Go.Eng

def DS.files (d : DS) : List Int := if d.on then (d.fs.map (·.1)).mergeSort (fun x y => decide (x ≤ y)) else []
theorem wf64i {x : Int} (h0 : -9223372036854775808 ≤ x) (h1 : x ≤ 9223372036854775807) : (Lit.int .i64 x).wf = true := by
  show (decide ((-9223372036854775808 : Int) ≤ x) && decide (x ≤ (9223372036854775807 : Int))) = true
  rw [decide_eq_true h0, decide_eq_true h1]; rfl
section
variable {W0 W : World} {L L' : List Asn}
theorem diskFiles {p : Nat} {d : DS} {k : Value → World → Prop} (h : St W0 L W) (h0 : W0.drawn = 0) [ht : Tk (dk p) L d L'] (hl : d.fs.length ≤ 1000) (hw : ∀ x ∈ d.fs, 0 ≤ x.1 ∧ x.1 < 1000)
    (hk : ∀ a c W', St W0 (arr I64 T_int a c d.files :: dk p d :: L') W' → k (.slice a d.files.length c) W') : callK PR F_disk_Disk_Files [.pointer (some ⟨p, 0, none⟩)] k W := by
  apply S.disk_Disk_Files.call
  unfold S.disk_Disk_Files.body
  obtain ⟨r, a, c, fs, hf, h⟩ := dk_at (h.perm ht.perm)
  unfold DS.files at hk
  cases hon : d.on with
  | false =>
    rw [hon] at hk h
    (repeat (first | (first | ((with_reducible first | refine w1 ?_ | refine w3 ?_ | refine w4 ?_ | refine w11 ?_ | refine stb_n ?_); intros) | ((with_reducible first | refine v5 ?_ | refine v6 ?_ | refine v7 ?_ | refine ve ?_ | refine vn ?_); refine ⟨_, rfl, ?_⟩) | ((with_reducible first | refine v8 ?_ ?_ | refine v9 ?_ ?_ | refine v10 ?_ ?_ | refine v12 ?_ ?_); exact rfl; intros) | ((with_reducible refine w2 ?_); try simp -implicitDefEqProofs only [SE, SU, SV]; intros) | ((with_reducible refine w5 ?_ ?_); simp; refine ⟨_, rfl, ?_⟩) | ((with_reducible refine w12 ?_ ?_ ?_ ?_); simp; simp; simp [oneC]; intros) | (refine okF_i (bldP_eq rfl) ?_; try simp only [BLS, SB, Nat.reduceAdd])) | simp -implicitDefEqProofs only [SE, SU, SV]))
    exact hk none 0 _ ((St.ent (by first | assumption | exact St.tick (by assumption) | exact St.tick (St.tick (by assumption))) (hon ▸ dk_ent (d := d) hf)).ent (arr_nil _ _))
  | true =>
    rw [hon, if_pos rfl] at hk
    rw [hon] at h
    (repeat (first | (first | ((with_reducible first | refine w1 ?_ | refine w3 ?_ | refine w4 ?_ | refine w11 ?_ | refine stb_n ?_); intros) | ((with_reducible first | refine v5 ?_ | refine v6 ?_ | refine v7 ?_ | refine ve ?_ | refine vn ?_); refine ⟨_, rfl, ?_⟩) | ((with_reducible first | refine v8 ?_ ?_ | refine v9 ?_ ?_ | refine v10 ?_ ?_ | refine v12 ?_ ?_); exact rfl; intros) | ((with_reducible refine w2 ?_); try simp -implicitDefEqProofs only [SE, SU, SV]; intros) | ((with_reducible refine w5 ?_ ?_); simp; refine ⟨_, rfl, ?_⟩) | ((with_reducible refine w12 ?_ ?_ ?_ ?_); simp; simp; simp [oneC]; intros) | (refine okF_i (bldP_eq rfl) ?_; try simp only [BLS, SB, Nat.reduceAdd])) | simp -implicitDefEqProofs only [SE, SU, SV]))
    refine keysI (ρ := layKeys_ren) layKeys h fun b W2 h => ?_
    have hlf : (mvs fs).length = d.fs.length := by rw [← hf]; simp
    have hkf : (mvs fs).map (·.1) = d.fs.map (·.1) := by rw [← hf]; simp
    have h := St.perm h (List.Perm.cons _ (List.Perm.swap _ _ _))
    refine sortedI (ρ := laySorted_ren) (g := layKeys_ren.f 10) laySorted (sortsI (ρ' := laySortI_ren) laySortI rfl) (enters_of Try.func63 (by kernel_rfl) rfl) (enters_of Try.func64 (by kernel_rfl) rfl) h h0 (by omega) (keysGive (ρ := layKeys_ren) layKeys h (by rw [hlf]; simp only [maxLen]; omega) fun x hx => ?_) fun a' c' ss W3 hS h => ?_
    · have hx2 : x.1 ∈ (mvs fs).map (·.1) := List.mem_map.2 ⟨x, hx, rfl⟩
      rw [hkf] at hx2
      obtain ⟨z, hz, hz2⟩ := List.mem_map.1 hx2
      have := hw z hz
      rw [show x.1 = z.1 from hz2.symm]
      exact wf64i (by omega) (by omega)
    · rw [hkf] at hS
      have e : (ss.mergeSort fun x y => decide (x ≤ y)) = (d.fs.map (·.1)).mergeSort fun x y => decide (x ≤ y) := mergeSort_of_perm_i hS
      rw [e] at h ⊢
      have h : St W0 (arr I64 T_int a' c' ((d.fs.map (·.1)).mergeSort fun x y => decide (x ≤ y)) :: _) W3 := h
      refine hk a' c' W3 ((St.wk (L' := arr I64 T_int a' c' _ :: cells p [.int .i64 d.room, .map (some r), .slice a d.ws.length c, .bool true, .int .i64 d.lives] T_disk_Disk :: mp KI r (mvs fs) :: arr WRT T_disk_write a c d.ws :: many fch (fs.map (fun x : Int × BSl => x.2)) :: L') h).ent (ent.cons _ ?_))
      exact hon ▸ dk_ent (d := d) hf
end
end Go.Proofs.Ythladblmjoaeoaa
namespace Go.Proofs.Ythladblmjoaeoaa
set_option linter.unusedVariables false
set_option linter.unusedSimpArgs false
open Go Go.Eng

def fcc (x : FC) : Asn := sep [arr BSY T_s_uint8 x.ra x.rc x.rows, many fch x.rows]
theorem FC.v_eq (x : FC) : x.v = .agg #[.int .i64 x.num, .int .i64 (x.kind : Int), .int .i64 (x.index : Int), .int .u64 (x.turn : Int), .slice x.ra x.rows.length x.rc, .bool x.torn] := rfl
section
variable {W0 W : World} {L L' L1 L2 : List Asn} {p : Nat} {d : DS} {k : Value → World → Prop}
theorem files_perm (ho : d.on = true) : d.files.Perm (d.fs.map (·.1)) := by
  unfold DS.files; rw [if_pos ho]; exact List.mergeSort_perm _ _
theorem walReadAll (h : St W0 L W) (h0 : W0.drawn = 0) [ht : Tk (dk p) L d L'] (hon : d.on = true) (hd : d.ok) (hw : d.ws.length < 500000) (hks : ∀ x ∈ d.fs, 0 ≤ x.1 ∧ x.1 < 1000) (hnd : (d.fs.map (·.1)).Nodup)
    (hn : (readGo d d.files []).2 = none → ∀ W', St W0 (dk p (readGo d d.files []).1 :: L') W' → k (.tuple #[.slice none 0 0, .int .i64 3]) W')
    (hs : ∀ all, (readGo d d.files []).2 = some all → ∀ a c (xs : List FC) W', xs.map FC.fx = all → St W0 (arr FCL T_wal_file a c xs :: many fcc xs :: dk p (readGo d d.files []).1 :: L') W' → k (.tuple #[.slice a xs.length c, .int .i64 0]) W') :
    callK PR F_wal_readAll [.pointer (some ⟨p, 0, none⟩)] k W := by
  apply S.wal_readAll.call
  unfold S.wal_readAll.body
  have hfp := files_perm hon
  have hfl : d.fs.length ≤ 1000 := by
    have := nodup_range (n := 1000) hnd fun x hx => by
      obtain ⟨y, hy, rfl⟩ := List.mem_map.1 hx
      exact hks y hy
    simpa using this
  have hnl : d.files.length ≤ 1000 := by rw [hfp.length_eq, List.length_map]; exact hfl
  refine joinK_i ?_
  refine diskFiles (d := d) h h0 hfl hks fun fa fc W1 h => ?_
  have hsub : ∀ f ∈ d.files, 0 ≤ f ∧ f < 1000 ∧ f ∈ d.fs.map (·.1) := fun f hf => by
    have hf := hfp.subset hf
    obtain ⟨c, hc⟩ := mem_keys hf
    exact ⟨(hks _ hc).1, (hks _ hc).2, hf⟩
  have hndf : d.files.Nodup := hfp.nodup_iff.2 hnd
  generalize d.files = ns at *
  (repeat (first | (first | ((with_reducible first | refine w1 ?_ | refine w3 ?_ | refine w4 ?_ | refine w11 ?_ | refine stb_n ?_); intros) | ((with_reducible first | refine v5 ?_ | refine v6 ?_ | refine v7 ?_ | refine ve ?_ | refine vn ?_); refine ⟨_, rfl, ?_⟩) | ((with_reducible first | refine v8 ?_ ?_ | refine v9 ?_ ?_ | refine v10 ?_ ?_ | refine v12 ?_ ?_); exact rfl; intros) | ((with_reducible refine w2 ?_); try simp -implicitDefEqProofs only [SE, SU, SV]; intros) | ((with_reducible refine w5 ?_ ?_); simp; refine ⟨_, rfl, ?_⟩) | ((with_reducible refine w12 ?_ ?_ ?_ ?_); simp; simp; simp [oneC]; intros) | (refine okF_i (bldP_eq rfl) ?_; try simp only [BLS, SB, Nat.reduceAdd])) | simp -implicitDefEqProofs only [SE, SU, SV]))
  refine loop_c (σ := DS × Option Addr × Nat × List FC) ns.length (fun i x => [.pointer (some ⟨p, 0, none⟩), .slice x.2.1 x.2.2.2.length x.2.2.1, .slice fa ns.length fc, .int .i64 (ns.length : Int), .int .i64 (i : Int)])
    (fun i x W1 => readGo d ns [] = readGo x.1 (ns.drop i) (x.2.2.2.map FC.fx) ∧ x.1.on = true ∧ x.1.ok ∧ x.1.ws.length < 500000 ∧ (List.map (fun y : Int × Bs => y.1) x.1.fs).Nodup ∧ (∀ f ∈ ns.drop i, 0 ≤ f ∧ f < 1000 ∧ f ∈ List.map (fun y : Int × Bs => y.1) x.1.fs) ∧ x.2.2.2.length ≤ i ∧
      St W0 (arr I64 T_int fa fc ns :: arr FCL T_wal_file x.2.1 x.2.2.1 x.2.2.2 :: many fcc x.2.2.2 :: dk p x.1 :: L') W1) (d, none, 0, []) rfl
    ⟨rfl, hon, hd, hw, hnd, hsub, Nat.le_refl _, St.ent (by first | assumption | exact St.tick (by assumption) | exact St.tick (St.tick (by assumption))) (ent.cons _ ((many_nil (F := fcc)).trans (arr_nil FCL T_wal_file)))⟩ ?_
  clear h hsub hnd hon hd hw
  rintro K i ⟨d1, a1, c1, xs⟩ W2 hi ⟨hgo, hon, hd, hw, hnd, hsub, hxl, h⟩ hK
  simp only at hgo hon hd hw hnd hsub hxl h
  simp -implicitDefEqProofs only [SE, SU, SV]
  unfold S.wal_readAll.l1
  by_cases hlt : (i : Int) < (ns.length : Int)
  · have hib : i < ns.length := by omega
    have ew : IntKind.i64.wrap ((i : Int) + 1) = ((i + 1 : Nat) : Int) := by rw [i64w]; omega
    have edr := List.drop_eq_getElem_cons hib
    have hndr : ns[i] ∉ ns.drop (i + 1) := by
      have : (ns.drop i).Nodup := hndf.sublist (List.drop_sublist _ _)
      rw [edr] at this
      exact (List.nodup_cons.1 this).1
    rw [edr] at hgo hsub
    obtain ⟨f0, f1, f2⟩ := hsub ns[i] List.mem_cons_self
    have hsub' : ∀ f ∈ ns.drop (i + 1), 0 ≤ f ∧ f < 1000 ∧ f ∈ d1.fs.map (·.1) := fun f hf => hsub f (List.mem_cons_of_mem _ hf)
    obtain ⟨d1a, d1b, d1c⟩ := hd
    have er : d1.read ns[i] = (cont d1.fs ns[i], 0) := by
      unfold DS.read; rw [find_key hon f2 ⟨f0, f1⟩ hnd]; rfl
    have hcl := lens_cont d1.fs ns[i]
    rw [readGo] at hgo
    (repeat (first | (first | ((with_reducible first | refine w1 ?_ | refine w3 ?_ | refine w4 ?_ | refine w11 ?_ | refine stb_n ?_); intros) | ((with_reducible first | refine v5 ?_ | refine v6 ?_ | refine v7 ?_ | refine ve ?_ | refine vn ?_); refine ⟨_, rfl, ?_⟩) | ((with_reducible first | refine v8 ?_ ?_ | refine v9 ?_ ?_ | refine v10 ?_ ?_ | refine v12 ?_ ?_); exact rfl; intros) | ((with_reducible refine w2 ?_); try simp -implicitDefEqProofs only [SE, SU, SV, hlt]; intros) | ((with_reducible refine w5 ?_ ?_); simp; refine ⟨_, rfl, ?_⟩) | ((with_reducible refine w12 ?_ ?_ ?_ ?_); simp; simp; simp [oneC]; intros) | (refine okF_i (bldP_eq rfl) ?_; try simp only [BLS, SB, Nat.reduceAdd])) | simp -implicitDefEqProofs only [SE, SU, SV, hlt]))
    refine joinK_i ?_
    refine ixA (i := i) (a := fa) (l := ns) (A := I64) h rfl rfl hib fun g o ha => ?_
    cases ha
    refine ldA0 (i := i) (l := ns) (A := I64) h rfl hib (v := .int .i64 ns[i]) rfl (by simp) ?_
    refine diskRead (d := d1) (f := ns[i]) h (by omega) fun a2 c2 W3 h => ?_
    rw [er] at h ⊢
    simp only at h ⊢
    have hcap := h.arrFacts
    (repeat (first | (first | ((with_reducible first | refine w1 ?_ | refine w3 ?_ | refine w4 ?_ | refine w11 ?_ | refine stb_n ?_); intros) | ((with_reducible first | refine v5 ?_ | refine v6 ?_ | refine v7 ?_ | refine ve ?_ | refine vn ?_); refine ⟨_, rfl, ?_⟩) | ((with_reducible first | refine v8 ?_ ?_ | refine v9 ?_ ?_ | refine v10 ?_ ?_ | refine v12 ?_ ?_); exact rfl; intros) | ((with_reducible refine w2 ?_); try simp -implicitDefEqProofs only [SE, SU, SV]; intros) | ((with_reducible refine w5 ?_ ?_); simp; refine ⟨_, rfl, ?_⟩) | ((with_reducible refine w12 ?_ ?_ ?_ ?_); simp; simp; simp [oneC]; intros) | (refine okF_i (bldP_eq rfl) ?_; try simp only [BLS, SB, Nat.reduceAdd])) | simp -implicitDefEqProofs only [SE, SU, SV]))
    refine walParse (a := a2) (b := cont d1.fs ns[i]) (num := ns[i]) (by first | assumption | exact St.tick (by assumption) | exact St.tick (St.tick (by assumption))) hcap.1 (by omega) (fun hp x W4 h => ?_) (fun hp x W4 h => ?_) (fun f hp x W4 hx h => ?_)
    · rw [hp] at hgo
      simp only at hgo
      rw [hgo] at hn
      rw [x.v_eq]
      (repeat (first | (first | ((with_reducible first | refine w1 ?_ | refine w3 ?_ | refine w4 ?_ | refine w11 ?_ | refine stb_n ?_); intros) | ((with_reducible first | refine v5 ?_ | refine v6 ?_ | refine v7 ?_ | refine ve ?_ | refine vn ?_); refine ⟨_, rfl, ?_⟩) | ((with_reducible first | refine v8 ?_ ?_ | refine v9 ?_ ?_ | refine v10 ?_ ?_ | refine v12 ?_ ?_); exact rfl; intros) | ((with_reducible refine w2 ?_); try simp -implicitDefEqProofs only [SE, SU, SV]; intros) | ((with_reducible refine w5 ?_ ?_); simp; refine ⟨_, rfl, ?_⟩) | ((with_reducible refine w12 ?_ ?_ ?_ ?_); simp; simp; simp [oneC]; intros) | (refine okF_i (bldP_eq rfl) ?_; try simp only [BLS, SB, Nat.reduceAdd])) | simp -implicitDefEqProofs only [SE, SU, SV]))
      rename_i h
      exact hn rfl _ (St.wk h)
    · rw [hp] at hgo
      simp only at hgo
      rw [x.v_eq]
      (repeat (first | (first | ((with_reducible first | refine w1 ?_ | refine w3 ?_ | refine w4 ?_ | refine w11 ?_ | refine stb_n ?_); intros) | ((with_reducible first | refine v5 ?_ | refine v6 ?_ | refine v7 ?_ | refine ve ?_ | refine vn ?_); refine ⟨_, rfl, ?_⟩) | ((with_reducible first | refine v8 ?_ ?_ | refine v9 ?_ ?_ | refine v10 ?_ ?_ | refine v12 ?_ ?_); exact rfl; intros) | ((with_reducible refine w2 ?_); try simp -implicitDefEqProofs only [SE, SU, SV]; intros) | ((with_reducible refine w5 ?_ ?_); simp; refine ⟨_, rfl, ?_⟩) | ((with_reducible refine w12 ?_ ?_ ?_ ?_); simp; simp; simp [oneC]; intros) | (refine okF_i (bldP_eq rfl) ?_; try simp only [BLS, SB, Nat.reduceAdd])) | simp -implicitDefEqProofs only [SE, SU, SV]))
      refine diskDrop (d := d1) (f := ns[i]) (by first | assumption | exact St.tick (by assumption) | exact St.tick (St.tick (by assumption))) (by omega) fun W5 h => ?_
      rw [drop_eq0 hon hnd f2 ⟨f0, f1⟩] at h hgo
      unfold S.wal_readAll.j2
      (repeat (first | (first | ((with_reducible first | refine w1 ?_ | refine w3 ?_ | refine w4 ?_ | refine w11 ?_ | refine stb_n ?_); intros) | ((with_reducible first | refine v5 ?_ | refine v6 ?_ | refine v7 ?_ | refine ve ?_ | refine vn ?_); refine ⟨_, rfl, ?_⟩) | ((with_reducible first | refine v8 ?_ ?_ | refine v9 ?_ ?_ | refine v10 ?_ ?_ | refine v12 ?_ ?_); exact rfl; intros) | ((with_reducible refine w2 ?_); try simp -implicitDefEqProofs only [SE, SU, SV, ew]; intros) | ((with_reducible refine w5 ?_ ?_); simp; refine ⟨_, rfl, ?_⟩) | ((with_reducible refine w12 ?_ ?_ ?_ ?_); simp; simp; simp [oneC]; intros) | (refine okF_i (bldP_eq rfl) ?_; try simp only [BLS, SB, Nat.reduceAdd])) | simp -implicitDefEqProofs only [SE, SU, SV, ew]))
      refine hK ({ d1 with fs := mdel d1.fs ns[i], ws := d1.ws.filter fun w => !decide (w.1 = ns[i]) }, a1, c1, xs) _ hib ⟨hgo, hon, ⟨d1a, d1b, ?_⟩, Nat.lt_of_le_of_lt (List.length_filter_le _ _) hw, nd_del hnd f2, fun f hf => ?_, Nat.le_succ_of_le hxl, St.wk h⟩
      · show lens (mdel d1.fs ns[i]) ≤ _
        obtain ⟨cc, hcc⟩ := mem_keys f2
        have := lens_perm (mdel_perm (mget_mem hnd hcc))
        simp only [lens, List.map_cons, List.sum_cons] at this d1c ⊢
        omega
      · obtain ⟨g0, g1, g2⟩ := hsub' f hf
        exact ⟨g0, g1, (cont_del hnd f2 g2 (fun e => hndr (e ▸ hf))).1⟩
    · rw [hp] at hgo
      simp only at hgo
      rw [x.v_eq]
      (repeat (first | (first | ((with_reducible first | refine w1 ?_ | refine w3 ?_ | refine w4 ?_ | refine w11 ?_ | refine stb_n ?_); intros) | ((with_reducible first | refine v5 ?_ | refine v6 ?_ | refine v7 ?_ | refine ve ?_ | refine vn ?_); refine ⟨_, rfl, ?_⟩) | ((with_reducible first | refine v8 ?_ ?_ | refine v9 ?_ ?_ | refine v10 ?_ ?_ | refine v12 ?_ ?_); exact rfl; intros) | ((with_reducible refine w2 ?_); try simp -implicitDefEqProofs only [SE, SU, SV]; intros) | ((with_reducible refine w5 ?_ ?_); simp; refine ⟨_, rfl, ?_⟩) | ((with_reducible refine w12 ?_ ?_ ?_ ?_); simp; simp; simp [oneC]; intros) | (refine okF_i (bldP_eq rfl) ?_; try simp only [BLS, SB, Nat.reduceAdd])) | simp -implicitDefEqProofs only [SE, SU, SV]))
      refine pushA (A := FCL) (l := xs) (a := a1) x (by first | assumption | exact St.tick (by assumption) | exact St.tick (St.tick (by assumption))) rfl rfl (by omega) (by simp only [maxLen]; omega) (by decide) fun a3 c3 W5 h => ?_
      unfold S.wal_readAll.j2
      (repeat (first | (first | ((with_reducible first | refine w1 ?_ | refine w3 ?_ | refine w4 ?_ | refine w11 ?_ | refine stb_n ?_); intros) | ((with_reducible first | refine v5 ?_ | refine v6 ?_ | refine v7 ?_ | refine ve ?_ | refine vn ?_); refine ⟨_, rfl, ?_⟩) | ((with_reducible first | refine v8 ?_ ?_ | refine v9 ?_ ?_ | refine v10 ?_ ?_ | refine v12 ?_ ?_); exact rfl; intros) | ((with_reducible refine w2 ?_); try simp -implicitDefEqProofs only [SE, SU, SV, ew]; intros) | ((with_reducible refine w5 ?_ ?_); simp; refine ⟨_, rfl, ?_⟩) | ((with_reducible refine w12 ?_ ?_ ?_ ?_); simp; simp; simp [oneC]; intros) | (refine okF_i (bldP_eq rfl) ?_; try simp only [BLS, SB, Nat.reduceAdd])) | simp -implicitDefEqProofs only [SE, SU, SV, ew]))
      have h := St.wk (L' := arr I64 T_int (some ⟨g, o, none⟩) fc ns :: arr FCL T_wal_file a3 c3 (xs ++ [x]) :: arr BSY T_s_uint8 x.ra x.rc x.rows :: many fch x.rows :: many fcc xs :: dk p d1 :: L') h
      refine hK (d1, a3, c3, xs ++ [x]) _ hib ⟨?_, hon, ⟨d1a, d1b, d1c⟩, hw, hnd, hsub', by simp; omega, h.ent (ent.cons _ (ent.cons _ (((ent.pack [_, _] _).trans (many_uncons (F := fcc) x xs)).trans (many_perm (F := fcc) (List.perm_append_singleton _ _).symm))))⟩
      show _ = readGo d1 _ ((xs ++ [x]).map FC.fx)
      rw [List.map_append, List.map_cons, List.map_nil, hx]
      exact hgo
  · rw [List.drop_eq_nil_of_le (by omega), readGo] at hgo
    rw [hgo] at hs
    unfold S.wal_readAll.j1
    (repeat (first | (first | ((with_reducible first | refine w1 ?_ | refine w3 ?_ | refine w4 ?_ | refine w11 ?_ | refine stb_n ?_); intros) | ((with_reducible first | refine v5 ?_ | refine v6 ?_ | refine v7 ?_ | refine ve ?_ | refine vn ?_); refine ⟨_, rfl, ?_⟩) | ((with_reducible first | refine v8 ?_ ?_ | refine v9 ?_ ?_ | refine v10 ?_ ?_ | refine v12 ?_ ?_); exact rfl; intros) | ((with_reducible refine w2 ?_); try simp -implicitDefEqProofs only [SE, SU, SV, hlt]; intros) | ((with_reducible refine w5 ?_ ?_); simp; refine ⟨_, rfl, ?_⟩) | ((with_reducible refine w12 ?_ ?_ ?_ ?_); simp; simp; simp [oneC]; intros) | (refine okF_i (bldP_eq rfl) ?_; try simp only [BLS, SB, Nat.reduceAdd])) | simp -implicitDefEqProofs only [SE, SU, SV, hlt]))
    exact hs _ rfl a1 c1 xs _ rfl h.drop
end
end Go.Proofs.Ythladblmjoaeoaa
namespace Go.Proofs.Ythladblmjoaeoaa
set_option linter.unusedVariables false
set_option linter.unusedSimpArgs false
open Go Go.Proofs Go.Shelf
def laySortFile_ren : Go.Shelf.Ren := ⟨fun | 6 => 67 | 15 => 76 | 14 => 79 | 28 => 92 | 29 => 93 | 20 => 95 | 21 => 96 | 22 => 97 | 23 => 98 | 24 => 99 | 25 => 100 | 26 => 101 | 27 => 102 | 46 => 111 | 47 => 106 | 48 => 107 | 49 => 112 | 50 => 113 | 57 => 115 | n => n, fun | 22 => 84 | 24 => 98 | 25 => 104 | 3 => 3 | 39 => 112 | 0 => 0 | 53 => 128 | 55 => 87 | 4 => 4 | 46 => 120 | 45 => 119 | 50 => 125 | 5 => 5 | 9 => 9 | 66 => 139 | 70 => 143 | 76 => 148 | 77 => 149 | n => n, fun | n => n⟩
theorem laySortFile : Go.Proofs.SlLaysF0.n6 Try.prog laySortFile_ren := {
  mixed := by kernel_rfl
  f6 := ⟨Try.f67.name, by decide, Try.func67.trans (congrArg some (by kernel_rfl))⟩
  f14 := ⟨Try.f79.name, by decide, Try.func79.trans (congrArg some (by kernel_rfl))⟩
  f15 := Try.func76.trans (congrArg some (by kernel_rfl))
  f20 := ⟨Try.f95.name, by decide, Try.func95.trans (congrArg some (by kernel_rfl))⟩
  f21 := ⟨Try.f96.name, by decide, Try.func96.trans (congrArg some (by kernel_rfl))⟩
  f22 := ⟨Try.f97.name, by decide, Try.func97.trans (congrArg some (by kernel_rfl))⟩
  f23 := ⟨Try.f98.name, by decide, Try.func98.trans (congrArg some (by kernel_rfl))⟩
  f24 := ⟨Try.f99.name, by decide, Try.func99.trans (congrArg some (by kernel_rfl))⟩
  f25 := ⟨Try.f100.name, by decide, Try.func100.trans (congrArg some (by kernel_rfl))⟩
  f26 := ⟨Try.f101.name, by decide, Try.func101.trans (congrArg some (by kernel_rfl))⟩
  f27 := ⟨Try.f102.name, by decide, Try.func102.trans (congrArg some (by kernel_rfl))⟩
  f28 := Try.func92.trans (congrArg some (by kernel_rfl))
  f29 := Try.func93.trans (congrArg some (by kernel_rfl))
  f46 := ⟨Try.f111.name, by decide, Try.func111.trans (congrArg some (by kernel_rfl))⟩
  f47 := Try.func106.trans (congrArg some (by kernel_rfl))
  f48 := Try.func107.trans (congrArg some (by kernel_rfl))
  f49 := ⟨Try.f112.name, by decide, Try.func112.trans (congrArg some (by kernel_rfl))⟩
  f50 := ⟨Try.f113.name, by decide, Try.func113.trans (congrArg some (by kernel_rfl))⟩
  f57 := ⟨Try.f115.name, by decide, Try.func115.trans (congrArg some (by kernel_rfl))⟩
  t0 := Try.underlying0
  a0 := Try.isAgg0
  z0 := Try.sizeOf0
  v0 := Try.zeroValue0
  t3 := Try.underlying3
  a3 := Try.isAgg3
  z3 := Try.sizeOf3
  v3 := Try.zeroValue3
  t4 := Try.underlying4
  a4 := Try.isAgg4
  z4 := Try.sizeOf4
  v4 := Try.zeroValue4
  t5 := Try.underlying5
  a5 := Try.isAgg5
  z5 := Try.sizeOf5
  v5 := Try.zeroValue5
  t9 := Try.underlying9
  a9 := Try.isAgg9
  z9 := Try.sizeOf9
  v9 := Try.zeroValue9
  t22 := Try.underlying84
  a22 := Try.isAgg84
  z22 := Try.sizeOf84
  v22 := Try.zeroValue84
  t25 := Try.underlying104
  a25 := Try.isAgg104
  z25 := Try.sizeOf104
  v25 := Try.zeroValue104
  t39 := Try.underlying112
  a39 := Try.isAgg112
  z39 := Try.sizeOf112
  v39 := Try.zeroValue112
  t45 := Try.underlying119
  a45 := Try.isAgg119
  z45 := Try.sizeOf119
  v45 := Try.zeroValue119
  t46 := Try.underlying120
  a46 := Try.isAgg120
  z46 := Try.sizeOf120
  v46 := Try.zeroValue120
  t50 := Try.underlying125
  a50 := Try.isAgg125
  z50 := Try.sizeOf125
  v50 := Try.zeroValue125
  t53 := Try.underlying128
  a53 := Try.isAgg128
  z53 := Try.sizeOf128
  v53 := Try.zeroValue128
  t55 := Try.underlying87
  a55 := Try.isAgg87
  z55 := Try.sizeOf87
  v55 := Try.zeroValue87
  t66 := Try.underlying139
  a66 := Try.isAgg139
  z66 := Try.sizeOf139
  v66 := Try.zeroValue139
  t70 := Try.underlying143
  a70 := Try.isAgg143
  z70 := Try.sizeOf143
  v70 := Try.zeroValue143
  t76 := Try.underlying148
  a76 := Try.isAgg148
  z76 := Try.sizeOf148
  v76 := Try.zeroValue148
  t77 := Try.underlying149
  a77 := Try.isAgg149
  z77 := Try.sizeOf149
  v77 := Try.zeroValue149 }
end Go.Proofs.Ythladblmjoaeoaa
namespace Go.Eng
set_option linter.unusedVariables false
set_option linter.unusedSimpArgs false
open Go Go.RowKit Go.Sort Go.Proofs
section
variable {P : Program} {ρ : Go.Shelf.Ren} {W0 W W' : World} {L L' : List Asn} {e : TypeId} {α : Type} {A : Ly α}
def atF (l : List α) (i : Fin l.length) : α := l[i]
def Ly.ix (A : Ly α) (l : List α) : Ly (Fin l.length) := ⟨A.sz, A.pos, fun i => A.row (atF l i), fun _ => A.len _, fun _ => A.one _⟩
theorem ix_rows (l : List α) (m : List (Fin l.length)) : (A.ix l).rows m = A.rows (m.map (atF l)) := by
  induction m with
  | nil => rfl
  | cons i m ih => rw [Ly.rows_cons, ih, List.map_cons, Ly.rows_cons]; rfl
theorem arr_ix {l : List α} {m : List (Fin l.length)} {a : Option Addr} {c : Nat} : arr (A.ix l) e a c m = arr A e a c (m.map (atF l)) := by
  unfold arr; rw [ix_rows, List.length_map]; rfl
theorem fin_map (l : List α) : ((List.finRange l.length).map (atF l)) = l := by
  apply List.ext_getElem
  · simp
  · intro i h1 h2; simp [atF]
theorem swo_total {α : Type} {lt : α → α → Bool} (hO : SWO lt) (a b : α) : ((!lt b a) || (!lt a b)) = true := by
  cases h1 : lt b a with
  | false => rfl
  | true =>
    cases h2 : lt a b with
    | false => rfl
    | true => have := hO.trans _ _ _ h1 h2; rw [hO.irrefl] at this; cases this
theorem sortIx (L6 : SlLaysF0.n6 P ρ) (aE : ∀ w, (isAgg (ρ.t 24)).run P w = .ok true w) (zE : ∀ w, (Go.sizeOf (ρ.t 24)).run P w = .ok A.sz w) (cf : α → α → Int) {l : List α} (hO : SWO (ltOf fun i j : Fin l.length => cf (atF l i) (atF l j)))
    (hT : ∀ i j : Fin l.length, (ltOf fun i j : Fin l.length => cf (atF l i) (atF l j)) i j = false → (ltOf fun i j : Fin l.length => cf (atF l i) (atF l j)) j i = false → i = j)
    (g : Nat) (cb : List Value) {a : Option Addr} {c : Nat} {k : Value → World → Prop} (eg : ∀ args w, (callFunc g args).run P w = .ok (.enter g args) w)
    (h : St W0 L W) [ho : Own a L A e c l L'] (hc : ∀ x ∈ l, ∀ y ∈ l, ∀ W', St W0 L' W' → callK P g (.agg (A.row x).toArray :: .agg (A.row y).toArray :: cb) (fun v W'' => v = .int .i64 (cf x y) ∧ St W' [] W'') W')
    (hl : l.length < 4611686018427387904) (hk : ∀ m W', m.Perm l → m.Pairwise (fun x y => ¬ cf y x < 0) → St W0 (arr A e a c m :: L') W' → k (.tuple #[]) W') : callK P (ρ.f 6) [.slice a l.length c, .func (.func g) #[] cb.toArray] k W := by
  have h := h.took (a := a)
  by_cases hl0 : l = []
  · subst hl0
    refine (AnyF.slices_SortFunc_none L6 a c (.func (.func g) #[] cb.toArray) W).mono ?_
    rintro ed w' ⟨rfl, rfl⟩
    exact hk [] _ (List.Perm.refl _) List.Pairwise.nil h
  · have hpos : 0 < l.length := List.length_pos_iff.2 hl0
    haveI : Inhabited (Fin l.length) := ⟨⟨0, hpos⟩⟩
    have h2 : St W0 (arr (A.ix l) e a c (List.finRange l.length) :: L') W := by rw [arr_ix, fin_map]; exact h
    have hlen : (List.finRange l.length).length = l.length := List.length_finRange
    have key := sortFX (A := A.ix l) L6 aE zE (fun i j : Fin l.length => cf (atF l i) (atF l j)) hO hT g cb eg h2 (a := a) (c := c) (l := List.finRange l.length) (k := k) (fun i j W' h => hc (atF l i) (List.getElem_mem _) (atF l j) (List.getElem_mem _) W' h) (by rw [hlen]; exact hl) (fun W' h => by
      rw [arr_ix] at h
      refine hk _ W' ?_ ?_ h
      · have := ((List.mergeSort_perm (List.finRange l.length) fun x y => !(ltOf fun i j : Fin l.length => cf (atF l i) (atF l j)) y x).map (atF l))
        rwa [fin_map] at this
      · refine List.pairwise_map.2 ((List.pairwise_mergeSort (fun a b c h1 h2 => ?_) (fun a b => swo_total hO a b) _).imp fun {a b} h => ?_)
        · simp only [Bool.not_eq_true'] at *
          exact hO.ntrans _ _ _ h2 h1
        · simp only [ltOf, Bool.not_eq_true', decide_eq_false_iff_not] at h
          exact h)
    rw [hlen] at key
    exact key
theorem rows_one {enc : α → Value} (hA : ∀ x, A.row x = [enc x]) (l : List α) : A.rows l = l.map enc := by
  induction l with
  | nil => rfl
  | cons a l ih => rw [Ly.rows_cons, ih, hA]; rfl
end
end Go.Eng
namespace Go.Proofs.Ythladblmjoaeoaa
set_option linter.unusedVariables false
set_option linter.unusedSimpArgs false
open Go.Eng
/-! ### cmp.Compare[int] (69) -/
def S.cmp_Compare_int.body (R : Value → World → Prop) (v0 v1 : Value) (W : World) : Prop :=
  callK PR F_cmp_isNaN_int [v0] (fun v8 W =>
  callK PR F_cmp_isNaN_int [v1] (fun v10 W =>
  ifK v8 (
  ifK v10 (
  R (.int .i64 0) W) (
  R (.int .i64 (-1)) W)) (
  ifK v10 (
  R (.int .i64 1) W) (
  okF (binP .lss v0 v1) fun v16 =>
  ifK v16 (
  R (.int .i64 (-1)) W) (
  okF (binP .gtr v0 v1) fun v19 =>
  ifK v19 (
  R (.int .i64 1) W) (
  R (.int .i64 0) W))))) W) W
def S.cmp_Compare_int.hint : Hint := (.two .nil (.two .nil (.two .nil (.two (.two .nil (.two (.two (.two .nil (.two (.two .nil .nil) .nil)) (.two .nil .nil)) .nil)) (.two (.two .nil (.two (.two .nil .nil) .nil)) (.two (.two .nil (.two (.two .nil .nil) .nil)) (.two (.two .nil (.two (.two .nil .nil) .nil)) (.two .nil .nil))))))))
theorem S.cmp_Compare_int.ok (R : Value → World → Prop) (v0 v1 : Value) (W : World) : bodyK PR CB Try.f69 S.cmp_Compare_int.hint [v0, v1] R W = S.cmp_Compare_int.body R v0 v1 W := by kernel_rfl
theorem S.cmp_Compare_int.fn : PR.funcs[F_cmp_Compare_int]? = some Try.f69 := by kernel_rfl
theorem S.cmp_Compare_int.call {R : Value → World → Prop} {v0 v1 : Value} {W : World} (h : S.cmp_Compare_int.body R v0 v1 W) : callK PR F_cmp_Compare_int [v0, v1] R W :=
  callK_of_body (g := F_cmp_Compare_int) (fn := Try.f69) (args := [v0, v1]) (R := R) (w := W) mixed CBok S.cmp_Compare_int.fn S.cmp_Compare_int.hint (by rw [S.cmp_Compare_int.ok]; exact h)
/-! ### cmp.isNaN[int] (80) -/
def S.cmp_isNaN_int.body (R : Value → World → Prop) (v0 : Value) (W : World) : Prop :=
  okF (binP .neq v0 v0) fun v5 =>
  R v5 W
def S.cmp_isNaN_int.hint : Hint := (.two .nil (.two .nil .nil))
theorem S.cmp_isNaN_int.ok (R : Value → World → Prop) (v0 : Value) (W : World) : bodyK PR CB Try.f80 S.cmp_isNaN_int.hint [v0] R W = S.cmp_isNaN_int.body R v0 W := by kernel_rfl
theorem S.cmp_isNaN_int.fn : PR.funcs[F_cmp_isNaN_int]? = some Try.f80 := by kernel_rfl
theorem S.cmp_isNaN_int.call {R : Value → World → Prop} {v0 : Value} {W : World} (h : S.cmp_isNaN_int.body R v0 W) : callK PR F_cmp_isNaN_int [v0] R W :=
  callK_of_body (g := F_cmp_isNaN_int) (fn := Try.f80) (args := [v0]) (R := R) (w := W) mixed CBok S.cmp_isNaN_int.fn S.cmp_isNaN_int.hint (by rw [S.cmp_isNaN_int.ok]; exact h)
end Go.Proofs.Ythladblmjoaeoaa
namespace Go.Proofs.Ythladblmjoaeoaa
set_option linter.unusedVariables false
set_option linter.unusedSimpArgs false
open Go Go.Eng Go.Sort

def cmpI (a b : Int) : Int := if a < b then -1 else if b < a then 1 else 0
instance isNaNi (a : Int) : Pure0 PR F_cmp_isNaN_int [.int .i64 a] (.bool false) := ⟨fun W => by
  apply S.cmp_isNaN_int.call
  unfold S.cmp_isNaN_int.body
  simp -implicitDefEqProofs only [SE, SU, SV]
  exact St.start W⟩
instance cmpi (a b : Int) : Pure0 PR F_cmp_Compare_int [.int .i64 a, .int .i64 b] (.int .i64 (cmpI a b)) := ⟨fun W => by
  apply S.cmp_Compare_int.call
  unfold S.cmp_Compare_int.body
  have h := St.start W
  (first | ((with_reducible first | refine w1 ?_ | refine w3 ?_ | refine w4 ?_ | refine w11 ?_ | refine stb_n ?_); intros) | ((with_reducible first | refine v5 ?_ | refine v6 ?_ | refine v7 ?_ | refine ve ?_ | refine vn ?_); refine ⟨_, rfl, ?_⟩) | ((with_reducible first | refine v8 ?_ ?_ | refine v9 ?_ ?_ | refine v10 ?_ ?_ | refine v12 ?_ ?_); exact rfl; intros) | ((with_reducible refine w2 ?_); try simp -implicitDefEqProofs only [SE, SU, SV]; intros) | ((with_reducible refine w5 ?_ ?_); simp; refine ⟨_, rfl, ?_⟩) | ((with_reducible refine w12 ?_ ?_ ?_ ?_); simp; simp; simp [oneC]; intros) | (refine okF_i (bldP_eq rfl) ?_; try simp only [BLS, SB, Nat.reduceAdd]))
  (first | ((with_reducible first | refine w1 ?_ | refine w3 ?_ | refine w4 ?_ | refine w11 ?_ | refine stb_n ?_); intros) | ((with_reducible first | refine v5 ?_ | refine v6 ?_ | refine v7 ?_ | refine ve ?_ | refine vn ?_); refine ⟨_, rfl, ?_⟩) | ((with_reducible first | refine v8 ?_ ?_ | refine v9 ?_ ?_ | refine v10 ?_ ?_ | refine v12 ?_ ?_); exact rfl; intros) | ((with_reducible refine w2 ?_); try simp -implicitDefEqProofs only [SE, SU, SV]; intros) | ((with_reducible refine w5 ?_ ?_); simp; refine ⟨_, rfl, ?_⟩) | ((with_reducible refine w12 ?_ ?_ ?_ ?_); simp; simp; simp [oneC]; intros) | (refine okF_i (bldP_eq rfl) ?_; try simp only [BLS, SB, Nat.reduceAdd]))
  simp -implicitDefEqProofs only [SE, SU, SV]
  refine ifK_d (fun h1 => ?_) (fun h1 => ifK_d (fun h2 => ?_) (fun h2 => ?_))
  · exact ⟨by simp [cmpI, h1], by assumption⟩
  · exact ⟨by rw [cmpI, if_neg h1, if_pos h2], by assumption⟩
  · exact ⟨by rw [cmpI, if_neg h1, if_neg h2], by assumption⟩⟩
theorem cmpI_lt (a b : Int) : cmpI a b < 0 ↔ a < b := by
  unfold cmpI
  split
  · simp [*]
  · split <;> simp <;> omega
section
variable {W0 W : World} {L L' L1 L2 : List Asn} {q dp : Nat} {d : DS} {k : Value → World → Prop}
theorem walCmp (x y : FC) (W : World) : callK PR F_wal_Log_take_2 [x.v, y.v] (fun v W' => v = .int .i64 (cmpI x.index y.index) ∧ St W [] W') W := by
  apply S.wal_Log_take_2.call
  unfold S.wal_Log_take_2.body
  have h := St.start W
  rw [x.v_eq, y.v_eq]
  (repeat (first | (first | ((with_reducible first | refine w1 ?_ | refine w3 ?_ | refine w4 ?_ | refine w11 ?_ | refine stb_n ?_); intros) | ((with_reducible first | refine v5 ?_ | refine v6 ?_ | refine v7 ?_ | refine ve ?_ | refine vn ?_); refine ⟨_, rfl, ?_⟩) | ((with_reducible first | refine v8 ?_ ?_ | refine v9 ?_ ?_ | refine v10 ?_ ?_ | refine v12 ?_ ?_); exact rfl; intros) | ((with_reducible refine w2 ?_); try simp -implicitDefEqProofs only [SE, SU, SV]; intros) | ((with_reducible refine w5 ?_ ?_); simp; refine ⟨_, rfl, ?_⟩) | ((with_reducible refine w12 ?_ ?_ ?_ ?_); simp; simp; simp [oneC]; intros) | (refine okF_i (bldP_eq rfl) ?_; try simp only [BLS, SB, Nat.reduceAdd])) | simp -implicitDefEqProofs only [SE, SU, SV]))
  (first | exact St.nil (by first | assumption | exact St.tick (by assumption) | exact St.tick (St.tick (by assumption))) | exact ⟨rfl, St.nil (by first | assumption | exact St.tick (by assumption) | exact St.tick (St.tick (by assumption)))⟩)
theorem walWhole (x : FC) (W : World) : callK PR F_wal_Log_take_1 [x.v] (fun v W' => v = .bool (whole x.fx) ∧ St W [] W') W := by
  apply S.wal_Log_take_1.call
  unfold S.wal_Log_take_1.body
  have h := St.start W
  rw [x.v_eq]
  unfold whole FC.fx
  simp only [List.length_map]
  by_cases h1 : x.kind = 0
  · have f1 : decide ((x.kind : Int) = 0) = true := decide_eq_true (by omega)
    by_cases h2 : x.rows.length = 1
    · have f2 : decide ((x.rows.length : Int) = 1) = true := decide_eq_true (by omega)
      (repeat (first | (first | ((with_reducible first | refine w1 ?_ | refine w3 ?_ | refine w4 ?_ | refine w11 ?_ | refine stb_n ?_); intros) | ((with_reducible first | refine v5 ?_ | refine v6 ?_ | refine v7 ?_ | refine ve ?_ | refine vn ?_); refine ⟨_, rfl, ?_⟩) | ((with_reducible first | refine v8 ?_ ?_ | refine v9 ?_ ?_ | refine v10 ?_ ?_ | refine v12 ?_ ?_); exact rfl; intros) | ((with_reducible refine w2 ?_); try simp -implicitDefEqProofs only [SE, SU, SV, f1, f2]; intros) | ((with_reducible refine w5 ?_ ?_); simp; refine ⟨_, rfl, ?_⟩) | ((with_reducible refine w12 ?_ ?_ ?_ ?_); simp; simp; simp [oneC]; intros) | (refine okF_i (bldP_eq rfl) ?_; try simp only [BLS, SB, Nat.reduceAdd])) | simp -implicitDefEqProofs only [SE, SU, SV, f1, f2]))
      exact ⟨by rw [h1, h2]; simp, St.nil (by first | assumption | exact St.tick (by assumption) | exact St.tick (St.tick (by assumption)))⟩
    · have f2 : decide ((x.rows.length : Int) = 1) = false := decide_eq_false (by omega)
      (repeat (first | (first | ((with_reducible first | refine w1 ?_ | refine w3 ?_ | refine w4 ?_ | refine w11 ?_ | refine stb_n ?_); intros) | ((with_reducible first | refine v5 ?_ | refine v6 ?_ | refine v7 ?_ | refine ve ?_ | refine vn ?_); refine ⟨_, rfl, ?_⟩) | ((with_reducible first | refine v8 ?_ ?_ | refine v9 ?_ ?_ | refine v10 ?_ ?_ | refine v12 ?_ ?_); exact rfl; intros) | ((with_reducible refine w2 ?_); try simp -implicitDefEqProofs only [SE, SU, SV, f1, f2]; intros) | ((with_reducible refine w5 ?_ ?_); simp; refine ⟨_, rfl, ?_⟩) | ((with_reducible refine w12 ?_ ?_ ?_ ?_); simp; simp; simp [oneC]; intros) | (refine okF_i (bldP_eq rfl) ?_; try simp only [BLS, SB, Nat.reduceAdd])) | simp -implicitDefEqProofs only [SE, SU, SV, f1, f2]))
      exact ⟨by rw [decide_eq_false h2]; simp, St.nil (by first | assumption | exact St.tick (by assumption) | exact St.tick (St.tick (by assumption)))⟩
  · have f1 : decide ((x.kind : Int) = 0) = false := decide_eq_false (by omega)
    (repeat (first | (first | ((with_reducible first | refine w1 ?_ | refine w3 ?_ | refine w4 ?_ | refine w11 ?_ | refine stb_n ?_); intros) | ((with_reducible first | refine v5 ?_ | refine v6 ?_ | refine v7 ?_ | refine ve ?_ | refine vn ?_); refine ⟨_, rfl, ?_⟩) | ((with_reducible first | refine v8 ?_ ?_ | refine v9 ?_ ?_ | refine v10 ?_ ?_ | refine v12 ?_ ?_); exact rfl; intros) | ((with_reducible refine w2 ?_); try simp -implicitDefEqProofs only [SE, SU, SV, f1]; intros) | ((with_reducible refine w5 ?_ ?_); simp; refine ⟨_, rfl, ?_⟩) | ((with_reducible refine w12 ?_ ?_ ?_ ?_); simp; simp; simp [oneC]; intros) | (refine okF_i (bldP_eq rfl) ?_; try simp only [BLS, SB, Nat.reduceAdd])) | simp -implicitDefEqProofs only [SE, SU, SV, f1]))
    exact ⟨by rw [decide_eq_false h1]; simp, St.nil (by first | assumption | exact St.tick (by assumption) | exact St.tick (St.tick (by assumption)))⟩
theorem many_app {β : Type} {F : β → Asn} (a b : List β) : ent (many F a :: many F b :: L) (many F (a ++ b) :: L) := by
  have h1 := (ent.cons (many F a) (ent.flat (b.map F) L)).trans (ent.flat (a.map F) (b.map F ++ L))
  have h2 := ent.pack (a.map F ++ b.map F) L
  rw [List.append_assoc] at h2
  show ent _ (sep ((a ++ b).map F) :: L)
  rw [List.map_append]
  exact h1.trans h2
/-- the rows of files, all together -/
theorem rowsOut : ∀ (m : List FC) (L : List Asn), entd (many fcc m :: L) (many fch (m.flatMap (·.rows)) :: L)
  | [], L => (entd.drop _ _).trans (many_nil (F := fch)).d
  | x :: m, L => by
    have h1 : entd (many fcc (x :: m) :: L) (arr BSY T_s_uint8 x.ra x.rc x.rows :: many fch x.rows :: many fcc m :: L) := ((many_cons (F := fcc) x m).trans (ent.flat [_, _] _)).d
    have h2 := (h1.trans (entd.drop _ _)).trans ((rowsOut m L).cons (many fch x.rows))
    exact h2.trans (many_app x.rows _).d
theorem rdFcc {x : FC} {xs : List FC} (hx : x ∈ xs) : Rd W0 (many fcc xs :: L) x.ra BSY x.rows ∧ ∀ y ∈ x.rows, Rd W0 (many fcc xs :: L) y.a B8 y.bs := by
  obtain ⟨A, C, rfl⟩ := List.append_of_mem hx
  have h0 : ∀ {W : World}, St W0 (many fcc (A ++ x :: C) :: L) W → St W0 (arr BSY T_s_uint8 x.ra x.rc x.rows :: many fch x.rows :: many fcc (A ++ C) :: L) W := fun h =>
    h.ent (((many_perm (F := fcc) List.perm_middle).trans (many_cons _ _)).trans (ent.flat [_, _] _))
  constructor
  · exact ⟨fun W h => by
      have hr : Rd W0 (arr BSY T_s_uint8 x.ra x.rc x.rows :: many fch x.rows :: many fcc (A ++ C) :: L) x.ra BSY x.rows := inferInstance
      exact hr.ok W (h0 h)⟩
  · exact fun y hy => ⟨fun W h => by
      have hr : Rd W0 (many fch x.rows :: many fcc (A ++ C) :: L) y.a B8 y.bs := rdMany (.inr hy)
      exact hr.ok W (h0 h).drop⟩
theorem lastCur_snoc : ∀ (l : List FX) (f : FX), lastCur (l ++ [f]) = if f.torn then -1 else f.num
  | [], f => rfl
  | [g], f => rfl
  | g :: g' :: l, f => by rw [← lastCur_snoc (g' :: l) f]; rfl
theorem lastCount_snoc : ∀ (l : List FX) (f : FX), lastCount (l ++ [f]) = f.recs.length
  | [], f => rfl
  | [g], f => rfl
  | g :: g' :: l, f => by rw [← lastCount_snoc (g' :: l) f]; rfl
set_option maxRecDepth 20000 in
theorem filSort {a : Option Addr} {c : Nat} {l : List FC} (h : St W0 L W) [ho : Own a L FCL T_wal_file c l L'] (hl : l.length < 1000000) (hn : (l.map (·.index)).Nodup)
    (hk : ∀ m W', m.Perm l → (m.Pairwise fun x y => x.index ≤ y.index) → St W0 (arr FCL T_wal_file a c m :: L') W' → k (.tuple #[]) W') : callK PR F_slices_SortFunc_wal_file_wal_file [.slice a l.length c, .func (.func F_wal_Log_take_2) #[] #[]] k W := by
  obtain ⟨d, i, h1, h2, h3, h4⟩ := (inferInstance : TyI PR T_wal_file true 6).ok
  refine sortIx (P := PR) (A := FCL) (ρ := laySortFile_ren) laySortFile (fun w => ?_) (fun w => ?_) (fun x y => cmpI x.index y.index) (l := l) ⟨fun x => ?_, fun x y z g1 g2 => ?_, fun x y z g1 g2 => ?_⟩ (fun i j g1 g2 => ?_) F_wal_Log_take_2 [] (fun args w => callFunc_ok (CBok _ (by kernel_rfl)) w) h (fun x _ y _ W' _ => walCmp x y W') (by omega) fun m W' hp hs h => hk m W' hp (hs.imp fun {x y} h => by rw [cmpI_lt] at h; omega) h
  · have := run_isAgg' (P := PR) (w := w) h1
    rw [h2] at this
    exact this
  · have := run_sizeOf' (P := PR) (w := w) h3
    rw [h4] at this
    exact this
  · unfold Proofs.ltOf; rw [decide_eq_false_iff_not, cmpI_lt]; omega
  · unfold Proofs.ltOf at *; rw [decide_eq_true_eq, cmpI_lt] at *; omega
  · unfold Proofs.ltOf at *; rw [decide_eq_false_iff_not, cmpI_lt] at *; omega
  · unfold Proofs.ltOf at g1 g2
    rw [decide_eq_false_iff_not, cmpI_lt] at g1 g2
    have h3 := List.getElem_inj (h₀ := by simp) (h₁ := by simp) (i := i.1) (j := j.1) hn
    have g1' : ¬ ((l[i.1].index : Int) < l[j.1].index) := g1
    have g2' : ¬ ((l[j.1].index : Int) < l[i.1].index) := g2
    exact Fin.ext (h3.1 (by rw [List.getElem_map, List.getElem_map]; omega))
theorem walTakeJ2 {tu : Nat} {part lives : Int} {bb : BSl} {nums : List Int} {na pa : Option Addr} {nc pc : Nat} {ps xs : List FC} {P : List PT}
    (hps : (ps.map FC.fx).Perm (pfx tu 0 P)) (hsub : ∀ x ∈ ps, x ∈ xs) (hP : P.length ≤ 1000) (hrl : (recsOf P).length < 500000)
    (h : St W0 (cells q [.pointer (some ⟨dp, 0, none⟩), .int .i64 part, .int .i64 lives, .int .u64 (tu : Int), .slice na nums.length nc, .int .i64 (-1), .int .i64 0, .int .i64 0, .slice none 0 0, .slice bb.a bb.bs.length bb.c, .slice none 0 0, .bool false] T_wal_Log ::
      arr FCL T_wal_file pa pc ps :: many fcc xs :: L) W)
    (hk : ∀ (m : List FC) ra rc W', m.Perm ps → m.map FC.fx = pfx tu 0 P → St W0 (cells q [.pointer (some ⟨dp, 0, none⟩), .int .i64 part, .int .i64 lives, .int .u64 (tu : Int), .slice na nums.length nc, .int .i64 (lastCur (pfx tu 0 P)), .int .i64 (lastCount (pfx tu 0 P)), .int .i64 (P.length : Int), .slice none 0 0, .slice bb.a bb.bs.length bb.c, .slice ra (m.flatMap (·.rows)).length rc, .bool false] T_wal_Log ::
      arr BSY T_s_uint8 ra rc (m.flatMap (·.rows)) :: many fcc xs :: L) W' → k (.int .i64 0) W') :
    S.wal_Log_take.j2 k (.pointer (some ⟨q, 0, none⟩)) (.slice pa ps.length pc) W := by
  unfold S.wal_Log_take.j2
  have hlen : ps.length = P.length := by have := hps.length_eq; rwa [List.length_map, pfx_len] at this
  have hnd : (ps.map (·.index)).Nodup := by
    have h1 := pfx_sorted tu P 0
    have h2 : ((pfx tu 0 P).map (·.index)).Nodup := List.pairwise_map.2 (h1.imp fun h => Nat.ne_of_lt h)
    have h3 := (hps.map (·.index)).nodup_iff.2 h2
    rw [List.map_map] at h3
    exact h3
  have h := h.ent (ent.swap _ _ _)
  refine filSort (a := pa) (l := ps) h (by omega) hnd fun m W1 hm hso h => ?_
  have hmx : m.map FC.fx = pfx tu 0 P := sorted_uniq ((hm.map _).trans hps) (List.pairwise_map.2 hso) (pfx_sorted tu P 0)
  have hmlen : m.length = P.length := by rw [hm.length_eq, hlen]
  rw [← hm.length_eq]
  have hfl : (m.flatMap (·.rows)).length = (recsOf P).length := by
    have e1 : (m.flatMap fun x => x.rows).map (·.bs) = recsOf P := by
      rw [List.map_flatMap, ← pfx_recs tu P 0, ← hmx, List.flatMap_map]; rfl
    rw [← e1, List.length_map]
  (repeat (first | (first | ((with_reducible first | refine w1 ?_ | refine w3 ?_ | refine w4 ?_ | refine w11 ?_ | refine stb_n ?_); intros) | ((with_reducible first | refine v5 ?_ | refine v6 ?_ | refine v7 ?_ | refine ve ?_ | refine vn ?_); refine ⟨_, rfl, ?_⟩) | ((with_reducible first | refine v8 ?_ ?_ | refine v9 ?_ ?_ | refine v10 ?_ ?_ | refine v12 ?_ ?_); exact rfl; intros) | ((with_reducible refine w2 ?_); try simp -implicitDefEqProofs only [SE, SU, SV]; intros) | ((with_reducible refine w5 ?_ ?_); simp; refine ⟨_, rfl, ?_⟩) | ((with_reducible refine w12 ?_ ?_ ?_ ?_); simp; simp; simp [oneC]; intros) | (refine okF_i (bldP_eq rfl) ?_; try simp only [BLS, SB, Nat.reduceAdd])) | simp -implicitDefEqProofs only [SE, SU, SV]))
  refine loop_c (σ := Option Addr × Nat) m.length (fun i _ => [.pointer (some ⟨q, 0, none⟩), .slice pa m.length pc, .int .i64 (m.length : Int), .int .i64 (i : Int)])
    (fun i x W1 => St W0 (cells q [.pointer (some ⟨dp, 0, none⟩), .int .i64 part, .int .i64 lives, .int .u64 (tu : Int), .slice na nums.length nc, .int .i64 (lastCur ((m.take i).map FC.fx)), .int .i64 (lastCount ((m.take i).map FC.fx)), .int .i64 (i : Int), .slice none 0 0, .slice bb.a bb.bs.length bb.c, .slice x.1 ((m.take i).flatMap (·.rows)).length x.2, .bool false] T_wal_Log ::
      arr BSY T_s_uint8 x.1 x.2 ((m.take i).flatMap (·.rows)) :: arr FCL T_wal_file pa pc m :: many fcc xs :: L) W1) (none, 0) rfl (St.ent (by first | assumption | exact St.tick (by assumption) | exact St.tick (St.tick (by assumption))) ((ent.swap _ _ _).trans (ent.cons _ (arr_nil BSY T_s_uint8)))) ?_
  clear h
  rintro K i ⟨ra, rc⟩ W2 hi h hK
  simp only at h
  simp -implicitDefEqProofs only [SE, SU, SV]
  unfold S.wal_Log_take.l1
  by_cases hlt : (i : Int) < (m.length : Int)
  · have hib : i < m.length := by omega
    have ew : IntKind.i64.wrap ((i : Int) + 1) = ((i + 1 : Nat) : Int) := by rw [i64w]; omega
    have hix : m[i].index = i := by
      have := pfx_at tu P 0 i (FC.fx m[i]) (by rw [← hmx]; simp [hib])
      have e : (FC.fx m[i]).index = m[i].index := rfl
      omega
    have hmem : m[i] ∈ xs := hsub _ (hm.subset (List.getElem_mem hib))
    have e1 : (m.take (i + 1)).flatMap (fun x : FC => x.rows) = (m.take i).flatMap (fun x : FC => x.rows) ++ m[i].rows := by rw [take_snoc hib, List.flatMap_append]; simp
    have e2 : (m.take (i + 1)).map FC.fx = (m.take i).map FC.fx ++ [m[i].fx] := by rw [take_snoc hib, List.map_append]; rfl
    have e3 : ((m.take i).flatMap (fun x : FC => x.rows)).length + m[i].rows.length < 500000 := by
      have : (m.take (i + 1)).flatMap (fun x : FC => x.rows) ++ (m.drop (i + 1)).flatMap (fun x : FC => x.rows) = m.flatMap (fun x : FC => x.rows) := by rw [← List.flatMap_append, List.take_append_drop]
      have := congrArg List.length this
      rw [List.length_append, e1, List.length_append, hfl] at this
      omega
    simp only [e1, e2, lastCur_snoc, lastCount_snoc] at hK
    (repeat (first | (first | ((with_reducible first | refine w1 ?_ | refine w3 ?_ | refine w4 ?_ | refine w11 ?_ | refine stb_n ?_); intros) | ((with_reducible first | refine v5 ?_ | refine v6 ?_ | refine v7 ?_ | refine ve ?_ | refine vn ?_); refine ⟨_, rfl, ?_⟩) | ((with_reducible first | refine v8 ?_ ?_ | refine v9 ?_ ?_ | refine v10 ?_ ?_ | refine v12 ?_ ?_); exact rfl; intros) | ((with_reducible refine w2 ?_); try simp -implicitDefEqProofs only [SE, SU, SV, hlt]; intros) | ((with_reducible refine w5 ?_ ?_); simp; refine ⟨_, rfl, ?_⟩) | ((with_reducible refine w12 ?_ ?_ ?_ ?_); simp; simp; simp [oneC]; intros) | (refine okF_i (bldP_eq rfl) ?_; try simp only [BLS, SB, Nat.reduceAdd])) | simp -implicitDefEqProofs only [SE, SU, SV, hlt]))
    refine joinK_i ?_
    refine ixA (i := i) (a := pa) (l := m) (A := FCL) h rfl rfl hib fun g o ha => ?_
    cases ha
    refine ldA0 (i := i) (l := m) (A := FCL) h rfl hib (v := m[i].v) rfl (by simp) ?_
    have ex : m[i].fx.torn = m[i].torn ∧ m[i].fx.num = m[i].num ∧ m[i].fx.recs.length = m[i].rows.length := ⟨rfl, rfl, by simp [FC.fx]⟩
    rw [ex.1, ex.2.1, ex.2.2] at hK
    generalize m[i] = x at *
    rw [x.v_eq]
    have f1 : decide ((x.index : Int) = (i : Int)) = true := decide_eq_true (by omega)
    haveI hrd := (rdFcc (W0 := W0) (L := L) hmem).1
    (repeat (first | (first | ((with_reducible first | refine w1 ?_ | refine w3 ?_ | refine w4 ?_ | refine w11 ?_ | refine stb_n ?_); intros) | ((with_reducible first | refine v5 ?_ | refine v6 ?_ | refine v7 ?_ | refine ve ?_ | refine vn ?_); refine ⟨_, rfl, ?_⟩) | ((with_reducible first | refine v8 ?_ ?_ | refine v9 ?_ ?_ | refine v10 ?_ ?_ | refine v12 ?_ ?_); exact rfl; intros) | ((with_reducible refine w2 ?_); try simp -implicitDefEqProofs only [SE, SU, SV, f1]; intros) | ((with_reducible refine w5 ?_ ?_); simp; refine ⟨_, rfl, ?_⟩) | ((with_reducible refine w12 ?_ ?_ ?_ ?_); simp; simp; simp [oneC]; intros) | (refine okF_i (bldP_eq rfl) ?_; try simp only [BLS, SB, Nat.reduceAdd])) | simp -implicitDefEqProofs only [SE, SU, SV, f1]))
    refine appA (A := BSY) (a := ra) (l := (m.take i).flatMap fun x : FC => x.rows) (m := x.rows) (by first | assumption | exact St.tick (by assumption) | exact St.tick (St.tick (by assumption))) rfl (by omega) (by simp only [maxLen]; omega) fun a4 c4 W6 h => ?_
    unfold S.wal_Log_take.j3
    (repeat (first | (first | ((with_reducible first | refine w1 ?_ | refine w3 ?_ | refine w4 ?_ | refine w11 ?_ | refine stb_n ?_); intros) | ((with_reducible first | refine v5 ?_ | refine v6 ?_ | refine v7 ?_ | refine ve ?_ | refine vn ?_); refine ⟨_, rfl, ?_⟩) | ((with_reducible first | refine v8 ?_ ?_ | refine v9 ?_ ?_ | refine v10 ?_ ?_ | refine v12 ?_ ?_); exact rfl; intros) | ((with_reducible refine w2 ?_); try simp -implicitDefEqProofs only [SE, SU, SV, ew]; intros) | ((with_reducible refine w5 ?_ ?_); simp; refine ⟨_, rfl, ?_⟩) | ((with_reducible refine w12 ?_ ?_ ?_ ?_); simp; simp; simp [oneC]; intros) | (refine okF_i (bldP_eq rfl) ?_; try simp only [BLS, SB, Nat.reduceAdd])) | simp -implicitDefEqProofs only [SE, SU, SV, ew]))
    rename_i h
    (try simp only [BLS, SB, stL_a, stL_b, stL_c, List.append_nil, List.take_nil, List.drop_nil, Nat.reduceAdd] at h)
    (repeat (first | (first | ((with_reducible first | refine w1 ?_ | refine w3 ?_ | refine w4 ?_ | refine w11 ?_ | refine stb_n ?_); intros) | ((with_reducible first | refine v5 ?_ | refine v6 ?_ | refine v7 ?_ | refine ve ?_ | refine vn ?_); refine ⟨_, rfl, ?_⟩) | ((with_reducible first | refine v8 ?_ ?_ | refine v9 ?_ ?_ | refine v10 ?_ ?_ | refine v12 ?_ ?_); exact rfl; intros) | ((with_reducible refine w2 ?_); try simp -implicitDefEqProofs only [SE, SU, SV]; intros) | ((with_reducible refine w5 ?_ ?_); simp; refine ⟨_, rfl, ?_⟩) | ((with_reducible refine w12 ?_ ?_ ?_ ?_); simp; simp; simp [oneC]; intros) | (refine okF_i (bldP_eq rfl) ?_; try simp only [BLS, SB, Nat.reduceAdd])) | simp -implicitDefEqProofs only [SE, SU, SV]))
    rename_i h
    (try simp only [BLS, SB, stL_a, stL_b, stL_c, List.append_nil, List.take_nil, List.drop_nil, Nat.reduceAdd] at h)
    cases ht : x.torn with
    | true =>
      rw [ht, if_pos rfl] at hK
      (repeat (first | (first | ((with_reducible first | refine w1 ?_ | refine w3 ?_ | refine w4 ?_ | refine w11 ?_ | refine stb_n ?_); intros) | ((with_reducible first | refine v5 ?_ | refine v6 ?_ | refine v7 ?_ | refine ve ?_ | refine vn ?_); refine ⟨_, rfl, ?_⟩) | ((with_reducible first | refine v8 ?_ ?_ | refine v9 ?_ ?_ | refine v10 ?_ ?_ | refine v12 ?_ ?_); exact rfl; intros) | ((with_reducible refine w2 ?_); try simp -implicitDefEqProofs only [SE, SU, SV, ew]; intros) | ((with_reducible refine w5 ?_ ?_); simp; refine ⟨_, rfl, ?_⟩) | ((with_reducible refine w12 ?_ ?_ ?_ ?_); simp; simp; simp [oneC]; intros) | (refine okF_i (bldP_eq rfl) ?_; try simp only [BLS, SB, Nat.reduceAdd])) | simp -implicitDefEqProofs only [SE, SU, SV, ew]))
      rename_i h
      (try simp only [BLS, SB, stL_a, stL_b, stL_c, List.append_nil, List.take_nil, List.drop_nil, Nat.reduceAdd] at h)
      exact hK (a4, c4) _ hib (St.wk h)
    | false =>
      rw [ht, if_neg Bool.false_ne_true] at hK
      (repeat (first | (first | ((with_reducible first | refine w1 ?_ | refine w3 ?_ | refine w4 ?_ | refine w11 ?_ | refine stb_n ?_); intros) | ((with_reducible first | refine v5 ?_ | refine v6 ?_ | refine v7 ?_ | refine ve ?_ | refine vn ?_); refine ⟨_, rfl, ?_⟩) | ((with_reducible first | refine v8 ?_ ?_ | refine v9 ?_ ?_ | refine v10 ?_ ?_ | refine v12 ?_ ?_); exact rfl; intros) | ((with_reducible refine w2 ?_); try simp -implicitDefEqProofs only [SE, SU, SV, ew]; intros) | ((with_reducible refine w5 ?_ ?_); simp; refine ⟨_, rfl, ?_⟩) | ((with_reducible refine w12 ?_ ?_ ?_ ?_); simp; simp; simp [oneC]; intros) | (refine okF_i (bldP_eq rfl) ?_; try simp only [BLS, SB, Nat.reduceAdd])) | simp -implicitDefEqProofs only [SE, SU, SV, ew]))
      exact hK (a4, c4) _ hib (St.wk h)
  · have ei : m.take i = m := List.take_of_length_le (by omega)
    rw [ei, hmx] at h
    have him : (i : Int) = (P.length : Int) := by omega
    rw [him] at h
    (repeat (first | (first | ((with_reducible first | refine w1 ?_ | refine w3 ?_ | refine w4 ?_ | refine w11 ?_ | refine stb_n ?_); intros) | ((with_reducible first | refine v5 ?_ | refine v6 ?_ | refine v7 ?_ | refine ve ?_ | refine vn ?_); refine ⟨_, rfl, ?_⟩) | ((with_reducible first | refine v8 ?_ ?_ | refine v9 ?_ ?_ | refine v10 ?_ ?_ | refine v12 ?_ ?_); exact rfl; intros) | ((with_reducible refine w2 ?_); try simp -implicitDefEqProofs only [SE, SU, SV, hlt]; intros) | ((with_reducible refine w5 ?_ ?_); simp; refine ⟨_, rfl, ?_⟩) | ((with_reducible refine w12 ?_ ?_ ?_ ?_); simp; simp; simp [oneC]; intros) | (refine okF_i (bldP_eq rfl) ?_; try simp only [BLS, SB, Nat.reduceAdd])) | simp -implicitDefEqProofs only [SE, SU, SV, hlt]))
    exact hk m ra rc _ hm hmx (St.wk h)
/-- the first loop's state: the base, when it was met -/
def Inv1 (t : Nat) (l : List FC) (tu : Nat) (bb : BSl) : Prop := (tu = 0 ∧ bb = ⟨none, 0, []⟩ ∧ ∀ x ∈ l, x.kind ≠ 0) ∨ (tu = t ∧ t ≠ 0 ∧ ∃ x ∈ l, x.kind = 0 ∧ x.rows = [bb])
theorem bfx_mem {t : Nat} {bn : Int} {base : Bs} {f : FX} (h : f ∈ bfx t bn base) : t ≠ 0 ∧ f = ⟨bn, 0, t, 0, [base], false⟩ := by
  unfold bfx at h
  split at h
  · cases h
  · exact ⟨by assumption, List.mem_singleton.1 h⟩
theorem all_kinds {xs : List FC} {t : Nat} {bn : Int} {base : Bs} {P : List PT} (hall : (xs.map FC.fx).Perm (bfx t bn base ++ pfx t 0 P)) : ∀ x ∈ xs, x.turn = t ∧ ((x.kind = 0 ∧ t ≠ 0 ∧ whole x.fx = true ∧ bsOf x.rows = [base]) ∨ (x.kind = 1 ∧ whole x.fx = false)) := by
  intro x hx
  rcases List.mem_append.1 (hall.subset (List.mem_map_of_mem hx)) with h | h
  · obtain ⟨h1, h2⟩ := bfx_mem h
    have e1 := congrArg FX.kind h2
    have e2 := congrArg FX.turn h2
    have e3 := congrArg FX.recs h2
    exact ⟨e2, .inl ⟨e1, h1, by rw [h2]; rfl, e3⟩⟩
  · obtain ⟨h1, h2, _⟩ := pfx_mem h
    refine ⟨h1, .inr ⟨h2, ?_⟩⟩
    unfold whole
    rw [show x.fx.kind = 1 from h2]; rfl
set_option maxHeartbeats 2000000 in
theorem walTake {part lives : Int} {aa : Option Addr} {ac : Nat} {xs : List FC} {t : Nat} {bn : Int} {P : List PT} {base : Bs}
    (hall : (xs.map FC.fx).Perm (bfx t bn base ++ pfx t 0 P)) (hb0 : t = 0 → base = []) (htb : t < 2 ^ 62) (hP : P.length ≤ 1000) (hxl : xs.length ≤ 1001) (hrl : (recsOf P).length < 500000) (hw : d.ws = [])
    (h : St W0 (cells q [.pointer (some ⟨dp, 0, none⟩), .int .i64 part, .int .i64 lives, .int .u64 0, .slice none 0 0, .int .i64 (-1), .int .i64 0, .int .i64 0, .slice none 0 0, .slice none 0 0, .slice none 0 0, .bool false] T_wal_Log ::
      arr FCL T_wal_file aa ac xs :: many fcc xs :: dk dp d :: L) W)
    (hk : ∀ W', St W0 (lg q dp (openL part lives t base ((xs.map FC.fx).map fun f => f.num) (pfx t 0 P)) :: dk dp d :: L) W' → k (.int .i64 0) W') :
    callK PR F_wal_Log_take [.pointer (some ⟨q, 0, none⟩), .slice aa xs.length ac] k W := by
  have hkinds := all_kinds hall
  apply S.wal_Log_take.call
  unfold S.wal_Log_take.body
  refine joinK_i ?_
  simp -implicitDefEqProofs only [SE, SU, SV]
  refine loop_c (σ := Nat × BSl) xs.length (fun i _ => [.pointer (some ⟨q, 0, none⟩), .slice aa xs.length ac, .func (.func F_wal_Log_take_1) #[] #[], .slice aa xs.length ac, .int .i64 (xs.length : Int), .int .i64 (i : Int)])
    (fun i s W1 => Inv1 t (xs.take i) s.1 s.2 ∧ St W0 (cells q [.pointer (some ⟨dp, 0, none⟩), .int .i64 part, .int .i64 lives, .int .u64 (s.1 : Int), .slice none 0 0, .int .i64 (-1), .int .i64 0, .int .i64 0, .slice none 0 0, .slice s.2.a s.2.bs.length s.2.c, .slice none 0 0, .bool false] T_wal_Log ::
      arr FCL T_wal_file aa ac xs :: many fcc xs :: dk dp d :: L) W1) (0, ⟨none, 0, []⟩) rfl ⟨.inl ⟨rfl, rfl, fun x hx => (by simp at hx)⟩, h⟩ ?_
  clear h
  rintro K i ⟨tu, bb⟩ W2 hi ⟨hinv, h⟩ hK
  simp only at hinv h
  simp -implicitDefEqProofs only [SE, SU, SV]
  unfold S.wal_Log_take.l3
  by_cases hlt : (i : Int) < (xs.length : Int)
  · have hib : i < xs.length := by omega
    have ew : IntKind.i64.wrap ((i : Int) + 1) = ((i + 1 : Nat) : Int) := by rw [i64w]; omega
    have hmem := List.getElem_mem hib
    obtain ⟨k1, k2⟩ := hkinds _ hmem
    have e1 : xs.take (i + 1) = xs.take i ++ [xs[i]] := take_snoc hib
    rw [e1] at hK
    (repeat (first | (first | ((with_reducible first | refine w1 ?_ | refine w3 ?_ | refine w4 ?_ | refine w11 ?_ | refine stb_n ?_); intros) | ((with_reducible first | refine v5 ?_ | refine v6 ?_ | refine v7 ?_ | refine ve ?_ | refine vn ?_); refine ⟨_, rfl, ?_⟩) | ((with_reducible first | refine v8 ?_ ?_ | refine v9 ?_ ?_ | refine v10 ?_ ?_ | refine v12 ?_ ?_); exact rfl; intros) | ((with_reducible refine w2 ?_); try simp -implicitDefEqProofs only [SE, SU, SV, hlt]; intros) | ((with_reducible refine w5 ?_ ?_); simp; refine ⟨_, rfl, ?_⟩) | ((with_reducible refine w12 ?_ ?_ ?_ ?_); simp; simp; simp [oneC]; intros) | (refine okF_i (bldP_eq rfl) ?_; try simp only [BLS, SB, Nat.reduceAdd])) | simp -implicitDefEqProofs only [SE, SU, SV, hlt]))
    refine joinK_i ?_
    refine ixA (i := i) (a := aa) (l := xs) (A := FCL) h rfl rfl hib fun g o ha => ?_
    cases ha
    refine ldA0 (i := i) (l := xs) (A := FCL) h rfl hib (v := xs[i].v) rfl (by simp) ?_
    generalize xs[i] = x at *
    rw [x.v_eq]
    (repeat (first | (first | ((with_reducible first | refine w1 ?_ | refine w3 ?_ | refine w4 ?_ | refine w11 ?_ | refine stb_n ?_); intros) | ((with_reducible first | refine v5 ?_ | refine v6 ?_ | refine v7 ?_ | refine ve ?_ | refine vn ?_); refine ⟨_, rfl, ?_⟩) | ((with_reducible first | refine v8 ?_ ?_ | refine v9 ?_ ?_ | refine v10 ?_ ?_ | refine v12 ?_ ?_); exact rfl; intros) | ((with_reducible refine w2 ?_); try simp -implicitDefEqProofs only [SE, SU, SV]; intros) | ((with_reducible refine w5 ?_ ?_); simp; refine ⟨_, rfl, ?_⟩) | ((with_reducible refine w12 ?_ ?_ ?_ ?_); simp; simp; simp [oneC]; intros) | (refine okF_i (bldP_eq rfl) ?_; try simp only [BLS, SB, Nat.reduceAdd])) | simp -implicitDefEqProofs only [SE, SU, SV]))
    rename_i pb _ _ W3 h
    (try simp only [BLS, SB, stL_a, stL_b, stL_c, List.append_nil, List.take_nil, List.drop_nil, Nat.reduceAdd] at h)
    refine ⟨CBok _ (by kernel_rfl), callK_mono (walWhole x _) ?_⟩
    rintro v W4 ⟨rfl, h4⟩
    have h := h.tick.over0 h4
    rcases k2 with ⟨k3, k4, k5, k6⟩ | ⟨k3, k5⟩
    · rw [k5]
      have hrows : ∃ y, x.rows = [y] ∧ y.bs = base := by
        cases hr : x.rows with
        | nil => rw [hr] at k6; simp at k6
        | cons y l =>
          rw [hr] at k6
          simp only [bsOf, List.map_cons, List.cons.injEq, List.map_eq_nil_iff] at k6
          exact ⟨y, by rw [k6.2], k6.1⟩
      obtain ⟨y, hy, hyb⟩ := hrows
      by_cases hgt : tu < x.turn
      · have f1 : decide ((tu : Int) < (x.turn : Int)) = true := decide_eq_true (by omega)
        (repeat (first | (first | ((with_reducible first | refine w1 ?_ | refine w3 ?_ | refine w4 ?_ | refine w11 ?_ | refine stb_n ?_); intros) | ((with_reducible first | refine v5 ?_ | refine v6 ?_ | refine v7 ?_ | refine ve ?_ | refine vn ?_); refine ⟨_, rfl, ?_⟩) | ((with_reducible first | refine v8 ?_ ?_ | refine v9 ?_ ?_ | refine v10 ?_ ?_ | refine v12 ?_ ?_); exact rfl; intros) | ((with_reducible refine w2 ?_); try simp -implicitDefEqProofs only [SE, SU, SV, f1]; intros) | ((with_reducible refine w5 ?_ ?_); simp; refine ⟨_, rfl, ?_⟩) | ((with_reducible refine w12 ?_ ?_ ?_ ?_); simp; simp; simp [oneC]; intros) | (refine okF_i (bldP_eq rfl) ?_; try simp only [BLS, SB, Nat.reduceAdd])) | simp -implicitDefEqProofs only [SE, SU, SV, f1]))
        haveI hrd := (rdFcc (W0 := W0) (L := dk dp d :: L) hmem).1
        rw [hy] at hrd ⊢
        refine ixA (i := 0) (a := x.ra) (l := [y]) (A := BSY) h rfl rfl (by simp) fun g2 o2 ha2 => ?_
        refine ldA0 (i := 0) (l := [y]) (A := BSY) (hr := ha2 ▸ inferInstance) (St.tick h) rfl (by simp) (v := y.v) rfl (by simp) ?_
        unfold S.wal_Log_take.j6
        (repeat (first | (first | ((with_reducible first | refine w1 ?_ | refine w3 ?_ | refine w4 ?_ | refine w11 ?_ | refine stb_n ?_); intros) | ((with_reducible first | refine v5 ?_ | refine v6 ?_ | refine v7 ?_ | refine ve ?_ | refine vn ?_); refine ⟨_, rfl, ?_⟩) | ((with_reducible first | refine v8 ?_ ?_ | refine v9 ?_ ?_ | refine v10 ?_ ?_ | refine v12 ?_ ?_); exact rfl; intros) | ((with_reducible refine w2 ?_); try simp -implicitDefEqProofs only [SE, SU, SV, ew]; intros) | ((with_reducible refine w5 ?_ ?_); simp; refine ⟨_, rfl, ?_⟩) | ((with_reducible refine w12 ?_ ?_ ?_ ?_); simp; simp; simp [oneC]; intros) | (refine okF_i (bldP_eq rfl) ?_; try simp only [BLS, SB, Nat.reduceAdd])) | simp -implicitDefEqProofs only [SE, SU, SV, ew]))
        rename_i h
        (try simp only [BLS, SB, stL_a, stL_b, stL_c, List.append_nil, List.take_nil, List.drop_nil, Nat.reduceAdd] at h)
        refine hK (x.turn, y) _ hib ⟨.inr ⟨k1, k4, x, by simp, k3, hy⟩, St.wk h⟩
      · have f1 : decide ((tu : Int) < (x.turn : Int)) = false := decide_eq_false (by omega)
        unfold S.wal_Log_take.j6
        (repeat (first | (first | ((with_reducible first | refine w1 ?_ | refine w3 ?_ | refine w4 ?_ | refine w11 ?_ | refine stb_n ?_); intros) | ((with_reducible first | refine v5 ?_ | refine v6 ?_ | refine v7 ?_ | refine ve ?_ | refine vn ?_); refine ⟨_, rfl, ?_⟩) | ((with_reducible first | refine v8 ?_ ?_ | refine v9 ?_ ?_ | refine v10 ?_ ?_ | refine v12 ?_ ?_); exact rfl; intros) | ((with_reducible refine w2 ?_); try simp -implicitDefEqProofs only [SE, SU, SV, f1, ew]; intros) | ((with_reducible refine w5 ?_ ?_); simp; refine ⟨_, rfl, ?_⟩) | ((with_reducible refine w12 ?_ ?_ ?_ ?_); simp; simp; simp [oneC]; intros) | (refine okF_i (bldP_eq rfl) ?_; try simp only [BLS, SB, Nat.reduceAdd])) | simp -implicitDefEqProofs only [SE, SU, SV, f1, ew]))
        refine hK (tu, bb) _ hib ⟨?_, St.wk (by first | assumption | exact St.tick (by assumption) | exact St.tick (St.tick (by assumption)))⟩
        rcases hinv with ⟨g1, g2, g3⟩ | ⟨g1, g2, y2, g3, g4⟩
        · omega
        · exact .inr ⟨g1, g2, y2, by simp [g3], g4⟩
    · rw [k5]
      unfold S.wal_Log_take.j6
      (repeat (first | (first | ((with_reducible first | refine w1 ?_ | refine w3 ?_ | refine w4 ?_ | refine w11 ?_ | refine stb_n ?_); intros) | ((with_reducible first | refine v5 ?_ | refine v6 ?_ | refine v7 ?_ | refine ve ?_ | refine vn ?_); refine ⟨_, rfl, ?_⟩) | ((with_reducible first | refine v8 ?_ ?_ | refine v9 ?_ ?_ | refine v10 ?_ ?_ | refine v12 ?_ ?_); exact rfl; intros) | ((with_reducible refine w2 ?_); try simp -implicitDefEqProofs only [SE, SU, SV, ew]; intros) | ((with_reducible refine w5 ?_ ?_); simp; refine ⟨_, rfl, ?_⟩) | ((with_reducible refine w12 ?_ ?_ ?_ ?_); simp; simp; simp [oneC]; intros) | (refine okF_i (bldP_eq rfl) ?_; try simp only [BLS, SB, Nat.reduceAdd])) | simp -implicitDefEqProofs only [SE, SU, SV, ew]))
      refine hK (tu, bb) _ hib ⟨?_, St.wk (by first | assumption | exact St.tick (by assumption) | exact St.tick (St.tick (by assumption)))⟩
      rcases hinv with ⟨g1, g2, g3⟩ | ⟨g1, g2, y2, g3, g4⟩
      · refine .inl ⟨g1, g2, fun z hz => ?_⟩
        rcases List.mem_append.1 hz with hz | hz
        · exact g3 z hz
        · rw [List.mem_singleton.1 hz, k3]; decide
      · exact .inr ⟨g1, g2, y2, by simp [g3], g4⟩
  rw [List.take_of_length_le (by omega)] at hinv
  have hps1 : ((xs.filter fun x => decide (x.kind = 1)).map FC.fx).Perm (pfx t 0 P) := by
    have h1 := hall.filter (fun f => decide (f.kind = 1))
    rw [List.filter_map, List.filter_append] at h1
    have e1 : (bfx t bn base).filter (fun f => decide (f.kind = 1)) = [] := List.filter_eq_nil_iff.2 fun f hf => by rw [(bfx_mem hf).2]; simp
    have e2 : (pfx t 0 P).filter (fun f => decide (f.kind = 1)) = pfx t 0 P := List.filter_eq_self.2 fun f hf => by simp [(pfx_mem hf).2.1]
    rw [e1, e2] at h1
    exact h1
  have hno : (xs.filter fun x => !decide (x.kind = 1)).length ≤ 1 := by
    have h1 := (hall.filter (fun f => !decide (f.kind = 1))).length_eq
    rw [List.filter_map, List.length_map, List.filter_append, List.length_append] at h1
    have e2 : (pfx t 0 P).filter (fun f => !decide (f.kind = 1)) = [] := List.filter_eq_nil_iff.2 fun f hf => by simp [(pfx_mem hf).2.1]
    have e3 : (bfx t bn base).length ≤ 1 := by unfold bfx; split <;> simp
    have e4 := List.length_filter_le (fun f : FX => !decide (f.kind = 1)) (bfx t bn base)
    rw [e2, List.length_nil] at h1
    have e5 : (xs.filter fun x => !decide (x.kind = 1)).length = (xs.filter ((fun f : FX => !decide (f.kind = 1)) ∘ FC.fx)).length := rfl
    omega
  have hbase : tu = t ∧ bb.bs = base ∧ ((bb = ⟨none, 0, []⟩ ∧ xs.Perm (xs.filter fun x => decide (x.kind = 1))) ∨ ∃ x0, x0.rows = [bb] ∧ xs.Perm (x0 :: xs.filter fun x => decide (x.kind = 1))) := by
    rcases hinv with ⟨g1, g2, g3⟩ | ⟨g1, g2, x0, g3, g4, g5⟩
    · have ht0 : t = 0 := Classical.byContradiction fun hne => by
        have h1 : (⟨bn, 0, t, 0, [base], false⟩ : FX) ∈ xs.map FC.fx := hall.symm.subset (List.mem_append_left _ (by unfold bfx; rw [if_neg hne]; simp))
        obtain ⟨z, hz, hz2⟩ := List.mem_map.1 h1
        exact g3 z hz (congrArg FX.kind hz2)
      refine ⟨by omega, by rw [g2, hb0 ht0], .inl ⟨g2, ?_⟩⟩
      rw [List.filter_eq_self.2 fun x hx => ?_]
      rcases (hkinds x hx).2 with ⟨a1, _⟩ | ⟨a1, _⟩
      · exact absurd a1 (g3 x hx)
      · simp [a1]
    · have hx0 : x0 ∈ xs.filter fun x => !decide (x.kind = 1) := List.mem_filter.2 ⟨g3, by simp [g4]⟩
      have hone : (xs.filter fun x => !decide (x.kind = 1)) = [x0] := by
        match hh : xs.filter fun x => !decide (x.kind = 1) with
        | [] => rw [hh] at hx0; cases hx0
        | [z] => rw [hh] at hx0; rw [hh, List.mem_singleton.1 hx0]
        | z :: z2 :: l => rw [hh] at hno; simp at hno
      refine ⟨g1, ?_, .inr ⟨x0, g5, ?_⟩⟩
      · rcases (hkinds x0 g3).2 with ⟨_, _, _, a1⟩ | ⟨a1, _⟩
        · rw [g5] at a1; simpa [bsOf] using a1
        · omega
      · have := List.filter_append_perm (fun x : FC => decide (x.kind = 1)) xs
        rw [hone] at this
        exact this.symm.trans (List.perm_append_singleton _ _)
  obtain ⟨rfl, hbb, hown⟩ := hbase
  clear hK hinv hno
  (repeat (first | (first | ((with_reducible first | refine w1 ?_ | refine w3 ?_ | refine w4 ?_ | refine w11 ?_ | refine stb_n ?_); intros) | ((with_reducible first | refine v5 ?_ | refine v6 ?_ | refine v7 ?_ | refine ve ?_ | refine vn ?_); refine ⟨_, rfl, ?_⟩) | ((with_reducible first | refine v8 ?_ ?_ | refine v9 ?_ ?_ | refine v10 ?_ ?_ | refine v12 ?_ ?_); exact rfl; intros) | ((with_reducible refine w2 ?_); try simp -implicitDefEqProofs only [SE, SU, SV, hlt]; intros) | ((with_reducible refine w5 ?_ ?_); simp; refine ⟨_, rfl, ?_⟩) | ((with_reducible refine w12 ?_ ?_ ?_ ?_); simp; simp; simp [oneC]; intros) | (refine okF_i (bldP_eq rfl) ?_; try simp only [BLS, SB, Nat.reduceAdd])) | simp -implicitDefEqProofs only [SE, SU, SV, hlt]))
  clear hlt
  unfold S.wal_Log_take.j1
  refine joinK_i ?_
  (repeat (first | (first | ((with_reducible first | refine w1 ?_ | refine w3 ?_ | refine w4 ?_ | refine w11 ?_ | refine stb_n ?_); intros) | ((with_reducible first | refine v5 ?_ | refine v6 ?_ | refine v7 ?_ | refine ve ?_ | refine vn ?_); refine ⟨_, rfl, ?_⟩) | ((with_reducible first | refine v8 ?_ ?_ | refine v9 ?_ ?_ | refine v10 ?_ ?_ | refine v12 ?_ ?_); exact rfl; intros) | ((with_reducible refine w2 ?_); try simp -implicitDefEqProofs only [SE, SU, SV]; intros) | ((with_reducible refine w5 ?_ ?_); simp; refine ⟨_, rfl, ?_⟩) | ((with_reducible refine w12 ?_ ?_ ?_ ?_); simp; simp; simp [oneC]; intros) | (refine okF_i (bldP_eq rfl) ?_; try simp only [BLS, SB, Nat.reduceAdd])) | simp -implicitDefEqProofs only [SE, SU, SV]))
  refine loop_c (σ := Option Addr × Nat × Option Addr × Nat) xs.length (fun i s => [.pointer (some ⟨q, 0, none⟩), .func (.func F_wal_Log_take_1) #[] #[], .slice s.1 ((xs.take i).filter fun x => decide (x.kind = 1)).length s.2.1, .slice aa xs.length ac, .int .i64 (xs.length : Int), .int .i64 (i : Int)])
    (fun i s W1 => St W0 (cells q [.pointer (some ⟨dp, 0, none⟩), .int .i64 part, .int .i64 lives, .int .u64 (tu : Int), .slice s.2.2.1 ((xs.take i).map FC.num).length s.2.2.2, .int .i64 (-1), .int .i64 0, .int .i64 0, .slice none 0 0, .slice bb.a bb.bs.length bb.c, .slice none 0 0, .bool false] T_wal_Log ::
      arr I64 T_int s.2.2.1 s.2.2.2 ((xs.take i).map FC.num) :: arr FCL T_wal_file s.1 s.2.1 ((xs.take i).filter fun x => decide (x.kind = 1)) :: arr FCL T_wal_file aa ac xs :: many fcc xs :: dk dp d :: L) W1) (none, 0, none, 0) rfl
    (St.ent (by first | assumption | exact St.tick (by assumption) | exact St.tick (St.tick (by assumption))) (ent.cons _ ((arr_nil FCL T_wal_file).trans (arr_nil I64 T_int)))) ?_
  clear h
  rintro K i ⟨pa, pc, na, nc⟩ W2 hi h hK
  simp only at h
  simp -implicitDefEqProofs only [SE, SU, SV]
  unfold S.wal_Log_take.l2
  by_cases hlt : (i : Int) < (xs.length : Int)
  · have hib : i < xs.length := by omega
    have ew : IntKind.i64.wrap ((i : Int) + 1) = ((i + 1 : Nat) : Int) := by rw [i64w]; omega
    have hmem := List.getElem_mem hib
    obtain ⟨k1, k2⟩ := hkinds _ hmem
    have e1 : xs.take (i + 1) = xs.take i ++ [xs[i]] := take_snoc hib
    have hpl : ((xs.take i).filter fun x => decide (x.kind = 1)).length ≤ 1001 := Nat.le_trans (List.length_filter_le _ _) (by simp; omega)
    have hnl : ((xs.take i).map FC.num).length ≤ 1001 := by simp; omega
    rw [e1] at hK
    simp only [List.map_append, List.map_cons, List.map_nil, List.filter_append] at hK
    generalize ((xs.take i).filter fun x => decide (x.kind = 1)) = pp at *
    generalize (xs.take i).map FC.num = nn at *
    haveI hrdx : Rd W0 (cells q [.pointer (some ⟨dp, 0, none⟩), .int .i64 part, .int .i64 lives, .int .u64 (tu : Int), .slice na nn.length nc, .int .i64 (-1), .int .i64 0, .int .i64 0, .slice none 0 0, .slice bb.a bb.bs.length bb.c, .slice none 0 0, .bool false] T_wal_Log ::
      arr I64 T_int na nc nn :: arr FCL T_wal_file pa pc pp :: arr FCL T_wal_file aa ac xs :: many fcc xs :: dk dp d :: L) aa FCL xs := ⟨fun W h => by
        have h2 := St.wk (L' := arr FCL T_wal_file aa ac xs :: []) h
        have hr : Rd W0 (arr FCL T_wal_file aa ac xs :: []) aa FCL xs := inferInstance
        exact hr.ok W h2⟩
    (repeat (first | (first | ((with_reducible first | refine w1 ?_ | refine w3 ?_ | refine w4 ?_ | refine w11 ?_ | refine stb_n ?_); intros) | ((with_reducible first | refine v5 ?_ | refine v6 ?_ | refine v7 ?_ | refine ve ?_ | refine vn ?_); refine ⟨_, rfl, ?_⟩) | ((with_reducible first | refine v8 ?_ ?_ | refine v9 ?_ ?_ | refine v10 ?_ ?_ | refine v12 ?_ ?_); exact rfl; intros) | ((with_reducible refine w2 ?_); try simp -implicitDefEqProofs only [SE, SU, SV, hlt]; intros) | ((with_reducible refine w5 ?_ ?_); simp; refine ⟨_, rfl, ?_⟩) | ((with_reducible refine w12 ?_ ?_ ?_ ?_); simp; simp; simp [oneC]; intros) | (refine okF_i (bldP_eq rfl) ?_; try simp only [BLS, SB, Nat.reduceAdd])) | simp -implicitDefEqProofs only [SE, SU, SV, hlt]))
    refine joinK_i ?_
    refine ixA (i := i) (a := aa) (l := xs) (A := FCL) h rfl rfl hib fun g o ha => ?_
    refine ldA0 (i := i) (l := xs) (A := FCL) (hr := ha ▸ hrdx) h rfl hib (v := xs[i].v) rfl (by simp) ?_
    generalize xs[i] = x at *
    rw [x.v_eq]
    have f1 : decide ((x.turn : Int) = (tu : Int)) = true := decide_eq_true (by omega)
    (repeat (first | (first | ((with_reducible first | refine w1 ?_ | refine w3 ?_ | refine w4 ?_ | refine w11 ?_ | refine stb_n ?_); intros) | ((with_reducible first | refine v5 ?_ | refine v6 ?_ | refine v7 ?_ | refine ve ?_ | refine vn ?_); refine ⟨_, rfl, ?_⟩) | ((with_reducible first | refine v8 ?_ ?_ | refine v9 ?_ ?_ | refine v10 ?_ ?_ | refine v12 ?_ ?_); exact rfl; intros) | ((with_reducible refine w2 ?_); try simp -implicitDefEqProofs only [SE, SU, SV]; intros) | ((with_reducible refine w5 ?_ ?_); simp; refine ⟨_, rfl, ?_⟩) | ((with_reducible refine w12 ?_ ?_ ?_ ?_); simp; simp; simp [oneC]; intros) | (refine okF_i (bldP_eq rfl) ?_; try simp only [BLS, SB, Nat.reduceAdd])) | simp -implicitDefEqProofs only [SE, SU, SV]))
    rename_i pb _ _ W3 h
    (try simp only [BLS, SB, stL_a, stL_b, stL_c, List.append_nil, List.take_nil, List.drop_nil, Nat.reduceAdd] at h)
    refine joinK_i ?_
    have hJ5 : ∀ (a' : Option Addr) (c' : Nat) (pp' : List FC) W', pp' = pp ++ [x].filter (fun x => decide (x.kind = 1)) → St W0 (cells pb [.int .i64 x.num, .int .i64 (x.kind : Int), .int .i64 (x.index : Int), .int .u64 (x.turn : Int), .slice x.ra x.rows.length x.rc, .bool x.torn] T_wal_file ::
        cells q [.pointer (some ⟨dp, 0, none⟩), .int .i64 part, .int .i64 lives, .int .u64 (tu : Int), .slice na nn.length nc, .int .i64 (-1), .int .i64 0, .int .i64 0, .slice none 0 0, .slice bb.a bb.bs.length bb.c, .slice none 0 0, .bool false] T_wal_Log ::
        arr I64 T_int na nc nn :: arr FCL T_wal_file a' c' pp' :: arr FCL T_wal_file aa ac xs :: many fcc xs :: dk dp d :: L) W' →
        S.wal_Log_take.j5 (fun s W => S.wal_Log_take.j4 K (nthv s 0) (nthv s 1) (nthv s 2) (nthv s 3) (nthv s 4) (nthv s 5) W) (.pointer (some ⟨q, 0, none⟩)) (.func (.func F_wal_Log_take_1) #[] #[]) (.slice a' pp'.length c') (.pointer (some ⟨pb, 0, none⟩)) (.slice aa xs.length ac) (.int .i64 (xs.length : Int)) (.int .i64 (i : Int)) W' := by
      intro a' c' pp' W' hpp h
      unfold S.wal_Log_take.j5
      (repeat (first | (first | ((with_reducible first | refine w1 ?_ | refine w3 ?_ | refine w4 ?_ | refine w11 ?_ | refine stb_n ?_); intros) | ((with_reducible first | refine v5 ?_ | refine v6 ?_ | refine v7 ?_ | refine ve ?_ | refine vn ?_); refine ⟨_, rfl, ?_⟩) | ((with_reducible first | refine v8 ?_ ?_ | refine v9 ?_ ?_ | refine v10 ?_ ?_ | refine v12 ?_ ?_); exact rfl; intros) | ((with_reducible refine w2 ?_); try simp -implicitDefEqProofs only [SE, SU, SV]; intros) | ((with_reducible refine w5 ?_ ?_); simp; refine ⟨_, rfl, ?_⟩) | ((with_reducible refine w12 ?_ ?_ ?_ ?_); simp; simp; simp [oneC]; intros) | (refine okF_i (bldP_eq rfl) ?_; try simp only [BLS, SB, Nat.reduceAdd])) | simp -implicitDefEqProofs only [SE, SU, SV]))
      refine bsA I64 [x.num] (n := 1) (by first | assumption | exact St.tick (by assumption) | exact St.tick (St.tick (by assumption))) rfl rfl (by decide) (by decide) rfl fun a3 c3 W5 h => ?_
      (repeat (first | (first | ((with_reducible first | refine w1 ?_ | refine w3 ?_ | refine w4 ?_ | refine w11 ?_ | refine stb_n ?_); intros) | ((with_reducible first | refine v5 ?_ | refine v6 ?_ | refine v7 ?_ | refine ve ?_ | refine vn ?_); refine ⟨_, rfl, ?_⟩) | ((with_reducible first | refine v8 ?_ ?_ | refine v9 ?_ ?_ | refine v10 ?_ ?_ | refine v12 ?_ ?_); exact rfl; intros) | ((with_reducible refine w2 ?_); try simp -implicitDefEqProofs only [SE, SU, SV]; intros) | ((with_reducible refine w5 ?_ ?_); simp; refine ⟨_, rfl, ?_⟩) | ((with_reducible refine w12 ?_ ?_ ?_ ?_); simp; simp; simp [oneC]; intros) | (refine okF_i (bldP_eq rfl) ?_; try simp only [BLS, SB, Nat.reduceAdd])) | simp -implicitDefEqProofs only [SE, SU, SV]))
      refine appA (A := I64) (a := na) (l := nn) (m := [x.num]) (by first | assumption | exact St.tick (by assumption) | exact St.tick (St.tick (by assumption))) rfl (by simp; omega) (by simp [maxLen]; omega) fun a4 c4 W6 h => ?_
      (repeat (first | (first | ((with_reducible first | refine w1 ?_ | refine w3 ?_ | refine w4 ?_ | refine w11 ?_ | refine stb_n ?_); intros) | ((with_reducible first | refine v5 ?_ | refine v6 ?_ | refine v7 ?_ | refine ve ?_ | refine vn ?_); refine ⟨_, rfl, ?_⟩) | ((with_reducible first | refine v8 ?_ ?_ | refine v9 ?_ ?_ | refine v10 ?_ ?_ | refine v12 ?_ ?_); exact rfl; intros) | ((with_reducible refine w2 ?_); try simp -implicitDefEqProofs only [SE, SU, SV]; intros) | ((with_reducible refine w5 ?_ ?_); simp; refine ⟨_, rfl, ?_⟩) | ((with_reducible refine w12 ?_ ?_ ?_ ?_); simp; simp; simp [oneC]; intros) | (refine okF_i (bldP_eq rfl) ?_; try simp only [BLS, SB, Nat.reduceAdd])) | simp -implicitDefEqProofs only [SE, SU, SV]))
      rename_i h
      (try simp only [BLS, SB, stL_a, stL_b, stL_c, List.append_nil, List.take_nil, List.drop_nil, Nat.reduceAdd] at h)
      refine diskSync (d := d) (f := x.num) h.tick (by rw [hw]; simp) fun W7 h => ?_
      rw [sync_id hw] at h
      unfold S.wal_Log_take.j4
      (repeat (first | (first | ((with_reducible first | refine w1 ?_ | refine w3 ?_ | refine w4 ?_ | refine w11 ?_ | refine stb_n ?_); intros) | ((with_reducible first | refine v5 ?_ | refine v6 ?_ | refine v7 ?_ | refine ve ?_ | refine vn ?_); refine ⟨_, rfl, ?_⟩) | ((with_reducible first | refine v8 ?_ ?_ | refine v9 ?_ ?_ | refine v10 ?_ ?_ | refine v12 ?_ ?_); exact rfl; intros) | ((with_reducible refine w2 ?_); try simp -implicitDefEqProofs only [SE, SU, SV, ew]; intros) | ((with_reducible refine w5 ?_ ?_); simp; refine ⟨_, rfl, ?_⟩) | ((with_reducible refine w12 ?_ ?_ ?_ ?_); simp; simp; simp [oneC]; intros) | (refine okF_i (bldP_eq rfl) ?_; try simp only [BLS, SB, Nat.reduceAdd])) | simp -implicitDefEqProofs only [SE, SU, SV, ew]))
      subst hpp
      exact hK (a', c', a4, c4) _ hib (St.wk h)
    rcases k2 with ⟨k3, k4, k5, k6⟩ | ⟨k3, k5⟩
    · have f2 : decide ((x.kind : Int) = 1) = false := decide_eq_false (by omega)
      (repeat (first | (first | ((with_reducible first | refine w1 ?_ | refine w3 ?_ | refine w4 ?_ | refine w11 ?_ | refine stb_n ?_); intros) | ((with_reducible first | refine v5 ?_ | refine v6 ?_ | refine v7 ?_ | refine ve ?_ | refine vn ?_); refine ⟨_, rfl, ?_⟩) | ((with_reducible first | refine v8 ?_ ?_ | refine v9 ?_ ?_ | refine v10 ?_ ?_ | refine v12 ?_ ?_); exact rfl; intros) | ((with_reducible refine w2 ?_); try simp -implicitDefEqProofs only [SE, SU, SV, f1, f2]; intros) | ((with_reducible refine w5 ?_ ?_); simp; refine ⟨_, rfl, ?_⟩) | ((with_reducible refine w12 ?_ ?_ ?_ ?_); simp; simp; simp [oneC]; intros) | (refine okF_i (bldP_eq rfl) ?_; try simp only [BLS, SB, Nat.reduceAdd])) | simp -implicitDefEqProofs only [SE, SU, SV, f1, f2]))
      refine ⟨CBok _ (by kernel_rfl), ?_⟩
      refine callK_mono (walWhole x _) ?_
      rintro v W4 ⟨rfl, h4⟩
      rw [k5]
      (repeat (first | (first | ((with_reducible first | refine w1 ?_ | refine w3 ?_ | refine w4 ?_ | refine w11 ?_ | refine stb_n ?_); intros) | ((with_reducible first | refine v5 ?_ | refine v6 ?_ | refine v7 ?_ | refine ve ?_ | refine vn ?_); refine ⟨_, rfl, ?_⟩) | ((with_reducible first | refine v8 ?_ ?_ | refine v9 ?_ ?_ | refine v10 ?_ ?_ | refine v12 ?_ ?_); exact rfl; intros) | ((with_reducible refine w2 ?_); try simp -implicitDefEqProofs only [SE, SU, SV]; intros) | ((with_reducible refine w5 ?_ ?_); simp; refine ⟨_, rfl, ?_⟩) | ((with_reducible refine w12 ?_ ?_ ?_ ?_); simp; simp; simp [oneC]; intros) | (refine okF_i (bldP_eq rfl) ?_; try simp only [BLS, SB, Nat.reduceAdd])) | simp -implicitDefEqProofs only [SE, SU, SV]))
      refine hJ5 pa pc pp _ (by simp [k3]) (St.over0 (W := tick (tick W3)) h.tick.tick h4)
    · have f2 : decide ((x.kind : Int) = 1) = true := decide_eq_true (by omega)
      (repeat (first | (first | ((with_reducible first | refine w1 ?_ | refine w3 ?_ | refine w4 ?_ | refine w11 ?_ | refine stb_n ?_); intros) | ((with_reducible first | refine v5 ?_ | refine v6 ?_ | refine v7 ?_ | refine ve ?_ | refine vn ?_); refine ⟨_, rfl, ?_⟩) | ((with_reducible first | refine v8 ?_ ?_ | refine v9 ?_ ?_ | refine v10 ?_ ?_ | refine v12 ?_ ?_); exact rfl; intros) | ((with_reducible refine w2 ?_); try simp -implicitDefEqProofs only [SE, SU, SV, f1, f2]; intros) | ((with_reducible refine w5 ?_ ?_); simp; refine ⟨_, rfl, ?_⟩) | ((with_reducible refine w12 ?_ ?_ ?_ ?_); simp; simp; simp [oneC]; intros) | (refine okF_i (bldP_eq rfl) ?_; try simp only [BLS, SB, Nat.reduceAdd])) | simp -implicitDefEqProofs only [SE, SU, SV, f1, f2]))
      refine pushA (A := FCL) (l := pp) (a := pa) x (by first | assumption | exact St.tick (by assumption) | exact St.tick (St.tick (by assumption))) rfl rfl (by omega) (by simp only [maxLen]; omega) (by decide) fun a3 c3 W5 h => ?_
      (repeat (first | (first | ((with_reducible first | refine w1 ?_ | refine w3 ?_ | refine w4 ?_ | refine w11 ?_ | refine stb_n ?_); intros) | ((with_reducible first | refine v5 ?_ | refine v6 ?_ | refine v7 ?_ | refine ve ?_ | refine vn ?_); refine ⟨_, rfl, ?_⟩) | ((with_reducible first | refine v8 ?_ ?_ | refine v9 ?_ ?_ | refine v10 ?_ ?_ | refine v12 ?_ ?_); exact rfl; intros) | ((with_reducible refine w2 ?_); try simp -implicitDefEqProofs only [SE, SU, SV]; intros) | ((with_reducible refine w5 ?_ ?_); simp; refine ⟨_, rfl, ?_⟩) | ((with_reducible refine w12 ?_ ?_ ?_ ?_); simp; simp; simp [oneC]; intros) | (refine okF_i (bldP_eq rfl) ?_; try simp only [BLS, SB, Nat.reduceAdd])) | simp -implicitDefEqProofs only [SE, SU, SV]))
      exact hJ5 a3 c3 (pp ++ [x]) _ (by simp [k3]) (St.wk h)
  · have ei : xs.take i = xs := List.take_of_length_le (by omega)
    rw [ei] at h ⊢
    clear hK
    (repeat (first | (first | ((with_reducible first | refine w1 ?_ | refine w3 ?_ | refine w4 ?_ | refine w11 ?_ | refine stb_n ?_); intros) | ((with_reducible first | refine v5 ?_ | refine v6 ?_ | refine v7 ?_ | refine ve ?_ | refine vn ?_); refine ⟨_, rfl, ?_⟩) | ((with_reducible first | refine v8 ?_ ?_ | refine v9 ?_ ?_ | refine v10 ?_ ?_ | refine v12 ?_ ?_); exact rfl; intros) | ((with_reducible refine w2 ?_); try simp -implicitDefEqProofs only [SE, SU, SV, hlt]; intros) | ((with_reducible refine w5 ?_ ?_); simp; refine ⟨_, rfl, ?_⟩) | ((with_reducible refine w12 ?_ ?_ ?_ ?_); simp; simp; simp [oneC]; intros) | (refine okF_i (bldP_eq rfl) ?_; try simp only [BLS, SB, Nat.reduceAdd])) | simp -implicitDefEqProofs only [SE, SU, SV, hlt]))
    have h := St.wk (L' := cells q [.pointer (some ⟨dp, 0, none⟩), .int .i64 part, .int .i64 lives, .int .u64 (tu : Int), .slice na (xs.map FC.num).length nc, .int .i64 (-1), .int .i64 0, .int .i64 0, .slice none 0 0, .slice bb.a bb.bs.length bb.c, .slice none 0 0, .bool false] T_wal_Log ::
      arr FCL T_wal_file pa pc (xs.filter fun x => decide (x.kind = 1)) :: many fcc xs :: arr I64 T_int na nc (xs.map FC.num) :: dk dp d :: L) h
    refine walTakeJ2 hps1 (fun x hx => (List.mem_filter.1 hx).1) hP hrl h fun m ra rc W5 hm hmx h => ?_
    have hnum : (xs.map FC.fx).map (fun f => f.num) = xs.map FC.num := by rw [List.map_map]; rfl
    rw [hnum] at hk
    have hrec : (m.flatMap (·.rows)).map (fun x : BSl => x.bs) = (pfx tu 0 P).flatMap (·.recs) := by rw [List.map_flatMap, ← hmx, List.flatMap_map]; rfl
    have hlen2 : (P.length : Int) = ((pfx tu 0 P).length : Int) := by rw [pfx_len]
    rw [hlen2] at h
    have hfin : ∀ W', St W0 (fch bb :: many fch (m.flatMap (·.rows)) :: cells q [.pointer (some ⟨dp, 0, none⟩), .int .i64 part, .int .i64 lives, .int .u64 (tu : Int), .slice na (xs.map FC.num).length nc, .int .i64 (lastCur (pfx tu 0 P)), .int .i64 (lastCount (pfx tu 0 P)), .int .i64 ((pfx tu 0 P).length : Int), .slice none 0 0, .slice bb.a bb.bs.length bb.c, .slice ra (m.flatMap (·.rows)).length rc, .bool false] T_wal_Log ::
        arr BSY T_s_uint8 ra rc (m.flatMap (·.rows)) :: arr I64 T_int na nc (xs.map FC.num) :: dk dp d :: L) W' → k (.int .i64 0) W' := fun W' h => by
      have h := h.ent (arr_nil I64 T_int)
      have h := lg_mk q dp (openL part lives tu base (xs.map FC.num) (pfx tu 0 P)) na nc none 0 bb ra rc (m.flatMap fun x : FC => x.rows) h hbb hrec
      exact hk _ (St.wk h)
    have h := St.wk (L' := many fcc xs :: cells q [.pointer (some ⟨dp, 0, none⟩), .int .i64 part, .int .i64 lives, .int .u64 (tu : Int), .slice na (xs.map FC.num).length nc, .int .i64 (lastCur (pfx tu 0 P)), .int .i64 (lastCount (pfx tu 0 P)), .int .i64 ((pfx tu 0 P).length : Int), .slice none 0 0, .slice bb.a bb.bs.length bb.c, .slice ra (m.flatMap (·.rows)).length rc, .bool false] T_wal_Log ::
        arr BSY T_s_uint8 ra rc (m.flatMap (·.rows)) :: arr I64 T_int na nc (xs.map FC.num) :: dk dp d :: L) h
    rcases hown with ⟨g1, g2⟩ | ⟨x0, g1, g2⟩
    · subst g1
      have h := (h.ent (many_perm (F := fcc) (g2.trans hm.symm))).entd (rowsOut m _)
      exact hfin _ (h.ent (fch0 _))
    · have h := (h.ent (many_perm (F := fcc) (g2.trans (hm.symm.cons x0)))).entd (rowsOut (x0 :: m) _)
      rw [List.flatMap_cons, g1] at h
      exact hfin _ (h.ent (many_cons _ _))
end
end Go.Proofs.Ythladblmjoaeoaa
namespace Go.Proofs.Ythladblmjoaeoaa
set_option linter.unusedVariables false
set_option linter.unusedSimpArgs false
open Go Go.Eng

section
variable {W0 W : World} {L L' : List Asn} {dp : Nat} {d : DS} {k : Value → World → Prop}
theorem walOpen {part : Int} {t : Nat} {bn : Int} {base : Bs} {P : List PT} {J : Fs} (h : St W0 L W) (h0 : W0.drawn = 0) [ht : Tk (dk dp) L d L'] (h1 : ¬ part < 1) (h2 : ¬ 1000 < part) (ho : d.on = true) (hd : d.ok) (hw : d.ws = []) (hg : GD t bn base P J d.fs) (hrl : (recsOf P).length < 500000)
    (hk : ∀ q fs' nums W', Live bn P P { d with fs := fs' } (openL part d.lives t base nums (pfx t 0 P)) → fs'.length ≤ d.fs.length → lens fs' ≤ lens d.fs → St W0 (lg q dp (openL part d.lives t base nums (pfx t 0 P)) :: dk dp { d with fs := fs' } :: L') W' → k (.tuple #[.pointer (some ⟨q, 0, none⟩), .int .i64 0]) W') :
    callK PR F_wal_Open [.pointer (some ⟨dp, 0, none⟩), .int .i64 part] k W := by
  obtain ⟨fs', all, e1, e2, e3, e4, e5⟩ := open_live part hg ho hw (files_perm ho)
  apply S.wal_Open.call
  unfold S.wal_Open.body
  (repeat (first | (first | ((with_reducible first | refine w1 ?_ | refine w3 ?_ | refine w4 ?_ | refine w11 ?_ | refine stb_n ?_); intros) | ((with_reducible first | refine v5 ?_ | refine v6 ?_ | refine v7 ?_ | refine ve ?_ | refine vn ?_); refine ⟨_, rfl, ?_⟩) | ((with_reducible first | refine v8 ?_ ?_ | refine v9 ?_ ?_ | refine v10 ?_ ?_ | refine v12 ?_ ?_); exact rfl; intros) | ((with_reducible refine w2 ?_); try simp -implicitDefEqProofs only [SE, SU, SV, h1, h2]; intros) | ((with_reducible refine w5 ?_ ?_); simp; refine ⟨_, rfl, ?_⟩) | ((with_reducible refine w12 ?_ ?_ ?_ ?_); simp; simp; simp [oneC]; intros) | (refine okF_i (bldP_eq rfl) ?_; try simp only [BLS, SB, Nat.reduceAdd])) | simp -implicitDefEqProofs only [SE, SU, SV, h1, h2]))
  refine diskPower (d := d) (by first | assumption | exact St.tick (by assumption) | exact St.tick (St.tick (by assumption))) fun W1 h => ?_
  rw [ho]
  (repeat (first | (first | ((with_reducible first | refine w1 ?_ | refine w3 ?_ | refine w4 ?_ | refine w11 ?_ | refine stb_n ?_); intros) | ((with_reducible first | refine v5 ?_ | refine v6 ?_ | refine v7 ?_ | refine ve ?_ | refine vn ?_); refine ⟨_, rfl, ?_⟩) | ((with_reducible first | refine v8 ?_ ?_ | refine v9 ?_ ?_ | refine v10 ?_ ?_ | refine v12 ?_ ?_); exact rfl; intros) | ((with_reducible refine w2 ?_); try simp -implicitDefEqProofs only [SE, SU, SV]; intros) | ((with_reducible refine w5 ?_ ?_); simp; refine ⟨_, rfl, ?_⟩) | ((with_reducible refine w12 ?_ ?_ ?_ ?_); simp; simp; simp [oneC]; intros) | (refine okF_i (bldP_eq rfl) ?_; try simp only [BLS, SB, Nat.reduceAdd])) | simp -implicitDefEqProofs only [SE, SU, SV]))
  refine walReadAll (p := dp) (d := d) (by first | assumption | exact St.tick (by assumption) | exact St.tick (St.tick (by assumption))) h0 ho hd (by rw [hw]; decide) hg.ks hg.nd (fun e => by rw [e1] at e; cases e) (fun all' e a c xs W2 hx h => ?_)
  rw [e1] at e h
  simp only [Option.some.injEq] at e h
  subst e
  have hxl : xs.length ≤ 1001 := by
    have q1 := e2.length_eq
    have q2 := hg.parts
    have q3 : (bfx t bn base).length ≤ 1 := by unfold bfx; split <;> simp
    rw [← hx, List.length_map, List.length_append, pfx_len] at q1
    omega
  (repeat (first | (first | ((with_reducible first | refine w1 ?_ | refine w3 ?_ | refine w4 ?_ | refine w11 ?_ | refine stb_n ?_); intros) | ((with_reducible first | refine v5 ?_ | refine v6 ?_ | refine v7 ?_ | refine ve ?_ | refine vn ?_); refine ⟨_, rfl, ?_⟩) | ((with_reducible first | refine v8 ?_ ?_ | refine v9 ?_ ?_ | refine v10 ?_ ?_ | refine v12 ?_ ?_); exact rfl; intros) | ((with_reducible refine w2 ?_); try simp -implicitDefEqProofs only [SE, SU, SV]; intros) | ((with_reducible refine w5 ?_ ?_); simp; refine ⟨_, rfl, ?_⟩) | ((with_reducible refine w12 ?_ ?_ ?_ ?_); simp; simp; simp [oneC]; intros) | (refine okF_i (bldP_eq rfl) ?_; try simp only [BLS, SB, Nat.reduceAdd])) | simp -implicitDefEqProofs only [SE, SU, SV]))
  refine diskLives (d := { d with fs := fs' }) (by first | assumption | exact St.tick (by assumption) | exact St.tick (St.tick (by assumption))) fun W3 h => ?_
  (repeat (first | (first | ((with_reducible first | refine w1 ?_ | refine w3 ?_ | refine w4 ?_ | refine w11 ?_ | refine stb_n ?_); intros) | ((with_reducible first | refine v5 ?_ | refine v6 ?_ | refine v7 ?_ | refine ve ?_ | refine vn ?_); refine ⟨_, rfl, ?_⟩) | ((with_reducible first | refine v8 ?_ ?_ | refine v9 ?_ ?_ | refine v10 ?_ ?_ | refine v12 ?_ ?_); exact rfl; intros) | ((with_reducible refine w2 ?_); try simp -implicitDefEqProofs only [SE, SU, SV]; intros) | ((with_reducible refine w5 ?_ ?_); simp; refine ⟨_, rfl, ?_⟩) | ((with_reducible refine w12 ?_ ?_ ?_ ?_); simp; simp; simp [oneC]; intros) | (refine okF_i (bldP_eq rfl) ?_; try simp only [BLS, SB, Nat.reduceAdd])) | simp -implicitDefEqProofs only [SE, SU, SV]))
  refine walTake (L := L') (part := part) (lives := d.lives) (aa := a) (ac := c) (dp := dp) (d := { d with fs := fs' }) (xs := xs) (t := t) (bn := bn) (P := P) (base := base) (by rw [hx]; exact e2) hg.b0 hg.tb hg.parts hxl hrl hw (St.wk (by first | assumption | exact St.tick (by assumption) | exact St.tick (St.tick (by assumption)))) fun W5 h => ?_
  rw [hx] at h
  (repeat (first | (first | ((with_reducible first | refine w1 ?_ | refine w3 ?_ | refine w4 ?_ | refine w11 ?_ | refine stb_n ?_); intros) | ((with_reducible first | refine v5 ?_ | refine v6 ?_ | refine v7 ?_ | refine ve ?_ | refine vn ?_); refine ⟨_, rfl, ?_⟩) | ((with_reducible first | refine v8 ?_ ?_ | refine v9 ?_ ?_ | refine v10 ?_ ?_ | refine v12 ?_ ?_); exact rfl; intros) | ((with_reducible refine w2 ?_); try simp -implicitDefEqProofs only [SE, SU, SV]; intros) | ((with_reducible refine w5 ?_ ?_); simp; refine ⟨_, rfl, ?_⟩) | ((with_reducible refine w12 ?_ ?_ ?_ ?_); simp; simp; simp [oneC]; intros) | (refine okF_i (bldP_eq rfl) ?_; try simp only [BLS, SB, Nat.reduceAdd])) | simp -implicitDefEqProofs only [SE, SU, SV]))
  exact hk _ fs' _ _ e3 e4 e5 h
end
end Go.Proofs.Ythladblmjoaeoaa
namespace Go.Proofs.Ythladblmjoaeoaa
set_option linter.unusedVariables false
set_option linter.unusedSimpArgs false
open Go Go.Eng

theorem mput_keys {fs : Fs} {f : Int} {v : Bs} (h : f ∈ fs.map (·.1)) : (mput fs f v).map (·.1) = fs.map (·.1) := by
  induction fs with
  | nil => cases h
  | cons p l ih =>
    obtain ⟨a, b⟩ := p
    by_cases e : a = f
    · subst e; simp [mput]
    · simp only [List.map_cons, List.mem_cons] at h
      simp only [mput, if_neg e, List.map_cons]
      rw [ih (h.resolve_left fun h => e h.symm)]
theorem crashGo_keys (keep torn : Int) (ws : List Wr) : ∀ (n : Nat) {fs : Fs}, (∀ w ∈ ws, w.1 ∈ fs.map (·.1)) → (crashGo keep torn ws n fs).map (·.1) = fs.map (·.1)
  | 0, _, _ => rfl
  | n + 1, fs, h => by
    unfold crashGo
    split
    · rfl
    · split
      · rename_i w hw
        have hk := h w (List.mem_of_getElem? hw)
        rw [crashGo_keys keep torn ws n (fun w' hw' => by rw [mput_keys hk]; exact h w' hw'), mput_keys hk]
      · rfl
theorem fitGo_pre {ws ws' : List Wr} {fs : Fs} {n : Nat} (hn : n ≤ ws.length) (h : fitGo ws n fs) : fitGo (ws ++ ws') n fs :=
  fitGo_congr n (fun i hi => by rw [List.getElem?_append_left (by omega)]) (fun _ => rfl) h
theorem crs_fit {t : Nat} {bn : Int} {base : Bs} {P P0 : List PT} {ws : List Wr} (hc : Crs t P ws P0) : ∀ {J fs : Fs}, GD t bn base P J fs → fitGo ws ws.length fs := by
  induction hc with
  | nil => exact fun _ => trivial
  | @old P p ws P0 r hcr ht hr ih =>
    intro J fs h
    rw [List.length_append, List.length_singleton]
    intro w hw
    rw [List.getElem?_append_right (Nat.le_refl _), Nat.sub_self] at hw
    cases hw
    have hcont := h.contLast
    simp only at hcont
    simp only [hcont, cP_add _ _ ht, Int.toNat_natCast, List.take_left]
    refine ⟨by omega, by simp; omega, trivial, fitGo_pre (Nat.le_refl _) (ih (h.setLast (q := p) rfl (by rw [ht]; exact Tail.nil) (fun x hx => h.rl _ (List.mem_append_right _ (List.mem_singleton.2 rfl)) x (by simp [hx])) rfl))⟩
  | @new P ws P0 f r hcr hr ih =>
    intro J fs h
    rw [List.length_append, List.length_singleton]
    intro w hw
    rw [List.getElem?_append_right (Nat.le_refl _), Nat.sub_self] at hw
    cases hw
    have hcont := h.contLast
    simp only at hcont
    simp only [hcont]
    refine ⟨by omega, by omega, trivial, fitGo_pre (Nat.le_refl _) (ih (h.cutLast (p := ⟨f, [r], []⟩) (c := []) (by simp)))⟩
theorem write_lives (d : DS) (l : LS) (f : Int) (b : Bs) : (LS.write d l f b).2.1.lives = l.lives := by unfold LS.write; split <;> rfl
theorem add_lives (d : DS) (l : LS) (r : Bs) : (LS.add d l r).2.1.lives = l.lives := by
  unfold LS.add
  split
  · exact write_lives _ _ _ _
  · split
    · rfl
    · exact write_lives _ _ _ _
theorem addGo_lives : ∀ (rs : List Bs) (d : DS) (l : LS), (addGo d l rs).2.1.lives = l.lives
  | [], _, _ => rfl
  | r :: rs, d, l => by
    unfold addGo
    split
    · exact add_lives _ _ _
    · rw [addGo_lives rs, add_lives]
theorem addAll_lives (d : DS) (l : LS) (rs : List Bs) : (LS.addAll d l rs).2.1.lives = l.lives := by
  unfold LS.addAll
  split
  · rfl
  · split
    · rfl
    · split
      · exact addGo_lives rs d l
      · exact addGo_lives rs d l
theorem keep_lives (d : DS) (l : LS) (b : Bs) : (LS.keep d l b).2.1.lives = l.lives := by
  unfold LS.keep
  split
  · rfl
  · split
    · rfl
    · split
      · rfl
      · split
        · exact write_lives _ _ _ _
        · rfl
/-- a log that lives, and its bounds -/
structure WV (n : Nat) (d : DS) (l : LS) (part : Int) (base : Bs) (all : List Bs) (safe : Nat) (room used : Int) (turns files : Nat) (nt : Bool) : Prop where
  live : ∃ bn P P0, Live bn P P0 d l ∧ recsOf P = all ∧ (recsOf P0).length = safe ∧ (nt = true → ∀ p ∈ P, p.tail = [])
  recs : l.recs = all
  part : l.part = part
  base : l.base = base
  room : d.room = room
  used : lens d.fs ≤ used
  nf : d.fs.length ≤ files
  tn : l.turn ≤ turns
  lok : LOk n d l
def cost (rs : List Bs) : Int := (rs.map fun r => 44 + (r.length : Int)).sum
theorem addGo_ok : ∀ (rs : List Bs) {n : Nat} {d : DS} {l : LS} {bn : Int} {P P0 : List PT} {part : Int} {files : Nat}, Live bn P P0 d l → LOk (n + rs.length) d l → (∀ r ∈ rs, r.length ≤ 65536) → l.part = part → 1 ≤ part → d.fs.length ≤ files → files + rs.length ≤ 1000 → lens d.fs + cost rs ≤ d.room →
    ∃ P', (addGo d l rs).2.2 = 0 ∧ Live bn P' P0 (addGo d l rs).1 (addGo d l rs).2.1 ∧ recsOf P' = recsOf P ++ rs ∧ (addGo d l rs).2.1.recs = l.recs ∧ (addGo d l rs).2.1.part = part ∧ (addGo d l rs).2.1.base = l.base ∧ lens (addGo d l rs).1.fs ≤ lens d.fs + cost rs ∧ (addGo d l rs).1.room = d.room ∧
      (addGo d l rs).1.fs.length ≤ files + rs.length ∧ (addGo d l rs).2.1.turn = l.turn ∧ LOk n (addGo d l rs).1 (addGo d l rs).2.1 ∧ ((∀ p ∈ P, p.tail = []) → ∀ p ∈ P', p.tail = [])
  | [], n, d, l, bn, P, P0, part, files, h, hL, hr, hp, hp1, hf, hf2, hroom => ⟨P, rfl, h, by simp, rfl, hp, rfl, by simp [cost, addGo], rfl, by simpa [addGo] using hf, rfl, hL, id⟩
  | r :: rs, n, d, l, bn, P, P0, part, files, h, hL, hr, hp, hp1, hf, hf2, hroom => by
    simp only [List.length_cons] at hf2 hL
    have hc : cost (r :: rs) = 44 + (r.length : Int) + cost rs := by simp [cost]
    have hc0 : 0 ≤ cost rs := by
      clear hc hroom hf2 hr hL
      induction rs with
      | nil => simp [cost]
      | cons a l ih => simp only [cost, List.map_cons, List.sum_cons] at *; omega
    rw [hc] at hroom
    obtain ⟨P', a1, a2, a3, a4, a5, a6, a7, a8, a9, a10, a11, a12⟩ := h.add (r := r) (hr r (by simp)) (by omega) (by omega) (.inr (by omega))
    have hL2 := LOk.add (n := n + rs.length) hL r
    obtain ⟨P'', b1, b2, b3, b4, b5, b6, b7, b8, b9, b10, b11, b12⟩ := addGo_ok rs (files := files + 1) a2 hL2 (fun x hx => hr x (by simp [hx])) (a5.trans hp) hp1 (by omega) (by omega) (by rw [a8]; omega)
    have e : addGo d l (r :: rs) = addGo (LS.add d l r).1 (LS.add d l r).2.1 rs := by rw [addGo, if_neg (fun hh => hh a1)]
    rw [e]
    exact ⟨P'', b1, b2, by rw [b3, a3, List.append_assoc]; rfl, b4.trans a4, b5, b6.trans a6, by rw [hc]; omega, b8.trans a8, by simp only [List.length_cons]; omega, b10.trans a11, b11, fun h => b12 (a12 h)⟩
section
variable {n : Nat} {d : DS} {l : LS} {part : Int} {base : Bs} {all : List Bs} {safe : Nat} {room used : Int} {turns files : Nat} {nt : Bool}
theorem WV.done (h : WV n d l part base all safe room used turns files nt) : l.done d = false := by
  obtain ⟨bn, P, P0, h1, _⟩ := h.live; exact h1.done
theorem WV.addAll {rs : List Bs} (h : WV (n + rs.length) d l part base all safe room used turns files nt) (hr : ∀ r ∈ rs, r.length ≤ 65536) (hp : 1 ≤ part) (hf : files + rs.length ≤ 1000) (hroom : used + cost rs ≤ room) :
    (LS.addAll d l rs).2.2 = 0 ∧ WV n (LS.addAll d l rs).1 (LS.addAll d l rs).2.1 part base (all ++ rs) safe room (used + cost rs) turns (files + rs.length) nt := by
  obtain ⟨bn, P, P0, h1, h2, h3, h4⟩ := h.live
  obtain ⟨P', a1, a2, a3, a4, a5, a6, a7, a8, a9, a10, a11, a12⟩ := addGo_ok rs h1 h.lok hr h.part hp h.nf hf (by have := h.used; have := h.room; omega)
  have hany : (rs.any fun r => decide (65536 < r.length)) = false := by
    rw [List.any_eq_false]; intro r hr2; have := hr r hr2; simp; omega
  have e : LS.addAll d l rs = ((addGo d l rs).1, { (addGo d l rs).2.1 with recs := (addGo d l rs).2.1.recs ++ rs }, 0) := by
    unfold LS.addAll
    rw [h.done, hany, if_neg (by simp), if_neg (by simp), if_neg (fun hh => hh a1)]
  rw [e]
  refine ⟨rfl, ⟨bn, P', P0, ⟨a2.gd, a2.nums, a2.idx, a2.cur, a2.full, a2.lives, a2.on, a2.crs, a2.dirt, a2.dirk⟩, by rw [a3, h2], h3, fun hn => a12 (h4 hn)⟩, ?_, a5, a6.trans h.base, a8.trans h.room, ?_, a9, ?_, ⟨a11.ok, a11.ws, a11.nums, a11.dirty, a11.turn, a11.index, a11.count⟩⟩
  · show (addGo d l rs).2.1.recs ++ rs = _
    rw [a4, h.recs]
  · have := h.used; show lens (addGo d l rs).1.fs ≤ _; omega
  · show (addGo d l rs).2.1.turn ≤ _; rw [a10]; exact h.tn
theorem WV.sync (h : WV n d l part base all safe room used turns files nt) : (LS.sync d l).2.2 = 0 ∧ WV n (LS.sync d l).1 (LS.sync d l).2.1 part base all all.length room used turns files nt := by
  obtain ⟨bn, P, P0, h1, h2, h3, h5⟩ := h.live
  obtain ⟨e, h4⟩ := h1.sync
  obtain ⟨g1, g2, g3, g4, g5, g6, g7⟩ := h.lok
  rw [e]
  exact ⟨rfl, ⟨bn, P, P, h4, h2, by rw [h2], h5⟩, h.recs, h.part, h.base, h.room, h.used, h.nf, h.tn, ⟨g1, by show ([] : List Wr).length + n < _; simp; omega, g3, by show ([] : List Int).length + n < _; simp; omega, g5, g6, g7⟩⟩
theorem WV.keep {b : Bs} (h : WV (n + 1) d l part base all safe room used turns files nt) (hb : b.length ≤ 65536) (hf : files < 1000) (ht : turns + 1 < 2 ^ 62) (hroom : used + 44 + (b.length : Int) ≤ room) :
    (LS.keep d l b).2.2 = 0 ∧ WV n (LS.keep d l b).1 (LS.keep d l b).2.1 part b [] 0 room (44 + (b.length : Int)) (turns + 1) 1 nt := by
  obtain ⟨bn, P, P0, h1, h2, h3, _⟩ := h.live
  have := h.used
  have := h.room
  have htn := h.tn
  have := h.nf
  obtain ⟨g1, g2, g3, g4, g5, g6, g7⟩ := h.lok
  obtain ⟨bn', a1, a2, a3, a4, a5, a6, a7, a8, a9, a10⟩ := h1.keep hb (by omega) (by omega) (by omega)
  have hws : (LS.keep d l b).1.ws = [] := by
    have := a2.crs
    generalize (LS.keep d l b).1.ws = ws at this
    cases ws with
    | nil => rfl
    | cons w ws => obtain ⟨p, hp, _⟩ := this.nums w (by simp); cases hp
  have hnl : (LS.keep d l b).2.1.nums.length = 1 := by rw [a2.nlen, a9]
  have hdl : (LS.keep d l b).2.1.dirty.length ≤ l.dirty.length + 1 ∧ 0 ≤ (LS.keep d l b).2.1.count ∧ (LS.keep d l b).2.1.count ≤ l.count := by
    have hc := g7.1
    unfold LS.keep at a1 ⊢
    rw [h1.done] at a1 ⊢
    simp only [Bool.false_eq_true, if_false] at a1 ⊢
    rw [if_neg (by omega)] at a1 ⊢
    split at a1
    · cases a1
    · rename_i c1
      rw [if_neg c1]
      split at a1
      · rename_i c2; exact absurd a1 c2
      · rename_i c2
        rw [if_neg c2]
        simp only [List.length_nil]
        omega
  have := lens_nonneg d.fs
  have hok : (LS.keep d l b).1.ok := ⟨by rw [a8]; exact g1.1, by rw [a8]; exact g1.2.1, by rw [a8]; have := g1.2.2; omega⟩
  refine ⟨a1, ⟨bn', [], [], a2, rfl, rfl, fun _ p hp => (by cases hp)⟩, a4, a5.trans h.part, a3, a8.trans h.room, a7, by omega, by rw [a6]; omega, ⟨hok, by rw [hws]; simp; omega, by omega, ?_, by rw [a6]; omega, by rw [a2.idx]; simp; omega, ⟨hdl.2.1, by omega⟩⟩⟩
  have : (LS.keep d l b).2.1.dirty = [] := by
    have h5 := a2.dirk
    clear hnl hws hok a3 a4 a5 a6 a7 a8 a9 a10
    unfold LS.keep at a1 ⊢
    rw [h1.done] at a1 ⊢
    simp only [Bool.false_eq_true, if_false] at a1 ⊢
    rw [if_neg (by omega)] at a1 ⊢
    split at a1
    · cases a1
    · rename_i c1
      rw [if_neg c1]
      split at a1
      · rename_i c2; exact absurd a1 c2
      · rename_i c2
        rw [if_neg c2]
  rw [this]; simp; omega
/-- behind a fall -/
theorem WV.crash (h : WV n d l part base all safe room used turns files nt) (keep torn : Int) : ∃ t bn P' J m, GD t bn base P' J (d.crash keep torn).fs ∧ t ≤ turns ∧ recsOf P' = all.take m ∧ safe ≤ m ∧ m ≤ all.length ∧ (keep ≤ 0 → torn ≤ 0 → m = safe) ∧
    lens (d.crash keep torn).fs ≤ used ∧ (d.crash keep torn).fs.length ≤ files ∧ (d.crash keep torn).ok ∧ (d.crash keep torn).room = room ∧ d.fit := by
  obtain ⟨bn, P, P0, h1, h2, h3, _⟩ := h.live
  have hg := h1.gd
  rw [h.base] at hg
  obtain ⟨P', J, m, a1, a2, a3, a4, a5⟩ := crash_gd h1.crs keep torn hg
  refine ⟨l.turn, bn, P', J, m, a1, h.tn, by rw [a2, h2], by omega, by rw [← h2]; exact a4, fun h4 h5 => by rw [a5 h4 h5, h3], ?_, ?_, h.lok.ok.crash keep torn, h.room, crs_fit h1.crs hg⟩
  · exact Int.le_trans (lens_crash _ _ _ _ _) h.used
  · have := congrArg List.length (crashGo_keys keep torn d.ws d.ws.length (fs := d.fs) fun w hw => h1.dirk _ (h1.dirt w hw))
    simp only [List.length_map] at this
    have := h.nf
    show (crashGo keep torn d.ws d.ws.length d.fs).length ≤ files
    omega
/-- a log that was just opened -/
theorem WV.opened {bn : Int} {P : List PT} (h : Live bn P P d l) (hw : d.ws = []) (hl : l.recs = recsOf P) (hp : l.part = part) (hb : l.base = base) (hroom : d.room = room) (hu : lens d.fs ≤ used) (hf : d.fs.length ≤ files) (ht : l.turn ≤ turns) (ht2 : turns < 2 ^ 62) (hd : d.ok) (hn : (recsOf P).length + n < 400000) (hd2 : l.dirty = [])
    (hc : 0 ≤ l.count ∧ l.count ≤ (recsOf P).length) (hnt : nt = true → ∀ p ∈ P, p.tail = []) : WV n d l part base (recsOf P) (recsOf P).length room used turns files nt := by
  have h2 := h.gd.parts
  have h3 := h.gd.files
  refine ⟨⟨bn, P, P, h, rfl, rfl, hnt⟩, hl, hp, hb, hroom, hu, hf, ht, ⟨hd, by rw [hw]; simp; omega, by rw [h.nlen]; omega, by rw [hd2]; simp; omega, by omega, by rw [h.idx]; omega, ⟨hc.1, by omega⟩⟩⟩
end
theorem lastCount_le : ∀ (l : List FX), 0 ≤ lastCount l ∧ lastCount l ≤ ((l.flatMap (·.recs)).length : Int)
  | [] => ⟨Int.le_refl _, Int.le_refl _⟩
  | [f] => by simp [lastCount]
  | f :: g :: l => by
    have := lastCount_le (g :: l)
    refine ⟨this.1, ?_⟩
    show lastCount (g :: l) ≤ _
    simp only [List.flatMap_cons, List.length_append] at this ⊢
    omega
end Go.Proofs.Ythladblmjoaeoaa
