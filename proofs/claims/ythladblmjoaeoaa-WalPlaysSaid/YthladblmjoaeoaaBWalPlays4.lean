/- Texts of the claim WalPlays, joined: PWal5, PWal6, ShWfr, CWal, Sl4, Sl5, Mp3, ShWwal, CWal2, CWal3, TypM. -/
import Derived.Test.YthladblmjoaeoaaBWalPlays3
import Derived.Test.YthladblmjoaeoaaBWalPlays1
import Derived.Lib.SlBytesConst
import Derived.Test.YthladblmjoaeoaaBWalPlays2
namespace Go.Proofs.Ythladblmjoaeoaa
set_option linter.unusedVariables false
set_option linter.unusedSimpArgs false
open Go Go.Eng

structure LS where
  part : Int
  lives : Int
  turn : Nat
  nums : List Int
  cur : Int
  count : Int
  index : Int
  dirty : List Int
  base : Bs
  recs : List Bs
  full : Bool
def LS.done (l : LS) (d : DS) : Bool := l.full || !d.on || !decide (d.lives = l.lives)
def freeGo (nums : List Int) : Nat → Nat → Int
  | _, 0 => -1
  | i, n + 1 => if (i : Int) ∈ nums then freeGo nums (i + 1) n else i
def LS.free (l : LS) : Int := freeGo l.nums 0 1000
def LS.write (d : DS) (l : LS) (f : Int) (b : Bs) : DS × LS × Int :=
  if (d.append f b).2 ≠ 0 then ((d.append f b).1, { l with full := true }, (d.append f b).2)
  else ((d.append f b).1, { l with dirty := if f ∈ l.dirty then l.dirty else l.dirty ++ [f] }, 0)
def LS.add (d : DS) (l : LS) (r : Bs) : DS × LS × Int :=
  if (l.cur < 0 ∨ l.part ≤ l.count) ∧ 0 ≤ l.free then
    LS.write d { l with nums := l.nums ++ [l.free], cur := l.free, count := 1, index := l.index + 1 } l.free (topB 1 l.turn l.index.toNat ++ unitB r)
  else if l.cur < 0 then (d, { l with full := true }, 6)
  else LS.write d { l with count := l.count + 1 } l.cur (unitB r)
def addGo : DS → LS → List Bs → DS × LS × Int
  | d, l, [] => (d, l, 0)
  | d, l, r :: rs => if (LS.add d l r).2.2 ≠ 0 then LS.add d l r else addGo (LS.add d l r).1 (LS.add d l r).2.1 rs
def LS.addAll (d : DS) (l : LS) (rs : List Bs) : DS × LS × Int :=
  if l.done d then (d, l, 7)
  else if rs.any (fun r => decide (65536 < r.length)) then (d, l, 2)
  else if (addGo d l rs).2.2 ≠ 0 then addGo d l rs
  else ((addGo d l rs).1, { (addGo d l rs).2.1 with recs := (addGo d l rs).2.1.recs ++ rs }, 0)
def syncGo : DS → List Int → DS × Int
  | d, [] => (d, 0)
  | d, f :: l => if (d.sync f).2 ≠ 0 then d.sync f else syncGo (d.sync f).1 l
def LS.sync (d : DS) (l : LS) : DS × LS × Int :=
  if l.done d then (d, l, 7)
  else if (syncGo d l.dirty).2 ≠ 0 then ((syncGo d l.dirty).1, l, (syncGo d l.dirty).2)
  else ((syncGo d l.dirty).1, { l with dirty := [] }, 0)
def dropGo : DS → List Int → DS
  | d, [] => d
  | d, f :: l => dropGo (d.drop f).1 l
def LS.keep (d : DS) (l : LS) (b : Bs) : DS × LS × Int :=
  if l.done d then (d, l, 7)
  else if 65536 < b.length then (d, l, 2)
  else if l.free < 0 then (d, { l with full := true }, 6)
  else if (LS.write d l l.free (topB 0 (l.turn + 1) 0 ++ unitB b)).2.2 ≠ 0 then LS.write d l l.free (topB 0 (l.turn + 1) 0 ++ unitB b)
  else (dropGo ((LS.write d l l.free (topB 0 (l.turn + 1) 0 ++ unitB b)).1.sync l.free).1 l.nums,
    { l with turn := l.turn + 1, nums := [l.free], dirty := [], cur := -1, count := 0, index := 0, base := b, recs := [] }, 0)

/-! ### a log that lives -/
structure Live (bn : Int) (P P0 : List PT) (d : DS) (l : LS) : Prop where
  gd : GD l.turn bn l.base P [] d.fs
  nums : l.nums.Perm (d.fs.map (·.1))
  idx : l.index = P.length
  cur : l.cur = -1 ∨ ∃ Q p, P = Q ++ [p] ∧ p.num = l.cur ∧ p.tail = [] ∧ l.count = p.recs.length
  full : l.full = false
  lives : l.lives = d.lives
  on : d.on = true
  crs : Crs l.turn P d.ws P0
  dirt : ∀ w ∈ d.ws, w.1 ∈ l.dirty
  dirk : ∀ f ∈ l.dirty, f ∈ d.fs.map (·.1)
theorem Live.done {bn : Int} {P P0 : List PT} {d : DS} {l : LS} (h : Live bn P P0 d l) : l.done d = false := by
  unfold LS.done; rw [h.full, h.on, h.lives]; simp
theorem freeGo_spec (nums : List Int) : ∀ (n i : Nat), (freeGo nums i n = -1 ∧ ∀ j, i ≤ j → j < i + n → (j : Int) ∈ nums) ∨ (∃ j : Nat, freeGo nums i n = j ∧ i ≤ j ∧ j < i + n ∧ (j : Int) ∉ nums)
  | 0, i => .inl ⟨rfl, fun j h1 h2 => by omega⟩
  | n + 1, i => by
    unfold freeGo
    split
    · rename_i h
      rcases freeGo_spec nums n (i + 1) with ⟨h1, h2⟩ | ⟨j, h1, h2, h3, h4⟩
      · refine .inl ⟨h1, fun j hj hj2 => ?_⟩
        by_cases e : j = i
        · subst e; exact h
        · exact h2 j (by omega) (by omega)
      · exact .inr ⟨j, h1, by omega, by omega, h4⟩
    · rename_i h
      exact .inr ⟨i, rfl, Nat.le_refl _, by omega, h⟩
theorem free_lt {l : LS} (h : l.nums.length < 1000) : 0 ≤ l.free ∧ l.free < 1000 ∧ l.free ∉ l.nums := by
  rcases freeGo_spec l.nums 1000 0 with ⟨_, h2⟩ | ⟨j, h1, h2, h3, h4⟩
  · exfalso
    have h3 : (List.range 1000).map (fun i : Nat => (i : Int)) ⊆ l.nums := by
      intro x hx
      obtain ⟨j, hj, rfl⟩ := List.mem_map.1 hx
      exact h2 j (by omega) (by simpa using hj)
    have h4 : ((List.range 1000).map (fun i : Nat => (i : Int))).Nodup := List.Pairwise.map _ (fun a b hab e => hab (by omega)) List.nodup_range
    have := h4.length_le_of_subset h3
    simp only [List.length_map, List.length_range] at this
    omega
  · unfold LS.free
    rw [h1]
    exact ⟨by omega, by omega, h4⟩
theorem append_eq {d : DS} {f : Int} {b : Bs} (ho : d.on = true) (hf : 0 ≤ f ∧ f < 1000) :
    d.append f b = if (b.length : Int) > d.room - lens d.fs then (d, 6) else ({ d with fs := mput d.fs f (cont d.fs f ++ b), ws := d.ws ++ [((f, ((cont d.fs f).length : Int), ((cont d.fs f).length : Int) + (b.length : Int)) : Wr)] }, 0) := by
  have e : d.ask f = 0 := by
    unfold DS.ask
    rw [ho, if_neg (by simp), if_neg (by omega)]
  unfold DS.append
  rw [e, if_neg (by simp)]
theorem write_ok {d : DS} {l : LS} {f : Int} {b c : Bs} (ho : d.on = true) (hf : 0 ≤ f ∧ f < 1000) (hr : lens d.fs + (b.length : Int) ≤ d.room) (hc : cont d.fs f = c) :
    LS.write d l f b = ({ d with fs := mput d.fs f (c ++ b), ws := d.ws ++ [((f, (c.length : Int), (c.length : Int) + (b.length : Int)) : Wr)] }, { l with dirty := if f ∈ l.dirty then l.dirty else l.dirty ++ [f] }, 0) := by
  subst hc
  have e := append_eq (d := d) (b := b) ho hf
  rw [if_neg (by omega)] at e
  unfold LS.write
  rw [e]
  rfl
theorem write_room {d : DS} {l : LS} {f : Int} {b : Bs} (ho : d.on = true) (hf : 0 ≤ f ∧ f < 1000) (h : (LS.write d l f b).2.2 = 0) : lens d.fs + (b.length : Int) ≤ d.room := by
  by_cases c : (b.length : Int) > d.room - lens d.fs
  · exfalso
    have e := append_eq (d := d) (b := b) ho hf
    rw [if_pos c] at e
    unfold LS.write at h
    rw [e] at h
    cases h
  · omega
section
variable {bn : Int} {P P0 : List PT} {d : DS} {l : LS}
theorem Live.nlen (h : Live bn P P0 d l) : l.nums.length = d.fs.length := by simpa using h.nums.length_eq
theorem Live.keyc (h : Live bn P P0 d l) {Q : List PT} {p : PT} (e : P = Q ++ [p]) : p.num ∈ d.fs.map (·.1) ∧ 0 ≤ p.num ∧ p.num < 1000 ∧ cont d.fs p.num = cP l.turn Q.length p := by
  have hg := h.gd
  rw [e] at hg
  have hm : (p.num, cP l.turn Q.length p) ∈ d.fs := hg.last.symm.subset (by simp)
  exact ⟨List.mem_map_of_mem (f := (·.1)) hm, (h.gd.ks _ hm).1, (h.gd.ks _ hm).2, hg.contLast⟩
/-- a write into a new file -/
theorem new_file {f : Int} {c : Bs} (hn : (d.fs.map (·.1)).Nodup) (hf : f ∉ d.fs.map (·.1)) : ((mput d.fs f c).map (·.1)).Nodup ∧ ((mput d.fs f c).map (·.1)).Perm (d.fs.map (·.1) ++ [f]) := by
  rw [mput_new (mget_no hf), List.map_append]
  refine ⟨List.nodup_append.2 ⟨hn, by simp, fun a ha b hb e => ?_⟩, .refl _⟩
  simp only [List.map_cons, List.map_nil, List.mem_singleton] at hb
  subst hb; subst e; exact hf ha
/-- what an add that finds room does -/
theorem Live.add (h : Live bn P P0 d l) {r : Bs} (hr : r.length ≤ 65536) (hn : d.fs.length < 1000) (hp : 1 ≤ l.part) (hroom : (LS.add d l r).2.2 = 0 ∨ lens d.fs + 44 + (r.length : Int) ≤ d.room) :
    ∃ P', (LS.add d l r).2.2 = 0 ∧ Live bn P' P0 (LS.add d l r).1 (LS.add d l r).2.1 ∧ recsOf P' = recsOf P ++ [r] ∧ (LS.add d l r).2.1.recs = l.recs ∧ (LS.add d l r).2.1.part = l.part ∧ (LS.add d l r).2.1.base = l.base ∧
      lens (LS.add d l r).1.fs ≤ lens d.fs + 44 + (r.length : Int) ∧ (LS.add d l r).1.room = d.room ∧ (LS.add d l r).1.fs.length ≤ d.fs.length + 1 ∧ (LS.add d l r).1.lives = d.lives ∧ (LS.add d l r).2.1.turn = l.turn ∧ ((∀ p ∈ P, p.tail = []) → ∀ p ∈ P', p.tail = []) := by
  obtain ⟨f0, f1, f2⟩ := free_lt (l := l) (by rw [h.nlen]; exact hn)
  have fk : l.free ∉ d.fs.map (·.1) := fun hm => f2 (h.nums.symm.subset hm)
  have hidx := h.idx
  unfold LS.add at hroom ⊢
  by_cases c : l.cur < 0 ∨ l.part ≤ l.count
  · rw [if_pos ⟨c, f0⟩] at hroom ⊢
    have hroom : lens d.fs + ((topB 1 l.turn l.index.toNat ++ unitB r).length : Int) ≤ d.room := hroom.elim (fun he => write_room h.on ⟨f0, f1⟩ he) (fun he => by simp only [List.length_append, topB_len, unitB_len]; omega)
    rw [write_ok h.on ⟨f0, f1⟩ hroom (cont_no fk)]
    rw [List.nil_append]
    obtain ⟨n1, n2⟩ := new_file (c := topB 1 l.turn l.index.toNat ++ unitB r) h.gd.nd fk
    have hcl : cP l.turn P.length (⟨l.free, [r], []⟩ : PT) = topB 1 l.turn l.index.toNat ++ unitB r := by simp [cP, units, hidx]
    refine ⟨P ++ [⟨l.free, [r], []⟩], rfl, ⟨⟨?_, n1, ?_, ?_, ?_, h.gd.b0, h.gd.bl, fun x hx => (by cases hx), h.gd.tb⟩, ?_, ?_, .inr ⟨P, _, rfl, rfl, rfl, rfl⟩, h.full, h.lives, h.on, ?_, ?_, ?_⟩, by simp [recsOf_app, recsOf], rfl, rfl, rfl, ?_, rfl, ?_, rfl, rfl, fun ht p hp => (List.mem_append.1 hp).elim (ht p) fun hp => by rw [List.mem_singleton.1 hp]⟩
    · refine (new_perm fk h.gd.pm).trans ?_
      rw [pfs_app, Nat.zero_add]
      simp only [List.append_nil, pfs, hcl, List.append_assoc]
      exact .refl _
    · intro x hx
      have : x.1 ∈ d.fs.map (·.1) ++ [l.free] := n2.subset (List.mem_map_of_mem (f := (·.1)) hx)
      rcases List.mem_append.1 this with h3 | h3
      · obtain ⟨z, hz, e⟩ := List.mem_map.1 h3
        rw [← show z.1 = x.1 from e]; exact h.gd.ks z hz
      · rw [List.mem_singleton.1 h3]; exact ⟨f0, f1⟩
    · intro p hp
      rcases List.mem_append.1 hp with hp | hp
      · exact h.gd.tl p hp
      · rw [List.mem_singleton.1 hp]; exact Tail.nil
    · intro p hp x hx
      rcases List.mem_append.1 hp with hp | hp
      · exact h.gd.rl p hp x hx
      · rw [List.mem_singleton.1 hp] at hx; rw [List.mem_singleton.1 hx]; exact hr
    · exact (h.nums.append_right _).trans n2.symm
    · show l.index + 1 = _; rw [hidx]; simp
    · have := Crs.new (f := l.free) h.crs hr
      rw [hcl] at this
      simpa [Int.add_comm] using this
    · intro w hw
      show w.1 ∈ (if l.free ∈ l.dirty then l.dirty else l.dirty ++ [l.free])
      rcases List.mem_append.1 hw with hw | hw
      · have := h.dirt w hw
        split <;> simp [this]
      · rw [List.mem_singleton.1 hw]; split <;> simp [*]
    · intro f hf
      have hf : f ∈ (if l.free ∈ l.dirty then l.dirty else l.dirty ++ [l.free]) := hf
      refine n2.symm.subset ?_
      have h2 : f ∈ l.dirty ∨ f = l.free := by
        split at hf
        · exact .inl hf
        · simpa using hf
      rcases h2 with h2 | h2
      · exact List.mem_append_left _ (h.dirk f h2)
      · simp [h2]
    · show lens (mput d.fs l.free (topB 1 l.turn l.index.toNat ++ unitB r)) ≤ _
      rw [lens_put, cont_no fk]; simp only [List.length_nil, List.length_append, topB_len, unitB_len]; omega
    · show (mput d.fs l.free _).length ≤ _
      rw [mput_new (mget_no fk)]; simp
  · rw [if_neg (fun hh => c hh.1), if_neg (by omega)] at hroom ⊢
    rcases h.cur with hcur | ⟨Q, p, hP, hp1, hp2, hp3⟩
    · omega
    obtain ⟨k1, k2, k3, k4⟩ := h.keyc hP
    rw [hp1] at k1 k2 k3 k4
    have hroom : lens d.fs + ((unitB r).length : Int) ≤ d.room := hroom.elim (fun he => write_room h.on ⟨k2, k3⟩ he) (fun he => by simp only [unitB_len]; omega)
    rw [write_ok h.on ⟨k2, k3⟩ hroom k4, ← cP_add _ _ hp2]
    have hg := h.gd
    have hcr := h.crs
    rw [hP] at hg hcr
    have hrl : ∀ x ∈ p.recs ++ [r], x.length ≤ 65536 := fun x hx => by
      rcases List.mem_append.1 hx with hx | hx
      · exact hg.rl p (by simp) x hx
      · rw [List.mem_singleton.1 hx]; exact hr
    have hg2 : ∀ f, f = p.num → GD l.turn bn l.base (Q ++ [{ p with recs := p.recs ++ [r] }]) [] (mput d.fs f (cP l.turn Q.length { p with recs := p.recs ++ [r] })) := by
      rintro f rfl
      exact hg.setLast (q := { p with recs := p.recs ++ [r] }) rfl (by simp only [hp2]; exact Tail.nil) hrl rfl
    have hg2 := hg2 l.cur hp1.symm
    have hkeys : ∀ f, f = p.num → ((mput d.fs f (cP l.turn Q.length { p with recs := p.recs ++ [r] })).map (·.1)).Perm (d.fs.map (·.1)) := by
      rintro f rfl
      exact ((put_perm (v := cP l.turn Q.length { p with recs := p.recs ++ [r] }) hg.nd hg.last).map (·.1)).trans (hg.last.map (·.1)).symm
    have hkeys := hkeys l.cur hp1.symm
    refine ⟨Q ++ [{ p with recs := p.recs ++ [r] }], rfl, ⟨hg2, h.nums.trans hkeys.symm, ?_, .inr ⟨Q, _, rfl, hp1, hp2, ?_⟩, h.full, h.lives, h.on, ?_, ?_, ?_⟩, by rw [hP]; simp [recsOf_app, recsOf], rfl, rfl, rfl, ?_, rfl, ?_, rfl, rfl, fun ht p' hp' => (List.mem_append.1 hp').elim (fun h => ht p' (by rw [hP]; exact List.mem_append_left _ h)) fun hp' => by rw [List.mem_singleton.1 hp']; exact hp2⟩
    · show l.index = _
      rw [hidx, hP]; simp
    · show l.count + 1 = _
      rw [hp3]; simp
    · have := hcr.old hp2 hr
      have e : ((cP l.turn Q.length p).length : Int) + ((unitB r).length : Int) = ((cP l.turn Q.length { p with recs := p.recs ++ [r] }).length : Int) := by rw [cP_add _ _ hp2, List.length_append]; omega
      rw [← e] at this
      show Crs l.turn _ (d.ws ++ [(l.cur, _)]) P0
      rw [← hp1]
      exact this
    · intro w hw
      show w.1 ∈ (if l.cur ∈ l.dirty then l.dirty else l.dirty ++ [l.cur])
      rcases List.mem_append.1 hw with hw | hw
      · have := h.dirt w hw
        split <;> simp [this]
      · rw [List.mem_singleton.1 hw]; split <;> simp [*]
    · intro f hf
      have hf : f ∈ (if l.cur ∈ l.dirty then l.dirty else l.dirty ++ [l.cur]) := hf
      refine hkeys.symm.subset ?_
      have h2 : f ∈ l.dirty ∨ f = l.cur := by
        split at hf
        · exact .inl hf
        · simpa using hf
      rcases h2 with h2 | h2
      · exact h.dirk f h2
      · rw [h2]; exact k1
    · show lens (mput d.fs l.cur _) ≤ _
      rw [lens_put, k4, cP_add _ _ hp2, List.length_append, unitB_len]; omega
    · show (mput d.fs l.cur _).length ≤ _
      have := hkeys.length_eq
      simp only [List.length_map] at this
      omega
end
end Go.Proofs.Ythladblmjoaeoaa
namespace Go.Proofs.Ythladblmjoaeoaa
set_option linter.unusedVariables false
set_option linter.unusedSimpArgs false
open Go Go.Eng

section
variable {bn : Int} {P P0 : List PT} {d : DS} {l : LS}
theorem find_key {f : Int} (ho : d.on = true) (hf : f ∈ d.fs.map (·.1)) (hr : 0 ≤ f ∧ f < 1000) (hn : (d.fs.map (·.1)).Nodup) : d.find f = 0 := by
  obtain ⟨c, hc⟩ := mem_keys hf
  unfold DS.find DS.ask
  rw [ho, mget_mem hn hc]
  simp only [Bool.not_true, Bool.false_eq_true, if_false]
  rw [if_neg (by omega)]
  simp
theorem drop_eq0 {d : DS} {f : Int} (ho : d.on = true) (hn : (d.fs.map (·.1)).Nodup) (hf : f ∈ d.fs.map (·.1)) (hr : 0 ≤ f ∧ f < 1000) : d.drop f = ({ d with fs := mdel d.fs f, ws := d.ws.filter fun w => !decide (w.1 = f) }, 0) := by
  unfold DS.drop; rw [if_pos (find_key ho hf hr hn)]; rfl
theorem sync_key {f : Int} (ho : d.on = true) (hf : f ∈ d.fs.map (·.1)) (hr : 0 ≤ f ∧ f < 1000) (hn : (d.fs.map (·.1)).Nodup) : d.sync f = (d.safe f, 0) := by
  unfold DS.sync; rw [if_pos (find_key ho hf hr hn)]
theorem GD.key {t : Nat} {base : Bs} {J fs : Fs} (h : GD t bn base P J fs) {f : Int} (hf : f ∈ fs.map (·.1)) : 0 ≤ f ∧ f < 1000 := by
  obtain ⟨z, hz, rfl⟩ := List.mem_map.1 hf; exact h.ks z hz
theorem syncGo_ok : ∀ (L : List Int) {d : DS}, d.on = true → (d.fs.map (·.1)).Nodup → (∀ f ∈ L, f ∈ d.fs.map (·.1) ∧ 0 ≤ f ∧ f < 1000) → syncGo d L = ({ d with ws := d.ws.filter fun w => !decide (w.1 ∈ L) }, 0)
  | [], d, _, _, _ => by
    have : d.ws.filter (fun w => !decide (w.1 ∈ ([] : List Int))) = d.ws := List.filter_eq_self.2 fun w _ => by simp
    rw [this]; rfl
  | f :: L, d, ho, hn, h => by
    obtain ⟨h1, h2⟩ := h f (by simp)
    unfold syncGo
    rw [sync_key ho h1 h2 hn]
    simp only [ne_eq, not_true, if_false]
    rw [syncGo_ok L (d := d.safe f) ho hn fun g hg => h g (by simp [hg])]
    congr 2
    show (d.ws.filter _).filter _ = _
    rw [List.filter_filter]
    refine List.filter_congr fun w _ => ?_
    by_cases e1 : w.1 = f <;> by_cases e2 : w.1 ∈ L <;> simp [e1, e2]
theorem Live.sync (h : Live bn P P0 d l) : LS.sync d l = ({ d with ws := [] }, { l with dirty := [] }, 0) ∧ Live bn P P { d with ws := [] } { l with dirty := [] } := by
  have e : d.ws.filter (fun w => !decide (w.1 ∈ l.dirty)) = [] := List.filter_eq_nil_iff.2 fun w hw => by simp [h.dirt w hw]
  have h1 := syncGo_ok l.dirty h.on h.gd.nd fun f hf => ⟨h.dirk f hf, h.gd.key (h.dirk f hf)⟩
  rw [e] at h1
  refine ⟨?_, h.gd, h.nums, h.idx, h.cur, h.full, h.lives, h.on, .nil P, fun w hw => (by cases hw), fun f hf => (by cases hf)⟩
  unfold LS.sync
  rw [h.done, h1]
  simp
/-- as 'dropGo_ok', of a disk that still has writes, all of them of files that go -/
theorem dropGo_ok2 : ∀ (L : List Int) {d : DS}, d.on = true → (d.fs.map (·.1)).Nodup → L.Nodup → (∀ f ∈ L, f ∈ d.fs.map (·.1) ∧ 0 ≤ f ∧ f < 1000) → dropGo d L = { d with fs := delAll d.fs L, ws := d.ws.filter fun w => !decide (w.1 ∈ L) }
  | [], d, _, _, _, _ => by
    have : d.ws.filter (fun w => !decide (w.1 ∈ ([] : List Int))) = d.ws := List.filter_eq_self.2 fun w _ => by simp
    rw [this]; rfl
  | f :: L, d, ho, hn, hd, h => by
    obtain ⟨h1, h2⟩ := h f (by simp)
    have hd2 := List.nodup_cons.1 hd
    have e : d.drop f = ({ d with fs := mdel d.fs f, ws := d.ws.filter fun w => !decide (w.1 = f) }, 0) := by
      unfold DS.drop; rw [if_pos (find_key ho h1 h2 hn)]; rfl
    unfold dropGo
    rw [e, dropGo_ok2 L (d := { d with fs := mdel d.fs f, ws := d.ws.filter fun w => !decide (w.1 = f) }) ho (nd_del hn h1) hd2.2 fun g hg => ⟨(cont_del hn h1 (h g (by simp [hg])).1 (fun e => hd2.1 (e ▸ hg))).1, (h g (by simp [hg])).2⟩]
    simp only [delAll, List.filter_filter]
    congr 1
    refine List.filter_congr fun w _ => ?_
    by_cases e1 : w.1 = f <;> by_cases e2 : w.1 ∈ L <;> simp [e1, e2]
theorem Crs.nums {t : Nat} {ws : List Wr} (hc : Crs t P ws P0) : ∀ w ∈ ws, ∃ p ∈ P, p.num = w.1 := by
  induction hc with
  | nil => intro w hw; cases hw
  | @old P p ws P0 r h ht hr ih =>
    intro w hw
    rcases List.mem_append.1 hw with hw | hw
    · obtain ⟨q, hq, e⟩ := ih w hw
      rcases List.mem_append.1 hq with hq | hq
      · exact ⟨q, by simp [hq], e⟩
      · rw [List.mem_singleton.1 hq] at e
        exact ⟨_, List.mem_append_right _ (List.mem_singleton.2 rfl), e⟩
    · rw [List.mem_singleton.1 hw]; exact ⟨_, List.mem_append_right _ (List.mem_singleton.2 rfl), rfl⟩
  | @new P ws P0 f r h hr ih =>
    intro w hw
    rcases List.mem_append.1 hw with hw | hw
    · obtain ⟨q, hq, e⟩ := ih w hw
      exact ⟨q, by simp [hq], e⟩
    · rw [List.mem_singleton.1 hw]; exact ⟨_, List.mem_append_right _ (List.mem_singleton.2 rfl), rfl⟩
theorem Live.keep (h : Live bn P P0 d l) {b : Bs} (hb : b.length ≤ 65536) (hn : d.fs.length < 1000) (ht : l.turn + 1 < 2 ^ 62) (hroom : lens d.fs + 44 + (b.length : Int) ≤ d.room) :
    ∃ bn', (LS.keep d l b).2.2 = 0 ∧ Live bn' [] [] (LS.keep d l b).1 (LS.keep d l b).2.1 ∧ (LS.keep d l b).2.1.base = b ∧ (LS.keep d l b).2.1.recs = [] ∧ (LS.keep d l b).2.1.part = l.part ∧ (LS.keep d l b).2.1.turn = l.turn + 1 ∧
      lens (LS.keep d l b).1.fs ≤ 44 + (b.length : Int) ∧ (LS.keep d l b).1.room = d.room ∧ (LS.keep d l b).1.fs.length = 1 ∧ (LS.keep d l b).1.lives = d.lives := by
  obtain ⟨f0, f1, f2⟩ := free_lt (l := l) (by rw [h.nlen]; exact hn)
  have fk : l.free ∉ d.fs.map (·.1) := fun hm => f2 (h.nums.symm.subset hm)
  have e1 : LS.write d l l.free (topB 0 (l.turn + 1) 0 ++ unitB b) = ({ d with fs := mput d.fs l.free (cB (l.turn + 1) b), ws := d.ws ++ [((l.free, 0, ((topB 0 (l.turn + 1) 0 ++ unitB b).length : Int)) : Wr)] }, { l with dirty := if l.free ∈ l.dirty then l.dirty else l.dirty ++ [l.free] }, 0) := by
    rw [write_ok h.on ⟨f0, f1⟩ (by simp only [List.length_append, topB_len, unitB_len]; omega) (cont_no fk)]
    simp [cB]
  have hpm : (mput d.fs l.free (cB (l.turn + 1) b)).Perm ([(l.free, cB (l.turn + 1) b)] ++ d.fs) := (new_perm fk (.refl _)).trans List.perm_append_comm
  obtain ⟨n1, n2⟩ := new_file (c := cB (l.turn + 1) b) h.gd.nd fk
  have hall : ∀ f ∈ l.nums, f ∈ (mput d.fs l.free (cB (l.turn + 1) b)).map (·.1) ∧ 0 ≤ f ∧ f < 1000 := fun f hf => by
    have hf := h.nums.subset hf
    exact ⟨n2.symm.subset (List.mem_append_left _ hf), h.gd.key hf⟩
  have hnd : l.nums.Nodup := h.nums.nodup_iff.2 h.gd.nd
  have e2 : DS.sync { d with fs := mput d.fs l.free (cB (l.turn + 1) b), ws := d.ws ++ [((l.free, 0, ((topB 0 (l.turn + 1) 0 ++ unitB b).length : Int)) : Wr)] } l.free = ({ d with fs := mput d.fs l.free (cB (l.turn + 1) b), ws := d.ws.filter fun w => !decide (w.1 = l.free) }, 0) := by
    rw [sync_key (d := { d with fs := mput d.fs l.free (cB (l.turn + 1) b), ws := d.ws ++ [((l.free, 0, ((topB 0 (l.turn + 1) 0 ++ unitB b).length : Int)) : Wr)] }) h.on (n2.symm.subset (List.mem_append_right _ (List.mem_singleton.2 rfl))) ⟨f0, f1⟩ n1]
    unfold DS.safe
    simp
  have hws : ((d.ws.filter fun w => !decide (w.1 = l.free)).filter fun w => !decide (w.1 ∈ l.nums)) = [] := by
    refine List.filter_eq_nil_iff.2 fun w hw => ?_
    have hw := (List.mem_filter.1 hw).1
    have := h.nums.symm.subset (h.dirk _ (h.dirt w hw))
    simp [this]
  obtain ⟨g1, g2⟩ := delAll_perm l.nums n1 hpm h.nums
  have hl1 : (delAll (mput d.fs l.free (cB (l.turn + 1) b)) l.nums) = [(l.free, cB (l.turn + 1) b)] := List.perm_singleton.1 g1
  have hk : LS.keep d l b = ({ d with fs := [(l.free, cB (l.turn + 1) b)], ws := [] }, { l with turn := l.turn + 1, nums := [l.free], dirty := [], cur := -1, count := 0, index := 0, base := b, recs := [] }, 0) := by
    unfold LS.keep
    rw [h.done, if_neg (by simp), if_neg (by omega), if_neg (by omega), e1]
    simp only [ne_eq, not_true, if_false]
    rw [e2]
    simp only
    rw [dropGo_ok2 l.nums (d := { d with fs := mput d.fs l.free (cB (l.turn + 1) b), ws := d.ws.filter fun w => !decide (w.1 = l.free) }) h.on n1 hnd hall]
    simp only [hws, hl1]
  rw [hk]
  refine ⟨l.free, rfl, ⟨⟨?_, by simp, ?_, fun p hp => (by cases hp), fun p hp => (by cases hp), fun h => (by simp at h), hb, fun x hx => (by cases hx), ht⟩, .refl _, rfl, .inl rfl, h.full, h.lives, h.on, .nil _, fun w hw => (by cases hw), fun f hf => (by cases hf)⟩, rfl, rfl, rfl, rfl, ?_, rfl, rfl, rfl⟩
  · simp only [bfs, if_neg (Nat.succ_ne_zero l.turn), pfs, List.append_nil]; exact .refl _
  · intro x hx
    rw [List.mem_singleton.1 hx]; exact ⟨f0, f1⟩
  · simp only [lens, List.map_cons, List.map_nil, List.sum_cons, List.sum_nil, cB, List.length_append, topB_len, unitB_len]; omega
end

/-! ### a log is opened -/
def whole (f : FX) : Bool := decide (f.kind = 0) && decide (f.recs.length = 1) && !f.torn
def lastCur : List FX → Int
  | [] => -1
  | [f] => if f.torn then -1 else f.num
  | _ :: l => lastCur l
def lastCount : List FX → Int
  | [] => 0
  | [f] => f.recs.length
  | _ :: l => lastCount l
theorem sync_id {d : DS} {f : Int} (hw : d.ws = []) : (d.sync f).1 = d := by
  unfold DS.sync DS.safe
  rw [hw]
  split
  · cases d; simp only [List.filter_nil] at *; rw [← hw]
  · rfl
theorem pfx_num (t : Nat) : ∀ (P : List PT) (i : Nat), (pfx t i P).map (·.num) = P.map (·.num)
  | [], _ => rfl
  | p :: P, i => by simp [pfx, pfx_num t P]
theorem pfs_num (t : Nat) : ∀ (P : List PT) (i : Nat), (pfs t i P).map (·.1) = P.map (·.num)
  | [], _ => rfl
  | p :: P, i => by simp [pfs, pfs_num t P]
theorem pfx_mem {t : Nat} : ∀ {P : List PT} {i : Nat} {f : FX}, f ∈ pfx t i P → f.turn = t ∧ f.kind = 1 ∧ i ≤ f.index
  | p :: P, i, f, h => by
    rcases List.mem_cons.1 h with rfl | h
    · exact ⟨rfl, rfl, Nat.le_refl _⟩
    · have := pfx_mem h; exact ⟨this.1, this.2.1, by omega⟩
theorem pfx_sorted (t : Nat) : ∀ (P : List PT) (i : Nat), (pfx t i P).Pairwise fun a b => a.index < b.index
  | [], _ => .nil
  | p :: P, i => List.pairwise_cons.2 ⟨fun f hf => by have := (pfx_mem hf).2.2; show i < f.index; omega, pfx_sorted t P (i + 1)⟩
theorem pfx_recs (t : Nat) : ∀ (P : List PT) (i : Nat), (pfx t i P).flatMap (·.recs) = recsOf P
  | [], _ => rfl
  | p :: P, i => by simp [pfx, recsOf, pfx_recs t P]
theorem pfx_len (t : Nat) : ∀ (P : List PT) (i : Nat), (pfx t i P).length = P.length
  | [], _ => rfl
  | p :: P, i => by simp [pfx, pfx_len t P]
theorem pfx_at (t : Nat) : ∀ (P : List PT) (i j : Nat) (f : FX), (pfx t i P)[j]? = some f → f.index = i + j
  | p :: P, i, 0, f, h => by cases h; rfl
  | p :: P, i, j + 1, f, h => by
    have := pfx_at t P (i + 1) j f h
    omega
theorem last_pfx (t : Nat) : ∀ (P : List PT) (i : Nat), (P = [] ∧ lastCur (pfx t i P) = -1 ∧ lastCount (pfx t i P) = 0) ∨ (∃ Q p, P = Q ++ [p] ∧ lastCount (pfx t i P) = p.recs.length ∧ lastCur (pfx t i P) = if p.tail = [] then p.num else -1)
  | [], _ => .inl ⟨rfl, rfl, rfl⟩
  | [p], i => .inr ⟨[], p, rfl, rfl, by
    show (if (!p.tail.isEmpty) = true then (-1 : Int) else p.num) = _
    cases p.tail <;> simp⟩
  | p :: q :: P, i => by
    rcases last_pfx t (q :: P) (i + 1) with ⟨h, _⟩ | ⟨Q, r, h1, h2, h3⟩
    · cases h
    · exact .inr ⟨p :: Q, r, by rw [h1]; rfl, h2, h3⟩
theorem sorted_uniq {l m : List FX} (hp : l.Perm m) (hl : l.Pairwise fun a b => a.index ≤ b.index) (hm : m.Pairwise fun a b => a.index < b.index) : l = m := by
  have hi : ∀ a ∈ m, ∀ b ∈ m, a.index = b.index → a = b := by
    intro a ha b hb e
    obtain ⟨i, hi, rfl⟩ := List.mem_iff_getElem.1 ha
    obtain ⟨j, hj, rfl⟩ := List.mem_iff_getElem.1 hb
    have h1 := List.pairwise_iff_getElem.1 hm
    rcases Nat.lt_trichotomy i j with h | h | h
    · have := h1 i j hi hj h; omega
    · subst h; rfl
    · have := h1 j i hj hi h; omega
  exact List.Perm.eq_of_pairwise (fun a b ha hb h1 h2 => hi a (hp.subset ha) b hb (by omega)) hl (hm.imp fun h => Nat.le_of_lt h) hp
/-- the log that is opened, when the parts are in order -/
abbrev openL (part lives : Int) (t : Nat) (base : Bs) (nums : List Int) (ps : List FX) : LS := ⟨part, lives, t, nums, lastCur ps, lastCount ps, ps.length, [], base, ps.flatMap (·.recs), false⟩
theorem open_live {t : Nat} {bn : Int} {base : Bs} {P : List PT} {J : Fs} {d : DS} {ns : List Int} (part : Int) (h : GD t bn base P J d.fs) (ho : d.on = true) (hw : d.ws = []) (hns : ns.Perm (d.fs.map (·.1))) :
    ∃ fs' all, readGo d ns [] = ({ d with fs := fs' }, some all) ∧ all.Perm (bfx t bn base ++ pfx t 0 P) ∧
      Live bn P P { d with fs := fs' } (openL part d.lives t base (all.map fun f : FX => f.num) (pfx t 0 P)) ∧ fs'.length ≤ d.fs.length ∧ lens fs' ≤ lens d.fs := by
  obtain ⟨fs', all, h1, h2, h3⟩ := read_ok h ho hw hns
  have hnums : (all.map (fun f : FX => f.num)).Perm (fs'.map (·.1)) := by
    refine (h2.map _).trans (.trans ?_ (h3.pm.map _).symm)
    rw [List.map_append, List.map_append, List.append_nil, pfx_num, pfs_num]
    have : (bfx t bn base).map (·.num) = (bfs t bn base).map (·.1) := by unfold bfx bfs; split <;> rfl
    rw [this]
  refine ⟨fs', all, h1, h2, ⟨h3, hnums, by simp [openL, pfx_len], ?_, rfl, rfl, ho, ?_, fun w hw2 => ?_, fun f hf => (by cases hf)⟩, ?_, ?_⟩
  · rcases last_pfx t P 0 with ⟨_, h5, _⟩ | ⟨Q, p, h4, h5, h6⟩
    · exact .inl h5
    · by_cases c : p.tail = []
      · rw [if_pos c] at h6
        exact .inr ⟨Q, p, h4, h6.symm, c, h5⟩
      · rw [if_neg c] at h6
        exact .inl h6
  · show Crs t P d.ws P
    rw [hw]; exact .nil P
  · have : w ∈ d.ws := hw2
    rw [hw] at this; cases this
  · have e1 := h3.pm.length_eq
    have e2 := h.pm.length_eq
    simp only [List.length_append, List.length_nil] at e1 e2
    omega
  · have e1 : lens fs' = lens (bfs t bn base ++ (pfs t 0 P ++ [])) := lens_perm h3.pm
    have e2 : lens d.fs = lens (bfs t bn base ++ (pfs t 0 P ++ J)) := lens_perm h.pm
    have e3 : ∀ a b : Fs, lens (a ++ b) = lens a + lens b := fun a b => by simp [lens, List.sum_append]
    rw [e1, e2, e3, e3, e3, e3]
    have := lens_nonneg J
    have : lens [] = 0 := rfl
    omega
end Go.Proofs.Ythladblmjoaeoaa
namespace Go.Proofs.Ythladblmjoaeoaa
set_option linter.unusedVariables false
set_option linter.unusedSimpArgs false
open Go.Eng
/-! ### rostrum/frame.Put (82) -/
def S.frame_Put.body (R : Value → World → Prop) (v0 v1 : Value) (W : World) : Prop :=
  okF (lenP (.slice T_uint8) v1) fun v9 =>
  okF (binP .gtr v9 (.int .i64 65536)) fun v10 =>
  ifK v10 (
  R (.tuple #[(.slice none 0 0), (.int .i64 2)]) W) (
  okF (lenP (.slice T_uint8) v1) fun v12 =>
  okF (cvtP (.int .u32) v12) fun v13 =>
  callK PR F_frame_number [v13] (fun v14 W =>
  callK PR F_bytes_Clone [v0] (fun v16 W =>
  efK PR (Instr.buildSlice T_s_uint8 1 #[(0, (.int .u8 1))]) (fun v17 W =>
  efK PR (Builtin.append_ #[T_s_uint8, T_s_uint8] T_s_uint8 #[v16, v17]) (fun v18 W =>
  efK PR (Builtin.append_ #[T_s_uint8, T_s_uint8] T_s_uint8 #[v18, v14]) (fun v21 W =>
  efK PR (Instr.buildSlice T_s_s_uint8 2 #[(0, v14), (1, v1)]) (fun v25 W =>
  callK PR F_crc_Of [v25] (fun v26 W =>
  callK PR F_frame_number [v26] (fun v27 W =>
  efK PR (Builtin.append_ #[T_s_uint8, T_s_uint8] T_s_uint8 #[v21, v27]) (fun v28 W =>
  efK PR (Builtin.append_ #[T_s_uint8, T_s_uint8] T_s_uint8 #[v28, v1]) (fun v31 W =>
  R (.tuple #[v31, (.int .i64 0)]) W) W) W) W) W) W) W) W) W) W) W)
def S.frame_Put.hint : Hint := (.two .nil (.two (.two .nil (.two (.two .nil .nil) .nil)) (.two .nil (.two .nil (.two .nil (.two .nil (.two .nil .nil)))))))
theorem S.frame_Put.ok (R : Value → World → Prop) (v0 v1 : Value) (W : World) : bodyK PR CB Try.f82 S.frame_Put.hint [v0, v1] R W = S.frame_Put.body R v0 v1 W := by kernel_rfl
theorem S.frame_Put.fn : PR.funcs[F_frame_Put]? = some Try.f82 := by kernel_rfl
theorem S.frame_Put.call {R : Value → World → Prop} {v0 v1 : Value} {W : World} (h : S.frame_Put.body R v0 v1 W) : callK PR F_frame_Put [v0, v1] R W :=
  callK_of_body (g := F_frame_Put) (fn := Try.f82) (args := [v0, v1]) (R := R) (w := W) mixed CBok S.frame_Put.fn S.frame_Put.hint (by rw [S.frame_Put.ok]; exact h)
/-! ### rostrum/frame.Get (94) -/
def S.frame_Get.body (R : Value → World → Prop) (v0 : Value) (W : World) : Prop :=
  okF (lenP (.slice T_uint8) v0) fun v7 =>
  okF (binP .eql v7 (.int .i64 0)) fun v8 =>
  ifK v8 (
  R (.tuple #[(.slice none 0 0), (.slice none 0 0), (.int .i64 8)]) W) (
  okF (lenP (.slice T_uint8) v0) fun v11 =>
  okF (foldP min2P [(.int .i64 5), v11]) fun v12 =>
  okF (slcS 1 v0 (some (.int .i64 1)) (some v12) none) fun v13 =>
  callK PR F_frame_read [v13] (fun v14 W =>
  okF (idxS 1 v0 (.int .i64 0)) fun v16 =>
  rdK PR (Instr.loadAt T_uint8 v16) (fun v17 W =>
  okF (binP .neq v17 (.int .u8 1)) fun v18 =>
  gdK (wantd v18 false) (fun k W => k v14 W) (fun v20 W =>
  gdK (wantd v18 false) (fun k W => okF (binP .gtr v20 (.int .u32 65536)) fun v => k v W) (fun v21 W =>
  okF (pickP v18 (.bool true) v21) fun v22 =>
  ifK v22 (
  R (.tuple #[(.slice none 0 0), (.slice none 0 0), (.int .i64 3)]) W) (
  okF (lenP (.slice T_uint8) v0) fun v24 =>
  okF (cvtP (.int .i64) v14) fun v26 =>
  okF (binP .add (.int .i64 9) v26) fun v27 =>
  okF (binP .lss v24 v27) fun v28 =>
  ifK v28 (
  R (.tuple #[(.slice none 0 0), (.slice none 0 0), (.int .i64 8)]) W) (
  okF (cvtP (.int .i64) v14) fun v31 =>
  okF (binP .add (.int .i64 9) v31) fun v32 =>
  okF (slcS 1 v0 (some (.int .i64 9)) (some v32) none) fun v33 =>
  okF (cvtP (.int .i64) v14) fun v36 =>
  okF (binP .add (.int .i64 9) v36) fun v37 =>
  okF (slcS 1 v0 (some v37) none none) fun v38 =>
  okF (slcS 1 v0 (some (.int .i64 1)) (some (.int .i64 5)) none) fun v40 =>
  okF (slcS 1 v0 (some (.int .i64 5)) (some (.int .i64 9)) none) fun v45 =>
  efK PR (Instr.buildSlice T_s_s_uint8 2 #[(0, v40), (1, v33)]) (fun v42 W =>
  callK PR F_crc_Of [v42] (fun v43 W =>
  callK PR F_frame_read [v45] (fun v46 W =>
  okF (binP .neq v43 v46) fun v47 =>
  ifK v47 (
  R (.tuple #[(.slice none 0 0), (.slice none 0 0), (.int .i64 3)]) W) (
  callK PR F_bytes_Clone [v33] (fun v49 W =>
  callK PR F_bytes_Clone [v38] (fun v51 W =>
  R (.tuple #[v49, v51, (.int .i64 0)]) W) W) W)) W) W) (tick (tick W))))) W) W) W) W)
def S.frame_Get.hint : Hint := (.two .nil (.two (.two .nil (.two (.two .nil .nil) .nil)) (.two .nil (.two (.two .nil (.two (.two .nil .nil) .nil)) (.two (.two .nil (.two (.two .nil .nil) .nil)) (.two .nil (.two (.two .nil (.two (.two .nil .nil) .nil)) (.two .nil .nil))))))))
theorem S.frame_Get.ok (R : Value → World → Prop) (v0 : Value) (W : World) : bodyK PR CB Try.f94 S.frame_Get.hint [v0] R W = S.frame_Get.body R v0 W := by kernel_rfl
theorem S.frame_Get.fn : PR.funcs[F_frame_Get]? = some Try.f94 := by kernel_rfl
theorem S.frame_Get.call {R : Value → World → Prop} {v0 : Value} {W : World} (h : S.frame_Get.body R v0 W) : callK PR F_frame_Get [v0] R W :=
  callK_of_body (g := F_frame_Get) (fn := Try.f94) (args := [v0]) (R := R) (w := W) mixed CBok S.frame_Get.fn S.frame_Get.hint (by rw [S.frame_Get.ok]; exact h)
/-! ### rostrum/frame.number (103) -/
def S.frame_number.body (R : Value → World → Prop) (v0 : Value) (W : World) : Prop :=
  okF (cvtP (.int .u8) v0) fun v4 =>
  okF (binP .shr v0 (.int .u64 8)) fun v6 =>
  okF (cvtP (.int .u8) v6) fun v7 =>
  okF (binP .shr v0 (.int .u64 16)) fun v9 =>
  okF (cvtP (.int .u8) v9) fun v10 =>
  okF (binP .shr v0 (.int .u64 24)) fun v12 =>
  okF (cvtP (.int .u8) v12) fun v13 =>
  efK PR (Instr.buildSlice T_s_uint8 4 #[(0, v4), (1, v7), (2, v10), (3, v13)]) (fun v14 W =>
  R v14 W) W
def S.frame_number.hint : Hint := (.two .nil (.two .nil .nil))
theorem S.frame_number.ok (R : Value → World → Prop) (v0 : Value) (W : World) : bodyK PR CB Try.f103 S.frame_number.hint [v0] R W = S.frame_number.body R v0 W := by kernel_rfl
theorem S.frame_number.fn : PR.funcs[F_frame_number]? = some Try.f103 := by kernel_rfl
theorem S.frame_number.call {R : Value → World → Prop} {v0 : Value} {W : World} (h : S.frame_number.body R v0 W) : callK PR F_frame_number [v0] R W :=
  callK_of_body (g := F_frame_number) (fn := Try.f103) (args := [v0]) (R := R) (w := W) mixed CBok S.frame_number.fn S.frame_number.hint (by rw [S.frame_number.ok]; exact h)
/-! ### rostrum/frame.read (110) -/
def S.frame_read.j1 (R : Value → World → Prop) (x3 : Value) (W : World) : Prop :=
  R x3 W
def S.frame_read.l1 (J1 : List Value → World → Prop) (K1 : List Value → World → Prop) (x3 x6 x7 x8 : Value) (W : World) : Prop :=
  okF (binP .lss x8 x7) fun v9 =>
  ifK v9 (
  okF (idxS 1 x6 x8) fun v11 =>
  rdK PR (Instr.loadAt T_uint8 v11) (fun v12 W =>
  okF (cvtP (.int .u32) v12) fun v15 =>
  okF (binP .mul (.int .i64 8) x8) fun v17 =>
  okF (binP .shl v15 v17) fun v18 =>
  okF (binP .or x3 v18) fun v19 =>
  okF (binP .add x8 (.int .i64 1)) fun v20 =>
  K1 [v19, x6, x7, v20] W) W) (
  J1 [x3] W)
def S.frame_read.body (R : Value → World → Prop) (v0 : Value) (W : World) : Prop :=
  joinK (fun s W => S.frame_read.j1 R (nthv s 0) W) (fun J1 =>
  okF (lenP (.slice T_uint8) v0) fun v7 =>
  loopK (fun K1 s W => S.frame_read.l1 J1 K1 (nthv s 0) (nthv s 1) (nthv s 2) (nthv s 3) W) [(.int .u32 0), v0, v7, (.int .i64 0)] W)
def S.frame_read.hint : Hint := (.two .nil (.two .nil (.at [3] (.two .nil (.at [3, 6, 7, 8] (.two .nil (.two (.two .nil .nil) (.two (.two .nil .nil) .nil))) .nil)) (.two .nil .nil))))
theorem S.frame_read.ok (R : Value → World → Prop) (v0 : Value) (W : World) : bodyK PR CB Try.f110 S.frame_read.hint [v0] R W = S.frame_read.body R v0 W := by kernel_rfl
theorem S.frame_read.fn : PR.funcs[F_frame_read]? = some Try.f110 := by kernel_rfl
theorem S.frame_read.call {R : Value → World → Prop} {v0 : Value} {W : World} (h : S.frame_read.body R v0 W) : callK PR F_frame_read [v0] R W :=
  callK_of_body (g := F_frame_read) (fn := Try.f110) (args := [v0]) (R := R) (w := W) mixed CBok S.frame_read.fn S.frame_read.hint (by rw [S.frame_read.ok]; exact h)
/-! ### rostrum/crc.Of (104) -/
def S.crc_Of.j1 (R : Value → World → Prop) (x3 : Value) (W : World) : Prop :=
  okF (unP .xor x3) fun v39 =>
  R v39 W
def S.crc_Of.j2 (K1 : List Value → World → Prop) (x3 x9 x10 x11 : Value) (W : World) : Prop :=
  okF (binP .add x11 (.int .i64 1)) fun v37 =>
  K1 [x3, x9, x10, v37] W
def S.crc_Of.j3 (K2 : List Value → World → Prop) (x3 x9 x10 x11 x15 x16 x17 : Value) (W : World) : Prop :=
  okF (binP .add x17 (.int .i64 1)) fun v36 =>
  K2 [x3, x9, x10, x11, x15, x16, v36] W
def S.crc_Of.j4 (K3 : List Value → World → Prop) (x3 x9 x10 x11 x15 x16 x17 x25 : Value) (W : World) : Prop :=
  okF (binP .add x25 (.int .i64 1)) fun v35 =>
  K3 [x3, x9, x10, x11, x15, x16, x17, v35] W
def S.crc_Of.l3 (J3 : List Value → World → Prop) (K3 : List Value → World → Prop) (x3 x9 x10 x11 x15 x16 x17 x25 : Value) (W : World) : Prop :=
  okF (binP .lss x25 (.int .i64 8)) fun v26 =>
  ifK v26 (
  joinK (fun s W => S.crc_Of.j4 K3 (nthv s 0) (nthv s 1) (nthv s 2) (nthv s 3) (nthv s 4) (nthv s 5) (nthv s 6) (nthv s 7) W) (fun J4 =>
  okF (binP .and x3 (.int .u32 1)) fun v28 =>
  okF (binP .shr x3 (.int .u64 1)) fun v30 =>
  okF (binP .eql v28 (.int .u32 1)) fun v32 =>
  ifK v32 (
  okF (binP .xor v30 (.int .u32 3988292384)) fun v34 =>
  J4 [v34, x9, x10, x11, x15, x16, x17, x25] W) (
  J4 [v30, x9, x10, x11, x15, x16, x17, x25] W))) (
  J3 [x3, x9, x10, x11, x15, x16, x17] W)
def S.crc_Of.l2 (J2 : List Value → World → Prop) (K2 : List Value → World → Prop) (x3 x9 x10 x11 x15 x16 x17 : Value) (W : World) : Prop :=
  okF (binP .lss x17 x16) fun v18 =>
  ifK v18 (
  joinK (fun s W => S.crc_Of.j3 K2 (nthv s 0) (nthv s 1) (nthv s 2) (nthv s 3) (nthv s 4) (nthv s 5) (nthv s 6) W) (fun J3 =>
  okF (idxS 1 x15 x17) fun v19 =>
  rdK PR (Instr.loadAt T_uint8 v19) (fun v20 W =>
  okF (cvtP (.int .u32) v20) fun v23 =>
  okF (binP .xor x3 v23) fun v24 =>
  loopK (fun K3 s W => S.crc_Of.l3 J3 K3 (nthv s 0) (nthv s 1) (nthv s 2) (nthv s 3) (nthv s 4) (nthv s 5) (nthv s 6) (nthv s 7) W) [v24, x9, x10, x11, x15, x16, x17, (.int .i64 0)] W) W)) (
  J2 [x3, x9, x10, x11] W)
def S.crc_Of.l1 (J1 : List Value → World → Prop) (K1 : List Value → World → Prop) (x3 x9 x10 x11 : Value) (W : World) : Prop :=
  okF (binP .lss x11 x10) fun v12 =>
  ifK v12 (
  joinK (fun s W => S.crc_Of.j2 K1 (nthv s 0) (nthv s 1) (nthv s 2) (nthv s 3) W) (fun J2 =>
  okF (idxS 1 x9 x11) fun v13 =>
  rdK PR (Instr.loadAt T_s_uint8 v13) (fun v14 W =>
  okF (lenP (.slice T_uint8) v14) fun v16 =>
  loopK (fun K2 s W => S.crc_Of.l2 J2 K2 (nthv s 0) (nthv s 1) (nthv s 2) (nthv s 3) (nthv s 4) (nthv s 5) (nthv s 6) W) [x3, x9, x10, x11, v14, v16, (.int .i64 0)] W) W)) (
  J1 [x3] W)
def S.crc_Of.body (R : Value → World → Prop) (v0 : Value) (W : World) : Prop :=
  joinK (fun s W => S.crc_Of.j1 R (nthv s 0) W) (fun J1 =>
  okF (lenP (.slice T_s_uint8) v0) fun v10 =>
  loopK (fun K1 s W => S.crc_Of.l1 J1 K1 (nthv s 0) (nthv s 1) (nthv s 2) (nthv s 3) W) [(.int .u32 4294967295), v0, v10, (.int .i64 0)] W)
def S.crc_Of.hint : Hint := (.two .nil (.two .nil (.at [3] (.two .nil (.at [3, 9, 10, 11] (.two .nil (.two (.two .nil .nil) (.at [3, 9, 10, 11] (.two .nil (.two .nil (.at [3, 9, 10, 11, 15, 16, 17] (.two .nil (.two (.two .nil .nil) (.at [3, 9, 10, 11, 15, 16, 17] (.two .nil (.two .nil (.two .nil (.at [3, 9, 10, 11, 15, 16, 17, 25] (.two .nil (.two (.two .nil .nil) (.at [3, 9, 10, 11, 15, 16, 17, 25] (.two .nil (.two .nil (.two .nil (.two .nil .nil)))) .nil))) .nil)))) .nil))) .nil))) .nil))) .nil)) (.two .nil .nil))))
theorem S.crc_Of.ok (R : Value → World → Prop) (v0 : Value) (W : World) : bodyK PR CB Try.f104 S.crc_Of.hint [v0] R W = S.crc_Of.body R v0 W := by kernel_rfl
theorem S.crc_Of.fn : PR.funcs[F_crc_Of]? = some Try.f104 := by kernel_rfl
theorem S.crc_Of.call {R : Value → World → Prop} {v0 : Value} {W : World} (h : S.crc_Of.body R v0 W) : callK PR F_crc_Of [v0] R W :=
  callK_of_body (g := F_crc_Of) (fn := Try.f104) (args := [v0]) (R := R) (w := W) mixed CBok S.crc_Of.fn S.crc_Of.hint (by rw [S.crc_Of.ok]; exact h)
end Go.Proofs.Ythladblmjoaeoaa
namespace Go.Proofs.Ythladblmjoaeoaa
set_option linter.unusedVariables false
set_option linter.unusedSimpArgs false
open Go Go.Eng

theorem u32w (n : Int) : IntKind.u32.wrap n = n % 4294967296 := by
  unfold IntKind.wrap
  have : IntKind.u32.signed = false := rfl
  simp only [this, Bool.false_and, Bool.false_eq_true, if_false]
  rfl
theorem ofInt_toNat32 (n : Int) (h0 : 0 ≤ n) (h1 : n < 4294967296) : (BitVec.ofInt 32 n).toNat = n.toNat := by
  rw [BitVec.toNat_ofInt]; congr 1; exact Int.emod_eq_of_lt h0 h1
theorem xor32 {a b : Nat} (ha : a < 2 ^ 32) (hb : b < 2 ^ 32) : IntKind.u32.wrap (BitVec.ofInt 32 (a : Int) ^^^ BitVec.ofInt 32 (b : Int)).toNat = ((a ^^^ b : Nat) : Int) := by
  rw [BitVec.toNat_xor, ofInt_toNat32 _ (by omega) (by omega), ofInt_toNat32 _ (by omega) (by omega), Int.toNat_natCast, Int.toNat_natCast, u32w]
  have := Nat.xor_lt_two_pow ha hb
  omega
theorem and32 {u : Nat} (h : u < 2 ^ 32) : IntKind.u32.wrap (BitVec.ofInt 32 (u : Int) &&& BitVec.ofInt 32 1).toNat = ((u % 2 : Nat) : Int) := by
  have h1 : (BitVec.ofInt 32 1).toNat = 1 := by decide
  rw [BitVec.toNat_and, ofInt_toNat32 _ (by omega) (by omega), h1, Int.toNat_natCast, Nat.and_one_is_mod, u32w]; omega
theorem shr32 (u k : Nat) (hk : k ≤ 32) : ((u : Int).fdiv (2 ^ (min ((k : Nat) : Int).toNat IntKind.u32.bits))) = ((u / 2 ^ k : Nat) : Int) := by
  have h64 : IntKind.u32.bits = 32 := rfl
  rw [h64, Int.toNat_natCast, Nat.min_eq_left hk, Int.fdiv_eq_ediv_of_nonneg _ (by exact Int.pow_nonneg (by decide))]
  rw [Int.natCast_ediv, Int.natCast_pow]; rfl
theorem not32 {u : Nat} (h : u < 2 ^ 32) : unP .xor (.int .u32 (u : Int)) = some (.int .u32 ((4294967295 - u : Nat) : Int)) := by
  have e : BitVec.ofInt 32 (if IntKind.u32.signed = true then -1 else IntKind.u32.max) = BitVec.allOnes 32 := by decide
  show some (Value.int .u32 (IntKind.u32.wrap ((BitVec.ofInt 32 (if IntKind.u32.signed = true then -1 else IntKind.u32.max) ^^^ BitVec.ofInt 32 (u : Int)).toNat : Nat))) = _
  rw [e, BitVec.xor_comm, BitVec.xor_allOnes, BitVec.toNat_not, ofInt_toNat32 _ (by omega) (by omega), u32w]
  congr 2; omega
theorem xor32' {a b : Nat} (ha : a < 2 ^ 32) (hb : b < 2 ^ 32) : IntKind.u32.wrap (BitVec.ofInt IntKind.u32.bits (a : Int) ^^^ BitVec.ofInt IntKind.u32.bits (b : Int)).toNat = ((a ^^^ b : Nat) : Int) := xor32 ha hb
theorem and32' {u : Nat} (h : u < 2 ^ 32) : IntKind.u32.wrap (BitVec.ofInt IntKind.u32.bits (u : Int) &&& BitVec.ofInt IntKind.u32.bits 1).toNat = ((u % 2 : Nat) : Int) := and32 h
theorem pow256 (i : Nat) : (2 : Nat) ^ (8 * i) = 256 ^ i := by rw [Nat.pow_mul]
theorem shlB {K : IntKind} (x i N : Nat) (hb : K.bits = N) (hi : 8 * i ≤ N) (hw : ∀ n : Int, 0 ≤ n → n < 2 ^ N → K.wrap n = n) (hx : x * 256 ^ i < 2 ^ N) : K.wrap ((x : Int) * 2 ^ (min ((8 * i : Nat) : Int).toNat K.bits)) = ((x * 256 ^ i : Nat) : Int) := by
  rw [hb, Int.toNat_natCast, Nat.min_eq_left hi]
  have : (2 : Int) ^ (8 * i) = ((256 ^ i : Nat) : Int) := by rw [← pow256, Int.natCast_pow]; rfl
  rw [this, ← Int.natCast_mul, hw _ (by omega)]
  have : ((2 ^ N : Nat) : Int) = (2 : Int) ^ N := by rw [Int.natCast_pow]; rfl
  rw [← this]; omega
theorem orB {K : IntKind} (u x i N : Nat) (hb : K.bits = N) (hw : ∀ n : Int, 0 ≤ n → n < 2 ^ N → K.wrap n = n) (hu : u < 256 ^ i) (hx : u + x * 256 ^ i < 2 ^ N) : K.wrap (BitVec.ofInt K.bits (u : Int) ||| BitVec.ofInt K.bits ((x * 256 ^ i : Nat) : Int)).toNat = ((u + x * 256 ^ i : Nat) : Int) := by
  have hN : ((2 ^ N : Nat) : Int) = (2 : Int) ^ N := by rw [Int.natCast_pow]; rfl
  have ht : ∀ n : Nat, n < 2 ^ N → (BitVec.ofInt K.bits (n : Int)).toNat = n := fun n hn => by
    rw [BitVec.toNat_ofInt, hb, hN]
    have : ((n : Int) % (2 : Int) ^ N) = n := Int.emod_eq_of_lt (by omega) (by rw [← hN]; omega)
    rw [this, Int.toNat_natCast]
  rw [BitVec.toNat_or, ht _ (by omega), ht _ (by omega)]
  have := Nat.two_pow_add_eq_or_of_lt (i := 8 * i) (b := u) (by rw [pow256]; exact hu) x
  rw [pow256] at this
  rw [Nat.or_comm, Nat.mul_comm x, ← this, hw _ (by omega)]
  · rw [Nat.add_comm]
  · rw [← hN, Nat.add_comm, Nat.mul_comm]; omega
theorem w32 (n : Int) (h0 : 0 ≤ n) (h1 : n < 2 ^ 32) : IntKind.u32.wrap n = n := by rw [u32w]; omega
theorem w64 (n : Int) (h0 : 0 ≤ n) (h1 : n < 2 ^ 64) : IntKind.u64.wrap n = n := by rw [u64w]; omega
theorem unle_snoc (l : Bs) (b : UInt8) : unle (l ++ [b]) = unle l + b.toNat * 256 ^ l.length := by
  induction l with
  | nil => simp [unle]
  | cons a l ih => simp only [List.cons_append, unle, ih, List.length_cons, Nat.pow_succ]; rw [Nat.mul_add, Nat.add_assoc]; congr 2; rw [← Nat.mul_assoc, Nat.mul_comm 256, Nat.mul_assoc, Nat.mul_comm 256]
theorem leB_snoc : ∀ (i v : Nat), leB (i + 1) v = leB i v ++ [UInt8.ofNat (v / 256 ^ i % 256)]
  | 0, v => by simp [leB]
  | i + 1, v => by
    rw [leB, leB_snoc i (v / 256), leB, List.cons_append, Nat.div_div_eq_div_mul, Nat.pow_succ, Nat.mul_comm 256]
theorem take_snoc {α : Type} {l : List α} {i : Nat} (hi : i < l.length) : l.take (i + 1) = l.take i ++ [l[i]] := by simp
section
variable {W0 W : World} {L L' : List Asn}
def BSY : Ly BSl := ⟨1, by omega, fun x => [x.v], fun _ => rfl, fun _ => rfl⟩
theorem frameNumber {v : Nat} {k : Value → World → Prop} (h : St W0 L W) (hv : v < 2 ^ 32) (hk : ∀ a c W', St W0 (arr B8 T_uint8 a c (leB 4 v) :: L) W' → k (.slice a (leB 4 v).length c) W') : callK PR F_frame_number [.int .u32 (v : Int)] k W := by
  apply S.frame_number.call
  unfold S.frame_number.body
  simp -implicitDefEqProofs only [SE, SU, SV]
  refine okF_i (binP_shr (by decide)) ?_
  simp -implicitDefEqProofs only [SE, SU, SV]
  refine okF_i (binP_shr (by decide)) ?_
  simp -implicitDefEqProofs only [SE, SU, SV]
  refine okF_i (binP_shr (by decide)) ?_
  simp -implicitDefEqProofs only [SE, SU, SV]
  have e1 := shr32 v 8 (by decide)
  have e2 := shr32 v 16 (by decide)
  have e3 := shr32 v 24 (by decide)
  simp only [Int.cast_ofNat_Int] at e1 e2 e3
  rw [e1, e2, e3, cvt8, cvt8, cvt8, cvt8]
  refine bsA B8 (leB 4 v) (n := 4) h rfl (leB_len _ _) (by decide) (by decide) ?_ fun a c W1 h => ?_
  · have q : ∀ n : Nat, n < 256 → Value.int .u8 (n : Int) = b8 (UInt8.ofNat n) := fun n h => b8_ofNat h
    rw [q _ (Nat.mod_lt _ (by decide)), q _ (Nat.mod_lt _ (by decide)), q _ (Nat.mod_lt _ (by decide)), q _ (Nat.mod_lt _ (by decide))]
    have e4 : leB 4 v = [UInt8.ofNat (v % 256), UInt8.ofNat (v / 2 ^ 8 % 256), UInt8.ofNat (v / 2 ^ 16 % 256), UInt8.ofNat (v / 2 ^ 24 % 256)] := by
      simp only [leB, Nat.div_div_eq_div_mul]
    rw [e4]
    rfl
  exact hk a c W1 h
theorem frameRead {a : Option Addr} {c : Nat} {l : Bs} {k : Value → World → Prop} (h : St W0 L W) [hr : Rd W0 L a B8 l] (hl : l.length ≤ 4) (hk : ∀ W', St W0 L W' → k (.int .u32 (unle l : Int)) W') : callK PR F_frame_read [.slice a l.length c] k W := by
  apply S.frame_read.call
  unfold S.frame_read.body
  refine joinK_i ?_
  simp -implicitDefEqProofs only [SE, SU, SV]
  refine loop_c (σ := Unit) l.length (fun i _ => [.int .u32 (unle (l.take i) : Int), .slice a l.length c, .int .i64 (l.length : Int), .int .i64 (i : Int)]) (fun i _ W1 => St W0 L W1) () rfl h ?_
  clear h
  rintro K i _ W1 hi h hK
  simp -implicitDefEqProofs only [SE, SU, SV]
  unfold S.frame_read.l1
  by_cases hlt : (i : Int) < (l.length : Int)
  · have hib : i < l.length := by omega
    have ew : IntKind.i64.wrap ((i : Int) + 1) = ((i + 1 : Nat) : Int) := by rw [i64w]; omega
    have e8 : IntKind.i64.wrap (8 * (i : Int)) = ((8 * i : Nat) : Int) := by rw [i64w]; omega
    have hb := l[i].toNat_lt
    have ec : IntKind.u32.wrap (l[i].toNat : Int) = (l[i].toNat : Int) := w32 _ (by omega) (by omega)
    (repeat (first | (first | ((with_reducible first | refine w1 ?_ | refine w3 ?_ | refine w4 ?_ | refine w11 ?_ | refine stb_n ?_); intros) | ((with_reducible first | refine v5 ?_ | refine v6 ?_ | refine v7 ?_ | refine ve ?_ | refine vn ?_); refine ⟨_, rfl, ?_⟩) | ((with_reducible first | refine v8 ?_ ?_ | refine v9 ?_ ?_ | refine v10 ?_ ?_ | refine v12 ?_ ?_); exact rfl; intros) | ((with_reducible refine w2 ?_); try simp -implicitDefEqProofs only [SE, SU, SV, hlt]; intros) | ((with_reducible refine w5 ?_ ?_); simp; refine ⟨_, rfl, ?_⟩) | ((with_reducible refine w12 ?_ ?_ ?_ ?_); simp; simp; simp [oneC]; intros) | (refine okF_i (bldP_eq rfl) ?_; try simp only [BLS, SB, Nat.reduceAdd])) | simp -implicitDefEqProofs only [SE, SU, SV, hlt]))
    refine ixA (i := i) (a := a) (l := l) (A := B8) h rfl rfl hib fun g o ha => ?_
    cases ha
    refine ldA0 (i := i) (l := l) (A := B8) h rfl hib (v := b8 l[i]) rfl (by simp) ?_
    rw [show b8 l[i] = .int .u8 (l[i].toNat : Int) from rfl]
    (repeat (first | (first | ((with_reducible first | refine w1 ?_ | refine w3 ?_ | refine w4 ?_ | refine w11 ?_ | refine stb_n ?_); intros) | ((with_reducible first | refine v5 ?_ | refine v6 ?_ | refine v7 ?_ | refine ve ?_ | refine vn ?_); refine ⟨_, rfl, ?_⟩) | ((with_reducible first | refine v8 ?_ ?_ | refine v9 ?_ ?_ | refine v10 ?_ ?_ | refine v12 ?_ ?_); exact rfl; intros) | ((with_reducible refine w2 ?_); try simp -implicitDefEqProofs only [SE, SU, SV, ec, e8]; intros) | ((with_reducible refine w5 ?_ ?_); simp; refine ⟨_, rfl, ?_⟩) | ((with_reducible refine w12 ?_ ?_ ?_ ?_); simp; simp; simp [oneC]; intros) | (refine okF_i (bldP_eq rfl) ?_; try simp only [BLS, SB, Nat.reduceAdd])) | simp -implicitDefEqProofs only [SE, SU, SV, ec, e8]))
    refine okF_i (binP_shl (by omega)) ?_
    have hp : 256 ^ i ≤ 256 ^ 3 := Nat.pow_le_pow_right (by decide) (by omega)
    have hq : 256 ^ (i + 1) ≤ 256 ^ 4 := Nat.pow_le_pow_right (by decide) (by omega)
    have hu : unle (l.take i) < 256 ^ i := by have := unle_lt (l.take i); rwa [List.length_take, Nat.min_eq_left (by omega)] at this
    have hu2 : unle (l.take (i + 1)) < 256 ^ (i + 1) := by have := unle_lt (l.take (i + 1)); rwa [List.length_take, Nat.min_eq_left (by omega)] at this
    have hs : unle (l.take (i + 1)) = unle (l.take i) + l[i].toNat * 256 ^ i := by rw [take_snoc hib, unle_snoc, List.length_take, Nat.min_eq_left (by omega)]
    rw [shlB (K := .u32) _ i 32 rfl (by omega) w32 (by omega)]
    simp -implicitDefEqProofs only [SE, SU, SV]
    rw [orB (K := .u32) _ _ i 32 rfl w32 hu (by omega), ← hs]
    (repeat (first | (first | ((with_reducible first | refine w1 ?_ | refine w3 ?_ | refine w4 ?_ | refine w11 ?_ | refine stb_n ?_); intros) | ((with_reducible first | refine v5 ?_ | refine v6 ?_ | refine v7 ?_ | refine ve ?_ | refine vn ?_); refine ⟨_, rfl, ?_⟩) | ((with_reducible first | refine v8 ?_ ?_ | refine v9 ?_ ?_ | refine v10 ?_ ?_ | refine v12 ?_ ?_); exact rfl; intros) | ((with_reducible refine w2 ?_); try simp -implicitDefEqProofs only [SE, SU, SV, ew]; intros) | ((with_reducible refine w5 ?_ ?_); simp; refine ⟨_, rfl, ?_⟩) | ((with_reducible refine w12 ?_ ?_ ?_ ?_); simp; simp; simp [oneC]; intros) | (refine okF_i (bldP_eq rfl) ?_; try simp only [BLS, SB, Nat.reduceAdd])) | simp -implicitDefEqProofs only [SE, SU, SV, ew]))
    exact hK () _ hib h
  · unfold S.frame_read.j1
    have e : l.take i = l := List.take_of_length_le (by omega)
    rw [e]
    (repeat (first | (first | ((with_reducible first | refine w1 ?_ | refine w3 ?_ | refine w4 ?_ | refine w11 ?_ | refine stb_n ?_); intros) | ((with_reducible first | refine v5 ?_ | refine v6 ?_ | refine v7 ?_ | refine ve ?_ | refine vn ?_); refine ⟨_, rfl, ?_⟩) | ((with_reducible first | refine v8 ?_ ?_ | refine v9 ?_ ?_ | refine v10 ?_ ?_ | refine v12 ?_ ?_); exact rfl; intros) | ((with_reducible refine w2 ?_); try simp -implicitDefEqProofs only [SE, SU, SV, hlt]; intros) | ((with_reducible refine w5 ?_ ?_); simp; refine ⟨_, rfl, ?_⟩) | ((with_reducible refine w12 ?_ ?_ ?_ ?_); simp; simp; simp [oneC]; intros) | (refine okF_i (bldP_eq rfl) ?_; try simp only [BLS, SB, Nat.reduceAdd])) | simp -implicitDefEqProofs only [SE, SU, SV, hlt]))
    exact hk _ h
theorem crcBits_succ (n s : Nat) : crcBits (n + 1) s = crcBit (crcBits n s) := by
  induction n generalizing s with
  | zero => rfl
  | succ n ih => rw [crcBits, ih]; rfl
theorem crcOf {a : Option Addr} {c : Nat} {rows : List BSl} {k : Value → World → Prop} (h : St W0 L W) [hr : Rd W0 L a BSY rows] (hrs : ∀ x ∈ rows, Rd W0 L x.a B8 x.bs) (hl : rows.length ≤ 2) (hls : ∀ x ∈ rows, x.bs.length < 70368744177664)
    (hk : ∀ W', St W0 L W' → k (.int .u32 (crc (rows.flatMap (·.bs)) : Int)) W') : callK PR F_crc_Of [.slice a rows.length c] k W := by
  apply S.crc_Of.call
  unfold S.crc_Of.body
  refine joinK_i ?_
  simp -implicitDefEqProofs only [SE, SU, SV]
  refine loop_c (σ := Unit) rows.length (fun i _ => [.int .u32 (crcGo ((rows.take i).flatMap (·.bs)) 4294967295 : Int), .slice a rows.length c, .int .i64 (rows.length : Int), .int .i64 (i : Int)]) (fun i _ W1 => St W0 L W1) () rfl h ?_
  clear h
  rintro K i _ W1 hi h hK
  simp -implicitDefEqProofs only [SE, SU, SV]
  unfold S.crc_Of.l1
  by_cases hlt : (i : Int) < (rows.length : Int)
  · have hib : i < rows.length := by omega
    have ew : IntKind.i64.wrap ((i : Int) + 1) = ((i + 1 : Nat) : Int) := by rw [i64w]; omega
    (repeat (first | (first | ((with_reducible first | refine w1 ?_ | refine w3 ?_ | refine w4 ?_ | refine w11 ?_ | refine stb_n ?_); intros) | ((with_reducible first | refine v5 ?_ | refine v6 ?_ | refine v7 ?_ | refine ve ?_ | refine vn ?_); refine ⟨_, rfl, ?_⟩) | ((with_reducible first | refine v8 ?_ ?_ | refine v9 ?_ ?_ | refine v10 ?_ ?_ | refine v12 ?_ ?_); exact rfl; intros) | ((with_reducible refine w2 ?_); try simp -implicitDefEqProofs only [SE, SU, SV, hlt]; intros) | ((with_reducible refine w5 ?_ ?_); simp; refine ⟨_, rfl, ?_⟩) | ((with_reducible refine w12 ?_ ?_ ?_ ?_); simp; simp; simp [oneC]; intros) | (refine okF_i (bldP_eq rfl) ?_; try simp only [BLS, SB, Nat.reduceAdd])) | simp -implicitDefEqProofs only [SE, SU, SV, hlt]))
    refine joinK_i ?_
    refine ixA (i := i) (a := a) (l := rows) (A := BSY) h rfl rfl hib fun g o ha => ?_
    cases ha
    refine ldA0 (i := i) (l := rows) (A := BSY) h rfl hib (v := rows[i].v) rfl (by simp) ?_
    haveI : Rd W0 L rows[i].a B8 rows[i].bs := hrs _ (List.getElem_mem hib)
    have hlx := hls _ (List.getElem_mem hib)
    have hs : (rows.take (i + 1)).flatMap (·.bs) = (rows.take i).flatMap (·.bs) ++ rows[i].bs := by rw [take_snoc hib, List.flatMap_append]; simp
    rw [hs, crcGo_app] at hK
    have hs0 := crcGo_lt ((rows.take i).flatMap (·.bs)) (s := 4294967295) (by decide)
    generalize crcGo ((rows.take i).flatMap (·.bs)) 4294967295 = s0 at hs0 hK
    generalize rows[i] = x at *
    (repeat (first | (first | ((with_reducible first | refine w1 ?_ | refine w3 ?_ | refine w4 ?_ | refine w11 ?_ | refine stb_n ?_); intros) | ((with_reducible first | refine v5 ?_ | refine v6 ?_ | refine v7 ?_ | refine ve ?_ | refine vn ?_); refine ⟨_, rfl, ?_⟩) | ((with_reducible first | refine v8 ?_ ?_ | refine v9 ?_ ?_ | refine v10 ?_ ?_ | refine v12 ?_ ?_); exact rfl; intros) | ((with_reducible refine w2 ?_); try simp -implicitDefEqProofs only [SE, SU, SV]; intros) | ((with_reducible refine w5 ?_ ?_); simp; refine ⟨_, rfl, ?_⟩) | ((with_reducible refine w12 ?_ ?_ ?_ ?_); simp; simp; simp [oneC]; intros) | (refine okF_i (bldP_eq rfl) ?_; try simp only [BLS, SB, Nat.reduceAdd])) | simp -implicitDefEqProofs only [SE, SU, SV]))
    refine loop_c (σ := Unit) x.bs.length (fun j _ => [.int .u32 (crcGo (x.bs.take j) s0 : Int), .slice (some ⟨g, o, none⟩) rows.length c, .int .i64 (rows.length : Int), .int .i64 (i : Int), x.v, .int .i64 (x.bs.length : Int), .int .i64 (j : Int)]) (fun j _ W1 => St W0 L W1) () rfl h ?_
    clear h
    rintro K2 j _ W2 hj h hK2
    simp -implicitDefEqProofs only [SE, SU, SV]
    unfold S.crc_Of.l2
    by_cases hjl : (j : Int) < (x.bs.length : Int)
    · have hjb : j < x.bs.length := by omega
      have ew2 : IntKind.i64.wrap ((j : Int) + 1) = ((j + 1 : Nat) : Int) := by rw [i64w]; omega
      have hb := x.bs[j].toNat_lt
      have ec : IntKind.u32.wrap (x.bs[j].toNat : Int) = (x.bs[j].toNat : Int) := w32 _ (by omega) (by omega)
      have hs1 := crcGo_lt (x.bs.take j) hs0
      have hs2 : crcGo (x.bs.take (j + 1)) s0 = crcBits 8 (crcGo (x.bs.take j) s0 ^^^ x.bs[j].toNat) := by rw [take_snoc hjb, crcGo_app]; rfl
      rw [hs2] at hK2
      have hs3 := byte_lt hs1 x.bs[j]
      have ex := xor32' hs1 (b := x.bs[j].toNat) (by omega)
      (repeat (first | (first | ((with_reducible first | refine w1 ?_ | refine w3 ?_ | refine w4 ?_ | refine w11 ?_ | refine stb_n ?_); intros) | ((with_reducible first | refine v5 ?_ | refine v6 ?_ | refine v7 ?_ | refine ve ?_ | refine vn ?_); refine ⟨_, rfl, ?_⟩) | ((with_reducible first | refine v8 ?_ ?_ | refine v9 ?_ ?_ | refine v10 ?_ ?_ | refine v12 ?_ ?_); exact rfl; intros) | ((with_reducible refine w2 ?_); try simp -implicitDefEqProofs only [SE, SU, SV, hjl]; intros) | ((with_reducible refine w5 ?_ ?_); simp; refine ⟨_, rfl, ?_⟩) | ((with_reducible refine w12 ?_ ?_ ?_ ?_); simp; simp; simp [oneC]; intros) | (refine okF_i (bldP_eq rfl) ?_; try simp only [BLS, SB, Nat.reduceAdd])) | simp -implicitDefEqProofs only [SE, SU, SV, hjl]))
      refine joinK_i ?_
      refine ixA (i := j) (a := x.a) (l := x.bs) (A := B8) h rfl rfl hjb fun g2 o2 ha => ?_
      refine ldA0 (i := j) (l := x.bs) (A := B8) (hr := ha ▸ inferInstance) h rfl hjb (v := b8 x.bs[j]) rfl (by simp) ?_
      rw [show b8 x.bs[j] = .int .u8 (x.bs[j].toNat : Int) from rfl]
      (repeat (first | (first | ((with_reducible first | refine w1 ?_ | refine w3 ?_ | refine w4 ?_ | refine w11 ?_ | refine stb_n ?_); intros) | ((with_reducible first | refine v5 ?_ | refine v6 ?_ | refine v7 ?_ | refine ve ?_ | refine vn ?_); refine ⟨_, rfl, ?_⟩) | ((with_reducible first | refine v8 ?_ ?_ | refine v9 ?_ ?_ | refine v10 ?_ ?_ | refine v12 ?_ ?_); exact rfl; intros) | ((with_reducible refine w2 ?_); try simp -implicitDefEqProofs only [SE, SU, SV, ec, ex]; intros) | ((with_reducible refine w5 ?_ ?_); simp; refine ⟨_, rfl, ?_⟩) | ((with_reducible refine w12 ?_ ?_ ?_ ?_); simp; simp; simp [oneC]; intros) | (refine okF_i (bldP_eq rfl) ?_; try simp only [BLS, SB, Nat.reduceAdd])) | simp -implicitDefEqProofs only [SE, SU, SV, ec, ex]))
      generalize crcGo (x.bs.take j) s0 ^^^ x.bs[j].toNat = s1 at hs3 hK2
      refine loop_c (σ := Unit) 8 (fun q _ => [.int .u32 (crcBits q s1 : Int), .slice (some ⟨g, o, none⟩) rows.length c, .int .i64 (rows.length : Int), .int .i64 (i : Int), x.v, .int .i64 (x.bs.length : Int), .int .i64 (j : Int), .int .i64 (q : Int)]) (fun q _ W1 => St W0 L W1) () rfl h ?_
      clear h
      rintro K3 q _ W3 hq h hK3
      simp -implicitDefEqProofs only [SE, SU, SV]
      unfold S.crc_Of.l3
      by_cases hq8 : (q : Int) < 8
      · have ew3 : IntKind.i64.wrap ((q : Int) + 1) = ((q + 1 : Nat) : Int) := by rw [i64w]; omega
        have hs4 := crcBits_lt q hs3
        rw [crcBits_succ] at hK3
        generalize crcBits q s1 = s2 at hs4 hK3
        have ea := and32' hs4
        have es := shr32 s2 1 (by decide)
        (repeat (first | (first | ((with_reducible first | refine w1 ?_ | refine w3 ?_ | refine w4 ?_ | refine w11 ?_ | refine stb_n ?_); intros) | ((with_reducible first | refine v5 ?_ | refine v6 ?_ | refine v7 ?_ | refine ve ?_ | refine vn ?_); refine ⟨_, rfl, ?_⟩) | ((with_reducible first | refine v8 ?_ ?_ | refine v9 ?_ ?_ | refine v10 ?_ ?_ | refine v12 ?_ ?_); exact rfl; intros) | ((with_reducible refine w2 ?_); try simp -implicitDefEqProofs only [SE, SU, SV, hq8, ea]; intros) | ((with_reducible refine w5 ?_ ?_); simp; refine ⟨_, rfl, ?_⟩) | ((with_reducible refine w12 ?_ ?_ ?_ ?_); simp; simp; simp [oneC]; intros) | (refine okF_i (bldP_eq rfl) ?_; try simp only [BLS, SB, Nat.reduceAdd])) | simp -implicitDefEqProofs only [SE, SU, SV, hq8, ea]))
        refine joinK_i ?_
        (repeat (first | (first | ((with_reducible first | refine w1 ?_ | refine w3 ?_ | refine w4 ?_ | refine w11 ?_ | refine stb_n ?_); intros) | ((with_reducible first | refine v5 ?_ | refine v6 ?_ | refine v7 ?_ | refine ve ?_ | refine vn ?_); refine ⟨_, rfl, ?_⟩) | ((with_reducible first | refine v8 ?_ ?_ | refine v9 ?_ ?_ | refine v10 ?_ ?_ | refine v12 ?_ ?_); exact rfl; intros) | ((with_reducible refine w2 ?_); try simp -implicitDefEqProofs only [SE, SU, SV, ea]; intros) | ((with_reducible refine w5 ?_ ?_); simp; refine ⟨_, rfl, ?_⟩) | ((with_reducible refine w12 ?_ ?_ ?_ ?_); simp; simp; simp [oneC]; intros) | (refine okF_i (bldP_eq rfl) ?_; try simp only [BLS, SB, Nat.reduceAdd])) | simp -implicitDefEqProofs only [SE, SU, SV, ea]))
        refine okF_i (binP_shr (by decide)) ?_
        rw [show (1 : Int) = ((1 : Nat) : Int) from rfl, es]
        rw [Nat.pow_one]
        unfold crcBit at hK3
        by_cases hc : s2 % 2 = 1
        · rw [if_pos hc] at hK3
          have ex2 : IntKind.u32.wrap (BitVec.ofInt IntKind.u32.bits ((s2 / 2 : Nat) : Int) ^^^ BitVec.ofInt IntKind.u32.bits 3988292384).toNat = _ := xor32 (a := s2 / 2) (b := 3988292384) (by omega) (by decide)
          rw [hc]
          (repeat (first | (first | ((with_reducible first | refine w1 ?_ | refine w3 ?_ | refine w4 ?_ | refine w11 ?_ | refine stb_n ?_); intros) | ((with_reducible first | refine v5 ?_ | refine v6 ?_ | refine v7 ?_ | refine ve ?_ | refine vn ?_); refine ⟨_, rfl, ?_⟩) | ((with_reducible first | refine v8 ?_ ?_ | refine v9 ?_ ?_ | refine v10 ?_ ?_ | refine v12 ?_ ?_); exact rfl; intros) | ((with_reducible refine w2 ?_); try simp -implicitDefEqProofs only [SE, SU, SV, ex2]; intros) | ((with_reducible refine w5 ?_ ?_); simp; refine ⟨_, rfl, ?_⟩) | ((with_reducible refine w12 ?_ ?_ ?_ ?_); simp; simp; simp [oneC]; intros) | (refine okF_i (bldP_eq rfl) ?_; try simp only [BLS, SB, Nat.reduceAdd])) | simp -implicitDefEqProofs only [SE, SU, SV, ex2]))
          unfold S.crc_Of.j4
          (repeat (first | (first | ((with_reducible first | refine w1 ?_ | refine w3 ?_ | refine w4 ?_ | refine w11 ?_ | refine stb_n ?_); intros) | ((with_reducible first | refine v5 ?_ | refine v6 ?_ | refine v7 ?_ | refine ve ?_ | refine vn ?_); refine ⟨_, rfl, ?_⟩) | ((with_reducible first | refine v8 ?_ ?_ | refine v9 ?_ ?_ | refine v10 ?_ ?_ | refine v12 ?_ ?_); exact rfl; intros) | ((with_reducible refine w2 ?_); try simp -implicitDefEqProofs only [SE, SU, SV, ew3]; intros) | ((with_reducible refine w5 ?_ ?_); simp; refine ⟨_, rfl, ?_⟩) | ((with_reducible refine w12 ?_ ?_ ?_ ?_); simp; simp; simp [oneC]; intros) | (refine okF_i (bldP_eq rfl) ?_; try simp only [BLS, SB, Nat.reduceAdd])) | simp -implicitDefEqProofs only [SE, SU, SV, ew3]))
          exact hK3 () _ (by omega) h
        · rw [if_neg hc] at hK3
          have hc0 : s2 % 2 = 0 := by omega
          rw [hc0]
          unfold S.crc_Of.j4
          (repeat (first | (first | ((with_reducible first | refine w1 ?_ | refine w3 ?_ | refine w4 ?_ | refine w11 ?_ | refine stb_n ?_); intros) | ((with_reducible first | refine v5 ?_ | refine v6 ?_ | refine v7 ?_ | refine ve ?_ | refine vn ?_); refine ⟨_, rfl, ?_⟩) | ((with_reducible first | refine v8 ?_ ?_ | refine v9 ?_ ?_ | refine v10 ?_ ?_ | refine v12 ?_ ?_); exact rfl; intros) | ((with_reducible refine w2 ?_); try simp -implicitDefEqProofs only [SE, SU, SV, ew3]; intros) | ((with_reducible refine w5 ?_ ?_); simp; refine ⟨_, rfl, ?_⟩) | ((with_reducible refine w12 ?_ ?_ ?_ ?_); simp; simp; simp [oneC]; intros) | (refine okF_i (bldP_eq rfl) ?_; try simp only [BLS, SB, Nat.reduceAdd])) | simp -implicitDefEqProofs only [SE, SU, SV, ew3]))
          exact hK3 () _ (by omega) h
      · have hq9 : q = 8 := by omega
        subst hq9
        unfold S.crc_Of.j3
        (repeat (first | (first | ((with_reducible first | refine w1 ?_ | refine w3 ?_ | refine w4 ?_ | refine w11 ?_ | refine stb_n ?_); intros) | ((with_reducible first | refine v5 ?_ | refine v6 ?_ | refine v7 ?_ | refine ve ?_ | refine vn ?_); refine ⟨_, rfl, ?_⟩) | ((with_reducible first | refine v8 ?_ ?_ | refine v9 ?_ ?_ | refine v10 ?_ ?_ | refine v12 ?_ ?_); exact rfl; intros) | ((with_reducible refine w2 ?_); try simp -implicitDefEqProofs only [SE, SU, SV, hq8, ew2]; intros) | ((with_reducible refine w5 ?_ ?_); simp; refine ⟨_, rfl, ?_⟩) | ((with_reducible refine w12 ?_ ?_ ?_ ?_); simp; simp; simp [oneC]; intros) | (refine okF_i (bldP_eq rfl) ?_; try simp only [BLS, SB, Nat.reduceAdd])) | simp -implicitDefEqProofs only [SE, SU, SV, hq8, ew2]))
        exact hK2 () _ hjb h
    · have e : x.bs.take j = x.bs := List.take_of_length_le (by omega)
      rw [e]
      unfold S.crc_Of.j2
      (repeat (first | (first | ((with_reducible first | refine w1 ?_ | refine w3 ?_ | refine w4 ?_ | refine w11 ?_ | refine stb_n ?_); intros) | ((with_reducible first | refine v5 ?_ | refine v6 ?_ | refine v7 ?_ | refine ve ?_ | refine vn ?_); refine ⟨_, rfl, ?_⟩) | ((with_reducible first | refine v8 ?_ ?_ | refine v9 ?_ ?_ | refine v10 ?_ ?_ | refine v12 ?_ ?_); exact rfl; intros) | ((with_reducible refine w2 ?_); try simp -implicitDefEqProofs only [SE, SU, SV, hjl, ew]; intros) | ((with_reducible refine w5 ?_ ?_); simp; refine ⟨_, rfl, ?_⟩) | ((with_reducible refine w12 ?_ ?_ ?_ ?_); simp; simp; simp [oneC]; intros) | (refine okF_i (bldP_eq rfl) ?_; try simp only [BLS, SB, Nat.reduceAdd])) | simp -implicitDefEqProofs only [SE, SU, SV, hjl, ew]))
      exact hK () _ hib h
  · unfold S.crc_Of.j1
    have e : rows.take i = rows := List.take_of_length_le (by omega)
    rw [e]
    (repeat (first | (first | ((with_reducible first | refine w1 ?_ | refine w3 ?_ | refine w4 ?_ | refine w11 ?_ | refine stb_n ?_); intros) | ((with_reducible first | refine v5 ?_ | refine v6 ?_ | refine v7 ?_ | refine ve ?_ | refine vn ?_); refine ⟨_, rfl, ?_⟩) | ((with_reducible first | refine v8 ?_ ?_ | refine v9 ?_ ?_ | refine v10 ?_ ?_ | refine v12 ?_ ?_); exact rfl; intros) | ((with_reducible refine w2 ?_); try simp -implicitDefEqProofs only [SE, SU, SV, hlt]; intros) | ((with_reducible refine w5 ?_ ?_); simp; refine ⟨_, rfl, ?_⟩) | ((with_reducible refine w12 ?_ ?_ ?_ ?_); simp; simp; simp [oneC]; intros) | (refine okF_i (bldP_eq rfl) ?_; try simp only [BLS, SB, Nat.reduceAdd])) | simp -implicitDefEqProofs only [SE, SU, SV, hlt]))
    have hs0 := crcGo_lt (rows.flatMap (·.bs)) (s := 4294967295) (by decide)
    refine okF_i (not32 hs0) ?_
    exact hk _ h
end
end Go.Proofs.Ythladblmjoaeoaa
namespace Go.Eng
set_option linter.unusedVariables false
set_option linter.unusedSimpArgs false
open Go Go.RowKit
section
variable {P : Program} {W0 W : World} {L : List Asn} {e : TypeId}
theorem bs_run {t : TypeId} {sz by' : Nat} {z : Value} [ht : TyS P t e sz by' z] {n : Nat} {ps : List (Nat × Value)} {cs : List Value} (hn : n * sz ≤ 16777216) (hn0 : n * sz ≠ 0)
    (hc : fillL (fun i => some (i * sz, sz)) ((List.range (n * sz)).map fun i => ((vcells z)[i % (vcells z).length]?).getD undef) ps = some cs) :
    (Instr.buildSlice t n ps.toArray).run P W = .ok (.slice (some ⟨W.heap.size, 0, none⟩) n n) (W.alloc (.cells cs.toArray e)) := by
  obtain ⟨⟨i, h1, h2, h3, h4, h5⟩, hzz⟩ := ht.ok
  subst h3
  rw [← vcells_eq] at hc
  have hz : z.cells.size = i.size → ((List.range (n * i.size)).map fun j => (z.cells.toList[j % z.cells.toList.length]?).getD undef).toArray = (Array.range (n * i.size)).map (z.cells[· % z.cells.size]!) := by
    intro hzs
    apply Array.ext_getElem?
    intro j
    simp only [List.getElem?_toArray, List.getElem?_map, Array.getElem?_map, Array.length_toList]
    by_cases hj : j < n * i.size
    · have hpos : 0 < z.cells.size := by rw [hzs]; exact Nat.pos_of_ne_zero fun h => by rw [h] at hj; simp at hj
      have hm : j % z.cells.size < z.cells.size := Nat.mod_lt _ hpos
      simp [hj, hm]
    · simp [hj]
  have hf := fillL_run _ _ _ _ hc
  rw [hz hzz] at hf
  simp only [Instr.buildSlice, Sem.run_bind, run_underlying h1, Result.andThen_ok, run_sizeOf' h2]
  rw [if_neg (by omega), if_neg hn0]
  simp only [pure_bind, Sem.run_bind, run_zeroValue' h2 h5, Result.andThen_ok, Sem.run_pure, hf]
  rfl
/-- the bytes of a literal -/
theorem bytesLit (l : List UInt8) {t : TypeId} {by' n : Nat} {z : Value} [ht : TyS P t e 1 by' z] [hb : BytesT P t e] {ps : List (Nat × Value)} {k : Value → World → Prop} (h : St W0 L W) (hln : l.length = n) (hn : n ≤ 16777216) (hn0 : n ≠ 0)
    (hc : fillL (fun i => some (i * 1, 1)) ((List.range (n * 1)).map fun i => ((vcells z)[i % (vcells z).length]?).getD undef) ps = some (B8.rows l))
    (hk : ∀ a c W', St W0 (arr B8 e a c l :: L) W' → k (.slice a l.length c) W') : efK P (Instr.buildSlice t n ps.toArray) (fun u W => efK P (convert t t u) k W) W := by
  subst hln
  refine ⟨_, _, bs_run (P := P) (t := t) (e := e) (by omega) (by omega) hc, _, _, Go.Lib.run_convert_bytes_const W t e _ _ _ hb.ok.1 hb.ok.2, ?_⟩
  refine hk _ _ _ (((h.alloc _).weak (a' := cells W.heap.size (B8.rows l) e) fun p hp => ⟨((B8.rows l).toArray.size, (B8.rows l).toArray.size + 1), ?_, by simpa using hp⟩).ent (arr_full (A := B8) (by unfold maxLen; omega)))
  intro i hi
  simp; omega
end
end Go.Eng
namespace Go.Eng
set_option linter.unusedVariables false
set_option linter.unusedSimpArgs false
open Go Go.RowKit
section
variable {α : Type} {A : Ly α} {P : Program} {W0 W W' : World} {L L' : List Asn} {e : TypeId} {a : Option Addr} {c : Nat} {l : List α}
theorem arr_pre (i : Nat) : ∀ p, arr A e a c l p → arr A e a c (l.take i) p := by
  rintro p ⟨h5, h6, h7⟩
  refine ⟨by simp; omega, h6, ?_⟩
  rcases h7 with ⟨rfl, rfl, h7⟩ | ⟨g, o, cur, rfl, h8, h9, h10⟩
  · exact .inl ⟨rfl, rfl, h7⟩
  · refine .inr ⟨g, o, cur, rfl, h8, ?_, h10⟩
    rw [← Ly.rows_take, ← h9, List.take_take, List.length_take, Nat.min_def, Nat.min_def]
    by_cases h : i ≤ l.length
    · rw [if_pos h, if_pos (Nat.mul_le_mul_right _ h)]
    · rw [if_neg h]
      by_cases h' : i * A.sz ≤ l.length * A.sz
      · rw [if_pos h', Nat.le_antisymm h' (Nat.mul_le_mul_right _ (by omega))]
      · rw [if_neg h']
theorem clrA {t ty : TypeId} {sz by' i n : Nat} {z : Value} [ht : TyS P t e sz by' z] {a' : Option Addr} {c' : Nat} {k : Value → World → Prop} (h : St W0 L W) [ho : Own a L A e c l L'] (hs : A.sz = sz) (hz1 : (vcells z).all oneC = true) (hi : i ≤ l.length)
    (ha : a' = if c = i then a else a.map (·.add (i * sz))) (hn : n = l.length - i) (hk : ∀ W', St W0 (arr A e a c (l.take i) :: L') W' → k (.tuple #[]) W') : efK P (Builtin.clear_ #[t] ty #[.slice a' n c']) k W := by
  subst hs
  obtain ⟨⟨x, h1, h2, h3, h4, h5⟩, hzz⟩ := ht.ok
  have h := h.took (a := a)
  have hf := h.arrFacts
  by_cases hn0 : n = 0
  · subst hn0
    refine ⟨_, W, ?_, hk W (h.weak (arr_pre i))⟩
    simp only [Builtin.clear_, List.getElem?_toArray, List.getElem?_cons_zero, Sem.run_bind, run_underlying h1, Result.andThen_ok]
    cases a' <;> rfl
  · have ha0 : a ≠ none := fun e => by have := hf.2.2.1 e; omega
    obtain ⟨g, o, cur, rfl, h6, h7, h8⟩ := h.arrCells ha0
    rw [if_neg (by omega)] at ha
    simp only [Option.map_some, add_none] at ha
    subst ha
    have hle : l.length * A.sz ≤ c * A.sz := Nat.mul_le_mul_right _ hf.1
    have hil : i * A.sz + (l.length - i) * A.sz = l.length * A.sz := by rw [← Nat.add_mul]; congr 1; omega
    have hzl : (Builtin.zeroCells z.cells n).toList.length = n * A.sz := by rw [zeroCells_len, hzz]
    have hone : (Builtin.zeroCells z.cells n).toList.all oneC = true := by
      rw [List.all_eq_true]
      intro u hu
      simp only [Builtin.zeroCells, Array.toList_map, List.mem_map, Array.toList_range, List.mem_range] at hu
      obtain ⟨j, hj, rfl⟩ := hu
      have hpos := A.pos
      have hm : j % z.cells.size < z.cells.size := Nat.mod_lt _ (by rw [hzz]; exact hpos)
      rw [← vcells_eq] at hz1
      have := List.all_eq_true.1 hz1 z.cells[j % z.cells.size]! (by simp [hm])
      exact this
    obtain ⟨W1, hr, hs'⟩ := storeCells_over (P := P) (off := o + i * A.sz) h8 hone (by rw [hzl, hn]; omega)
    refine ⟨_, W1, ?_, hk W1 (hs'.ent (arr_of_cells (by simp; omega) hf.2.1 (by rw [List.length_append, List.length_append, hzl]; simp; rw [hn]; omega) ?_))⟩
    · simp only [Builtin.clear_, List.getElem?_toArray, List.getElem?_cons_zero, Sem.run_bind, run_underlying h1, Result.andThen_ok]
      have hz' := run_zeroValue' (P := P) (w := W) h2 h5
      obtain ⟨m, rfl⟩ : ∃ m, n = m + 1 := ⟨n - 1, by omega⟩
      simp only [hz', Result.andThen_ok, hr, Sem.run_bind]
      rfl
    · rw [List.append_assoc, List.drop_append_of_le_length (by simp; omega), List.drop_take, Nat.add_sub_cancel_left, List.length_take, Nat.min_eq_left hi,
        List.take_append_of_le_length (by simp; omega), List.take_take, Nat.min_self, ← Ly.rows_take, ← h7, List.take_take, Nat.min_eq_left (by omega)]
theorem min2i {k : IntKind} {a b : Int} : foldP min2P [.int k a, .int k b] = some (.int k (if b < a then b else a)) := rfl
theorem max2i {k : IntKind} {a b : Int} : foldP max2P [.int k a, .int k b] = some (.int k (if a < b then b else a)) := rfl
/-- an element, as a value -/
def Ly.val (A : Ly α) (agg : Bool) (x : α) : Value := if agg then .agg (A.row x).toArray else (A.row x).headD undef
theorem Ly.val_agg (x : α) : A.val true x = .agg (A.row x).toArray := rfl
/-- a function value that tests an element; what it needs is C -/
def PredF (P : Program) (A : Ly α) (agg : Bool) (C : Asn) (fv : Value) (p : α → Bool) : Prop :=
  ∀ (W0 : World) (L : List Asn) (x : α) (W : World) (k : Value → World → Prop), St W0 (C :: L) W → (∀ W', St W0 (C :: L) W' → k (.bool (p x)) W') → vcK P fv [A.val agg x] k W
theorem lsub_self : ∀ (l : List Value), lsub l 0 l.length = l
  | [] => rfl
  | v :: l => by simp [lsub, lsub_self l]
theorem getL_val {agg : Bool} {sz : Nat} (hs : A.sz = sz) (h1 : agg = false → sz = 1) (x : α) : getL agg (A.row x) 0 sz = some (A.val agg x) := by
  subst hs
  cases agg with
  | true => rw [Ly.val_agg, getL, ← A.len x, lsub_self]
  | false =>
    have hl := A.len x
    rw [h1 rfl] at hl
    match h : A.row x, hl with
    | [v], _ => simp [getL, lget, Ly.val, h]
theorem val_cells {agg : Bool} {sz : Nat} (hs : A.sz = sz) (h1 : agg = false → sz = 1) (x : α) : vcells (A.val agg x) = A.row x := by
  subst hs
  cases agg with
  | true => rw [Ly.val_agg, vcells_agg]
  | false =>
    have hl := A.len x
    have ho := A.one x
    rw [h1 rfl] at hl
    match h : A.row x, hl, ho with
    | [v], _, ho =>
      have h2 : A.val false x = v := by simp [Ly.val, h]
      rw [h2]
      cases v <;> first | rfl | (simp [oneC] at ho)
/-- a new variable that is laid at once -/
theorem newV (x : α) {t : TypeId} {agg : Bool} {sz : Nat} {z : Value} [ht : TyI P t agg sz] [hz : TyZ P t z] {k : Value → World → Prop} (h : St W0 L W) (hs : A.sz = sz) (h1 : agg = false → sz = 1) (hzl : (vcells z).length = sz)
    (hk : ∀ b W', St W0 (cells b (A.row x) t :: L) W' → k (.pointer (some ⟨b, 0, none⟩)) W') :
    efK P (Instr.alloc t true (.tuple #[])) (fun v W => efK P (Instr.storeAt t v (A.val agg x)) (fun _ W => k v W) W) W := by
  refine al h fun b W1 h => ?_
  have e : stL (vcells z) 0 (vcells (A.val agg x)) = A.row x := by
    rw [val_cells hs h1, stL_eq _ _ _ (by rw [A.len]; omega), A.len, Nat.zero_add, List.drop_eq_nil_of_le (by omega)]
    simp
  refine sto (off := 0) h (by rw [val_cells hs h1, A.len, hs]) (by omega) (by rw [val_cells hs h1]; exact A.one _) fun W2 h => ?_
  rw [e] at h
  exact hk b W2 h
theorem ldV (x : α) {t : TypeId} {agg : Bool} {sz b : Nat} {T : TypeId} [ht : TyI P t agg sz] {k : Value → World → Prop} (h : St W0 L W) [hc : Ck b L (A.row x) T L'] (hs : A.sz = sz) (h1 : agg = false → sz = 1) (hk : k (A.val agg x) W) :
    rdK P (Instr.loadAt t (.pointer (some ⟨b, 0, none⟩))) k W := ld h (getL_val hs h1 x) (fun _ => by rw [A.len]; omega) hk
theorem slc_pre {sz n i : Nat} {k : IntKind} {K : Value → Prop} (h : St W0 (arr A e a c l :: L) W) (hi : i ≤ c) (hk : K (.slice a i c)) : okF (slcS sz (.slice a n c) none (some (.int k (i : Int))) none) K := by
  refine okF_i (slcS_eq (bnd_nat hi) bnd_none) ?_
  have hf := h.arrFacts
  by_cases hc : c = 0
  · rw [if_pos hc]; simpa using hk
  · obtain ⟨g, o, rfl⟩ := hf.2.2.2 (by omega)
    rw [if_neg hc]
    simpa [add_none] using hk
end
end Go.Eng
namespace Go.Eng
set_option linter.unusedVariables false
set_option linter.unusedSimpArgs false
open Go Go.RowKit
section
variable {P : Program} {W0 W : World} {L L' : List Asn}
theorem KeyT.agg {t : TypeId} {d : TypeDesc} {κ : Type} {K : κ → Value} [DecidableEq κ] (cs : κ → List Value) {ks : List Leaf} [EqS P t ks] (hK : ∀ k, K k = .agg (cs k).toArray) (hd : P.underlying t = some d)
    (hs : ∀ a b, Instr.sameNow d a b = none) (heq : ∀ a b, eqC ks (cs a) (cs b) = some (decide (a = b))) (hst : ∀ k, Instr.sameBits 10000 (K k) (K k) = true)
    (hchk : ∀ (w : World) (em : Bool) (k : κ), (Instr.checkKey em 10000 t (K k)).run P w = .ok () w) : KeyT P t K where
  inj {a b} h := by
    rw [hK, hK] at h
    have h1 : cs a = cs b := by simpa using h
    have h2 := heq a b
    rw [h1, heq b b] at h2
    simpa using h2
  check := hchk
  find w k es hes := by
    have hasking : ∀ (es : List MapEntry) (i : Nat), (∀ e ∈ es, ∃ k', e.key = K k') →
        ((Instr.findAsking t (K k) es i).run P w = .ok none w ∧ ∀ e ∈ es, e.key ≠ K k) ∨ ∃ j e, (Instr.findAsking t (K k) es i).run P w = .ok (some (i + j, e.val)) w ∧ es[j]? = some e ∧ e.key = K k := by
      intro es
      induction es with
      | nil => intro i _; exact .inl ⟨rfl, by simp⟩
      | cons e es ih =>
        intro i hes
        obtain ⟨k', hk'⟩ := hes e (by simp)
        have he := (equal_run (P := P) (w := w))
        have hq : (Op.equal t (K k) e.key).run P w = .ok (decide (k = k')) w := by
          have h1 := (aggEq_run (P := P) (w := w) (t := t) (heq k k')).1
          rw [hk', hK k, hK k']
          obtain ⟨u, g1, g0, g2, g3⟩ := (inferInstance : EqS P t ks).ok
          exact equal_run (P := P) (w := w) 8 9992 t ks _ _ _ _ g2 g1 (heq k k') (.agg (cs k).toArray) (.agg (cs k').toArray) (fun _ => ⟨rfl, rfl⟩) (fun h => by rw [g0] at h; cases h)
        simp only [Instr.findAsking, Sem.run_bind, hq, Result.andThen_ok]
        by_cases hkk : k = k'
        · subst hkk
          rw [decide_eq_true rfl]
          exact .inr ⟨0, e, rfl, rfl, hk'⟩
        · rw [decide_eq_false hkk]
          rcases ih (i + 1) (fun x hx => hes x (by simp [hx])) with ⟨h1, h2⟩ | ⟨j, e', h1, h2, h3⟩
          · refine .inl ⟨h1, fun x hx => ?_⟩
            rcases List.mem_cons.1 hx with rfl | hx
            · rw [hk']
              intro h
              rw [hK, hK] at h
              have h1 : cs k' = cs k := by simpa using h
              have h2 := heq k k'
              rw [h1, heq k k] at h2
              exact hkk (by simpa using h2)
            · exact h2 x hx
          · refine .inr ⟨j + 1, e', ?_, by simpa using h2, h3⟩
            simpa [Nat.add_assoc, Nat.add_comm 1 j] using h1
    have hrun : ∀ es : List MapEntry, (Instr.findKey t (K k) es).run P w = (Instr.findAsking t (K k) es).run P w := by
      intro es
      simp only [Instr.findKey, Sem.run_bind, run_underlying hd, Result.andThen_ok]
      cases es with
      | nil => rfl
      | cons e es => simp only [Instr.findNow, hs]
    rw [hrun]
    rcases hasking es 0 hes with h | ⟨j, e, h1, h2, h3⟩
    · exact .inl h
    · exact .inr ⟨j, e, by simpa using h1, h2, h3⟩
  stays w k := by simp only [Instr.keyThatStays, hst, if_true, Sem.run_pure]

/-! ### what is not wanted is let go -/
def PH.le (a b : PH) : Prop := ∀ x o, a x = some o → b x = some o
def entd (L L' : List Asn) : Prop := ∀ p, sep L p → ∃ p', PH.le p' p ∧ sep L' p'
theorem entd.refl (L : List Asn) : entd L L := fun p h => ⟨p, fun _ _ h => h, h⟩
theorem entd.trans {L L' L'' : List Asn} (h : entd L L') (h' : entd L' L'') : entd L L'' := fun p hp => by
  obtain ⟨q, h1, h2⟩ := h p hp
  obtain ⟨r, h3, h4⟩ := h' q h2
  exact ⟨r, fun x o hx => h1 x o (h3 x o hx), h4⟩
theorem ent.d {L L' : List Asn} (h : ent L L') : entd L L' := fun p hp => ⟨p, fun _ _ h => h, h p hp⟩
theorem entd.drop (x : Asn) (L : List Asn) : entd (x :: L) L := by
  rintro p ⟨h1, h2, hd, rfl, ha, hl⟩
  refine ⟨h2, fun y o hy => ?_, hl⟩
  rcases hd y with h | h
  · simp [PH.join, h, hy]
  · rw [h] at hy; cases hy
theorem entd.cons (x : Asn) {L L' : List Asn} (h : entd L L') : entd (x :: L) (x :: L') := by
  rintro p ⟨h1, h2, hd, rfl, ha, hl⟩
  obtain ⟨q, hq, hs⟩ := h h2 hl
  refine ⟨PH.join h1 q, fun y o hy => ?_, h1, q, fun y => ?_, rfl, ha, hs⟩
  · simp only [PH.join] at hy ⊢
    cases h1y : h1 y with
    | some u => rw [h1y] at hy; simpa using hy
    | none => rw [h1y] at hy; simp only [Option.none_or] at hy ⊢; exact hq y o hy
  · rcases hd y with h | h
    · exact .inl h
    · cases hqy : q y with
      | none => exact .inr rfl
      | some u => rw [hq y u hqy] at h; cases h
theorem St.entd {L L' : List Asn} (h : St W0 L W) (he : Eng.entd L L') : St W0 L' W := by
  obtain ⟨hb, p, hs, ho⟩ := h
  obtain ⟨q, hq, hs'⟩ := he p hs
  exact ⟨hb, q, hs', fun b o hbo => ho b o (hq b o hbo)⟩
class Pk (x : Asn) (L : List Asn) (L' : outParam (List Asn)) : Prop where
  perm : L.Perm (x :: L')
instance (priority := high) Pk.here (x : Asn) (L : List Asn) : Pk x (x :: L) L := ⟨.refl _⟩
instance Pk.there (x y : Asn) (L L' : List Asn) [h : Pk x L L'] : Pk x (y :: L) (y :: L') := ⟨(h.perm.cons y).trans (List.Perm.swap _ _ _)⟩
class Wk (L L' : List Asn) : Prop where
  ok : Eng.entd L L'
instance (priority := high) Wk.refl (L : List Asn) : Wk L L := ⟨entd.refl L⟩
instance (priority := 900) Wk.pick (x : Asn) (L L1 L' : List Asn) [h : Pk x L L1] [h' : Wk L1 L'] : Wk L (x :: L') := ⟨(ent.perm h.perm).d.trans (h'.ok.cons x)⟩
instance (priority := low) Wk.drop (x : Asn) (L L' : List Asn) [h : Wk L L'] : Wk (x :: L) L' := ⟨(entd.drop x L).trans h.ok⟩
instance (priority := 950) Wk.nil (L : List Asn) : Wk L [] := ⟨fun p _ => ⟨fun _ => none, ⟨fun _ _ h => (nomatch h), fun _ => rfl⟩⟩⟩
/-- the chunks that are wanted, in the order that is wanted -/
theorem St.wk {L L' : List Asn} (h : St W0 L W) [hw : Wk L L'] : St W0 L' W := h.entd hw.ok
end

/-! ### seven of a kind -/
structure P7 (α : Type) where
  x0 : α
  x1 : α
  x2 : α
  x3 : α
  x4 : α
  x5 : α
  x6 : α
  deriving DecidableEq
namespace P7
variable {α β γ : Type}
abbrev of (f : Nat → α) : P7 α := ⟨f 0, f 1, f 2, f 3, f 4, f 5, f 6⟩
@[reducible] def get (p : P7 α) : Nat → α
  | 0 => p.x0
  | 1 => p.x1
  | 2 => p.x2
  | 3 => p.x3
  | 4 => p.x4
  | 5 => p.x5
  | _ => p.x6
def map (f : α → β) (p : P7 α) : P7 β := ⟨f p.x0, f p.x1, f p.x2, f p.x3, f p.x4, f p.x5, f p.x6⟩
abbrev set (p : P7 α) (i : Nat) (x : α) : P7 α := of fun j => if j = i then x else p.get j
abbrev all (a : α) : P7 α := ⟨a, a, a, a, a, a, a⟩
theorem cases7 {i : Nat} (h : i < 7) : i = 0 ∨ i = 1 ∨ i = 2 ∨ i = 3 ∨ i = 4 ∨ i = 5 ∨ i = 6 := by omega
theorem get_of (f : Nat → α) {i : Nat} (h : i < 7) : (of f).get i = f i := by rcases cases7 h with rfl | rfl | rfl | rfl | rfl | rfl | rfl <;> rfl
theorem of_get (p : P7 α) : of p.get = p := rfl
theorem ext7 {p q : P7 α} (h : ∀ i, i < 7 → p.get i = q.get i) : p = q := by
  rw [← of_get p, ← of_get q]
  simp only [of, h 0 (by omega), h 1 (by omega), h 2 (by omega), h 3 (by omega), h 4 (by omega), h 5 (by omega), h 6 (by omega)]
theorem get_map (f : α → β) (p : P7 α) (i : Nat) : (p.map f).get i = f (p.get i) := by
  unfold get; split <;> rfl
theorem get_set (p : P7 α) (i j : Nat) (x : α) (hj : j < 7) : (p.set i x).get j = if j = i then x else p.get j := by rw [set, get_of _ hj]
theorem map_set (f : α → β) (p : P7 α) (i : Nat) (x : α) : (p.set i x).map f = (p.map f).set i (f x) := by
  refine ext7 fun j hj => ?_
  rw [get_map, get_set _ _ _ _ hj, get_set _ _ _ _ hj, get_map]
  split <;> rfl
theorem map_map (f : α → β) (g : β → γ) (p : P7 α) : (p.map f).map g = p.map (fun x => g (f x)) := rfl
end P7
end Go.Eng
namespace Go.Proofs.Ythladblmjoaeoaa
set_option linter.unusedVariables false
set_option linter.unusedSimpArgs false
open Go.Eng
/-! ### rostrum/wal.little (71) -/
def S.wal_little.j1 (R : Value → World → Prop) (x5 : Value) (W : World) : Prop :=
  R x5 W
def S.wal_little.l1 (J1 : List Value → World → Prop) (K1 : List Value → World → Prop) (x0 x5 x7 x8 : Value) (W : World) : Prop :=
  okF (binP .lss x8 x7) fun v9 =>
  ifK v9 (
  okF (binP .mul (.int .i64 8) x8) fun v14 =>
  okF (binP .shr x0 v14) fun v15 =>
  okF (cvtP (.int .u8) v15) fun v16 =>
  efK PR (Instr.buildSlice T_s_uint8 1 #[(0, v16)]) (fun v17 W =>
  efK PR (Builtin.append_ #[T_s_uint8, T_s_uint8] T_s_uint8 #[x5, v17]) (fun v18 W =>
  okF (binP .add x8 (.int .i64 1)) fun v19 =>
  K1 [x0, v18, x7, v19] W) W) W) (
  J1 [x5] W)
def S.wal_little.body (R : Value → World → Prop) (v0 v1 : Value) (W : World) : Prop :=
  joinK (fun s W => S.wal_little.j1 R (nthv s 0) W) (fun J1 =>
  loopK (fun K1 s W => S.wal_little.l1 J1 K1 (nthv s 0) (nthv s 1) (nthv s 2) (nthv s 3) W) [v0, (.slice none 0 0), v1, (.int .i64 0)] W)
def S.wal_little.hint : Hint := (.two .nil (.two .nil (.at [5] (.two .nil (.at [0, 5, 7, 8] (.two .nil (.two (.two .nil .nil) (.two (.two .nil .nil) .nil))) .nil)) (.two .nil .nil))))
theorem S.wal_little.ok (R : Value → World → Prop) (v0 v1 : Value) (W : World) : bodyK PR CB Try.f71 S.wal_little.hint [v0, v1] R W = S.wal_little.body R v0 v1 W := by kernel_rfl
theorem S.wal_little.fn : PR.funcs[F_wal_little]? = some Try.f71 := by kernel_rfl
theorem S.wal_little.call {R : Value → World → Prop} {v0 v1 : Value} {W : World} (h : S.wal_little.body R v0 v1 W) : callK PR F_wal_little [v0, v1] R W :=
  callK_of_body (g := F_wal_little) (fn := Try.f71) (args := [v0, v1]) (R := R) (w := W) mixed CBok S.wal_little.fn S.wal_little.hint (by rw [S.wal_little.ok]; exact h)
/-! ### rostrum/wal.read (78) -/
def S.wal_read.j1 (R : Value → World → Prop) (x3 : Value) (W : World) : Prop :=
  R x3 W
def S.wal_read.l1 (J1 : List Value → World → Prop) (K1 : List Value → World → Prop) (x3 x6 x7 x8 : Value) (W : World) : Prop :=
  okF (binP .lss x8 x7) fun v9 =>
  ifK v9 (
  okF (idxS 1 x6 x8) fun v11 =>
  rdK PR (Instr.loadAt T_uint8 v11) (fun v12 W =>
  okF (cvtP (.int .u64) v12) fun v15 =>
  okF (binP .mul (.int .i64 8) x8) fun v17 =>
  okF (binP .shl v15 v17) fun v18 =>
  okF (binP .or x3 v18) fun v19 =>
  okF (binP .add x8 (.int .i64 1)) fun v20 =>
  K1 [v19, x6, x7, v20] W) W) (
  J1 [x3] W)
def S.wal_read.body (R : Value → World → Prop) (v0 : Value) (W : World) : Prop :=
  joinK (fun s W => S.wal_read.j1 R (nthv s 0) W) (fun J1 =>
  okF (lenP (.slice T_uint8) v0) fun v7 =>
  loopK (fun K1 s W => S.wal_read.l1 J1 K1 (nthv s 0) (nthv s 1) (nthv s 2) (nthv s 3) W) [(.int .u64 0), v0, v7, (.int .i64 0)] W)
def S.wal_read.hint : Hint := (.two .nil (.two .nil (.at [3] (.two .nil (.at [3, 6, 7, 8] (.two .nil (.two (.two .nil .nil) (.two (.two .nil .nil) .nil))) .nil)) (.two .nil .nil))))
theorem S.wal_read.ok (R : Value → World → Prop) (v0 : Value) (W : World) : bodyK PR CB Try.f78 S.wal_read.hint [v0] R W = S.wal_read.body R v0 W := by kernel_rfl
theorem S.wal_read.fn : PR.funcs[F_wal_read]? = some Try.f78 := by kernel_rfl
theorem S.wal_read.call {R : Value → World → Prop} {v0 : Value} {W : World} (h : S.wal_read.body R v0 W) : callK PR F_wal_read [v0] R W :=
  callK_of_body (g := F_wal_read) (fn := Try.f78) (args := [v0]) (R := R) (w := W) mixed CBok S.wal_read.fn S.wal_read.hint (by rw [S.wal_read.ok]; exact h)
/-! ### rostrum/wal.framed (72) -/
def S.wal_framed.j1 (R : Value → World → Prop) (x3 : Value) (W : World) : Prop :=
  R x3 W
def S.wal_framed.l1 (J1 : List Value → World → Prop) (K1 : List Value → World → Prop) (x3 x6 x7 x8 : Value) (W : World) : Prop :=
  okF (binP .lss x8 x7) fun v9 =>
  ifK v9 (
  okF (idxS 1 x6 x8) fun v10 =>
  rdK PR (Instr.loadAt T_s_uint8 v10) (fun v11 W =>
  callK PR F_frame_Put [x3, v11] (fun v15 W =>
  okF (extP 0 v15) fun v16 =>
  okF (extP 1 v15) fun v17 =>
  okF (binP .add x8 (.int .i64 1)) fun v18 =>
  K1 [v16, x6, x7, v18] W) W) W) (
  J1 [x3] W)
def S.wal_framed.body (R : Value → World → Prop) (v0 : Value) (W : World) : Prop :=
  joinK (fun s W => S.wal_framed.j1 R (nthv s 0) W) (fun J1 =>
  okF (lenP (.slice T_s_uint8) v0) fun v7 =>
  loopK (fun K1 s W => S.wal_framed.l1 J1 K1 (nthv s 0) (nthv s 1) (nthv s 2) (nthv s 3) W) [(.slice none 0 0), v0, v7, (.int .i64 0)] W)
def S.wal_framed.hint : Hint := (.two .nil (.two .nil (.at [3] (.two .nil (.at [3, 6, 7, 8] (.two .nil (.two (.two .nil .nil) (.two (.two .nil .nil) .nil))) .nil)) (.two .nil .nil))))
theorem S.wal_framed.ok (R : Value → World → Prop) (v0 : Value) (W : World) : bodyK PR CB Try.f72 S.wal_framed.hint [v0] R W = S.wal_framed.body R v0 W := by kernel_rfl
theorem S.wal_framed.fn : PR.funcs[F_wal_framed]? = some Try.f72 := by kernel_rfl
theorem S.wal_framed.call {R : Value → World → Prop} {v0 : Value} {W : World} (h : S.wal_framed.body R v0 W) : callK PR F_wal_framed [v0] R W :=
  callK_of_body (g := F_wal_framed) (fn := Try.f72) (args := [v0]) (R := R) (w := W) mixed CBok S.wal_framed.fn S.wal_framed.hint (by rw [S.wal_framed.ok]; exact h)
/-! ### rostrum/wal.unit (59) -/
def S.wal_unit.body (R : Value → World → Prop) (v0 : Value) (W : World) : Prop :=
  okF (lenP (.slice T_uint8) v0) fun v4 =>
  okF (cvtP (.int .u64) v4) fun v5 =>
  callK PR F_wal_little [v5, (.int .i64 4)] (fun v6 W =>
  efK PR (Instr.buildSlice T_s_s_uint8 2 #[(0, v6), (1, v0)]) (fun v8 W =>
  callK PR F_wal_framed [v8] (fun v9 W =>
  R v9 W) W) W) W
def S.wal_unit.hint : Hint := (.two .nil (.two .nil .nil))
theorem S.wal_unit.ok (R : Value → World → Prop) (v0 : Value) (W : World) : bodyK PR CB Try.f59 S.wal_unit.hint [v0] R W = S.wal_unit.body R v0 W := by kernel_rfl
theorem S.wal_unit.fn : PR.funcs[F_wal_unit]? = some Try.f59 := by kernel_rfl
theorem S.wal_unit.call {R : Value → World → Prop} {v0 : Value} {W : World} (h : S.wal_unit.body R v0 W) : callK PR F_wal_unit [v0] R W :=
  callK_of_body (g := F_wal_unit) (fn := Try.f59) (args := [v0]) (R := R) (w := W) mixed CBok S.wal_unit.fn S.wal_unit.hint (by rw [S.wal_unit.ok]; exact h)
/-! ### rostrum/wal.top (58) -/
def S.wal_top.body (R : Value → World → Prop) (v0 v1 v2 : Value) (W : World) : Prop :=
  okF (cvtP (.int .u8) v0) fun v9 =>
  efK PR (Instr.buildSlice T_s_uint8 1 #[(0, v9)]) (fun v10 W =>
  callK PR F_wal_little [v1, (.int .i64 8)] (fun v12 W =>
  efK PR (Builtin.append_ #[T_s_uint8, T_s_uint8] T_s_uint8 #[v10, v12]) (fun v13 W =>
  okF (cvtP (.int .u64) v2) fun v16 =>
  callK PR F_wal_little [v16, (.int .i64 4)] (fun v17 W =>
  efK PR (Builtin.append_ #[T_s_uint8, T_s_uint8] T_s_uint8 #[v13, v17]) (fun v18 W =>
  efK PR (Instr.buildSlice T_s_s_uint8 1 #[(0, v18)]) (fun v19 W =>
  callK PR F_wal_framed [v19] (fun v20 W =>
  R v20 W) W) W) W) W) W) W) W
def S.wal_top.hint : Hint := (.two .nil (.two .nil (.two .nil .nil)))
theorem S.wal_top.ok (R : Value → World → Prop) (v0 v1 v2 : Value) (W : World) : bodyK PR CB Try.f58 S.wal_top.hint [v0, v1, v2] R W = S.wal_top.body R v0 v1 v2 W := by kernel_rfl
theorem S.wal_top.fn : PR.funcs[F_wal_top]? = some Try.f58 := by kernel_rfl
theorem S.wal_top.call {R : Value → World → Prop} {v0 v1 v2 : Value} {W : World} (h : S.wal_top.body R v0 v1 v2 W) : callK PR F_wal_top [v0, v1, v2] R W :=
  callK_of_body (g := F_wal_top) (fn := Try.f58) (args := [v0, v1, v2]) (R := R) (w := W) mixed CBok S.wal_top.fn S.wal_top.hint (by rw [S.wal_top.ok]; exact h)
/-! ### rostrum/wal.just (77) -/
def S.wal_just.body (R : Value → World → Prop) (v0 v1 : Value) (W : World) : Prop :=
  callK PR F_frame_Get [v0] (fun v11 W =>
  okF (extP 0 v11) fun v12 =>
  okF (extP 1 v11) fun v13 =>
  okF (extP 2 v11) fun v14 =>
  okF (binP .eql v14 (.int .i64 0)) fun v17 =>
  gdK (wantd v17 true) (fun k W => k v12 W) (fun v19 W =>
  gdK (wantd v17 true) (fun k W => okF (lenP (.slice T_uint8) v19) fun v => k v W) (fun v20 W =>
  gdK (wantd v17 true) (fun k W => k v1 W) (fun v21 W =>
  gdK (wantd v17 true) (fun k W => okF (binP .eql v20 v21) fun v => k v W) (fun v22 W =>
  okF (pickP v17 v22 (.bool false)) fun v23 =>
  gdK (wantd v23 true) (fun k W => k v13 W) (fun v25 W =>
  gdK (wantd v23 true) (fun k W => okF (lenP (.slice T_uint8) v25) fun v => k v W) (fun v26 W =>
  gdK (wantd v23 true) (fun k W => okF (binP .eql v26 (.int .i64 0)) fun v => k v W) (fun v27 W =>
  okF (pickP v23 v27 (.bool false)) fun v28 =>
  R (.tuple #[v12, v28]) W) W) W) W) W) W) W) W) W
def S.wal_just.hint : Hint := (.two .nil (.two .nil (.two .nil .nil)))
theorem S.wal_just.ok (R : Value → World → Prop) (v0 v1 : Value) (W : World) : bodyK PR CB Try.f77 S.wal_just.hint [v0, v1] R W = S.wal_just.body R v0 v1 W := by kernel_rfl
theorem S.wal_just.fn : PR.funcs[F_wal_just]? = some Try.f77 := by kernel_rfl
theorem S.wal_just.call {R : Value → World → Prop} {v0 v1 : Value} {W : World} (h : S.wal_just.body R v0 v1 W) : callK PR F_wal_just [v0, v1] R W :=
  callK_of_body (g := F_wal_just) (fn := Try.f77) (args := [v0, v1]) (R := R) (w := W) mixed CBok S.wal_just.fn S.wal_just.hint (by rw [S.wal_just.ok]; exact h)
/-! ### rostrum/wal.parse (65) -/
def S.wal_parse.j1 (R : Value → World → Prop) (x4 x7 : Value) (W : World) : Prop :=
  rdK PR (Instr.loadAt T_wal_file x7) (fun v92 W =>
  efK PR (Instr.storeAt T_wal_file x4 v92) (fun _ W =>
  rdK PR (Instr.loadAt T_wal_file x4) (fun r0 W =>
  R (.tuple #[r0, (.bool true), (.int .i64 0)]) W) W) W) W
def S.wal_parse.l1 (R : Value → World → Prop) (J1 : List Value → World → Prop) (K1 : List Value → World → Prop) (x1 x4 x7 : Value) (W : World) : Prop :=
  okF (lenP (.slice T_uint8) x1) fun v46 =>
  okF (binP .gtr v46 (.int .i64 0)) fun v47 =>
  ifK v47 (
  okF (lenP (.slice T_uint8) x1) fun v49 =>
  okF (binP .lss v49 (.int .i64 13)) fun v50 =>
  ifK v50 (
  okF (addrF 5 x7) fun v51 =>
  efK PR (Instr.storeAt T_bool v51 (.bool true)) (fun _ W =>
  J1 [x4, x7] W) W) (
  okF (slcS 1 x1 none (some (.int .i64 13)) none) fun v54 =>
  callK PR F_wal_just [v54, (.int .i64 4)] (fun v55 W =>
  okF (extP 0 v55) fun v56 =>
  okF (extP 1 v55) fun v57 =>
  okF (unP .not v57) fun v59 =>
  ifK v59 (
  rdK PR (Instr.loadAt T_wal_file x7) (fun v60 W =>
  efK PR (Instr.storeAt T_wal_file x4 v60) (fun _ W =>
  rdK PR (Instr.loadAt T_wal_file x4) (fun r0 W =>
  R (.tuple #[r0, (.bool false), (.int .i64 3)]) W) W) W) W) (
  callK PR F_wal_read [v56] (fun v62 W =>
  okF (cvtP (.int .i64) v62) fun v63 =>
  okF (binP .add (.int .i64 22) v63) fun v64 =>
  okF (lenP (.slice T_uint8) x1) fun v66 =>
  okF (binP .lss v66 v64) fun v68 =>
  ifK v68 (
  okF (addrF 5 x7) fun v69 =>
  efK PR (Instr.storeAt T_bool v69 (.bool true)) (fun _ W =>
  J1 [x4, x7] W) W) (
  okF (slcS 1 x1 (some (.int .i64 13)) (some v64) none) fun v73 =>
  callK PR F_wal_read [v56] (fun v75 W =>
  okF (cvtP (.int .i64) v75) fun v76 =>
  callK PR F_wal_just [v73, v76] (fun v77 W =>
  okF (extP 0 v77) fun v78 =>
  okF (extP 1 v77) fun v79 =>
  okF (unP .not v79) fun v81 =>
  ifK v81 (
  rdK PR (Instr.loadAt T_wal_file x7) (fun v82 W =>
  efK PR (Instr.storeAt T_wal_file x4 v82) (fun _ W =>
  rdK PR (Instr.loadAt T_wal_file x4) (fun r0 W =>
  R (.tuple #[r0, (.bool false), (.int .i64 3)]) W) W) W) W) (
  okF (addrF 4 x7) fun v83 =>
  rdK PR (Instr.loadAt T_s_s_uint8 v83) (fun v84 W =>
  efK PR (Instr.buildSlice T_s_s_uint8 1 #[(0, v78)]) (fun v86 W =>
  efK PR (Builtin.append_ #[T_s_s_uint8, T_s_s_uint8] T_s_s_uint8 #[v84, v86]) (fun v87 W =>
  okF (addrF 4 x7) fun v88 =>
  efK PR (Instr.storeAt T_s_s_uint8 v88 v87) (fun _ W =>
  okF (slcS 1 x1 (some v64) none none) fun v91 =>
  K1 [v91, x4, x7] W) W) W) W) W)) W) (tick W))) W)) W)) (
  J1 [x4, x7] W)
def S.wal_parse.body (R : Value → World → Prop) (v0 v1 : Value) (W : World) : Prop :=
  efK PR (Instr.alloc T_wal_file true (.tuple #[])) (fun v4 W =>
  okF (bldP (fun i => ([(0, 1), (1, 1), (2, 1), (3, 1), (4, 1), (5, 1)] : List (Nat × Nat))[i]?) [.int .i64 0, .int .i64 0, .int .i64 0, .int .u64 0, .slice none 0 0, .bool false] [(0, v0)]) fun v15 =>
  efK PR (Instr.alloc T_wal_file true (.tuple #[])) (fun v7 W =>
  efK PR (Instr.storeAt T_wal_file v7 v15) (fun _ W =>
  okF (lenP (.slice T_uint8) v1) fun v17 =>
  okF (binP .lss v17 (.int .i64 22)) fun v18 =>
  ifK v18 (
  rdK PR (Instr.loadAt T_wal_file v7) (fun v19 W =>
  efK PR (Instr.storeAt T_wal_file v4 v19) (fun _ W =>
  rdK PR (Instr.loadAt T_wal_file v4) (fun r0 W =>
  R (.tuple #[r0, (.bool false), (.int .i64 0)]) W) W) W) W) (
  okF (slcS 1 v1 none (some (.int .i64 22)) none) fun v22 =>
  callK PR F_wal_just [v22, (.int .i64 13)] (fun v23 W =>
  okF (extP 0 v23) fun v24 =>
  okF (extP 1 v23) fun v25 =>
  okF (unP .not v25) fun v27 =>
  ifK v27 (
  rdK PR (Instr.loadAt T_wal_file v7) (fun v28 W =>
  efK PR (Instr.storeAt T_wal_file v4 v28) (fun _ W =>
  rdK PR (Instr.loadAt T_wal_file v4) (fun r0 W =>
  R (.tuple #[r0, (.bool false), (.int .i64 3)]) W) W) W) W) (
  okF (idxS 1 v24 (.int .i64 0)) fun v30 =>
  rdK PR (Instr.loadAt T_uint8 v30) (fun v31 W =>
  okF (cvtP (.int .i64) v31) fun v32 =>
  okF (slcS 1 v24 (some (.int .i64 1)) (some (.int .i64 9)) none) fun v34 =>
  okF (slcS 1 v24 (some (.int .i64 9)) none none) fun v37 =>
  okF (addrF 1 v7) fun v40 =>
  callK PR F_wal_read [v34] (fun v35 W =>
  stb PR [(2, true, (Instr.loadAt T_uint8 v30), v31)] (fun W =>
  callK PR F_wal_read [v37] (fun v38 W =>
  stb PR [(2, true, (Instr.loadAt T_uint8 v30), v31)] (fun W =>
  okF (cvtP (.int .i64) v38) fun v39 =>
  efK PR (Instr.storeAt T_int v40 v32) (fun _ W =>
  okF (addrF 3 v7) fun v41 =>
  efK PR (Instr.storeAt T_uint64 v41 v35) (fun _ W =>
  okF (addrF 2 v7) fun v42 =>
  efK PR (Instr.storeAt T_int v42 v39) (fun _ W =>
  joinK (fun s W => S.wal_parse.j1 R (nthv s 0) (nthv s 1) W) (fun J1 =>
  okF (slcS 1 v1 (some (.int .i64 22)) none none) fun v44 =>
  loopK (fun K1 s W => S.wal_parse.l1 R J1 K1 (nthv s 0) (nthv s 1) (nthv s 2) W) [v44, v4, v7] W)) W) W) W) W) W) W) W) (tick W))) W)) W) W) W
def S.wal_parse.hint : Hint := (.two .nil (.two .nil (.two (.two .nil (.two (.two .nil .nil) .nil)) (.two .nil (.two (.two .nil (.two (.two .nil .nil) .nil)) (.two .nil (.at [4, 7] (.two .nil (.at [1, 4, 7] (.two (.two .nil (.two .nil .nil)) (.two (.two .nil (.two (.two .nil .nil) .nil)) (.two .nil (.two (.two .nil (.two (.two .nil .nil) .nil)) (.two .nil (.two (.two .nil (.two (.two .nil .nil) .nil)) (.two .nil (.two (.two .nil (.two (.two .nil .nil) .nil)) (.two .nil .nil))))))))) .nil)) (.two .nil .nil))))))))
theorem S.wal_parse.ok (R : Value → World → Prop) (v0 v1 : Value) (W : World) : bodyK PR CB Try.f65 S.wal_parse.hint [v0, v1] R W = S.wal_parse.body R v0 v1 W := by kernel_rfl
theorem S.wal_parse.fn : PR.funcs[F_wal_parse]? = some Try.f65 := by kernel_rfl
theorem S.wal_parse.call {R : Value → World → Prop} {v0 v1 : Value} {W : World} (h : S.wal_parse.body R v0 v1 W) : callK PR F_wal_parse [v0, v1] R W :=
  callK_of_body (g := F_wal_parse) (fn := Try.f65) (args := [v0, v1]) (R := R) (w := W) mixed CBok S.wal_parse.fn S.wal_parse.hint (by rw [S.wal_parse.ok]; exact h)
end Go.Proofs.Ythladblmjoaeoaa
namespace Go.Proofs.Ythladblmjoaeoaa
set_option linter.unusedVariables false
set_option linter.unusedSimpArgs false
open Go Go.Eng

section
variable {W0 W : World} {L L' : List Asn}
theorem framePut {a b : Option Addr} {c e : Nat} {l r : Bs} {k : Value → World → Prop} (h : St W0 L W) [hr : Rd W0 L a B8 l] [hr2 : Rd W0 L b B8 r] (hl : l.length < 35184372088832) (hm : r.length ≤ 65536)
    (hk : ∀ a' c' W', St W0 (arr B8 T_uint8 a' c' (l ++ frm r) :: L) W' → k (.tuple #[.slice a' (l ++ frm r).length c', .int .i64 0]) W') : callK PR F_frame_Put [.slice a l.length c, .slice b r.length e] k W := by
  apply S.frame_Put.call
  unfold S.frame_Put.body
  have e1 : decide (65536 < (r.length : Int)) = false := decide_eq_false (by omega)
  have e2 : IntKind.u32.wrap (r.length : Int) = (r.length : Int) := w32 _ (by omega) (by omega)
  (repeat (first | (first | ((with_reducible first | refine w1 ?_ | refine w3 ?_ | refine w4 ?_ | refine w11 ?_ | refine stb_n ?_); intros) | ((with_reducible first | refine v5 ?_ | refine v6 ?_ | refine v7 ?_ | refine ve ?_ | refine vn ?_); refine ⟨_, rfl, ?_⟩) | ((with_reducible first | refine v8 ?_ ?_ | refine v9 ?_ ?_ | refine v10 ?_ ?_ | refine v12 ?_ ?_); exact rfl; intros) | ((with_reducible refine w2 ?_); try simp -implicitDefEqProofs only [SE, SU, SV, e1, e2]; intros) | ((with_reducible refine w5 ?_ ?_); simp; refine ⟨_, rfl, ?_⟩) | ((with_reducible refine w12 ?_ ?_ ?_ ?_); simp; simp; simp [oneC]; intros) | (refine okF_i (bldP_eq rfl) ?_; try simp only [BLS, SB, Nat.reduceAdd])) | simp -implicitDefEqProofs only [SE, SU, SV, e1, e2]))
  refine frameNumber (by first | assumption | exact St.tick (by assumption) | exact St.tick (St.tick (by assumption))) (by omega) fun a1 c1 W1 h => ?_
  refine bytesClone (a := a) (l := l) h (by omega) fun a2 c2 W2 h => ?_
  refine pushA (a := a2) (1 : UInt8) h rfl rfl (by omega) (by simp only [maxLen]; omega) (by decide) fun a3 c3 W3 h => ?_
  refine appA (a := a3) (m := leB 4 r.length) h rfl (by simp; omega) (by simp [maxLen]; omega) fun a4 c4 W4 h => ?_
  refine bsA BSY [⟨a1, c1, leB 4 r.length⟩, ⟨b, e, r⟩] (n := 2) h rfl rfl (by decide) (by decide) rfl fun a5 c5 W5 h => ?_
  refine crcOf (a := a5) (rows := [⟨a1, c1, leB 4 r.length⟩, ⟨b, e, r⟩]) h (fun x hx => ?_) (by simp) (fun x hx => ?_) fun W6 h => ?_
  · simp only [List.mem_cons, List.not_mem_nil, or_false] at hx
    rcases hx with rfl | rfl <;> exact inferInstance
  · simp only [List.mem_cons, List.not_mem_nil, or_false] at hx
    rcases hx with rfl | rfl
    · simp
    · show r.length < _; omega
  have es : ([⟨a1, c1, leB 4 r.length⟩, ⟨b, e, r⟩] : List BSl).flatMap (·.bs) = leB 4 r.length ++ r := by simp
  rw [es]
  refine frameNumber h (crc_lt _) fun a7 c7 W7 h => ?_
  refine appA (a := a4) (m := leB 4 (crc (leB 4 r.length ++ r))) h rfl (by simp; omega) (by simp [maxLen]; omega) fun a8 c8 W8 h => ?_
  refine appA (a := a8) (m := r) h rfl (by simp; omega) (by simp [maxLen]; omega) fun a9 c9 W9 h => ?_
  have ef : l ++ [1] ++ leB 4 r.length ++ leB 4 (crc (leB 4 r.length ++ r)) ++ r = l ++ frm r := by simp [frm]
  rw [ef] at h ⊢
  exact hk a9 c9 _ (St.wk h)
theorem frameGet {a : Option Addr} {c : Nat} {b : Bs} {k : Value → World → Prop} (h : St W0 L W) [hr : Rd W0 L a B8 b] (hc : b.length ≤ c) (hl : b.length < 35184372088832)
    (hk : ∀ a1 c1 a2 c2 W', St W0 (arr B8 T_uint8 a1 c1 (fget b).1 :: arr B8 T_uint8 a2 c2 (fget b).2.1 :: L) W' → k (.tuple #[.slice a1 (fget b).1.length c1, .slice a2 (fget b).2.1.length c2, .int .i64 (fget b).2.2]) W') : callK PR F_frame_Get [.slice a b.length c] k W := by
  apply S.frame_Get.call
  unfold S.frame_Get.body
  have hno : ∀ W', St W0 L W' → St W0 (arr B8 T_uint8 none 0 [] :: arr B8 T_uint8 none 0 [] :: L) W' := fun W' h => (h.ent (arr_nil B8 T_uint8)).ent (arr_nil B8 T_uint8)
  unfold fget at hk
  by_cases h0 : b = []
  · rw [if_pos h0] at hk
    subst h0
    have e1 : decide (((([] : Bs).length : Nat) : Int) = 0) = true := rfl
    (repeat (first | (first | ((with_reducible first | refine w1 ?_ | refine w3 ?_ | refine w4 ?_ | refine w11 ?_ | refine stb_n ?_); intros) | ((with_reducible first | refine v5 ?_ | refine v6 ?_ | refine v7 ?_ | refine ve ?_ | refine vn ?_); refine ⟨_, rfl, ?_⟩) | ((with_reducible first | refine v8 ?_ ?_ | refine v9 ?_ ?_ | refine v10 ?_ ?_ | refine v12 ?_ ?_); exact rfl; intros) | ((with_reducible refine w2 ?_); try simp -implicitDefEqProofs only [SE, SU, SV, e1]; intros) | ((with_reducible refine w5 ?_ ?_); simp; refine ⟨_, rfl, ?_⟩) | ((with_reducible refine w12 ?_ ?_ ?_ ?_); simp; simp; simp [oneC]; intros) | (refine okF_i (bldP_eq rfl) ?_; try simp only [BLS, SB, Nat.reduceAdd])) | simp -implicitDefEqProofs only [SE, SU, SV, e1]))
    exact hk none 0 none 0 _ (hno _ (by first | assumption | exact St.tick (by assumption) | exact St.tick (St.tick (by assumption))))
  · have hpos : 0 < b.length := List.length_pos_iff.2 h0
    rw [if_neg h0] at hk
    have e1 : decide ((b.length : Int) = 0) = false := decide_eq_false (by omega)
    (repeat (first | (first | ((with_reducible first | refine w1 ?_ | refine w3 ?_ | refine w4 ?_ | refine w11 ?_ | refine stb_n ?_); intros) | ((with_reducible first | refine v5 ?_ | refine v6 ?_ | refine v7 ?_ | refine ve ?_ | refine vn ?_); refine ⟨_, rfl, ?_⟩) | ((with_reducible first | refine v8 ?_ ?_ | refine v9 ?_ ?_ | refine v10 ?_ ?_ | refine v12 ?_ ?_); exact rfl; intros) | ((with_reducible refine w2 ?_); try simp -implicitDefEqProofs only [SE, SU, SV, e1]; intros) | ((with_reducible refine w5 ?_ ?_); simp; refine ⟨_, rfl, ?_⟩) | ((with_reducible refine w12 ?_ ?_ ?_ ?_); simp; simp; simp [oneC]; intros) | (refine okF_i (bldP_eq rfl) ?_; try simp only [BLS, SB, Nat.reduceAdd])) | simp -implicitDefEqProofs only [SE, SU, SV, e1]))
    have emin : foldP min2P [.int .i64 5, .int .i64 (b.length : Int)] = some (.int .i64 ((min 5 b.length : Nat) : Int)) := by
      show some (Value.int .i64 (if (b.length : Int) < 5 then (b.length : Int) else 5)) = _
      congr 2
      split <;> omega
    refine okF_i emin ?_
    refine slcR (a := a) (l := b) (A := B8) (lo := 1) (hi := min 5 b.length) (by first | assumption | exact St.tick (by assumption) | exact St.tick (St.tick (by assumption))) rfl rfl (bnd_nat (by omega)) (bnd_int (by decide) (by omega)) (by omega) (by omega) hc fun a1 c1 hr1 => ?_
    have et : b.take (min 5 b.length) = b.take 5 := by
      by_cases c5 : b.length ≤ 5
      · rw [Nat.min_eq_right c5, List.take_length, List.take_of_length_le (by omega)]
      · rw [Nat.min_eq_left (by omega)]
    rw [et] at hr1 ⊢
    have hle4 : ((b.take 5).drop 1).length ≤ 4 := by simp; omega
    refine frameRead (a := a1) (l := (b.take 5).drop 1) (by first | assumption | exact St.tick (by assumption) | exact St.tick (St.tick (by assumption))) hle4 fun W1 h => ?_
    have hv := unle_lt ((b.take 5).drop 1)
    have hv : unle ((b.take 5).drop 1) < 2 ^ 32 := Nat.lt_of_lt_of_le hv (Nat.le_trans (Nat.pow_le_pow_right (by decide) hle4) (by decide))
    refine ixA (i := 0) (a := a) (l := b) (A := B8) h rfl rfl hpos fun g o ha => ?_
    refine ldA0 (i := 0) (l := b) (A := B8) (hr := ha ▸ hr) h rfl hpos (v := b8 b[0]) rfl (by simp) ?_
    have ehd : b.headD 0 = b[0] := by cases b with | nil => exact absurd rfl h0 | cons x l => rfl
    rw [show b8 b[0] = .int .u8 (b[0].toNat : Int) from rfl]
    by_cases hv1 : b[0] = 1
    · have e2 : decide ((b[0].toNat : Int) = 1) = true := by rw [hv1]; rfl
      generalize hn : unle ((b.take 5).drop 1) = n at *
      by_cases hv2 : 65536 < n
      · rw [if_pos (.inr hv2)] at hk
        have e3 : decide ((65536 : Int) < (n : Int)) = true := decide_eq_true (by omega)
        (repeat (first | (first | ((with_reducible first | refine w1 ?_ | refine w3 ?_ | refine w4 ?_ | refine w11 ?_ | refine stb_n ?_); intros) | ((with_reducible first | refine v5 ?_ | refine v6 ?_ | refine v7 ?_ | refine ve ?_ | refine vn ?_); refine ⟨_, rfl, ?_⟩) | ((with_reducible first | refine v8 ?_ ?_ | refine v9 ?_ ?_ | refine v10 ?_ ?_ | refine v12 ?_ ?_); exact rfl; intros) | ((with_reducible refine w2 ?_); try simp -implicitDefEqProofs only [SE, SU, SV, e2, e3]; intros) | ((with_reducible refine w5 ?_ ?_); simp; refine ⟨_, rfl, ?_⟩) | ((with_reducible refine w12 ?_ ?_ ?_ ?_); simp; simp; simp [oneC]; intros) | (refine okF_i (bldP_eq rfl) ?_; try simp only [BLS, SB, Nat.reduceAdd])) | simp -implicitDefEqProofs only [SE, SU, SV, e2, e3]))
        exact hk none 0 none 0 _ (hno _ (by first | assumption | exact St.tick (by assumption) | exact St.tick (St.tick (by assumption))))
      · rw [if_neg (by rw [ehd, hv1]; rintro (h1 | h1); exact h1 rfl; exact hv2 h1)] at hk
        have e3 : decide ((65536 : Int) < (n : Int)) = false := decide_eq_false (by omega)
        have e4 : IntKind.i64.wrap (n : Int) = (n : Int) := by rw [i64w]; omega
        have e5 : IntKind.i64.wrap (9 + (n : Int)) = ((9 + n : Nat) : Int) := by rw [i64w]; omega
        by_cases hv3 : b.length < 9 + n
        · rw [if_pos hv3] at hk
          have e6 : decide ((b.length : Int) < ((9 + n : Nat) : Int)) = true := decide_eq_true (by omega)
          (repeat (first | (first | ((with_reducible first | refine w1 ?_ | refine w3 ?_ | refine w4 ?_ | refine w11 ?_ | refine stb_n ?_); intros) | ((with_reducible first | refine v5 ?_ | refine v6 ?_ | refine v7 ?_ | refine ve ?_ | refine vn ?_); refine ⟨_, rfl, ?_⟩) | ((with_reducible first | refine v8 ?_ ?_ | refine v9 ?_ ?_ | refine v10 ?_ ?_ | refine v12 ?_ ?_); exact rfl; intros) | ((with_reducible refine w2 ?_); try simp -implicitDefEqProofs only [SE, SU, SV, e2, e3, e4, e5, e6]; intros) | ((with_reducible refine w5 ?_ ?_); simp; refine ⟨_, rfl, ?_⟩) | ((with_reducible refine w12 ?_ ?_ ?_ ?_); simp; simp; simp [oneC]; intros) | (refine okF_i (bldP_eq rfl) ?_; try simp only [BLS, SB, Nat.reduceAdd])) | simp -implicitDefEqProofs only [SE, SU, SV, e2, e3, e4, e5, e6]))
          exact hk none 0 none 0 _ (hno _ (by first | assumption | exact St.tick (by assumption) | exact St.tick (St.tick (by assumption))))
        · rw [if_neg hv3] at hk
          have e6 : decide ((b.length : Int) < ((9 + n : Nat) : Int)) = false := decide_eq_false (by omega)
          (repeat (first | (first | ((with_reducible first | refine w1 ?_ | refine w3 ?_ | refine w4 ?_ | refine w11 ?_ | refine stb_n ?_); intros) | ((with_reducible first | refine v5 ?_ | refine v6 ?_ | refine v7 ?_ | refine ve ?_ | refine vn ?_); refine ⟨_, rfl, ?_⟩) | ((with_reducible first | refine v8 ?_ ?_ | refine v9 ?_ ?_ | refine v10 ?_ ?_ | refine v12 ?_ ?_); exact rfl; intros) | ((with_reducible refine w2 ?_); try simp -implicitDefEqProofs only [SE, SU, SV, e2, e3, e4, e5, e6]; intros) | ((with_reducible refine w5 ?_ ?_); simp; refine ⟨_, rfl, ?_⟩) | ((with_reducible refine w12 ?_ ?_ ?_ ?_); simp; simp; simp [oneC]; intros) | (refine okF_i (bldP_eq rfl) ?_; try simp only [BLS, SB, Nat.reduceAdd])) | simp -implicitDefEqProofs only [SE, SU, SV, e2, e3, e4, e5, e6]))
          have h : St W0 L (tick (tick W1)) := (by first | assumption | exact St.tick (by assumption) | exact St.tick (St.tick (by assumption)))
          refine slcR (a := a) (l := b) (A := B8) (lo := 9) (hi := 9 + n) h rfl rfl (bnd_nat (by omega)) (bnd_int (by decide) (by omega)) (by omega) (by omega) hc fun a2 c2 hr2 => ?_
          (repeat (first | (first | ((with_reducible first | refine w1 ?_ | refine w3 ?_ | refine w4 ?_ | refine w11 ?_ | refine stb_n ?_); intros) | ((with_reducible first | refine v5 ?_ | refine v6 ?_ | refine v7 ?_ | refine ve ?_ | refine vn ?_); refine ⟨_, rfl, ?_⟩) | ((with_reducible first | refine v8 ?_ ?_ | refine v9 ?_ ?_ | refine v10 ?_ ?_ | refine v12 ?_ ?_); exact rfl; intros) | ((with_reducible refine w2 ?_); try simp -implicitDefEqProofs only [SE, SU, SV, e4, e5]; intros) | ((with_reducible refine w5 ?_ ?_); simp; refine ⟨_, rfl, ?_⟩) | ((with_reducible refine w12 ?_ ?_ ?_ ?_); simp; simp; simp [oneC]; intros) | (refine okF_i (bldP_eq rfl) ?_; try simp only [BLS, SB, Nat.reduceAdd])) | simp -implicitDefEqProofs only [SE, SU, SV, e4, e5]))
          refine slcR (a := a) (l := b) (A := B8) (lo := 9 + n) (hi := b.length) h rfl rfl bnd_none (bnd_nat (by omega)) (by omega) (by omega) hc fun a3 c3 hr3 => ?_
          refine slcR (a := a) (l := b) (A := B8) (lo := 1) (hi := 5) h rfl rfl (bnd_int (by decide) (by omega)) (bnd_int (by decide) (by omega)) (by omega) (by omega) hc fun a4 c4 hr4 => ?_
          refine slcR (a := a) (l := b) (A := B8) (lo := 5) (hi := 9) h rfl rfl (bnd_int (by decide) (by omega)) (bnd_int (by decide) (by omega)) (by omega) (by omega) hc fun a5 c5 hr5 => ?_
          rw [List.take_length] at hr3 ⊢
          refine bsA BSY [⟨a4, c4, (b.take 5).drop 1⟩, ⟨a2, c2, (b.take (9 + n)).drop 9⟩] (n := 2) h rfl rfl (by decide) (by decide) rfl fun a6 c6 W6 h => ?_
          refine crcOf (a := a6) (rows := [⟨a4, c4, (b.take 5).drop 1⟩, ⟨a2, c2, (b.take (9 + n)).drop 9⟩]) h (fun x hx => ?_) (by simp) (fun x hx => ?_) fun W7 h => ?_
          · simp only [List.mem_cons, List.not_mem_nil, or_false] at hx
            rcases hx with rfl | rfl
            · exact Rd.there _ _ _ _ _ _
            · exact Rd.there _ _ _ _ _ _
          · simp only [List.mem_cons, List.not_mem_nil, or_false] at hx
            rcases hx with rfl | rfl
            · simp only [List.length_drop, List.length_take]; omega
            · simp only [List.length_drop, List.length_take]; omega
          have es : ([⟨a4, c4, (b.take 5).drop 1⟩, ⟨a2, c2, (b.take (9 + n)).drop 9⟩] : List BSl).flatMap (·.bs) = (b.take 5).drop 1 ++ (b.take (9 + n)).drop 9 := by simp
          rw [es]
          have h := h.drop
          refine frameRead (a := a5) (l := (b.take 9).drop 5) h (by simp; omega) fun W8 h => ?_
          by_cases hv4 : crc ((b.take 5).drop 1 ++ (b.take (9 + n)).drop 9) = unle ((b.take 9).drop 5)
          · rw [if_neg (fun hh => hh hv4)] at hk
            have e7 : decide ((crc ((b.take 5).drop 1 ++ (b.take (9 + n)).drop 9) : Int) = (unle ((b.take 9).drop 5) : Int)) = true := decide_eq_true (by omega)
            (repeat (first | (first | ((with_reducible first | refine w1 ?_ | refine w3 ?_ | refine w4 ?_ | refine w11 ?_ | refine stb_n ?_); intros) | ((with_reducible first | refine v5 ?_ | refine v6 ?_ | refine v7 ?_ | refine ve ?_ | refine vn ?_); refine ⟨_, rfl, ?_⟩) | ((with_reducible first | refine v8 ?_ ?_ | refine v9 ?_ ?_ | refine v10 ?_ ?_ | refine v12 ?_ ?_); exact rfl; intros) | ((with_reducible refine w2 ?_); try simp -implicitDefEqProofs only [SE, SU, SV, e7]; intros) | ((with_reducible refine w5 ?_ ?_); simp; refine ⟨_, rfl, ?_⟩) | ((with_reducible refine w12 ?_ ?_ ?_ ?_); simp; simp; simp [oneC]; intros) | (refine okF_i (bldP_eq rfl) ?_; try simp only [BLS, SB, Nat.reduceAdd])) | simp -implicitDefEqProofs only [SE, SU, SV, e7]))
            refine bytesClone (a := a2) (l := (b.take (9 + n)).drop 9) (by first | assumption | exact St.tick (by assumption) | exact St.tick (St.tick (by assumption))) (by simp; omega) fun a9 c9 W9 h => ?_
            refine bytesClone (a := a3) (l := b.drop (9 + n)) h (by simp; omega) fun b9 d9 W10 h => ?_
            exact hk a9 c9 b9 d9 _ (h.ent (ent.swap _ _ _))
          · rw [if_pos hv4] at hk
            have e7 : decide ((crc ((b.take 5).drop 1 ++ (b.take (9 + n)).drop 9) : Int) = (unle ((b.take 9).drop 5) : Int)) = false := decide_eq_false (by omega)
            (repeat (first | (first | ((with_reducible first | refine w1 ?_ | refine w3 ?_ | refine w4 ?_ | refine w11 ?_ | refine stb_n ?_); intros) | ((with_reducible first | refine v5 ?_ | refine v6 ?_ | refine v7 ?_ | refine ve ?_ | refine vn ?_); refine ⟨_, rfl, ?_⟩) | ((with_reducible first | refine v8 ?_ ?_ | refine v9 ?_ ?_ | refine v10 ?_ ?_ | refine v12 ?_ ?_); exact rfl; intros) | ((with_reducible refine w2 ?_); try simp -implicitDefEqProofs only [SE, SU, SV, e7]; intros) | ((with_reducible refine w5 ?_ ?_); simp; refine ⟨_, rfl, ?_⟩) | ((with_reducible refine w12 ?_ ?_ ?_ ?_); simp; simp; simp [oneC]; intros) | (refine okF_i (bldP_eq rfl) ?_; try simp only [BLS, SB, Nat.reduceAdd])) | simp -implicitDefEqProofs only [SE, SU, SV, e7]))
            exact hk none 0 none 0 _ (hno _ (by first | assumption | exact St.tick (by assumption) | exact St.tick (St.tick (by assumption))))
    · rw [if_pos (.inl (by rw [ehd]; exact hv1))] at hk
      have e2 : decide ((b[0].toNat : Int) = 1) = false := decide_eq_false fun e => hv1 (UInt8.toNat.inj (by show b[0].toNat = 1; omega))
      (repeat (first | (first | ((with_reducible first | refine w1 ?_ | refine w3 ?_ | refine w4 ?_ | refine w11 ?_ | refine stb_n ?_); intros) | ((with_reducible first | refine v5 ?_ | refine v6 ?_ | refine v7 ?_ | refine ve ?_ | refine vn ?_); refine ⟨_, rfl, ?_⟩) | ((with_reducible first | refine v8 ?_ ?_ | refine v9 ?_ ?_ | refine v10 ?_ ?_ | refine v12 ?_ ?_); exact rfl; intros) | ((with_reducible refine w2 ?_); try simp -implicitDefEqProofs only [SE, SU, SV, e2]; intros) | ((with_reducible refine w5 ?_ ?_); simp; refine ⟨_, rfl, ?_⟩) | ((with_reducible refine w12 ?_ ?_ ?_ ?_); simp; simp; simp [oneC]; intros) | (refine okF_i (bldP_eq rfl) ?_; try simp only [BLS, SB, Nat.reduceAdd])) | simp -implicitDefEqProofs only [SE, SU, SV, e2]))
      exact hk none 0 none 0 _ (hno _ (by first | assumption | exact St.tick (by assumption) | exact St.tick (St.tick (by assumption))))
end
end Go.Proofs.Ythladblmjoaeoaa
namespace Go.Proofs.Ythladblmjoaeoaa
set_option linter.unusedVariables false
set_option linter.unusedSimpArgs false
open Go Go.Eng

/-- a file that was read, as it lies -/
structure FC where
  num : Int
  kind : Nat
  turn : Nat
  index : Nat
  ra : Option Addr
  rc : Nat
  rows : List BSl
  torn : Bool
def FC.fx (x : FC) : FX := ⟨x.num, x.kind, x.turn, x.index, x.rows.map (·.bs), x.torn⟩
def FCL : Ly FC := ⟨6, by omega, fun x => [.int .i64 x.num, .int .i64 (x.kind : Int), .int .i64 (x.index : Int), .int .u64 (x.turn : Int), .slice x.ra x.rows.length x.rc, .bool x.torn], fun _ => rfl, fun _ => rfl⟩
abbrev FC.v (x : FC) : Value := .agg (FCL.row x).toArray
theorem just_fget {b r : Bs} {n : Nat} (h : just b n = some r) : (fget b).1 = r := by
  unfold just at h
  split at h
  · exact Option.some.inj h
  · cases h
section
variable {W0 W : World} {L L' : List Asn}
theorem walLittle {v n : Nat} {k : Value → World → Prop} (h : St W0 L W) (hv : v < 2 ^ 64) (hn : n ≤ 8) (hk : ∀ a c W', St W0 (arr B8 T_uint8 a c (leB n v) :: L) W' → k (.slice a (leB n v).length c) W') :
    callK PR F_wal_little [.int .u64 (v : Int), .int .i64 (n : Int)] k W := by
  apply S.wal_little.call
  unfold S.wal_little.body
  refine joinK_i ?_
  refine loop_c (σ := Option Addr × Nat) n (fun i x => [.int .u64 (v : Int), .slice x.1 (leB i v).length x.2, .int .i64 (n : Int), .int .i64 (i : Int)]) (fun i x W1 => St W0 (arr B8 T_uint8 x.1 x.2 (leB i v) :: L) W1) (none, 0) rfl (h.ent (arr_nil _ _)) ?_
  clear h
  rintro K i ⟨a, c⟩ W1 hi h hK
  simp only at h
  simp -implicitDefEqProofs only [SE, SU, SV]
  unfold S.wal_little.l1
  by_cases hlt : (i : Int) < (n : Int)
  · have ew : IntKind.i64.wrap ((i : Int) + 1) = ((i + 1 : Nat) : Int) := by rw [i64w]; omega
    have e8 : IntKind.i64.wrap (8 * (i : Int)) = ((8 * i : Nat) : Int) := by rw [i64w]; omega
    (repeat (first | (first | ((with_reducible first | refine w1 ?_ | refine w3 ?_ | refine w4 ?_ | refine w11 ?_ | refine stb_n ?_); intros) | ((with_reducible first | refine v5 ?_ | refine v6 ?_ | refine v7 ?_ | refine ve ?_ | refine vn ?_); refine ⟨_, rfl, ?_⟩) | ((with_reducible first | refine v8 ?_ ?_ | refine v9 ?_ ?_ | refine v10 ?_ ?_ | refine v12 ?_ ?_); exact rfl; intros) | ((with_reducible refine w2 ?_); try simp -implicitDefEqProofs only [SE, SU, SV, hlt, e8]; intros) | ((with_reducible refine w5 ?_ ?_); simp; refine ⟨_, rfl, ?_⟩) | ((with_reducible refine w12 ?_ ?_ ?_ ?_); simp; simp; simp [oneC]; intros) | (refine okF_i (bldP_eq rfl) ?_; try simp only [BLS, SB, Nat.reduceAdd])) | simp -implicitDefEqProofs only [SE, SU, SV, hlt, e8]))
    refine okF_i (binP_shr (by omega)) ?_
    rw [shr_u v (8 * i) (by omega), pow256]
    simp -implicitDefEqProofs only [SE, SU, SV]
    rw [cvt8]
    refine pushA (a := a) (UInt8.ofNat (v / 256 ^ i % 256)) h ?_ rfl (by simp; omega) (by simp [maxLen]; omega) (by decide) fun a2 c2 W2 h => ?_
    · rw [b8_ofNat (Nat.mod_lt _ (by decide))]; rfl
    rw [← leB_snoc] at h ⊢
    (repeat (first | (first | ((with_reducible first | refine w1 ?_ | refine w3 ?_ | refine w4 ?_ | refine w11 ?_ | refine stb_n ?_); intros) | ((with_reducible first | refine v5 ?_ | refine v6 ?_ | refine v7 ?_ | refine ve ?_ | refine vn ?_); refine ⟨_, rfl, ?_⟩) | ((with_reducible first | refine v8 ?_ ?_ | refine v9 ?_ ?_ | refine v10 ?_ ?_ | refine v12 ?_ ?_); exact rfl; intros) | ((with_reducible refine w2 ?_); try simp -implicitDefEqProofs only [SE, SU, SV, ew]; intros) | ((with_reducible refine w5 ?_ ?_); simp; refine ⟨_, rfl, ?_⟩) | ((with_reducible refine w12 ?_ ?_ ?_ ?_); simp; simp; simp [oneC]; intros) | (refine okF_i (bldP_eq rfl) ?_; try simp only [BLS, SB, Nat.reduceAdd])) | simp -implicitDefEqProofs only [SE, SU, SV, ew]))
    exact hK (a2, c2) _ (by omega) h
  · have : i = n := by omega
    subst this
    unfold S.wal_little.j1
    (repeat (first | (first | ((with_reducible first | refine w1 ?_ | refine w3 ?_ | refine w4 ?_ | refine w11 ?_ | refine stb_n ?_); intros) | ((with_reducible first | refine v5 ?_ | refine v6 ?_ | refine v7 ?_ | refine ve ?_ | refine vn ?_); refine ⟨_, rfl, ?_⟩) | ((with_reducible first | refine v8 ?_ ?_ | refine v9 ?_ ?_ | refine v10 ?_ ?_ | refine v12 ?_ ?_); exact rfl; intros) | ((with_reducible refine w2 ?_); try simp -implicitDefEqProofs only [SE, SU, SV, hlt]; intros) | ((with_reducible refine w5 ?_ ?_); simp; refine ⟨_, rfl, ?_⟩) | ((with_reducible refine w12 ?_ ?_ ?_ ?_); simp; simp; simp [oneC]; intros) | (refine okF_i (bldP_eq rfl) ?_; try simp only [BLS, SB, Nat.reduceAdd])) | simp -implicitDefEqProofs only [SE, SU, SV, hlt]))
    exact hk _ _ _ h
theorem walRead {a : Option Addr} {c : Nat} {l : Bs} {k : Value → World → Prop} (h : St W0 L W) [hr : Rd W0 L a B8 l] (hl : l.length ≤ 8) (hk : ∀ W', St W0 L W' → k (.int .u64 (unle l : Int)) W') : callK PR F_wal_read [.slice a l.length c] k W := by
  apply S.wal_read.call
  unfold S.wal_read.body
  refine joinK_i ?_
  simp -implicitDefEqProofs only [SE, SU, SV]
  refine loop_c (σ := Unit) l.length (fun i _ => [.int .u64 (unle (l.take i) : Int), .slice a l.length c, .int .i64 (l.length : Int), .int .i64 (i : Int)]) (fun i _ W1 => St W0 L W1) () rfl h ?_
  clear h
  rintro K i _ W1 hi h hK
  simp -implicitDefEqProofs only [SE, SU, SV]
  unfold S.wal_read.l1
  by_cases hlt : (i : Int) < (l.length : Int)
  · have hib : i < l.length := by omega
    have ew : IntKind.i64.wrap ((i : Int) + 1) = ((i + 1 : Nat) : Int) := by rw [i64w]; omega
    have e8 : IntKind.i64.wrap (8 * (i : Int)) = ((8 * i : Nat) : Int) := by rw [i64w]; omega
    have hb := l[i].toNat_lt
    have ec : IntKind.u64.wrap (l[i].toNat : Int) = (l[i].toNat : Int) := w64 _ (by omega) (by omega)
    (repeat (first | (first | ((with_reducible first | refine w1 ?_ | refine w3 ?_ | refine w4 ?_ | refine w11 ?_ | refine stb_n ?_); intros) | ((with_reducible first | refine v5 ?_ | refine v6 ?_ | refine v7 ?_ | refine ve ?_ | refine vn ?_); refine ⟨_, rfl, ?_⟩) | ((with_reducible first | refine v8 ?_ ?_ | refine v9 ?_ ?_ | refine v10 ?_ ?_ | refine v12 ?_ ?_); exact rfl; intros) | ((with_reducible refine w2 ?_); try simp -implicitDefEqProofs only [SE, SU, SV, hlt]; intros) | ((with_reducible refine w5 ?_ ?_); simp; refine ⟨_, rfl, ?_⟩) | ((with_reducible refine w12 ?_ ?_ ?_ ?_); simp; simp; simp [oneC]; intros) | (refine okF_i (bldP_eq rfl) ?_; try simp only [BLS, SB, Nat.reduceAdd])) | simp -implicitDefEqProofs only [SE, SU, SV, hlt]))
    refine ixA (i := i) (a := a) (l := l) (A := B8) h rfl rfl hib fun g o ha => ?_
    cases ha
    refine ldA0 (i := i) (l := l) (A := B8) h rfl hib (v := b8 l[i]) rfl (by simp) ?_
    rw [show b8 l[i] = .int .u8 (l[i].toNat : Int) from rfl]
    (repeat (first | (first | ((with_reducible first | refine w1 ?_ | refine w3 ?_ | refine w4 ?_ | refine w11 ?_ | refine stb_n ?_); intros) | ((with_reducible first | refine v5 ?_ | refine v6 ?_ | refine v7 ?_ | refine ve ?_ | refine vn ?_); refine ⟨_, rfl, ?_⟩) | ((with_reducible first | refine v8 ?_ ?_ | refine v9 ?_ ?_ | refine v10 ?_ ?_ | refine v12 ?_ ?_); exact rfl; intros) | ((with_reducible refine w2 ?_); try simp -implicitDefEqProofs only [SE, SU, SV, ec, e8]; intros) | ((with_reducible refine w5 ?_ ?_); simp; refine ⟨_, rfl, ?_⟩) | ((with_reducible refine w12 ?_ ?_ ?_ ?_); simp; simp; simp [oneC]; intros) | (refine okF_i (bldP_eq rfl) ?_; try simp only [BLS, SB, Nat.reduceAdd])) | simp -implicitDefEqProofs only [SE, SU, SV, ec, e8]))
    refine okF_i (binP_shl (by omega)) ?_
    have hp : 256 ^ i ≤ 256 ^ 7 := Nat.pow_le_pow_right (by decide) (by omega)
    have hq : 256 ^ (i + 1) ≤ 256 ^ 8 := Nat.pow_le_pow_right (by decide) (by omega)
    have hu : unle (l.take i) < 256 ^ i := by have := unle_lt (l.take i); rwa [List.length_take, Nat.min_eq_left (by omega)] at this
    have hu2 : unle (l.take (i + 1)) < 256 ^ (i + 1) := by have := unle_lt (l.take (i + 1)); rwa [List.length_take, Nat.min_eq_left (by omega)] at this
    have hs : unle (l.take (i + 1)) = unle (l.take i) + l[i].toNat * 256 ^ i := by rw [take_snoc hib, unle_snoc, List.length_take, Nat.min_eq_left (by omega)]
    rw [shlB (K := .u64) _ i 64 rfl (by omega) w64 (by omega)]
    simp -implicitDefEqProofs only [SE, SU, SV]
    rw [orB (K := .u64) _ _ i 64 rfl w64 hu (by omega), ← hs]
    (repeat (first | (first | ((with_reducible first | refine w1 ?_ | refine w3 ?_ | refine w4 ?_ | refine w11 ?_ | refine stb_n ?_); intros) | ((with_reducible first | refine v5 ?_ | refine v6 ?_ | refine v7 ?_ | refine ve ?_ | refine vn ?_); refine ⟨_, rfl, ?_⟩) | ((with_reducible first | refine v8 ?_ ?_ | refine v9 ?_ ?_ | refine v10 ?_ ?_ | refine v12 ?_ ?_); exact rfl; intros) | ((with_reducible refine w2 ?_); try simp -implicitDefEqProofs only [SE, SU, SV, ew]; intros) | ((with_reducible refine w5 ?_ ?_); simp; refine ⟨_, rfl, ?_⟩) | ((with_reducible refine w12 ?_ ?_ ?_ ?_); simp; simp; simp [oneC]; intros) | (refine okF_i (bldP_eq rfl) ?_; try simp only [BLS, SB, Nat.reduceAdd])) | simp -implicitDefEqProofs only [SE, SU, SV, ew]))
    exact hK () _ hib h
  · unfold S.wal_read.j1
    have e : l.take i = l := List.take_of_length_le (by omega)
    rw [e]
    (repeat (first | (first | ((with_reducible first | refine w1 ?_ | refine w3 ?_ | refine w4 ?_ | refine w11 ?_ | refine stb_n ?_); intros) | ((with_reducible first | refine v5 ?_ | refine v6 ?_ | refine v7 ?_ | refine ve ?_ | refine vn ?_); refine ⟨_, rfl, ?_⟩) | ((with_reducible first | refine v8 ?_ ?_ | refine v9 ?_ ?_ | refine v10 ?_ ?_ | refine v12 ?_ ?_); exact rfl; intros) | ((with_reducible refine w2 ?_); try simp -implicitDefEqProofs only [SE, SU, SV, hlt]; intros) | ((with_reducible refine w5 ?_ ?_); simp; refine ⟨_, rfl, ?_⟩) | ((with_reducible refine w12 ?_ ?_ ?_ ?_); simp; simp; simp [oneC]; intros) | (refine okF_i (bldP_eq rfl) ?_; try simp only [BLS, SB, Nat.reduceAdd])) | simp -implicitDefEqProofs only [SE, SU, SV, hlt]))
    exact hk _ h
theorem walFramed {a : Option Addr} {c : Nat} {rows : List BSl} {k : Value → World → Prop} (h : St W0 L W) [hr : Rd W0 L a BSY rows] (hrs : ∀ x ∈ rows, Rd W0 L x.a B8 x.bs) (hl : rows.length ≤ 2) (hls : ∀ x ∈ rows, x.bs.length ≤ 65536)
    (hk : ∀ a c W', St W0 (arr B8 T_uint8 a c (rows.flatMap fun x => frm x.bs) :: L) W' → k (.slice a (rows.flatMap fun x => frm x.bs).length c) W') : callK PR F_wal_framed [.slice a rows.length c] k W := by
  apply S.wal_framed.call
  unfold S.wal_framed.body
  refine joinK_i ?_
  simp -implicitDefEqProofs only [SE, SU, SV]
  refine loop_c (σ := Option Addr × Nat) rows.length (fun i x => [.slice x.1 ((rows.take i).flatMap fun x => frm x.bs).length x.2, .slice a rows.length c, .int .i64 (rows.length : Int), .int .i64 (i : Int)])
    (fun i x W1 => ((rows.take i).flatMap fun x => frm x.bs).length ≤ i * 65545 ∧ St W0 (arr B8 T_uint8 x.1 x.2 ((rows.take i).flatMap fun x => frm x.bs) :: L) W1) (none, 0) rfl ⟨Nat.le_refl _, h.ent (arr_nil _ _)⟩ ?_
  clear h
  rintro K i ⟨a1, c1⟩ W1 hi ⟨hlen, h⟩ hK
  simp only at h
  simp -implicitDefEqProofs only [SE, SU, SV]
  unfold S.wal_framed.l1
  by_cases hlt : (i : Int) < (rows.length : Int)
  · have hib : i < rows.length := by omega
    have ew : IntKind.i64.wrap ((i : Int) + 1) = ((i + 1 : Nat) : Int) := by rw [i64w]; omega
    (repeat (first | (first | ((with_reducible first | refine w1 ?_ | refine w3 ?_ | refine w4 ?_ | refine w11 ?_ | refine stb_n ?_); intros) | ((with_reducible first | refine v5 ?_ | refine v6 ?_ | refine v7 ?_ | refine ve ?_ | refine vn ?_); refine ⟨_, rfl, ?_⟩) | ((with_reducible first | refine v8 ?_ ?_ | refine v9 ?_ ?_ | refine v10 ?_ ?_ | refine v12 ?_ ?_); exact rfl; intros) | ((with_reducible refine w2 ?_); try simp -implicitDefEqProofs only [SE, SU, SV, hlt]; intros) | ((with_reducible refine w5 ?_ ?_); simp; refine ⟨_, rfl, ?_⟩) | ((with_reducible refine w12 ?_ ?_ ?_ ?_); simp; simp; simp [oneC]; intros) | (refine okF_i (bldP_eq rfl) ?_; try simp only [BLS, SB, Nat.reduceAdd])) | simp -implicitDefEqProofs only [SE, SU, SV, hlt]))
    refine ixA (i := i) (a := a) (l := rows) (A := BSY) h rfl rfl hib fun g o ha => ?_
    cases ha
    refine ldA0 (i := i) (l := rows) (A := BSY) h rfl hib (v := rows[i].v) rfl (by simp) ?_
    haveI : Rd W0 L rows[i].a B8 rows[i].bs := hrs _ (List.getElem_mem hib)
    have hlx := hls _ (List.getElem_mem hib)
    refine framePut (a := a1) (b := rows[i].a) (r := rows[i].bs) h (by omega) hlx fun a2 c2 W2 h => ?_
    have hs : (rows.take (i + 1)).flatMap (fun x => frm x.bs) = (rows.take i).flatMap (fun x => frm x.bs) ++ frm rows[i].bs := by rw [take_snoc hib, List.flatMap_append]; simp
    rw [← hs] at h ⊢
    (repeat (first | (first | ((with_reducible first | refine w1 ?_ | refine w3 ?_ | refine w4 ?_ | refine w11 ?_ | refine stb_n ?_); intros) | ((with_reducible first | refine v5 ?_ | refine v6 ?_ | refine v7 ?_ | refine ve ?_ | refine vn ?_); refine ⟨_, rfl, ?_⟩) | ((with_reducible first | refine v8 ?_ ?_ | refine v9 ?_ ?_ | refine v10 ?_ ?_ | refine v12 ?_ ?_); exact rfl; intros) | ((with_reducible refine w2 ?_); try simp -implicitDefEqProofs only [SE, SU, SV, ew]; intros) | ((with_reducible refine w5 ?_ ?_); simp; refine ⟨_, rfl, ?_⟩) | ((with_reducible refine w12 ?_ ?_ ?_ ?_); simp; simp; simp [oneC]; intros) | (refine okF_i (bldP_eq rfl) ?_; try simp only [BLS, SB, Nat.reduceAdd])) | simp -implicitDefEqProofs only [SE, SU, SV, ew]))
    exact hK (a2, c2) _ hib ⟨by rw [hs, List.length_append, frm_len]; omega, St.wk h⟩
  · unfold S.wal_framed.j1
    have e : rows.take i = rows := List.take_of_length_le (by omega)
    rw [e] at h ⊢
    (repeat (first | (first | ((with_reducible first | refine w1 ?_ | refine w3 ?_ | refine w4 ?_ | refine w11 ?_ | refine stb_n ?_); intros) | ((with_reducible first | refine v5 ?_ | refine v6 ?_ | refine v7 ?_ | refine ve ?_ | refine vn ?_); refine ⟨_, rfl, ?_⟩) | ((with_reducible first | refine v8 ?_ ?_ | refine v9 ?_ ?_ | refine v10 ?_ ?_ | refine v12 ?_ ?_); exact rfl; intros) | ((with_reducible refine w2 ?_); try simp -implicitDefEqProofs only [SE, SU, SV, hlt]; intros) | ((with_reducible refine w5 ?_ ?_); simp; refine ⟨_, rfl, ?_⟩) | ((with_reducible refine w12 ?_ ?_ ?_ ?_); simp; simp; simp [oneC]; intros) | (refine okF_i (bldP_eq rfl) ?_; try simp only [BLS, SB, Nat.reduceAdd])) | simp -implicitDefEqProofs only [SE, SU, SV, hlt]))
    exact hk _ _ _ h
theorem walUnit {a : Option Addr} {c : Nat} {r : Bs} {k : Value → World → Prop} (h : St W0 L W) [hr : Rd W0 L a B8 r] (hl : r.length ≤ 65536) (hk : ∀ a c W', St W0 (arr B8 T_uint8 a c (unitB r) :: L) W' → k (.slice a (unitB r).length c) W') :
    callK PR F_wal_unit [.slice a r.length c] k W := by
  apply S.wal_unit.call
  unfold S.wal_unit.body
  have e2 : IntKind.u64.wrap (r.length : Int) = (r.length : Int) := w64 _ (by omega) (by omega)
  (repeat (first | (first | ((with_reducible first | refine w1 ?_ | refine w3 ?_ | refine w4 ?_ | refine w11 ?_ | refine stb_n ?_); intros) | ((with_reducible first | refine v5 ?_ | refine v6 ?_ | refine v7 ?_ | refine ve ?_ | refine vn ?_); refine ⟨_, rfl, ?_⟩) | ((with_reducible first | refine v8 ?_ ?_ | refine v9 ?_ ?_ | refine v10 ?_ ?_ | refine v12 ?_ ?_); exact rfl; intros) | ((with_reducible refine w2 ?_); try simp -implicitDefEqProofs only [SE, SU, SV, e2]; intros) | ((with_reducible refine w5 ?_ ?_); simp; refine ⟨_, rfl, ?_⟩) | ((with_reducible refine w12 ?_ ?_ ?_ ?_); simp; simp; simp [oneC]; intros) | (refine okF_i (bldP_eq rfl) ?_; try simp only [BLS, SB, Nat.reduceAdd])) | simp -implicitDefEqProofs only [SE, SU, SV, e2]))
  refine walLittle (n := 4) (by first | assumption | exact St.tick (by assumption) | exact St.tick (St.tick (by assumption))) (by omega) (by decide) fun a1 c1 W1 h => ?_
  refine bsA BSY [⟨a1, c1, leB 4 r.length⟩, ⟨a, c, r⟩] (n := 2) h rfl rfl (by decide) (by decide) rfl fun a5 c5 W5 h => ?_
  refine walFramed (a := a5) (rows := [⟨a1, c1, leB 4 r.length⟩, ⟨a, c, r⟩]) h (fun x hx => ?_) (by simp) (fun x hx => ?_) fun a6 c6 W6 h => ?_
  · simp only [List.mem_cons, List.not_mem_nil, or_false] at hx
    rcases hx with rfl | rfl <;> exact inferInstance
  · simp only [List.mem_cons, List.not_mem_nil, or_false] at hx
    rcases hx with rfl | rfl
    · simp
    · exact hl
  have ef : ([⟨a1, c1, leB 4 r.length⟩, ⟨a, c, r⟩] : List BSl).flatMap (fun x => frm x.bs) = unitB r := by simp [unitB]
  rw [ef] at h ⊢
  exact hk a6 c6 _ (St.wk h)
theorem walTop {kd t i : Nat} {k : Value → World → Prop} (h : St W0 L W) (hkd : kd < 256) (ht : t < 2 ^ 64) (hi : i < 2 ^ 32) (hk : ∀ a c W', St W0 (arr B8 T_uint8 a c (topB kd t i) :: L) W' → k (.slice a (topB kd t i).length c) W') :
    callK PR F_wal_top [.int .i64 (kd : Int), .int .u64 (t : Int), .int .i64 (i : Int)] k W := by
  apply S.wal_top.call
  unfold S.wal_top.body
  have e1 : IntKind.u8.wrap (kd : Int) = (kd : Int) := by rw [u8w]; omega
  have e2 : IntKind.u64.wrap (i : Int) = (i : Int) := w64 _ (by omega) (by omega)
  (repeat (first | (first | ((with_reducible first | refine w1 ?_ | refine w3 ?_ | refine w4 ?_ | refine w11 ?_ | refine stb_n ?_); intros) | ((with_reducible first | refine v5 ?_ | refine v6 ?_ | refine v7 ?_ | refine ve ?_ | refine vn ?_); refine ⟨_, rfl, ?_⟩) | ((with_reducible first | refine v8 ?_ ?_ | refine v9 ?_ ?_ | refine v10 ?_ ?_ | refine v12 ?_ ?_); exact rfl; intros) | ((with_reducible refine w2 ?_); try simp -implicitDefEqProofs only [SE, SU, SV, e1]; intros) | ((with_reducible refine w5 ?_ ?_); simp; refine ⟨_, rfl, ?_⟩) | ((with_reducible refine w12 ?_ ?_ ?_ ?_); simp; simp; simp [oneC]; intros) | (refine okF_i (bldP_eq rfl) ?_; try simp only [BLS, SB, Nat.reduceAdd])) | simp -implicitDefEqProofs only [SE, SU, SV, e1]))
  refine bsA B8 [UInt8.ofNat kd] (n := 1) (by first | assumption | exact St.tick (by assumption) | exact St.tick (St.tick (by assumption))) rfl rfl (by decide) (by decide) (by rw [b8_ofNat hkd]; rfl) fun a1 c1 W1 h => ?_
  refine walLittle (n := 8) h ht (by decide) fun a2 c2 W2 h => ?_
  refine appA (a := a1) (m := leB 8 t) h rfl (by simp) (by simp [maxLen]) fun a3 c3 W3 h => ?_
  (repeat (first | (first | ((with_reducible first | refine w1 ?_ | refine w3 ?_ | refine w4 ?_ | refine w11 ?_ | refine stb_n ?_); intros) | ((with_reducible first | refine v5 ?_ | refine v6 ?_ | refine v7 ?_ | refine ve ?_ | refine vn ?_); refine ⟨_, rfl, ?_⟩) | ((with_reducible first | refine v8 ?_ ?_ | refine v9 ?_ ?_ | refine v10 ?_ ?_ | refine v12 ?_ ?_); exact rfl; intros) | ((with_reducible refine w2 ?_); try simp -implicitDefEqProofs only [SE, SU, SV, e2]; intros) | ((with_reducible refine w5 ?_ ?_); simp; refine ⟨_, rfl, ?_⟩) | ((with_reducible refine w12 ?_ ?_ ?_ ?_); simp; simp; simp [oneC]; intros) | (refine okF_i (bldP_eq rfl) ?_; try simp only [BLS, SB, Nat.reduceAdd])) | simp -implicitDefEqProofs only [SE, SU, SV, e2]))
  refine walLittle (n := 4) (by first | assumption | exact St.tick (by assumption) | exact St.tick (St.tick (by assumption))) (by omega) (by decide) fun a4 c4 W4 h => ?_
  refine appA (a := a3) (m := leB 4 i) h rfl (by simp) (by simp [maxLen]) fun a5 c5 W5 h => ?_
  refine bsA BSY [⟨a5, c5, [UInt8.ofNat kd] ++ leB 8 t ++ leB 4 i⟩] (n := 1) h rfl rfl (by decide) (by decide) rfl fun a6 c6 W6 h => ?_
  refine walFramed (a := a6) (rows := [⟨a5, c5, [UInt8.ofNat kd] ++ leB 8 t ++ leB 4 i⟩]) h (fun x hx => ?_) (by simp) (fun x hx => ?_) fun a7 c7 W7 h => ?_
  · rw [List.mem_singleton.1 hx]; exact inferInstance
  · rw [List.mem_singleton.1 hx]; simp
  have ef : ([⟨a5, c5, [UInt8.ofNat kd] ++ leB 8 t ++ leB 4 i⟩] : List BSl).flatMap (fun x => frm x.bs) = topB kd t i := by simp [topB]
  rw [ef] at h ⊢
  exact hk a7 c7 _ (St.wk h)
theorem walJust {a : Option Addr} {c n : Nat} {b : Bs} {k : Value → World → Prop} (h : St W0 L W) [hr : Rd W0 L a B8 b] (hc : b.length ≤ c) (hl : b.length < 35184372088832)
    (hk : ∀ a1 c1 W', St W0 (arr B8 T_uint8 a1 c1 (fget b).1 :: L) W' → k (.tuple #[.slice a1 (fget b).1.length c1, .bool (just b n).isSome]) W') : callK PR F_wal_just [.slice a b.length c, .int .i64 (n : Int)] k W := by
  apply S.wal_just.call
  unfold S.wal_just.body
  refine frameGet (a := a) (b := b) h hc hl fun a1 c1 a2 c2 W1 h => ?_
  have h := St.perm h (List.Perm.swap _ _ _)
  unfold just at hk
  generalize (fget b).1 = r at *
  generalize (fget b).2.1 = t at *
  generalize (fget b).2.2 = e at *
  by_cases h1 : e = 0
  · have f1 := decide_eq_true h1
    by_cases h2 : r.length = n
    · have f2 : decide ((r.length : Int) = (n : Int)) = true := decide_eq_true (by omega)
      by_cases h3 : t = []
      · have f3 : decide ((t.length : Int) = 0) = true := by rw [h3]; rfl
        rw [if_pos ⟨h1, h2, h3⟩] at hk
        (repeat (first | (first | ((with_reducible first | refine w1 ?_ | refine w3 ?_ | refine w4 ?_ | refine w11 ?_ | refine stb_n ?_); intros) | ((with_reducible first | refine v5 ?_ | refine v6 ?_ | refine v7 ?_ | refine ve ?_ | refine vn ?_); refine ⟨_, rfl, ?_⟩) | ((with_reducible first | refine v8 ?_ ?_ | refine v9 ?_ ?_ | refine v10 ?_ ?_ | refine v12 ?_ ?_); exact rfl; intros) | ((with_reducible refine w2 ?_); try simp -implicitDefEqProofs only [SE, SU, SV, f1, f2, f3]; intros) | ((with_reducible refine w5 ?_ ?_); simp; refine ⟨_, rfl, ?_⟩) | ((with_reducible refine w12 ?_ ?_ ?_ ?_); simp; simp; simp [oneC]; intros) | (refine okF_i (bldP_eq rfl) ?_; try simp only [BLS, SB, Nat.reduceAdd])) | simp -implicitDefEqProofs only [SE, SU, SV, f1, f2, f3]))
        exact hk _ _ _ (St.drop (by first | assumption | exact St.tick (by assumption) | exact St.tick (St.tick (by assumption))))
      · have f3 : decide ((t.length : Int) = 0) = false := decide_eq_false fun e => h3 (List.eq_nil_of_length_eq_zero (by omega))
        rw [if_neg fun hh => h3 hh.2.2] at hk
        (repeat (first | (first | ((with_reducible first | refine w1 ?_ | refine w3 ?_ | refine w4 ?_ | refine w11 ?_ | refine stb_n ?_); intros) | ((with_reducible first | refine v5 ?_ | refine v6 ?_ | refine v7 ?_ | refine ve ?_ | refine vn ?_); refine ⟨_, rfl, ?_⟩) | ((with_reducible first | refine v8 ?_ ?_ | refine v9 ?_ ?_ | refine v10 ?_ ?_ | refine v12 ?_ ?_); exact rfl; intros) | ((with_reducible refine w2 ?_); try simp -implicitDefEqProofs only [SE, SU, SV, f1, f2, f3]; intros) | ((with_reducible refine w5 ?_ ?_); simp; refine ⟨_, rfl, ?_⟩) | ((with_reducible refine w12 ?_ ?_ ?_ ?_); simp; simp; simp [oneC]; intros) | (refine okF_i (bldP_eq rfl) ?_; try simp only [BLS, SB, Nat.reduceAdd])) | simp -implicitDefEqProofs only [SE, SU, SV, f1, f2, f3]))
        exact hk _ _ _ (St.drop (by first | assumption | exact St.tick (by assumption) | exact St.tick (St.tick (by assumption))))
    · have f2 : decide ((r.length : Int) = (n : Int)) = false := decide_eq_false (by omega)
      rw [if_neg fun hh => h2 hh.2.1] at hk
      (repeat (first | (first | ((with_reducible first | refine w1 ?_ | refine w3 ?_ | refine w4 ?_ | refine w11 ?_ | refine stb_n ?_); intros) | ((with_reducible first | refine v5 ?_ | refine v6 ?_ | refine v7 ?_ | refine ve ?_ | refine vn ?_); refine ⟨_, rfl, ?_⟩) | ((with_reducible first | refine v8 ?_ ?_ | refine v9 ?_ ?_ | refine v10 ?_ ?_ | refine v12 ?_ ?_); exact rfl; intros) | ((with_reducible refine w2 ?_); try simp -implicitDefEqProofs only [SE, SU, SV, f1, f2]; intros) | ((with_reducible refine w5 ?_ ?_); simp; refine ⟨_, rfl, ?_⟩) | ((with_reducible refine w12 ?_ ?_ ?_ ?_); simp; simp; simp [oneC]; intros) | (refine okF_i (bldP_eq rfl) ?_; try simp only [BLS, SB, Nat.reduceAdd])) | simp -implicitDefEqProofs only [SE, SU, SV, f1, f2]))
      exact hk _ _ _ (St.drop (by first | assumption | exact St.tick (by assumption) | exact St.tick (St.tick (by assumption))))
  · have f1 := decide_eq_false h1
    rw [if_neg fun hh => h1 hh.1] at hk
    (repeat (first | (first | ((with_reducible first | refine w1 ?_ | refine w3 ?_ | refine w4 ?_ | refine w11 ?_ | refine stb_n ?_); intros) | ((with_reducible first | refine v5 ?_ | refine v6 ?_ | refine v7 ?_ | refine ve ?_ | refine vn ?_); refine ⟨_, rfl, ?_⟩) | ((with_reducible first | refine v8 ?_ ?_ | refine v9 ?_ ?_ | refine v10 ?_ ?_ | refine v12 ?_ ?_); exact rfl; intros) | ((with_reducible refine w2 ?_); try simp -implicitDefEqProofs only [SE, SU, SV, f1]; intros) | ((with_reducible refine w5 ?_ ?_); simp; refine ⟨_, rfl, ?_⟩) | ((with_reducible refine w12 ?_ ?_ ?_ ?_); simp; simp; simp [oneC]; intros) | (refine okF_i (bldP_eq rfl) ?_; try simp only [BLS, SB, Nat.reduceAdd])) | simp -implicitDefEqProofs only [SE, SU, SV, f1]))
    exact hk _ _ _ (St.drop (by first | assumption | exact St.tick (by assumption) | exact St.tick (St.tick (by assumption))))
end
end Go.Proofs.Ythladblmjoaeoaa
/- Printed by an own tool (wip/tools/typm.py). -/
namespace Go.Proofs.Ythladblmjoaeoaa
set_option linter.unusedVariables false
set_option linter.unusedSimpArgs false
open Go.Eng
instance : MapT PR T_m_int_s_uint8 T_int T_s_uint8 := ⟨by kernel_rfl⟩
instance : KeyT PR T_int KI := KeyT.int (by kernel_rfl)
end Go.Proofs.Ythladblmjoaeoaa
