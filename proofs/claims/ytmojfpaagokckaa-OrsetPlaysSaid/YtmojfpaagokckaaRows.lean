/-
  No cell of these rows narrows 'for every input' (looked for: loops, veiled, ifaces, maps, wideKeys, modest, calm, conditions, laid).
  DERIVED. THE GIVEN ROWS OF THIS SEAT. 6 by the template 'for every input the law returns true; each argument reads behind the call as it read before'; 0 by the template 'total and deterministic' (their statements: YtmojfpaagokckaaTotals.lean).
  GIVEN WITH THE SEED: the statements are not yours to turn. If you find one false, say at which input.
  Laid BY PROGRAM, IN A SANDBOX (cutbox-rows.mjs): the forced cells as the released guide's own fill.sh prints them over the translation dae44f2fa4478841… (all of the seat's roots in one cut). By AI agents, Wed Nov 11 2026. No macro, syntax, notation, axiom, sorry.
-/
import Derived.Test.YtmojfpaagokckaaChecked
import GoSem.Claim
import GoSem.ClaimJoined
import GoSem.ClaimMapViews
import Derived.JoinedTies
import Derived.KernelRfl
namespace Go.Proofs.Ytmojfpaagokckaa
/- THE CELL 'sum', in the pinned program and in every row, IS THE sha256 OF THE DUMP (.gsa) THAT YtmojfpaagokckaaProg.lean LOADS. Nothing in Lean hashes anything: it is a label: what it is worth is what the hold of that sum in a sandbox is worth. -/
noncomputable def Try.pinned : Pinned := { name := "ytmojfpaagokckaa", sum := "dae44f2fa44788414c8470ce2b69aa6fdbc51343d7ced05a616fdd33a4834bb3", checked := Try.checked }
namespace Rows
def none {H : Type} : Left H := { results := [], args := [] }

/-- 'rostrumlaw9.OrsetSeen': WHATEVER THE INPUT: true; the input reads as it did. -/
def orsetSeenSpec : ChangeSpec := { name := "orsetSeen", fn := fun _ => fun
  | [d1, d2, d3] => { results := [.lit (.bool true)], args := [d1, d2, d3] }
  | _ => none }
def orsetSeenRow : OpenClaim := { program := "ytmojfpaagokckaa", sum := "dae44f2fa44788414c8470ce2b69aa6fdbc51343d7ced05a616fdd33a4834bb3", func := "rostrum/rostrumlaw9.OrsetSeen", spec := "orsetSeen", unfollowed := true, recurses := true, plainKeys := false, apart := false }
def OrsetSeenSaid : Prop := orsetSeenRow.holds Try.pinned (OpenSpec.ofChange orsetSeenSpec)

/-- ITS FALSE NEIGHBOUR: 'it returns false'. Refute it at one input. -/
def orsetSeenWrong : ChangeSpec := { name := "orsetSeen", fn := fun _ => fun
  | [d1, d2, d3] => { results := [.lit (.bool false)], args := [d1, d2, d3] }
  | _ => none }
def OrsetSeenWrongFalsely : Prop := orsetSeenRow.holds Try.pinned (OpenSpec.ofChange orsetSeenWrong)

/-- 'rostrumlaw9.OrsetPlays': WHATEVER THE INPUT: true; the input reads as it did. -/
def orsetPlaysSpec : ChangeSpec := { name := "orsetPlays", fn := fun _ => fun
  | [d1, d2] => { results := [.lit (.bool true)], args := [d1, d2] }
  | _ => none }
def orsetPlaysRow : OpenClaim := { program := "ytmojfpaagokckaa", sum := "dae44f2fa44788414c8470ce2b69aa6fdbc51343d7ced05a616fdd33a4834bb3", func := "rostrum/rostrumlaw9.OrsetPlays", spec := "orsetPlays", unfollowed := true, recurses := true, plainKeys := false, apart := false }
def OrsetPlaysSaid : Prop := orsetPlaysRow.holds Try.pinned (OpenSpec.ofChange orsetPlaysSpec)

/-- ITS FALSE NEIGHBOUR: 'it returns false'. Refute it at one input. -/
def orsetPlaysWrong : ChangeSpec := { name := "orsetPlays", fn := fun _ => fun
  | [d1, d2] => { results := [.lit (.bool false)], args := [d1, d2] }
  | _ => none }
def OrsetPlaysWrongFalsely : Prop := orsetPlaysRow.holds Try.pinned (OpenSpec.ofChange orsetPlaysWrong)

/-- 'rostrumlaw9.OrsetKnown': WHATEVER THE INPUT: true; the input reads as it did. -/
def orsetKnownSpec : ChangeSpec := { name := "orsetKnown", fn := fun _ => fun
  | [] => { results := [.lit (.bool true)], args := [] }
  | _ => none }
def orsetKnownRow : OpenClaim := { program := "ytmojfpaagokckaa", sum := "dae44f2fa44788414c8470ce2b69aa6fdbc51343d7ced05a616fdd33a4834bb3", func := "rostrum/rostrumlaw9.OrsetKnown", spec := "orsetKnown", inPlace := ["maps.clone"], unfollowed := true, recurses := true, plainKeys := false, apart := false }
def OrsetKnownSaid : Prop := orsetKnownRow.holds Try.pinned (OpenSpec.ofChange orsetKnownSpec)

/-- ITS FALSE NEIGHBOUR: 'it returns false'. Refute it at one input. -/
def orsetKnownWrong : ChangeSpec := { name := "orsetKnown", fn := fun _ => fun
  | [] => { results := [.lit (.bool false)], args := [] }
  | _ => none }
def OrsetKnownWrongFalsely : Prop := orsetKnownRow.holds Try.pinned (OpenSpec.ofChange orsetKnownWrong)

/-- 'rostrumlaw9.OrsetDrop': WHATEVER THE INPUT: true; the input reads as it did. -/
def orsetDropSpec : ChangeSpec := { name := "orsetDrop", fn := fun _ => fun
  | [d1, d2, d3] => { results := [.lit (.bool true)], args := [d1, d2, d3] }
  | _ => none }
def orsetDropRow : OpenClaim := { program := "ytmojfpaagokckaa", sum := "dae44f2fa44788414c8470ce2b69aa6fdbc51343d7ced05a616fdd33a4834bb3", func := "rostrum/rostrumlaw9.OrsetDrop", spec := "orsetDrop", unfollowed := true, recurses := true, plainKeys := false, apart := false }
def OrsetDropSaid : Prop := orsetDropRow.holds Try.pinned (OpenSpec.ofChange orsetDropSpec)

/-- ITS FALSE NEIGHBOUR: 'it returns false'. Refute it at one input. -/
def orsetDropWrong : ChangeSpec := { name := "orsetDrop", fn := fun _ => fun
  | [d1, d2, d3] => { results := [.lit (.bool false)], args := [d1, d2, d3] }
  | _ => none }
def OrsetDropWrongFalsely : Prop := orsetDropRow.holds Try.pinned (OpenSpec.ofChange orsetDropWrong)

/-- 'rostrumlaw9.OrsetOrder': WHATEVER THE INPUT: true; the input reads as it did. -/
def orsetOrderSpec : ChangeSpec := { name := "orsetOrder", fn := fun _ => fun
  | [d1, d2] => { results := [.lit (.bool true)], args := [d1, d2] }
  | _ => none }
def orsetOrderRow : OpenClaim := { program := "ytmojfpaagokckaa", sum := "dae44f2fa44788414c8470ce2b69aa6fdbc51343d7ced05a616fdd33a4834bb3", func := "rostrum/rostrumlaw9.OrsetOrder", spec := "orsetOrder", unfollowed := true, recurses := true, plainKeys := false, apart := false }
def OrsetOrderSaid : Prop := orsetOrderRow.holds Try.pinned (OpenSpec.ofChange orsetOrderSpec)

/-- ITS FALSE NEIGHBOUR: 'it returns false'. Refute it at one input. -/
def orsetOrderWrong : ChangeSpec := { name := "orsetOrder", fn := fun _ => fun
  | [d1, d2] => { results := [.lit (.bool false)], args := [d1, d2] }
  | _ => none }
def OrsetOrderWrongFalsely : Prop := orsetOrderRow.holds Try.pinned (OpenSpec.ofChange orsetOrderWrong)

/-- 'rostrumlaw9.OrsetCopy': WHATEVER THE INPUT: true; the input reads as it did. -/
def orsetCopySpec : ChangeSpec := { name := "orsetCopy", fn := fun _ => fun
  | [d1, d2] => { results := [.lit (.bool true)], args := [d1, d2] }
  | _ => none }
def orsetCopyRow : OpenClaim := { program := "ytmojfpaagokckaa", sum := "dae44f2fa44788414c8470ce2b69aa6fdbc51343d7ced05a616fdd33a4834bb3", func := "rostrum/rostrumlaw9.OrsetCopy", spec := "orsetCopy", inPlace := ["maps.clone"], unfollowed := true, recurses := true, plainKeys := false, apart := false }
def OrsetCopySaid : Prop := orsetCopyRow.holds Try.pinned (OpenSpec.ofChange orsetCopySpec)

/-- ITS FALSE NEIGHBOUR: 'it returns false'. Refute it at one input. -/
def orsetCopyWrong : ChangeSpec := { name := "orsetCopy", fn := fun _ => fun
  | [d1, d2] => { results := [.lit (.bool false)], args := [d1, d2] }
  | _ => none }
def OrsetCopyWrongFalsely : Prop := orsetCopyRow.holds Try.pinned (OpenSpec.ofChange orsetCopyWrong)

/- THE SECOND FORM. 'bulk': how many values and letters a reading holds, each counted each time it is reached (what is shared counts as often as it is met; a slice's spare places count too). A statement '..UptoSaid' is the law's where the arguments, and the package variables that the reading takes, are together of bulk at most 1048576: NARROWER than '..Said'. Prove '..Said' where nothing that the law and all that it calls make is longer than what came in: it says more and counts as full. Else prove '..UptoSaid'. A law counts once. -/
mutual
def uptoBulk {H : Type} : DataW H → Nat
  | .lit (.string bytes) => bytes.length + 1
  | .lit _ => 1
  | .nil => 1
  | .ptr d => uptoBulk d + 1
  | .slice elems spare => uptoBulkAll elems + uptoBulkAll spare + 1
  | .agg parts => uptoBulkAll parts + 1
  | .iface _ d => uptoBulk d + 1
  | .map entries => uptoBulkEntries entries + 1
  | .held _ => 1
def uptoBulkAll {H : Type} : List (DataW H) → Nat
  | [] => 0
  | d :: r => uptoBulk d + uptoBulkAll r
def uptoBulkEntries {H : Type} : List (Lit × DataW H) → Nat
  | [] => 0
  | x :: r => uptoBulkEntry x + uptoBulkEntries r
def uptoBulkEntry {H : Type} : Lit × DataW H → Nat
  | (.string bytes, d) => bytes.length + uptoBulk d + 1
  | (_, d) => uptoBulk d + 1
 end
def uptoSmall : (H : Type) → List (DataW H) → Bool := fun _ ds => decide (uptoBulkAll ds ≤ 1048576)
def OpenSpec.upto (s : _root_.Go.ChangeSpec) : _root_.Go.OpenSpec := { _root_.Go.OpenSpec.ofChange s with cond := some uptoSmall }

/-- 'rostrumlaw9.OrsetSeen', WHERE WHAT IT READS IS OF BULK AT MOST 1048576: true; the input reads as it did. -/
def orsetSeenUptoRow : OpenClaim := { program := "ytmojfpaagokckaa", sum := "dae44f2fa44788414c8470ce2b69aa6fdbc51343d7ced05a616fdd33a4834bb3", func := "rostrum/rostrumlaw9.OrsetSeen", spec := "orsetSeen", unfollowed := true, recurses := true, plainKeys := false, apart := false, narrowed := true }
def OrsetSeenUptoSaid : Prop := orsetSeenUptoRow.holds Try.pinned (OpenSpec.upto orsetSeenSpec)

/-- 'rostrumlaw9.OrsetPlays', WHERE WHAT IT READS IS OF BULK AT MOST 1048576: true; the input reads as it did. -/
def orsetPlaysUptoRow : OpenClaim := { program := "ytmojfpaagokckaa", sum := "dae44f2fa44788414c8470ce2b69aa6fdbc51343d7ced05a616fdd33a4834bb3", func := "rostrum/rostrumlaw9.OrsetPlays", spec := "orsetPlays", unfollowed := true, recurses := true, plainKeys := false, apart := false, narrowed := true }
def OrsetPlaysUptoSaid : Prop := orsetPlaysUptoRow.holds Try.pinned (OpenSpec.upto orsetPlaysSpec)

/-- 'rostrumlaw9.OrsetKnown', WHERE WHAT IT READS IS OF BULK AT MOST 1048576: true; the input reads as it did. -/
def orsetKnownUptoRow : OpenClaim := { program := "ytmojfpaagokckaa", sum := "dae44f2fa44788414c8470ce2b69aa6fdbc51343d7ced05a616fdd33a4834bb3", func := "rostrum/rostrumlaw9.OrsetKnown", spec := "orsetKnown", inPlace := ["maps.clone"], unfollowed := true, recurses := true, plainKeys := false, apart := false, narrowed := true }
def OrsetKnownUptoSaid : Prop := orsetKnownUptoRow.holds Try.pinned (OpenSpec.upto orsetKnownSpec)

/-- 'rostrumlaw9.OrsetDrop', WHERE WHAT IT READS IS OF BULK AT MOST 1048576: true; the input reads as it did. -/
def orsetDropUptoRow : OpenClaim := { program := "ytmojfpaagokckaa", sum := "dae44f2fa44788414c8470ce2b69aa6fdbc51343d7ced05a616fdd33a4834bb3", func := "rostrum/rostrumlaw9.OrsetDrop", spec := "orsetDrop", unfollowed := true, recurses := true, plainKeys := false, apart := false, narrowed := true }
def OrsetDropUptoSaid : Prop := orsetDropUptoRow.holds Try.pinned (OpenSpec.upto orsetDropSpec)

/-- 'rostrumlaw9.OrsetOrder', WHERE WHAT IT READS IS OF BULK AT MOST 1048576: true; the input reads as it did. -/
def orsetOrderUptoRow : OpenClaim := { program := "ytmojfpaagokckaa", sum := "dae44f2fa44788414c8470ce2b69aa6fdbc51343d7ced05a616fdd33a4834bb3", func := "rostrum/rostrumlaw9.OrsetOrder", spec := "orsetOrder", unfollowed := true, recurses := true, plainKeys := false, apart := false, narrowed := true }
def OrsetOrderUptoSaid : Prop := orsetOrderUptoRow.holds Try.pinned (OpenSpec.upto orsetOrderSpec)

/-- 'rostrumlaw9.OrsetCopy', WHERE WHAT IT READS IS OF BULK AT MOST 1048576: true; the input reads as it did. -/
def orsetCopyUptoRow : OpenClaim := { program := "ytmojfpaagokckaa", sum := "dae44f2fa44788414c8470ce2b69aa6fdbc51343d7ced05a616fdd33a4834bb3", func := "rostrum/rostrumlaw9.OrsetCopy", spec := "orsetCopy", inPlace := ["maps.clone"], unfollowed := true, recurses := true, plainKeys := false, apart := false, narrowed := true }
def OrsetCopyUptoSaid : Prop := orsetCopyUptoRow.holds Try.pinned (OpenSpec.upto orsetCopySpec)

end Rows
end Go.Proofs.Ytmojfpaagokckaa
