/-
  No cell of these rows narrows 'for every input' (looked for: loops, veiled, ifaces, maps, wideKeys, modest, calm, conditions, laid).
  DERIVED. THE GIVEN ROWS OF THIS SEAT. 9 by the template 'for every input the law returns true; each argument reads behind the call as it read before'; 0 by the template 'total and deterministic' (their statements: YtfmidjlgpakilaaTotals.lean).
  GIVEN WITH THE SEED: the statements are not yours to turn. If you find one false, say at which input.
  Laid BY PROGRAM, IN A SANDBOX (cutbox-rows.mjs): the forced cells as the released guide's own fill.sh prints them over the translation c7db295b1ba0605e… (all of the seat's roots in one cut). By AI agents, Wed Nov 11 2026. No macro, syntax, notation, axiom, sorry.
-/
import Derived.Test.YtfmidjlgpakilaaChecked
import GoSem.Claim
import GoSem.ClaimJoined
import GoSem.ClaimMapViews
import Derived.JoinedTies
import Derived.KernelRfl
namespace Go.Proofs.Ytfmidjlgpakilaa
/- THE CELL 'sum', in the pinned program and in every row, IS THE sha256 OF THE DUMP (.gsa) THAT YtfmidjlgpakilaaProg.lean LOADS. Nothing in Lean hashes anything: it is a label: what it is worth is what the hold of that sum in a sandbox is worth. -/
noncomputable def Try.pinned : Pinned := { name := "ytfmidjlgpakilaa", sum := "c7db295b1ba0605e8dea4f550d4c3772f04e38bfe0fa2476125b68dc8811be25", checked := Try.checked }
namespace Rows
def none {H : Type} : Left H := { results := [], args := [] }

/-- 'rostrumlaw11.LastOrder': WHATEVER THE INPUT: true; the input reads as it did. -/
def lastOrderSpec : ChangeSpec := { name := "lastOrder", fn := fun _ => fun
  | [d1, d2] => { results := [.lit (.bool true)], args := [d1, d2] }
  | _ => none }
def lastOrderRow : OpenClaim := { program := "ytfmidjlgpakilaa", sum := "c7db295b1ba0605e8dea4f550d4c3772f04e38bfe0fa2476125b68dc8811be25", func := "rostrum/rostrumlaw11.LastOrder", spec := "lastOrder", apart := false }
def LastOrderSaid : Prop := lastOrderRow.holds Try.pinned (OpenSpec.ofChange lastOrderSpec)

/-- ITS FALSE NEIGHBOUR: 'it returns false'. Refute it at one input. -/
def lastOrderWrong : ChangeSpec := { name := "lastOrder", fn := fun _ => fun
  | [d1, d2] => { results := [.lit (.bool false)], args := [d1, d2] }
  | _ => none }
def LastOrderWrongFalsely : Prop := lastOrderRow.holds Try.pinned (OpenSpec.ofChange lastOrderWrong)

/-- 'rostrumlaw11.LastGrows': WHATEVER THE INPUT: true; the input reads as it did. -/
def lastGrowsSpec : ChangeSpec := { name := "lastGrows", fn := fun _ => fun
  | [d] => { results := [.lit (.bool true)], args := [d] }
  | _ => none }
def lastGrowsRow : OpenClaim := { program := "ytfmidjlgpakilaa", sum := "c7db295b1ba0605e8dea4f550d4c3772f04e38bfe0fa2476125b68dc8811be25", func := "rostrum/rostrumlaw11.LastGrows", spec := "lastGrows", apart := false }
def LastGrowsSaid : Prop := lastGrowsRow.holds Try.pinned (OpenSpec.ofChange lastGrowsSpec)

/-- ITS FALSE NEIGHBOUR: 'it returns false'. Refute it at one input. -/
def lastGrowsWrong : ChangeSpec := { name := "lastGrows", fn := fun _ => fun
  | [d] => { results := [.lit (.bool false)], args := [d] }
  | _ => none }
def LastGrowsWrongFalsely : Prop := lastGrowsRow.holds Try.pinned (OpenSpec.ofChange lastGrowsWrong)

/-- 'rostrumlaw19.BallotOrder': WHATEVER THE INPUT: true; the input reads as it did. -/
def ballotOrderSpec : ChangeSpec := { name := "ballotOrder", fn := fun _ => fun
  | [d1, d2, d3] => { results := [.lit (.bool true)], args := [d1, d2, d3] }
  | _ => none }
def ballotOrderRow : OpenClaim := { program := "ytfmidjlgpakilaa", sum := "c7db295b1ba0605e8dea4f550d4c3772f04e38bfe0fa2476125b68dc8811be25", func := "rostrum/rostrumlaw19.BallotOrder", spec := "ballotOrder", apart := false }
def BallotOrderSaid : Prop := ballotOrderRow.holds Try.pinned (OpenSpec.ofChange ballotOrderSpec)

/-- ITS FALSE NEIGHBOUR: 'it returns false'. Refute it at one input. -/
def ballotOrderWrong : ChangeSpec := { name := "ballotOrder", fn := fun _ => fun
  | [d1, d2, d3] => { results := [.lit (.bool false)], args := [d1, d2, d3] }
  | _ => none }
def BallotOrderWrongFalsely : Prop := ballotOrderRow.holds Try.pinned (OpenSpec.ofChange ballotOrderWrong)

/-- 'rostrumlaw19.BallotBack': WHATEVER THE INPUT: true; the input reads as it did. -/
def ballotBackSpec : ChangeSpec := { name := "ballotBack", fn := fun _ => fun
  | [d] => { results := [.lit (.bool true)], args := [d] }
  | _ => none }
def ballotBackRow : OpenClaim := { program := "ytfmidjlgpakilaa", sum := "c7db295b1ba0605e8dea4f550d4c3772f04e38bfe0fa2476125b68dc8811be25", func := "rostrum/rostrumlaw19.BallotBack", spec := "ballotBack", apart := false }
def BallotBackSaid : Prop := ballotBackRow.holds Try.pinned (OpenSpec.ofChange ballotBackSpec)

/-- ITS FALSE NEIGHBOUR: 'it returns false'. Refute it at one input. -/
def ballotBackWrong : ChangeSpec := { name := "ballotBack", fn := fun _ => fun
  | [d] => { results := [.lit (.bool false)], args := [d] }
  | _ => none }
def BallotBackWrongFalsely : Prop := ballotBackRow.holds Try.pinned (OpenSpec.ofChange ballotBackWrong)

/-- 'rostrumlaw19.BallotSays': WHATEVER THE INPUT: true; the input reads as it did. -/
def ballotSaysSpec : ChangeSpec := { name := "ballotSays", fn := fun _ => fun
  | [d1, d2, d3, d4] => { results := [.lit (.bool true)], args := [d1, d2, d3, d4] }
  | _ => none }
def ballotSaysRow : OpenClaim := { program := "ytfmidjlgpakilaa", sum := "c7db295b1ba0605e8dea4f550d4c3772f04e38bfe0fa2476125b68dc8811be25", func := "rostrum/rostrumlaw19.BallotSays", spec := "ballotSays", apart := false }
def BallotSaysSaid : Prop := ballotSaysRow.holds Try.pinned (OpenSpec.ofChange ballotSaysSpec)

/-- ITS FALSE NEIGHBOUR: 'it returns false'. Refute it at one input. -/
def ballotSaysWrong : ChangeSpec := { name := "ballotSays", fn := fun _ => fun
  | [d1, d2, d3, d4] => { results := [.lit (.bool false)], args := [d1, d2, d3, d4] }
  | _ => none }
def BallotSaysWrongFalsely : Prop := ballotSaysRow.holds Try.pinned (OpenSpec.ofChange ballotSaysWrong)

/-- 'rostrumlaw19.BallotNext': WHATEVER THE INPUT: true; the input reads as it did. -/
def ballotNextSpec : ChangeSpec := { name := "ballotNext", fn := fun _ => fun
  | [d1, d2, d3] => { results := [.lit (.bool true)], args := [d1, d2, d3] }
  | _ => none }
def ballotNextRow : OpenClaim := { program := "ytfmidjlgpakilaa", sum := "c7db295b1ba0605e8dea4f550d4c3772f04e38bfe0fa2476125b68dc8811be25", func := "rostrum/rostrumlaw19.BallotNext", spec := "ballotNext", apart := false }
def BallotNextSaid : Prop := ballotNextRow.holds Try.pinned (OpenSpec.ofChange ballotNextSpec)

/-- ITS FALSE NEIGHBOUR: 'it returns false'. Refute it at one input. -/
def ballotNextWrong : ChangeSpec := { name := "ballotNext", fn := fun _ => fun
  | [d1, d2, d3] => { results := [.lit (.bool false)], args := [d1, d2, d3] }
  | _ => none }
def BallotNextWrongFalsely : Prop := ballotNextRow.holds Try.pinned (OpenSpec.ofChange ballotNextWrong)

/-- 'rostrumlaw11.LastKnown': WHATEVER THE INPUT: true; the input reads as it did. -/
def lastKnownSpec : ChangeSpec := { name := "lastKnown", fn := fun _ => fun
  | [] => { results := [.lit (.bool true)], args := [] }
  | _ => none }
def lastKnownRow : OpenClaim := { program := "ytfmidjlgpakilaa", sum := "c7db295b1ba0605e8dea4f550d4c3772f04e38bfe0fa2476125b68dc8811be25", func := "rostrum/rostrumlaw11.LastKnown", spec := "lastKnown", apart := false }
def LastKnownSaid : Prop := lastKnownRow.holds Try.pinned (OpenSpec.ofChange lastKnownSpec)

/-- ITS FALSE NEIGHBOUR: 'it returns false'. Refute it at one input. -/
def lastKnownWrong : ChangeSpec := { name := "lastKnown", fn := fun _ => fun
  | [] => { results := [.lit (.bool false)], args := [] }
  | _ => none }
def LastKnownWrongFalsely : Prop := lastKnownRow.holds Try.pinned (OpenSpec.ofChange lastKnownWrong)

/-- 'rostrumlaw11.LastPlays': WHATEVER THE INPUT: true; the input reads as it did. -/
def lastPlaysSpec : ChangeSpec := { name := "lastPlays", fn := fun _ => fun
  | [d1, d2] => { results := [.lit (.bool true)], args := [d1, d2] }
  | _ => none }
def lastPlaysRow : OpenClaim := { program := "ytfmidjlgpakilaa", sum := "c7db295b1ba0605e8dea4f550d4c3772f04e38bfe0fa2476125b68dc8811be25", func := "rostrum/rostrumlaw11.LastPlays", spec := "lastPlays", apart := false }
def LastPlaysSaid : Prop := lastPlaysRow.holds Try.pinned (OpenSpec.ofChange lastPlaysSpec)

/-- ITS FALSE NEIGHBOUR: 'it returns false'. Refute it at one input. -/
def lastPlaysWrong : ChangeSpec := { name := "lastPlays", fn := fun _ => fun
  | [d1, d2] => { results := [.lit (.bool false)], args := [d1, d2] }
  | _ => none }
def LastPlaysWrongFalsely : Prop := lastPlaysRow.holds Try.pinned (OpenSpec.ofChange lastPlaysWrong)

/-- 'rostrumlaw11.LastBack': WHATEVER THE INPUT: true; the input reads as it did. -/
def lastBackSpec : ChangeSpec := { name := "lastBack", fn := fun _ => fun
  | [d1, d2] => { results := [.lit (.bool true)], args := [d1, d2] }
  | _ => none }
def lastBackRow : OpenClaim := { program := "ytfmidjlgpakilaa", sum := "c7db295b1ba0605e8dea4f550d4c3772f04e38bfe0fa2476125b68dc8811be25", func := "rostrum/rostrumlaw11.LastBack", spec := "lastBack", apart := false }
def LastBackSaid : Prop := lastBackRow.holds Try.pinned (OpenSpec.ofChange lastBackSpec)

/-- ITS FALSE NEIGHBOUR: 'it returns false'. Refute it at one input. -/
def lastBackWrong : ChangeSpec := { name := "lastBack", fn := fun _ => fun
  | [d1, d2] => { results := [.lit (.bool false)], args := [d1, d2] }
  | _ => none }
def LastBackWrongFalsely : Prop := lastBackRow.holds Try.pinned (OpenSpec.ofChange lastBackWrong)

/- THE SECOND FORM. 'bulk': how many values and letters a reading holds, each counted each time it is reached (what is shared counts as often as it is met; a slice's spare places count too). A statement '..UptoSaid' is the law's where the arguments, and the package variables that the reading takes, are together of bulk at most 1048576: NARROWER than '..Said'. Prove '..Said' where nothing that the law and all that it calls make is longer than what came in: it says more and counts as full. Else prove '..UptoSaid'. A law counts once. -/
mutual
def uptoBulk {H : Type} : DataW H → Nat
  | .lit (.string bytes) => bytes.length + 1
  | .lit _ => 1
  | .nil => 1
  | .ptr d => uptoBulk d + 1
  | .slice elems spare => uptoBulkAll elems + uptoBulkAll spare + 1
  | .agg parts => uptoBulkAll parts + 1
  | .iface _ d => uptoBulk d + 1
  | .map entries => uptoBulkEntries entries + 1
  | .held _ => 1
def uptoBulkAll {H : Type} : List (DataW H) → Nat
  | [] => 0
  | d :: r => uptoBulk d + uptoBulkAll r
def uptoBulkEntries {H : Type} : List (Lit × DataW H) → Nat
  | [] => 0
  | x :: r => uptoBulkEntry x + uptoBulkEntries r
def uptoBulkEntry {H : Type} : Lit × DataW H → Nat
  | (.string bytes, d) => bytes.length + uptoBulk d + 1
  | (_, d) => uptoBulk d + 1
 end
def uptoSmall : (H : Type) → List (DataW H) → Bool := fun _ ds => decide (uptoBulkAll ds ≤ 1048576)
def OpenSpec.upto (s : _root_.Go.ChangeSpec) : _root_.Go.OpenSpec := { _root_.Go.OpenSpec.ofChange s with cond := some uptoSmall }

/-- 'rostrumlaw11.LastOrder', WHERE WHAT IT READS IS OF BULK AT MOST 1048576: true; the input reads as it did. -/
def lastOrderUptoRow : OpenClaim := { program := "ytfmidjlgpakilaa", sum := "c7db295b1ba0605e8dea4f550d4c3772f04e38bfe0fa2476125b68dc8811be25", func := "rostrum/rostrumlaw11.LastOrder", spec := "lastOrder", apart := false, narrowed := true }
def LastOrderUptoSaid : Prop := lastOrderUptoRow.holds Try.pinned (OpenSpec.upto lastOrderSpec)

/-- 'rostrumlaw11.LastGrows', WHERE WHAT IT READS IS OF BULK AT MOST 1048576: true; the input reads as it did. -/
def lastGrowsUptoRow : OpenClaim := { program := "ytfmidjlgpakilaa", sum := "c7db295b1ba0605e8dea4f550d4c3772f04e38bfe0fa2476125b68dc8811be25", func := "rostrum/rostrumlaw11.LastGrows", spec := "lastGrows", apart := false, narrowed := true }
def LastGrowsUptoSaid : Prop := lastGrowsUptoRow.holds Try.pinned (OpenSpec.upto lastGrowsSpec)

/-- 'rostrumlaw19.BallotOrder', WHERE WHAT IT READS IS OF BULK AT MOST 1048576: true; the input reads as it did. -/
def ballotOrderUptoRow : OpenClaim := { program := "ytfmidjlgpakilaa", sum := "c7db295b1ba0605e8dea4f550d4c3772f04e38bfe0fa2476125b68dc8811be25", func := "rostrum/rostrumlaw19.BallotOrder", spec := "ballotOrder", apart := false, narrowed := true }
def BallotOrderUptoSaid : Prop := ballotOrderUptoRow.holds Try.pinned (OpenSpec.upto ballotOrderSpec)

/-- 'rostrumlaw19.BallotBack', WHERE WHAT IT READS IS OF BULK AT MOST 1048576: true; the input reads as it did. -/
def ballotBackUptoRow : OpenClaim := { program := "ytfmidjlgpakilaa", sum := "c7db295b1ba0605e8dea4f550d4c3772f04e38bfe0fa2476125b68dc8811be25", func := "rostrum/rostrumlaw19.BallotBack", spec := "ballotBack", apart := false, narrowed := true }
def BallotBackUptoSaid : Prop := ballotBackUptoRow.holds Try.pinned (OpenSpec.upto ballotBackSpec)

/-- 'rostrumlaw19.BallotSays', WHERE WHAT IT READS IS OF BULK AT MOST 1048576: true; the input reads as it did. -/
def ballotSaysUptoRow : OpenClaim := { program := "ytfmidjlgpakilaa", sum := "c7db295b1ba0605e8dea4f550d4c3772f04e38bfe0fa2476125b68dc8811be25", func := "rostrum/rostrumlaw19.BallotSays", spec := "ballotSays", apart := false, narrowed := true }
def BallotSaysUptoSaid : Prop := ballotSaysUptoRow.holds Try.pinned (OpenSpec.upto ballotSaysSpec)

/-- 'rostrumlaw19.BallotNext', WHERE WHAT IT READS IS OF BULK AT MOST 1048576: true; the input reads as it did. -/
def ballotNextUptoRow : OpenClaim := { program := "ytfmidjlgpakilaa", sum := "c7db295b1ba0605e8dea4f550d4c3772f04e38bfe0fa2476125b68dc8811be25", func := "rostrum/rostrumlaw19.BallotNext", spec := "ballotNext", apart := false, narrowed := true }
def BallotNextUptoSaid : Prop := ballotNextUptoRow.holds Try.pinned (OpenSpec.upto ballotNextSpec)

/-- 'rostrumlaw11.LastKnown', WHERE WHAT IT READS IS OF BULK AT MOST 1048576: true; the input reads as it did. -/
def lastKnownUptoRow : OpenClaim := { program := "ytfmidjlgpakilaa", sum := "c7db295b1ba0605e8dea4f550d4c3772f04e38bfe0fa2476125b68dc8811be25", func := "rostrum/rostrumlaw11.LastKnown", spec := "lastKnown", apart := false, narrowed := true }
def LastKnownUptoSaid : Prop := lastKnownUptoRow.holds Try.pinned (OpenSpec.upto lastKnownSpec)

/-- 'rostrumlaw11.LastPlays', WHERE WHAT IT READS IS OF BULK AT MOST 1048576: true; the input reads as it did. -/
def lastPlaysUptoRow : OpenClaim := { program := "ytfmidjlgpakilaa", sum := "c7db295b1ba0605e8dea4f550d4c3772f04e38bfe0fa2476125b68dc8811be25", func := "rostrum/rostrumlaw11.LastPlays", spec := "lastPlays", apart := false, narrowed := true }
def LastPlaysUptoSaid : Prop := lastPlaysUptoRow.holds Try.pinned (OpenSpec.upto lastPlaysSpec)

/-- 'rostrumlaw11.LastBack', WHERE WHAT IT READS IS OF BULK AT MOST 1048576: true; the input reads as it did. -/
def lastBackUptoRow : OpenClaim := { program := "ytfmidjlgpakilaa", sum := "c7db295b1ba0605e8dea4f550d4c3772f04e38bfe0fa2476125b68dc8811be25", func := "rostrum/rostrumlaw11.LastBack", spec := "lastBack", apart := false, narrowed := true }
def LastBackUptoSaid : Prop := lastBackUptoRow.holds Try.pinned (OpenSpec.upto lastBackSpec)

end Rows
end Go.Proofs.Ytfmidjlgpakilaa
