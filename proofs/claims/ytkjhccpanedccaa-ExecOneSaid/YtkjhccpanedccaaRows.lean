/-
  No cell of these rows narrows 'for every input' (looked for: loops, veiled, ifaces, maps, wideKeys, modest, calm, conditions, laid).
  DERIVED. THE GIVEN ROWS OF THIS SEAT. 6 by the template 'for every input the law returns true; each argument reads behind the call as it read before'; 0 by the template 'total and deterministic' (their statements: YtkjhccpanedccaaTotals.lean).
  GIVEN WITH THE SEED: the statements are not yours to turn. If you find one false, say at which input.
  Laid BY PROGRAM, IN A SANDBOX (cutbox-rows.mjs): the forced cells as the released guide's own fill.sh prints them over the translation 92533670e86db8ec… (all of the seat's roots in one cut). By AI agents, Wed Nov 11 2026. No macro, syntax, notation, axiom, sorry.
-/
import Derived.Test.YtkjhccpanedccaaChecked
import GoSem.Claim
import GoSem.ClaimJoined
import GoSem.ClaimMapViews
import Derived.JoinedTies
import Derived.KernelRfl
namespace Go.Proofs.Ytkjhccpanedccaa
/- THE CELL 'sum', in the pinned program and in every row, IS THE sha256 OF THE DUMP (.gsa) THAT YtkjhccpanedccaaProg.lean LOADS. Nothing in Lean hashes anything: it is a label: what it is worth is what the hold of that sum in a sandbox is worth. -/
noncomputable def Try.pinned : Pinned := { name := "ytkjhccpanedccaa", sum := "92533670e86db8ec993323cc54e3f188be374c33969408849536f89775e36d0d", checked := Try.checked }
namespace Rows
def none {H : Type} : Left H := { results := [], args := [] }

/-- 'rostrumlaw18.OrderKnown': WHATEVER THE INPUT: true; the input reads as it did. -/
def orderKnownSpec : ChangeSpec := { name := "orderKnown", fn := fun _ => fun
  | [] => { results := [.lit (.bool true)], args := [] }
  | _ => none }
def orderKnownRow : OpenClaim := { program := "ytkjhccpanedccaa", sum := "92533670e86db8ec993323cc54e3f188be374c33969408849536f89775e36d0d", func := "rostrum/rostrumlaw18.OrderKnown", spec := "orderKnown", unfollowed := true, recurses := true, plainKeys := false, apart := false }
def OrderKnownSaid : Prop := orderKnownRow.holds Try.pinned (OpenSpec.ofChange orderKnownSpec)

/-- ITS FALSE NEIGHBOUR: 'it returns false'. Refute it at one input. -/
def orderKnownWrong : ChangeSpec := { name := "orderKnown", fn := fun _ => fun
  | [] => { results := [.lit (.bool false)], args := [] }
  | _ => none }
def OrderKnownWrongFalsely : Prop := orderKnownRow.holds Try.pinned (OpenSpec.ofChange orderKnownWrong)

/-- 'rostrumlaw18.OrderAll': WHATEVER THE INPUT: true; the input reads as it did. -/
def orderAllSpec : ChangeSpec := { name := "orderAll", fn := fun _ => fun
  | [d1, d2] => { results := [.lit (.bool true)], args := [d1, d2] }
  | _ => none }
def orderAllRow : OpenClaim := { program := "ytkjhccpanedccaa", sum := "92533670e86db8ec993323cc54e3f188be374c33969408849536f89775e36d0d", func := "rostrum/rostrumlaw18.OrderAll", spec := "orderAll", unfollowed := true, recurses := true, plainKeys := false, apart := false }
def OrderAllSaid : Prop := orderAllRow.holds Try.pinned (OpenSpec.ofChange orderAllSpec)

/-- ITS FALSE NEIGHBOUR: 'it returns false'. Refute it at one input. -/
def orderAllWrong : ChangeSpec := { name := "orderAll", fn := fun _ => fun
  | [d1, d2] => { results := [.lit (.bool false)], args := [d1, d2] }
  | _ => none }
def OrderAllWrongFalsely : Prop := orderAllRow.holds Try.pinned (OpenSpec.ofChange orderAllWrong)

/-- 'rostrumlaw18.OrderChain': WHATEVER THE INPUT: true; the input reads as it did. -/
def orderChainSpec : ChangeSpec := { name := "orderChain", fn := fun _ => fun
  | [d1, d2, d3] => { results := [.lit (.bool true)], args := [d1, d2, d3] }
  | _ => none }
def orderChainRow : OpenClaim := { program := "ytkjhccpanedccaa", sum := "92533670e86db8ec993323cc54e3f188be374c33969408849536f89775e36d0d", func := "rostrum/rostrumlaw18.OrderChain", spec := "orderChain", unfollowed := true, recurses := true, plainKeys := false, apart := false }
def OrderChainSaid : Prop := orderChainRow.holds Try.pinned (OpenSpec.ofChange orderChainSpec)

/-- ITS FALSE NEIGHBOUR: 'it returns false'. Refute it at one input. -/
def orderChainWrong : ChangeSpec := { name := "orderChain", fn := fun _ => fun
  | [d1, d2, d3] => { results := [.lit (.bool false)], args := [d1, d2, d3] }
  | _ => none }
def OrderChainWrongFalsely : Prop := orderChainRow.holds Try.pinned (OpenSpec.ofChange orderChainWrong)

/-- 'rostrumlaw23.ExecKnown': WHATEVER THE INPUT: true; the input reads as it did. -/
def execKnownSpec : ChangeSpec := { name := "execKnown", fn := fun _ => fun
  | [] => { results := [.lit (.bool true)], args := [] }
  | _ => none }
def execKnownRow : OpenClaim := { program := "ytkjhccpanedccaa", sum := "92533670e86db8ec993323cc54e3f188be374c33969408849536f89775e36d0d", func := "rostrum/rostrumlaw23.ExecKnown", spec := "execKnown", unfollowed := true, recurses := true, plainKeys := false, apart := false }
def ExecKnownSaid : Prop := execKnownRow.holds Try.pinned (OpenSpec.ofChange execKnownSpec)

/-- ITS FALSE NEIGHBOUR: 'it returns false'. Refute it at one input. -/
def execKnownWrong : ChangeSpec := { name := "execKnown", fn := fun _ => fun
  | [] => { results := [.lit (.bool false)], args := [] }
  | _ => none }
def ExecKnownWrongFalsely : Prop := execKnownRow.holds Try.pinned (OpenSpec.ofChange execKnownWrong)

/-- 'rostrumlaw23.ExecOne': WHATEVER THE INPUT: true; the input reads as it did. -/
def execOneSpec : ChangeSpec := { name := "execOne", fn := fun _ => fun
  | [d1, d2, d3, d4] => { results := [.lit (.bool true)], args := [d1, d2, d3, d4] }
  | _ => none }
def execOneRow : OpenClaim := { program := "ytkjhccpanedccaa", sum := "92533670e86db8ec993323cc54e3f188be374c33969408849536f89775e36d0d", func := "rostrum/rostrumlaw23.ExecOne", spec := "execOne", unfollowed := true, recurses := true, plainKeys := false, apart := false }
def ExecOneSaid : Prop := execOneRow.holds Try.pinned (OpenSpec.ofChange execOneSpec)

/-- ITS FALSE NEIGHBOUR: 'it returns false'. Refute it at one input. -/
def execOneWrong : ChangeSpec := { name := "execOne", fn := fun _ => fun
  | [d1, d2, d3, d4] => { results := [.lit (.bool false)], args := [d1, d2, d3, d4] }
  | _ => none }
def ExecOneWrongFalsely : Prop := execOneRow.holds Try.pinned (OpenSpec.ofChange execOneWrong)

/-- 'rostrumlaw23.ExecGrows': WHATEVER THE INPUT: true; the input reads as it did. -/
def execGrowsSpec : ChangeSpec := { name := "execGrows", fn := fun _ => fun
  | [d] => { results := [.lit (.bool true)], args := [d] }
  | _ => none }
def execGrowsRow : OpenClaim := { program := "ytkjhccpanedccaa", sum := "92533670e86db8ec993323cc54e3f188be374c33969408849536f89775e36d0d", func := "rostrum/rostrumlaw23.ExecGrows", spec := "execGrows", unfollowed := true, recurses := true, plainKeys := false, apart := false }
def ExecGrowsSaid : Prop := execGrowsRow.holds Try.pinned (OpenSpec.ofChange execGrowsSpec)

/-- ITS FALSE NEIGHBOUR: 'it returns false'. Refute it at one input. -/
def execGrowsWrong : ChangeSpec := { name := "execGrows", fn := fun _ => fun
  | [d] => { results := [.lit (.bool false)], args := [d] }
  | _ => none }
def ExecGrowsWrongFalsely : Prop := execGrowsRow.holds Try.pinned (OpenSpec.ofChange execGrowsWrong)

/- THE SECOND FORM. 'bulk': how many values and letters a reading holds, each counted each time it is reached (what is shared counts as often as it is met; a slice's spare places count too). A statement '..UptoSaid' is the law's where the arguments, and the package variables that the reading takes, are together of bulk at most 1048576: NARROWER than '..Said'. Prove '..Said' where nothing that the law and all that it calls make is longer than what came in: it says more and counts as full. Else prove '..UptoSaid'. A law counts once. -/
mutual
def uptoBulk {H : Type} : DataW H → Nat
  | .lit (.string bytes) => bytes.length + 1
  | .lit _ => 1
  | .nil => 1
  | .ptr d => uptoBulk d + 1
  | .slice elems spare => uptoBulkAll elems + uptoBulkAll spare + 1
  | .agg parts => uptoBulkAll parts + 1
  | .iface _ d => uptoBulk d + 1
  | .map entries => uptoBulkEntries entries + 1
  | .held _ => 1
def uptoBulkAll {H : Type} : List (DataW H) → Nat
  | [] => 0
  | d :: r => uptoBulk d + uptoBulkAll r
def uptoBulkEntries {H : Type} : List (Lit × DataW H) → Nat
  | [] => 0
  | x :: r => uptoBulkEntry x + uptoBulkEntries r
def uptoBulkEntry {H : Type} : Lit × DataW H → Nat
  | (.string bytes, d) => bytes.length + uptoBulk d + 1
  | (_, d) => uptoBulk d + 1
 end
def uptoSmall : (H : Type) → List (DataW H) → Bool := fun _ ds => decide (uptoBulkAll ds ≤ 1048576)
def OpenSpec.upto (s : _root_.Go.ChangeSpec) : _root_.Go.OpenSpec := { _root_.Go.OpenSpec.ofChange s with cond := some uptoSmall }

/-- 'rostrumlaw18.OrderKnown', WHERE WHAT IT READS IS OF BULK AT MOST 1048576: true; the input reads as it did. -/
def orderKnownUptoRow : OpenClaim := { program := "ytkjhccpanedccaa", sum := "92533670e86db8ec993323cc54e3f188be374c33969408849536f89775e36d0d", func := "rostrum/rostrumlaw18.OrderKnown", spec := "orderKnown", unfollowed := true, recurses := true, plainKeys := false, apart := false, narrowed := true }
def OrderKnownUptoSaid : Prop := orderKnownUptoRow.holds Try.pinned (OpenSpec.upto orderKnownSpec)

/-- 'rostrumlaw18.OrderAll', WHERE WHAT IT READS IS OF BULK AT MOST 1048576: true; the input reads as it did. -/
def orderAllUptoRow : OpenClaim := { program := "ytkjhccpanedccaa", sum := "92533670e86db8ec993323cc54e3f188be374c33969408849536f89775e36d0d", func := "rostrum/rostrumlaw18.OrderAll", spec := "orderAll", unfollowed := true, recurses := true, plainKeys := false, apart := false, narrowed := true }
def OrderAllUptoSaid : Prop := orderAllUptoRow.holds Try.pinned (OpenSpec.upto orderAllSpec)

/-- 'rostrumlaw18.OrderChain', WHERE WHAT IT READS IS OF BULK AT MOST 1048576: true; the input reads as it did. -/
def orderChainUptoRow : OpenClaim := { program := "ytkjhccpanedccaa", sum := "92533670e86db8ec993323cc54e3f188be374c33969408849536f89775e36d0d", func := "rostrum/rostrumlaw18.OrderChain", spec := "orderChain", unfollowed := true, recurses := true, plainKeys := false, apart := false, narrowed := true }
def OrderChainUptoSaid : Prop := orderChainUptoRow.holds Try.pinned (OpenSpec.upto orderChainSpec)

/-- 'rostrumlaw23.ExecKnown', WHERE WHAT IT READS IS OF BULK AT MOST 1048576: true; the input reads as it did. -/
def execKnownUptoRow : OpenClaim := { program := "ytkjhccpanedccaa", sum := "92533670e86db8ec993323cc54e3f188be374c33969408849536f89775e36d0d", func := "rostrum/rostrumlaw23.ExecKnown", spec := "execKnown", unfollowed := true, recurses := true, plainKeys := false, apart := false, narrowed := true }
def ExecKnownUptoSaid : Prop := execKnownUptoRow.holds Try.pinned (OpenSpec.upto execKnownSpec)

/-- 'rostrumlaw23.ExecOne', WHERE WHAT IT READS IS OF BULK AT MOST 1048576: true; the input reads as it did. -/
def execOneUptoRow : OpenClaim := { program := "ytkjhccpanedccaa", sum := "92533670e86db8ec993323cc54e3f188be374c33969408849536f89775e36d0d", func := "rostrum/rostrumlaw23.ExecOne", spec := "execOne", unfollowed := true, recurses := true, plainKeys := false, apart := false, narrowed := true }
def ExecOneUptoSaid : Prop := execOneUptoRow.holds Try.pinned (OpenSpec.upto execOneSpec)

/-- 'rostrumlaw23.ExecGrows', WHERE WHAT IT READS IS OF BULK AT MOST 1048576: true; the input reads as it did. -/
def execGrowsUptoRow : OpenClaim := { program := "ytkjhccpanedccaa", sum := "92533670e86db8ec993323cc54e3f188be374c33969408849536f89775e36d0d", func := "rostrum/rostrumlaw23.ExecGrows", spec := "execGrows", unfollowed := true, recurses := true, plainKeys := false, apart := false, narrowed := true }
def ExecGrowsUptoSaid : Prop := execGrowsUptoRow.holds Try.pinned (OpenSpec.upto execGrowsSpec)

end Rows
end Go.Proofs.Ytkjhccpanedccaa
