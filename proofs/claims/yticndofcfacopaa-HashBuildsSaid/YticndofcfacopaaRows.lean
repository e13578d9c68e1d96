/-
  No cell of these rows narrows 'for every input' (looked for: loops, veiled, ifaces, maps, wideKeys, modest, calm, conditions, laid).
  DERIVED. THE GIVEN ROWS OF THIS SEAT. 9 by the template 'for every input the law returns true; each argument reads behind the call as it read before'; 0 by the template 'total and deterministic' (their statements: YticndofcfacopaaTotals.lean).
  GIVEN WITH THE SEED: the statements are not yours to turn. If you find one false, say at which input.
  Laid BY PROGRAM, IN A SANDBOX (cutbox-rows.mjs): the forced cells as the released guide's own fill.sh prints them over the translation 23333db042c14780… (all of the seat's roots in one cut). By AI agents, Wed Nov 11 2026. No macro, syntax, notation, axiom, sorry.
-/
import Derived.Test.YticndofcfacopaaChecked
import GoSem.Claim
import GoSem.ClaimJoined
import GoSem.ClaimMapViews
import Derived.JoinedTies
import Derived.KernelRfl
namespace Go.Proofs.Yticndofcfacopaa
/- THE CELL 'sum', in the pinned program and in every row, IS THE sha256 OF THE DUMP (.gsa) THAT YticndofcfacopaaProg.lean LOADS. Nothing in Lean hashes anything: it is a label: what it is worth is what the hold of that sum in a sandbox is worth. -/
noncomputable def Try.pinned : Pinned := { name := "yticndofcfacopaa", sum := "23333db042c147801f87da155da2dc0c63fe89bc19c34e76d491ff645f2e7a97", checked := Try.checked }
namespace Rows
def none {H : Type} : Left H := { results := [], args := [] }

/-- 'trestlelaw15.EncodeModels': WHATEVER THE INPUT: true; the input reads as it did. -/
def encodeModelsSpec : ChangeSpec := { name := "encodeModels", fn := fun _ => fun
  | [d1, d2, d3] => { results := [.lit (.bool true)], args := [d1, d2, d3] }
  | _ => none }
def encodeModelsRow : OpenClaim := { program := "yticndofcfacopaa", sum := "23333db042c147801f87da155da2dc0c63fe89bc19c34e76d491ff645f2e7a97", func := "trestle/trestlelaw15.EncodeModels", spec := "encodeModels", inPlace := ["slices.overlaps[int]"], unfollowed := true, recurses := true, plainKeys := false, apart := false }
def EncodeModelsSaid : Prop := encodeModelsRow.holds Try.pinned (OpenSpec.ofChange encodeModelsSpec)

/-- ITS FALSE NEIGHBOUR: 'it returns false'. Refute it at one input. -/
def encodeModelsWrong : ChangeSpec := { name := "encodeModels", fn := fun _ => fun
  | [d1, d2, d3] => { results := [.lit (.bool false)], args := [d1, d2, d3] }
  | _ => none }
def EncodeModelsWrongFalsely : Prop := encodeModelsRow.holds Try.pinned (OpenSpec.ofChange encodeModelsWrong)

/-- 'trestlelaw15.EncodeGates': WHATEVER THE INPUT: true; the input reads as it did. -/
def encodeGatesSpec : ChangeSpec := { name := "encodeGates", fn := fun _ => fun
  | [d1, d2, d3] => { results := [.lit (.bool true)], args := [d1, d2, d3] }
  | _ => none }
def encodeGatesRow : OpenClaim := { program := "yticndofcfacopaa", sum := "23333db042c147801f87da155da2dc0c63fe89bc19c34e76d491ff645f2e7a97", func := "trestle/trestlelaw15.EncodeGates", spec := "encodeGates", inPlace := ["slices.overlaps[int]"], unfollowed := true, recurses := true, plainKeys := false, apart := false }
def EncodeGatesSaid : Prop := encodeGatesRow.holds Try.pinned (OpenSpec.ofChange encodeGatesSpec)

/-- ITS FALSE NEIGHBOUR: 'it returns false'. Refute it at one input. -/
def encodeGatesWrong : ChangeSpec := { name := "encodeGates", fn := fun _ => fun
  | [d1, d2, d3] => { results := [.lit (.bool false)], args := [d1, d2, d3] }
  | _ => none }
def EncodeGatesWrongFalsely : Prop := encodeGatesRow.holds Try.pinned (OpenSpec.ofChange encodeGatesWrong)

/-- 'trestlelaw15.EncodeHolds': WHATEVER THE INPUT: true; the input reads as it did. -/
def encodeHoldsSpec : ChangeSpec := { name := "encodeHolds", fn := fun _ => fun
  | [d1, d2, d3] => { results := [.lit (.bool true)], args := [d1, d2, d3] }
  | _ => none }
def encodeHoldsRow : OpenClaim := { program := "yticndofcfacopaa", sum := "23333db042c147801f87da155da2dc0c63fe89bc19c34e76d491ff645f2e7a97", func := "trestle/trestlelaw15.EncodeHolds", spec := "encodeHolds", inPlace := ["slices.overlaps[int]"], unfollowed := true, recurses := true, plainKeys := false, apart := false }
def EncodeHoldsSaid : Prop := encodeHoldsRow.holds Try.pinned (OpenSpec.ofChange encodeHoldsSpec)

/-- ITS FALSE NEIGHBOUR: 'it returns false'. Refute it at one input. -/
def encodeHoldsWrong : ChangeSpec := { name := "encodeHolds", fn := fun _ => fun
  | [d1, d2, d3] => { results := [.lit (.bool false)], args := [d1, d2, d3] }
  | _ => none }
def EncodeHoldsWrongFalsely : Prop := encodeHoldsRow.holds Try.pinned (OpenSpec.ofChange encodeHoldsWrong)

/-- 'trestlelaw15.EncodeOnly': WHATEVER THE INPUT: true; the input reads as it did. -/
def encodeOnlySpec : ChangeSpec := { name := "encodeOnly", fn := fun _ => fun
  | [d1, d2] => { results := [.lit (.bool true)], args := [d1, d2] }
  | _ => none }
def encodeOnlyRow : OpenClaim := { program := "yticndofcfacopaa", sum := "23333db042c147801f87da155da2dc0c63fe89bc19c34e76d491ff645f2e7a97", func := "trestle/trestlelaw15.EncodeOnly", spec := "encodeOnly", inPlace := ["slices.overlaps[int]"], unfollowed := true, recurses := true, plainKeys := false, apart := false }
def EncodeOnlySaid : Prop := encodeOnlyRow.holds Try.pinned (OpenSpec.ofChange encodeOnlySpec)

/-- ITS FALSE NEIGHBOUR: 'it returns false'. Refute it at one input. -/
def encodeOnlyWrong : ChangeSpec := { name := "encodeOnly", fn := fun _ => fun
  | [d1, d2] => { results := [.lit (.bool false)], args := [d1, d2] }
  | _ => none }
def EncodeOnlyWrongFalsely : Prop := encodeOnlyRow.holds Try.pinned (OpenSpec.ofChange encodeOnlyWrong)

/-- 'trestlelaw15.EncodeCones': WHATEVER THE INPUT: true; the input reads as it did. -/
def encodeConesSpec : ChangeSpec := { name := "encodeCones", fn := fun _ => fun
  | [d1, d2, d3] => { results := [.lit (.bool true)], args := [d1, d2, d3] }
  | _ => none }
def encodeConesRow : OpenClaim := { program := "yticndofcfacopaa", sum := "23333db042c147801f87da155da2dc0c63fe89bc19c34e76d491ff645f2e7a97", func := "trestle/trestlelaw15.EncodeCones", spec := "encodeCones", inPlace := ["slices.overlaps[int]"], unfollowed := true, recurses := true, plainKeys := false, apart := false }
def EncodeConesSaid : Prop := encodeConesRow.holds Try.pinned (OpenSpec.ofChange encodeConesSpec)

/-- ITS FALSE NEIGHBOUR: 'it returns false'. Refute it at one input. -/
def encodeConesWrong : ChangeSpec := { name := "encodeCones", fn := fun _ => fun
  | [d1, d2, d3] => { results := [.lit (.bool false)], args := [d1, d2, d3] }
  | _ => none }
def EncodeConesWrongFalsely : Prop := encodeConesRow.holds Try.pinned (OpenSpec.ofChange encodeConesWrong)

/-- 'trestlelaw09.HashBuilds': WHATEVER THE INPUT: true; the input reads as it did. -/
def hashBuildsSpec : ChangeSpec := { name := "hashBuilds", fn := fun _ => fun
  | [d] => { results := [.lit (.bool true)], args := [d] }
  | _ => none }
def hashBuildsRow : OpenClaim := { program := "yticndofcfacopaa", sum := "23333db042c147801f87da155da2dc0c63fe89bc19c34e76d491ff645f2e7a97", func := "trestle/trestlelaw09.HashBuilds", spec := "hashBuilds", inPlace := ["slices.overlaps[int]"], unfollowed := true, recurses := true, plainKeys := false, apart := false }
def HashBuildsSaid : Prop := hashBuildsRow.holds Try.pinned (OpenSpec.ofChange hashBuildsSpec)

/-- ITS FALSE NEIGHBOUR: 'it returns false'. Refute it at one input. -/
def hashBuildsWrong : ChangeSpec := { name := "hashBuilds", fn := fun _ => fun
  | [d] => { results := [.lit (.bool false)], args := [d] }
  | _ => none }
def HashBuildsWrongFalsely : Prop := hashBuildsRow.holds Try.pinned (OpenSpec.ofChange hashBuildsWrong)

/-- 'trestlelaw09.HashTables': WHATEVER THE INPUT: true; the input reads as it did. -/
def hashTablesSpec : ChangeSpec := { name := "hashTables", fn := fun _ => fun
  | [d1, d2, d3] => { results := [.lit (.bool true)], args := [d1, d2, d3] }
  | _ => none }
def hashTablesRow : OpenClaim := { program := "yticndofcfacopaa", sum := "23333db042c147801f87da155da2dc0c63fe89bc19c34e76d491ff645f2e7a97", func := "trestle/trestlelaw09.HashTables", spec := "hashTables", inPlace := ["slices.overlaps[int]"], unfollowed := true, recurses := true, plainKeys := false, apart := false }
def HashTablesSaid : Prop := hashTablesRow.holds Try.pinned (OpenSpec.ofChange hashTablesSpec)

/-- ITS FALSE NEIGHBOUR: 'it returns false'. Refute it at one input. -/
def hashTablesWrong : ChangeSpec := { name := "hashTables", fn := fun _ => fun
  | [d1, d2, d3] => { results := [.lit (.bool false)], args := [d1, d2, d3] }
  | _ => none }
def HashTablesWrongFalsely : Prop := hashTablesRow.holds Try.pinned (OpenSpec.ofChange hashTablesWrong)

/-- 'trestlelaw09.HashMeans': WHATEVER THE INPUT: true; the input reads as it did. -/
def hashMeansSpec : ChangeSpec := { name := "hashMeans", fn := fun _ => fun
  | [d1, d2, d3] => { results := [.lit (.bool true)], args := [d1, d2, d3] }
  | _ => none }
def hashMeansRow : OpenClaim := { program := "yticndofcfacopaa", sum := "23333db042c147801f87da155da2dc0c63fe89bc19c34e76d491ff645f2e7a97", func := "trestle/trestlelaw09.HashMeans", spec := "hashMeans", inPlace := ["slices.overlaps[int]"], unfollowed := true, recurses := true, plainKeys := false, apart := false }
def HashMeansSaid : Prop := hashMeansRow.holds Try.pinned (OpenSpec.ofChange hashMeansSpec)

/-- ITS FALSE NEIGHBOUR: 'it returns false'. Refute it at one input. -/
def hashMeansWrong : ChangeSpec := { name := "hashMeans", fn := fun _ => fun
  | [d1, d2, d3] => { results := [.lit (.bool false)], args := [d1, d2, d3] }
  | _ => none }
def HashMeansWrongFalsely : Prop := hashMeansRow.holds Try.pinned (OpenSpec.ofChange hashMeansWrong)

/-- 'trestlelaw09.HashSettles': WHATEVER THE INPUT: true; the input reads as it did. -/
def hashSettlesSpec : ChangeSpec := { name := "hashSettles", fn := fun _ => fun
  | [d] => { results := [.lit (.bool true)], args := [d] }
  | _ => none }
def hashSettlesRow : OpenClaim := { program := "yticndofcfacopaa", sum := "23333db042c147801f87da155da2dc0c63fe89bc19c34e76d491ff645f2e7a97", func := "trestle/trestlelaw09.HashSettles", spec := "hashSettles", inPlace := ["slices.overlaps[int]"], unfollowed := true, recurses := true, plainKeys := false, apart := false }
def HashSettlesSaid : Prop := hashSettlesRow.holds Try.pinned (OpenSpec.ofChange hashSettlesSpec)

/-- ITS FALSE NEIGHBOUR: 'it returns false'. Refute it at one input. -/
def hashSettlesWrong : ChangeSpec := { name := "hashSettles", fn := fun _ => fun
  | [d] => { results := [.lit (.bool false)], args := [d] }
  | _ => none }
def HashSettlesWrongFalsely : Prop := hashSettlesRow.holds Try.pinned (OpenSpec.ofChange hashSettlesWrong)

/- THE SECOND FORM. 'bulk': how many values and letters a reading holds, each counted each time it is reached (what is shared counts as often as it is met; a slice's spare places count too). A statement '..UptoSaid' is the law's where the arguments, and the package variables that the reading takes, are together of bulk at most 1048576: NARROWER than '..Said'. Prove '..Said' where nothing that the law and all that it calls make is longer than what came in: it says more and counts as full. Else prove '..UptoSaid'. A law counts once. -/
mutual
def uptoBulk {H : Type} : DataW H → Nat
  | .lit (.string bytes) => bytes.length + 1
  | .lit _ => 1
  | .nil => 1
  | .ptr d => uptoBulk d + 1
  | .slice elems spare => uptoBulkAll elems + uptoBulkAll spare + 1
  | .agg parts => uptoBulkAll parts + 1
  | .iface _ d => uptoBulk d + 1
  | .map entries => uptoBulkEntries entries + 1
  | .held _ => 1
def uptoBulkAll {H : Type} : List (DataW H) → Nat
  | [] => 0
  | d :: r => uptoBulk d + uptoBulkAll r
def uptoBulkEntries {H : Type} : List (Lit × DataW H) → Nat
  | [] => 0
  | x :: r => uptoBulkEntry x + uptoBulkEntries r
def uptoBulkEntry {H : Type} : Lit × DataW H → Nat
  | (.string bytes, d) => bytes.length + uptoBulk d + 1
  | (_, d) => uptoBulk d + 1
 end
def uptoSmall : (H : Type) → List (DataW H) → Bool := fun _ ds => decide (uptoBulkAll ds ≤ 1048576)
def OpenSpec.upto (s : _root_.Go.ChangeSpec) : _root_.Go.OpenSpec := { _root_.Go.OpenSpec.ofChange s with cond := some uptoSmall }

/-- 'trestlelaw15.EncodeModels', WHERE WHAT IT READS IS OF BULK AT MOST 1048576: true; the input reads as it did. -/
def encodeModelsUptoRow : OpenClaim := { program := "yticndofcfacopaa", sum := "23333db042c147801f87da155da2dc0c63fe89bc19c34e76d491ff645f2e7a97", func := "trestle/trestlelaw15.EncodeModels", spec := "encodeModels", inPlace := ["slices.overlaps[int]"], unfollowed := true, recurses := true, plainKeys := false, apart := false, narrowed := true }
def EncodeModelsUptoSaid : Prop := encodeModelsUptoRow.holds Try.pinned (OpenSpec.upto encodeModelsSpec)

/-- 'trestlelaw15.EncodeGates', WHERE WHAT IT READS IS OF BULK AT MOST 1048576: true; the input reads as it did. -/
def encodeGatesUptoRow : OpenClaim := { program := "yticndofcfacopaa", sum := "23333db042c147801f87da155da2dc0c63fe89bc19c34e76d491ff645f2e7a97", func := "trestle/trestlelaw15.EncodeGates", spec := "encodeGates", inPlace := ["slices.overlaps[int]"], unfollowed := true, recurses := true, plainKeys := false, apart := false, narrowed := true }
def EncodeGatesUptoSaid : Prop := encodeGatesUptoRow.holds Try.pinned (OpenSpec.upto encodeGatesSpec)

/-- 'trestlelaw15.EncodeHolds', WHERE WHAT IT READS IS OF BULK AT MOST 1048576: true; the input reads as it did. -/
def encodeHoldsUptoRow : OpenClaim := { program := "yticndofcfacopaa", sum := "23333db042c147801f87da155da2dc0c63fe89bc19c34e76d491ff645f2e7a97", func := "trestle/trestlelaw15.EncodeHolds", spec := "encodeHolds", inPlace := ["slices.overlaps[int]"], unfollowed := true, recurses := true, plainKeys := false, apart := false, narrowed := true }
def EncodeHoldsUptoSaid : Prop := encodeHoldsUptoRow.holds Try.pinned (OpenSpec.upto encodeHoldsSpec)

/-- 'trestlelaw15.EncodeOnly', WHERE WHAT IT READS IS OF BULK AT MOST 1048576: true; the input reads as it did. -/
def encodeOnlyUptoRow : OpenClaim := { program := "yticndofcfacopaa", sum := "23333db042c147801f87da155da2dc0c63fe89bc19c34e76d491ff645f2e7a97", func := "trestle/trestlelaw15.EncodeOnly", spec := "encodeOnly", inPlace := ["slices.overlaps[int]"], unfollowed := true, recurses := true, plainKeys := false, apart := false, narrowed := true }
def EncodeOnlyUptoSaid : Prop := encodeOnlyUptoRow.holds Try.pinned (OpenSpec.upto encodeOnlySpec)

/-- 'trestlelaw15.EncodeCones', WHERE WHAT IT READS IS OF BULK AT MOST 1048576: true; the input reads as it did. -/
def encodeConesUptoRow : OpenClaim := { program := "yticndofcfacopaa", sum := "23333db042c147801f87da155da2dc0c63fe89bc19c34e76d491ff645f2e7a97", func := "trestle/trestlelaw15.EncodeCones", spec := "encodeCones", inPlace := ["slices.overlaps[int]"], unfollowed := true, recurses := true, plainKeys := false, apart := false, narrowed := true }
def EncodeConesUptoSaid : Prop := encodeConesUptoRow.holds Try.pinned (OpenSpec.upto encodeConesSpec)

/-- 'trestlelaw09.HashBuilds', WHERE WHAT IT READS IS OF BULK AT MOST 1048576: true; the input reads as it did. -/
def hashBuildsUptoRow : OpenClaim := { program := "yticndofcfacopaa", sum := "23333db042c147801f87da155da2dc0c63fe89bc19c34e76d491ff645f2e7a97", func := "trestle/trestlelaw09.HashBuilds", spec := "hashBuilds", inPlace := ["slices.overlaps[int]"], unfollowed := true, recurses := true, plainKeys := false, apart := false, narrowed := true }
def HashBuildsUptoSaid : Prop := hashBuildsUptoRow.holds Try.pinned (OpenSpec.upto hashBuildsSpec)

/-- 'trestlelaw09.HashTables', WHERE WHAT IT READS IS OF BULK AT MOST 1048576: true; the input reads as it did. -/
def hashTablesUptoRow : OpenClaim := { program := "yticndofcfacopaa", sum := "23333db042c147801f87da155da2dc0c63fe89bc19c34e76d491ff645f2e7a97", func := "trestle/trestlelaw09.HashTables", spec := "hashTables", inPlace := ["slices.overlaps[int]"], unfollowed := true, recurses := true, plainKeys := false, apart := false, narrowed := true }
def HashTablesUptoSaid : Prop := hashTablesUptoRow.holds Try.pinned (OpenSpec.upto hashTablesSpec)

/-- 'trestlelaw09.HashMeans', WHERE WHAT IT READS IS OF BULK AT MOST 1048576: true; the input reads as it did. -/
def hashMeansUptoRow : OpenClaim := { program := "yticndofcfacopaa", sum := "23333db042c147801f87da155da2dc0c63fe89bc19c34e76d491ff645f2e7a97", func := "trestle/trestlelaw09.HashMeans", spec := "hashMeans", inPlace := ["slices.overlaps[int]"], unfollowed := true, recurses := true, plainKeys := false, apart := false, narrowed := true }
def HashMeansUptoSaid : Prop := hashMeansUptoRow.holds Try.pinned (OpenSpec.upto hashMeansSpec)

/-- 'trestlelaw09.HashSettles', WHERE WHAT IT READS IS OF BULK AT MOST 1048576: true; the input reads as it did. -/
def hashSettlesUptoRow : OpenClaim := { program := "yticndofcfacopaa", sum := "23333db042c147801f87da155da2dc0c63fe89bc19c34e76d491ff645f2e7a97", func := "trestle/trestlelaw09.HashSettles", spec := "hashSettles", inPlace := ["slices.overlaps[int]"], unfollowed := true, recurses := true, plainKeys := false, apart := false, narrowed := true }
def HashSettlesUptoSaid : Prop := hashSettlesUptoRow.holds Try.pinned (OpenSpec.upto hashSettlesSpec)

end Rows
end Go.Proofs.Yticndofcfacopaa
