/-
  No cell of these rows narrows 'for every input' (looked for: loops, veiled, ifaces, maps, wideKeys, modest, calm, conditions, laid).
  DERIVED. THE GIVEN ROWS OF THIS SEAT. 5 by the template 'for every input the law returns true; each argument reads behind the call as it read before'; 0 by the template 'total and deterministic' (their statements: YtbmngkdnebklpaaTotals.lean).
  GIVEN WITH THE SEED: the statements are not yours to turn. If you find one false, say at which input.
  Laid BY PROGRAM, IN A SANDBOX (cutbox-rows.mjs): the forced cells as the released guide's own fill.sh prints them over the translation 00c8c6634d079a5b… (all of the seat's roots in one cut). By AI agents, Wed Nov 11 2026. No macro, syntax, notation, axiom, sorry.
-/
import Derived.Test.YtbmngkdnebklpaaChecked
import GoSem.Claim
import GoSem.ClaimJoined
import GoSem.ClaimMapViews
import Derived.JoinedTies
import Derived.KernelRfl
namespace Go.Proofs.Ytbmngkdnebklpaa
/- THE CELL 'sum', in the pinned program and in every row, IS THE sha256 OF THE DUMP (.gsa) THAT YtbmngkdnebklpaaProg.lean LOADS. Nothing in Lean hashes anything: it is a label: what it is worth is what the hold of that sum in a sandbox is worth. -/
noncomputable def Try.pinned : Pinned := { name := "ytbmngkdnebklpaa", sum := "00c8c6634d079a5b560ac8906f19a54e7176c7efde9f92a25e6fcd714341fc46", checked := Try.checked }
namespace Rows
def none {H : Type} : Left H := { results := [], args := [] }

/-- 'trestlelaw16.FramesGrow': WHATEVER THE INPUT: true; the input reads as it did. -/
def framesGrowSpec : ChangeSpec := { name := "framesGrow", fn := fun _ => fun
  | [d1, d2] => { results := [.lit (.bool true)], args := [d1, d2] }
  | _ => none }
def framesGrowRow : OpenClaim := { program := "ytbmngkdnebklpaa", sum := "00c8c6634d079a5b560ac8906f19a54e7176c7efde9f92a25e6fcd714341fc46", func := "trestle/trestlelaw16.FramesGrow", spec := "framesGrow", inPlace := ["slices.overlaps[int]"], unfollowed := true, recurses := true, plainKeys := false, apart := false }
def FramesGrowSaid : Prop := framesGrowRow.holds Try.pinned (OpenSpec.ofChange framesGrowSpec)

/-- ITS FALSE NEIGHBOUR: 'it returns false'. Refute it at one input. -/
def framesGrowWrong : ChangeSpec := { name := "framesGrow", fn := fun _ => fun
  | [d1, d2] => { results := [.lit (.bool false)], args := [d1, d2] }
  | _ => none }
def FramesGrowWrongFalsely : Prop := framesGrowRow.holds Try.pinned (OpenSpec.ofChange framesGrowWrong)

/-- 'trestlelaw16.FramesHolds': WHATEVER THE INPUT: true; the input reads as it did. -/
def framesHoldsSpec : ChangeSpec := { name := "framesHolds", fn := fun _ => fun
  | [d1, d2] => { results := [.lit (.bool true)], args := [d1, d2] }
  | _ => none }
def framesHoldsRow : OpenClaim := { program := "ytbmngkdnebklpaa", sum := "00c8c6634d079a5b560ac8906f19a54e7176c7efde9f92a25e6fcd714341fc46", func := "trestle/trestlelaw16.FramesHolds", spec := "framesHolds", inPlace := ["slices.overlaps[int]"], unfollowed := true, recurses := true, plainKeys := false, apart := false }
def FramesHoldsSaid : Prop := framesHoldsRow.holds Try.pinned (OpenSpec.ofChange framesHoldsSpec)

/-- ITS FALSE NEIGHBOUR: 'it returns false'. Refute it at one input. -/
def framesHoldsWrong : ChangeSpec := { name := "framesHolds", fn := fun _ => fun
  | [d1, d2] => { results := [.lit (.bool false)], args := [d1, d2] }
  | _ => none }
def FramesHoldsWrongFalsely : Prop := framesHoldsRow.holds Try.pinned (OpenSpec.ofChange framesHoldsWrong)

/-- 'trestlelaw16.FramesOnly': WHATEVER THE INPUT: true; the input reads as it did. -/
def framesOnlySpec : ChangeSpec := { name := "framesOnly", fn := fun _ => fun
  | [d1, d2, d3] => { results := [.lit (.bool true)], args := [d1, d2, d3] }
  | _ => none }
def framesOnlyRow : OpenClaim := { program := "ytbmngkdnebklpaa", sum := "00c8c6634d079a5b560ac8906f19a54e7176c7efde9f92a25e6fcd714341fc46", func := "trestle/trestlelaw16.FramesOnly", spec := "framesOnly", inPlace := ["slices.overlaps[int]"], unfollowed := true, recurses := true, plainKeys := false, apart := false }
def FramesOnlySaid : Prop := framesOnlyRow.holds Try.pinned (OpenSpec.ofChange framesOnlySpec)

/-- ITS FALSE NEIGHBOUR: 'it returns false'. Refute it at one input. -/
def framesOnlyWrong : ChangeSpec := { name := "framesOnly", fn := fun _ => fun
  | [d1, d2, d3] => { results := [.lit (.bool false)], args := [d1, d2, d3] }
  | _ => none }
def FramesOnlyWrongFalsely : Prop := framesOnlyRow.holds Try.pinned (OpenSpec.ofChange framesOnlyWrong)

/-- 'trestlelaw16.FramesParts': WHATEVER THE INPUT: true; the input reads as it did. -/
def framesPartsSpec : ChangeSpec := { name := "framesParts", fn := fun _ => fun
  | [d1, d2, d3] => { results := [.lit (.bool true)], args := [d1, d2, d3] }
  | _ => none }
def framesPartsRow : OpenClaim := { program := "ytbmngkdnebklpaa", sum := "00c8c6634d079a5b560ac8906f19a54e7176c7efde9f92a25e6fcd714341fc46", func := "trestle/trestlelaw16.FramesParts", spec := "framesParts", inPlace := ["slices.overlaps[int]"], unfollowed := true, recurses := true, plainKeys := false, apart := false }
def FramesPartsSaid : Prop := framesPartsRow.holds Try.pinned (OpenSpec.ofChange framesPartsSpec)

/-- ITS FALSE NEIGHBOUR: 'it returns false'. Refute it at one input. -/
def framesPartsWrong : ChangeSpec := { name := "framesParts", fn := fun _ => fun
  | [d1, d2, d3] => { results := [.lit (.bool false)], args := [d1, d2, d3] }
  | _ => none }
def FramesPartsWrongFalsely : Prop := framesPartsRow.holds Try.pinned (OpenSpec.ofChange framesPartsWrong)

/-- 'trestlelaw16.FramesRuns': WHATEVER THE INPUT: true; the input reads as it did. -/
def framesRunsSpec : ChangeSpec := { name := "framesRuns", fn := fun _ => fun
  | [d1, d2] => { results := [.lit (.bool true)], args := [d1, d2] }
  | _ => none }
def framesRunsRow : OpenClaim := { program := "ytbmngkdnebklpaa", sum := "00c8c6634d079a5b560ac8906f19a54e7176c7efde9f92a25e6fcd714341fc46", func := "trestle/trestlelaw16.FramesRuns", spec := "framesRuns", inPlace := ["slices.overlaps[int]"], unfollowed := true, recurses := true, plainKeys := false, apart := false }
def FramesRunsSaid : Prop := framesRunsRow.holds Try.pinned (OpenSpec.ofChange framesRunsSpec)

/-- ITS FALSE NEIGHBOUR: 'it returns false'. Refute it at one input. -/
def framesRunsWrong : ChangeSpec := { name := "framesRuns", fn := fun _ => fun
  | [d1, d2] => { results := [.lit (.bool false)], args := [d1, d2] }
  | _ => none }
def FramesRunsWrongFalsely : Prop := framesRunsRow.holds Try.pinned (OpenSpec.ofChange framesRunsWrong)

/- THE SECOND FORM. 'bulk': how many values and letters a reading holds, each counted each time it is reached (what is shared counts as often as it is met; a slice's spare places count too). A statement '..UptoSaid' is the law's where the arguments, and the package variables that the reading takes, are together of bulk at most 1048576: NARROWER than '..Said'. Prove '..Said' where nothing that the law and all that it calls make is longer than what came in: it says more and counts as full. Else prove '..UptoSaid'. A law counts once. -/
mutual
def uptoBulk {H : Type} : DataW H → Nat
  | .lit (.string bytes) => bytes.length + 1
  | .lit _ => 1
  | .nil => 1
  | .ptr d => uptoBulk d + 1
  | .slice elems spare => uptoBulkAll elems + uptoBulkAll spare + 1
  | .agg parts => uptoBulkAll parts + 1
  | .iface _ d => uptoBulk d + 1
  | .map entries => uptoBulkEntries entries + 1
  | .held _ => 1
def uptoBulkAll {H : Type} : List (DataW H) → Nat
  | [] => 0
  | d :: r => uptoBulk d + uptoBulkAll r
def uptoBulkEntries {H : Type} : List (Lit × DataW H) → Nat
  | [] => 0
  | x :: r => uptoBulkEntry x + uptoBulkEntries r
def uptoBulkEntry {H : Type} : Lit × DataW H → Nat
  | (.string bytes, d) => bytes.length + uptoBulk d + 1
  | (_, d) => uptoBulk d + 1
 end
def uptoSmall : (H : Type) → List (DataW H) → Bool := fun _ ds => decide (uptoBulkAll ds ≤ 1048576)
def OpenSpec.upto (s : _root_.Go.ChangeSpec) : _root_.Go.OpenSpec := { _root_.Go.OpenSpec.ofChange s with cond := some uptoSmall }

/-- 'trestlelaw16.FramesGrow', WHERE WHAT IT READS IS OF BULK AT MOST 1048576: true; the input reads as it did. -/
def framesGrowUptoRow : OpenClaim := { program := "ytbmngkdnebklpaa", sum := "00c8c6634d079a5b560ac8906f19a54e7176c7efde9f92a25e6fcd714341fc46", func := "trestle/trestlelaw16.FramesGrow", spec := "framesGrow", inPlace := ["slices.overlaps[int]"], unfollowed := true, recurses := true, plainKeys := false, apart := false, narrowed := true }
def FramesGrowUptoSaid : Prop := framesGrowUptoRow.holds Try.pinned (OpenSpec.upto framesGrowSpec)

/-- 'trestlelaw16.FramesHolds', WHERE WHAT IT READS IS OF BULK AT MOST 1048576: true; the input reads as it did. -/
def framesHoldsUptoRow : OpenClaim := { program := "ytbmngkdnebklpaa", sum := "00c8c6634d079a5b560ac8906f19a54e7176c7efde9f92a25e6fcd714341fc46", func := "trestle/trestlelaw16.FramesHolds", spec := "framesHolds", inPlace := ["slices.overlaps[int]"], unfollowed := true, recurses := true, plainKeys := false, apart := false, narrowed := true }
def FramesHoldsUptoSaid : Prop := framesHoldsUptoRow.holds Try.pinned (OpenSpec.upto framesHoldsSpec)

/-- 'trestlelaw16.FramesOnly', WHERE WHAT IT READS IS OF BULK AT MOST 1048576: true; the input reads as it did. -/
def framesOnlyUptoRow : OpenClaim := { program := "ytbmngkdnebklpaa", sum := "00c8c6634d079a5b560ac8906f19a54e7176c7efde9f92a25e6fcd714341fc46", func := "trestle/trestlelaw16.FramesOnly", spec := "framesOnly", inPlace := ["slices.overlaps[int]"], unfollowed := true, recurses := true, plainKeys := false, apart := false, narrowed := true }
def FramesOnlyUptoSaid : Prop := framesOnlyUptoRow.holds Try.pinned (OpenSpec.upto framesOnlySpec)

/-- 'trestlelaw16.FramesParts', WHERE WHAT IT READS IS OF BULK AT MOST 1048576: true; the input reads as it did. -/
def framesPartsUptoRow : OpenClaim := { program := "ytbmngkdnebklpaa", sum := "00c8c6634d079a5b560ac8906f19a54e7176c7efde9f92a25e6fcd714341fc46", func := "trestle/trestlelaw16.FramesParts", spec := "framesParts", inPlace := ["slices.overlaps[int]"], unfollowed := true, recurses := true, plainKeys := false, apart := false, narrowed := true }
def FramesPartsUptoSaid : Prop := framesPartsUptoRow.holds Try.pinned (OpenSpec.upto framesPartsSpec)

/-- 'trestlelaw16.FramesRuns', WHERE WHAT IT READS IS OF BULK AT MOST 1048576: true; the input reads as it did. -/
def framesRunsUptoRow : OpenClaim := { program := "ytbmngkdnebklpaa", sum := "00c8c6634d079a5b560ac8906f19a54e7176c7efde9f92a25e6fcd714341fc46", func := "trestle/trestlelaw16.FramesRuns", spec := "framesRuns", inPlace := ["slices.overlaps[int]"], unfollowed := true, recurses := true, plainKeys := false, apart := false, narrowed := true }
def FramesRunsUptoSaid : Prop := framesRunsUptoRow.holds Try.pinned (OpenSpec.upto framesRunsSpec)

end Rows
end Go.Proofs.Ytbmngkdnebklpaa
