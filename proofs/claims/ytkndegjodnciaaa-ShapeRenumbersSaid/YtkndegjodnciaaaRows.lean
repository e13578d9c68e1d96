/-
  No cell of these rows narrows 'for every input' (looked for: loops, veiled, ifaces, maps, wideKeys, modest, calm, conditions, laid).
  DERIVED. THE GIVEN ROWS OF THIS SEAT. 12 by the template 'for every input the law returns true; each argument reads behind the call as it read before'; 0 by the template 'total and deterministic' (their statements: YtkndegjodnciaaaTotals.lean).
  GIVEN WITH THE SEED: the statements are not yours to turn. If you find one false, say at which input.
  Laid BY PROGRAM, IN A SANDBOX (cutbox-rows.mjs): the forced cells as the released guide's own fill.sh prints them over the translation f0e2fba27c967dbd… (all of the seat's roots in one cut). By AI agents, Wed Nov 11 2026. No macro, syntax, notation, axiom, sorry.
-/
import Derived.Test.YtkndegjodnciaaaChecked
import GoSem.Claim
import GoSem.ClaimJoined
import GoSem.ClaimMapViews
import Derived.JoinedTies
import Derived.KernelRfl
namespace Go.Proofs.Ytkndegjodnciaaa
/- THE CELL 'sum', in the pinned program and in every row, IS THE sha256 OF THE DUMP (.gsa) THAT YtkndegjodnciaaaProg.lean LOADS. Nothing in Lean hashes anything: it is a label: what it is worth is what the hold of that sum in a sandbox is worth. -/
noncomputable def Try.pinned : Pinned := { name := "ytkndegjodnciaaa", sum := "f0e2fba27c967dbdd10ef02c19def23f4d3b9fdb5bf8977b9e916f509be6e7ae", checked := Try.checked }
namespace Rows
def none {H : Type} : Left H := { results := [], args := [] }

/-- 'trestlelaw09.HashPlays': WHATEVER THE INPUT: true; the input reads as it did. -/
def hashPlaysSpec : ChangeSpec := { name := "hashPlays", fn := fun _ => fun
  | [d1, d2] => { results := [.lit (.bool true)], args := [d1, d2] }
  | _ => none }
def hashPlaysRow : OpenClaim := { program := "ytkndegjodnciaaa", sum := "f0e2fba27c967dbdd10ef02c19def23f4d3b9fdb5bf8977b9e916f509be6e7ae", func := "trestle/trestlelaw09.HashPlays", spec := "hashPlays", plainKeys := false, apart := false }
def HashPlaysSaid : Prop := hashPlaysRow.holds Try.pinned (OpenSpec.ofChange hashPlaysSpec)

/-- ITS FALSE NEIGHBOUR: 'it returns false'. Refute it at one input. -/
def hashPlaysWrong : ChangeSpec := { name := "hashPlays", fn := fun _ => fun
  | [d1, d2] => { results := [.lit (.bool false)], args := [d1, d2] }
  | _ => none }
def HashPlaysWrongFalsely : Prop := hashPlaysRow.holds Try.pinned (OpenSpec.ofChange hashPlaysWrong)

/-- 'trestlelaw03.ShapeChecks': WHATEVER THE INPUT: true; the input reads as it did. -/
def shapeChecksSpec : ChangeSpec := { name := "shapeChecks", fn := fun _ => fun
  | [d] => { results := [.lit (.bool true)], args := [d] }
  | _ => none }
def shapeChecksRow : OpenClaim := { program := "ytkndegjodnciaaa", sum := "f0e2fba27c967dbdd10ef02c19def23f4d3b9fdb5bf8977b9e916f509be6e7ae", func := "trestle/trestlelaw03.ShapeChecks", spec := "shapeChecks", inPlace := ["slices.overlaps[int]"], unfollowed := true, recurses := true, plainKeys := false, apart := false }
def ShapeChecksSaid : Prop := shapeChecksRow.holds Try.pinned (OpenSpec.ofChange shapeChecksSpec)

/-- ITS FALSE NEIGHBOUR: 'it returns false'. Refute it at one input. -/
def shapeChecksWrong : ChangeSpec := { name := "shapeChecks", fn := fun _ => fun
  | [d] => { results := [.lit (.bool false)], args := [d] }
  | _ => none }
def ShapeChecksWrongFalsely : Prop := shapeChecksRow.holds Try.pinned (OpenSpec.ofChange shapeChecksWrong)

/-- 'trestlelaw03.ShapeOrders': WHATEVER THE INPUT: true; the input reads as it did. -/
def shapeOrdersSpec : ChangeSpec := { name := "shapeOrders", fn := fun _ => fun
  | [d] => { results := [.lit (.bool true)], args := [d] }
  | _ => none }
def shapeOrdersRow : OpenClaim := { program := "ytkndegjodnciaaa", sum := "f0e2fba27c967dbdd10ef02c19def23f4d3b9fdb5bf8977b9e916f509be6e7ae", func := "trestle/trestlelaw03.ShapeOrders", spec := "shapeOrders", inPlace := ["slices.overlaps[int]"], unfollowed := true, recurses := true, plainKeys := false, apart := false }
def ShapeOrdersSaid : Prop := shapeOrdersRow.holds Try.pinned (OpenSpec.ofChange shapeOrdersSpec)

/-- ITS FALSE NEIGHBOUR: 'it returns false'. Refute it at one input. -/
def shapeOrdersWrong : ChangeSpec := { name := "shapeOrders", fn := fun _ => fun
  | [d] => { results := [.lit (.bool false)], args := [d] }
  | _ => none }
def ShapeOrdersWrongFalsely : Prop := shapeOrdersRow.holds Try.pinned (OpenSpec.ofChange shapeOrdersWrong)

/-- 'trestlelaw03.ShapeCopies': WHATEVER THE INPUT: true; the input reads as it did. -/
def shapeCopiesSpec : ChangeSpec := { name := "shapeCopies", fn := fun _ => fun
  | [d1, d2] => { results := [.lit (.bool true)], args := [d1, d2] }
  | _ => none }
def shapeCopiesRow : OpenClaim := { program := "ytkndegjodnciaaa", sum := "f0e2fba27c967dbdd10ef02c19def23f4d3b9fdb5bf8977b9e916f509be6e7ae", func := "trestle/trestlelaw03.ShapeCopies", spec := "shapeCopies", inPlace := ["slices.overlaps[int]"], unfollowed := true, recurses := true, plainKeys := false, apart := false }
def ShapeCopiesSaid : Prop := shapeCopiesRow.holds Try.pinned (OpenSpec.ofChange shapeCopiesSpec)

/-- ITS FALSE NEIGHBOUR: 'it returns false'. Refute it at one input. -/
def shapeCopiesWrong : ChangeSpec := { name := "shapeCopies", fn := fun _ => fun
  | [d1, d2] => { results := [.lit (.bool false)], args := [d1, d2] }
  | _ => none }
def ShapeCopiesWrongFalsely : Prop := shapeCopiesRow.holds Try.pinned (OpenSpec.ofChange shapeCopiesWrong)

/-- 'trestlelaw03.ShapeRenumbers': WHATEVER THE INPUT: true; the input reads as it did. -/
def shapeRenumbersSpec : ChangeSpec := { name := "shapeRenumbers", fn := fun _ => fun
  | [d] => { results := [.lit (.bool true)], args := [d] }
  | _ => none }
def shapeRenumbersRow : OpenClaim := { program := "ytkndegjodnciaaa", sum := "f0e2fba27c967dbdd10ef02c19def23f4d3b9fdb5bf8977b9e916f509be6e7ae", func := "trestle/trestlelaw03.ShapeRenumbers", spec := "shapeRenumbers", inPlace := ["slices.overlaps[int]"], unfollowed := true, recurses := true, plainKeys := false, apart := false }
def ShapeRenumbersSaid : Prop := shapeRenumbersRow.holds Try.pinned (OpenSpec.ofChange shapeRenumbersSpec)

/-- ITS FALSE NEIGHBOUR: 'it returns false'. Refute it at one input. -/
def shapeRenumbersWrong : ChangeSpec := { name := "shapeRenumbers", fn := fun _ => fun
  | [d] => { results := [.lit (.bool false)], args := [d] }
  | _ => none }
def ShapeRenumbersWrongFalsely : Prop := shapeRenumbersRow.holds Try.pinned (OpenSpec.ofChange shapeRenumbersWrong)

/-- 'trestlelaw03.ShapeSettles': WHATEVER THE INPUT: true; the input reads as it did. -/
def shapeSettlesSpec : ChangeSpec := { name := "shapeSettles", fn := fun _ => fun
  | [d] => { results := [.lit (.bool true)], args := [d] }
  | _ => none }
def shapeSettlesRow : OpenClaim := { program := "ytkndegjodnciaaa", sum := "f0e2fba27c967dbdd10ef02c19def23f4d3b9fdb5bf8977b9e916f509be6e7ae", func := "trestle/trestlelaw03.ShapeSettles", spec := "shapeSettles", inPlace := ["slices.overlaps[int]"], unfollowed := true, recurses := true, plainKeys := false, apart := false }
def ShapeSettlesSaid : Prop := shapeSettlesRow.holds Try.pinned (OpenSpec.ofChange shapeSettlesSpec)

/-- ITS FALSE NEIGHBOUR: 'it returns false'. Refute it at one input. -/
def shapeSettlesWrong : ChangeSpec := { name := "shapeSettles", fn := fun _ => fun
  | [d] => { results := [.lit (.bool false)], args := [d] }
  | _ => none }
def ShapeSettlesWrongFalsely : Prop := shapeSettlesRow.holds Try.pinned (OpenSpec.ofChange shapeSettlesWrong)

/-- 'trestlelaw07.SimRuns': WHATEVER THE INPUT: true; the input reads as it did. -/
def simRunsSpec : ChangeSpec := { name := "simRuns", fn := fun _ => fun
  | [d1, d2] => { results := [.lit (.bool true)], args := [d1, d2] }
  | _ => none }
def simRunsRow : OpenClaim := { program := "ytkndegjodnciaaa", sum := "f0e2fba27c967dbdd10ef02c19def23f4d3b9fdb5bf8977b9e916f509be6e7ae", func := "trestle/trestlelaw07.SimRuns", spec := "simRuns", inPlace := ["slices.overlaps[int]"], unfollowed := true, recurses := true, plainKeys := false, apart := false }
def SimRunsSaid : Prop := simRunsRow.holds Try.pinned (OpenSpec.ofChange simRunsSpec)

/-- ITS FALSE NEIGHBOUR: 'it returns false'. Refute it at one input. -/
def simRunsWrong : ChangeSpec := { name := "simRuns", fn := fun _ => fun
  | [d1, d2] => { results := [.lit (.bool false)], args := [d1, d2] }
  | _ => none }
def SimRunsWrongFalsely : Prop := simRunsRow.holds Try.pinned (OpenSpec.ofChange simRunsWrong)

/-- 'trestlelaw07.SimGoesOn': WHATEVER THE INPUT: true; the input reads as it did. -/
def simGoesOnSpec : ChangeSpec := { name := "simGoesOn", fn := fun _ => fun
  | [d1, d2, d3] => { results := [.lit (.bool true)], args := [d1, d2, d3] }
  | _ => none }
def simGoesOnRow : OpenClaim := { program := "ytkndegjodnciaaa", sum := "f0e2fba27c967dbdd10ef02c19def23f4d3b9fdb5bf8977b9e916f509be6e7ae", func := "trestle/trestlelaw07.SimGoesOn", spec := "simGoesOn", inPlace := ["slices.overlaps[int]"], unfollowed := true, recurses := true, plainKeys := false, apart := false }
def SimGoesOnSaid : Prop := simGoesOnRow.holds Try.pinned (OpenSpec.ofChange simGoesOnSpec)

/-- ITS FALSE NEIGHBOUR: 'it returns false'. Refute it at one input. -/
def simGoesOnWrong : ChangeSpec := { name := "simGoesOn", fn := fun _ => fun
  | [d1, d2, d3] => { results := [.lit (.bool false)], args := [d1, d2, d3] }
  | _ => none }
def SimGoesOnWrongFalsely : Prop := simGoesOnRow.holds Try.pinned (OpenSpec.ofChange simGoesOnWrong)

/-- 'trestlelaw07.SimStarts': WHATEVER THE INPUT: true; the input reads as it did. -/
def simStartsSpec : ChangeSpec := { name := "simStarts", fn := fun _ => fun
  | [d1, d2] => { results := [.lit (.bool true)], args := [d1, d2] }
  | _ => none }
def simStartsRow : OpenClaim := { program := "ytkndegjodnciaaa", sum := "f0e2fba27c967dbdd10ef02c19def23f4d3b9fdb5bf8977b9e916f509be6e7ae", func := "trestle/trestlelaw07.SimStarts", spec := "simStarts", inPlace := ["slices.overlaps[int]"], unfollowed := true, recurses := true, plainKeys := false, apart := false }
def SimStartsSaid : Prop := simStartsRow.holds Try.pinned (OpenSpec.ofChange simStartsSpec)

/-- ITS FALSE NEIGHBOUR: 'it returns false'. Refute it at one input. -/
def simStartsWrong : ChangeSpec := { name := "simStarts", fn := fun _ => fun
  | [d1, d2] => { results := [.lit (.bool false)], args := [d1, d2] }
  | _ => none }
def SimStartsWrongFalsely : Prop := simStartsRow.holds Try.pinned (OpenSpec.ofChange simStartsWrong)

/-- 'trestlelaw07.SimSteps': WHATEVER THE INPUT: true; the input reads as it did. -/
def simStepsSpec : ChangeSpec := { name := "simSteps", fn := fun _ => fun
  | [d1, d2, d3] => { results := [.lit (.bool true)], args := [d1, d2, d3] }
  | _ => none }
def simStepsRow : OpenClaim := { program := "ytkndegjodnciaaa", sum := "f0e2fba27c967dbdd10ef02c19def23f4d3b9fdb5bf8977b9e916f509be6e7ae", func := "trestle/trestlelaw07.SimSteps", spec := "simSteps", inPlace := ["slices.overlaps[int]"], unfollowed := true, recurses := true, plainKeys := false, apart := false }
def SimStepsSaid : Prop := simStepsRow.holds Try.pinned (OpenSpec.ofChange simStepsSpec)

/-- ITS FALSE NEIGHBOUR: 'it returns false'. Refute it at one input. -/
def simStepsWrong : ChangeSpec := { name := "simSteps", fn := fun _ => fun
  | [d1, d2, d3] => { results := [.lit (.bool false)], args := [d1, d2, d3] }
  | _ => none }
def SimStepsWrongFalsely : Prop := simStepsRow.holds Try.pinned (OpenSpec.ofChange simStepsWrong)

/-- 'trestlelaw07.SimGates': WHATEVER THE INPUT: true; the input reads as it did. -/
def simGatesSpec : ChangeSpec := { name := "simGates", fn := fun _ => fun
  | [d1, d2, d3] => { results := [.lit (.bool true)], args := [d1, d2, d3] }
  | _ => none }
def simGatesRow : OpenClaim := { program := "ytkndegjodnciaaa", sum := "f0e2fba27c967dbdd10ef02c19def23f4d3b9fdb5bf8977b9e916f509be6e7ae", func := "trestle/trestlelaw07.SimGates", spec := "simGates", inPlace := ["slices.overlaps[int]"], unfollowed := true, recurses := true, plainKeys := false, apart := false }
def SimGatesSaid : Prop := simGatesRow.holds Try.pinned (OpenSpec.ofChange simGatesSpec)

/-- ITS FALSE NEIGHBOUR: 'it returns false'. Refute it at one input. -/
def simGatesWrong : ChangeSpec := { name := "simGates", fn := fun _ => fun
  | [d1, d2, d3] => { results := [.lit (.bool false)], args := [d1, d2, d3] }
  | _ => none }
def SimGatesWrongFalsely : Prop := simGatesRow.holds Try.pinned (OpenSpec.ofChange simGatesWrong)

/-- 'trestlelaw07.SimNumbers': WHATEVER THE INPUT: true; the input reads as it did. -/
def simNumbersSpec : ChangeSpec := { name := "simNumbers", fn := fun _ => fun
  | [d1, d2] => { results := [.lit (.bool true)], args := [d1, d2] }
  | _ => none }
def simNumbersRow : OpenClaim := { program := "ytkndegjodnciaaa", sum := "f0e2fba27c967dbdd10ef02c19def23f4d3b9fdb5bf8977b9e916f509be6e7ae", func := "trestle/trestlelaw07.SimNumbers", spec := "simNumbers", inPlace := ["slices.overlaps[int]"], unfollowed := true, recurses := true, plainKeys := false, apart := false }
def SimNumbersSaid : Prop := simNumbersRow.holds Try.pinned (OpenSpec.ofChange simNumbersSpec)

/-- ITS FALSE NEIGHBOUR: 'it returns false'. Refute it at one input. -/
def simNumbersWrong : ChangeSpec := { name := "simNumbers", fn := fun _ => fun
  | [d1, d2] => { results := [.lit (.bool false)], args := [d1, d2] }
  | _ => none }
def SimNumbersWrongFalsely : Prop := simNumbersRow.holds Try.pinned (OpenSpec.ofChange simNumbersWrong)

/- THE SECOND FORM. 'bulk': how many values and letters a reading holds, each counted each time it is reached (what is shared counts as often as it is met; a slice's spare places count too). A statement '..UptoSaid' is the law's where the arguments, and the package variables that the reading takes, are together of bulk at most 1048576: NARROWER than '..Said'. Prove '..Said' where nothing that the law and all that it calls make is longer than what came in: it says more and counts as full. Else prove '..UptoSaid'. A law counts once. -/
mutual
def uptoBulk {H : Type} : DataW H → Nat
  | .lit (.string bytes) => bytes.length + 1
  | .lit _ => 1
  | .nil => 1
  | .ptr d => uptoBulk d + 1
  | .slice elems spare => uptoBulkAll elems + uptoBulkAll spare + 1
  | .agg parts => uptoBulkAll parts + 1
  | .iface _ d => uptoBulk d + 1
  | .map entries => uptoBulkEntries entries + 1
  | .held _ => 1
def uptoBulkAll {H : Type} : List (DataW H) → Nat
  | [] => 0
  | d :: r => uptoBulk d + uptoBulkAll r
def uptoBulkEntries {H : Type} : List (Lit × DataW H) → Nat
  | [] => 0
  | x :: r => uptoBulkEntry x + uptoBulkEntries r
def uptoBulkEntry {H : Type} : Lit × DataW H → Nat
  | (.string bytes, d) => bytes.length + uptoBulk d + 1
  | (_, d) => uptoBulk d + 1
 end
def uptoSmall : (H : Type) → List (DataW H) → Bool := fun _ ds => decide (uptoBulkAll ds ≤ 1048576)
def OpenSpec.upto (s : _root_.Go.ChangeSpec) : _root_.Go.OpenSpec := { _root_.Go.OpenSpec.ofChange s with cond := some uptoSmall }

/-- 'trestlelaw09.HashPlays', WHERE WHAT IT READS IS OF BULK AT MOST 1048576: true; the input reads as it did. -/
def hashPlaysUptoRow : OpenClaim := { program := "ytkndegjodnciaaa", sum := "f0e2fba27c967dbdd10ef02c19def23f4d3b9fdb5bf8977b9e916f509be6e7ae", func := "trestle/trestlelaw09.HashPlays", spec := "hashPlays", plainKeys := false, apart := false, narrowed := true }
def HashPlaysUptoSaid : Prop := hashPlaysUptoRow.holds Try.pinned (OpenSpec.upto hashPlaysSpec)

/-- 'trestlelaw03.ShapeChecks', WHERE WHAT IT READS IS OF BULK AT MOST 1048576: true; the input reads as it did. -/
def shapeChecksUptoRow : OpenClaim := { program := "ytkndegjodnciaaa", sum := "f0e2fba27c967dbdd10ef02c19def23f4d3b9fdb5bf8977b9e916f509be6e7ae", func := "trestle/trestlelaw03.ShapeChecks", spec := "shapeChecks", inPlace := ["slices.overlaps[int]"], unfollowed := true, recurses := true, plainKeys := false, apart := false, narrowed := true }
def ShapeChecksUptoSaid : Prop := shapeChecksUptoRow.holds Try.pinned (OpenSpec.upto shapeChecksSpec)

/-- 'trestlelaw03.ShapeOrders', WHERE WHAT IT READS IS OF BULK AT MOST 1048576: true; the input reads as it did. -/
def shapeOrdersUptoRow : OpenClaim := { program := "ytkndegjodnciaaa", sum := "f0e2fba27c967dbdd10ef02c19def23f4d3b9fdb5bf8977b9e916f509be6e7ae", func := "trestle/trestlelaw03.ShapeOrders", spec := "shapeOrders", inPlace := ["slices.overlaps[int]"], unfollowed := true, recurses := true, plainKeys := false, apart := false, narrowed := true }
def ShapeOrdersUptoSaid : Prop := shapeOrdersUptoRow.holds Try.pinned (OpenSpec.upto shapeOrdersSpec)

/-- 'trestlelaw03.ShapeCopies', WHERE WHAT IT READS IS OF BULK AT MOST 1048576: true; the input reads as it did. -/
def shapeCopiesUptoRow : OpenClaim := { program := "ytkndegjodnciaaa", sum := "f0e2fba27c967dbdd10ef02c19def23f4d3b9fdb5bf8977b9e916f509be6e7ae", func := "trestle/trestlelaw03.ShapeCopies", spec := "shapeCopies", inPlace := ["slices.overlaps[int]"], unfollowed := true, recurses := true, plainKeys := false, apart := false, narrowed := true }
def ShapeCopiesUptoSaid : Prop := shapeCopiesUptoRow.holds Try.pinned (OpenSpec.upto shapeCopiesSpec)

/-- 'trestlelaw03.ShapeRenumbers', WHERE WHAT IT READS IS OF BULK AT MOST 1048576: true; the input reads as it did. -/
def shapeRenumbersUptoRow : OpenClaim := { program := "ytkndegjodnciaaa", sum := "f0e2fba27c967dbdd10ef02c19def23f4d3b9fdb5bf8977b9e916f509be6e7ae", func := "trestle/trestlelaw03.ShapeRenumbers", spec := "shapeRenumbers", inPlace := ["slices.overlaps[int]"], unfollowed := true, recurses := true, plainKeys := false, apart := false, narrowed := true }
def ShapeRenumbersUptoSaid : Prop := shapeRenumbersUptoRow.holds Try.pinned (OpenSpec.upto shapeRenumbersSpec)

/-- 'trestlelaw03.ShapeSettles', WHERE WHAT IT READS IS OF BULK AT MOST 1048576: true; the input reads as it did. -/
def shapeSettlesUptoRow : OpenClaim := { program := "ytkndegjodnciaaa", sum := "f0e2fba27c967dbdd10ef02c19def23f4d3b9fdb5bf8977b9e916f509be6e7ae", func := "trestle/trestlelaw03.ShapeSettles", spec := "shapeSettles", inPlace := ["slices.overlaps[int]"], unfollowed := true, recurses := true, plainKeys := false, apart := false, narrowed := true }
def ShapeSettlesUptoSaid : Prop := shapeSettlesUptoRow.holds Try.pinned (OpenSpec.upto shapeSettlesSpec)

/-- 'trestlelaw07.SimRuns', WHERE WHAT IT READS IS OF BULK AT MOST 1048576: true; the input reads as it did. -/
def simRunsUptoRow : OpenClaim := { program := "ytkndegjodnciaaa", sum := "f0e2fba27c967dbdd10ef02c19def23f4d3b9fdb5bf8977b9e916f509be6e7ae", func := "trestle/trestlelaw07.SimRuns", spec := "simRuns", inPlace := ["slices.overlaps[int]"], unfollowed := true, recurses := true, plainKeys := false, apart := false, narrowed := true }
def SimRunsUptoSaid : Prop := simRunsUptoRow.holds Try.pinned (OpenSpec.upto simRunsSpec)

/-- 'trestlelaw07.SimGoesOn', WHERE WHAT IT READS IS OF BULK AT MOST 1048576: true; the input reads as it did. -/
def simGoesOnUptoRow : OpenClaim := { program := "ytkndegjodnciaaa", sum := "f0e2fba27c967dbdd10ef02c19def23f4d3b9fdb5bf8977b9e916f509be6e7ae", func := "trestle/trestlelaw07.SimGoesOn", spec := "simGoesOn", inPlace := ["slices.overlaps[int]"], unfollowed := true, recurses := true, plainKeys := false, apart := false, narrowed := true }
def SimGoesOnUptoSaid : Prop := simGoesOnUptoRow.holds Try.pinned (OpenSpec.upto simGoesOnSpec)

/-- 'trestlelaw07.SimStarts', WHERE WHAT IT READS IS OF BULK AT MOST 1048576: true; the input reads as it did. -/
def simStartsUptoRow : OpenClaim := { program := "ytkndegjodnciaaa", sum := "f0e2fba27c967dbdd10ef02c19def23f4d3b9fdb5bf8977b9e916f509be6e7ae", func := "trestle/trestlelaw07.SimStarts", spec := "simStarts", inPlace := ["slices.overlaps[int]"], unfollowed := true, recurses := true, plainKeys := false, apart := false, narrowed := true }
def SimStartsUptoSaid : Prop := simStartsUptoRow.holds Try.pinned (OpenSpec.upto simStartsSpec)

/-- 'trestlelaw07.SimSteps', WHERE WHAT IT READS IS OF BULK AT MOST 1048576: true; the input reads as it did. -/
def simStepsUptoRow : OpenClaim := { program := "ytkndegjodnciaaa", sum := "f0e2fba27c967dbdd10ef02c19def23f4d3b9fdb5bf8977b9e916f509be6e7ae", func := "trestle/trestlelaw07.SimSteps", spec := "simSteps", inPlace := ["slices.overlaps[int]"], unfollowed := true, recurses := true, plainKeys := false, apart := false, narrowed := true }
def SimStepsUptoSaid : Prop := simStepsUptoRow.holds Try.pinned (OpenSpec.upto simStepsSpec)

/-- 'trestlelaw07.SimGates', WHERE WHAT IT READS IS OF BULK AT MOST 1048576: true; the input reads as it did. -/
def simGatesUptoRow : OpenClaim := { program := "ytkndegjodnciaaa", sum := "f0e2fba27c967dbdd10ef02c19def23f4d3b9fdb5bf8977b9e916f509be6e7ae", func := "trestle/trestlelaw07.SimGates", spec := "simGates", inPlace := ["slices.overlaps[int]"], unfollowed := true, recurses := true, plainKeys := false, apart := false, narrowed := true }
def SimGatesUptoSaid : Prop := simGatesUptoRow.holds Try.pinned (OpenSpec.upto simGatesSpec)

/-- 'trestlelaw07.SimNumbers', WHERE WHAT IT READS IS OF BULK AT MOST 1048576: true; the input reads as it did. -/
def simNumbersUptoRow : OpenClaim := { program := "ytkndegjodnciaaa", sum := "f0e2fba27c967dbdd10ef02c19def23f4d3b9fdb5bf8977b9e916f509be6e7ae", func := "trestle/trestlelaw07.SimNumbers", spec := "simNumbers", inPlace := ["slices.overlaps[int]"], unfollowed := true, recurses := true, plainKeys := false, apart := false, narrowed := true }
def SimNumbersUptoSaid : Prop := simNumbersUptoRow.holds Try.pinned (OpenSpec.upto simNumbersSpec)

end Rows
end Go.Proofs.Ytkndegjodnciaaa
