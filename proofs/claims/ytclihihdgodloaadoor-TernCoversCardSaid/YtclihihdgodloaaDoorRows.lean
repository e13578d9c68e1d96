/-
  NARROWER THAN 'FOR EVERY INPUT', by the rows' own cells (each row's printed sentence says how): TernLifts: laid · TernSettles: laid · TernSteps: laid · TernMost: laid · TernRows: laid · TernCovers: laid · TernReaches: laid.
  DERIVED. THE GIVEN ROWS OF THIS SEAT. 7 by the template 'for every input the law returns true; each argument reads behind the call as it read before'; 0 by the template 'total and deterministic' (their statements: YtclihihdgodloaaDoorTotals.lean).
  GIVEN WITH THE SEED: the statements are not yours to turn. If you find one false, say at which input.
  Laid BY PROGRAM, IN A SANDBOX (cutbox-rows.mjs): the forced cells as the released guide's own fill.sh prints them over the translation a0d8dc809c781ee0… (all of the seat's roots in one cut). By AI agents, Wed Nov 11 2026. No macro, syntax, notation, axiom, sorry.
-/
import Derived.Test.YtclihihdgodloaaDoorChecked
import GoSem.Claim
import GoSem.ClaimJoined
import GoSem.ClaimMapViews
import Derived.JoinedTies
import Derived.KernelRfl
namespace Go.Proofs.YtclihihdgodloaaDoor
/- THE CELL 'sum', in the pinned program and in every row, IS THE sha256 OF THE DUMP (.gsa) THAT YtclihihdgodloaaDoorProg.lean LOADS. Nothing in Lean hashes anything: it is a label: what it is worth is what the hold of that sum in a sandbox is worth. -/
noncomputable def Tryd.pinned : Pinned := { name := "ytclihihdgodloaadoor", sum := "a0d8dc809c781ee05a65c3b3c6a658d1503fed8274f47428a0269ad466435f2b", checked := Tryd.checked }
namespace Rows
def none {H : Type} : Left H := { results := [], args := [] }

/- WHAT THE LISTED PACKAGE-LEVEL VARIABLES READ AS WHEN THE CALL BEGINS. Each datum BY PROGRAM (the guide's laid-datum.mjs) off the statement by which the dump's own 'gosem.cut.vars' lays the variable. In a bare row this is a premise. The card (YtclihihdgodloaaDoorCards.lean) ties it to the program's text. -/
def laid_trestle_tern_both {H : Type} : DataW H := .agg [.agg [.lit (.int .i64 0), .lit (.int .i64 0), .lit (.int .i64 0)], .agg [.lit (.int .i64 0), .lit (.int .i64 1), .lit (.int .i64 2)], .agg [.lit (.int .i64 0), .lit (.int .i64 2), .lit (.int .i64 2)]]
def laid_trestle_tern_contrary {H : Type} : DataW H := .agg [.lit (.int .i64 1), .lit (.int .i64 0), .lit (.int .i64 2)]

/-- 'trestlelaw08.TernLifts': WHATEVER THE INPUT: true; the input reads as it did. -/
def ternLiftsSpec : ChangeSpec := { name := "ternLifts", fn := fun _ => fun
  | [d1, d2] => { results := [.lit (.bool true)], args := [d1, d2] }
  | _ => none }
def ternLiftsRow : OpenClaim := { program := "ytclihihdgodloaadoor", sum := "a0d8dc809c781ee05a65c3b3c6a658d1503fed8274f47428a0269ad466435f2b", func := "trestle/trestlelaw08.TernLifts", spec := "ternLifts", inPlace := ["slices.overlaps[int]"], unfollowed := true, recurses := true, named := ["trestle/tern.both", "trestle/tern.contrary"], plainKeys := false, apart := false, laid := [("trestle/tern.both", laid_trestle_tern_both), ("trestle/tern.contrary", laid_trestle_tern_contrary)] }
def TernLiftsSaid : Prop := ternLiftsRow.holds Tryd.pinned (OpenSpec.ofChange ternLiftsSpec)

/-- ITS FALSE NEIGHBOUR: 'it returns false'. Refute it at one input. -/
def ternLiftsWrong : ChangeSpec := { name := "ternLifts", fn := fun _ => fun
  | [d1, d2] => { results := [.lit (.bool false)], args := [d1, d2] }
  | _ => none }
def TernLiftsWrongFalsely : Prop := ternLiftsRow.holds Tryd.pinned (OpenSpec.ofChange ternLiftsWrong)

/-- 'trestlelaw08.TernSettles': WHATEVER THE INPUT: true; the input reads as it did. -/
def ternSettlesSpec : ChangeSpec := { name := "ternSettles", fn := fun _ => fun
  | [d] => { results := [.lit (.bool true)], args := [d] }
  | _ => none }
def ternSettlesRow : OpenClaim := { program := "ytclihihdgodloaadoor", sum := "a0d8dc809c781ee05a65c3b3c6a658d1503fed8274f47428a0269ad466435f2b", func := "trestle/trestlelaw08.TernSettles", spec := "ternSettles", inPlace := ["slices.overlaps[int]"], unfollowed := true, recurses := true, named := ["trestle/tern.both", "trestle/tern.contrary"], plainKeys := false, apart := false, laid := [("trestle/tern.both", laid_trestle_tern_both), ("trestle/tern.contrary", laid_trestle_tern_contrary)] }
def TernSettlesSaid : Prop := ternSettlesRow.holds Tryd.pinned (OpenSpec.ofChange ternSettlesSpec)

/-- ITS FALSE NEIGHBOUR: 'it returns false'. Refute it at one input. -/
def ternSettlesWrong : ChangeSpec := { name := "ternSettles", fn := fun _ => fun
  | [d] => { results := [.lit (.bool false)], args := [d] }
  | _ => none }
def TernSettlesWrongFalsely : Prop := ternSettlesRow.holds Tryd.pinned (OpenSpec.ofChange ternSettlesWrong)

/-- 'trestlelaw08.TernSteps': WHATEVER THE INPUT: true; the input reads as it did. -/
def ternStepsSpec : ChangeSpec := { name := "ternSteps", fn := fun _ => fun
  | [d1, d2, d3] => { results := [.lit (.bool true)], args := [d1, d2, d3] }
  | _ => none }
def ternStepsRow : OpenClaim := { program := "ytclihihdgodloaadoor", sum := "a0d8dc809c781ee05a65c3b3c6a658d1503fed8274f47428a0269ad466435f2b", func := "trestle/trestlelaw08.TernSteps", spec := "ternSteps", inPlace := ["slices.overlaps[int]"], unfollowed := true, recurses := true, named := ["trestle/tern.both", "trestle/tern.contrary"], plainKeys := false, apart := false, laid := [("trestle/tern.both", laid_trestle_tern_both), ("trestle/tern.contrary", laid_trestle_tern_contrary)] }
def TernStepsSaid : Prop := ternStepsRow.holds Tryd.pinned (OpenSpec.ofChange ternStepsSpec)

/-- ITS FALSE NEIGHBOUR: 'it returns false'. Refute it at one input. -/
def ternStepsWrong : ChangeSpec := { name := "ternSteps", fn := fun _ => fun
  | [d1, d2, d3] => { results := [.lit (.bool false)], args := [d1, d2, d3] }
  | _ => none }
def TernStepsWrongFalsely : Prop := ternStepsRow.holds Tryd.pinned (OpenSpec.ofChange ternStepsWrong)

/-- 'trestlelaw08.TernMost': WHATEVER THE INPUT: true; the input reads as it did. -/
def ternMostSpec : ChangeSpec := { name := "ternMost", fn := fun _ => fun
  | [d1, d2] => { results := [.lit (.bool true)], args := [d1, d2] }
  | _ => none }
def ternMostRow : OpenClaim := { program := "ytclihihdgodloaadoor", sum := "a0d8dc809c781ee05a65c3b3c6a658d1503fed8274f47428a0269ad466435f2b", func := "trestle/trestlelaw08.TernMost", spec := "ternMost", inPlace := ["slices.overlaps[int]"], unfollowed := true, recurses := true, named := ["trestle/tern.both", "trestle/tern.contrary"], plainKeys := false, apart := false, laid := [("trestle/tern.both", laid_trestle_tern_both), ("trestle/tern.contrary", laid_trestle_tern_contrary)] }
def TernMostSaid : Prop := ternMostRow.holds Tryd.pinned (OpenSpec.ofChange ternMostSpec)

/-- ITS FALSE NEIGHBOUR: 'it returns false'. Refute it at one input. -/
def ternMostWrong : ChangeSpec := { name := "ternMost", fn := fun _ => fun
  | [d1, d2] => { results := [.lit (.bool false)], args := [d1, d2] }
  | _ => none }
def TernMostWrongFalsely : Prop := ternMostRow.holds Tryd.pinned (OpenSpec.ofChange ternMostWrong)

/-- 'trestlelaw08.TernRows': WHATEVER THE INPUT: true; the input reads as it did. -/
def ternRowsSpec : ChangeSpec := { name := "ternRows", fn := fun _ => fun
  | [d1, d2, d3] => { results := [.lit (.bool true)], args := [d1, d2, d3] }
  | _ => none }
def ternRowsRow : OpenClaim := { program := "ytclihihdgodloaadoor", sum := "a0d8dc809c781ee05a65c3b3c6a658d1503fed8274f47428a0269ad466435f2b", func := "trestle/trestlelaw08.TernRows", spec := "ternRows", inPlace := ["slices.overlaps[int]"], unfollowed := true, recurses := true, named := ["trestle/tern.contrary", "trestle/tern.both"], plainKeys := false, apart := false, laid := [("trestle/tern.both", laid_trestle_tern_both), ("trestle/tern.contrary", laid_trestle_tern_contrary)] }
def TernRowsSaid : Prop := ternRowsRow.holds Tryd.pinned (OpenSpec.ofChange ternRowsSpec)

/-- ITS FALSE NEIGHBOUR: 'it returns false'. Refute it at one input. -/
def ternRowsWrong : ChangeSpec := { name := "ternRows", fn := fun _ => fun
  | [d1, d2, d3] => { results := [.lit (.bool false)], args := [d1, d2, d3] }
  | _ => none }
def TernRowsWrongFalsely : Prop := ternRowsRow.holds Tryd.pinned (OpenSpec.ofChange ternRowsWrong)

/-- 'trestlelaw08.TernCovers': WHATEVER THE INPUT: true; the input reads as it did. -/
def ternCoversSpec : ChangeSpec := { name := "ternCovers", fn := fun _ => fun
  | [d1, d2, d3] => { results := [.lit (.bool true)], args := [d1, d2, d3] }
  | _ => none }
def ternCoversRow : OpenClaim := { program := "ytclihihdgodloaadoor", sum := "a0d8dc809c781ee05a65c3b3c6a658d1503fed8274f47428a0269ad466435f2b", func := "trestle/trestlelaw08.TernCovers", spec := "ternCovers", inPlace := ["slices.overlaps[int]"], unfollowed := true, recurses := true, named := ["trestle/tern.both", "trestle/tern.contrary"], plainKeys := false, apart := false, laid := [("trestle/tern.both", laid_trestle_tern_both), ("trestle/tern.contrary", laid_trestle_tern_contrary)] }
def TernCoversSaid : Prop := ternCoversRow.holds Tryd.pinned (OpenSpec.ofChange ternCoversSpec)

/-- ITS FALSE NEIGHBOUR: 'it returns false'. Refute it at one input. -/
def ternCoversWrong : ChangeSpec := { name := "ternCovers", fn := fun _ => fun
  | [d1, d2, d3] => { results := [.lit (.bool false)], args := [d1, d2, d3] }
  | _ => none }
def TernCoversWrongFalsely : Prop := ternCoversRow.holds Tryd.pinned (OpenSpec.ofChange ternCoversWrong)

/-- 'trestlelaw08.TernReaches': WHATEVER THE INPUT: true; the input reads as it did. -/
def ternReachesSpec : ChangeSpec := { name := "ternReaches", fn := fun _ => fun
  | [d1, d2] => { results := [.lit (.bool true)], args := [d1, d2] }
  | _ => none }
def ternReachesRow : OpenClaim := { program := "ytclihihdgodloaadoor", sum := "a0d8dc809c781ee05a65c3b3c6a658d1503fed8274f47428a0269ad466435f2b", func := "trestle/trestlelaw08.TernReaches", spec := "ternReaches", inPlace := ["slices.overlaps[int]"], unfollowed := true, recurses := true, named := ["trestle/tern.both", "trestle/tern.contrary"], plainKeys := false, apart := false, laid := [("trestle/tern.both", laid_trestle_tern_both), ("trestle/tern.contrary", laid_trestle_tern_contrary)] }
def TernReachesSaid : Prop := ternReachesRow.holds Tryd.pinned (OpenSpec.ofChange ternReachesSpec)

/-- ITS FALSE NEIGHBOUR: 'it returns false'. Refute it at one input. -/
def ternReachesWrong : ChangeSpec := { name := "ternReaches", fn := fun _ => fun
  | [d1, d2] => { results := [.lit (.bool false)], args := [d1, d2] }
  | _ => none }
def TernReachesWrongFalsely : Prop := ternReachesRow.holds Tryd.pinned (OpenSpec.ofChange ternReachesWrong)

/- THE SECOND FORM. 'bulk': how many values and letters a reading holds, each counted each time it is reached (what is shared counts as often as it is met; a slice's spare places count too). A statement '..UptoSaid' is the law's where the arguments, and the package variables that the reading takes, are together of bulk at most 1048576: NARROWER than '..Said'. Prove '..Said' where nothing that the law and all that it calls make is longer than what came in: it says more and counts as full. Else prove '..UptoSaid'. A law counts once. -/
mutual
def uptoBulk {H : Type} : DataW H → Nat
  | .lit (.string bytes) => bytes.length + 1
  | .lit _ => 1
  | .nil => 1
  | .ptr d => uptoBulk d + 1
  | .slice elems spare => uptoBulkAll elems + uptoBulkAll spare + 1
  | .agg parts => uptoBulkAll parts + 1
  | .iface _ d => uptoBulk d + 1
  | .map entries => uptoBulkEntries entries + 1
  | .held _ => 1
def uptoBulkAll {H : Type} : List (DataW H) → Nat
  | [] => 0
  | d :: r => uptoBulk d + uptoBulkAll r
def uptoBulkEntries {H : Type} : List (Lit × DataW H) → Nat
  | [] => 0
  | x :: r => uptoBulkEntry x + uptoBulkEntries r
def uptoBulkEntry {H : Type} : Lit × DataW H → Nat
  | (.string bytes, d) => bytes.length + uptoBulk d + 1
  | (_, d) => uptoBulk d + 1
 end
def uptoSmall : (H : Type) → List (DataW H) → Bool := fun _ ds => decide (uptoBulkAll ds ≤ 1048576)
def OpenSpec.upto (s : _root_.Go.ChangeSpec) : _root_.Go.OpenSpec := { _root_.Go.OpenSpec.ofChange s with cond := some uptoSmall }

/-- 'trestlelaw08.TernLifts', WHERE WHAT IT READS IS OF BULK AT MOST 1048576: true; the input reads as it did. -/
def ternLiftsUptoRow : OpenClaim := { program := "ytclihihdgodloaadoor", sum := "a0d8dc809c781ee05a65c3b3c6a658d1503fed8274f47428a0269ad466435f2b", func := "trestle/trestlelaw08.TernLifts", spec := "ternLifts", inPlace := ["slices.overlaps[int]"], unfollowed := true, recurses := true, named := ["trestle/tern.both", "trestle/tern.contrary"], plainKeys := false, apart := false, laid := [("trestle/tern.both", laid_trestle_tern_both), ("trestle/tern.contrary", laid_trestle_tern_contrary)], narrowed := true }
def TernLiftsUptoSaid : Prop := ternLiftsUptoRow.holds Tryd.pinned (OpenSpec.upto ternLiftsSpec)

/-- 'trestlelaw08.TernSettles', WHERE WHAT IT READS IS OF BULK AT MOST 1048576: true; the input reads as it did. -/
def ternSettlesUptoRow : OpenClaim := { program := "ytclihihdgodloaadoor", sum := "a0d8dc809c781ee05a65c3b3c6a658d1503fed8274f47428a0269ad466435f2b", func := "trestle/trestlelaw08.TernSettles", spec := "ternSettles", inPlace := ["slices.overlaps[int]"], unfollowed := true, recurses := true, named := ["trestle/tern.both", "trestle/tern.contrary"], plainKeys := false, apart := false, laid := [("trestle/tern.both", laid_trestle_tern_both), ("trestle/tern.contrary", laid_trestle_tern_contrary)], narrowed := true }
def TernSettlesUptoSaid : Prop := ternSettlesUptoRow.holds Tryd.pinned (OpenSpec.upto ternSettlesSpec)

/-- 'trestlelaw08.TernSteps', WHERE WHAT IT READS IS OF BULK AT MOST 1048576: true; the input reads as it did. -/
def ternStepsUptoRow : OpenClaim := { program := "ytclihihdgodloaadoor", sum := "a0d8dc809c781ee05a65c3b3c6a658d1503fed8274f47428a0269ad466435f2b", func := "trestle/trestlelaw08.TernSteps", spec := "ternSteps", inPlace := ["slices.overlaps[int]"], unfollowed := true, recurses := true, named := ["trestle/tern.both", "trestle/tern.contrary"], plainKeys := false, apart := false, laid := [("trestle/tern.both", laid_trestle_tern_both), ("trestle/tern.contrary", laid_trestle_tern_contrary)], narrowed := true }
def TernStepsUptoSaid : Prop := ternStepsUptoRow.holds Tryd.pinned (OpenSpec.upto ternStepsSpec)

/-- 'trestlelaw08.TernMost', WHERE WHAT IT READS IS OF BULK AT MOST 1048576: true; the input reads as it did. -/
def ternMostUptoRow : OpenClaim := { program := "ytclihihdgodloaadoor", sum := "a0d8dc809c781ee05a65c3b3c6a658d1503fed8274f47428a0269ad466435f2b", func := "trestle/trestlelaw08.TernMost", spec := "ternMost", inPlace := ["slices.overlaps[int]"], unfollowed := true, recurses := true, named := ["trestle/tern.both", "trestle/tern.contrary"], plainKeys := false, apart := false, laid := [("trestle/tern.both", laid_trestle_tern_both), ("trestle/tern.contrary", laid_trestle_tern_contrary)], narrowed := true }
def TernMostUptoSaid : Prop := ternMostUptoRow.holds Tryd.pinned (OpenSpec.upto ternMostSpec)

/-- 'trestlelaw08.TernRows', WHERE WHAT IT READS IS OF BULK AT MOST 1048576: true; the input reads as it did. -/
def ternRowsUptoRow : OpenClaim := { program := "ytclihihdgodloaadoor", sum := "a0d8dc809c781ee05a65c3b3c6a658d1503fed8274f47428a0269ad466435f2b", func := "trestle/trestlelaw08.TernRows", spec := "ternRows", inPlace := ["slices.overlaps[int]"], unfollowed := true, recurses := true, named := ["trestle/tern.contrary", "trestle/tern.both"], plainKeys := false, apart := false, laid := [("trestle/tern.both", laid_trestle_tern_both), ("trestle/tern.contrary", laid_trestle_tern_contrary)], narrowed := true }
def TernRowsUptoSaid : Prop := ternRowsUptoRow.holds Tryd.pinned (OpenSpec.upto ternRowsSpec)

/-- 'trestlelaw08.TernCovers', WHERE WHAT IT READS IS OF BULK AT MOST 1048576: true; the input reads as it did. -/
def ternCoversUptoRow : OpenClaim := { program := "ytclihihdgodloaadoor", sum := "a0d8dc809c781ee05a65c3b3c6a658d1503fed8274f47428a0269ad466435f2b", func := "trestle/trestlelaw08.TernCovers", spec := "ternCovers", inPlace := ["slices.overlaps[int]"], unfollowed := true, recurses := true, named := ["trestle/tern.both", "trestle/tern.contrary"], plainKeys := false, apart := false, laid := [("trestle/tern.both", laid_trestle_tern_both), ("trestle/tern.contrary", laid_trestle_tern_contrary)], narrowed := true }
def TernCoversUptoSaid : Prop := ternCoversUptoRow.holds Tryd.pinned (OpenSpec.upto ternCoversSpec)

/-- 'trestlelaw08.TernReaches', WHERE WHAT IT READS IS OF BULK AT MOST 1048576: true; the input reads as it did. -/
def ternReachesUptoRow : OpenClaim := { program := "ytclihihdgodloaadoor", sum := "a0d8dc809c781ee05a65c3b3c6a658d1503fed8274f47428a0269ad466435f2b", func := "trestle/trestlelaw08.TernReaches", spec := "ternReaches", inPlace := ["slices.overlaps[int]"], unfollowed := true, recurses := true, named := ["trestle/tern.both", "trestle/tern.contrary"], plainKeys := false, apart := false, laid := [("trestle/tern.both", laid_trestle_tern_both), ("trestle/tern.contrary", laid_trestle_tern_contrary)], narrowed := true }
def TernReachesUptoSaid : Prop := ternReachesUptoRow.holds Tryd.pinned (OpenSpec.upto ternReachesSpec)

end Rows
end Go.Proofs.YtclihihdgodloaaDoor
