/-
  DERIVED. GIVEN WITH THE SEED: THE CARDS: each row of YtclihihdgodloaaDoorRows.lean that lists a variable, with what it lists TIED to the program's text (the seventh form; the later family's looks); each row that meets fmt, with fmt's text TOLD by the authors' own Lean function (tested against real Go, not proved from fmt's source: count such statements apart). THE CARD IS WHAT COUNTS. Prove the row's statement (the work); the ties are given (YtclihihdgodloaaDoorTie.lean); close each card by the builder's one call (the guide's Derived/Test/ToyasCard.lean, 'card_holds'). Laid BY PROGRAM, IN A SANDBOX (cutbox-door.mjs). By AI agents, Wed Nov 11 2026. No macro, syntax, notation, axiom, sorry.
-/
import Derived.Test.YtclihihdgodloaaDoorRows
import GoSem.ClaimSeven
namespace Go.Proofs.YtclihihdgodloaaDoor
namespace Rows

/-- THE TIED CARD OF 'trestlelaw08.TernLifts'. -/
def ternLiftsCard : Claim7 := { stood := { row := ternLiftsRow, standIns := [], harness := (true, "4ba398143f38833c9ba39a050ee1e8ba9ce94852fa36cc2562191f4b663dadc4"), looks := false }, kinds := [], alts := [], laidByText := true, laidKinds := [.data, .data], laidTests := true, laidLooks := .later }
def TernLiftsCardSaid : Prop := Claim7.holds Tryd.pinned (.plain (OpenSpec.ofChange ternLiftsSpec)) ternLiftsCard

/-- THE TIED CARD OF 'trestlelaw08.TernSettles'. -/
def ternSettlesCard : Claim7 := { stood := { row := ternSettlesRow, standIns := [], harness := (true, "4ba398143f38833c9ba39a050ee1e8ba9ce94852fa36cc2562191f4b663dadc4"), looks := false }, kinds := [], alts := [], laidByText := true, laidKinds := [.data, .data], laidTests := true, laidLooks := .later }
def TernSettlesCardSaid : Prop := Claim7.holds Tryd.pinned (.plain (OpenSpec.ofChange ternSettlesSpec)) ternSettlesCard

/-- THE TIED CARD OF 'trestlelaw08.TernSteps'. -/
def ternStepsCard : Claim7 := { stood := { row := ternStepsRow, standIns := [], harness := (true, "4ba398143f38833c9ba39a050ee1e8ba9ce94852fa36cc2562191f4b663dadc4"), looks := false }, kinds := [], alts := [], laidByText := true, laidKinds := [.data, .data], laidTests := true, laidLooks := .later }
def TernStepsCardSaid : Prop := Claim7.holds Tryd.pinned (.plain (OpenSpec.ofChange ternStepsSpec)) ternStepsCard

/-- THE TIED CARD OF 'trestlelaw08.TernMost'. -/
def ternMostCard : Claim7 := { stood := { row := ternMostRow, standIns := [], harness := (true, "4ba398143f38833c9ba39a050ee1e8ba9ce94852fa36cc2562191f4b663dadc4"), looks := false }, kinds := [], alts := [], laidByText := true, laidKinds := [.data, .data], laidTests := true, laidLooks := .later }
def TernMostCardSaid : Prop := Claim7.holds Tryd.pinned (.plain (OpenSpec.ofChange ternMostSpec)) ternMostCard

/-- THE TIED CARD OF 'trestlelaw08.TernRows'. -/
def ternRowsCard : Claim7 := { stood := { row := ternRowsRow, standIns := [], harness := (true, "4ba398143f38833c9ba39a050ee1e8ba9ce94852fa36cc2562191f4b663dadc4"), looks := false }, kinds := [], alts := [], laidByText := true, laidKinds := [.data, .data], laidTests := true, laidLooks := .later }
def TernRowsCardSaid : Prop := Claim7.holds Tryd.pinned (.plain (OpenSpec.ofChange ternRowsSpec)) ternRowsCard

/-- THE TIED CARD OF 'trestlelaw08.TernCovers'. -/
def ternCoversCard : Claim7 := { stood := { row := ternCoversRow, standIns := [], harness := (true, "4ba398143f38833c9ba39a050ee1e8ba9ce94852fa36cc2562191f4b663dadc4"), looks := false }, kinds := [], alts := [], laidByText := true, laidKinds := [.data, .data], laidTests := true, laidLooks := .later }
def TernCoversCardSaid : Prop := Claim7.holds Tryd.pinned (.plain (OpenSpec.ofChange ternCoversSpec)) ternCoversCard

/-- THE TIED CARD OF 'trestlelaw08.TernReaches'. -/
def ternReachesCard : Claim7 := { stood := { row := ternReachesRow, standIns := [], harness := (true, "4ba398143f38833c9ba39a050ee1e8ba9ce94852fa36cc2562191f4b663dadc4"), looks := false }, kinds := [], alts := [], laidByText := true, laidKinds := [.data, .data], laidTests := true, laidLooks := .later }
def TernReachesCardSaid : Prop := Claim7.holds Tryd.pinned (.plain (OpenSpec.ofChange ternReachesSpec)) ternReachesCard

/-- THE SECOND FORM's CARD OF 'trestlelaw08.TernLifts'. -/
def ternLiftsUptoCard : Claim7 := { stood := { row := ternLiftsUptoRow, standIns := [], harness := (true, "4ba398143f38833c9ba39a050ee1e8ba9ce94852fa36cc2562191f4b663dadc4"), looks := false }, kinds := [], alts := [], laidByText := true, laidKinds := [.data, .data], laidTests := true, laidLooks := .later }
def TernLiftsUptoCardSaid : Prop := Claim7.holds Tryd.pinned (.plain (OpenSpec.upto ternLiftsSpec)) ternLiftsUptoCard

/-- THE SECOND FORM's CARD OF 'trestlelaw08.TernSettles'. -/
def ternSettlesUptoCard : Claim7 := { stood := { row := ternSettlesUptoRow, standIns := [], harness := (true, "4ba398143f38833c9ba39a050ee1e8ba9ce94852fa36cc2562191f4b663dadc4"), looks := false }, kinds := [], alts := [], laidByText := true, laidKinds := [.data, .data], laidTests := true, laidLooks := .later }
def TernSettlesUptoCardSaid : Prop := Claim7.holds Tryd.pinned (.plain (OpenSpec.upto ternSettlesSpec)) ternSettlesUptoCard

/-- THE SECOND FORM's CARD OF 'trestlelaw08.TernSteps'. -/
def ternStepsUptoCard : Claim7 := { stood := { row := ternStepsUptoRow, standIns := [], harness := (true, "4ba398143f38833c9ba39a050ee1e8ba9ce94852fa36cc2562191f4b663dadc4"), looks := false }, kinds := [], alts := [], laidByText := true, laidKinds := [.data, .data], laidTests := true, laidLooks := .later }
def TernStepsUptoCardSaid : Prop := Claim7.holds Tryd.pinned (.plain (OpenSpec.upto ternStepsSpec)) ternStepsUptoCard

/-- THE SECOND FORM's CARD OF 'trestlelaw08.TernMost'. -/
def ternMostUptoCard : Claim7 := { stood := { row := ternMostUptoRow, standIns := [], harness := (true, "4ba398143f38833c9ba39a050ee1e8ba9ce94852fa36cc2562191f4b663dadc4"), looks := false }, kinds := [], alts := [], laidByText := true, laidKinds := [.data, .data], laidTests := true, laidLooks := .later }
def TernMostUptoCardSaid : Prop := Claim7.holds Tryd.pinned (.plain (OpenSpec.upto ternMostSpec)) ternMostUptoCard

/-- THE SECOND FORM's CARD OF 'trestlelaw08.TernRows'. -/
def ternRowsUptoCard : Claim7 := { stood := { row := ternRowsUptoRow, standIns := [], harness := (true, "4ba398143f38833c9ba39a050ee1e8ba9ce94852fa36cc2562191f4b663dadc4"), looks := false }, kinds := [], alts := [], laidByText := true, laidKinds := [.data, .data], laidTests := true, laidLooks := .later }
def TernRowsUptoCardSaid : Prop := Claim7.holds Tryd.pinned (.plain (OpenSpec.upto ternRowsSpec)) ternRowsUptoCard

/-- THE SECOND FORM's CARD OF 'trestlelaw08.TernCovers'. -/
def ternCoversUptoCard : Claim7 := { stood := { row := ternCoversUptoRow, standIns := [], harness := (true, "4ba398143f38833c9ba39a050ee1e8ba9ce94852fa36cc2562191f4b663dadc4"), looks := false }, kinds := [], alts := [], laidByText := true, laidKinds := [.data, .data], laidTests := true, laidLooks := .later }
def TernCoversUptoCardSaid : Prop := Claim7.holds Tryd.pinned (.plain (OpenSpec.upto ternCoversSpec)) ternCoversUptoCard

/-- THE SECOND FORM's CARD OF 'trestlelaw08.TernReaches'. -/
def ternReachesUptoCard : Claim7 := { stood := { row := ternReachesUptoRow, standIns := [], harness := (true, "4ba398143f38833c9ba39a050ee1e8ba9ce94852fa36cc2562191f4b663dadc4"), looks := false }, kinds := [], alts := [], laidByText := true, laidKinds := [.data, .data], laidTests := true, laidLooks := .later }
def TernReachesUptoCardSaid : Prop := Claim7.holds Tryd.pinned (.plain (OpenSpec.upto ternReachesSpec)) ternReachesUptoCard
end Rows
end Go.Proofs.YtclihihdgodloaaDoor
