/- make; rows of numbers that change. -/
import Derived.Test.YtkndegjodnciaaaD10
set_option linter.unusedVariables false
set_option linter.unusedSimpArgs false
namespace Go.Proofs.Ytkndegjodnciaaa
namespace SC
open Go.Proofs
attribute [local irreducible] WC WL WX WS WO OX Does DoesU Enters CV Pure thenQ blockQ retQ Wants
section
variable {P : Program} {n : Nat} {all rest : List Oper} {K : Env → World → Prop} {e : Env} {w : World} {d : Option Tmp} {ty : TypeId} {x : Operand} {t t0 : TypeId} {td : TypeDesc} {sz sz1 by_ by1 : Nat} {zv z1 : Value} {ag ag1 : Bool}
theorem X_make {m : Nat} {k : IntKind} [U : Ty P t (.slice t0) sz1 z1 by1 ag1] [T : Ty P t0 td sz zv by_ ag] (h : ev e x = some (.int k (m : Int))) (hn : (by_ : Int) * m ≤ 281474976710656) (h63 : (m : Int) ≤ 9223372036854775807)
    (hr : WL P n all K rest (push d (.slice (some ⟨w.heap.size, 0, none⟩) m m) e) (w.alloc (.cells (madeCells zv.cells (m * sz)) t0))) : WX P n all K rest d (.makeSlice t x x) ty e w := X_does (does_makeSlice U.und T h hn h63) hr
end
theorem made_one (z : Value) (m : Nat) : (madeCells #[z] m).toList = List.replicate m z := by
  apply List.ext_getElem?
  intro j
  simp only [madeCells]
  by_cases hj : j < m
  · simp [hj, Nat.mod_one]
  · simp [hj]
end SC
end Go.Proofs.Ytkndegjodnciaaa
