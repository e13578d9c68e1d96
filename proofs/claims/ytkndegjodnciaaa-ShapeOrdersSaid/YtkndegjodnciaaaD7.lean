/- The kit's contract of slices.Insert at numbers, laid at this program. -/
import Derived.Test.YtkndegjodnciaaaD6
import Derived.Shelf.Spec.SlicesInsert
import Derived.Shelf.Spec.SlicesInsertGrow
set_option linter.unusedVariables false
set_option linter.unusedSimpArgs false
namespace Go.Proofs.Ytkndegjodnciaaa
namespace SC
open Go.Proofs Go.Shelf
set_option maxRecDepth 100000
def insRen : Ren := ⟨fun | 21 => 142 | 27 => 158 | 28 => 159 | 35 => 161 | 39 => 162 | n => n, fun | 0 => 0 | 3 => 3 | 4 => 4 | 22 => 45 | n => n, fun n => n⟩
theorem insLay : Lays2.n21 Try.prog insRen := {
  mixed := by kernel_rfl
  f21 := by kernel_rfl
  f27 := by kernel_rfl
  f28 := by kernel_rfl
  f35 := by kernel_rfl
  f39 := by kernel_rfl
  t0 := by kernel_rfl
  a0 := fun w => by kernel_rfl
  z0 := fun w => by kernel_rfl
  v0 := fun w => by kernel_rfl
  t3 := by kernel_rfl
  a3 := fun w => by kernel_rfl
  z3 := fun w => by kernel_rfl
  v3 := fun w => by kernel_rfl
  t4 := by kernel_rfl
  a4 := fun w => by kernel_rfl
  z4 := fun w => by kernel_rfl
  v4 := fun w => by kernel_rfl
  t22 := by kernel_rfl
  a22 := fun w => by kernel_rfl
  z22 := fun w => by kernel_rfl
  v22 := fun w => by kernel_rfl
  i3 := by kernel_rfl }
end SC
end Go.Proofs.Ytkndegjodnciaaa
