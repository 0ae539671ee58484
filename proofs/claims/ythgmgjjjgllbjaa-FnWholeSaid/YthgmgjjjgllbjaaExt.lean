/- Square roots and floors of floats, as the model has them. -/
import Derived.Test.YthgmgjjjgllbjaaFltC
import Derived.Test.YthgmgjjjgllbjaaTurn
import Derived.WalkLawsBesides
import Derived.Laws.Externs
namespace Go.Proofs.Ythgmgjjjgllbjaa
open Go.ChangeShapes Go.WideShapes Go.ChangeAt Go.RowKit
set_option linter.unusedVariables false

theorem sqrt_run (x r : Nat) (h : FloatKind.f64.format.sqrt x = some r) (w : World) : (callFunc 50 #[.float .f64 x]).run Try.prog w = .ok (.value (.float .f64 r)) w := by
  have := run_callFunc_extern (P := Try.prog) (e := Extern.MathSqrt.sqrt) Try.func50 (by kernel_rfl) (by kernel_rfl) (by kernel_rfl) (by kernel_rfl) #[.float .f64 x] w
  rw [this]
  have e : Extern.MathSqrt.sqrt #[.float .f64 x] = pure (.float .f64 r) := by
    change (match FloatKind.f64.format.sqrt x with | some r => pure (Value.float .f64 r) | none => _) = _
    rw [h]
  rw [e]
  rfl
theorem floor_run (x y : Nat) {s : Bool} {m : Nat} {p : Int} (h1 : FloatKind.f64.decode x = .number s m p) (h2 : FloatKind.f64.encode ((Ieee.Datum.number s m p).integral .down) = y) (w : World) : (callFunc 48 #[.float .f64 x]).run Try.prog w = .ok (.value (.float .f64 y)) w := by
  have := run_callFunc_extern (P := Try.prog) (e := Extern.MathFloor.toIntegral "math.archFloor" .down) Try.func48 (by kernel_rfl) (by kernel_rfl) (by kernel_rfl) (by kernel_rfl) #[.float .f64 x] w
  rw [this]
  have e : Extern.MathFloor.toIntegral "math.archFloor" .down #[.float .f64 x] = pure (.float .f64 y) := by
    change (match FloatKind.f64.decode x with | .nan s t => _ | d => pure (Value.float .f64 (FloatKind.f64.encode (d.integral .down)))) = _
    rw [h1, ← h2]
  rw [e]
  rfl
theorem sqrt3 : FloatKind.f64.format.sqrt 4613937818241073152 = some 4610479282544200874 := by decide +kernel
theorem sqrt6 : FloatKind.f64.format.sqrt 4618441417868443648 = some 4612698179346440494 := by decide +kernel

end Go.Proofs.Ythgmgjjjgllbjaa
