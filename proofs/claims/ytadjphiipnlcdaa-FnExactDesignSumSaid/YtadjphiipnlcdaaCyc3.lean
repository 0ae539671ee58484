/- Contracts of CycAdd, CycLess, CycScale, CycGauss, of impl and of spec. -/
import Derived.Test.YtadjphiipnlcdaaCyc2
namespace Go.Proofs.Ytadjphiipnlcdaa
open Go.ChangeShapes Go.WideShapes Go.ChangeAt Go.RowKit
set_option linter.unusedVariables false
set_option maxRecDepth 100000

/-- what CycAdd, CycLess, CycScale and CycGauss return -/
def addM (f g : Nat → Int) : (Nat → Int) × Bool := if cycOk f && cycOk g then doneM (fun j => f j + g j) else (fun _ => 0, false)
def lessM (f g : Nat → Int) : (Nat → Int) × Bool := if cycOk f && cycOk g then doneM (fun j => f j - g j) else (fun _ => 0, false)
def scaleM (f : Nat → Int) (n : Int) : (Nat → Int) × Bool := if cycOk f && inR (-1000000) 1000000 n then doneM (fun j => f j * n) else (fun _ => 0, false)

theorem prod_bd {a n : Int} (ha : -1000000 ≤ a ∧ a ≤ 1000000) (hn : -1000000 ≤ n ∧ n ≤ 1000000) : -1000000000000 ≤ a * n ∧ a * n ≤ 1000000000000 := by
  have h : (a * n).natAbs ≤ 1000000 * 1000000 := by
    rw [Int.natAbs_mul]; exact Nat.mul_le_mul (by omega) (by omega)
  omega

theorem l2SumOne (f g : Nat → Int) (w : World) (hf : ∀ j, j < 8 → -1000000 ≤ f j ∧ f j ≤ 1000000) (hg : ∀ j, j < 8 → -1000000 ≤ g j ∧ g j ≤ 1000000) :
    Calls Try.prog 67 #[cycV f, .int .i64 1, cycV g] w fun e w' => e = .returned (cycV fun j => f j + g j) ∧ Ext w w' := by
  have := l2Sum_any f g 1 w (fun j hj => by have := hf j hj; omega) (fun j hj => by have := hg j hj; omega)
  have e : (fun j => f j + 1 * g j) = fun j => f j + g j := by funext j; omega
  rwa [e] at this
theorem l2SumNeg (f g : Nat → Int) (w : World) (hf : ∀ j, j < 8 → -1000000 ≤ f j ∧ f j ≤ 1000000) (hg : ∀ j, j < 8 → -1000000 ≤ g j ∧ g j ≤ 1000000) :
    Calls Try.prog 67 #[cycV f, .int .i64 (-1), cycV g] w fun e w' => e = .returned (cycV fun j => f j - g j) ∧ Ext w w' := by
  have := l2Sum_any f g (-1) w (fun j hj => by have := hf j hj; omega) (fun j hj => by have := hg j hj; omega)
  have e : (fun j => f j + -1 * g j) = fun j => f j - g j := by funext j; omega
  rwa [e] at this
theorem l2SumZero (g : Nat → Int) (n : Int) (w : World) (hg : ∀ j, j < 8 → -1000000000000 ≤ g j * n ∧ g j * n ≤ 1000000000000) :
    Calls Try.prog 67 #[cycV fun _ => 0, .int .i64 n, cycV g] w fun e w' => e = .returned (cycV fun j => g j * n) ∧ Ext w w' := by
  have := l2Sum_any (fun _ => 0) g n w (fun j hj => by omega) (fun j hj => by have := hg j hj; rw [Int.mul_comm]; exact this)
  have e : (fun j => 0 + n * g j) = fun j => g j * n := by funext j; rw [Int.mul_comm]; omega
  rwa [e] at this

end Go.Proofs.Ytadjphiipnlcdaa
