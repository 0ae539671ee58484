/- Contracts of CycAdd, CycLess, CycScale, CycGauss, of impl and of spec. -/
import Derived.Test.YtedjhkineeaokaaCyc2
namespace Go.Proofs.Ytedjhkineeaokaa
open Go.ChangeShapes Go.WideShapes Go.ChangeAt Go.RowKit
set_option linter.unusedVariables false

/-- what CycAdd, CycLess, CycScale and CycGauss return -/
def addM (f g : Nat → Int) : (Nat → Int) × Bool := if cycOk f && cycOk g then doneM (fun j => f j + g j) else (fun _ => 0, false)
def lessM (f g : Nat → Int) : (Nat → Int) × Bool := if cycOk f && cycOk g then doneM (fun j => f j - g j) else (fun _ => 0, false)
def scaleM (f : Nat → Int) (n : Int) : (Nat → Int) × Bool := if cycOk f && inR (-1000000) 1000000 n then doneM (fun j => f j * n) else (fun _ => 0, false)

theorem prod_bd {a n : Int} (ha : -1000000 ≤ a ∧ a ≤ 1000000) (hn : -1000000 ≤ n ∧ n ≤ 1000000) : -1000000000000 ≤ a * n ∧ a * n ≤ 1000000000000 := by
  have h : (a * n).natAbs ≤ 1000000 * 1000000 := by
    rw [Int.natAbs_mul]; exact Nat.mul_le_mul (by omega) (by omega)
  omega

end Go.Proofs.Ytedjhkineeaokaa
