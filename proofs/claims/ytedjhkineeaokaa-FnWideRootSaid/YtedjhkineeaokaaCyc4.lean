/- Contracts of spec's roots (chapter 2). -/
import Derived.Test.YtedjhkineeaokaaCyc3
namespace Go.Proofs.Ytedjhkineeaokaa
open Go.ChangeShapes Go.WideShapes Go.ChangeAt Go.RowKit
set_option linter.unusedVariables false
/-- a point turned by one step -/
def stepF (f : Nat → Int) : Nat → Int := fun j => if j = 0 then -f 7 else if j = 4 then f 3 + f 7 else f (j - 1)
/-- the point of size 1 at a turn -/
def rootF : Nat → Nat → Int
  | 0 => fun j => if j = 0 then 1 else 0
  | n + 1 => stepF (rootF n)
theorem rootF_bd : ∀ n, n ≤ 24 → ∀ j, j < 8 → -1 ≤ rootF n j ∧ rootF n j ≤ 1 := by decide +kernel

theorem cycRoot_ok {t : Int} (h : inR 0 23 t = true) : ∃ n : Nat, n < 24 ∧ t = (n : Int) := by
  have := inR_of h
  exact ⟨t.toNat, by omega, by omega⟩
/-- what CycRoot answers -/
def rootM (t : Int) : (Nat → Int) × Bool := if inR 0 23 t then (rootF t.toNat, true) else (fun _ => 0, false)



end Go.Proofs.Ytedjhkineeaokaa
