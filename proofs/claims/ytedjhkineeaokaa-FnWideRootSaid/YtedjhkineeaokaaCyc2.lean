/- Contracts of the functions on exact points (chapter 2), continued: sums, multiples, checked results. -/
import Derived.Test.YtedjhkineeaokaaCyc
namespace Go.Proofs.Ytedjhkineeaokaa
open Go.ChangeShapes Go.WideShapes Go.ChangeAt Go.RowKit
set_option linter.unusedVariables false

theorem valid_any (f : Nat → Int) (w : World) : Calls Try.prog 35 #[cycV f] w fun e w' => e = .returned (.bool (cycOk f)) ∧ Ext w w' := by
  go_enter Try.func35, Try.ntmps35
  go_wp2_with fail
  refine (small_any _ _).mono ?_
  rintro e w1 ⟨rfl, x1⟩
  go_wp2_with fail
  go_ret
  exact ⟨rfl, by repeat (first | exact Ext.refl _ | assumption | refine Ext.drew ?_ | refine Ext.alloc ?_ _ | refine Ext.trans ?_ (by assumption))⟩

end Go.Proofs.Ytedjhkineeaokaa
