/- Contracts of the functions on surds (chapter 3): impl and spec. -/
import Derived.Test.YtfghjlngllanoaaTurn
namespace Go.Proofs.Ytfghjlngllanoaa
open Go.ChangeShapes Go.WideShapes Go.ChangeAt Go.RowKit
set_option linter.unusedVariables false
set_option maxRecDepth 100000

/-- a surd as a value -/
abbrev surdV (a b c d : Int) : Value := .agg #[.int .i64 a, .int .i64 b, .int .i64 c, .int .i64 d]
/-- a surd is valid -/
def surdOk (a b c d : Int) : Bool := inR (-10000000) 10000000 a && inR (-10000000) 10000000 b && inR (-10000000) 10000000 c && inR (-10000000) 10000000 d

theorem svalid_any (a b c d : Int) (w : World) : Calls Try.prog 66 #[surdV a b c d] w fun e w' => e = .returned (.bool (surdOk a b c d)) ∧ Ext w w' := by
  go_enter Try.func66, Try.ntmps66
  go_wp2_with (go_at_call 42; ((with_reducible refine (within_any _ _ _ _).mono ?_); rintro e w' ⟨rfl, rfl⟩))
  all_goals go_ret
  all_goals exact ⟨by simp [surdOk, *], by repeat (first | exact Ext.refl _ | assumption | refine Ext.drew ?_ | refine Ext.alloc ?_ _ | refine Ext.trans ?_ (by assumption))⟩

end Go.Proofs.Ytfghjlngllanoaa
