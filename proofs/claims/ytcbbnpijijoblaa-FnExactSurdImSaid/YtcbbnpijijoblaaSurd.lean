/- Contracts of the functions on surds (chapter 3): impl and spec. -/
import Derived.Test.YtcbbnpijijoblaaTurn
namespace Go.Proofs.Ytcbbnpijijoblaa
open Go.ChangeShapes Go.WideShapes Go.ChangeAt Go.RowKit
set_option linter.unusedVariables false

/-- a surd as a value -/
abbrev surdV (a b c d : Int) : Value := .agg #[.int .i64 a, .int .i64 b, .int .i64 c, .int .i64 d]
/-- a surd is valid -/
def surdOk (a b c d : Int) : Bool := inR (-10000000) 10000000 a && inR (-10000000) 10000000 b && inR (-10000000) 10000000 c && inR (-10000000) 10000000 d

theorem toSurd_any (a b c d : Int) (w : World) : Calls Try.prog 27 #[surdV a b c d] w fun e w' => e = .returned (surdV a b c d) ∧ Ext w w' := by
  go_enter Try.func27, Try.ntmps27
  go_wp2
  go_returns
  exact ⟨rfl, by repeat (first | exact Ext.refl _ | assumption | refine Ext.drew ?_ | refine Ext.alloc ?_ _ | refine Ext.trans ?_ (by assumption))⟩

theorem svalid_any (a b c d : Int) (w : World) : Calls Try.prog 54 #[surdV a b c d] w fun e w' => e = .returned (.bool (surdOk a b c d)) ∧ Ext w w' := by
  go_enter Try.func54, Try.ntmps54
  go_wp2_with (go_at_call 48; ((with_reducible refine (within_any _ _ _ _).mono ?_); rintro e w' ⟨rfl, rfl⟩))
  all_goals go_ret
  all_goals exact ⟨by simp [surdOk, *], by repeat (first | exact Ext.refl _ | assumption | refine Ext.drew ?_ | refine Ext.alloc ?_ _ | refine Ext.trans ?_ (by assumption))⟩

theorem sSurdValid_any (a b c d : Int) (w : World) : Calls Try.prog 51 #[surdV a b c d] w fun e w' => e = .returned (.bool (surdOk a b c d)) ∧ Ext w w' := by
  go_enter Try.func51, Try.ntmps51
  go_wp2_with (go_at_call 34; ((with_reducible refine (l6In_any _ _ _ _).mono ?_); rintro e w' ⟨rfl, rfl⟩))
  all_goals go_ret
  all_goals exact ⟨by simp [surdOk, *], by repeat (first | exact Ext.refl _ | assumption | refine Ext.drew ?_ | refine Ext.alloc ?_ _ | refine Ext.trans ?_ (by assumption))⟩

end Go.Proofs.Ytcbbnpijijoblaa
