/- Contracts of the functions on surds (chapter 3): impl and spec. -/
import Derived.Test.YthgmgjjjgllbjaaTurn
namespace Go.Proofs.Ythgmgjjjgllbjaa
open Go.ChangeShapes Go.WideShapes Go.ChangeAt Go.RowKit
set_option linter.unusedVariables false

/-- a surd as a value -/
abbrev surdV (a b c d : Int) : Value := .agg #[.int .i64 a, .int .i64 b, .int .i64 c, .int .i64 d]
/-- a surd is valid -/
def surdOk (a b c d : Int) : Bool := inR (-10000000) 10000000 a && inR (-10000000) 10000000 b && inR (-10000000) 10000000 c && inR (-10000000) 10000000 d

theorem toSurd_any (a b c d : Int) (w : World) : Calls Try.prog 12 #[surdV a b c d] w fun e w' => e = .returned (surdV a b c d) ∧ Ext w w' := by
  go_enter Try.func12, Try.ntmps12
  go_wp2
  go_returns
  exact ⟨rfl, by repeat (first | exact Ext.refl _ | assumption | refine Ext.drew ?_ | refine Ext.alloc ?_ _ | refine Ext.trans ?_ (by assumption))⟩

theorem svalid_any (a b c d : Int) (w : World) : Calls Try.prog 29 #[surdV a b c d] w fun e w' => e = .returned (.bool (surdOk a b c d)) ∧ Ext w w' := by
  go_enter Try.func29, Try.ntmps29
  go_wp2_with (go_at_call 44; ((with_reducible refine (within_any _ _ _ _).mono ?_); rintro e w' ⟨rfl, rfl⟩))
  all_goals go_ret
  all_goals exact ⟨by simp [surdOk, *], by repeat (first | exact Ext.refl _ | assumption | refine Ext.drew ?_ | refine Ext.alloc ?_ _ | refine Ext.trans ?_ (by assumption))⟩

theorem iSurdValid_any (a b c d : Int) (w : World) : Calls Try.prog 17 #[surdV a b c d] w fun e w' => e = .returned (.bool (surdOk a b c d)) ∧ Ext w w' := by
  go_enter Try.func17, Try.ntmps17
  go_wp2_with (go_at_call 29; refine (svalid_any _ _ _ _ _).mono ?_; rintro e w1 ⟨rfl, hb⟩)
  go_ret
  exact ⟨rfl, by repeat (first | exact Ext.refl _ | assumption | refine Ext.drew ?_ | refine Ext.alloc ?_ _ | refine Ext.trans ?_ (by assumption))⟩

theorem sSurdValid_any (a b c d : Int) (w : World) : Calls Try.prog 18 #[surdV a b c d] w fun e w' => e = .returned (.bool (surdOk a b c d)) ∧ Ext w w' := by
  go_enter Try.func18, Try.ntmps18
  go_wp2_with (go_at_call 35; ((with_reducible refine (l6In_any _ _ _ _).mono ?_); rintro e w' ⟨rfl, rfl⟩))
  all_goals go_ret
  all_goals exact ⟨by simp [surdOk, *], by repeat (first | exact Ext.refl _ | assumption | refine Ext.drew ?_ | refine Ext.alloc ?_ _ | refine Ext.trans ?_ (by assumption))⟩

end Go.Proofs.Ythgmgjjjgllbjaa
