/- Contracts of the functions on surds (chapter 3): impl and spec. -/
import Derived.Test.YtpaacpdpkdndjaaTurn
namespace Go.Proofs.Ytpaacpdpkdndjaa
open Go.ChangeShapes Go.WideShapes Go.ChangeAt Go.RowKit
set_option linter.unusedVariables false

/-- a surd as a value -/
abbrev surdV (a b c d : Int) : Value := .agg #[.int .i64 a, .int .i64 b, .int .i64 c, .int .i64 d]
/-- a surd is valid -/
def surdOk (a b c d : Int) : Bool := inR (-10000000) 10000000 a && inR (-10000000) 10000000 b && inR (-10000000) 10000000 c && inR (-10000000) 10000000 d

theorem toSurd_any (a b c d : Int) (w : World) : Calls Try.prog 9 #[surdV a b c d] w fun e w' => e = .returned (surdV a b c d) ∧ Ext w w' := by
  go_enter Try.func9, Try.ntmps9
  go_wp2
  go_returns
  exact ⟨rfl, by repeat (first | exact Ext.refl _ | assumption | refine Ext.drew ?_ | refine Ext.alloc ?_ _ | refine Ext.trans ?_ (by assumption))⟩

theorem svalid_any (a b c d : Int) (w : World) : Calls Try.prog 18 #[surdV a b c d] w fun e w' => e = .returned (.bool (surdOk a b c d)) ∧ Ext w w' := by
  go_enter Try.func18, Try.ntmps18
  go_wp2_with (go_at_call 21; ((with_reducible refine (within_any _ _ _ _).mono ?_); rintro e w' ⟨rfl, rfl⟩))
  all_goals go_ret
  all_goals exact ⟨by simp [surdOk, *], by repeat (first | exact Ext.refl _ | assumption | refine Ext.drew ?_ | refine Ext.alloc ?_ _ | refine Ext.trans ?_ (by assumption))⟩

theorem iSurdValid_any (a b c d : Int) (w : World) : Calls Try.prog 10 #[surdV a b c d] w fun e w' => e = .returned (.bool (surdOk a b c d)) ∧ Ext w w' := by
  go_enter Try.func10, Try.ntmps10
  go_wp2_with (go_at_call 18; refine (svalid_any _ _ _ _ _).mono ?_; rintro e w1 ⟨rfl, hb⟩)
  go_ret
  exact ⟨rfl, by repeat (first | exact Ext.refl _ | assumption | refine Ext.drew ?_ | refine Ext.alloc ?_ _ | refine Ext.trans ?_ (by assumption))⟩

theorem sSurdValid_any (a b c d : Int) (w : World) : Calls Try.prog 8 #[surdV a b c d] w fun e w' => e = .returned (.bool (surdOk a b c d)) ∧ Ext w w' := by
  go_enter Try.func8, Try.ntmps8
  go_wp2_with (go_at_call 17; ((with_reducible refine (l6In_any _ _ _ _).mono ?_); rintro e w' ⟨rfl, rfl⟩))
  all_goals go_ret
  all_goals exact ⟨by simp [surdOk, *], by repeat (first | exact Ext.refl _ | assumption | refine Ext.drew ?_ | refine Ext.alloc ?_ _ | refine Ext.trans ?_ (by assumption))⟩

theorem lSurdValid (a b c d : Int) (w : World) (_ : (Lit.int .i64 a).wf = true) (_ : (Lit.int .i64 b).wf = true) (_ : (Lit.int .i64 c).wf = true) (_ : (Lit.int .i64 d).wf = true) :
    Calls Try.prog 4 #[surdV a b c d] w fun e w' => e = .returned (.bool true) ∧ Ext w w' := by
  have k0 := Blk.new w [.int .i64 a, .int .i64 b, .int .i64 c, .int .i64 d] 24
  go_enter Try.func4, Try.ntmps4
  go_wp2_with fail
  refine (toSurd_any _ _ _ _ _).mono ?_; rintro e w1 ⟨rfl, hb1⟩
  go_wp2_with fail
  refine (sSurdValid_any _ _ _ _ _).mono ?_; rintro e w2 ⟨rfl, hb2⟩
  have k2 := (k0.keep hb1).keep hb2
  have c2 := k2.cell
  go_wp2_with fail
  refine (toSurd_any _ _ _ _ _).mono ?_; rintro e w3 ⟨rfl, hb3⟩
  go_wp2_with fail
  refine (iSurdValid_any _ _ _ _ _).mono ?_; rintro e w4 ⟨rfl, hb4⟩
  clear c2
  go_wp2
  go_ret
  exact ⟨rfl, by repeat (first | exact Ext.refl _ | assumption | refine Ext.drew ?_ | refine Ext.alloc ?_ _ | refine Ext.trans ?_ (by assumption))⟩

end Go.Proofs.Ytpaacpdpkdndjaa
