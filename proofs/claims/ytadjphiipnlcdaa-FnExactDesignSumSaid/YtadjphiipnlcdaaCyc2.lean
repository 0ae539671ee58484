/- Contracts of the functions on exact points (chapter 2), continued: sums, multiples, checked results. -/
import Derived.Test.YtadjphiipnlcdaaCyc
namespace Go.Proofs.Ytadjphiipnlcdaa
open Go.ChangeShapes Go.WideShapes Go.ChangeAt Go.RowKit
set_option linter.unusedVariables false
set_option maxRecDepth 100000

theorem valid_any (f : Nat → Int) (w : World) : Calls Try.prog 40 #[cycV f] w fun e w' => e = .returned (.bool (cycOk f)) ∧ Ext w w' := by
  go_enter Try.func40, Try.ntmps40
  go_wp2_with fail
  refine (small_any _ _).mono ?_
  rintro e w1 ⟨rfl, x1⟩
  go_wp2_with fail
  go_ret
  exact ⟨rfl, by repeat (first | exact Ext.refl _ | assumption | refine Ext.drew ?_ | refine Ext.alloc ?_ _ | refine Ext.trans ?_ (by assumption))⟩

set_option maxHeartbeats 1000000 in
theorem plus_any (f g : Nat → Int) (w : World) (hf : ∀ j, j < 8 → -1000000000000 ≤ f j ∧ f j ≤ 1000000000000) (hg : ∀ j, j < 8 → -1000000000000 ≤ g j ∧ g j ≤ 1000000000000) :
    Calls Try.prog 50 #[cycV f, cycV g] w fun e w' => e = .returned (cycV fun j => f j + g j) ∧ Ext w w' := by
  obtain ⟨a0, b0⟩ := hf 0 (by omega); obtain ⟨a1, b1⟩ := hf 1 (by omega); obtain ⟨a2, b2⟩ := hf 2 (by omega); obtain ⟨a3, b3⟩ := hf 3 (by omega)
  obtain ⟨a4, b4⟩ := hf 4 (by omega); obtain ⟨a5, b5⟩ := hf 5 (by omega); obtain ⟨a6, b6⟩ := hf 6 (by omega); obtain ⟨a7, b7⟩ := hf 7 (by omega)
  obtain ⟨c0, d0⟩ := hg 0 (by omega); obtain ⟨c1, d1⟩ := hg 1 (by omega); obtain ⟨c2, d2⟩ := hg 2 (by omega); obtain ⟨c3, d3⟩ := hg 3 (by omega)
  obtain ⟨c4, d4⟩ := hg 4 (by omega); obtain ⟨c5, d5⟩ := hg 5 (by omega); obtain ⟨c6, d6⟩ := hg 6 (by omega); obtain ⟨c7, d7⟩ := hg 7 (by omega)
  clear hf hg
  have i0 := idx0 g; have i1 := idx1 g; have i2 := idx2 g; have i3 := idx3 g; have i4 := idx4 g; have i5 := idx5 g; have i6 := idx6 g; have i7 := idx7 g
  go_enter Try.func50, Try.ntmps50
  go_wp2
  go_rounds 9
  go_returns
  exact ⟨rfl, by repeat (first | exact Ext.refl _ | assumption | refine Ext.drew ?_ | refine Ext.alloc ?_ _ | refine Ext.trans ?_ (by assumption))⟩

/-- a point with whole parts -/
def gaussF (re im : Int) : Nat → Int := fun j => if j = 0 then re else if j = 6 then im else 0

theorem l2Gauss_any (re im : Int) (w : World) : Calls Try.prog 73 #[.int .i64 re, .int .i64 im] w fun e w' => e = .returned (cycV (gaussF re im)) ∧ Ext w w' := by
  go_enter Try.func73, Try.ntmps73
  go_wp2
  go_returns
  exact ⟨rfl, by repeat (first | exact Ext.refl _ | assumption | refine Ext.drew ?_ | refine Ext.alloc ?_ _ | refine Ext.trans ?_ (by assumption))⟩

set_option maxHeartbeats 1000000 in
theorem eqIntA8_any (f : Nat → Int) (w : World) : Calls Try.prog 66 #[cycV f, cycV f] w fun e w' => e = .returned (.bool true) ∧ Ext w w' := by
  go_enter Try.func66, Try.ntmps66
  go_wp2
  refine wp_loop_rounds 9 ?_
  iterate 8 (rw [rounds_succ]; go_wp2; go_quiet (fail); go_wp2)
  rw [rounds_succ]
  go_wp2
  go_ret
  exact ⟨rfl, by repeat (first | exact Ext.refl _ | refine Ext.drewN ?_ _ | refine Ext.alloc ?_ _)⟩

theorem eqCyc_any (f : Nat → Int) (w : World) : Calls Try.prog 45 #[cycV f, cycV f] w fun e w' => e = .returned (.bool true) ∧ Ext w w' := by
  go_enter Try.func45, Try.ntmps45
  go_wp2_with fail
  refine (eqIntA8_any _ _).mono ?_
  rintro e w1 ⟨rfl, x1⟩
  go_wp2_with fail
  go_ret
  exact ⟨rfl, by repeat (first | exact Ext.refl _ | assumption | refine Ext.drew ?_ | refine Ext.alloc ?_ _ | refine Ext.trans ?_ (by assumption))⟩

end Go.Proofs.Ytadjphiipnlcdaa
