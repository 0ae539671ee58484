/- The exact laws on exact points whose text draws no order: their walks. -/
import Derived.Test.YtcbbnpijijoblaaCyc3
namespace Go.Proofs.Ytcbbnpijijoblaa
open Go.ChangeShapes Go.WideShapes Go.ChangeAt Go.RowKit
set_option linter.unusedVariables false

set_option maxHeartbeats 1000000 in
theorem lCycValid (f : Nat → Int) (w : World) : Calls Try.prog 3 #[cycV f] w fun e w' => e = .returned (.bool true) ∧ Ext w w' := by
  have k0 := Blk.new w (cyc8 f) 24
  have x0 : Ext w (w.alloc (.cells (cyc8 f).toArray 24)) := by repeat (first | exact Ext.refl _ | assumption | refine Ext.drew ?_ | refine Ext.alloc ?_ _ | refine Ext.trans ?_ (by assumption))
  go_enter Try.func3, Try.ntmps3
  go_wp2_with fail
  refine (toCyc_any _ _).mono ?_
  rintro e w1 ⟨rfl, x1⟩
  go_wp2_with fail
  refine (sCycValid_any _ _).mono ?_
  rintro e w2 ⟨rfl, x2⟩
  have c2 := ((k0.keep x1).keep x2).cell
  have y2 := (x0.trans x1).trans x2
  clear k0 x0 x1 x2
  go_wp2_with fail
  refine (toCyc_any _ _).mono ?_
  rintro e w3 ⟨rfl, x3⟩
  clear c2
  go_wp2_with fail
  refine (iCycValid_any _ _).mono ?_
  rintro e w4 ⟨rfl, x4⟩
  go_wp2
  go_ret
  exact ⟨rfl, (y2.trans x3).trans x4⟩

set_option maxHeartbeats 1000000 in
theorem lCycGauss (re im : Int) (w : World) (_ : (Lit.int .i64 re).wf = true) (_ : (Lit.int .i64 im).wf = true) :
    Calls Try.prog 4 #[.int .i64 re, .int .i64 im] w fun e w' => e = .returned (.bool true) ∧ Ext w w' := by
  go_enter Try.func4, Try.ntmps4
  go_wp2_with fail
  refine (sCycGauss_any _ _ _).mono ?_
  rintro e w1 ⟨rfl, x1⟩
  dsimp only [tupCB]
  have k1 := Blk.new w1 (cyc8 (doneM (gaussF re im)).1) 26
  have y1 := x1.alloc (.cells (cyc8 (doneM (gaussF re im)).1).toArray 26)
  go_wp2_with fail
  refine (iCycGauss_any _ _ _).mono ?_
  rintro e w2 ⟨rfl, x2⟩
  dsimp only [tupCB]
  have k2 := (k1.keep x2).alloc (.cells (cyc8 (doneM (gaussF re im)).1).toArray 26)
  have c2 := k2.cell
  have y2 := (y1.trans x2).alloc (.cells (cyc8 (doneM (gaussF re im)).1).toArray 26)
  clear k1 k2 x1 y1 x2
  go_wp2_with fail
  refine (eqCyc_any (doneM (gaussF re im)).1 _).mono ?_
  rintro e w3 ⟨rfl, x3⟩
  clear c2
  go_wp2
  go_ret
  exact ⟨rfl, y2.trans x3⟩

set_option maxHeartbeats 1000000 in
theorem lCycScale (f : Nat → Int) (n : Int) (w : World) (_ : (Lit.int .i64 n).wf = true) :
    Calls Try.prog 7 #[cycV f, .int .i64 n] w fun e w' => e = .returned (.bool true) ∧ Ext w w' := by
  have k0 := Blk.new w (cyc8 f) 24
  have x0 : Ext w (w.alloc (.cells (cyc8 f).toArray 24)) := by repeat (first | exact Ext.refl _ | assumption | refine Ext.drew ?_ | refine Ext.alloc ?_ _ | refine Ext.trans ?_ (by assumption))
  go_enter Try.func7, Try.ntmps7
  go_wp2_with fail
  refine (toCyc_any _ _).mono ?_
  rintro e w1 ⟨rfl, x1⟩
  go_wp2_with fail
  refine (sCycScale_any f n _).mono ?_
  rintro e w2 ⟨rfl, x2⟩
  dsimp only [tupCB]
  have k2 := Blk.new w2 (cyc8 (scaleM f n).1) 26
  have c2 := (((k0.keep x1).keep x2).alloc (.cells (cyc8 (scaleM f n).1).toArray 26)).cell
  have y2 := ((x0.trans x1).trans x2).alloc (.cells (cyc8 (scaleM f n).1).toArray 26)
  clear k0 x0 x1 x2
  go_wp2_with fail
  refine (toCyc_any _ _).mono ?_
  rintro e w3 ⟨rfl, x3⟩
  clear c2
  go_wp2_with fail
  refine (iCycScale_any f n _).mono ?_
  rintro e w4 ⟨rfl, x4⟩
  dsimp only [tupCB]
  have k4 := ((k2.keep x3).keep x4).alloc (.cells (cyc8 (scaleM f n).1).toArray 26)
  have c4 := k4.cell
  have y4 := ((y2.trans x3).trans x4).alloc (.cells (cyc8 (scaleM f n).1).toArray 26)
  clear k2 y2 x3 x4 k4
  go_wp2_with fail
  refine (eqCyc_any (scaleM f n).1 _).mono ?_
  rintro e w5 ⟨rfl, x5⟩
  clear c4
  go_wp2
  go_ret
  exact ⟨rfl, y4.trans x5⟩

end Go.Proofs.Ytcbbnpijijoblaa
