/- Wheels: one wheel: copied, compared, valid. -/
import Derived.Test.YtadjphiipnlcdaaWhl
namespace Go.Proofs.Ytadjphiipnlcdaa
open Go.ChangeShapes Go.WideShapes Go.ChangeAt Go.RowKit
set_option linter.unusedVariables false
set_option maxRecDepth 100000


/-- the cells of a wheel -/
abbrev wh9 (F : Nat → Int) : List Value := [.int .i64 (F 0), .int .i64 (F 1), .int .i64 (F 2), .int .i64 (F 3), .int .i64 (F 4), .int .i64 (F 5), .int .i64 (F 6), .int .i64 (F 7), .int .i64 (F 8)]
/-- a wheel as a value -/
abbrev whV (F : Nat → Int) : Value := .agg #[.int .i64 (F 0), .int .i64 (F 1), .int .i64 (F 2), .int .i64 (F 3), .int .i64 (F 4), .int .i64 (F 5), .int .i64 (F 6), .int .i64 (F 7), .int .i64 (F 8)]
/-- its radius -/
def tl (F : Nat → Int) : Nat → Int := fun j => F (j + 1)
def whOk (F : Nat → Int) : Bool := inR (-1000) 1000 (F 0) && cycOk (tl F)
theorem infoWh : (Try.prog.info? 41).map (·.size) = some 9 := by kernel_rfl

set_option maxHeartbeats 1000000 in
theorem toWheel_any (F : Nat → Int) (w : World) : Calls Try.prog 26 #[whV F] w fun e w' => e = .returned (whV F) ∧ Ext w w' := by
  go_enter Try.func26, Try.ntmps26
  have k1 := (Blk.new1 w (.cells (wh9 F).toArray 45) (wh9 fun _ => 0) 41).alloc (.cells [.int .i64 (F 0), .int .i64 0, .int .i64 0, .int .i64 0, .int .i64 0, .int .i64 0, .int .i64 0, .int .i64 0, .int .i64 0].toArray 41)
  have k2 := Blk.new2 w (.cells (wh9 F).toArray 45) (.cells (wh9 fun _ => 0).toArray 41) [.int .i64 (F 0), .int .i64 0, .int .i64 0, .int .i64 0, .int .i64 0, .int .i64 0, .int .i64 0, .int .i64 0, .int .i64 0] 41
  have x0 : Ext w (((w.alloc (.cells (wh9 F).toArray 45)).alloc (.cells (wh9 fun _ => 0).toArray 41)).alloc (.cells [.int .i64 (F 0), .int .i64 0, .int .i64 0, .int .i64 0, .int .i64 0, .int .i64 0, .int .i64 0, .int .i64 0, .int .i64 0].toArray 41)) := by repeat (first | exact Ext.refl _ | assumption | refine Ext.drew ?_ | refine Ext.alloc ?_ _ | refine Ext.trans ?_ (by assumption))
  go_wp2_with fail
  refine (toCyc_any (tl F) _).mono ?_
  rintro e w1 ⟨rfl, x1⟩
  have j1 := k1.keep x1
  have j2 := k2.keep x1
  have x1' := x0.trans x1
  clear k1 k2 x0 x1
  go_wp2_with (refine wpList_store_at rfl 39 (.tmp 10) (.tmp 9) rfl (w.heap.size + 1 + 1) 1 (cyc8 (tl F)) rfl rfl _ j2 infoCyc (by simp) (by simp [Value.oneCell']) ?_)
  intro w2 y2 z2
  have y1 := j1.keepB z2 (by omega)
  have x2 := z2.ext x1' (by omega)
  clear z2 j1 j2 x1'
  have c2 := y2.cell
  go_wp2_with (refine wpList_store_at rfl 41 (.tmp 2) (.tmp 11) rfl (w.heap.size + 1) 0 (wh9 F) rfl rfl _ y1 infoWh (by simp) (by simp [Value.oneCell']) ?_)
  intro w3 y3 z3
  have x3 := z3.ext x2 (by omega)
  clear c2 z3
  have c3 := y3.cell
  go_wp2
  exact bodyPost_ret (v := whV F) (by simp [results, Try.results26, go_sem, c3]) rfl ⟨rfl, x3⟩

set_option maxHeartbeats 1000000 in
theorem eqWheel_any (F : Nat → Int) (w : World) : Calls Try.prog 28 #[whV F, whV F] w fun e w' => e = .returned (.bool true) ∧ Ext w w' := by
  go_enter Try.func28, Try.ntmps28
  go_wp2_with fail
  refine (eqCyc_any (tl F) _).mono ?_
  rintro e w1 ⟨rfl, x1⟩
  go_wp2_with fail
  go_ret
  exact ⟨rfl, by repeat (first | exact Ext.refl _ | assumption | refine Ext.drew ?_ | refine Ext.alloc ?_ _ | refine Ext.trans ?_ (by assumption))⟩

set_option maxHeartbeats 1000000 in
theorem dv1_any (F : Nat → Int) (w : World) : Calls Try.prog 38 #[whV F] w fun e w' => e = .returned (.bool (!whOk F)) ∧ Ext w w' := by
  by_cases h0 : inR (-1000) 1000 (F 0) = true
  · have e0 : whOk F = cycOk (tl F) := by simp [whOk, h0]
    rw [e0]
    go_enter Try.func38, Try.ntmps38
    go_wp2_with (first | (go_at_call 39; ((with_reducible refine (within_any _ _ _ _).mono ?_); rintro e w' ⟨rfl, rfl⟩)) | fail)
    refine (valid_any (tl F) _).mono ?_
    rintro e w1 ⟨rfl, x1⟩
    go_wp2_with fail
    go_ret
    exact ⟨rfl, by repeat (first | exact Ext.refl _ | assumption | refine Ext.drew ?_ | refine Ext.alloc ?_ _ | refine Ext.trans ?_ (by assumption))⟩
  · have h0' : inR (-1000) 1000 (F 0) = false := by simpa using h0
    have e0 : whOk F = false := by simp [whOk, h0']
    rw [e0]
    go_enter Try.func38, Try.ntmps38
    go_wp2_with (first | (go_at_call 39; ((with_reducible refine (within_any _ _ _ _).mono ?_); rintro e w' ⟨rfl, rfl⟩)) | fail)
    go_ret
    exact ⟨rfl, by repeat (first | exact Ext.refl _ | assumption | refine Ext.drew ?_ | refine Ext.alloc ?_ _ | refine Ext.trans ?_ (by assumption))⟩

end Go.Proofs.Ytadjphiipnlcdaa
