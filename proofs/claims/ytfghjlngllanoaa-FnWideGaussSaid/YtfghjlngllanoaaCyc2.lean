/- Contracts of the functions on exact points (chapter 2), continued: sums, multiples, checked results. -/
import Derived.Test.YtfghjlngllanoaaCyc
namespace Go.Proofs.Ytfghjlngllanoaa
open Go.ChangeShapes Go.WideShapes Go.ChangeAt Go.RowKit
set_option linter.unusedVariables false
set_option maxRecDepth 100000

theorem valid_any (f : Nat → Int) (w : World) : Calls Try.prog 35 #[cycV f] w fun e w' => e = .returned (.bool (cycOk f)) ∧ Ext w w' := by
  go_enter Try.func35, Try.ntmps35
  go_wp2_with fail
  refine (small_any _ _).mono ?_
  rintro e w1 ⟨rfl, x1⟩
  go_wp2_with fail
  go_ret
  exact ⟨rfl, by repeat (first | exact Ext.refl _ | assumption | refine Ext.drew ?_ | refine Ext.alloc ?_ _ | refine Ext.trans ?_ (by assumption))⟩

set_option maxHeartbeats 400000 in
theorem made_any (f : Nat → Int) (w : World) : Calls Try.prog 44 #[cycV f] w fun e w' => e = .returned (tupCB (doneM f)) ∧ Ext w w' := by
  have j0 := (Blk.new w (cyc8 f) 27).alloc (.cells (cyc8 fun _ => 0).toArray 27)
  have j1 := Blk.new1 w (.cells (cyc8 f).toArray 27) (cyc8 fun _ => 0) 27
  have x0 : Ext w ((w.alloc (.cells (cyc8 f).toArray 27)).alloc (.cells (cyc8 fun _ => 0).toArray 27)) := by repeat (first | exact Ext.refl _ | assumption | refine Ext.drew ?_ | refine Ext.alloc ?_ _ | refine Ext.trans ?_ (by assumption))
  have hbld := buildCyc
  by_cases hv : cycOk f = true
  · have H := Lib.hid (show doneM f = (f, true) from by simp [doneM, hv])
    go_enter Try.func44, Try.ntmps44
    go_wp2_with fail
    refine (valid_any _ _).mono ?_
    rintro e w1 ⟨rfl, x1⟩
    have k0 := j0.keep x1
    have k1 := j1.keep x1
    have x2 := x0.trans x1
    have c0 := k0.cell
    clear j0 j1 x0 x1 k0
    go_wp2_with (refine store_cyc infoCyc (x := .tmp 2) (y := .tmp 8) (w.heap.size + 1) f _ rfl rfl k1 rfl ?_)
    intro w2 k2 z2
    have x3 := z2.ext x2 (by omega)
    have c2 := k2.cell
    clear c0 z2 k1
    go_wp2
    exact bodyPost_ret (v := .tuple #[cycV f, .bool true]) (by simp [results, Try.results44, go_sem, c2]) rfl ⟨by rw [H.out]; rfl, x3⟩
  · have hv' : cycOk f = false := by simpa using hv
    have H := Lib.hid (show doneM f = (fun _ => 0, false) from by simp [doneM, hv'])
    clear hv
    go_enter Try.func44, Try.ntmps44
    go_wp2_with fail
    refine (valid_any _ _).mono ?_
    rintro e w1 ⟨rfl, x1⟩
    have k1 := j1.keep x1
    have x2 := x0.trans x1
    clear j0 j1 x0 x1
    go_wp2_with (refine store_cyc infoCyc (x := .tmp 2) (y := .tmp 7) (w.heap.size + 1) (fun _ => 0) _ rfl rfl k1 rfl ?_)
    intro w2 k2 z2
    have x3 := z2.ext x2 (by omega)
    have c2 := k2.cell
    clear z2 k1
    go_wp2
    exact bodyPost_ret (v := .tuple #[cycV fun _ => 0, .bool false]) (by simp [results, Try.results44, go_sem, c2]) rfl ⟨by rw [H.out]; rfl, x3⟩

set_option maxHeartbeats 400000 in
theorem l2Done_any (f : Nat → Int) (w : World) : Calls Try.prog 51 #[cycV f] w fun e w' => e = .returned (tupCB (doneM f)) ∧ Ext w w' := by
  have j0 := (Blk.new w (cyc8 f) 27).alloc (.cells (cyc8 fun _ => 0).toArray 27)
  have j1 := Blk.new1 w (.cells (cyc8 f).toArray 27) (cyc8 fun _ => 0) 27
  have x0 : Ext w ((w.alloc (.cells (cyc8 f).toArray 27)).alloc (.cells (cyc8 fun _ => 0).toArray 27)) := by repeat (first | exact Ext.refl _ | assumption | refine Ext.drew ?_ | refine Ext.alloc ?_ _ | refine Ext.trans ?_ (by assumption))
  have hbld := buildCyc
  by_cases hv : cycOk f = true
  · have H := Lib.hid (show doneM f = (f, true) from by simp [doneM, hv])
    go_enter Try.func51, Try.ntmps51
    go_wp2_with fail
    refine (sCycValid_any _ _).mono ?_
    rintro e w1 ⟨rfl, x1⟩
    have k0 := j0.keep x1
    have k1 := j1.keep x1
    have x2 := x0.trans x1
    have c0 := k0.cell
    clear j0 j1 x0 x1 k0
    go_wp2_with (refine store_cyc infoCyc (x := .tmp 2) (y := .tmp 8) (w.heap.size + 1) f _ rfl rfl k1 rfl ?_)
    intro w2 k2 z2
    have x3 := z2.ext x2 (by omega)
    have c2 := k2.cell
    clear c0 z2 k1
    go_wp2
    exact bodyPost_ret (v := .tuple #[cycV f, .bool true]) (by simp [results, Try.results51, go_sem, c2]) rfl ⟨by rw [H.out]; rfl, x3⟩
  · have hv' : cycOk f = false := by simpa using hv
    have H := Lib.hid (show doneM f = (fun _ => 0, false) from by simp [doneM, hv'])
    clear hv
    go_enter Try.func51, Try.ntmps51
    go_wp2_with fail
    refine (sCycValid_any _ _).mono ?_
    rintro e w1 ⟨rfl, x1⟩
    have k1 := j1.keep x1
    have x2 := x0.trans x1
    clear j0 j1 x0 x1
    go_wp2_with (refine store_cyc infoCyc (x := .tmp 2) (y := .tmp 7) (w.heap.size + 1) (fun _ => 0) _ rfl rfl k1 rfl ?_)
    intro w2 k2 z2
    have x3 := z2.ext x2 (by omega)
    have c2 := k2.cell
    clear z2 k1
    go_wp2
    exact bodyPost_ret (v := .tuple #[cycV fun _ => 0, .bool false]) (by simp [results, Try.results51, go_sem, c2]) rfl ⟨by rw [H.out]; rfl, x3⟩

set_option maxHeartbeats 1000000 in
theorem scaled_any (f : Nat → Int) (n : Int) (w : World) (hg : ∀ j, j < 8 → -1000000000000 ≤ f j * n ∧ f j * n ≤ 1000000000000) :
    Calls Try.prog 43 #[cycV f, .int .i64 n] w fun e w' => e = .returned (cycV fun j => f j * n) ∧ Ext w w' := by
  obtain ⟨c0, d0⟩ := hg 0 (by omega); obtain ⟨c1, d1⟩ := hg 1 (by omega); obtain ⟨c2, d2⟩ := hg 2 (by omega); obtain ⟨c3, d3⟩ := hg 3 (by omega)
  obtain ⟨c4, d4⟩ := hg 4 (by omega); obtain ⟨c5, d5⟩ := hg 5 (by omega); obtain ⟨c6, d6⟩ := hg 6 (by omega); obtain ⟨c7, d7⟩ := hg 7 (by omega)
  clear hg
  go_enter Try.func43, Try.ntmps43
  go_wp2
  go_rounds 9
  go_returns
  exact ⟨rfl, by repeat (first | exact Ext.refl _ | assumption | refine Ext.drew ?_ | refine Ext.alloc ?_ _ | refine Ext.trans ?_ (by assumption))⟩

/-- a point with whole parts -/
def gaussF (re im : Int) : Nat → Int := fun j => if j = 0 then re else if j = 6 then im else 0

theorem gauss_any (re im : Int) (w : World) : Calls Try.prog 33 #[.int .i64 re, .int .i64 im] w fun e w' => e = .returned (cycV (gaussF re im)) ∧ Ext w w' := by
  go_enter Try.func33, Try.ntmps33
  go_wp2
  go_returns
  exact ⟨rfl, by repeat (first | exact Ext.refl _ | assumption | refine Ext.drew ?_ | refine Ext.alloc ?_ _ | refine Ext.trans ?_ (by assumption))⟩

theorem l2Gauss_any (re im : Int) (w : World) : Calls Try.prog 52 #[.int .i64 re, .int .i64 im] w fun e w' => e = .returned (cycV (gaussF re im)) ∧ Ext w w' := by
  go_enter Try.func52, Try.ntmps52
  go_wp2
  go_returns
  exact ⟨rfl, by repeat (first | exact Ext.refl _ | assumption | refine Ext.drew ?_ | refine Ext.alloc ?_ _ | refine Ext.trans ?_ (by assumption))⟩

end Go.Proofs.Ytfghjlngllanoaa
