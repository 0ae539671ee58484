/- Contracts of the functions on exact points (chapter 2), continued: sums, multiples, checked results. -/
import Derived.Test.YtlngnebpgphceaaCyc
namespace Go.Proofs.Ytlngnebpgphceaa
open Go.ChangeShapes Go.WideShapes Go.ChangeAt Go.RowKit
set_option linter.unusedVariables false

theorem valid_any (f : Nat → Int) (w : World) : Calls Try.prog 21 #[cycV f] w fun e w' => e = .returned (.bool (cycOk f)) ∧ Ext w w' := by
  go_enter Try.func21, Try.ntmps21
  go_wp2_with fail
  refine (small_any _ _).mono ?_
  rintro e w1 ⟨rfl, x1⟩
  go_wp2_with fail
  go_ret
  exact ⟨rfl, by repeat (first | exact Ext.refl _ | assumption | refine Ext.drew ?_ | refine Ext.alloc ?_ _ | refine Ext.trans ?_ (by assumption))⟩

theorem iCycValid_any (f : Nat → Int) (w : World) : Calls Try.prog 8 #[cycV f] w fun e w' => e = .returned (.bool (cycOk f)) ∧ Ext w w' := by
  go_enter Try.func8, Try.ntmps8
  go_wp2_with fail
  refine (valid_any _ _).mono ?_
  rintro e w1 ⟨rfl, x1⟩
  go_wp2_with fail
  go_ret
  exact ⟨rfl, by repeat (first | exact Ext.refl _ | assumption | refine Ext.drew ?_ | refine Ext.alloc ?_ _ | refine Ext.trans ?_ (by assumption))⟩

set_option maxHeartbeats 400000 in
theorem made_any (f : Nat → Int) (w : World) : Calls Try.prog 25 #[cycV f] w fun e w' => e = .returned (tupCB (doneM f)) ∧ Ext w w' := by
  have j0 := (Blk.new w (cyc8 f) 25).alloc (.cells (cyc8 fun _ => 0).toArray 25)
  have j1 := Blk.new1 w (.cells (cyc8 f).toArray 25) (cyc8 fun _ => 0) 25
  have x0 : Ext w ((w.alloc (.cells (cyc8 f).toArray 25)).alloc (.cells (cyc8 fun _ => 0).toArray 25)) := by repeat (first | exact Ext.refl _ | assumption | refine Ext.drew ?_ | refine Ext.alloc ?_ _ | refine Ext.trans ?_ (by assumption))
  have hbld := buildCyc
  by_cases hv : cycOk f = true
  · have H := Lib.hid (show doneM f = (f, true) from by simp [doneM, hv])
    go_enter Try.func25, Try.ntmps25
    go_wp2_with fail
    refine (valid_any _ _).mono ?_
    rintro e w1 ⟨rfl, x1⟩
    have k0 := j0.keep x1
    have k1 := j1.keep x1
    have x2 := x0.trans x1
    have c0 := k0.cell
    clear j0 j1 x0 x1 k0
    go_wp2_with (refine store_cyc infoCyc (x := .tmp 2) (y := .tmp 8) (w.heap.size + 1) f _ rfl rfl k1 rfl ?_)
    intro w2 k2 z2
    have x3 := z2.ext x2 (by omega)
    have c2 := k2.cell
    clear c0 z2 k1
    go_wp2
    exact bodyPost_ret (v := .tuple #[cycV f, .bool true]) (by simp [results, Try.results25, go_sem, c2]) rfl ⟨by rw [H.out]; rfl, x3⟩
  · have hv' : cycOk f = false := by simpa using hv
    have H := Lib.hid (show doneM f = (fun _ => 0, false) from by simp [doneM, hv'])
    clear hv
    go_enter Try.func25, Try.ntmps25
    go_wp2_with fail
    refine (valid_any _ _).mono ?_
    rintro e w1 ⟨rfl, x1⟩
    have k1 := j1.keep x1
    have x2 := x0.trans x1
    clear j0 j1 x0 x1
    go_wp2_with (refine store_cyc infoCyc (x := .tmp 2) (y := .tmp 7) (w.heap.size + 1) (fun _ => 0) _ rfl rfl k1 rfl ?_)
    intro w2 k2 z2
    have x3 := z2.ext x2 (by omega)
    have c2 := k2.cell
    clear z2 k1
    go_wp2
    exact bodyPost_ret (v := .tuple #[cycV fun _ => 0, .bool false]) (by simp [results, Try.results25, go_sem, c2]) rfl ⟨by rw [H.out]; rfl, x3⟩

set_option maxHeartbeats 400000 in
theorem l2Done_any (f : Nat → Int) (w : World) : Calls Try.prog 28 #[cycV f] w fun e w' => e = .returned (tupCB (doneM f)) ∧ Ext w w' := by
  have j0 := (Blk.new w (cyc8 f) 25).alloc (.cells (cyc8 fun _ => 0).toArray 25)
  have j1 := Blk.new1 w (.cells (cyc8 f).toArray 25) (cyc8 fun _ => 0) 25
  have x0 : Ext w ((w.alloc (.cells (cyc8 f).toArray 25)).alloc (.cells (cyc8 fun _ => 0).toArray 25)) := by repeat (first | exact Ext.refl _ | assumption | refine Ext.drew ?_ | refine Ext.alloc ?_ _ | refine Ext.trans ?_ (by assumption))
  have hbld := buildCyc
  by_cases hv : cycOk f = true
  · have H := Lib.hid (show doneM f = (f, true) from by simp [doneM, hv])
    go_enter Try.func28, Try.ntmps28
    go_wp2_with fail
    refine (sCycValid_any _ _).mono ?_
    rintro e w1 ⟨rfl, x1⟩
    have k0 := j0.keep x1
    have k1 := j1.keep x1
    have x2 := x0.trans x1
    have c0 := k0.cell
    clear j0 j1 x0 x1 k0
    go_wp2_with (refine store_cyc infoCyc (x := .tmp 2) (y := .tmp 8) (w.heap.size + 1) f _ rfl rfl k1 rfl ?_)
    intro w2 k2 z2
    have x3 := z2.ext x2 (by omega)
    have c2 := k2.cell
    clear c0 z2 k1
    go_wp2
    exact bodyPost_ret (v := .tuple #[cycV f, .bool true]) (by simp [results, Try.results28, go_sem, c2]) rfl ⟨by rw [H.out]; rfl, x3⟩
  · have hv' : cycOk f = false := by simpa using hv
    have H := Lib.hid (show doneM f = (fun _ => 0, false) from by simp [doneM, hv'])
    clear hv
    go_enter Try.func28, Try.ntmps28
    go_wp2_with fail
    refine (sCycValid_any _ _).mono ?_
    rintro e w1 ⟨rfl, x1⟩
    have k1 := j1.keep x1
    have x2 := x0.trans x1
    clear j0 j1 x0 x1
    go_wp2_with (refine store_cyc infoCyc (x := .tmp 2) (y := .tmp 7) (w.heap.size + 1) (fun _ => 0) _ rfl rfl k1 rfl ?_)
    intro w2 k2 z2
    have x3 := z2.ext x2 (by omega)
    have c2 := k2.cell
    clear z2 k1
    go_wp2
    exact bodyPost_ret (v := .tuple #[cycV fun _ => 0, .bool false]) (by simp [results, Try.results28, go_sem, c2]) rfl ⟨by rw [H.out]; rfl, x3⟩

set_option maxHeartbeats 1000000 in
theorem plus_any (f g : Nat → Int) (w : World) (hf : ∀ j, j < 8 → -1000000000000 ≤ f j ∧ f j ≤ 1000000000000) (hg : ∀ j, j < 8 → -1000000000000 ≤ g j ∧ g j ≤ 1000000000000) :
    Calls Try.prog 26 #[cycV f, cycV g] w fun e w' => e = .returned (cycV fun j => f j + g j) ∧ Ext w w' := by
  obtain ⟨a0, b0⟩ := hf 0 (by omega); obtain ⟨a1, b1⟩ := hf 1 (by omega); obtain ⟨a2, b2⟩ := hf 2 (by omega); obtain ⟨a3, b3⟩ := hf 3 (by omega)
  obtain ⟨a4, b4⟩ := hf 4 (by omega); obtain ⟨a5, b5⟩ := hf 5 (by omega); obtain ⟨a6, b6⟩ := hf 6 (by omega); obtain ⟨a7, b7⟩ := hf 7 (by omega)
  obtain ⟨c0, d0⟩ := hg 0 (by omega); obtain ⟨c1, d1⟩ := hg 1 (by omega); obtain ⟨c2, d2⟩ := hg 2 (by omega); obtain ⟨c3, d3⟩ := hg 3 (by omega)
  obtain ⟨c4, d4⟩ := hg 4 (by omega); obtain ⟨c5, d5⟩ := hg 5 (by omega); obtain ⟨c6, d6⟩ := hg 6 (by omega); obtain ⟨c7, d7⟩ := hg 7 (by omega)
  clear hf hg
  have i0 := idx0 g; have i1 := idx1 g; have i2 := idx2 g; have i3 := idx3 g; have i4 := idx4 g; have i5 := idx5 g; have i6 := idx6 g; have i7 := idx7 g
  go_enter Try.func26, Try.ntmps26
  go_wp2
  go_rounds 9
  go_returns
  exact ⟨rfl, by repeat (first | exact Ext.refl _ | assumption | refine Ext.drew ?_ | refine Ext.alloc ?_ _ | refine Ext.trans ?_ (by assumption))⟩

set_option maxHeartbeats 1000000 in
theorem scaled_any (f : Nat → Int) (n : Int) (w : World) (hg : ∀ j, j < 8 → -1000000000000 ≤ f j * n ∧ f j * n ≤ 1000000000000) :
    Calls Try.prog 24 #[cycV f, .int .i64 n] w fun e w' => e = .returned (cycV fun j => f j * n) ∧ Ext w w' := by
  obtain ⟨c0, d0⟩ := hg 0 (by omega); obtain ⟨c1, d1⟩ := hg 1 (by omega); obtain ⟨c2, d2⟩ := hg 2 (by omega); obtain ⟨c3, d3⟩ := hg 3 (by omega)
  obtain ⟨c4, d4⟩ := hg 4 (by omega); obtain ⟨c5, d5⟩ := hg 5 (by omega); obtain ⟨c6, d6⟩ := hg 6 (by omega); obtain ⟨c7, d7⟩ := hg 7 (by omega)
  clear hg
  go_enter Try.func24, Try.ntmps24
  go_wp2
  go_rounds 9
  go_returns
  exact ⟨rfl, by repeat (first | exact Ext.refl _ | assumption | refine Ext.drew ?_ | refine Ext.alloc ?_ _ | refine Ext.trans ?_ (by assumption))⟩

/-- a point with whole parts -/
def gaussF (re im : Int) : Nat → Int := fun j => if j = 0 then re else if j = 6 then im else 0

theorem l2Gauss_any (re im : Int) (w : World) : Calls Try.prog 33 #[.int .i64 re, .int .i64 im] w fun e w' => e = .returned (cycV (gaussF re im)) ∧ Ext w w' := by
  go_enter Try.func33, Try.ntmps33
  go_wp2
  go_returns
  exact ⟨rfl, by repeat (first | exact Ext.refl _ | assumption | refine Ext.drew ?_ | refine Ext.alloc ?_ _ | refine Ext.trans ?_ (by assumption))⟩

end Go.Proofs.Ytlngnebpgphceaa
