/- Contracts of CycAdd, CycLess, CycScale, CycGauss, of impl and of spec. -/
import Derived.Test.YtfghjlngllanoaaCyc2
namespace Go.Proofs.Ytfghjlngllanoaa
open Go.ChangeShapes Go.WideShapes Go.ChangeAt Go.RowKit
set_option linter.unusedVariables false
set_option maxRecDepth 100000

/-- what CycAdd, CycLess, CycScale and CycGauss return -/
def addM (f g : Nat → Int) : (Nat → Int) × Bool := if cycOk f && cycOk g then doneM (fun j => f j + g j) else (fun _ => 0, false)
def lessM (f g : Nat → Int) : (Nat → Int) × Bool := if cycOk f && cycOk g then doneM (fun j => f j - g j) else (fun _ => 0, false)
def scaleM (f : Nat → Int) (n : Int) : (Nat → Int) × Bool := if cycOk f && inR (-1000000) 1000000 n then doneM (fun j => f j * n) else (fun _ => 0, false)

theorem prod_bd {a n : Int} (ha : -1000000 ≤ a ∧ a ≤ 1000000) (hn : -1000000 ≤ n ∧ n ≤ 1000000) : -1000000000000 ≤ a * n ∧ a * n ≤ 1000000000000 := by
  have h : (a * n).natAbs ≤ 1000000 * 1000000 := by
    rw [Int.natAbs_mul]; exact Nat.mul_le_mul (by omega) (by omega)
  omega

set_option maxHeartbeats 1000000 in
theorem iCycScale_any (f : Nat → Int) (n : Int) (w : World) : Calls Try.prog 20 #[cycV f, .int .i64 n] w fun e w' => e = .returned (tupCB (scaleM f n)) ∧ Ext w w' := by
  have j0 := (Blk.new w (cyc8 f) 27).alloc (.cells (cyc8 fun _ => 0).toArray 27)
  have j2 := Blk.new1 w (.cells (cyc8 f).toArray 27) (cyc8 fun _ => 0) 27
  have x0 : Ext w ((w.alloc (.cells (cyc8 f).toArray 27)).alloc (.cells (cyc8 fun _ => 0).toArray 27)) := by repeat (first | exact Ext.refl _ | assumption | refine Ext.drew ?_ | refine Ext.alloc ?_ _ | refine Ext.trans ?_ (by assumption))
  have hbld := buildCyc
  by_cases hf : cycOk f = true
  · by_cases hn : inR (-1000000) 1000000 n = true
    · have H := Lib.hid (show scaleM f n = doneM (fun j => f j * n) from by simp [scaleM, hf, hn])
      have bf := Lib.hid (cycOk_bd hf)
      have bn := Lib.hid (inR_of hn)
      go_enter Try.func20, Try.ntmps20
      go_wp2_with fail
      refine (valid_any _ _).mono ?_
      rintro e w1 ⟨rfl, x1⟩
      have c1 := (j0.keep x1).cell
      have k2 := j2.keep x1
      have x3 := x0.trans x1
      clear j0 j2 x0 x1
      go_wp2_with (go_at_call 42; ((with_reducible refine (within_any _ _ _ _).mono ?_); rintro e w' ⟨rfl, rfl⟩))
      refine (scaled_any f n _ (fun j hj => prod_bd (bf.out j hj) bn.out)).mono ?_
      rintro e w4 ⟨rfl, x4⟩
      have k4 := k2.keep x4
      have x5 := x3.trans x4
      clear c1 k2 x3 x4
      go_wp2_with fail
      refine (made_any (fun j => f j * n) _).mono ?_
      rw [← H.out]
      rintro e w6 ⟨rfl, x6⟩
      have k6 := k4.keep x6
      have x7 := x5.trans x6
      clear k4 x5 x6
      dsimp only [tupCB]
      go_wp2_with (refine store_cyc infoCyc (x := .tmp 4) (y := .tmp 19) (w.heap.size + 1) (scaleM f n).1 _ rfl rfl k6 rfl ?_)
      intro w8 k8 z8
      have x8 := z8.ext x7 (by omega)
      have c8 := k8.cell
      clear k6 x7 z8
      go_wp2
      exact bodyPost_ret (v := .tuple #[cycV (scaleM f n).1, .bool (scaleM f n).2]) (by simp [results, Try.results20, go_sem, c8]) rfl ⟨rfl, x8⟩

    · have hn' : inR (-1000000) 1000000 n = false := by simpa using hn
      have H := Lib.hid (show scaleM f n = (fun _ => 0, false) from by simp [scaleM, hn'])
      clear hn
      go_enter Try.func20, Try.ntmps20
      go_wp2_with fail
      refine (valid_any _ _).mono ?_
      rintro e w1 ⟨rfl, x1⟩
      have k2 := j2.keep x1
      have x3 := x0.trans x1
      clear j0 j2 x0 x1
      go_wp2_with (first | (go_at_call 42; ((with_reducible refine (within_any _ _ _ _).mono ?_); rintro e w' ⟨rfl, rfl⟩)) | (refine store_cyc infoCyc (x := .tmp 4) (y := .tmp 14) (w.heap.size + 1) (fun _ => 0) _ rfl rfl k2 rfl ?_))
      intro w8 k8 z8
      have x8 := z8.ext x3 (by omega)
      have c8 := k8.cell
      clear k2 x3 z8
      go_wp2
      exact bodyPost_ret (v := .tuple #[cycV fun _ => 0, .bool false]) (by simp [results, Try.results20, go_sem, c8]) rfl ⟨by rw [H.out]; rfl, x8⟩
  · have hf' : cycOk f = false := by simpa using hf
    have H := Lib.hid (show scaleM f n = (fun _ => 0, false) from by simp [scaleM, hf'])
    clear hf
    go_enter Try.func20, Try.ntmps20
    go_wp2_with fail
    refine (valid_any _ _).mono ?_
    rintro e w1 ⟨rfl, x1⟩
    have k2 := j2.keep x1
    have x3 := x0.trans x1
    clear j0 j2 x0 x1
    go_wp2_with (refine store_cyc infoCyc (x := .tmp 4) (y := .tmp 14) (w.heap.size + 1) (fun _ => 0) _ rfl rfl k2 rfl ?_)
    intro w8 k8 z8
    have x8 := z8.ext x3 (by omega)
    have c8 := k8.cell
    clear k2 x3 z8
    go_wp2
    exact bodyPost_ret (v := .tuple #[cycV fun _ => 0, .bool false]) (by simp [results, Try.results20, go_sem, c8]) rfl ⟨by rw [H.out]; rfl, x8⟩

set_option maxHeartbeats 1000000 in
theorem sCycGauss_any (re im : Int) (w : World) : Calls Try.prog 34 #[.int .i64 re, .int .i64 im] w fun e w' => e = .returned (tupCB (doneM (gaussF re im))) ∧ Ext w w' := by
  have j0 := Blk.new w (cyc8 fun _ => 0) 27
  have x0 : Ext w (w.alloc (.cells (cyc8 fun _ => 0).toArray 27)) := by repeat (first | exact Ext.refl _ | assumption | refine Ext.drew ?_ | refine Ext.alloc ?_ _ | refine Ext.trans ?_ (by assumption))
  go_enter Try.func34, Try.ntmps34
  go_wp2_with fail
  refine (l2Gauss_any _ _ _).mono ?_
  rintro e w1 ⟨rfl, x1⟩
  have k4 := j0.keep x1
  have x5 := x0.trans x1
  clear j0 x0 x1
  go_wp2_with fail
  refine (l2Done_any (gaussF re im) _).mono ?_
  rintro e w6 ⟨rfl, x6⟩
  have k6 := k4.keep x6
  have x7 := x5.trans x6
  clear k4 x5 x6
  dsimp only [tupCB]
  go_wp2_with (refine store_cyc infoCyc (x := .tmp 4) (y := .tmp 10) (w.heap.size) (doneM (gaussF re im)).1 _ rfl rfl k6 rfl ?_)
  intro w8 k8 z8
  have x8 := z8.ext x7 (by omega)
  have c8 := k8.cell
  clear k6 x7 z8
  go_wp2
  exact bodyPost_ret (v := .tuple #[cycV (doneM (gaussF re im)).1, .bool (doneM (gaussF re im)).2]) (by simp [results, Try.results34, go_sem, c8]) rfl ⟨rfl, x8⟩

end Go.Proofs.Ytfghjlngllanoaa
