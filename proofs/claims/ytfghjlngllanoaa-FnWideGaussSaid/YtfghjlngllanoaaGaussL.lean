/- Whole points are exact (P32): spec's walk and the law's. -/
import Derived.Test.YtfghjlngllanoaaGaussD
namespace Go.Proofs.Ytfghjlngllanoaa
open Go.ChangeShapes Go.WideShapes Go.ChangeAt Go.RowKit
set_option linter.unusedVariables false
set_option maxRecDepth 100000

theorem okW_guard {x : Nat} (h : guardW x = false) : okW x = false := by simp [okW, h]
set_option maxHeartbeats 2000000 in
theorem sWideGaussOut (x y : Nat) (hx : WPart x) (hy : WPart y) (hg : (guardW x && guardW y) = false) (w : World) : Calls Try.prog 10 #[.complex .f64 x y] w fun e w' => e = .returned (tupCB (gM x y)) ∧ Ext w w' := by
  have j0 := Blk.new w (cyc8 fun _ => 0) 27
  have x0 : Ext w (w.alloc (.cells (cyc8 fun _ => 0).toArray 27)) := by repeat (first | exact Ext.refl _ | assumption | refine Ext.drew ?_ | refine Ext.alloc ?_ _ | refine Ext.trans ?_ (by assumption))
  have hbld := buildCyc
  have H := Lib.hid (show gM x y = (fun _ => 0, false) from by
    unfold gM okW
    cases h1 : guardW x <;> cases h2 : guardW y <;> simp_all)
  have hx1 := (wfacts hx).1
  have hy1 := (wfacts hy).1
  rw [← hx1, ← hy1] at hg
  clear hx1 hy1 hx hy
  unfold geP leP at hg
  cases e1 : (FloatKind.f64.format.order x 13920209183539462144 == some .gt || FloatKind.f64.format.order x 13920209183539462144 == some .eq) <;> cases e2 : (FloatKind.f64.format.order x 4696837146684686336 == some .lt || FloatKind.f64.format.order x 4696837146684686336 == some .eq)
    <;> cases e3 : (FloatKind.f64.format.order y 13920209183539462144 == some .gt || FloatKind.f64.format.order y 13920209183539462144 == some .eq) <;> cases e4 : (FloatKind.f64.format.order y 4696837146684686336 == some .lt || FloatKind.f64.format.order y 4696837146684686336 == some .eq)
  all_goals first
    | (exfalso; rw [e1, e2, e3, e4] at hg; cases hg; done)
    | (clear hg
       go_enter Try.func10, Try.ntmps10
       go_wp2_with (refine store_cyc infoCyc (x := .tmp 2) (y := .tmp 25) w.heap.size (fun _ => 0) _ rfl rfl j0 rfl ?_)
       intro w3 k3 z3
       have x3 := z3.ext x0 (by omega)
       have c3 := k3.cell
       clear z3 x0 j0
       go_wp2
       exact bodyPost_ret (v := .tuple #[cycV fun _ => 0, .bool false]) (by simp [results, Try.results10, go_sem, c3]) rfl ⟨by rw [H.out]; rfl, x3⟩)

theorem gauss_ok {a b : Int} (a1 : -20 ≤ a) (a2 : a ≤ 20) (b1 : -20 ≤ b) (b2 : b ≤ 20) : cycOk (gaussF a b) = true := by
  unfold cycOk gaussF
  simp only [Bool.and_eq_true]
  refine ⟨⟨⟨⟨⟨⟨⟨inR_true ?_ ?_, inR_true ?_ ?_⟩, inR_true ?_ ?_⟩, inR_true ?_ ?_⟩, inR_true ?_ ?_⟩, inR_true ?_ ?_⟩, inR_true ?_ ?_⟩, inR_true ?_ ?_⟩
  all_goals (simp; try omega)
set_option maxHeartbeats 2000000 in
theorem sWideGaussIn (x y : Nat) (hx : WPart x) (hy : WPart y) (hgx : guardW x = true) (hgy : guardW y = true) (w : World) : Calls Try.prog 10 #[.complex .f64 x y] w fun e w' => e = .returned (tupCB (gM x y)) ∧ Ext w w' := by
  have j0 := Blk.new w (cyc8 fun _ => 0) 27
  have x0 : Ext w (w.alloc (.cells (cyc8 fun _ => 0).toArray 27)) := by repeat (first | exact Ext.refl _ | assumption | refine Ext.drew ?_ | refine Ext.alloc ?_ _ | refine Ext.trans ?_ (by assumption))
  have hbld := buildCyc
  obtain ⟨gx, fx⟩ := wfacts hx
  obtain ⟨gy, fy⟩ := wfacts hy
  obtain ⟨_, x2, x3, x4, x5⟩ := fx hgx
  obtain ⟨_, y2, y3, y4, y5⟩ := fy hgy
  rw [hgx] at gx
  rw [hgy] at gy
  simp only [Bool.and_eq_true] at gx gy
  obtain ⟨a1, a2⟩ := gx
  obtain ⟨b1, b2⟩ := gy
  unfold geP at a1 b1
  unfold leP at a2 b2
  have ok := gauss_ok x3 x4 y3 y4
  have DM := Lib.hid (show doneM (gaussF (intW x) (intW y)) = (gaussF (intW x) (intW y), true) from by simp [doneM, ok])
  have hc1 : ∀ w, (convert 40 3 (.float .f64 x)).run Try.prog w = .ok (.int .i64 (intW x)) w := fun w => run_convert_float_int w _ _ .f64 .i64 _ _ (by rw [Try.underlying40]; rfl) Try.underlying3 x2
  have hc2 : ∀ w, (convert 40 3 (.float .f64 y)).run Try.prog w = .ok (.int .i64 (intW y)) w := fun w => run_convert_float_int w _ _ .f64 .i64 _ _ (by rw [Try.underlying40]; rfl) Try.underlying3 y2
  have hG : gM x y = if eqW x (trW x) && eqW y (trW y) then (gaussF (intW x) (intW y), true) else (fun _ => 0, false) := by simp [gM, okW, hgx, hgy]
  rw [← x5, ← y5] at hG
  have H := Lib.hid hG
  clear ok x2 x3 x4 x5 y2 y3 y4 y5 fx fy hG hgx hgy hx hy
  unfold eqW at H
  cases e1 : (FloatKind.f64.format.order (floatOfInt .f64 (intW x)) x == some .eq) <;> cases e2 : (FloatKind.f64.format.order (floatOfInt .f64 (intW y)) y == some .eq)
  all_goals first
    | (have H2 := H.out
       rw [e1, e2] at H2
       simp only [Bool.false_and, Bool.and_false, Bool.false_eq_true, if_false] at H2
       have H3 := Lib.hid H2
       clear H H2 DM
       go_enter Try.func10, Try.ntmps10
       go_wp2_with (refine store_cyc infoCyc (x := .tmp 2) (y := .tmp 35) w.heap.size (fun _ => 0) _ rfl rfl j0 rfl ?_)
       intro w3 k3 z3
       have x3 := z3.ext x0 (by omega)
       have c3 := k3.cell
       clear z3 x0 j0
       go_wp2
       exact bodyPost_ret (v := .tuple #[cycV fun _ => 0, .bool false]) (by simp [results, Try.results10, go_sem, c3]) rfl ⟨by rw [H3.out]; rfl, x3⟩)
    | skip
  have H2 := H.out
  rw [e1, e2] at H2
  simp only [Bool.and_self, if_true] at H2
  have H3 := Lib.hid H2
  clear H H2
  go_enter Try.func10, Try.ntmps10
  go_wp2_with fail
  refine (sCycGauss_any (intW x) (intW y) _).mono ?_
  rintro e w2 ⟨rfl, x2⟩
  rw [DM.out]; dsimp only [tupCB]
  have j2 := j0.keep x2
  have y2 := x0.trans x2
  clear j0 x0 x2
  go_wp2_with (refine store_cyc infoCyc (x := .tmp 2) (y := .tmp 41) w.heap.size (gaussF (intW x) (intW y)) _ rfl rfl j2 rfl ?_)
  intro w3 k3 z3
  have x3 := z3.ext y2 (by omega)
  have c3 := k3.cell
  clear z3 y2 j2
  go_wp2
  exact bodyPost_ret (v := .tuple #[cycV (gaussF (intW x) (intW y)), .bool true]) (by simp [results, Try.results10, go_sem, c3]) rfl ⟨by rw [H3.out]; rfl, x3⟩

end Go.Proofs.Ytfghjlngllanoaa
