/- The exact laws on wide and single roots and points (chapter 4). Written by mk_widel.py. -/
import Derived.Test.YtfghjlngllanoaaWide
import Derived.Deep.RegionHeld3
import Derived.Deep.DeepCutAuto
namespace Go.Proofs.Ytfghjlngllanoaa
open Go.ChangeShapes Go.WideShapes Go.ChangeAt Go.RowKit
set_option linter.unusedVariables false
set_option maxRecDepth 100000

/-- x is a number of the width k -/
def IsNum (k : FloatKind) (x : Nat) : Prop := ∃ s v, Num k.format x s v
theorem KB.isNum {k : FloatKind} {E x : Nat} (h : KB k E x) : IsNum k x := h.num
theorem isNum_zero (k : FloatKind) : IsNum k 0 := (zero_ok k 0).isNum
theorem IsNum.self {k : FloatKind} {x : Nat} (h : IsNum k x) : k.format.order x x = some .eq := by
  obtain ⟨s, v, h⟩ := h; exact h.notNaN
theorem IsNum.inv {x : Nat} (h : IsNum .f64 x) : ∃ r, (∀ (P : Program) t w, (binOp .quo t (.float .f64 4607182418800017408) (.float .f64 x)).run P w = .ok (.float .f64 r) w) ∧ FloatKind.f64.format.order r r = some .eq := by
  obtain ⟨s, v, h⟩ := h
  obtain ⟨r, h1, h2⟩ := inv_ok h
  exact ⟨r, fun P t w => run_float_arith w .quo t .f64 _ _ _ h1, h2⟩

theorem zeroAlike_any (x : Nat) (h : IsNum .f64 x) (w : World) : Calls Try.prog 45 #[.float .f64 x, .float .f64 x] w fun e w' => e = .returned (.bool true) ∧ w = w' := by
  have hx := h.self
  obtain ⟨r, hq0, hr⟩ := h.inv
  have hq := hq0 Try.prog
  clear hq0
  go_enter Try.func45, Try.ntmps45
  go_wp2
  go_ret
  exact ⟨rfl, rfl⟩

theorem wideAlike_any (x y : Nat) (hx : IsNum .f64 x) (hy : IsNum .f64 y) (w : World) : Calls Try.prog 23 #[.complex .f64 x y, .complex .f64 x y] w fun e w' => e = .returned (.bool true) ∧ w = w' := by
  go_enter Try.func23, Try.ntmps23
  go_wp2_with (first | (go_at_call 45; ((with_reducible refine (zeroAlike_any x hx _).mono ?_); rintro e w' ⟨rfl, rfl⟩)) | (go_at_call 45; ((with_reducible refine (zeroAlike_any y hy _).mono ?_); rintro e w' ⟨rfl, rfl⟩)))
  go_ret
  exact ⟨rfl, rfl⟩

theorem singleAlike_any {E F : Nat} (x y : Nat) (hx : KB .f32 E x) (hy : KB .f32 F y) (hE : E ≤ 60) (hF : F ≤ 60) (w : World) : Calls Try.prog 16 #[.complex .f32 x y, .complex .f32 x y] w fun e w' => e = .returned (.bool true) ∧ w = w' := by
  have hc : ∀ w, (convert 35 23 (.complex .f32 x y)).run Try.prog w = .ok (.complex .f64 (widen x) (widen y)) w := fun w => run_convert_complex w _ _ .f32 .f64 _ _ _ _ (by rw [Try.underlying35]; rfl) Try.underlying23 (widen_conv hx hy hE hF)
  have h1 := (widen_ok hx hE).2.isNum
  have h2 := (widen_ok hy hF).2.isNum
  go_enter Try.func16, Try.ntmps16
  go_wp2_with (go_at_call 23; ((with_reducible refine (wideAlike_any _ _ h1 h2 _).mono ?_); rintro e w' ⟨rfl, rfl⟩))
  go_ret
  exact ⟨rfl, rfl⟩

theorem rootCM_num (k : FloatKind) (n : Int) : KB k 0 (rootCM k n).1.1 ∧ KB k 0 (rootCM k n).1.2 := by
  unfold rootCM
  by_cases h : inR 0 7 n = true
  · rw [if_pos h]
    have := inR_of h
    exact ⟨rootRe_ok k (by omega), rootIm_ok k (by omega)⟩
  · rw [if_neg h]; exact ⟨zero_ok k 0, zero_ok k 0⟩
theorem pointM_num (k : FloatKind) (f : Nat → Int) : KB k 28 (pointM k f).1.1 ∧ KB k 28 (pointM k f).1.2 := by
  unfold pointM
  by_cases h : cycOk f = true
  · rw [if_pos h]; exact pointP_ok k (cycOk_bd h) 8 (by omega)
  · rw [if_neg h]; exact ⟨zero_ok k _, zero_ok k _⟩

/-- what PointsFit answers -/
def fitM (f : Nat → Int) : Bool := cycOk f && ((FloatKind.f64.format.order (widen (pointP .f32 f 8).1) (pointP .f64 f 8).1 == some .eq) && (FloatKind.f64.format.order (widen (pointP .f32 f 8).2) (pointP .f64 f 8).2 == some .eq))

set_option maxHeartbeats 1000000 in
theorem sPointsFit_any (f : Nat → Int) (w : World) : Calls Try.prog 19 #[cycV f] w fun e w' => e = .returned (.bool (fitM f)) ∧ Ext w w' := by
  have j0 := Blk.new w (cyc8 f) 27
  have x0 : Ext w (w.alloc (.cells (cyc8 f).toArray 27)) := by repeat (first | exact Ext.refl _ | assumption | refine Ext.drew ?_ | refine Ext.alloc ?_ _ | refine Ext.trans ?_ (by assumption))
  by_cases hv : cycOk f = true
  · have H := Lib.hid (show fitM f = ((FloatKind.f64.format.order (widen (pointP .f32 f 8).1) (pointP .f64 f 8).1 == some .eq) && (FloatKind.f64.format.order (widen (pointP .f32 f 8).2) (pointP .f64 f 8).2 == some .eq)) from by simp [fitM, hv])
    have P1 := Lib.hid (show pointM .f64 f = (pointP .f64 f 8, true) from by simp [pointM, hv])
    have P2 := Lib.hid (show pointM .f32 f = (pointP .f32 f 8, true) from by simp [pointM, hv])
    obtain ⟨h1, h2⟩ := pointP_ok .f32 (cycOk_bd hv) 8 (by omega)
    have hc : ∀ w, (convert 35 23 (.complex .f32 (pointP .f32 f 8).1 (pointP .f32 f 8).2)).run Try.prog w = .ok (.complex .f64 (widen (pointP .f32 f 8).1) (widen (pointP .f32 f 8).2)) w := fun w => run_convert_complex w _ _ .f32 .f64 _ _ _ _ (by rw [Try.underlying35]; rfl) Try.underlying23 (widen_conv h1 h2 (by omega) (by omega))
    clear h1 h2 hv
    go_enter Try.func19, Try.ntmps19
    go_wp2_with fail
    refine (sWidePoint_any f _).mono ?_
    rintro e w1 ⟨rfl, x1⟩
    rw [P1.out]
    dsimp only [tupXB]
    have c1 := (j0.keep x1).cell
    have y1 := x0.trans x1
    clear j0 x0 x1
    go_wp2_with fail
    refine (sSinglePoint_any f _).mono ?_
    rintro e w2 ⟨rfl, x2⟩
    rw [P2.out]
    dsimp only [tupXB]
    have y2 := y1.trans x2
    clear c1 y1 x2
    go_wp2
    go_ret
    exact ⟨by rw [H.out]; rfl, y2⟩
  · have hv' : cycOk f = false := by simpa using hv
    have H := Lib.hid (show fitM f = false from by simp [fitM, hv'])
    have P1 := Lib.hid (show pointM .f64 f = ((0, 0), false) from by simp [pointM, hv'])
    have P2 := Lib.hid (show pointM .f32 f = ((0, 0), false) from by simp [pointM, hv'])
    clear hv hv'
    go_enter Try.func19, Try.ntmps19
    go_wp2_with fail
    refine (sWidePoint_any f _).mono ?_
    rintro e w1 ⟨rfl, x1⟩
    rw [P1.out]
    dsimp only [tupXB]
    have c1 := (j0.keep x1).cell
    have y1 := x0.trans x1
    clear j0 x0 x1
    go_wp2_with fail
    refine (sSinglePoint_any f _).mono ?_
    rintro e w2 ⟨rfl, x2⟩
    rw [P2.out]
    dsimp only [tupXB]
    have y2 := y1.trans x2
    clear c1 y1 x2
    go_wp2
    go_ret
    exact ⟨by rw [H.out]; rfl, y2⟩

set_option maxHeartbeats 1000000 in
theorem iPointsFittrue_any (f : Nat → Int) (hv : cycOk f = true) (w : World) : Calls Try.prog 12 #[cycV f] w fun e w' => e = .returned (.bool (fitM f)) ∧ Ext w w' := by
  have j0 := Blk.new w (cyc8 f) 27
  have x0 : Ext w (w.alloc (.cells (cyc8 f).toArray 27)) := by repeat (first | exact Ext.refl _ | assumption | refine Ext.drew ?_ | refine Ext.alloc ?_ _ | refine Ext.trans ?_ (by assumption))
  have H := Lib.hid (show fitM f = ((FloatKind.f64.format.order (widen (pointP .f32 f 8).1) (pointP .f64 f 8).1 == some .eq) && (FloatKind.f64.format.order (widen (pointP .f32 f 8).2) (pointP .f64 f 8).2 == some .eq)) from by simp [fitM, hv])
  have BF := Lib.hid (cycOk_bd hv)
  obtain ⟨h1, h2⟩ := pointP_ok .f32 (cycOk_bd hv) 8 (by omega)
  have hc : ∀ w, (convert 35 23 (.complex .f32 (pointP .f32 f 8).1 (pointP .f32 f 8).2)).run Try.prog w = .ok (.complex .f64 (widen (pointP .f32 f 8).1) (widen (pointP .f32 f 8).2)) w := fun w => run_convert_complex w _ _ .f32 .f64 _ _ _ _ (by rw [Try.underlying35]; rfl) Try.underlying23 (widen_conv h1 h2 (by omega) (by omega))
  clear h1 h2
  go_enter Try.func12, Try.ntmps12
  go_upto_region 1 with fail
  generalize World.alloc _ _ = W at *
  have z0 : Ext W W.drew := (Ext.refl W).drew
  have c0 := (j0.keep z0).cell
  go_region_held3 (fun w' => Ext W w' ∧ (∀ o, w'.cell? ⟨w.heap.size, o, none⟩ = (cyc8 f)[o]?))
    ((with_reducible refine (fun hx => ⟨hx, (j0.keep hx).cell⟩ : Ext W _ → _) ?_; repeat (first | with_reducible assumption | with_reducible exact Ext.refl _ | with_reducible refine Ext.drew ?_ | with_reducible refine Ext.alloc ?_ _)))
    (first
    | (go_at_call 35; ((with_reducible refine (valid_any f _).mono ?_); rintro e w1 ⟨rfl, x1⟩; have y1 : Ext W w1 := z0.trans x1; have d1 := (j0.keep y1).cell; clear x1))
    | (go_at_call 37; ((with_reducible refine (isingle_any f BF.out _).mono ?_); rintro e w2 ⟨rfl, x2⟩; have y2 : Ext W w2 := (by first | with_reducible exact y1.trans x2 | with_reducible exact y3.trans x2); have d2 := (j0.keep y2).cell; clear x2))
    | (go_at_call 36; ((with_reducible refine (iwide_any f BF.out _).mono ?_); rintro e w3 ⟨rfl, x3⟩; have y3 : Ext W w3 := (by first | with_reducible exact y1.trans x3 | with_reducible exact y2.trans x3); have d3 := (j0.keep y3).cell; clear x3)))
  all_goals
    go_wp2
    go_ret
    exact ⟨by rw [H.out]; rfl, x0.trans (by assumption)⟩

set_option maxHeartbeats 1000000 in
theorem iPointsFitfalse_any (f : Nat → Int) (hv : cycOk f = false) (w : World) : Calls Try.prog 12 #[cycV f] w fun e w' => e = .returned (.bool (fitM f)) ∧ Ext w w' := by
  have j0 := Blk.new w (cyc8 f) 27
  have x0 : Ext w (w.alloc (.cells (cyc8 f).toArray 27)) := by repeat (first | exact Ext.refl _ | assumption | refine Ext.drew ?_ | refine Ext.alloc ?_ _ | refine Ext.trans ?_ (by assumption))
  have H := Lib.hid (show fitM f = false from by simp [fitM, hv])
  go_enter Try.func12, Try.ntmps12
  go_upto_region 1 with fail
  generalize World.alloc _ _ = W at *
  have z0 : Ext W W.drew := (Ext.refl W).drew
  have c0 := (j0.keep z0).cell
  go_region_with
    (first
    | (go_at_call 35; ((with_reducible refine (valid_any f _).mono ?_); rintro e w1 ⟨rfl, x1⟩; have y1 : Ext W w1 := z0.trans x1; have d1 := (j0.keep y1).cell; clear x1))
)
  all_goals
    go_wp2
    go_ret
    exact ⟨by rw [H.out]; rfl, x0.trans (by assumption)⟩

theorem iPointsFit_any (f : Nat → Int) (w : World) : Calls Try.prog 12 #[cycV f] w fun e w' => e = .returned (.bool (fitM f)) ∧ Ext w w' := by
  cases hv : cycOk f
  · exact iPointsFitfalse_any f hv w
  · exact iPointsFittrue_any f hv w

end Go.Proofs.Ytfghjlngllanoaa
