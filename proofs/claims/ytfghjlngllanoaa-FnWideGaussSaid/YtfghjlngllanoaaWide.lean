/- Wide and single roots and points (chapter 4), of impl and of spec: their walks. Written by mk_wide.py. -/
import Derived.Test.YtfghjlngllanoaaCyc2
import Derived.Test.YtfghjlngllanoaaWideP
import Derived.WalkLawsBesides
import Derived.Laws.ComplexArith
namespace Go.Proofs.Ytfghjlngllanoaa
open Go.ChangeShapes Go.WideShapes Go.ChangeAt Go.RowKit
set_option linter.unusedVariables false
set_option maxRecDepth 100000

theorem iroot_any (i : Nat) (hi : i < 8) (w : World) : Calls Try.prog 56 #[.int .i64 (i : Int)] w fun e w' => e = .returned (.complex .f64 (rRe i) (rIm i)) ∧ w = w' := by
  obtain rfl | rfl | rfl | rfl | rfl | rfl | rfl | rfl : i = 0 ∨ i = 1 ∨ i = 2 ∨ i = 3 ∨ i = 4 ∨ i = 5 ∨ i = 6 ∨ i = 7 := by omega
  all_goals
    go_enter Try.func56, Try.ntmps56
    go_wp2
    go_ret
    exact ⟨rfl, rfl⟩

theorem irootR_any (i : Nat) (hi : i < 8) (w : World) : Calls Try.prog 56 #[.int .i64 (i : Int)] w fun e w' => e = .returned (.complex .f64 (rootRe .f64 i) (rootIm .f64 i)) ∧ w = w' := by
  rw [rootRe_f64, rootIm_f64]; exact iroot_any i hi w

theorem sroot_any (i : Nat) (hi : i < 8) (w : World) : Calls Try.prog 40 #[.int .i64 (i : Int)] w fun e w' => e = .returned (.complex .f64 (rRe i) (rIm i)) ∧ w = w' := by
  obtain rfl | rfl | rfl | rfl | rfl | rfl | rfl | rfl : i = 0 ∨ i = 1 ∨ i = 2 ∨ i = 3 ∨ i = 4 ∨ i = 5 ∨ i = 6 ∨ i = 7 := by omega
  all_goals
    go_enter Try.func40, Try.ntmps40
    go_wp2
    go_ret
    exact ⟨rfl, rfl⟩

theorem srootR_any (i : Nat) (hi : i < 8) (w : World) : Calls Try.prog 40 #[.int .i64 (i : Int)] w fun e w' => e = .returned (.complex .f64 (rootRe .f64 i) (rootIm .f64 i)) ∧ w = w' := by
  rw [rootRe_f64, rootIm_f64]; exact sroot_any i hi w

/-- an index into an array of eight -/
theorem idxW (f : Nat → Int) (k : Nat) (hk : k < 8) (w : World) : (Instr.index 25 (cycV f) (.int .i64 (k : Int))).run Try.prog w = .ok (.int .i64 (f k)) w := by
  obtain rfl | rfl | rfl | rfl | rfl | rfl | rfl | rfl : k = 0 ∨ k = 1 ∨ k = 2 ∨ k = 3 ∨ k = 4 ∨ k = 5 ∨ k = 6 ∨ k = 7 := by omega
  · exact idx0 f w
  · exact idx1 f w
  · exact idx2 f w
  · exact idx3 f w
  · exact idx4 f w
  · exact idx5 f w
  · exact idx6 f w
  · exact idx7 f w

/-- what WideRoot answers -/
def rootCM (k : FloatKind) (n : Int) : (Nat × Nat) × Bool := if inR 0 7 n then ((rootRe k n.toNat, rootIm k n.toNat), true) else ((0, 0), false)
def tupXB (k : FloatKind) (p : (Nat × Nat) × Bool) : Value := .tuple #[.complex k p.1.1 p.1.2, .bool p.2]
theorem in07 {n : Int} (h : inR 0 7 n = true) : ∃ i : Nat, i < 8 ∧ n = (i : Int) := by
  have := inR_of h
  exact ⟨n.toNat, by omega, by omega⟩
/-- what WidePoint answers -/
def pointM (k : FloatKind) (f : Nat → Int) : (Nat × Nat) × Bool := if cycOk f then (pointP k f 8, true) else ((0, 0), false)
theorem cyc8_get (f : Nat → Int) (k : Nat) (hk : k < 8) : (cyc8 f)[k]? = some (.int .i64 (f k)) := by
  obtain rfl | rfl | rfl | rfl | rfl | rfl | rfl | rfl : k = 0 ∨ k = 1 ∨ k = 2 ∨ k = 3 ∨ k = 4 ∨ k = 5 ∨ k = 6 ∨ k = 7 := by omega
  all_goals rfl

set_option maxHeartbeats 1000000 in
theorem sWidePoint_any (f : Nat → Int) (w : World) : Calls Try.prog 22 #[cycV f] w fun e w' => e = .returned (tupXB .f64 (pointM .f64 f)) ∧ Ext w w' := by
  have j0 := Blk.new w (cyc8 f) 27
  have x0 : Ext w (w.alloc (.cells (cyc8 f).toArray 27)) := by repeat (first | exact Ext.refl _ | assumption | refine Ext.drew ?_ | refine Ext.alloc ?_ _ | refine Ext.trans ?_ (by assumption))
  by_cases hv : cycOk f = true
  · have H := Lib.hid (show pointM .f64 f = (pointP .f64 f 8, true) from by simp [pointM, hv])
    have hf := cycOk_bd hv
    have HF := Lib.hid hf
    clear hf
    go_enter Try.func22, Try.ntmps22
    go_wp2_with fail
    refine (sCycValid_any _ _).mono ?_
    rintro e w1 ⟨rfl, x1⟩
    have k1 := j0.keep x1
    have y1 := x0.trans x1
    clear j0 x0 x1
    go_wp2
    go_loop [4, 5] (fun z i => ∃ k : Nat, k ≤ 8 ∧ i = .int .i64 (k : Int) ∧ z = .complex .f64 (pointP .f64 f k).1 (pointP .f64 f k).2) (fun _ i => 8 - (intOf i).toNat)
    case atStart => exact ⟨0, by omega, rfl, rfl⟩
    case round =>
      obtain ⟨k, hk, rfl, rfl⟩ := hrel
      have hf := HF.out
      by_cases hlt : k < 8
      · have hcell : w1.cell? ⟨w.heap.size, k, none⟩ = some (.int .i64 (f k)) := by rw [k1.cell, cyc8_get f k hlt]
        have HK : k < 8 := hlt
        have hm1 : ∀ t w, (binOp .mul t (.float .f64 (floatOfInt .f64 (f k))) (.float .f64 (rootRe .f64 k))).run Try.prog w = .ok (.float .f64 (termRe .f64 (f k) k)) w := fun t w => run_float_arith w .mul t .f64 _ _ _ (termRe_ok .f64 (hf k hlt) hlt).1
        have hm2 : ∀ t w, (binOp .mul t (.float .f64 (floatOfInt .f64 (f k))) (.float .f64 (rootIm .f64 k))).run Try.prog w = .ok (.float .f64 (termIm .f64 (f k) k)) w := fun t w => run_float_arith w .mul t .f64 _ _ _ (termIm_ok .f64 (hf k hlt) hlt).1
        have hs : ∀ t w, (binOp .add t (.complex .f64 (pointP .f64 f k).1 (pointP .f64 f k).2) (.complex .f64 (termRe .f64 (f k) k) (termIm .f64 (f k) k))).run Try.prog w = .ok (.complex .f64 (pointP .f64 f (k + 1)).1 (pointP .f64 f (k + 1)).2) w := fun t w => run_complex_sum w .add (Or.inl rfl) t .f64 _ _ _ _ _ _ (point_step .f64 hf k hlt)
        clear hf k1
        go_wp2_with (first | (go_at_call 40; ((with_reducible refine (srootR_any k HK _).mono ?_); rintro e w' ⟨rfl, rfl⟩)) | fail)
        go_round
        case rel => exact ⟨k + 1, by omega, by go_num, rfl⟩
        case measure => simp [intOf]; omega
      · have hk8 : k = 8 := by omega
        subst hk8
        clear hf
        go_wp2
        go_ret2
        exact ⟨by rw [H.out]; rfl, y1⟩
  · have hv' : cycOk f = false := by simpa using hv
    have H := Lib.hid (show pointM .f64 f = ((0, 0), false) from by simp [pointM, hv'])
    clear hv
    go_enter Try.func22, Try.ntmps22
    go_wp2_with fail
    refine (sCycValid_any _ _).mono ?_
    rintro e w1 ⟨rfl, x1⟩
    have y1 := x0.trans x1
    clear j0 x0 x1
    go_wp2
    go_ret2
    exact ⟨by rw [H.out]; rfl, y1⟩

theorem wterm_any (f : Nat → Int) (hf : ∀ j, j < 8 → -1000000 ≤ f j ∧ f j ≤ 1000000) (k : Nat) (hlt : k < 8) (w : World) : Calls Try.prog 55 #[.int .i64 (f k), .int .i64 (k : Int)] w fun e w' => e = .returned (.complex .f64 (termRe .f64 (f k) k) (termIm .f64 (f k) k)) ∧ w = w' := by
  have HK : k < 8 := hlt
  have hm1 : ∀ t w, (binOp .mul t (.float .f64 (floatOfInt .f64 (f k))) (.float .f64 (rootRe .f64 k))).run Try.prog w = .ok (.float .f64 (termRe .f64 (f k) k)) w := fun t w => run_float_arith w .mul t .f64 _ _ _ (termRe_ok .f64 (hf k hlt) hlt).1
  have hm2 : ∀ t w, (binOp .mul t (.float .f64 (floatOfInt .f64 (f k))) (.float .f64 (rootIm .f64 k))).run Try.prog w = .ok (.float .f64 (termIm .f64 (f k) k)) w := fun t w => run_float_arith w .mul t .f64 _ _ _ (termIm_ok .f64 (hf k hlt) hlt).1
  clear hf
  go_enter Try.func55, Try.ntmps55
  go_wp2_with (first | (go_at_call 56; ((with_reducible refine (irootR_any k HK _).mono ?_); rintro e w' ⟨rfl, rfl⟩)) | fail)
  go_ret
  exact ⟨rfl, rfl⟩

set_option maxHeartbeats 1000000 in
theorem wsummed_any (f : Nat → Int) (hf : ∀ j, j < 8 → -1000000 ≤ f j ∧ f j ≤ 1000000) (w : World) : Calls Try.prog 54 #[cycV f, .func (.func 55) #[] #[]] w fun e w' => e = .returned (.complex .f64 (pointP .f64 f 8).1 (pointP .f64 f 8).2) ∧ Ext w w' := by
  have x0 : Ext w (w.alloc (.cells (cyc8 f).toArray 27)) := by repeat (first | exact Ext.refl _ | assumption | refine Ext.drew ?_ | refine Ext.alloc ?_ _ | refine Ext.trans ?_ (by assumption))
  have HF := Lib.hid hf
  clear hf
  go_enter Try.func54, Try.ntmps54
  go_wp2
  go_loop [5, 10] (fun z i => ∃ k : Nat, k ≤ 8 ∧ i = .int .i64 (k : Int) ∧ z = .complex .f64 (pointP .f64 f k).1 (pointP .f64 f k).2) (fun _ i => 8 - (intOf i).toNat)
  case atStart => exact ⟨0, by omega, by go_num, rfl⟩
  case round =>
    obtain ⟨k, hk, rfl, rfl⟩ := hrel
    have hf := HF.out
    by_cases hlt : k < 8
    · have ix := idxW f k hlt
      have HK : k < 8 := hlt
      have hs : ∀ t w, (binOp .add t (.complex .f64 (pointP .f64 f k).1 (pointP .f64 f k).2) (.complex .f64 (termRe .f64 (f k) k) (termIm .f64 (f k) k))).run Try.prog w = .ok (.complex .f64 (pointP .f64 f (k + 1)).1 (pointP .f64 f (k + 1)).2) w := fun t w => run_complex_sum w .add (Or.inl rfl) t .f64 _ _ _ _ _ _ (point_step .f64 hf k hlt)
      clear hf
      go_wp2_with (first | (go_at_call 55; ((with_reducible refine (wterm_any f HF.out k HK _).mono ?_); rintro e w' ⟨rfl, rfl⟩)) | fail)
      go_round
      case rel => exact ⟨k + 1, by omega, by go_num, rfl⟩
      case measure => simp [intOf]; omega
    · have hk8 : k = 8 := by omega
      subst hk8
      clear hf
      go_wp2
      go_ret
      exact ⟨rfl, x0⟩

theorem iwide_any (f : Nat → Int) (hf : ∀ j, j < 8 → -1000000 ≤ f j ∧ f j ≤ 1000000) (w : World) : Calls Try.prog 36 #[cycV f] w fun e w' => e = .returned (.complex .f64 (pointP .f64 f 8).1 (pointP .f64 f 8).2) ∧ Ext w w' := by
  have x0 : Ext w (w.alloc (.cells (cyc8 f).toArray 27)) := by repeat (first | exact Ext.refl _ | assumption | refine Ext.drew ?_ | refine Ext.alloc ?_ _ | refine Ext.trans ?_ (by assumption))
  have HF := Lib.hid hf
  clear hf
  go_enter Try.func36, Try.ntmps36
  go_wp2_with fail
  refine (wsummed_any f HF.out _).mono ?_
  rintro e w1 ⟨rfl, x1⟩
  go_wp2
  go_ret
  exact ⟨rfl, x0.trans x1⟩

set_option maxHeartbeats 1000000 in
theorem iWidePoint_any (f : Nat → Int) (w : World) : Calls Try.prog 11 #[cycV f] w fun e w' => e = .returned (tupXB .f64 (pointM .f64 f)) ∧ Ext w w' := by
  have j0 := Blk.new w (cyc8 f) 27
  have x0 : Ext w (w.alloc (.cells (cyc8 f).toArray 27)) := by repeat (first | exact Ext.refl _ | assumption | refine Ext.drew ?_ | refine Ext.alloc ?_ _ | refine Ext.trans ?_ (by assumption))
  by_cases hv : cycOk f = true
  · have H := Lib.hid (show pointM .f64 f = (pointP .f64 f 8, true) from by simp [pointM, hv])
    have HF := Lib.hid (cycOk_bd hv)
    go_enter Try.func11, Try.ntmps11
    go_wp2_with fail
    refine (valid_any _ _).mono ?_
    rintro e w1 ⟨rfl, x1⟩
    have c1 := (j0.keep x1).cell
    have y1 := x0.trans x1
    clear j0 x0 x1
    go_wp2_with fail
    refine (iwide_any f HF.out _).mono ?_
    rintro e w2 ⟨rfl, x2⟩
    clear c1
    go_wp2
    go_ret2
    exact ⟨by rw [H.out]; rfl, y1.trans x2⟩
  · have hv' : cycOk f = false := by simpa using hv
    have H := Lib.hid (show pointM .f64 f = ((0, 0), false) from by simp [pointM, hv'])
    clear hv
    go_enter Try.func11, Try.ntmps11
    go_wp2_with fail
    refine (valid_any _ _).mono ?_
    rintro e w1 ⟨rfl, x1⟩
    have y1 := x0.trans x1
    clear j0 x0 x1
    go_wp2
    go_ret2
    exact ⟨by rw [H.out]; rfl, y1⟩

set_option maxHeartbeats 1000000 in
theorem sSinglePoint_any (f : Nat → Int) (w : World) : Calls Try.prog 15 #[cycV f] w fun e w' => e = .returned (tupXB .f32 (pointM .f32 f)) ∧ Ext w w' := by
  have j0 := Blk.new w (cyc8 f) 27
  have x0 : Ext w (w.alloc (.cells (cyc8 f).toArray 27)) := by repeat (first | exact Ext.refl _ | assumption | refine Ext.drew ?_ | refine Ext.alloc ?_ _ | refine Ext.trans ?_ (by assumption))
  by_cases hv : cycOk f = true
  · have H := Lib.hid (show pointM .f32 f = (pointP .f32 f 8, true) from by simp [pointM, hv])
    have hf := cycOk_bd hv
    have HF := Lib.hid hf
    clear hf
    go_enter Try.func15, Try.ntmps15
    go_wp2_with fail
    refine (sCycValid_any _ _).mono ?_
    rintro e w1 ⟨rfl, x1⟩
    have k1 := j0.keep x1
    have y1 := x0.trans x1
    clear j0 x0 x1
    go_wp2
    go_loop [4, 5] (fun z i => ∃ k : Nat, k ≤ 8 ∧ i = .int .i64 (k : Int) ∧ z = .complex .f32 (pointP .f32 f k).1 (pointP .f32 f k).2) (fun _ i => 8 - (intOf i).toNat)
    case atStart => exact ⟨0, by omega, rfl, rfl⟩
    case round =>
      obtain ⟨k, hk, rfl, rfl⟩ := hrel
      have hf := HF.out
      by_cases hlt : k < 8
      · have hcell : w1.cell? ⟨w.heap.size, k, none⟩ = some (.int .i64 (f k)) := by rw [k1.cell, cyc8_get f k hlt]
        have HK : k < 8 := hlt
        have hm1 : ∀ t w, (binOp .mul t (.float .f32 (floatOfInt .f32 (f k))) (.float .f32 (rootRe .f32 k))).run Try.prog w = .ok (.float .f32 (termRe .f32 (f k) k)) w := fun t w => run_float_arith w .mul t .f32 _ _ _ (termRe_ok .f32 (hf k hlt) hlt).1
        have hm2 : ∀ t w, (binOp .mul t (.float .f32 (floatOfInt .f32 (f k))) (.float .f32 (rootIm .f32 k))).run Try.prog w = .ok (.float .f32 (termIm .f32 (f k) k)) w := fun t w => run_float_arith w .mul t .f32 _ _ _ (termIm_ok .f32 (hf k hlt) hlt).1
        have hs : ∀ t w, (binOp .add t (.complex .f32 (pointP .f32 f k).1 (pointP .f32 f k).2) (.complex .f32 (termRe .f32 (f k) k) (termIm .f32 (f k) k))).run Try.prog w = .ok (.complex .f32 (pointP .f32 f (k + 1)).1 (pointP .f32 f (k + 1)).2) w := fun t w => run_complex_sum w .add (Or.inl rfl) t .f32 _ _ _ _ _ _ (point_step .f32 hf k hlt)
        have hc : ∀ w, (convert 23 35 (.complex .f64 (rRe k) (rIm k))).run Try.prog w = .ok (.complex .f32 (rootRe .f32 k) (rootIm .f32 k)) w := fun w => run_convert_complex w _ _ .f64 .f32 _ _ _ _ (by rw [Try.underlying23]; rfl) Try.underlying35 (root_conv .f32 k HK)
        clear hf k1
        go_wp2_with (first | (go_at_call 40; ((with_reducible refine (sroot_any k HK _).mono ?_); rintro e w' ⟨rfl, rfl⟩)) | fail)
        go_round
        case rel => exact ⟨k + 1, by omega, by go_num, rfl⟩
        case measure => simp [intOf]; omega
      · have hk8 : k = 8 := by omega
        subst hk8
        clear hf
        go_wp2
        go_ret2
        exact ⟨by rw [H.out]; rfl, y1⟩
  · have hv' : cycOk f = false := by simpa using hv
    have H := Lib.hid (show pointM .f32 f = ((0, 0), false) from by simp [pointM, hv'])
    clear hv
    go_enter Try.func15, Try.ntmps15
    go_wp2_with fail
    refine (sCycValid_any _ _).mono ?_
    rintro e w1 ⟨rfl, x1⟩
    have y1 := x0.trans x1
    clear j0 x0 x1
    go_wp2
    go_ret2
    exact ⟨by rw [H.out]; rfl, y1⟩

theorem sterm_any (f : Nat → Int) (hf : ∀ j, j < 8 → -1000000 ≤ f j ∧ f j ≤ 1000000) (k : Nat) (hlt : k < 8) (w : World) : Calls Try.prog 58 #[.int .i64 (f k), .int .i64 (k : Int)] w fun e w' => e = .returned (.complex .f32 (termRe .f32 (f k) k) (termIm .f32 (f k) k)) ∧ w = w' := by
  have HK : k < 8 := hlt
  have hm1 : ∀ t w, (binOp .mul t (.float .f32 (floatOfInt .f32 (f k))) (.float .f32 (rootRe .f32 k))).run Try.prog w = .ok (.float .f32 (termRe .f32 (f k) k)) w := fun t w => run_float_arith w .mul t .f32 _ _ _ (termRe_ok .f32 (hf k hlt) hlt).1
  have hm2 : ∀ t w, (binOp .mul t (.float .f32 (floatOfInt .f32 (f k))) (.float .f32 (rootIm .f32 k))).run Try.prog w = .ok (.float .f32 (termIm .f32 (f k) k)) w := fun t w => run_float_arith w .mul t .f32 _ _ _ (termIm_ok .f32 (hf k hlt) hlt).1
  have hc : ∀ w, (convert 23 35 (.complex .f64 (rRe k) (rIm k))).run Try.prog w = .ok (.complex .f32 (rootRe .f32 k) (rootIm .f32 k)) w := fun w => run_convert_complex w _ _ .f64 .f32 _ _ _ _ (by rw [Try.underlying23]; rfl) Try.underlying35 (root_conv .f32 k HK)
  clear hf
  go_enter Try.func58, Try.ntmps58
  go_wp2_with (first | (go_at_call 56; ((with_reducible refine (iroot_any k HK _).mono ?_); rintro e w' ⟨rfl, rfl⟩)) | fail)
  go_ret
  exact ⟨rfl, rfl⟩

set_option maxHeartbeats 1000000 in
theorem ssummed_any (f : Nat → Int) (hf : ∀ j, j < 8 → -1000000 ≤ f j ∧ f j ≤ 1000000) (w : World) : Calls Try.prog 57 #[cycV f, .func (.func 58) #[] #[]] w fun e w' => e = .returned (.complex .f32 (pointP .f32 f 8).1 (pointP .f32 f 8).2) ∧ Ext w w' := by
  have x0 : Ext w (w.alloc (.cells (cyc8 f).toArray 27)) := by repeat (first | exact Ext.refl _ | assumption | refine Ext.drew ?_ | refine Ext.alloc ?_ _ | refine Ext.trans ?_ (by assumption))
  have HF := Lib.hid hf
  clear hf
  go_enter Try.func57, Try.ntmps57
  go_wp2
  go_loop [5, 10] (fun z i => ∃ k : Nat, k ≤ 8 ∧ i = .int .i64 (k : Int) ∧ z = .complex .f32 (pointP .f32 f k).1 (pointP .f32 f k).2) (fun _ i => 8 - (intOf i).toNat)
  case atStart => exact ⟨0, by omega, by go_num, rfl⟩
  case round =>
    obtain ⟨k, hk, rfl, rfl⟩ := hrel
    have hf := HF.out
    by_cases hlt : k < 8
    · have ix := idxW f k hlt
      have HK : k < 8 := hlt
      have hs : ∀ t w, (binOp .add t (.complex .f32 (pointP .f32 f k).1 (pointP .f32 f k).2) (.complex .f32 (termRe .f32 (f k) k) (termIm .f32 (f k) k))).run Try.prog w = .ok (.complex .f32 (pointP .f32 f (k + 1)).1 (pointP .f32 f (k + 1)).2) w := fun t w => run_complex_sum w .add (Or.inl rfl) t .f32 _ _ _ _ _ _ (point_step .f32 hf k hlt)
      clear hf
      go_wp2_with (first | (go_at_call 58; ((with_reducible refine (sterm_any f HF.out k HK _).mono ?_); rintro e w' ⟨rfl, rfl⟩)) | fail)
      go_round
      case rel => exact ⟨k + 1, by omega, by go_num, rfl⟩
      case measure => simp [intOf]; omega
    · have hk8 : k = 8 := by omega
      subst hk8
      clear hf
      go_wp2
      go_ret
      exact ⟨rfl, x0⟩

theorem isingle_any (f : Nat → Int) (hf : ∀ j, j < 8 → -1000000 ≤ f j ∧ f j ≤ 1000000) (w : World) : Calls Try.prog 37 #[cycV f] w fun e w' => e = .returned (.complex .f32 (pointP .f32 f 8).1 (pointP .f32 f 8).2) ∧ Ext w w' := by
  have x0 : Ext w (w.alloc (.cells (cyc8 f).toArray 27)) := by repeat (first | exact Ext.refl _ | assumption | refine Ext.drew ?_ | refine Ext.alloc ?_ _ | refine Ext.trans ?_ (by assumption))
  have HF := Lib.hid hf
  clear hf
  go_enter Try.func37, Try.ntmps37
  go_wp2_with fail
  refine (ssummed_any f HF.out _).mono ?_
  rintro e w1 ⟨rfl, x1⟩
  go_wp2
  go_ret
  exact ⟨rfl, x0.trans x1⟩

set_option maxHeartbeats 1000000 in
theorem iSinglePoint_any (f : Nat → Int) (w : World) : Calls Try.prog 14 #[cycV f] w fun e w' => e = .returned (tupXB .f32 (pointM .f32 f)) ∧ Ext w w' := by
  have j0 := Blk.new w (cyc8 f) 27
  have x0 : Ext w (w.alloc (.cells (cyc8 f).toArray 27)) := by repeat (first | exact Ext.refl _ | assumption | refine Ext.drew ?_ | refine Ext.alloc ?_ _ | refine Ext.trans ?_ (by assumption))
  by_cases hv : cycOk f = true
  · have H := Lib.hid (show pointM .f32 f = (pointP .f32 f 8, true) from by simp [pointM, hv])
    have HF := Lib.hid (cycOk_bd hv)
    go_enter Try.func14, Try.ntmps14
    go_wp2_with fail
    refine (valid_any _ _).mono ?_
    rintro e w1 ⟨rfl, x1⟩
    have c1 := (j0.keep x1).cell
    have y1 := x0.trans x1
    clear j0 x0 x1
    go_wp2_with fail
    refine (isingle_any f HF.out _).mono ?_
    rintro e w2 ⟨rfl, x2⟩
    clear c1
    go_wp2
    go_ret2
    exact ⟨by rw [H.out]; rfl, y1.trans x2⟩
  · have hv' : cycOk f = false := by simpa using hv
    have H := Lib.hid (show pointM .f32 f = ((0, 0), false) from by simp [pointM, hv'])
    clear hv
    go_enter Try.func14, Try.ntmps14
    go_wp2_with fail
    refine (valid_any _ _).mono ?_
    rintro e w1 ⟨rfl, x1⟩
    have y1 := x0.trans x1
    clear j0 x0 x1
    go_wp2
    go_ret2
    exact ⟨by rw [H.out]; rfl, y1⟩

end Go.Proofs.Ytfghjlngllanoaa
