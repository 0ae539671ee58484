/- Contracts of CycAdd, CycLess, CycScale, CycGauss, of impl and of spec. -/
import Derived.Test.YtlngnebpgphceaaCyc2
namespace Go.Proofs.Ytlngnebpgphceaa
open Go.ChangeShapes Go.WideShapes Go.ChangeAt Go.RowKit
set_option linter.unusedVariables false

theorem neg_any (f : Nat → Int) (w : World) (hf : ∀ j, j < 8 → -1000000 ≤ f j ∧ f j ≤ 1000000) : Calls Try.prog 24 #[cycV f, .int .i64 (-1)] w fun e w' => e = .returned (cycV fun j => - f j) ∧ Ext w w' := by
  have := scaled_any f (-1) w (fun j hj => by have := hf j hj; omega)
  have e : (fun j => f j * -1) = fun j => - f j := by funext j; omega
  rwa [e] at this
set_option maxHeartbeats 1000000 in
theorem minus_any (f g : Nat → Int) (w : World) (hf : ∀ j, j < 8 → -1000000 ≤ f j ∧ f j ≤ 1000000) (hg : ∀ j, j < 8 → -1000000 ≤ g j ∧ g j ≤ 1000000) :
    Calls Try.prog 31 #[cycV f, cycV g] w fun e w' => e = .returned (cycV fun j => f j - g j) ∧ Ext w w' := by
  have k0 := ((Blk.new w (cyc8 f) 25).alloc (.cells (cyc8 g).toArray 25)).alloc (.cells (cyc8 fun _ => 0).toArray 25)
  have k2 := Blk.new2 w (.cells (cyc8 f).toArray 25) (.cells (cyc8 g).toArray 25) (cyc8 fun _ => 0) 25
  have x0 : Ext w (((w.alloc (.cells (cyc8 f).toArray 25)).alloc (.cells (cyc8 g).toArray 25)).alloc (.cells (cyc8 fun _ => 0).toArray 25)) := by repeat (first | exact Ext.refl _ | assumption | refine Ext.drew ?_ | refine Ext.alloc ?_ _ | refine Ext.trans ?_ (by assumption))
  have j0 := k0.keep (Ext.refl _).drew
  have j2 := k2.keep (Ext.refl _).drew
  have x0' := x0.drew
  clear k0 k2 x0
  go_enter Try.func31, Try.ntmps31
  go_wp2
  go_region_with (first
    | (go_at_call 24; ((with_reducible refine (neg_any g _ hg).mono ?_); rintro e w1 ⟨rfl, x1⟩; have c0 := (j0.keep x1).cell; have y2 := j2.keep x1; have z1 := x0'.trans x1; clear x1))
    | (go_at_call 26; ((with_reducible refine (plus_any f (fun j => - g j) _ (fun j hj => by have := hf j hj; omega) (fun j hj => by have := hg j hj; omega)).mono ?_); rintro e w2 ⟨rfl, x2⟩; have z2 := z1.trans x2; have m2 := y2.keep x2; have c2 := m2.cell; have f2 := m2.free; clear c0 x2)))
  all_goals
    obtain ⟨w3, e3, m3, x3⟩ := set8 (fun j => f j + - g j) m2 rfl
    rw [e3]
    have z3 := x3.ext z2 (by omega)
    have c3 := m3.cell
    clear e3 x3 m2 c2 f2 y2 z1 z2
    go_wp2
    exact bodyPost_ret (v := cycV fun j => f j + - g j) (by simp [results, Try.results31, go_sem, c3]) rfl ⟨rfl, z3⟩

/-- what CycAdd, CycLess, CycScale and CycGauss return -/
def addM (f g : Nat → Int) : (Nat → Int) × Bool := if cycOk f && cycOk g then doneM (fun j => f j + g j) else (fun _ => 0, false)
def lessM (f g : Nat → Int) : (Nat → Int) × Bool := if cycOk f && cycOk g then doneM (fun j => f j - g j) else (fun _ => 0, false)
def scaleM (f : Nat → Int) (n : Int) : (Nat → Int) × Bool := if cycOk f && inR (-1000000) 1000000 n then doneM (fun j => f j * n) else (fun _ => 0, false)

theorem prod_bd {a n : Int} (ha : -1000000 ≤ a ∧ a ≤ 1000000) (hn : -1000000 ≤ n ∧ n ≤ 1000000) : -1000000000000 ≤ a * n ∧ a * n ≤ 1000000000000 := by
  have h : (a * n).natAbs ≤ 1000000 * 1000000 := by
    rw [Int.natAbs_mul]; exact Nat.mul_le_mul (by omega) (by omega)
  omega

theorem l2SumOne (f g : Nat → Int) (w : World) (hf : ∀ j, j < 8 → -1000000 ≤ f j ∧ f j ≤ 1000000) (hg : ∀ j, j < 8 → -1000000 ≤ g j ∧ g j ≤ 1000000) :
    Calls Try.prog 29 #[cycV f, .int .i64 1, cycV g] w fun e w' => e = .returned (cycV fun j => f j + g j) ∧ Ext w w' := by
  have := l2Sum_any f g 1 w (fun j hj => by have := hf j hj; omega) (fun j hj => by have := hg j hj; omega)
  have e : (fun j => f j + 1 * g j) = fun j => f j + g j := by funext j; omega
  rwa [e] at this
theorem l2SumNeg (f g : Nat → Int) (w : World) (hf : ∀ j, j < 8 → -1000000 ≤ f j ∧ f j ≤ 1000000) (hg : ∀ j, j < 8 → -1000000 ≤ g j ∧ g j ≤ 1000000) :
    Calls Try.prog 29 #[cycV f, .int .i64 (-1), cycV g] w fun e w' => e = .returned (cycV fun j => f j - g j) ∧ Ext w w' := by
  have := l2Sum_any f g (-1) w (fun j hj => by have := hf j hj; omega) (fun j hj => by have := hg j hj; omega)
  have e : (fun j => f j + -1 * g j) = fun j => f j - g j := by funext j; omega
  rwa [e] at this
theorem l2SumZero (g : Nat → Int) (n : Int) (w : World) (hg : ∀ j, j < 8 → -1000000000000 ≤ g j * n ∧ g j * n ≤ 1000000000000) :
    Calls Try.prog 29 #[cycV fun _ => 0, .int .i64 n, cycV g] w fun e w' => e = .returned (cycV fun j => g j * n) ∧ Ext w w' := by
  have := l2Sum_any (fun _ => 0) g n w (fun j hj => by omega) (fun j hj => by have := hg j hj; rw [Int.mul_comm]; exact this)
  have e : (fun j => 0 + n * g j) = fun j => g j * n := by funext j; rw [Int.mul_comm]; omega
  rwa [e] at this

set_option maxHeartbeats 1000000 in
theorem sCycAdd_any (f g : Nat → Int) (w : World) : Calls Try.prog 15 #[cycV f, cycV g] w fun e w' => e = .returned (tupCB (addM f g)) ∧ Ext w w' := by
  have j0 := ((Blk.new w (cyc8 f) 25).alloc (.cells (cyc8 g).toArray 25)).alloc (.cells (cyc8 fun _ => 0).toArray 25)
  have j1 := (Blk.new1 w (.cells (cyc8 f).toArray 25) (cyc8 g) 25).alloc (.cells (cyc8 fun _ => 0).toArray 25)
  have j2 := Blk.new2 w (.cells (cyc8 f).toArray 25) (.cells (cyc8 g).toArray 25) (cyc8 fun _ => 0) 25
  have x0 : Ext w (((w.alloc (.cells (cyc8 f).toArray 25)).alloc (.cells (cyc8 g).toArray 25)).alloc (.cells (cyc8 fun _ => 0).toArray 25)) := by repeat (first | exact Ext.refl _ | assumption | refine Ext.drew ?_ | refine Ext.alloc ?_ _ | refine Ext.trans ?_ (by assumption))
  have hbld := buildCyc
  by_cases hf : cycOk f = true
  · by_cases hg : cycOk g = true
    · have H := Lib.hid (show addM f g = doneM (fun j => f j + g j) from by simp [addM, hf, hg])
      have bf := cycOk_bd hf
      have bg := cycOk_bd hg
      have BF := Lib.hid bf
      have BG := Lib.hid bg
      clear bf bg
      go_enter Try.func15, Try.ntmps15
      go_wp2_with fail
      refine (sCycValid_any _ _).mono ?_
      rintro e w1 ⟨rfl, x1⟩
      have c1 := (j1.keep x1).cell
      go_wp2_with fail
      refine (sCycValid_any _ _).mono ?_
      rintro e w2 ⟨rfl, x2⟩
      have c0' := ((j0.keep x1).keep x2).cell
      have c1' := ((j1.keep x1).keep x2).cell
      have k2 := (j2.keep x1).keep x2
      have x3 := (x0.trans x1).trans x2
      clear c1 j0 j1 j2 x0 x1 x2
      go_wp2_with fail
      refine (l2SumOne f g _ BF.out BG.out).mono ?_
      rintro e w4 ⟨rfl, x4⟩
      have k4 := k2.keep x4
      have x5 := x3.trans x4
      clear c0' c1' k2 x3 x4
      go_wp2_with fail
      refine (l2Done_any (fun j => f j + g j) _).mono ?_
      rw [← H.out]
      rintro e w6 ⟨rfl, x6⟩
      have k6 := k4.keep x6
      have x7 := x5.trans x6
      clear k4 x5 x6
      dsimp only [tupCB]
      go_wp2_with (refine store_cyc infoCyc (x := .tmp 4) (y := .tmp 19) (w.heap.size + 1 + 1) (addM f g).1 _ rfl rfl k6 rfl ?_)
      intro w8 k8 z8
      have x8 := z8.ext x7 (by omega)
      have c8 := k8.cell
      clear k6 x7 z8
      go_wp2
      exact bodyPost_ret (v := .tuple #[cycV (addM f g).1, .bool (addM f g).2]) (by simp [results, Try.results15, go_sem, c8]) rfl ⟨rfl, x8⟩

    · have hg' : cycOk g = false := by simpa using hg
      have H := Lib.hid (show addM f g = (fun _ => 0, false) from by simp [addM, hg'])
      clear hg
      go_enter Try.func15, Try.ntmps15
      go_wp2_with fail
      refine (sCycValid_any _ _).mono ?_
      rintro e w1 ⟨rfl, x1⟩
      have c1 := (j1.keep x1).cell
      go_wp2_with fail
      refine (sCycValid_any _ _).mono ?_
      rintro e w2 ⟨rfl, x2⟩
      have k2 := (j2.keep x1).keep x2
      have x3 := (x0.trans x1).trans x2
      clear c1 j0 j1 j2 x0 x1 x2
      go_wp2_with (refine store_cyc infoCyc (x := .tmp 4) (y := .tmp 14) (w.heap.size + 1 + 1) (fun _ => 0) _ rfl rfl k2 rfl ?_)
      intro w8 k8 z8
      have x8 := z8.ext x3 (by omega)
      have c8 := k8.cell
      clear k2 x3 z8
      go_wp2
      exact bodyPost_ret (v := .tuple #[cycV fun _ => 0, .bool false]) (by simp [results, Try.results15, go_sem, c8]) rfl ⟨by rw [H.out]; rfl, x8⟩

  · have hf' : cycOk f = false := by simpa using hf
    have H := Lib.hid (show addM f g = (fun _ => 0, false) from by simp [addM, hf'])
    clear hf
    go_enter Try.func15, Try.ntmps15
    go_wp2_with fail
    refine (sCycValid_any _ _).mono ?_
    rintro e w1 ⟨rfl, x1⟩
    have k2 := j2.keep x1
    have x3 := x0.trans x1
    clear j0 j1 j2 x0 x1
    go_wp2_with (refine store_cyc infoCyc (x := .tmp 4) (y := .tmp 14) (w.heap.size + 1 + 1) (fun _ => 0) _ rfl rfl k2 rfl ?_)
    intro w8 k8 z8
    have x8 := z8.ext x3 (by omega)
    have c8 := k8.cell
    clear k2 x3 z8
    go_wp2
    exact bodyPost_ret (v := .tuple #[cycV fun _ => 0, .bool false]) (by simp [results, Try.results15, go_sem, c8]) rfl ⟨by rw [H.out]; rfl, x8⟩

set_option maxHeartbeats 1000000 in
theorem iCycAdd_any (f g : Nat → Int) (w : World) : Calls Try.prog 11 #[cycV f, cycV g] w fun e w' => e = .returned (tupCB (addM f g)) ∧ Ext w w' := by
  have j0 := ((Blk.new w (cyc8 f) 25).alloc (.cells (cyc8 g).toArray 25)).alloc (.cells (cyc8 fun _ => 0).toArray 25)
  have j1 := (Blk.new1 w (.cells (cyc8 f).toArray 25) (cyc8 g) 25).alloc (.cells (cyc8 fun _ => 0).toArray 25)
  have j2 := Blk.new2 w (.cells (cyc8 f).toArray 25) (.cells (cyc8 g).toArray 25) (cyc8 fun _ => 0) 25
  have x0 : Ext w (((w.alloc (.cells (cyc8 f).toArray 25)).alloc (.cells (cyc8 g).toArray 25)).alloc (.cells (cyc8 fun _ => 0).toArray 25)) := by repeat (first | exact Ext.refl _ | assumption | refine Ext.drew ?_ | refine Ext.alloc ?_ _ | refine Ext.trans ?_ (by assumption))
  have hbld := buildCyc
  by_cases hf : cycOk f = true
  · by_cases hg : cycOk g = true
    · have H := Lib.hid (show addM f g = doneM (fun j => f j + g j) from by simp [addM, hf, hg])
      have bf := cycOk_bd hf
      have bg := cycOk_bd hg
      have BF := Lib.hid bf
      have BG := Lib.hid bg
      clear bf bg
      go_enter Try.func11, Try.ntmps11
      go_wp2_with fail
      refine (valid_any _ _).mono ?_
      rintro e w1 ⟨rfl, x1⟩
      have c1 := (j1.keep x1).cell
      go_wp2_with fail
      refine (valid_any _ _).mono ?_
      rintro e w2 ⟨rfl, x2⟩
      have c0' := ((j0.keep x1).keep x2).cell
      have c1' := ((j1.keep x1).keep x2).cell
      have k2 := (j2.keep x1).keep x2
      have x3 := (x0.trans x1).trans x2
      clear c1 j0 j1 j2 x0 x1 x2
      go_wp2_with fail
      refine (plus_any f g _ (fun j hj => by have := BF.out j hj; omega) (fun j hj => by have := BG.out j hj; omega)).mono ?_
      rintro e w4 ⟨rfl, x4⟩
      have k4 := k2.keep x4
      have x5 := x3.trans x4
      clear c0' c1' k2 x3 x4
      go_wp2_with fail
      refine (made_any (fun j => f j + g j) _).mono ?_
      rw [← H.out]
      rintro e w6 ⟨rfl, x6⟩
      have k6 := k4.keep x6
      have x7 := x5.trans x6
      clear k4 x5 x6
      dsimp only [tupCB]
      go_wp2_with (refine store_cyc infoCyc (x := .tmp 4) (y := .tmp 19) (w.heap.size + 1 + 1) (addM f g).1 _ rfl rfl k6 rfl ?_)
      intro w8 k8 z8
      have x8 := z8.ext x7 (by omega)
      have c8 := k8.cell
      clear k6 x7 z8
      go_wp2
      exact bodyPost_ret (v := .tuple #[cycV (addM f g).1, .bool (addM f g).2]) (by simp [results, Try.results11, go_sem, c8]) rfl ⟨rfl, x8⟩

    · have hg' : cycOk g = false := by simpa using hg
      have H := Lib.hid (show addM f g = (fun _ => 0, false) from by simp [addM, hg'])
      clear hg
      go_enter Try.func11, Try.ntmps11
      go_wp2_with fail
      refine (valid_any _ _).mono ?_
      rintro e w1 ⟨rfl, x1⟩
      have c1 := (j1.keep x1).cell
      go_wp2_with fail
      refine (valid_any _ _).mono ?_
      rintro e w2 ⟨rfl, x2⟩
      have k2 := (j2.keep x1).keep x2
      have x3 := (x0.trans x1).trans x2
      clear c1 j0 j1 j2 x0 x1 x2
      go_wp2_with (refine store_cyc infoCyc (x := .tmp 4) (y := .tmp 14) (w.heap.size + 1 + 1) (fun _ => 0) _ rfl rfl k2 rfl ?_)
      intro w8 k8 z8
      have x8 := z8.ext x3 (by omega)
      have c8 := k8.cell
      clear k2 x3 z8
      go_wp2
      exact bodyPost_ret (v := .tuple #[cycV fun _ => 0, .bool false]) (by simp [results, Try.results11, go_sem, c8]) rfl ⟨by rw [H.out]; rfl, x8⟩

  · have hf' : cycOk f = false := by simpa using hf
    have H := Lib.hid (show addM f g = (fun _ => 0, false) from by simp [addM, hf'])
    clear hf
    go_enter Try.func11, Try.ntmps11
    go_wp2_with fail
    refine (valid_any _ _).mono ?_
    rintro e w1 ⟨rfl, x1⟩
    have k2 := j2.keep x1
    have x3 := x0.trans x1
    clear j0 j1 j2 x0 x1
    go_wp2_with (refine store_cyc infoCyc (x := .tmp 4) (y := .tmp 14) (w.heap.size + 1 + 1) (fun _ => 0) _ rfl rfl k2 rfl ?_)
    intro w8 k8 z8
    have x8 := z8.ext x3 (by omega)
    have c8 := k8.cell
    clear k2 x3 z8
    go_wp2
    exact bodyPost_ret (v := .tuple #[cycV fun _ => 0, .bool false]) (by simp [results, Try.results11, go_sem, c8]) rfl ⟨by rw [H.out]; rfl, x8⟩

set_option maxHeartbeats 1000000 in
theorem sCycLess_any (f g : Nat → Int) (w : World) : Calls Try.prog 18 #[cycV f, cycV g] w fun e w' => e = .returned (tupCB (lessM f g)) ∧ Ext w w' := by
  have j0 := ((Blk.new w (cyc8 f) 25).alloc (.cells (cyc8 g).toArray 25)).alloc (.cells (cyc8 fun _ => 0).toArray 25)
  have j1 := (Blk.new1 w (.cells (cyc8 f).toArray 25) (cyc8 g) 25).alloc (.cells (cyc8 fun _ => 0).toArray 25)
  have j2 := Blk.new2 w (.cells (cyc8 f).toArray 25) (.cells (cyc8 g).toArray 25) (cyc8 fun _ => 0) 25
  have x0 : Ext w (((w.alloc (.cells (cyc8 f).toArray 25)).alloc (.cells (cyc8 g).toArray 25)).alloc (.cells (cyc8 fun _ => 0).toArray 25)) := by repeat (first | exact Ext.refl _ | assumption | refine Ext.drew ?_ | refine Ext.alloc ?_ _ | refine Ext.trans ?_ (by assumption))
  have hbld := buildCyc
  by_cases hf : cycOk f = true
  · by_cases hg : cycOk g = true
    · have H := Lib.hid (show lessM f g = doneM (fun j => f j - g j) from by simp [lessM, hf, hg])
      have bf := cycOk_bd hf
      have bg := cycOk_bd hg
      have BF := Lib.hid bf
      have BG := Lib.hid bg
      clear bf bg
      go_enter Try.func18, Try.ntmps18
      go_wp2_with fail
      refine (sCycValid_any _ _).mono ?_
      rintro e w1 ⟨rfl, x1⟩
      have c1 := (j1.keep x1).cell
      go_wp2_with fail
      refine (sCycValid_any _ _).mono ?_
      rintro e w2 ⟨rfl, x2⟩
      have c0' := ((j0.keep x1).keep x2).cell
      have c1' := ((j1.keep x1).keep x2).cell
      have k2 := (j2.keep x1).keep x2
      have x3 := (x0.trans x1).trans x2
      clear c1 j0 j1 j2 x0 x1 x2
      go_wp2_with fail
      refine (l2SumNeg f g _ BF.out BG.out).mono ?_
      rintro e w4 ⟨rfl, x4⟩
      have k4 := k2.keep x4
      have x5 := x3.trans x4
      clear c0' c1' k2 x3 x4
      go_wp2_with fail
      refine (l2Done_any (fun j => f j - g j) _).mono ?_
      rw [← H.out]
      rintro e w6 ⟨rfl, x6⟩
      have k6 := k4.keep x6
      have x7 := x5.trans x6
      clear k4 x5 x6
      dsimp only [tupCB]
      go_wp2_with (refine store_cyc infoCyc (x := .tmp 4) (y := .tmp 19) (w.heap.size + 1 + 1) (lessM f g).1 _ rfl rfl k6 rfl ?_)
      intro w8 k8 z8
      have x8 := z8.ext x7 (by omega)
      have c8 := k8.cell
      clear k6 x7 z8
      go_wp2
      exact bodyPost_ret (v := .tuple #[cycV (lessM f g).1, .bool (lessM f g).2]) (by simp [results, Try.results18, go_sem, c8]) rfl ⟨rfl, x8⟩

    · have hg' : cycOk g = false := by simpa using hg
      have H := Lib.hid (show lessM f g = (fun _ => 0, false) from by simp [lessM, hg'])
      clear hg
      go_enter Try.func18, Try.ntmps18
      go_wp2_with fail
      refine (sCycValid_any _ _).mono ?_
      rintro e w1 ⟨rfl, x1⟩
      have c1 := (j1.keep x1).cell
      go_wp2_with fail
      refine (sCycValid_any _ _).mono ?_
      rintro e w2 ⟨rfl, x2⟩
      have k2 := (j2.keep x1).keep x2
      have x3 := (x0.trans x1).trans x2
      clear c1 j0 j1 j2 x0 x1 x2
      go_wp2_with (refine store_cyc infoCyc (x := .tmp 4) (y := .tmp 14) (w.heap.size + 1 + 1) (fun _ => 0) _ rfl rfl k2 rfl ?_)
      intro w8 k8 z8
      have x8 := z8.ext x3 (by omega)
      have c8 := k8.cell
      clear k2 x3 z8
      go_wp2
      exact bodyPost_ret (v := .tuple #[cycV fun _ => 0, .bool false]) (by simp [results, Try.results18, go_sem, c8]) rfl ⟨by rw [H.out]; rfl, x8⟩

  · have hf' : cycOk f = false := by simpa using hf
    have H := Lib.hid (show lessM f g = (fun _ => 0, false) from by simp [lessM, hf'])
    clear hf
    go_enter Try.func18, Try.ntmps18
    go_wp2_with fail
    refine (sCycValid_any _ _).mono ?_
    rintro e w1 ⟨rfl, x1⟩
    have k2 := j2.keep x1
    have x3 := x0.trans x1
    clear j0 j1 j2 x0 x1
    go_wp2_with (refine store_cyc infoCyc (x := .tmp 4) (y := .tmp 14) (w.heap.size + 1 + 1) (fun _ => 0) _ rfl rfl k2 rfl ?_)
    intro w8 k8 z8
    have x8 := z8.ext x3 (by omega)
    have c8 := k8.cell
    clear k2 x3 z8
    go_wp2
    exact bodyPost_ret (v := .tuple #[cycV fun _ => 0, .bool false]) (by simp [results, Try.results18, go_sem, c8]) rfl ⟨by rw [H.out]; rfl, x8⟩

set_option maxHeartbeats 1000000 in
theorem iCycLess_any (f g : Nat → Int) (w : World) : Calls Try.prog 16 #[cycV f, cycV g] w fun e w' => e = .returned (tupCB (lessM f g)) ∧ Ext w w' := by
  have j0 := ((Blk.new w (cyc8 f) 25).alloc (.cells (cyc8 g).toArray 25)).alloc (.cells (cyc8 fun _ => 0).toArray 25)
  have j1 := (Blk.new1 w (.cells (cyc8 f).toArray 25) (cyc8 g) 25).alloc (.cells (cyc8 fun _ => 0).toArray 25)
  have j2 := Blk.new2 w (.cells (cyc8 f).toArray 25) (.cells (cyc8 g).toArray 25) (cyc8 fun _ => 0) 25
  have x0 : Ext w (((w.alloc (.cells (cyc8 f).toArray 25)).alloc (.cells (cyc8 g).toArray 25)).alloc (.cells (cyc8 fun _ => 0).toArray 25)) := by repeat (first | exact Ext.refl _ | assumption | refine Ext.drew ?_ | refine Ext.alloc ?_ _ | refine Ext.trans ?_ (by assumption))
  have hbld := buildCyc
  by_cases hf : cycOk f = true
  · by_cases hg : cycOk g = true
    · have H := Lib.hid (show lessM f g = doneM (fun j => f j - g j) from by simp [lessM, hf, hg])
      have bf := cycOk_bd hf
      have bg := cycOk_bd hg
      have BF := Lib.hid bf
      have BG := Lib.hid bg
      clear bf bg
      go_enter Try.func16, Try.ntmps16
      go_wp2_with fail
      refine (valid_any _ _).mono ?_
      rintro e w1 ⟨rfl, x1⟩
      have c1 := (j1.keep x1).cell
      go_wp2_with fail
      refine (valid_any _ _).mono ?_
      rintro e w2 ⟨rfl, x2⟩
      have c0' := ((j0.keep x1).keep x2).cell
      have c1' := ((j1.keep x1).keep x2).cell
      have k2 := (j2.keep x1).keep x2
      have x3 := (x0.trans x1).trans x2
      clear c1 j0 j1 j2 x0 x1 x2
      go_wp2_with fail
      refine (minus_any f g _ BF.out BG.out).mono ?_
      rintro e w4 ⟨rfl, x4⟩
      have k4 := k2.keep x4
      have x5 := x3.trans x4
      clear c0' c1' k2 x3 x4
      go_wp2_with fail
      refine (made_any (fun j => f j - g j) _).mono ?_
      rw [← H.out]
      rintro e w6 ⟨rfl, x6⟩
      have k6 := k4.keep x6
      have x7 := x5.trans x6
      clear k4 x5 x6
      dsimp only [tupCB]
      go_wp2_with (refine store_cyc infoCyc (x := .tmp 4) (y := .tmp 19) (w.heap.size + 1 + 1) (lessM f g).1 _ rfl rfl k6 rfl ?_)
      intro w8 k8 z8
      have x8 := z8.ext x7 (by omega)
      have c8 := k8.cell
      clear k6 x7 z8
      go_wp2
      exact bodyPost_ret (v := .tuple #[cycV (lessM f g).1, .bool (lessM f g).2]) (by simp [results, Try.results16, go_sem, c8]) rfl ⟨rfl, x8⟩

    · have hg' : cycOk g = false := by simpa using hg
      have H := Lib.hid (show lessM f g = (fun _ => 0, false) from by simp [lessM, hg'])
      clear hg
      go_enter Try.func16, Try.ntmps16
      go_wp2_with fail
      refine (valid_any _ _).mono ?_
      rintro e w1 ⟨rfl, x1⟩
      have c1 := (j1.keep x1).cell
      go_wp2_with fail
      refine (valid_any _ _).mono ?_
      rintro e w2 ⟨rfl, x2⟩
      have k2 := (j2.keep x1).keep x2
      have x3 := (x0.trans x1).trans x2
      clear c1 j0 j1 j2 x0 x1 x2
      go_wp2_with (refine store_cyc infoCyc (x := .tmp 4) (y := .tmp 14) (w.heap.size + 1 + 1) (fun _ => 0) _ rfl rfl k2 rfl ?_)
      intro w8 k8 z8
      have x8 := z8.ext x3 (by omega)
      have c8 := k8.cell
      clear k2 x3 z8
      go_wp2
      exact bodyPost_ret (v := .tuple #[cycV fun _ => 0, .bool false]) (by simp [results, Try.results16, go_sem, c8]) rfl ⟨by rw [H.out]; rfl, x8⟩

  · have hf' : cycOk f = false := by simpa using hf
    have H := Lib.hid (show lessM f g = (fun _ => 0, false) from by simp [lessM, hf'])
    clear hf
    go_enter Try.func16, Try.ntmps16
    go_wp2_with fail
    refine (valid_any _ _).mono ?_
    rintro e w1 ⟨rfl, x1⟩
    have k2 := j2.keep x1
    have x3 := x0.trans x1
    clear j0 j1 j2 x0 x1
    go_wp2_with (refine store_cyc infoCyc (x := .tmp 4) (y := .tmp 14) (w.heap.size + 1 + 1) (fun _ => 0) _ rfl rfl k2 rfl ?_)
    intro w8 k8 z8
    have x8 := z8.ext x3 (by omega)
    have c8 := k8.cell
    clear k2 x3 z8
    go_wp2
    exact bodyPost_ret (v := .tuple #[cycV fun _ => 0, .bool false]) (by simp [results, Try.results16, go_sem, c8]) rfl ⟨by rw [H.out]; rfl, x8⟩

set_option maxHeartbeats 1000000 in
theorem sCycScale_any (f : Nat → Int) (n : Int) (w : World) : Calls Try.prog 13 #[cycV f, .int .i64 n] w fun e w' => e = .returned (tupCB (scaleM f n)) ∧ Ext w w' := by
  have j0 := (Blk.new w (cyc8 f) 25).alloc (.cells (cyc8 fun _ => 0).toArray 25)
  have j2 := Blk.new1 w (.cells (cyc8 f).toArray 25) (cyc8 fun _ => 0) 25
  have x0 : Ext w ((w.alloc (.cells (cyc8 f).toArray 25)).alloc (.cells (cyc8 fun _ => 0).toArray 25)) := by repeat (first | exact Ext.refl _ | assumption | refine Ext.drew ?_ | refine Ext.alloc ?_ _ | refine Ext.trans ?_ (by assumption))
  have hbld := buildCyc
  by_cases hf : cycOk f = true
  · by_cases hn : inR (-1000000) 1000000 n = true
    · have H := Lib.hid (show scaleM f n = doneM (fun j => f j * n) from by simp [scaleM, hf, hn])
      have bf := Lib.hid (cycOk_bd hf)
      have bn := Lib.hid (inR_of hn)
      go_enter Try.func13, Try.ntmps13
      go_wp2_with fail
      refine (sCycValid_any _ _).mono ?_
      rintro e w1 ⟨rfl, x1⟩
      have c1 := (j0.keep x1).cell
      have k2 := j2.keep x1
      have x3 := x0.trans x1
      clear j0 j2 x0 x1
      go_wp2_with (go_at_call 22; ((with_reducible refine (l6In_any _ _ _ _).mono ?_); rintro e w' ⟨rfl, rfl⟩))
      refine (l2SumZero f n _ (fun j hj => prod_bd (bf.out j hj) bn.out)).mono ?_
      rintro e w4 ⟨rfl, x4⟩
      have k4 := k2.keep x4
      have x5 := x3.trans x4
      clear c1 k2 x3 x4
      go_wp2_with fail
      refine (l2Done_any (fun j => f j * n) _).mono ?_
      rw [← H.out]
      rintro e w6 ⟨rfl, x6⟩
      have k6 := k4.keep x6
      have x7 := x5.trans x6
      clear k4 x5 x6
      dsimp only [tupCB]
      go_wp2_with (refine store_cyc infoCyc (x := .tmp 4) (y := .tmp 20) (w.heap.size + 1) (scaleM f n).1 _ rfl rfl k6 rfl ?_)
      intro w8 k8 z8
      have x8 := z8.ext x7 (by omega)
      have c8 := k8.cell
      clear k6 x7 z8
      go_wp2
      exact bodyPost_ret (v := .tuple #[cycV (scaleM f n).1, .bool (scaleM f n).2]) (by simp [results, Try.results13, go_sem, c8]) rfl ⟨rfl, x8⟩

    · have hn' : inR (-1000000) 1000000 n = false := by simpa using hn
      have H := Lib.hid (show scaleM f n = (fun _ => 0, false) from by simp [scaleM, hn'])
      clear hn
      go_enter Try.func13, Try.ntmps13
      go_wp2_with fail
      refine (sCycValid_any _ _).mono ?_
      rintro e w1 ⟨rfl, x1⟩
      have k2 := j2.keep x1
      have x3 := x0.trans x1
      clear j0 j2 x0 x1
      go_wp2_with (first | (go_at_call 22; ((with_reducible refine (l6In_any _ _ _ _).mono ?_); rintro e w' ⟨rfl, rfl⟩)) | (refine store_cyc infoCyc (x := .tmp 4) (y := .tmp 14) (w.heap.size + 1) (fun _ => 0) _ rfl rfl k2 rfl ?_))
      intro w8 k8 z8
      have x8 := z8.ext x3 (by omega)
      have c8 := k8.cell
      clear k2 x3 z8
      go_wp2
      exact bodyPost_ret (v := .tuple #[cycV fun _ => 0, .bool false]) (by simp [results, Try.results13, go_sem, c8]) rfl ⟨by rw [H.out]; rfl, x8⟩
  · have hf' : cycOk f = false := by simpa using hf
    have H := Lib.hid (show scaleM f n = (fun _ => 0, false) from by simp [scaleM, hf'])
    clear hf
    go_enter Try.func13, Try.ntmps13
    go_wp2_with fail
    refine (sCycValid_any _ _).mono ?_
    rintro e w1 ⟨rfl, x1⟩
    have k2 := j2.keep x1
    have x3 := x0.trans x1
    clear j0 j2 x0 x1
    go_wp2_with (refine store_cyc infoCyc (x := .tmp 4) (y := .tmp 14) (w.heap.size + 1) (fun _ => 0) _ rfl rfl k2 rfl ?_)
    intro w8 k8 z8
    have x8 := z8.ext x3 (by omega)
    have c8 := k8.cell
    clear k2 x3 z8
    go_wp2
    exact bodyPost_ret (v := .tuple #[cycV fun _ => 0, .bool false]) (by simp [results, Try.results13, go_sem, c8]) rfl ⟨by rw [H.out]; rfl, x8⟩

set_option maxHeartbeats 1000000 in
theorem iCycScale_any (f : Nat → Int) (n : Int) (w : World) : Calls Try.prog 10 #[cycV f, .int .i64 n] w fun e w' => e = .returned (tupCB (scaleM f n)) ∧ Ext w w' := by
  have j0 := (Blk.new w (cyc8 f) 25).alloc (.cells (cyc8 fun _ => 0).toArray 25)
  have j2 := Blk.new1 w (.cells (cyc8 f).toArray 25) (cyc8 fun _ => 0) 25
  have x0 : Ext w ((w.alloc (.cells (cyc8 f).toArray 25)).alloc (.cells (cyc8 fun _ => 0).toArray 25)) := by repeat (first | exact Ext.refl _ | assumption | refine Ext.drew ?_ | refine Ext.alloc ?_ _ | refine Ext.trans ?_ (by assumption))
  have hbld := buildCyc
  by_cases hf : cycOk f = true
  · by_cases hn : inR (-1000000) 1000000 n = true
    · have H := Lib.hid (show scaleM f n = doneM (fun j => f j * n) from by simp [scaleM, hf, hn])
      have bf := Lib.hid (cycOk_bd hf)
      have bn := Lib.hid (inR_of hn)
      go_enter Try.func10, Try.ntmps10
      go_wp2_with fail
      refine (valid_any _ _).mono ?_
      rintro e w1 ⟨rfl, x1⟩
      have c1 := (j0.keep x1).cell
      have k2 := j2.keep x1
      have x3 := x0.trans x1
      clear j0 j2 x0 x1
      go_wp2_with (go_at_call 23; ((with_reducible refine (within_any _ _ _ _).mono ?_); rintro e w' ⟨rfl, rfl⟩))
      refine (scaled_any f n _ (fun j hj => prod_bd (bf.out j hj) bn.out)).mono ?_
      rintro e w4 ⟨rfl, x4⟩
      have k4 := k2.keep x4
      have x5 := x3.trans x4
      clear c1 k2 x3 x4
      go_wp2_with fail
      refine (made_any (fun j => f j * n) _).mono ?_
      rw [← H.out]
      rintro e w6 ⟨rfl, x6⟩
      have k6 := k4.keep x6
      have x7 := x5.trans x6
      clear k4 x5 x6
      dsimp only [tupCB]
      go_wp2_with (refine store_cyc infoCyc (x := .tmp 4) (y := .tmp 19) (w.heap.size + 1) (scaleM f n).1 _ rfl rfl k6 rfl ?_)
      intro w8 k8 z8
      have x8 := z8.ext x7 (by omega)
      have c8 := k8.cell
      clear k6 x7 z8
      go_wp2
      exact bodyPost_ret (v := .tuple #[cycV (scaleM f n).1, .bool (scaleM f n).2]) (by simp [results, Try.results10, go_sem, c8]) rfl ⟨rfl, x8⟩

    · have hn' : inR (-1000000) 1000000 n = false := by simpa using hn
      have H := Lib.hid (show scaleM f n = (fun _ => 0, false) from by simp [scaleM, hn'])
      clear hn
      go_enter Try.func10, Try.ntmps10
      go_wp2_with fail
      refine (valid_any _ _).mono ?_
      rintro e w1 ⟨rfl, x1⟩
      have k2 := j2.keep x1
      have x3 := x0.trans x1
      clear j0 j2 x0 x1
      go_wp2_with (first | (go_at_call 23; ((with_reducible refine (within_any _ _ _ _).mono ?_); rintro e w' ⟨rfl, rfl⟩)) | (refine store_cyc infoCyc (x := .tmp 4) (y := .tmp 14) (w.heap.size + 1) (fun _ => 0) _ rfl rfl k2 rfl ?_))
      intro w8 k8 z8
      have x8 := z8.ext x3 (by omega)
      have c8 := k8.cell
      clear k2 x3 z8
      go_wp2
      exact bodyPost_ret (v := .tuple #[cycV fun _ => 0, .bool false]) (by simp [results, Try.results10, go_sem, c8]) rfl ⟨by rw [H.out]; rfl, x8⟩
  · have hf' : cycOk f = false := by simpa using hf
    have H := Lib.hid (show scaleM f n = (fun _ => 0, false) from by simp [scaleM, hf'])
    clear hf
    go_enter Try.func10, Try.ntmps10
    go_wp2_with fail
    refine (valid_any _ _).mono ?_
    rintro e w1 ⟨rfl, x1⟩
    have k2 := j2.keep x1
    have x3 := x0.trans x1
    clear j0 j2 x0 x1
    go_wp2_with (refine store_cyc infoCyc (x := .tmp 4) (y := .tmp 14) (w.heap.size + 1) (fun _ => 0) _ rfl rfl k2 rfl ?_)
    intro w8 k8 z8
    have x8 := z8.ext x3 (by omega)
    have c8 := k8.cell
    clear k2 x3 z8
    go_wp2
    exact bodyPost_ret (v := .tuple #[cycV fun _ => 0, .bool false]) (by simp [results, Try.results10, go_sem, c8]) rfl ⟨by rw [H.out]; rfl, x8⟩

end Go.Proofs.Ytlngnebpgphceaa
