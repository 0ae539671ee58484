/- SurdSign and SurdCompare (chapter 3), of impl and of spec, and their exact laws. Written by mk_sign5.py. -/
import Derived.Test.YthgmgjjjgllbjaaSign4
import Derived.Deep.RegionWith
import Derived.Deep.RegionHeld3
import Derived.Deep.DeepCutAuto
namespace Go.Proofs.Ythgmgjjjgllbjaa
open Go.ChangeShapes Go.WideShapes Go.ChangeAt Go.RowKit
set_option linter.unusedVariables false

set_option maxHeartbeats 1000000 in
theorem splusB_any (f g : Nat → Int) (w : World) (hf : ∀ j, j < 4 → -1000000000000 ≤ f j ∧ f j ≤ 1000000000000) (hg : ∀ j, j < 4 → -1000000000000 ≤ g j ∧ g j ≤ 1000000000000) :
    Calls Try.prog 36 #[sfV f, sfV g] w fun e w' => e = .returned (sfV fun j => f j + g j) ∧ Ext w w' := by
  obtain ⟨a0, b0⟩ := hf 0 (by omega); obtain ⟨a1, b1⟩ := hf 1 (by omega); obtain ⟨a2, b2⟩ := hf 2 (by omega); obtain ⟨a3, b3⟩ := hf 3 (by omega)
  obtain ⟨c0, d0⟩ := hg 0 (by omega); obtain ⟨c1, d1⟩ := hg 1 (by omega); obtain ⟨c2, d2⟩ := hg 2 (by omega); obtain ⟨c3, d3⟩ := hg 3 (by omega)
  clear hf hg
  go_enter Try.func36, Try.ntmps36
  go_wp2
  go_returns
  exact ⟨rfl, by repeat (first | exact Ext.refl _ | assumption | refine Ext.drew ?_ | refine Ext.alloc ?_ _ | refine Ext.trans ?_ (by assumption))⟩

set_option maxHeartbeats 1000000 in
theorem sneg_any (f : Nat → Int) (w : World) (hf : ∀ j, j < 4 → -1000000000000 ≤ f j ∧ f j ≤ 1000000000000) :
    Calls Try.prog 46 #[sfV f, .int .i64 (-1)] w fun e w' => e = .returned (sfV fun j => - f j) ∧ Ext w w' := by
  obtain ⟨a0, b0⟩ := hf 0 (by omega); obtain ⟨a1, b1⟩ := hf 1 (by omega); obtain ⟨a2, b2⟩ := hf 2 (by omega); obtain ⟨a3, b3⟩ := hf 3 (by omega)
  clear hf
  go_enter Try.func46, Try.ntmps46
  go_wp2
  go_returns
  exact ⟨rfl, by repeat (first | exact Ext.refl _ | assumption | refine Ext.drew ?_ | refine Ext.alloc ?_ _ | refine Ext.trans ?_ (by assumption))⟩

set_option maxHeartbeats 1000000 in
theorem l3SumNeg (f g : Nat → Int) (w : World) (hf : ∀ j, j < 4 → -1000000000000 ≤ f j ∧ f j ≤ 1000000000000) (hg : ∀ j, j < 4 → -1000000000000 ≤ g j ∧ g j ≤ 1000000000000) :
    Calls Try.prog 31 #[sfV f, .int .i64 (-1), sfV g] w fun e w' => e = .returned (sfV fun j => f j - g j) ∧ Ext w w' := by
  obtain ⟨a0, b0⟩ := hf 0 (by omega); obtain ⟨a1, b1⟩ := hf 1 (by omega); obtain ⟨a2, b2⟩ := hf 2 (by omega); obtain ⟨a3, b3⟩ := hf 3 (by omega)
  obtain ⟨c0, d0⟩ := hg 0 (by omega); obtain ⟨c1, d1⟩ := hg 1 (by omega); obtain ⟨c2, d2⟩ := hg 2 (by omega); obtain ⟨c3, d3⟩ := hg 3 (by omega)
  clear hf hg
  go_enter Try.func31, Try.ntmps31
  go_wp2
  go_returns
  exact ⟨rfl, by repeat (first | exact Ext.refl _ | assumption | refine Ext.drew ?_ | refine Ext.alloc ?_ _ | refine Ext.trans ?_ (by assumption))⟩

set_option maxHeartbeats 1000000 in
theorem sminus_any (f g : Nat → Int) (w : World) (hf : ∀ j, j < 4 → -1000000000000 ≤ f j ∧ f j ≤ 1000000000000) (hg : ∀ j, j < 4 → -1000000000000 ≤ g j ∧ g j ≤ 1000000000000) :
    Calls Try.prog 32 #[sfV f, sfV g] w fun e w' => e = .returned (sfV fun j => f j - g j) ∧ Ext w w' := by
  have k0 := ((Blk.new w (s4 f) 26).alloc (.cells (s4 g).toArray 26)).alloc (.cells (s4 fun _ => 0).toArray 26)
  have k2 := Blk.fst2 w (.cells (s4 f).toArray 26) (.cells (s4 g).toArray 26) (s4 fun _ => 0) 26
  have x0 : Ext w (((w.alloc (.cells (s4 f).toArray 26)).alloc (.cells (s4 g).toArray 26)).alloc (.cells (s4 fun _ => 0).toArray 26)) := by repeat (first | exact Ext.refl _ | assumption | refine Ext.drew ?_ | refine Ext.alloc ?_ _ | refine Ext.trans ?_ (by assumption))
  have j0 := k0.keep (Ext.refl _).drew
  have j2 := k2.keep (Ext.refl _).drew
  have x0' := x0.drew
  clear k0 k2 x0
  go_enter Try.func32, Try.ntmps32
  go_wp2
  go_region_with (first
    | (go_at_call 46; ((with_reducible refine (sneg_any g _ hg).mono ?_); rintro e w1 ⟨rfl, x1⟩; have c0 := (j0.keep x1).cell; have y2 := j2.keep x1; have z1 := x0'.trans x1; clear x1))
    | (go_at_call 36; ((with_reducible refine (splusB_any f (fun j => - g j) _ (fun j hj => by have := hf j hj; omega) (fun j hj => by have := hg j hj; omega)).mono ?_); rintro e w2 ⟨rfl, x2⟩; have z2 := z1.trans x2; have m2 := y2.keep x2; have c2 := m2.cell; have f2 := m2.free; clear c0 x2)))
  all_goals
    obtain ⟨w3, e3, m3, x3⟩ := set4 (fun j => f j + - g j) m2 rfl
    rw [e3]
    have z3 := x3.ext z2 (by omega)
    have c3 := m3.cell
    clear e3 x3 m2 c2 f2 y2 z1 z2
    go_wp2
    exact bodyPost_ret (v := sfV fun j => f j + - g j) (by simp [results, Try.results32, go_sem, c3]) rfl ⟨rfl, z3⟩

/-- the sign of a surd, as a function of its four numbers -/
def sgF (f : Nat → Int) : Int := sg3 (f 0) (f 1) (f 2) (f 3)
/-- what SurdSign answers -/
def signM (f : Nat → Int) : Int × Bool := if sOk f then (sgF f, true) else (0, false)
/-- what SurdCompare answers -/
def cmpM (f g : Nat → Int) : Int × Bool := if sOk f && sOk g then (sgF (fun j => f j - g j), true) else (0, false)
theorem signF_bd {f : Nat → Int} {n : Int} (h : ∀ j, j < 4 → -n ≤ f j ∧ f j ≤ n) (hn : n ≤ 20000000) :
    (-1100000000 ≤ f 0 ∧ f 0 ≤ 1100000000) ∧ (-20000000 ≤ f 1 ∧ f 1 ≤ 20000000) ∧ (-20000000 ≤ f 2 ∧ f 2 ≤ 20000000) ∧ (-20000000 ≤ f 3 ∧ f 3 ≤ 20000000) := by
  have h0 := h 0 (by omega); have h1 := h 1 (by omega); have h2 := h 2 (by omega); have h3 := h 3 (by omega)
  omega

theorem signF_any (f : Nat → Int) (n : Int) (h : ∀ j, j < 4 → -n ≤ f j ∧ f j ≤ n) (hn : n ≤ 20000000) (w : World) : Calls Try.prog 30 #[sfV f] w fun e w' => e = .returned (.int .i64 (sgF f)) ∧ Ext w w' := by
  obtain ⟨h0, h1, h2, h3⟩ := signF_bd h hn
  exact sign_any _ _ _ _ h0 h1 h2 h3 w

theorem l3SignF_any (f : Nat → Int) (n : Int) (h : ∀ j, j < 4 → -n ≤ f j ∧ f j ≤ n) (hn : n ≤ 20000000) (w : World) : Calls Try.prog 28 #[sfV f] w fun e w' => e = .returned (.int .i64 (sgF f)) ∧ Ext w w' := by
  obtain ⟨h0, h1, h2, h3⟩ := signF_bd h hn
  exact l3Sign_any _ _ _ _ h0 h1 h2 h3 w

set_option maxHeartbeats 1000000 in
theorem sSurdSign_any (f : Nat → Int) (w : World) : Calls Try.prog 11 #[sfV f] w fun e w' => e = .returned (tupIB (signM f)) ∧ Ext w w' := by
  have j0 := Blk.new w (s4 f) 26
  have x0 : Ext w (w.alloc (.cells (s4 f).toArray 26)) := by repeat (first | exact Ext.refl _ | assumption | refine Ext.drew ?_ | refine Ext.alloc ?_ _ | refine Ext.trans ?_ (by assumption))
  by_cases hf : sOk f = true
  · have H := Lib.hid (show signM f = (sgF f, true) from by simp [signM, hf])
    have BF := Lib.hid (sOk_bd hf)
    go_enter Try.func11, Try.ntmps11
    go_wp2_with fail
    refine (sSurdValidF_any _ _).mono ?_
    rintro e w1 ⟨rfl, x1⟩
    have c0 := (j0.keep x1).cell
    have y1 := x0.trans x1
    clear j0 x0 x1
    go_wp2_with fail
    refine (l3SignF_any f 10000000 BF.out (by omega) _).mono ?_
    rintro e w2 ⟨rfl, x2⟩
    clear c0
    go_wp2
    go_ret2
    exact ⟨by rw [H.out]; rfl, y1.trans x2⟩
  · have hf' : sOk f = false := by simpa using hf
    have H := Lib.hid (show signM f = (0, false) from by simp [signM, hf'])
    clear hf
    go_enter Try.func11, Try.ntmps11
    go_wp2_with fail
    refine (sSurdValidF_any _ _).mono ?_
    rintro e w1 ⟨rfl, x1⟩
    have y1 := x0.trans x1
    clear j0 x0 x1
    go_wp2
    go_ret2
    exact ⟨by rw [H.out]; rfl, y1⟩

set_option maxHeartbeats 1000000 in
theorem sSurdCompare_any (f g : Nat → Int) (w : World) : Calls Try.prog 14 #[sfV f, sfV g] w fun e w' => e = .returned (tupIB (cmpM f g)) ∧ Ext w w' := by
  have j0 := (Blk.new w (s4 f) 26).alloc (.cells (s4 g).toArray 26)
  have j1 := Blk.fst1 w (.cells (s4 f).toArray 26) (s4 g) 26
  have x0 : Ext w ((w.alloc (.cells (s4 f).toArray 26)).alloc (.cells (s4 g).toArray 26)) := by repeat (first | exact Ext.refl _ | assumption | refine Ext.drew ?_ | refine Ext.alloc ?_ _ | refine Ext.trans ?_ (by assumption))
  by_cases hf : sOk f = true
  · by_cases hg : sOk g = true
    · have H := Lib.hid (show cmpM f g = (sgF (fun j => f j - g j), true) from by simp [cmpM, hf, hg])
      have BF := Lib.hid (sOk_bd hf)
      have BG := Lib.hid (sOk_bd hg)
      go_enter Try.func14, Try.ntmps14
      go_wp2_with fail
      refine (sSurdValidF_any _ _).mono ?_
      rintro e w1 ⟨rfl, x1⟩
      have c1 := (j1.keep x1).cell
      go_wp2_with fail
      refine (sSurdValidF_any _ _).mono ?_
      rintro e w2 ⟨rfl, x2⟩
      have c0' := ((j0.keep x1).keep x2).cell
      have c1' := ((j1.keep x1).keep x2).cell
      have x3 := (x0.trans x1).trans x2
      clear c1 j0 j1 x0 x1 x2
      go_wp2_with fail
      refine (l3SumNeg f g _ (fun j hj => by have := BF.out j hj; omega) (fun j hj => by have := BG.out j hj; omega)).mono ?_
      rintro e w4 ⟨rfl, x4⟩
      have x5 := x3.trans x4
      clear c0' c1' x3 x4
      go_wp2_with fail
      refine (l3SignF_any (fun j => f j - g j) 20000000 (fun j hj => by have := BF.out j hj; have := BG.out j hj; omega) (by omega) _).mono ?_
      rintro e w6 ⟨rfl, x6⟩
      go_wp2
      go_ret2
      exact ⟨by rw [H.out]; rfl, x5.trans x6⟩
    · have hg' : sOk g = false := by simpa using hg
      have H := Lib.hid (show cmpM f g = (0, false) from by simp [cmpM, hg'])
      clear hg
      go_enter Try.func14, Try.ntmps14
      go_wp2_with fail
      refine (sSurdValidF_any _ _).mono ?_
      rintro e w1 ⟨rfl, x1⟩
      have c1 := (j1.keep x1).cell
      go_wp2_with fail
      refine (sSurdValidF_any _ _).mono ?_
      rintro e w2 ⟨rfl, x2⟩
      have x3 := (x0.trans x1).trans x2
      clear c1 j0 j1 x0 x1 x2
      go_wp2
      go_ret2
      exact ⟨by rw [H.out]; rfl, x3⟩
  · have hf' : sOk f = false := by simpa using hf
    have H := Lib.hid (show cmpM f g = (0, false) from by simp [cmpM, hf'])
    clear hf
    go_enter Try.func14, Try.ntmps14
    go_wp2_with fail
    refine (sSurdValidF_any _ _).mono ?_
    rintro e w1 ⟨rfl, x1⟩
    have x3 := x0.trans x1
    clear j0 j1 x0 x1
    go_wp2
    go_ret2
    exact ⟨by rw [H.out]; rfl, x3⟩

set_option maxHeartbeats 1000000 in
theorem iSurdSign_any (f : Nat → Int) (w : World) : Calls Try.prog 13 #[sfV f] w fun e w' => e = .returned (tupIB (signM f)) ∧ Ext w w' := by
  have j0 := Blk.new w (s4 f) 26
  have x0 : Ext w (w.alloc (.cells (s4 f).toArray 26)) := by repeat (first | exact Ext.refl _ | assumption | refine Ext.drew ?_ | refine Ext.alloc ?_ _ | refine Ext.trans ?_ (by assumption))
  by_cases hf : sOk f = true
  · have H := Lib.hid (show signM f = (sgF f, true) from by simp [signM, hf])
    have BF := Lib.hid (sOk_bd hf)
    go_enter Try.func13, Try.ntmps13
    go_wp2_with fail
    refine (svalidF_any _ _).mono ?_
    rintro e w1 ⟨rfl, x1⟩
    have c0 := (j0.keep x1).cell
    have y1 := x0.trans x1
    clear j0 x0 x1
    go_wp2_with fail
    refine (signF_any f 10000000 BF.out (by omega) _).mono ?_
    rintro e w2 ⟨rfl, x2⟩
    clear c0
    go_wp2
    go_ret2
    exact ⟨by rw [H.out]; rfl, y1.trans x2⟩
  · have hf' : sOk f = false := by simpa using hf
    have H := Lib.hid (show signM f = (0, false) from by simp [signM, hf'])
    clear hf
    go_enter Try.func13, Try.ntmps13
    go_wp2_with fail
    refine (svalidF_any _ _).mono ?_
    rintro e w1 ⟨rfl, x1⟩
    have y1 := x0.trans x1
    clear j0 x0 x1
    go_wp2
    go_ret2
    exact ⟨by rw [H.out]; rfl, y1⟩

set_option maxHeartbeats 1000000 in
theorem iSurdCompare_any (f g : Nat → Int) (w : World) : Calls Try.prog 15 #[sfV f, sfV g] w fun e w' => e = .returned (tupIB (cmpM f g)) ∧ Ext w w' := by
  have j0 := (Blk.new w (s4 f) 26).alloc (.cells (s4 g).toArray 26)
  have j1 := Blk.fst1 w (.cells (s4 f).toArray 26) (s4 g) 26
  have x0 : Ext w ((w.alloc (.cells (s4 f).toArray 26)).alloc (.cells (s4 g).toArray 26)) := by repeat (first | exact Ext.refl _ | assumption | refine Ext.drew ?_ | refine Ext.alloc ?_ _ | refine Ext.trans ?_ (by assumption))
  by_cases hf : sOk f = true
  · by_cases hg : sOk g = true
    · have H := Lib.hid (show cmpM f g = (sgF (fun j => f j - g j), true) from by simp [cmpM, hf, hg])
      have BF := Lib.hid (sOk_bd hf)
      have BG := Lib.hid (sOk_bd hg)
      go_enter Try.func15, Try.ntmps15
      go_wp2_with fail
      refine (svalidF_any _ _).mono ?_
      rintro e w1 ⟨rfl, x1⟩
      have c1 := (j1.keep x1).cell
      go_wp2_with fail
      refine (svalidF_any _ _).mono ?_
      rintro e w2 ⟨rfl, x2⟩
      have c0' := ((j0.keep x1).keep x2).cell
      have c1' := ((j1.keep x1).keep x2).cell
      have x3 := (x0.trans x1).trans x2
      clear c1 j0 j1 x0 x1 x2
      go_wp2_with fail
      refine (sminus_any f g _ (fun j hj => by have := BF.out j hj; omega) (fun j hj => by have := BG.out j hj; omega)).mono ?_
      rintro e w4 ⟨rfl, x4⟩
      have x5 := x3.trans x4
      clear c0' c1' x3 x4
      go_wp2_with fail
      refine (signF_any (fun j => f j - g j) 20000000 (fun j hj => by have := BF.out j hj; have := BG.out j hj; omega) (by omega) _).mono ?_
      rintro e w6 ⟨rfl, x6⟩
      go_wp2
      go_ret2
      exact ⟨by rw [H.out]; rfl, x5.trans x6⟩
    · have hg' : sOk g = false := by simpa using hg
      have H := Lib.hid (show cmpM f g = (0, false) from by simp [cmpM, hg'])
      clear hg
      go_enter Try.func15, Try.ntmps15
      go_wp2_with fail
      refine (svalidF_any _ _).mono ?_
      rintro e w1 ⟨rfl, x1⟩
      have c1 := (j1.keep x1).cell
      go_wp2_with fail
      refine (svalidF_any _ _).mono ?_
      rintro e w2 ⟨rfl, x2⟩
      have x3 := (x0.trans x1).trans x2
      clear c1 j0 j1 x0 x1 x2
      go_wp2
      go_ret2
      exact ⟨by rw [H.out]; rfl, x3⟩
  · have hf' : sOk f = false := by simpa using hf
    have H := Lib.hid (show cmpM f g = (0, false) from by simp [cmpM, hf'])
    clear hf
    go_enter Try.func15, Try.ntmps15
    go_wp2_with fail
    refine (svalidF_any _ _).mono ?_
    rintro e w1 ⟨rfl, x1⟩
    have x3 := x0.trans x1
    clear j0 j1 x0 x1
    go_wp2
    go_ret2
    exact ⟨by rw [H.out]; rfl, x3⟩

set_option maxHeartbeats 1000000 in
theorem lSurdSignF (f : Nat → Int) (w : World) : Calls Try.prog 3 #[sfV f] w fun e w' => e = .returned (.bool true) ∧ Ext w w' := by
  have j0 := Blk.new w (s4 f) 23
  have x0 : Ext w (w.alloc (.cells (s4 f).toArray 23)) := by repeat (first | exact Ext.refl _ | assumption | refine Ext.drew ?_ | refine Ext.alloc ?_ _ | refine Ext.trans ?_ (by assumption))
  go_enter Try.func3, Try.ntmps3
  go_wp2_with fail
  refine (toSurdF_any f _).mono ?_
  rintro e w1 ⟨rfl, x1⟩
  have j1 := j0.keep x1
  have y1 := x0.trans x1
  clear j0 x0 x1
  go_wp2_with fail
  refine (sSurdSign_any f _).mono ?_
  rintro e w2 ⟨rfl, x2⟩
  dsimp only [tupIB]
  have c2 := (j1.keep x2).cell
  have y2 := y1.trans x2
  clear j1 y1 x2
  go_wp2_with fail
  refine (toSurdF_any f _).mono ?_
  rintro e w4 ⟨rfl, x4⟩
  have y4 := y2.trans x4
  clear c2 y2 x4
  go_wp2_with fail
  refine (iSurdSign_any f _).mono ?_
  rintro e w5 ⟨rfl, x5⟩
  dsimp only [tupIB]
  go_wp2
  go_ret
  exact ⟨rfl, y4.trans x5⟩

theorem lSurdSign (a b c d : Int) (w : World) (_ : (Lit.int .i64 a).wf = true) (_ : (Lit.int .i64 b).wf = true) (_ : (Lit.int .i64 c).wf = true) (_ : (Lit.int .i64 d).wf = true) :
    Calls Try.prog 3 #[surdV a b c d] w fun e w' => e = .returned (.bool true) ∧ Ext w w' := lSurdSignF (fn4 a b c d) w

set_option maxHeartbeats 2000000 in
theorem lSurdCompareF (f g : Nat → Int) (w : World) : Calls Try.prog 4 #[sfV f, sfV g] w fun e w' => e = .returned (.bool true) ∧ Ext w w' := by
  have k0 := (Blk.new w (s4 f) 23).alloc (.cells (s4 g).toArray 23)
  have k1 := Blk.fst1 w (.cells (s4 f).toArray 23) (s4 g) 23
  have x0 : Ext w ((w.alloc (.cells (s4 f).toArray 23)).alloc (.cells (s4 g).toArray 23)) := by repeat (first | exact Ext.refl _ | assumption | refine Ext.drew ?_ | refine Ext.alloc ?_ _ | refine Ext.trans ?_ (by assumption))
  go_enter Try.func4, Try.ntmps4
  go_upto_region 1 with fail
  generalize World.alloc (World.alloc _ _) _ = W at *
  have z0 : Ext W W.drew := (Ext.refl W).drew
  have c0 := (k0.keep z0).cell
  have c1 := (k1.keep z0).cell
  go_cut [5, 6] (fun s5 s6 wx => s5 = .int .i64 (cmpM f g).1 ∧ s6 = .bool (cmpM f g).2 ∧ Ext W wx)
  case first =>
    go_region_held3 (fun w' => Ext W w' ∧ (∀ o, w'.cell? ⟨w.heap.size, o, none⟩ = (s4 f)[o]?) ∧ (∀ o, w'.cell? ⟨w.heap.size + 1, o, none⟩ = (s4 g)[o]?))
      ((with_reducible refine (fun hx => ⟨hx, (k0.keep hx).cell, (k1.keep hx).cell⟩ : Ext W _ → _) ?_; repeat (first | with_reducible assumption | with_reducible exact Ext.refl _ | with_reducible refine Ext.drew ?_)))
      (first
      | (go_at_call 12; ((with_reducible refine (toSurdF_any f _).mono ?_); rintro e w1 ⟨rfl, x1⟩; have y1 : Ext W w1 := (by first | with_reducible exact z0.trans x1 | with_reducible exact y2.trans x1); clear x1))
      | (go_at_call 12; ((with_reducible refine (toSurdF_any g _).mono ?_); rintro e w2 ⟨rfl, x2⟩; have y2 : Ext W w2 := (by first | with_reducible exact z0.trans x2 | with_reducible exact y1.trans x2); clear x2))
      | (go_at_call 14; ((with_reducible refine (sSurdCompare_any f g _).mono ?_); rintro e w3 ⟨rfl, x3⟩; have y3 : Ext W w3 := (by first | with_reducible exact y2.trans x3 | with_reducible exact y1.trans x3); clear x3; dsimp only [tupIB])))
    all_goals (go_wp2_with fail; go_meet; exact ⟨rfl, rfl, y3⟩)
  case rest =>
  obtain ⟨rfl, rfl, y5⟩ := hcut
  clear z0 c0 c1
  have j0 := k0.keep y5
  have j1 := k1.keep y5
  have x5 := x0.trans y5
  clear k0 k1 x0 y5
  go_upto_region 2 with fail
  have z0 : Ext wc wc.drew := (Ext.refl wc).drew
  have c0 := (j0.keep z0).cell
  have c1 := (j1.keep z0).cell
  go_cut [7, 8] (fun s7 s8 wx => s7 = .int .i64 (cmpM f g).1 ∧ s8 = .bool (cmpM f g).2 ∧ Ext wc wx)
  case first =>
    go_region_held3 (fun w' => Ext wc w' ∧ (∀ o, w'.cell? ⟨w.heap.size, o, none⟩ = (s4 f)[o]?) ∧ (∀ o, w'.cell? ⟨w.heap.size + 1, o, none⟩ = (s4 g)[o]?))
      ((with_reducible refine (fun hx => ⟨hx, (j0.keep hx).cell, (j1.keep hx).cell⟩ : Ext wc _ → _) ?_; repeat (first | with_reducible assumption | with_reducible exact Ext.refl _ | with_reducible refine Ext.drew ?_)))
      (first
      | (go_at_call 12; ((with_reducible refine (toSurdF_any f _).mono ?_); rintro e w1 ⟨rfl, x1⟩; have y1 : Ext wc w1 := (by first | with_reducible exact z0.trans x1 | with_reducible exact y2.trans x1); clear x1))
      | (go_at_call 12; ((with_reducible refine (toSurdF_any g _).mono ?_); rintro e w2 ⟨rfl, x2⟩; have y2 : Ext wc w2 := (by first | with_reducible exact z0.trans x2 | with_reducible exact y1.trans x2); clear x2))
      | (go_at_call 15; ((with_reducible refine (iSurdCompare_any f g _).mono ?_); rintro e w3 ⟨rfl, x3⟩; have y3 : Ext wc w3 := (by first | with_reducible exact y2.trans x3 | with_reducible exact y1.trans x3); clear x3; dsimp only [tupIB])))
    all_goals (go_wp2_with fail; go_meet; exact ⟨rfl, rfl, y3⟩)
  case rest =>
  obtain ⟨rfl, rfl, y7⟩ := hcut
  clear z0 c0 c1 j0 j1
  go_wp2
  go_ret
  exact ⟨rfl, x5.trans y7⟩

theorem lSurdCompare (a b c d a' b' c' d' : Int) (w : World) (_ : (Lit.int .i64 a).wf = true) (_ : (Lit.int .i64 b).wf = true) (_ : (Lit.int .i64 c).wf = true) (_ : (Lit.int .i64 d).wf = true)
    (_ : (Lit.int .i64 a').wf = true) (_ : (Lit.int .i64 b').wf = true) (_ : (Lit.int .i64 c').wf = true) (_ : (Lit.int .i64 d').wf = true) :
    Calls Try.prog 4 #[surdV a b c d, surdV a' b' c' d'] w fun e w' => e = .returned (.bool true) ∧ Ext w w' := lSurdCompareF (fn4 a b c d) (fn4 a' b' c' d') w

end Go.Proofs.Ythgmgjjjgllbjaa
