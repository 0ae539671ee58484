/- Wide points are near to the floats of their exact parts: plain facts and the law's walk (P30). -/
import Derived.Test.YtfghjlngllanoaaPtF
import Derived.Test.YtfghjlngllanoaaSurd4
import Derived.Test.YtfghjlngllanoaaWideL
import Derived.Test.YtfghjlngllanoaaCycD
namespace Go.Proofs.Ytfghjlngllanoaa
open Go.ChangeShapes Go.WideShapes Go.ChangeAt Go.RowKit
set_option linter.unusedVariables false
set_option maxRecDepth 100000

theorem wide_near {f : Nat → Int} (hf : Small f) :
    ∃ d1 d2 d3 d4, floatBits .sub .f64 (pointP .f64 f 8).1 (fq (l3ReF f)) = some d1 ∧ floatBits .sub .f64 (fq (l3ReF f)) (pointP .f64 f 8).1 = some d2
      ∧ floatBits .sub .f64 (pointP .f64 f 8).2 (fq (l3ImF f)) = some d3 ∧ floatBits .sub .f64 (fq (l3ImF f)) (pointP .f64 f 8).2 = some d4
      ∧ (FloatKind.f64.format.order d1 4472406533629990549 == some .lt) = true ∧ (FloatKind.f64.format.order d2 4472406533629990549 == some .lt) = true
      ∧ (FloatKind.f64.format.order d3 4472406533629990549 == some .lt) = true ∧ (FloatKind.f64.format.order d4 4472406533629990549 == some .lt) = true := by
  obtain ⟨K, U, hu⟩ := ru_ex .f64
  obtain ⟨⟨z, z1, z2, z3⟩, ⟨y, y1, y2, y3⟩⟩ := point_err hu hf
  have a0 := hf 0 (by omega); have a1 := hf 1 (by omega); have a2 := hf 2 (by omega); have a3 := hf 3 (by omega)
  have a4 := hf 4 (by omega); have a5 := hf 5 (by omega); have a6 := hf 6 (by omega); have a7 := hf 7 (by omega)
  have b1 : ∀ j, j < 4 → -100000 ≤ l3ReF f j ∧ l3ReF f j ≤ 100000 := by
    intro j hj
    obtain rfl | rfl | rfl | rfl : j = 0 ∨ j = 1 ∨ j = 2 ∨ j = 3 := by omega
    all_goals simp only [l3ReF, fn4]; omega
  have b2 : ∀ j, j < 4 → -100000 ≤ l3ImF f j ∧ l3ImF f j ≤ 100000 := by
    intro j hj
    obtain rfl | rfl | rfl | rfl : j = 0 ∨ j = 1 ∨ j = 2 ∨ j = 3 := by omega
    all_goals simp only [l3ImF, fn4]; omega
  obtain ⟨c, c1, c2, c3⟩ := fq_near hu b1 z1 ⟨z2, z3⟩ (by rw [S_re]; clear z1 z2 z3 y1 y2 y3 b1 b2 hf; simp only [l3ReF, fn4]; omega)
  obtain ⟨e, e1, e2, e3⟩ := fq_near hu b2 y1 ⟨y2, y3⟩ (by rw [S_im]; clear z1 z2 z3 y1 y2 y3 b1 b2 hf; simp only [l3ImF, fn4]; omega)
  obtain ⟨d1, s1, o1⟩ := near_diff hu z1 c1 ⟨c2, c3⟩
  obtain ⟨d2, s2, o2⟩ := near_diff hu c1 z1 (by omega)
  obtain ⟨d3, s3, o3⟩ := near_diff hu y1 e1 ⟨e2, e3⟩
  obtain ⟨d4, s4, o4⟩ := near_diff hu e1 y1 (by omega)
  exact ⟨d1, d2, d3, d4, s1, s2, s3, s4, o1, o2, o3, o4⟩
theorem near_bd {f : Nat → Int} (hf : Small f) : (∀ j, j < 4 → -10000000 ≤ l3ReF f j ∧ l3ReF f j ≤ 10000000) ∧ (∀ j, j < 4 → -10000000 ≤ l3ImF f j ∧ l3ImF f j ≤ 10000000) := by
  have a0 := hf 0 (by omega); have a1 := hf 1 (by omega); have a2 := hf 2 (by omega); have a3 := hf 3 (by omega)
  have a4 := hf 4 (by omega); have a5 := hf 5 (by omega); have a6 := hf 6 (by omega); have a7 := hf 7 (by omega)
  clear hf
  constructor
  · intro j hj
    obtain rfl | rfl | rfl | rfl : j = 0 ∨ j = 1 ∨ j = 2 ∨ j = 3 := by omega
    all_goals simp only [l3ReF, fn4]; omega
  · intro j hj
    obtain rfl | rfl | rfl | rfl : j = 0 ∨ j = 1 ∨ j = 2 ∨ j = 3 := by omega
    all_goals simp only [l3ImF, fn4]; omega
theorem near_sOk {f : Nat → Int} (hf : Small f) (hv : cycOk f = true) : reM f = (l3ReF f, true) ∧ imM f = (l3ImF f, true) := by
  have a0 := hf 0 (by omega); have a1 := hf 1 (by omega); have a2 := hf 2 (by omega); have a3 := hf 3 (by omega)
  have a4 := hf 4 (by omega); have a5 := hf 5 (by omega); have a6 := hf 6 (by omega); have a7 := hf 7 (by omega)
  clear hf
  have h1 : sOk (l3ReF f) = true := by
    unfold sOk surdOk
    simp only [l3ReF, fn4, Bool.and_eq_true]
    refine ⟨⟨⟨inR_true ?_ ?_, inR_true ?_ ?_⟩, inR_true ?_ ?_⟩, inR_true ?_ ?_⟩ <;> omega
  have h2 : sOk (l3ImF f) = true := by
    unfold sOk surdOk
    simp only [l3ImF, fn4, Bool.and_eq_true]
    refine ⟨⟨⟨inR_true ?_ ?_, inR_true ?_ ?_⟩, inR_true ?_ ?_⟩, inR_true ?_ ?_⟩ <;> omega
  exact ⟨by simp [reM, hv, doneS, h1], by simp [imM, hv, doneS, h2]⟩

theorem fwithin_any (a b m d1 d2 : Nat) (h1 : floatBits .sub .f64 a b = some d1) (h2 : floatBits .sub .f64 b a = some d2) (h3 : (FloatKind.f64.format.order d1 m == some .lt) = true) (h4 : (FloatKind.f64.format.order d2 m == some .lt) = true) (w : World) :
    Calls Try.prog 26 #[.float .f64 a, .float .f64 b, .float .f64 m] w fun e w' => e = .returned (.bool true) ∧ w = w' := by
  have s1 : ∀ t w, (binOp .sub t (.float .f64 a) (.float .f64 b)).run Try.prog w = .ok (.float .f64 d1) w := fun t w => run_float_arith w .sub t .f64 _ _ _ h1
  have s2 : ∀ t w, (binOp .sub t (.float .f64 b) (.float .f64 a)).run Try.prog w = .ok (.float .f64 d2) w := fun t w => run_float_arith w .sub t .f64 _ _ _ h2
  clear h1 h2
  go_enter Try.func26, Try.ntmps26
  go_wp2
  go_ret
  exact ⟨rfl, rfl⟩

set_option maxHeartbeats 1000000 in
theorem floatOf_any (f : Nat → Int) (hf : ∀ j, j < 4 → -10000000 ≤ f j ∧ f j ≤ 10000000) (w : World) : Calls Try.prog 27 #[sfV f] w fun e w' => e = .returned (.float .f64 (fq f)) ∧ Ext w w' := by
  obtain ⟨h1, h2, h3, h4, h5, h6, h7, h8⟩ := fsum_ok hf
  have a1 : ∀ t w, (binOp .mul t (.float .f64 (floatOfInt .f64 (f 1))) (.float .f64 4609047870845172685)).run Try.prog w = .ok (.float .f64 (fm1 f)) w := fun t w => run_float_arith w .mul t .f64 _ _ _ h1
  have a2 : ∀ t w, (binOp .add t (.float .f64 (floatOfInt .f64 (f 0))) (.float .f64 (fm1 f))).run Try.prog w = .ok (.float .f64 (fs1 f)) w := fun t w => run_float_arith w .add t .f64 _ _ _ h2
  have a3 : ∀ t w, (binOp .mul t (.float .f64 (floatOfInt .f64 (f 2))) (.float .f64 4610479282544200874)).run Try.prog w = .ok (.float .f64 (fm2 f)) w := fun t w => run_float_arith w .mul t .f64 _ _ _ h3
  have a4 : ∀ t w, (binOp .add t (.float .f64 (fs1 f)) (.float .f64 (fm2 f))).run Try.prog w = .ok (.float .f64 (fs2 f)) w := fun t w => run_float_arith w .add t .f64 _ _ _ h4
  have a5 : ∀ t w, (binOp .mul t (.float .f64 (floatOfInt .f64 (f 3))) (.float .f64 4612698179346440494)).run Try.prog w = .ok (.float .f64 (fm3 f)) w := fun t w => run_float_arith w .mul t .f64 _ _ _ h5
  have a6 : ∀ t w, (binOp .add t (.float .f64 (fs2 f)) (.float .f64 (fm3 f))).run Try.prog w = .ok (.float .f64 (fs3 f)) w := fun t w => run_float_arith w .add t .f64 _ _ _ h6
  have a7 : ∀ t w, (binOp .quo t (.float .f64 (fs3 f)) (.float .f64 4616189618054758400)).run Try.prog w = .ok (.float .f64 (fq f)) w := fun t w => run_float_arith w .quo t .f64 _ _ _ h7
  clear h1 h2 h3 h4 h5 h6 h7 h8 hf
  go_enter Try.func27, Try.ntmps27
  go_wp2
  go_ret
  exact ⟨rfl, by repeat (first | exact Ext.refl _ | assumption | refine Ext.drew ?_ | refine Ext.alloc ?_ _ | refine Ext.trans ?_ (by assumption))⟩

set_option maxRecDepth 100000 in
set_option maxHeartbeats 4000000 in
theorem lawWidePoint (a : Option Addr) (len cap : Nat) (w : World) (h : CodeOk w a len cap) :
    Calls Try.prog 6 #[.slice a len cap] w fun e w' => e = .returned (.bool true) ∧ Ext w w' := by
  have hl := h.1
  have hm := h.2.1
  unfold maxLen at hm
  by_cases hbig : 1048576 < len
  · go_enter Try.func6, Try.ntmps6
    go_wp2_with fail
    go_ret; exact ⟨rfl, Ext.refl _⟩
  · go_enter Try.func6, Try.ntmps6
    go_wp2_with fail
    refine (dWidePoint_any _ _ _ _ h).mono ?_
    rintro e w1 ⟨f, rfl, hf, x1⟩
    clear h hl hm hbig hf
    have b0 := Blk.new w1 (cyc8 f) 27
    have y := x1.alloc (.cells (cyc8 f).toArray 27)
    have c0 := b0.cell
    clear x1
    by_cases hv : cycOk f = true
    · have H1 := Lib.hid (show pointM .f64 f = (pointP .f64 f 8, true) from by simp [pointM, hv])
      have g := pointM_num .f64 f
      rw [H1.out] at g
      have G1 := g.1.isNum
      have G2 := g.2.isNum
      have S1 := G1.self
      have S2 := G2.self
      have HV := Lib.hid hv
      clear g hv
      go_wp2_with fail
      refine (iWidePoint_any f _).mono ?_
      rintro e w2 ⟨rfl, x2⟩
      rw [H1.out]; dsimp only [tupXB]
      replace b0 := b0.keep x2
      replace c0 := b0.cell
      replace y := y.trans x2
      clear x2
      go_wp2_with fail
      refine (sWidePoint_any f _).mono ?_
      rintro e w3 ⟨rfl, x3⟩
      rw [H1.out]; dsimp only [tupXB]
      replace b0 := b0.keep x3
      replace c0 := b0.cell
      replace y := y.trans x3
      clear x3
      go_wp2_with fail
      refine (wideAlike_any _ _ G1 G2 _).mono ?_
      rintro e w' ⟨rfl, rfl⟩
      go_wp2_with fail
      refine wp_loop_rounds 9 ?_
      by_cases hs : Small f
      · have NR := Lib.hid (near_sOk hs HV.out)
        have WN := Lib.hid (wide_near hs)
        obtain ⟨f0, e0⟩ := hs 0 (by omega); obtain ⟨f1, e1⟩ := hs 1 (by omega); obtain ⟨f2, e2⟩ := hs 2 (by omega); obtain ⟨f3, e3⟩ := hs 3 (by omega)
        obtain ⟨f4, e4⟩ := hs 4 (by omega); obtain ⟨f5, e5⟩ := hs 5 (by omega); obtain ⟨f6, e6⟩ := hs 6 (by omega); obtain ⟨f7, e7⟩ := hs 7 (by omega)
        have HS := Lib.hid hs
        clear hs
        iterate 9 (rw [rounds_succ]; go_wp2_with fail)
        refine (iSurdRe_any f _).mono ?_
        rintro e w4 ⟨rfl, x4⟩
        rw [NR.out.1]; dsimp only [tupSB]
        replace b0 := b0.keep x4
        clear c0
        replace y := (y.trans x4).alloc (.cells (s4 (l3ReF f)).toArray 44)
        replace b0 := b0.alloc (.cells (s4 (l3ReF f)).toArray 44)
        have b1 := Blk.new w4 (s4 (l3ReF f)) 44
        have c0 := b0.cell
        have c1 := b1.cell
        clear x4
        go_wp2_with fail
        refine (iSurdIm_any f _).mono ?_
        rintro e w5 ⟨rfl, x5⟩
        rw [NR.out.2]; dsimp only [tupSB]
        clear c0 b0
        replace b1 := b1.keep x5
        replace y := (y.trans x5).alloc (.cells (s4 (l3ImF f)).toArray 44)
        replace b1 := b1.alloc (.cells (s4 (l3ImF f)).toArray 44)
        have b2 := Blk.new w5 (s4 (l3ImF f)) 44
        replace c1 := b1.cell
        have c2 := b2.cell
        clear x5
        have BF := Lib.hid (near_bd HS.out)
        obtain ⟨d1, d2, d3, d4, s1, s2, s3, s4', o1, o2, o3, o4⟩ := WN.out
        clear WN
        have s1' := Lib.hid s1; have s2' := Lib.hid s2; have s3' := Lib.hid s3; have s4'' := Lib.hid s4'
        have o1' := Lib.hid o1; have o2' := Lib.hid o2; have o3' := Lib.hid o3; have o4' := Lib.hid o4
        clear s1 s2 s3 s4' o1 o2 o3 o4
        go_wp2_with fail
        refine (floatOf_any (l3ReF f) BF.out.1 _).mono ?_
        rintro e w6 ⟨rfl, x6⟩
        replace b2 := b2.keep x6
        replace c2 := b2.cell
        replace y := y.trans x6
        clear c1 b1 x6
        go_wp2_with fail
        refine (fwithin_any _ _ 4472406533629990549 d1 d2 s1'.out s2'.out o1'.out o2'.out _).mono ?_
        rintro e w' ⟨rfl, rfl⟩
        go_wp2_with fail
        refine (floatOf_any (l3ImF f) BF.out.2 _).mono ?_
        rintro e w7 ⟨rfl, x7⟩
        replace y := y.trans x7
        clear c2 b2 x7
        go_wp2_with fail
        refine (fwithin_any _ _ 4472406533629990549 d3 d4 s3'.out s4''.out o3'.out o4'.out _).mono ?_
        rintro e w' ⟨rfl, rfl⟩
        go_wp2
        go_ret; exact ⟨rfl, y⟩
      · clear b0 H1 HV G1 G2
        iterate 9 (any_goals (rw [rounds_succ]; go_wp2_with fail))
        all_goals first
          | (go_ret; exact ⟨rfl, y⟩)
          | (exfalso; apply hs; intro j hj
             obtain rfl | rfl | rfl | rfl | rfl | rfl | rfl | rfl : j = 0 ∨ j = 1 ∨ j = 2 ∨ j = 3 ∨ j = 4 ∨ j = 5 ∨ j = 6 ∨ j = 7 := by omega
             all_goals (constructor <;> omega))
    · have H1 := Lib.hid (show pointM .f64 f = ((0, 0), false) from by simp [pointM, hv])
      have g1 := isNum_zero .f64
      clear hv
      go_wp2_with fail
      refine (iWidePoint_any f _).mono ?_
      rintro e w2 ⟨rfl, x2⟩
      rw [H1.out]; dsimp only [tupXB]
      replace b0 := b0.keep x2
      replace c0 := b0.cell
      replace y := y.trans x2
      clear x2
      go_wp2_with fail
      refine (sWidePoint_any f _).mono ?_
      rintro e w3 ⟨rfl, x3⟩
      rw [H1.out]; dsimp only [tupXB]
      clear c0 b0
      replace y := y.trans x3
      clear x3
      go_wp2_with fail
      refine (wideAlike_any _ _ g1 g1 _).mono ?_
      rintro e w' ⟨rfl, rfl⟩
      go_wp2_with fail
      refine (wideAlike_any _ _ g1 g1 _).mono ?_
      rintro e w' ⟨rfl, rfl⟩
      go_wp2
      go_ret; exact ⟨rfl, y⟩

end Go.Proofs.Ytfghjlngllanoaa
