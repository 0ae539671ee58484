/- Single points are near to the wide ones: the law's walk (P31). -/
import Derived.Test.YtfghjlngllanoaaPtA
namespace Go.Proofs.Ytfghjlngllanoaa
open Go.ChangeShapes Go.WideShapes Go.ChangeAt Go.RowKit
set_option linter.unusedVariables false
set_option maxRecDepth 100000

set_option maxRecDepth 100000 in
set_option maxHeartbeats 4000000 in
theorem lawSinglePoint (a : Option Addr) (len cap : Nat) (w : World) (h : CodeOk w a len cap) :
    Calls Try.prog 4 #[.slice a len cap] w fun e w' => e = .returned (.bool true) ∧ Ext w w' := by
  have hl := h.1
  have hm := h.2.1
  unfold maxLen at hm
  by_cases hbig : 1048576 < len
  · go_enter Try.func4, Try.ntmps4
    go_wp2_with fail
    go_ret; exact ⟨rfl, Ext.refl _⟩
  · go_enter Try.func4, Try.ntmps4
    go_wp2_with fail
    refine (dSinglePoint_any _ _ _ _ h).mono ?_
    rintro e w1 ⟨f, rfl, hf, x1⟩
    clear h hl hm hbig hf
    have b0 := Blk.new w1 (cyc8 f) 27
    have y := x1.alloc (.cells (cyc8 f).toArray 27)
    have c0 := b0.cell
    clear x1
    by_cases hv : cycOk f = true
    · have H1 := Lib.hid (show pointM .f32 f = (pointP .f32 f 8, true) from by simp [pointM, hv])
      have H2 := Lib.hid (show pointM .f64 f = (pointP .f64 f 8, true) from by simp [pointM, hv])
      have g := pointM_num .f32 f
      rw [H1.out] at g
      obtain ⟨g1, g2⟩ := g
      have S1 := g1.isNum.self
      have S2 := g2.isNum.self
      have hc : ∀ w, (convert 35 23 (.complex .f32 (pointP .f32 f 8).1 (pointP .f32 f 8).2)).run Try.prog w = .ok (.complex .f64 (widen (pointP .f32 f 8).1) (widen (pointP .f32 f 8).2)) w := fun w => run_convert_complex w _ _ .f32 .f64 _ _ _ _ (by rw [Try.underlying35]; rfl) Try.underlying23 (widen_conv g1 g2 (by omega) (by omega))
      clear hv
      go_wp2_with fail
      refine (iSinglePoint_any f _).mono ?_
      rintro e w2 ⟨rfl, x2⟩
      rw [H1.out]; dsimp only [tupXB]
      replace b0 := b0.keep x2
      replace c0 := b0.cell
      replace y := y.trans x2
      clear x2
      go_wp2_with fail
      refine (sSinglePoint_any f _).mono ?_
      rintro e w3 ⟨rfl, x3⟩
      rw [H1.out]; dsimp only [tupXB]
      replace b0 := b0.keep x3
      replace c0 := b0.cell
      replace y := y.trans x3
      clear x3
      go_wp2_with fail
      refine (singleAlike_any _ _ g1 g2 (by omega) (by omega) _).mono ?_
      rintro e w' ⟨rfl, rfl⟩
      clear g1 g2
      go_wp2_with fail
      refine wp_loop_rounds 9 ?_
      by_cases hs : Small f
      · obtain ⟨re, im, n1, n2, n3⟩ := single_near hs
        have N1 := Lib.hid n1; have N2 := Lib.hid n2; have N3 := Lib.hid n3
        clear n1 n2 n3
        obtain ⟨f0, e0⟩ := hs 0 (by omega); obtain ⟨f1, e1⟩ := hs 1 (by omega); obtain ⟨f2, e2⟩ := hs 2 (by omega); obtain ⟨f3, e3⟩ := hs 3 (by omega)
        obtain ⟨f4, e4⟩ := hs 4 (by omega); obtain ⟨f5, e5⟩ := hs 5 (by omega); obtain ⟨f6, e6⟩ := hs 6 (by omega); obtain ⟨f7, e7⟩ := hs 7 (by omega)
        clear hs
        iterate 9 (rw [rounds_succ]; go_wp2_with fail)
        refine (iWidePoint_any f _).mono ?_
        rintro e w4 ⟨rfl, x4⟩
        rw [H2.out]; dsimp only [tupXB]
        replace y := y.trans x4
        clear c0 b0 x4
        go_wp2_with fail
        refine (iPointsNear_lt _ _ _ _ re im 4576918229304087675 N1.out N2.out N3.out _).mono ?_
        rintro e w' ⟨rfl, rfl⟩
        go_wp2
        go_ret; exact ⟨rfl, y⟩
      · clear b0 H1 H2 hc
        iterate 9 (any_goals (rw [rounds_succ]; go_wp2_with fail))
        all_goals first
          | (go_ret; exact ⟨rfl, y⟩)
          | (exfalso; apply hs; intro j hj
             obtain rfl | rfl | rfl | rfl | rfl | rfl | rfl | rfl : j = 0 ∨ j = 1 ∨ j = 2 ∨ j = 3 ∨ j = 4 ∨ j = 5 ∨ j = 6 ∨ j = 7 := by omega
             all_goals (constructor <;> omega))
    · have H1 := Lib.hid (show pointM .f32 f = ((0, 0), false) from by simp [pointM, hv])
      have g1 := zero_ok .f32 0
      clear hv
      go_wp2_with fail
      refine (iSinglePoint_any f _).mono ?_
      rintro e w2 ⟨rfl, x2⟩
      rw [H1.out]; dsimp only [tupXB]
      replace b0 := b0.keep x2
      replace c0 := b0.cell
      replace y := y.trans x2
      clear x2
      go_wp2_with fail
      refine (sSinglePoint_any f _).mono ?_
      rintro e w3 ⟨rfl, x3⟩
      rw [H1.out]; dsimp only [tupXB]
      clear c0 b0
      replace y := y.trans x3
      clear x3
      go_wp2_with fail
      refine (singleAlike_any _ _ g1 g1 (by omega) (by omega) _).mono ?_
      rintro e w' ⟨rfl, rfl⟩
      go_wp2_with fail
      refine (singleAlike_any _ _ g1 g1 (by omega) (by omega) _).mono ?_
      rintro e w' ⟨rfl, rfl⟩
      go_wp2
      go_ret; exact ⟨rfl, y⟩

end Go.Proofs.Ytfghjlngllanoaa
