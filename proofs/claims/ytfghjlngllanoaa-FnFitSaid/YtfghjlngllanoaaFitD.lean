/- The law on points that fit (P33): its walk. -/
import Derived.Test.YtfghjlngllanoaaWideL
import Derived.Test.YtfghjlngllanoaaCycLaws
import Derived.Test.YtfghjlngllanoaaOpp
namespace Go.Proofs.Ytfghjlngllanoaa
open Go.ChangeShapes Go.WideShapes Go.ChangeAt Go.RowKit
set_option linter.unusedVariables false
set_option maxRecDepth 100000

theorem fitM_neg {f : Nat → Int} (h : fitM f = true) : fitM (fun j => - f j) = true := by
  unfold fitM at h
  simp only [Bool.and_eq_true] at h
  obtain ⟨hv, h1, h2⟩ := h
  have hf := cycOk_bd hv
  obtain ⟨o1, o2⟩ := opp_point .f64 hf 8 (by omega)
  obtain ⟨s1, s2⟩ := opp_point .f32 hf 8 (by omega)
  obtain ⟨b1, b2⟩ := pointP_ok .f32 hf 8 (by omega)
  have e1 := opp_order (opp_widen s1 b1 (by omega)) o1
  have e2 := opp_order (opp_widen s2 b2 (by omega)) o2
  unfold fitM
  rw [cycOk_neg hv, e1, e2, h1, h2]
  rfl

set_option maxHeartbeats 2000000 in
theorem lawFit (a : Option Addr) (len cap : Nat) (w : World) (h : CodeOk w a len cap) :
    Calls Try.prog 5 #[.slice a len cap] w fun e w' => e = .returned (.bool true) ∧ Ext w w' := by
  have hl := h.1
  have hm := h.2.1
  unfold maxLen at hm
  by_cases hbig : 1048576 < len
  · go_enter Try.func5, Try.ntmps5
    go_wp2_with fail
    go_ret; exact ⟨rfl, Ext.refl _⟩
  · go_enter Try.func5, Try.ntmps5
    go_wp2_with fail
    refine (dPointsFit_any _ _ _ _ h).mono ?_
    rintro e w1 ⟨f, rfl, hf, x1⟩
    clear h hl hm hbig hf
    have b0 := Blk.new w1 (cyc8 f) 27
    have y := x1.alloc (.cells (cyc8 f).toArray 27)
    have c0 := b0.cell
    clear x1
    go_wp2_with fail
    refine (iPointsFit_any f _).mono ?_
    rintro e w2 ⟨rfl, x2⟩
    replace b0 := b0.keep x2
    replace c0 := b0.cell
    replace y := y.trans x2
    clear x2
    go_wp2_with fail
    refine (sPointsFit_any f _).mono ?_
    rintro e w3 ⟨rfl, x3⟩
    replace b0 := b0.keep x3
    replace c0 := b0.cell
    replace y := y.trans x3
    clear x3
    by_cases hv : fitM f = true
    · have hc : cycOk f = true := by unfold fitM at hv; simp only [Bool.and_eq_true] at hv; exact hv.1
      have H1 := Lib.hid (scaleM_neg hc)
      have H2 := fitM_neg hv
      clear hc
      go_wp2_with fail
      refine (iCycScale_any f (-1) _).mono ?_
      rintro e w4 ⟨rfl, x4⟩
      rw [H1.out]; dsimp only [tupCB]
      have b1 := Blk.new w4 (cyc8 fun j => - f j) 27
      have c1 := b1.cell
      replace y := (y.trans x4).alloc (.cells (cyc8 fun j => - f j).toArray 27)
      clear x4 c0 b0
      go_wp2_with fail
      refine (iPointsFit_any (fun j => - f j) _).mono ?_
      rintro e w5 ⟨rfl, x5⟩
      rw [H2]
      clear H2 c1 b1
      go_wp2
      go_ret; exact ⟨rfl, y.trans x5⟩
    · have hv' : fitM f = false := by simpa using hv
      clear hv
      go_wp2
      go_ret; exact ⟨rfl, y⟩

end Go.Proofs.Ytfghjlngllanoaa
