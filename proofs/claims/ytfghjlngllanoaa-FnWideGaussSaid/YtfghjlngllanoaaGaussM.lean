/- Whole points are exact (P32): the law's walk. -/
import Derived.Test.YtfghjlngllanoaaGaussL
namespace Go.Proofs.Ytfghjlngllanoaa
open Go.ChangeShapes Go.WideShapes Go.ChangeAt Go.RowKit
set_option linter.unusedVariables false
set_option maxRecDepth 100000

theorem sWideGauss_any (x y : Nat) (hx : WPart x) (hy : WPart y) (w : World) : Calls Try.prog 10 #[.complex .f64 x y] w fun e w' => e = .returned (tupCB (gM x y)) ∧ Ext w w' := by
  cases hgx : guardW x
  · exact sWideGaussOut x y hx hy (by rw [hgx]; rfl) w
  · cases hgy : guardW y
    · exact sWideGaussOut x y hx hy (by rw [hgy, Bool.and_false]) w
    · exact sWideGaussIn x y hx hy hgx hgy w
theorem okW_word {x : Nat} (h : WPart x) (ho : okW x = true) : (-20 ≤ intW x ∧ intW x ≤ 20) ∧ eqW (XW .f64 (intW x)) x = true ∧ eqW (widen (XW .f32 (intW x))) (XW .f64 (intW x)) = true := by
  have hg : guardW x = true := by unfold okW at ho; simp only [Bool.and_eq_true] at ho; exact ho.1
  obtain ⟨_, _, n3, n4, _⟩ := (wfacts h).2 hg
  rcases h with h | h
  · have : guardW x = false := h.abs.le _
    rw [this] at hg; cases hg
  · have hc := of_all chkE_all h
    unfold chkE at hc
    rw [ho] at hc
    simp only [Bool.not_true, Bool.false_or, Bool.and_eq_true] at hc
    exact ⟨⟨n3, n4⟩, hc.1, hc.2⟩
theorem point_gauss (k : FloatKind) {a b : Int} (a1 : -20 ≤ a) (a2 : a ≤ 20) (b1 : -20 ≤ b) (b2 : b ≤ 20) : pointP k (gaussF a b) 8 = (XW k a, XW k b) :=
  Prod.ext (re_gauss k a1 a2 b1 b2 7 (by omega)) (im_gauss k a1 a2 b1 b2)
set_option maxHeartbeats 2000000 in
theorem lawWideGauss (a : Option Addr) (len cap : Nat) (w : World) (h : CodeOk w a len cap) :
    Calls Try.prog 3 #[.slice a len cap] w fun e w' => e = .returned (.bool true) ∧ Ext w w' := by
  have hl := h.1
  have hm := h.2.1
  unfold maxLen at hm
  by_cases hbig : 1048576 < len
  · go_enter Try.func3, Try.ntmps3
    go_wp2_with fail
    go_ret; exact ⟨rfl, Ext.refl _⟩
  · go_enter Try.func3, Try.ntmps3
    go_wp2_with fail
    refine (dWideGauss_any _ _ _ _ h).mono ?_
    rintro e w1 ⟨x, y, rfl, ⟨hx, hy⟩, z⟩
    clear h hl hm hbig
    have P := Lib.hid (And.intro hx (Or.inr hy : WPart y))
    have hbld := buildCyc
    clear hx hy
    cases ho : (okW x && okW y)
    · have H := Lib.hid (show gM x y = (fun _ => 0, false) from by simp [gM, ho])
      have eqs := eqC (fun _ => 0) (fun _ => 0)
      have eqt := eqF8_self (fun _ => 0)
      clear ho
      go_wp2_with fail
      refine (iWideGauss_any x y P.out.1 P.out.2 _).mono ?_
      rintro e w2 ⟨rfl, x2⟩
      rw [H.out]; dsimp only [tupCB]
      have b0 := Blk.new w2 (cyc8 fun _ => 0) 27
      replace z := (z.trans x2).alloc (.cells (cyc8 fun _ => 0).toArray 27)
      have c0 := b0.cell
      clear x2
      go_wp2_with fail
      refine (sWideGauss_any x y P.out.1 P.out.2 _).mono ?_
      rintro e w3 ⟨rfl, x3⟩
      rw [H.out]; dsimp only [tupCB]
      replace b0 := (b0.keep x3).alloc (.cells (cyc8 fun _ => 0).toArray 27)
      replace c0 := b0.cell
      have b1 := Blk.new w3 (cyc8 fun _ => 0) 27
      have c1 := b1.cell
      replace z := (z.trans x3).alloc (.cells (cyc8 fun _ => 0).toArray 27)
      clear x3
      go_wp2
      go_ret; exact ⟨rfl, z⟩
    · have H := Lib.hid (show gM x y = (gaussF (intW x) (intW y), true) from by simp [gM, ho])
      rw [Bool.and_eq_true] at ho
      obtain ⟨⟨r1, r2⟩, r3, r4⟩ := okW_word P.out.1 ho.1
      obtain ⟨⟨i1, i2⟩, i3, i4⟩ := okW_word P.out.2 ho.2
      have hok := gauss_ok r1 r2 i1 i2
      have HP := Lib.hid (show pointM .f64 (gaussF (intW x) (intW y)) = ((XW .f64 (intW x), XW .f64 (intW y)), true) from by simp [pointM, hok, point_gauss .f64 r1 r2 i1 i2])
      have HF := Lib.hid (show fitM (gaussF (intW x) (intW y)) = true from by
        unfold eqW at r4 i4
        unfold fitM
        rw [hok, point_gauss .f64 r1 r2 i1 i2, point_gauss .f32 r1 r2 i1 i2]
        dsimp only
        rw [r4, i4]; rfl)
      have q1 : FloatKind.f64.format.order (XW .f64 (intW x)) x = some .eq := by unfold eqW at r3; simpa using r3
      have q2 : FloatKind.f64.format.order (XW .f64 (intW y)) y = some .eq := by unfold eqW at i3; simpa using i3
      clear ho r1 r2 r3 r4 i1 i2 i3 i4 hok
      generalize XW .f64 (intW x) = X at *
      generalize XW .f64 (intW y) = Y at *
      generalize gaussF (intW x) (intW y) = f at *
      have eqs := eqC f f
      have eqt := eqF8_self f
      go_wp2_with fail
      refine (iWideGauss_any x y P.out.1 P.out.2 _).mono ?_
      rintro e w2 ⟨rfl, x2⟩
      rw [H.out]; dsimp only [tupCB]
      have b0 := Blk.new w2 (cyc8 f) 27
      replace z := (z.trans x2).alloc (.cells (cyc8 f).toArray 27)
      have c0 := b0.cell
      clear x2
      go_wp2_with fail
      refine (sWideGauss_any x y P.out.1 P.out.2 _).mono ?_
      rintro e w3 ⟨rfl, x3⟩
      rw [H.out]; dsimp only [tupCB]
      replace b0 := (b0.keep x3).alloc (.cells (cyc8 f).toArray 27)
      replace c0 := b0.cell
      have b1 := Blk.new w3 (cyc8 f) 27
      have c1 := b1.cell
      replace z := (z.trans x3).alloc (.cells (cyc8 f).toArray 27)
      clear x3
      go_wp2_with fail
      refine (iWidePoint_any f _).mono ?_
      rintro e w4 ⟨rfl, x4⟩
      rw [HP.out]; dsimp only [tupXB]
      replace b0 := b0.keep x4
      replace c0 := b0.cell
      replace z := z.trans x4
      clear x4 b1 c1
      go_wp2_with fail
      refine (iPointsFit_any f _).mono ?_
      rintro e w5 ⟨rfl, x5⟩
      rw [HF.out]
      go_wp2
      go_ret; exact ⟨rfl, z.trans x5⟩

end Go.Proofs.Ytfghjlngllanoaa
