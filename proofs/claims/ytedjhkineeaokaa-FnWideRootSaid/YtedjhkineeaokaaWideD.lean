/- The laws on wide and single roots (P28, P29): their walks. -/
import Derived.Test.YtedjhkineeaokaaWideL
import Derived.Test.YtedjhkineeaokaaDraw2
import Derived.Test.YtedjhkineeaokaaCyc5
namespace Go.Proofs.Ytedjhkineeaokaa
open Go.ChangeShapes Go.WideShapes Go.ChangeAt Go.RowKit
set_option linter.unusedVariables false

theorem dWideRoot_any (a : Option Addr) (len cap : Nat) (w : World) (h : CodeOk w a len cap) :
    Calls Try.prog 24 #[.slice a len cap] w (DrawnOne (-1) 8 w) := by
  go_enter Try.func24, Try.ntmps24
  go_wp2_with fail
  refine (l6Open_any _ _ _ _ h).mono ?_
  rintro e w1 ⟨R, rfl, hR, k1, x1⟩
  go_wp2_with fail
  refine (pick_any 10 0 R _ (by omega) (by omega) (by omega) k1).mono ?_
  rintro e w3 ⟨u, u1, u2, rfl, _, x3⟩
  go_wp2_with fail
  go_ret
  exact ⟨_, rfl, by omega, by omega, x3.ext x1 hR⟩

theorem dSingleRoot_any (a : Option Addr) (len cap : Nat) (w : World) (h : CodeOk w a len cap) :
    Calls Try.prog 22 #[.slice a len cap] w (DrawnOne (-1) 8 w) := by
  go_enter Try.func22, Try.ntmps22
  go_wp2_with fail
  refine (dWideRoot_any _ _ _ _ h).mono ?_
  rintro e w1 ⟨v, rfl, v1, v2, x1⟩
  go_wp2_with fail
  go_ret
  exact ⟨v, rfl, v1, v2, x1⟩

set_option maxHeartbeats 1000000 in
theorem lawSingleRoot (a : Option Addr) (len cap : Nat) (w : World) (h : CodeOk w a len cap) :
    Calls Try.prog 8 #[.slice a len cap] w fun e w' => e = .returned (.bool true) ∧ Ext w w' := by
  have hl := h.1
  have hm := h.2.1
  unfold maxLen at hm
  by_cases hbig : 1048576 < len
  · go_enter Try.func8, Try.ntmps8
    go_wp2_with fail
    go_ret; exact ⟨rfl, Ext.refl _⟩
  · go_enter Try.func8, Try.ntmps8
    go_wp2_with fail
    refine (dSingleRoot_any _ _ _ _ h).mono ?_
    rintro e w1 ⟨n, rfl, n1, n2, x1⟩
    by_cases hn : inR 0 7 n = true
    · obtain ⟨k, hk, rfl⟩ := in07 hn
      have H1 := Lib.hid (show rootCM .f32 (k : Int) = ((rootRe .f32 k, rootIm .f32 k), true) from by simp [rootCM, hn])
      have H2 := Lib.hid (show rootCM .f64 (k : Int) = ((rootRe .f64 k, rootIm .f64 k), true) from by simp [rootCM, hn])
      have hc : ∀ w, (convert 26 22 (.complex .f64 (rootRe .f64 k) (rootIm .f64 k))).run Try.prog w = .ok (.complex .f32 (rootRe .f32 k) (rootIm .f32 k)) w := by
        rw [rootRe_f64, rootIm_f64]
        exact fun w => run_convert_complex w _ _ .f64 .f32 _ _ _ _ (by rw [Try.underlying26]; rfl) Try.underlying22 (root_conv .f32 k hk)
      have g1 := rootRe_ok .f32 hk
      have g2 := rootIm_ok .f32 hk
      go_wp2_with fail
      refine (iSingleRoot_any _ _).mono ?_
      rintro e w' ⟨rfl, rfl⟩
      rw [H1.out]; dsimp only [tupXB]
      go_wp2_with fail
      refine (sSingleRoot_any _ _).mono ?_
      rintro e w' ⟨rfl, rfl⟩
      rw [H1.out]; dsimp only [tupXB]
      go_wp2_with fail
      refine (singleAlike_any _ _ g1 g2 (by omega) (by omega) _).mono ?_
      rintro e w' ⟨rfl, rfl⟩
      go_wp2_with fail
      refine (iWideRoot_any _ _).mono ?_
      rintro e w' ⟨rfl, rfl⟩
      rw [H2.out]; dsimp only [tupXB]
      go_wp2_with fail
      refine (singleAlike_any _ _ g1 g2 (by omega) (by omega) _).mono ?_
      rintro e w' ⟨rfl, rfl⟩
      go_wp2_with fail
      go_ret; exact ⟨rfl, x1⟩
    · have H1 := Lib.hid (show rootCM .f32 n = ((0, 0), false) from by simp [rootCM, hn])
      clear hn
      have g1 := zero_ok .f32 0
      go_wp2_with fail
      refine (iSingleRoot_any _ _).mono ?_
      rintro e w' ⟨rfl, rfl⟩
      rw [H1.out]; dsimp only [tupXB]
      go_wp2_with fail
      refine (sSingleRoot_any _ _).mono ?_
      rintro e w' ⟨rfl, rfl⟩
      rw [H1.out]; dsimp only [tupXB]
      go_wp2_with fail
      refine (singleAlike_any _ _ g1 g1 (by omega) (by omega) _).mono ?_
      rintro e w' ⟨rfl, rfl⟩
      go_wp2_with fail
      refine (singleAlike_any _ _ g1 g1 (by omega) (by omega) _).mono ?_
      rintro e w' ⟨rfl, rfl⟩
      go_wp2_with fail
      go_ret; exact ⟨rfl, x1⟩

theorem fwithin_any (a b m d1 d2 : Nat) (h1 : floatBits .sub .f64 a b = some d1) (h2 : floatBits .sub .f64 b a = some d2) (h3 : (FloatKind.f64.format.order d1 m == some .lt) = true) (h4 : (FloatKind.f64.format.order d2 m == some .lt) = true) (w : World) :
    Calls Try.prog 27 #[.float .f64 a, .float .f64 b, .float .f64 m] w fun e w' => e = .returned (.bool true) ∧ w = w' := by
  have s1 : ∀ t w, (binOp .sub t (.float .f64 a) (.float .f64 b)).run Try.prog w = .ok (.float .f64 d1) w := fun t w => run_float_arith w .sub t .f64 _ _ _ h1
  have s2 : ∀ t w, (binOp .sub t (.float .f64 b) (.float .f64 a)).run Try.prog w = .ok (.float .f64 d2) w := fun t w => run_float_arith w .sub t .f64 _ _ _ h2
  clear h1 h2
  go_enter Try.func27, Try.ntmps27
  go_wp2
  go_ret
  exact ⟨rfl, rfl⟩

/-- the square of the size of a wide root -/
def sizeR (k : Nat) : Nat := kAdd .f64 (kMul .f64 (rootRe .f64 k) (rootRe .f64 k)) (kMul .f64 (rootIm .f64 k) (rootIm .f64 k))
def kSub (k : FloatKind) (x y : Nat) : Nat := (floatBits .sub k x y).getD 0
theorem rootLaw : ∀ k, k < 8 → ((FloatKind.f64.format.order (pointP .f64 (rootF k) 8).1 (rootRe .f64 k) == some .eq) && (FloatKind.f64.format.order (pointP .f64 (rootF k) 8).2 (rootIm .f64 k) == some .eq)
    && (floatBits .sub .f64 (sizeR k) 4607182418800017408 == some (kSub .f64 (sizeR k) 4607182418800017408)) && (floatBits .sub .f64 4607182418800017408 (sizeR k) == some (kSub .f64 4607182418800017408 (sizeR k)))
    && (FloatKind.f64.format.order (kSub .f64 (sizeR k) 4607182418800017408) 4382569440205035030 == some .lt) && (FloatKind.f64.format.order (kSub .f64 4607182418800017408 (sizeR k)) 4382569440205035030 == some .lt) && cycOk (rootF k)) = true := by
  decide +kernel

set_option maxHeartbeats 2000000 in
theorem lawWideRoot (a : Option Addr) (len cap : Nat) (w : World) (h : CodeOk w a len cap) :
    Calls Try.prog 9 #[.slice a len cap] w fun e w' => e = .returned (.bool true) ∧ Ext w w' := by
  have hl := h.1
  have hm := h.2.1
  unfold maxLen at hm
  by_cases hbig : 1048576 < len
  · go_enter Try.func9, Try.ntmps9
    go_wp2_with fail
    go_ret; exact ⟨rfl, Ext.refl _⟩
  · go_enter Try.func9, Try.ntmps9
    go_wp2_with fail
    refine (dWideRoot_any _ _ _ _ h).mono ?_
    rintro e w1 ⟨n, rfl, n1, n2, x1⟩
    by_cases hn : inR 0 7 n = true
    · obtain ⟨k, hk, rfl⟩ := in07 hn
      have H1 := Lib.hid (show rootCM .f64 (k : Int) = ((rootRe .f64 k, rootIm .f64 k), true) from by simp [rootCM, hn])
      have hr : inR 0 23 (k : Int) = true := inR_true (by omega) (by omega)
      have H2 := Lib.hid (show rootM (k : Int) = (rootF k, true) from by simp [rootM, hr])
      have hl := rootLaw k hk
      simp only [Bool.and_eq_true] at hl
      obtain ⟨⟨⟨⟨⟨⟨l1, l2⟩, l3⟩, l4⟩, l5⟩, l6⟩, l7⟩ := hl
      have L3 := eq_of_beq l3
      have L4 := eq_of_beq l4
      have H3 := Lib.hid (show pointM .f64 (rootF k) = (pointP .f64 (rootF k) 8, true) from by simp [pointM, l7])
      have g1 := rootRe_ok .f64 hk
      have g2 := rootIm_ok .f64 hk
      have m1 := kMul_ok g1 g1 (by omega)
      have m2 := kMul_ok g2 g2 (by omega)
      have m3 := kAdd_ok m1.2 m2.2 (by omega)
      have hm1 : ∀ t w, (binOp .mul t (.float .f64 (rootRe .f64 k)) (.float .f64 (rootRe .f64 k))).run Try.prog w = .ok (.float .f64 (kMul .f64 (rootRe .f64 k) (rootRe .f64 k))) w := fun t w => run_float_arith w .mul t .f64 _ _ _ m1.1
      have hm2 : ∀ t w, (binOp .mul t (.float .f64 (rootIm .f64 k)) (.float .f64 (rootIm .f64 k))).run Try.prog w = .ok (.float .f64 (kMul .f64 (rootIm .f64 k) (rootIm .f64 k))) w := fun t w => run_float_arith w .mul t .f64 _ _ _ m2.1
      have hm3 : ∀ t w, (binOp .add t (.float .f64 (kMul .f64 (rootRe .f64 k) (rootRe .f64 k))) (.float .f64 (kMul .f64 (rootIm .f64 k) (rootIm .f64 k)))).run Try.prog w = .ok (.float .f64 (sizeR k)) w := fun t w => run_float_arith w .add t .f64 _ _ _ m3.1
      have G1 := g1.isNum
      have G2 := g2.isNum
      clear l3 l4 l7 m1 m2 m3 g1 g2 hn hr
      have L3' := Lib.hid L3
      have L4' := Lib.hid L4
      have l5' := Lib.hid l5
      have l6' := Lib.hid l6
      clear L3 L4 l5 l6
      go_wp2_with fail
      refine (iWideRoot_any _ _).mono ?_
      rintro e w' ⟨rfl, rfl⟩
      rw [H1.out]; dsimp only [tupXB]
      go_wp2_with fail
      refine (sWideRoot_any _ _).mono ?_
      rintro e w' ⟨rfl, rfl⟩
      rw [H1.out]; dsimp only [tupXB]
      go_wp2_with fail
      refine (wideAlike_any _ _ G1 G2 _).mono ?_
      rintro e w' ⟨rfl, rfl⟩
      go_wp2_with fail
      refine (iCycRoot_any (k : Int) _).mono ?_
      rintro e w2 ⟨rfl, x2⟩
      rw [H2.out]; dsimp only [tupCB]
      have k2 := Blk.new w2 (cyc8 (rootF k)) 34
      have y2 := (x1.trans x2).alloc (.cells (cyc8 (rootF k)).toArray 34)
      have c2 := k2.cell
      clear x1 x2
      go_wp2_with fail
      refine (iWidePoint_any (rootF k) _).mono ?_
      rintro e w3 ⟨rfl, x3⟩
      rw [H3.out]; dsimp only [tupXB]
      have y3 := y2.trans x3
      clear c2 k2 y2 x3
      go_wp2_with fail
      refine (fwithin_any (sizeR k) 4607182418800017408 4382569440205035030 _ _ L3'.out L4'.out l5'.out l6'.out _).mono ?_
      rintro e w' ⟨rfl, rfl⟩
      go_wp2_with fail
      go_ret; exact ⟨rfl, y3⟩
    · have H1 := Lib.hid (show rootCM .f64 n = ((0, 0), false) from by simp [rootCM, hn])
      clear hn
      have g1 := isNum_zero .f64
      go_wp2_with fail
      refine (iWideRoot_any _ _).mono ?_
      rintro e w' ⟨rfl, rfl⟩
      rw [H1.out]; dsimp only [tupXB]
      go_wp2_with fail
      refine (sWideRoot_any _ _).mono ?_
      rintro e w' ⟨rfl, rfl⟩
      rw [H1.out]; dsimp only [tupXB]
      go_wp2_with fail
      refine (wideAlike_any _ _ g1 g1 _).mono ?_
      rintro e w' ⟨rfl, rfl⟩
      go_wp2_with fail
      refine (wideAlike_any _ _ g1 g1 _).mono ?_
      rintro e w' ⟨rfl, rfl⟩
      go_wp2_with fail
      go_ret; exact ⟨rfl, x1⟩

end Go.Proofs.Ytedjhkineeaokaa
