/- The law on signs of surds (P24): its walk. -/
import Derived.Test.YthgmgjjjgllbjaaSurdLaws
import Derived.Test.YthgmgjjjgllbjaaSignR
import Derived.Test.YthgmgjjjgllbjaaFltE
import Derived.WalkLawsBesides
import Derived.Laws.ComplexArith
namespace Go.Proofs.Ythgmgjjjgllbjaa
open Go.ChangeShapes Go.WideShapes Go.ChangeAt Go.RowKit
set_option linter.unusedVariables false

open Ieee in
theorem order_val {f : Format} {x y : Nat} {a b : Int} (hx : IVal f x a) (hy : IVal f y b) : f.order x y = some (compare a b) := by
  obtain ⟨s, v, ⟨m, p, hr, hp, hv⟩, rfl⟩ := hx
  obtain ⟨t, u, ⟨n, q, hr', hq, hu⟩, rfl⟩ := hy
  unfold Format.order
  rw [hr, hr']
  simp only [Datum.order]
  obtain ⟨base, hbase⟩ : ∃ base, base = min p q := ⟨_, rfl⟩
  rw [← hbase]
  have e1 := signed_units (f := f) (b := base) s (by omega) (by omega) hv
  have e2 := signed_units (f := f) (b := base) t (by omega) (by omega) hu
  rw [← e1, ← e2]
  have hpos : 0 < ((2 ^ (base - f.leastPlace).toNat : Nat) : Int) := by have := Nat.two_pow_pos (base - f.leastPlace).toNat; omega
  generalize ((2 ^ (base - f.leastPlace).toNat : Nat) : Int) = g at *
  generalize signed s m (p - base).toNat = A
  generalize signed t n (q - base).toNat = B
  congr 1
  rcases Int.lt_trichotomy A B with h | h | h
  · have h2 := Int.mul_lt_mul_of_pos_right h hpos
    simp [compare, compareOfLessAndEq, h, h2]
  · subst h; simp [compare, compareOfLessAndEq]
  · have h2 := Int.mul_lt_mul_of_pos_right h hpos
    have n1 : ¬ A < B := by omega
    have n2 : ¬ A = B := by omega
    have n3 : ¬ A * g < B * g := by omega
    have n4 : ¬ A * g = B * g := by omega
    simp only [compare, compareOfLessAndEq, if_neg n1, if_neg n2, if_neg n3, if_neg n4]
theorem not_le {a b : Int} (h : ¬ ((some (compare a b) == some Ordering.lt || some (compare a b) == some Ordering.eq) = true)) : b < a := by
  rcases Int.lt_trichotomy a b with h1 | h1 | h1
  · exfalso; apply h; simp [compare, compareOfLessAndEq, h1]
  · exfalso; apply h; subst h1; simp [compare, compareOfLessAndEq]
  · exact h1
theorem not_ge {a b : Int} (h : ¬ ((some (compare a b) == some Ordering.gt || some (compare a b) == some Ordering.eq) = true)) : a < b := by
  rcases Int.lt_trichotomy a b with h1 | h1 | h1
  · exact h1
  · exfalso; apply h; subst h1; simp [compare, compareOfLessAndEq]
  · exfalso; apply h
    have n1 : ¬ a < b := by omega
    have n2 : ¬ a = b := by omega
    simp [compare, compareOfLessAndEq, n1, n2]
theorem sign_hi {f : Nat → Int} (hf : ∀ j, j < 4 → -100000 ≤ f j ∧ f j ≤ 100000) :
    (FloatKind.f64.format.order (fq f) 4562254508917369340 == some .lt || FloatKind.f64.format.order (fq f) 4562254508917369340 == some .eq) = true ∨ sgF f = 1 := by
  obtain ⟨K, U, hu⟩ := unit_ex
  obtain ⟨c, hc, h1, h2⟩ := fsum_err hu hf
  have hk : Go.Proofs.Ythgmgjjjgllbjaa.IVal Ieee.double 4562254508917369340 (4611686018427388 * U) := const_u hu (m := 4611686018427388) (p := -62) (t := 0) (by kernel_rfl) (by omega)
  have ho : FloatKind.f64.format.order (fq f) 4562254508917369340 = some (compare c (4611686018427388 * U)) := order_val hc hk
  rw [ho]
  by_cases hb : (some (compare c (4611686018427388 * (U : Int))) == some Ordering.lt || some (compare c (4611686018427388 * (U : Int))) == some Ordering.eq) = true
  · exact .inl hb
  · right
    have hgt := not_le hb
    have hp := hu.pos
    apply sg3_far (hf 0 (by omega)) (hf 1 (by omega)) (hf 2 (by omega)) (hf 3 (by omega))
    have e : (f 0 * 4611686018427387904 + f 1 * 6521908912666391552 + f 2 * 7987674492471257088 + f 3 * 11296277599074480128) = (f 0 * 4503599627370496 + f 1 * 6369051672525773 + f 2 * 7800463371553962 + f 3 * 11031521092846172) * 1024 := by omega
    rw [e] at h1 h2
    generalize f 0 * 4503599627370496 + f 1 * 6369051672525773 + f 2 * 7800463371553962 + f 3 * 11031521092846172 = L at *
    by_cases hL : 10000000000000 ≤ L
    · exact hL
    · exfalso
      have h3 : L * 1024 * (U : Int) ≤ 10000000000000 * 1024 * (U : Int) := Int.mul_le_mul_of_nonneg_right (by omega) (by omega)
      generalize L * 1024 * (U : Int) = M at *
      omega
theorem sign_lo {f : Nat → Int} (hf : ∀ j, j < 4 → -100000 ≤ f j ∧ f j ≤ 100000) :
    (FloatKind.f64.format.order (fq f) 13785626545772145148 == some .gt || FloatKind.f64.format.order (fq f) 13785626545772145148 == some .eq) = true ∨ sgF f = -1 := by
  obtain ⟨K, U, hu⟩ := unit_ex
  obtain ⟨c, hc, h1, h2⟩ := fsum_err hu hf
  have hk0 : Go.Proofs.Ythgmgjjjgllbjaa.Num Ieee.double 13785626545772145148 true (4611686018427388 * U) := by
    have hl : Ieee.double.leastPlace = -((62 + K : Nat) : Int) := by rw [hu.1, oneU_double]; exact lp_double
    refine ⟨4611686018427388, -62, by kernel_rfl, by rw [hl]; omega, ?_⟩
    rw [hl]
    have e : ((-62 : Int) - -((62 + K : Nat) : Int)).toNat = 0 + K := by omega
    rw [e, hu.pow]; simp
  have hk := IVal.ofNum hk0
  simp only [if_true] at hk
  have ho : FloatKind.f64.format.order (fq f) 13785626545772145148 = some (compare c (-((4611686018427388 * U : Nat) : Int))) := order_val hc hk
  rw [ho]
  by_cases hb : (some (compare c (-((4611686018427388 * U : Nat) : Int))) == some Ordering.gt || some (compare c (-((4611686018427388 * U : Nat) : Int))) == some Ordering.eq) = true
  · exact .inl hb
  · right
    have hgt := not_ge hb
    have hp := hu.pos
    have key : sg3 (-f 0) (-f 1) (-f 2) (-f 3) = 1 := by
      have b0 := hf 0 (by omega); have b1 := hf 1 (by omega); have b2 := hf 2 (by omega); have b3 := hf 3 (by omega)
      apply sg3_far (by omega) (by omega) (by omega) (by omega)
      have e : (f 0 * 4611686018427387904 + f 1 * 6521908912666391552 + f 2 * 7987674492471257088 + f 3 * 11296277599074480128) = -(-f 0 * 4503599627370496 + -f 1 * 6369051672525773 + -f 2 * 7800463371553962 + -f 3 * 11031521092846172) * 1024 := by omega
      rw [e] at h1 h2
      generalize -f 0 * 4503599627370496 + -f 1 * 6369051672525773 + -f 2 * 7800463371553962 + -f 3 * 11031521092846172 = L at *
      by_cases hL : 10000000000000 ≤ L
      · exact hL
      · exfalso
        have h3 : L * 1024 * (U : Int) ≤ 10000000000000 * 1024 * (U : Int) := Int.mul_le_mul_of_nonneg_right (by omega) (by omega)
        have e3 : -L * 1024 * (U : Int) = -(L * 1024 * (U : Int)) := by grind
        rw [e3] at h1 h2
        generalize L * 1024 * (U : Int) = M at *
        omega
    rw [sg3_neg] at key
    unfold sgF; omega

set_option maxHeartbeats 1000000 in
theorem floatOf_any (f : Nat → Int) (hf : ∀ j, j < 4 → -10000000 ≤ f j ∧ f j ≤ 10000000) (w : World) : Calls Try.prog 24 #[sfV f] w fun e w' => e = .returned (.float .f64 (fq f)) ∧ Ext w w' := by
  obtain ⟨h1, h2, h3, h4, h5, h6, h7, h8⟩ := fsum_ok hf
  have a1 : ∀ t w, (binOp .mul t (.float .f64 (floatOfInt .f64 (f 1))) (.float .f64 4609047870845172685)).run Try.prog w = .ok (.float .f64 (fm1 f)) w := fun t w => run_float_arith w .mul t .f64 _ _ _ h1
  have a2 : ∀ t w, (binOp .add t (.float .f64 (floatOfInt .f64 (f 0))) (.float .f64 (fm1 f))).run Try.prog w = .ok (.float .f64 (fs1 f)) w := fun t w => run_float_arith w .add t .f64 _ _ _ h2
  have a3 : ∀ t w, (binOp .mul t (.float .f64 (floatOfInt .f64 (f 2))) (.float .f64 4610479282544200874)).run Try.prog w = .ok (.float .f64 (fm2 f)) w := fun t w => run_float_arith w .mul t .f64 _ _ _ h3
  have a4 : ∀ t w, (binOp .add t (.float .f64 (fs1 f)) (.float .f64 (fm2 f))).run Try.prog w = .ok (.float .f64 (fs2 f)) w := fun t w => run_float_arith w .add t .f64 _ _ _ h4
  have a5 : ∀ t w, (binOp .mul t (.float .f64 (floatOfInt .f64 (f 3))) (.float .f64 4612698179346440494)).run Try.prog w = .ok (.float .f64 (fm3 f)) w := fun t w => run_float_arith w .mul t .f64 _ _ _ h5
  have a6 : ∀ t w, (binOp .add t (.float .f64 (fs2 f)) (.float .f64 (fm3 f))).run Try.prog w = .ok (.float .f64 (fs3 f)) w := fun t w => run_float_arith w .add t .f64 _ _ _ h6
  have a7 : ∀ t w, (binOp .quo t (.float .f64 (fs3 f)) (.float .f64 4616189618054758400)).run Try.prog w = .ok (.float .f64 (fq f)) w := fun t w => run_float_arith w .quo t .f64 _ _ _ h7
  clear h1 h2 h3 h4 h5 h6 h7 h8 hf
  go_enter Try.func24, Try.ntmps24
  go_wp2
  go_ret
  exact ⟨rfl, by repeat (first | exact Ext.refl _ | assumption | refine Ext.drew ?_ | refine Ext.alloc ?_ _ | refine Ext.trans ?_ (by assumption))⟩

set_option maxRecDepth 100000 in
set_option maxHeartbeats 4000000 in
theorem lawSign (a : Option Addr) (len cap : Nat) (w : World) (h : CodeOk w a len cap) :
    Calls Try.prog 8 #[.slice a len cap] w fun e w' => e = .returned (.bool true) ∧ Ext w w' := by
  have hl := h.1
  have hm := h.2.1
  unfold maxLen at hm
  by_cases hbig : 1048576 < len
  · go_enter Try.func8, Try.ntmps8
    go_wp2_with fail
    go_ret; exact ⟨rfl, Ext.refl _⟩
  · go_enter Try.func8, Try.ntmps8
    go_wp2_with fail
    refine (dSurdSign_any _ _ _ _ h).mono ?_
    rintro e w1 ⟨f, rfl, hf, x1⟩
    have b0 := Blk.new w1 (s4 f) 26
    have y := x1.alloc (.cells (s4 f).toArray 26)
    have c0 := b0.cell
    clear x1 h hl hm hbig
    by_cases hv : sOk f = true
    · have H1 := Lib.hid (show signM f = (sgF f, true) from by simp [signM, hv])
      have hsm : ∀ j, j < 4 → -100 ≤ f j ∧ f j ≤ 100 := by
        rcases hf with hf | hf
        · exact hf
        · have := sOk_bd hv 0 (by omega); omega
      have BF := Lib.hid (sOk_bd hv)
      have hA := sign_hi (f := f) (fun j hj => by have := hsm j hj; omega)
      have hB := sign_lo (f := f) (fun j hj => by have := hsm j hj; omega)
      have he : eqF4 f (fun _ => 0) = (sgF f == 0) := by
        have := sgF_eq f (fun _ => 0)
        simp only [Int.sub_zero] at this
        exact this
      have f0 := hsm 0 (by omega); have f1 := hsm 1 (by omega); have f2 := hsm 2 (by omega); have f3 := hsm 3 (by omega)
      obtain ⟨f00, f01⟩ := f0; obtain ⟨f10, f11⟩ := f1; obtain ⟨f20, f21⟩ := f2; obtain ⟨f30, f31⟩ := f3
      have eqs := eqS f (fun _ => 0)
      have hbld := buildSurd
      clear hsm hf hv
      generalize sgF f = S at *
      have HAB := Lib.hid (And.intro hA hB)
      clear hA hB
      go_wp2_with fail
      refine (iSurdSign_any f _).mono ?_
      rintro e w2 ⟨rfl, x2⟩
      rw [H1.out]; dsimp only [tupIB]
      replace b0 := b0.keep x2
      replace c0 := b0.cell
      replace y := y.trans x2
      clear x2
      go_wp2_with fail
      refine (sSurdSign_any f _).mono ?_
      rintro e w3 ⟨rfl, x3⟩
      rw [H1.out]; dsimp only [tupIB]
      replace b0 := b0.keep x3
      replace c0 := b0.cell
      replace y := y.trans x3
      clear x3
      go_wp2_with fail
      refine (floatOf_any f BF.out _).mono ?_
      rintro e w4 ⟨rfl, x4⟩
      replace b0 := b0.keep x4
      replace c0 := b0.cell
      replace y := y.trans x4
      clear x4 H1 BF b0
      obtain ⟨hA, hB⟩ := HAB.out
      clear HAB
      cases hx : (FloatKind.f64.format.order (fq f) 4562254508917369340 == some .lt || FloatKind.f64.format.order (fq f) 4562254508917369340 == some .eq) <;> cases hy : (FloatKind.f64.format.order (fq f) 13785626545772145148 == some .gt || FloatKind.f64.format.order (fq f) 13785626545772145148 == some .eq)
      · rw [hx] at hA; rw [hy] at hB; simp at hA hB; omega
      · rw [hx] at hA; simp at hA; subst hA
        clear hB
        go_wp2
        go_ret; exact ⟨rfl, y⟩
      · rw [hy] at hB; simp at hB; subst hB
        clear hA
        go_wp2
        go_ret; exact ⟨rfl, y⟩
      · clear hA hB
        go_wp2
        go_ret; exact ⟨rfl, y⟩
    · have hv' : sOk f = false := by simpa using hv
      have H1 := Lib.hid (show signM f = (0, false) from by simp [signM, hv'])
      clear hv hv' hf
      go_wp2_with fail
      refine (iSurdSign_any f _).mono ?_
      rintro e w2 ⟨rfl, x2⟩
      rw [H1.out]; dsimp only [tupIB]
      replace b0 := b0.keep x2
      replace c0 := b0.cell
      replace y := y.trans x2
      clear x2
      go_wp2_with fail
      refine (sSurdSign_any f _).mono ?_
      rintro e w3 ⟨rfl, x3⟩
      rw [H1.out]; dsimp only [tupIB]
      clear c0 b0
      go_wp2
      go_ret; exact ⟨rfl, y.trans x3⟩

end Go.Proofs.Ythgmgjjjgllbjaa
