/- Plain facts: wide points are near to the floats of their exact parts; single points are near to the wide ones. No program in sight. -/
import Derived.Test.YtfghjlngllanoaaPtE
import Derived.Test.YtfghjlngllanoaaFltE
namespace Go.Proofs.Ytfghjlngllanoaa
open Ieee
set_option linter.unusedVariables false
set_option maxRecDepth 100000

theorem fq_near {K U : Nat} (hu : RU .f64 K U) {g : Nat → Int} (hg : ∀ j, j < 4 → -100000 ≤ g j ∧ g j ≤ 100000) {x : Nat} {z s : Int} (hx : IVal double x z) (hz : -(40 * (ek .f64 * U : Nat) : Int) ≤ z - s * U ∧ z - s * U ≤ 40 * (ek .f64 * U : Nat))
    (hs : -100000000 ≤ 4 * s - (g 0 * 4611686018427387904 + g 1 * 6521908912666391552 + g 2 * 7987674492471257088 + g 3 * 11296277599074480128) ∧ 4 * s - (g 0 * 4611686018427387904 + g 1 * 6521908912666391552 + g 2 * 7987674492471257088 + g 3 * 11296277599074480128) ≤ 100000000) :
    ∃ c, IVal double (fq g) c ∧ -(4500000000 * (U : Int)) ≤ z - c ∧ z - c ≤ 4500000000 * (U : Int) := by
  obtain ⟨c, c1, c2, c3⟩ := fsum_tight (K := K) (uU := U) hu hg
  refine ⟨c, c1, ?_⟩
  generalize g 0 * 4611686018427387904 + g 1 * 6521908912666391552 + g 2 * 7987674492471257088 + g 3 * 11296277599074480128 = X at *
  have he : ek .f64 = 1048576 := rfl
  rw [he] at hz
  have h1 : (4 * s - X) * (U : Int) ≤ 100000000 * U := Int.mul_le_mul_of_nonneg_right hs.2 (by omega)
  have h2 : -100000000 * (U : Int) ≤ (4 * s - X) * (U : Int) := Int.mul_le_mul_of_nonneg_right hs.1 (by omega)
  have e : (4 * s - X) * (U : Int) = 4 * (s * U) - X * U := by grind
  rw [e] at h1 h2
  clear hs e c1 hx
  generalize s * (U : Int) = sU at *
  generalize X * (U : Int) = XU at *
  omega
theorem tiny_ok {K U J : Nat} (hu : RU .f64 K U) (hJ : K = 20 + J) : IVal double 4472406533629990549 (4835703278458517 * 2 ^ J : Nat) := by
  have hr : double.read 4472406533629990549 = .number false 4835703278458517 (-82) := by kernel_rfl
  have hl : double.leastPlace = -((62 + K : Nat) : Int) := by rw [hu.1]; show _ = -((oneU double : Nat) : Int); rw [oneU_double]; exact lp_double
  have hN : Num double 4472406533629990549 false (4835703278458517 * 2 ^ J) := by
    refine ⟨_, _, hr, by rw [hl]; omega, ?_⟩
    rw [hl]
    have e : ((-82 : Int) - -((62 + K : Nat) : Int)).toNat = J := by omega
    rw [e]
  have := IVal.ofNum hN
  simpa using this
theorem order_val' {f : Format} {x y : Nat} {a b : Int} (hx : IVal f x a) (hy : IVal f y b) : f.order x y = some (compare a b) := by
  obtain ⟨s, v, ⟨m, p, hr, hp, hv⟩, rfl⟩ := hx
  obtain ⟨t, u, ⟨n, q, hr', hq, hu⟩, rfl⟩ := hy
  unfold Format.order
  rw [hr, hr']
  simp only [Datum.order, Option.some.injEq]
  obtain ⟨base, hbase⟩ : ∃ base, base = min p q := ⟨_, rfl⟩
  rw [← hbase]
  have e1 := signed_units (f := f) (b := base) s (by omega) (by omega) hv
  have e2 := signed_units (f := f) (b := base) t (by omega) (by omega) hu
  rw [← e1, ← e2]
  have hpos : 0 < ((2 ^ (base - f.leastPlace).toNat : Nat) : Int) := by have := Nat.two_pow_pos (base - f.leastPlace).toNat; omega
  generalize ((2 ^ (base - f.leastPlace).toNat : Nat) : Int) = g at *
  generalize signed s m (p - base).toNat = A
  generalize signed t n (q - base).toNat = B
  rcases Int.lt_trichotomy A B with h | h | h
  · rw [Std.compare_eq_lt.2 h, Std.compare_eq_lt.2 (Int.mul_lt_mul_of_pos_right h hpos)]
  · subst h; simp
  · rw [Std.compare_eq_gt.2 h, Std.compare_eq_gt.2 (Int.mul_lt_mul_of_pos_right h hpos)]
/-- both differences of near floats are small -/
theorem near_diff {K U : Nat} (hu : RU .f64 K U) {x y : Nat} {a b : Int} (hx : IVal double x a) (hy : IVal double y b) (h : -(4500000000 * (U : Int)) ≤ a - b ∧ a - b ≤ 4500000000 * (U : Int)) :
    ∃ d, floatBits .sub .f64 x y = some d ∧ (FloatKind.f64.format.order d 4472406533629990549 == some .lt) = true := by
  have hE := exp_ok .f64 0 (by omega)
  have hK : K = 1012 := by have := hu.1; rw [show oneU FloatKind.f64.format = oneU double from rfl, oneU_double] at this; omega
  obtain ⟨r, c, k1, k2, k3, k4⟩ := sub_ok hx hy (33 + K) (by rw [hu.pow]; omega) (by show 33 + K - 52 + 3 < 2 ^ 11; omega)
  refine ⟨r, k1, ?_⟩
  obtain ⟨J, hJ⟩ : ∃ J, K = 20 + J := ⟨K - 20, by omega⟩
  have ht := tiny_ok hu hJ
  have := order_val' k2 ht
  show (double.order r _ == _) = true
  rw [this]
  have hU : U = 1048576 * 2 ^ J := by rw [hu.2, hJ, Nat.pow_add]
  have e1 : 33 + K - double.fractionBits = 993 := by subst hK; rfl
  have hlt : c < ((4835703278458517 * 2 ^ J : Nat) : Int) := by
    have hle : 2 ^ (33 + K - double.fractionBits) ≤ 2 ^ K := Nat.pow_le_pow_right (by omega) (by rw [e1]; omega)
    rw [← hu.2] at hle
    have hjp := Nat.two_pow_pos J
    clear k1 k2 k3 this ht hx hy
    generalize 2 ^ (33 + K - double.fractionBits) = ee at *
    generalize 2 ^ J = j at *
    clear hE e1 hK hJ
    omega
  rw [Std.compare_eq_lt.2 hlt]
  rfl

theorem rv_re : ∀ i, i < 8 → rv .f64 (rootRe .f64 i) = [4611686018427387904, 4454546627935218176, 3993837246235628544, 3260954456333195776, 2305843009213693952, 1193592171602022400, 0, -1193592171602022400].getD i 0 := by decide +kernel
theorem rv_im : ∀ i, i < 8 → rv .f64 (rootIm .f64 i) = [0, 1193592171602022400, 2305843009213693952, 3260954456333195776, 3993837246235628544, 4454546627935218176, 4611686018427387904, 4454546627935218176].getD i 0 := by decide +kernel
theorem rv_re32 : ∀ i, i < 8 → rv .f32 (rootRe .f32 i) = [4611686018427387904, 4454546565364711424, 3993837174553313280, 3260954400524337152, 2305843009213693952, 1193592164840374272, 0, -1193592164840374272].getD i 0 := by decide +kernel
theorem rv_im32 : ∀ i, i < 8 → rv .f32 (rootIm .f32 i) = [0, 1193592164840374272, 2305843009213693952, 3260954400524337152, 3993837174553313280, 4454546565364711424, 4611686018427387904, 4454546565364711424].getD i 0 := by decide +kernel
theorem S_re (f : Nat → Int) : partS .f64 (rootRe .f64) f 8 = f 0 * 4611686018427387904 + f 1 * 4454546627935218176 + f 2 * 3993837246235628544 + f 3 * 3260954456333195776 + f 4 * 2305843009213693952 + f 5 * 1193592171602022400 - f 7 * 1193592171602022400 := by
  simp only [partS, rv_re 0 (by omega), rv_re 1 (by omega), rv_re 2 (by omega), rv_re 3 (by omega), rv_re 4 (by omega), rv_re 5 (by omega), rv_re 6 (by omega), rv_re 7 (by omega), List.getD_cons_zero, List.getD_cons_succ]
  omega
theorem S_im (f : Nat → Int) : partS .f64 (rootIm .f64) f 8 = f 1 * 1193592171602022400 + f 2 * 2305843009213693952 + f 3 * 3260954456333195776 + f 4 * 3993837246235628544 + f 5 * 4454546627935218176 + f 6 * 4611686018427387904 + f 7 * 4454546627935218176 := by
  simp only [partS, rv_im 0 (by omega), rv_im 1 (by omega), rv_im 2 (by omega), rv_im 3 (by omega), rv_im 4 (by omega), rv_im 5 (by omega), rv_im 6 (by omega), rv_im 7 (by omega), List.getD_cons_zero, List.getD_cons_succ]
  omega
theorem S_re32 (f : Nat → Int) : partS .f32 (rootRe .f32) f 8 = f 0 * 4611686018427387904 + f 1 * 4454546565364711424 + f 2 * 3993837174553313280 + f 3 * 3260954400524337152 + f 4 * 2305843009213693952 + f 5 * 1193592164840374272 - f 7 * 1193592164840374272 := by
  simp only [partS, rv_re32 0 (by omega), rv_re32 1 (by omega), rv_re32 2 (by omega), rv_re32 3 (by omega), rv_re32 4 (by omega), rv_re32 5 (by omega), rv_re32 6 (by omega), rv_re32 7 (by omega), List.getD_cons_zero, List.getD_cons_succ]
  omega
theorem S_im32 (f : Nat → Int) : partS .f32 (rootIm .f32) f 8 = f 1 * 1193592164840374272 + f 2 * 2305843009213693952 + f 3 * 3260954400524337152 + f 4 * 3993837174553313280 + f 5 * 4454546565364711424 + f 6 * 4611686018427387904 + f 7 * 4454546565364711424 := by
  simp only [partS, rv_im32 0 (by omega), rv_im32 1 (by omega), rv_im32 2 (by omega), rv_im32 3 (by omega), rv_im32 4 (by omega), rv_im32 5 (by omega), rv_im32 6 (by omega), rv_im32 7 (by omega), List.getD_cons_zero, List.getD_cons_succ]
  omega
/-- the coefficients are small -/
def Small (f : Nat → Int) : Prop := ∀ j, j < 8 → -1000 ≤ f j ∧ f j ≤ 1000

end Go.Proofs.Ytfghjlngllanoaa
