/- Plain facts: how far the float of a small surd is from the sum of its parts. No program in sight. -/
import Derived.Test.YtfghjlngllanoaaFltS
namespace Go.Proofs.Ytfghjlngllanoaa
open Ieee
set_option linter.unusedVariables false
set_option maxRecDepth 100000
/-- U is 2 ^ -62 in units of the least place: in it errors are told -/
def Unit62 (K U : Nat) : Prop := 62 + K = oneU double ∧ U = 2 ^ K
theorem unit_ex : ∃ K U, Unit62 K U := ⟨oneU double - 62, _, by rw [oneU_double], rfl⟩
theorem Unit62.pos {K U : Nat} (h : Unit62 K U) : 0 < U := by rw [h.2]; exact Nat.two_pow_pos _
theorem Unit62.pow {K U : Nat} (h : Unit62 K U) (e : Nat) : 2 ^ (e + K) = 2 ^ e * U := by rw [h.2, Nat.pow_add]
theorem Unit62.S {K U : Nat} (h : Unit62 K U) : 2 ^ oneU double = 4611686018427387904 * U := by rw [← h.1, h.pow]
theorem Unit62.K {K U : Nat} (h : Unit62 K U) : K = 1012 := by have := h.1; rw [oneU_double] at this; omega
theorem add_u {K uU : Nat} (hu : Unit62 K uU) {x y : Nat} {a b : Int} (hx : IVal double x a) (hy : IVal double y b) (e : Nat) (h1 : 52 ≤ e) (h2 : e ≤ 200) (h : (a + b).natAbs ≤ 2 ^ e * uU) :
    ∃ c, IVal double (kAdd .f64 x y) c ∧ c.natAbs ≤ 2 ^ e * uU ∧ 2 * (c - (a + b)).natAbs ≤ 2 ^ (e - 52) * uU := by
  rw [← hu.pow] at h
  have hK := hu.K
  obtain ⟨r, c, k1, k2, k3, k4⟩ := add_ok hx hy (e + K) h (by show e + K - 52 + 3 < 2 ^ 11; omega)
  have hr : kAdd .f64 x y = r := by
    have k1' : floatBits .add .f64 x y = some r := k1
    simp [kAdd, k1']
  rw [hr]
  rw [hu.pow] at k3
  refine ⟨c, k2, k3, ?_⟩
  have e1 : e + K - double.fractionBits = e - 52 + K := by show e + K - 52 = _; omega
  rw [e1, hu.pow] at k4
  exact k4
theorem mul_u {K uU : Nat} (hu : Unit62 K uU) {x y : Nat} {a k : Int} (hx : IVal double x a) (hy : IVal double y (k * uU)) (p q e : Nat) (ha : a.natAbs ≤ 2 ^ p * uU) (hk : k.natAbs ≤ 2 ^ q) (he : p + q = e + 62) (h1 : 52 ≤ e) (h2 : e ≤ 200) :
    ∃ c, IVal double (kMul .f64 x y) c ∧ c.natAbs ≤ 2 ^ e * uU ∧ 2 * (c * 4611686018427387904 - a * k).natAbs ≤ 2 ^ (e - 52) * 4611686018427387904 * uU := by
  have hK := hu.K
  have hb : (a * (k * uU)).natAbs ≤ 2 ^ (e + K + oneU double) := by
    have e0 : oneU double = 62 + K := hu.1.symm
    have e1 : e + K + oneU double = p + q + K + K := by rw [e0]; omega
    rw [e1, hu.pow, hu.pow, Nat.pow_add, Int.natAbs_mul, Int.natAbs_mul, Int.natAbs_natCast]
    have := Nat.mul_le_mul ha (Nat.mul_le_mul_right uU hk)
    have e2 : 2 ^ p * uU * (2 ^ q * uU) = 2 ^ p * 2 ^ q * uU * uU := by grind
    omega
  obtain ⟨r, c, k1, k2, k3, k4⟩ := mul_ok hx hy (e + K) (lp_le .f64) hb (by show e + K - 52 + 3 < 2 ^ 11; omega)
  have hr : kMul .f64 x y = r := by
    have k1' : floatBits .mul .f64 x y = some r := k1
    simp [kMul, k1']
  rw [hr]
  rw [hu.pow] at k3
  refine ⟨c, k2, k3, ?_⟩
  have e1 : e + K - double.fractionBits + oneU double = e - 52 + K + oneU double := by show e + K - 52 + _ = _; omega
  rw [e1, Nat.pow_add, hu.pow, hu.S] at k4
  have e2 : c * ((4611686018427387904 * uU : Nat) : Int) - a * (k * uU) = (c * 4611686018427387904 - a * k) * (uU : Int) := by grind
  rw [e2, Int.natAbs_mul, Int.natAbs_natCast] at k4
  apply Nat.le_of_mul_le_mul_right _ hu.pos
  have e3 : 2 * (c * 4611686018427387904 - a * k).natAbs * uU = 2 * ((c * 4611686018427387904 - a * k).natAbs * uU) := by grind
  have e4 : 2 ^ (e - 52) * 4611686018427387904 * uU * uU = 2 ^ (e - 52) * uU * (4611686018427387904 * uU) := by grind
  rw [e3, e4]; exact k4
theorem int_u {K uU : Nat} (hu : Unit62 K uU) (n : Int) (q : Nat) (hn : n.natAbs ≤ 2 ^ q) (hq : q ≤ 60) : ∃ a, IVal double (floatOfInt .f64 n) a ∧ a.natAbs ≤ 2 ^ (q + 62) * uU ∧ 2 * (a - n * 4611686018427387904 * uU).natAbs ≤ 2 ^ (q + 10) * uU := by
  have hK := hu.K
  have hlp : double.leastPlace ≤ 0 := lp_le .f64
  obtain ⟨w, hw, hw1, hw2, hw3⟩ := nearest_num double (decide (n < 0)) n.natAbs 0 0 (n.natAbs * 2 ^ oneU double) (q + 62 + K) (by omega) (by unfold oneU; congr 2)
    (by
      have e0 : oneU double = 62 + K := hu.1.symm
      have h3 := Nat.mul_le_mul_right (2 ^ (62 + K)) hn
      rw [← Nat.pow_add] at h3
      rw [Nat.add_zero, e0, show q + 62 + K = q + (62 + K) by omega]
      exact h3) (by show q + 62 + K - 52 + 3 < 2 ^ 11; omega)
  refine ⟨_, IVal.ofNum hw, ?_, ?_⟩
  · rw [natAbs_sgn, ← hu.pow]; exact hw1
  · have e1 : q + 62 + K - double.fractionBits + 0 = q + 10 + K := by show q + 62 + K - 52 + 0 = _; omega
    rw [e1, hu.pow, Nat.pow_zero, Nat.mul_one, hu.S] at hw2 hw3
    generalize 2 ^ (q + 10) * uU = ee at *
    have e2 : n * 4611686018427387904 * (uU : Int) = if decide (n < 0) then -((n.natAbs * (4611686018427387904 * uU) : Nat) : Int) else ((n.natAbs * (4611686018427387904 * uU) : Nat) : Int) := by
      by_cases h : n < 0
      · rw [if_pos (by simpa using h)]
        obtain ⟨m, rfl⟩ : ∃ m : Nat, n = -(m : Int) := ⟨n.natAbs, by omega⟩
        simp; grind
      · rw [if_neg (by simpa using h)]
        obtain ⟨m, rfl⟩ : ∃ m : Nat, n = (m : Int) := ⟨n.natAbs, by omega⟩
        simp; grind
    rw [e2]
    generalize n.natAbs * (4611686018427387904 * uU) = V at *
    by_cases h : n < 0
    · simp only [h, decide_true, if_true]; omega
    · simp only [h, decide_false, Bool.false_eq_true, if_false]; omega
theorem const_u {K uU : Nat} (hu : Unit62 K uU) {x m t : Nat} {p : Int} (h : double.read x = .number false m p) (hp : p + 62 = t) : IVal double x (((m * 2 ^ t : Nat) : Int) * uU) := by
  have hl : double.leastPlace = -((62 + K : Nat) : Int) := by rw [hu.1, oneU_double]; exact lp_double
  have hN : Num double x false (m * 2 ^ t * uU) := by
    refine ⟨m, p, h, by rw [hl]; omega, ?_⟩
    rw [hl]
    have e : (p - -((62 + K : Nat) : Int)).toNat = t + K := by omega
    rw [e, hu.pow, Nat.mul_assoc]
  have := IVal.ofNum hN
  simpa using this
theorem c2_u {K uU : Nat} (hu : Unit62 K uU) : IVal double 4609047870845172685 (6521908912666391552 * uU) := const_u hu (m := 6369051672525773) (p := -52) (t := 10) (by kernel_rfl) (by omega)
theorem c3_u {K uU : Nat} (hu : Unit62 K uU) : IVal double 4610479282544200874 (7987674492471257088 * uU) := const_u hu (m := 7800463371553962) (p := -52) (t := 10) (by kernel_rfl) (by omega)
theorem c6_u {K uU : Nat} (hu : Unit62 K uU) : IVal double 4612698179346440494 (11296277599074480128 * uU) := const_u hu (m := 5515760546423086) (p := -51) (t := 11) (by kernel_rfl) (by omega)
theorem abs2 {x : Int} {n : Nat} (h : 2 * x.natAbs ≤ n) : -(n : Int) ≤ 2 * x ∧ 2 * x ≤ n := by omega
theorem abs1 {x : Int} {n : Nat} (h : x.natAbs ≤ n) : -(n : Int) ≤ x ∧ x ≤ n := by omega
theorem abs_of {x : Int} {n : Nat} (h : -(n : Int) ≤ x ∧ x ≤ n) : x.natAbs ≤ n := by omega
/-- a product with a constant k (of at most 2 ^ 64), told without the rounding of the first factor -/
theorem mulstep {m a t k u : Int} (hk0 : 0 ≤ k) (hk : k ≤ 18446744073709551616) (hu : 0 ≤ u) (ha : -(134217728 * u) ≤ 2 * (a - 4611686018427387904 * t) ∧ 2 * (a - 4611686018427387904 * t) ≤ 134217728 * u)
    (hm : -(536870912 * 4611686018427387904 * u) ≤ 2 * (m * 4611686018427387904 - a * k) ∧ 2 * (m * 4611686018427387904 - a * k) ≤ 536870912 * 4611686018427387904 * u) : -(1073741824 * u) ≤ m - t * k ∧ m - t * k ≤ 1073741824 * u := by
  obtain ⟨d, rfl⟩ : ∃ d, a = 4611686018427387904 * t + d := ⟨a - 4611686018427387904 * t, by omega⟩
  have hd : -(67108864 * u) ≤ d ∧ d ≤ 67108864 * u := by omega
  have h1 : d * k ≤ 67108864 * u * 18446744073709551616 := by
    have s1 : d * k ≤ 67108864 * u * k := Int.mul_le_mul_of_nonneg_right hd.2 hk0
    have s2 : 67108864 * u * k ≤ 67108864 * u * 18446744073709551616 := Int.mul_le_mul_of_nonneg_left hk (by omega)
    omega
  have h2 : -(67108864 * u * 18446744073709551616) ≤ d * k := by
    have s1 : -(67108864 * u) * k ≤ d * k := Int.mul_le_mul_of_nonneg_right hd.1 hk0
    have s2 : 67108864 * u * k ≤ 67108864 * u * 18446744073709551616 := Int.mul_le_mul_of_nonneg_left hk (by omega)
    rw [Int.neg_mul] at s1
    omega
  have e : (4611686018427387904 * t + d) * k = 4611686018427387904 * (t * k) + d * k := by rw [Int.add_mul, Int.mul_assoc]
  rw [e] at hm
  generalize t * k = tk at *
  generalize d * k = dk at *
  clear e ha hd
  omega
/-- four times the float of a small surd is nearly the sum of its parts -/
theorem fsum_tight {K uU : Nat} (hu : Unit62 K uU) {f : Nat → Int} (hf : ∀ j, j < 4 → -100000 ≤ f j ∧ f j ≤ 100000) :
    ∃ c, IVal double (fq f) c ∧ -(17179869184 * (uU : Int)) ≤ 4 * c - (f 0 * 4611686018427387904 + f 1 * 6521908912666391552 + f 2 * 7987674492471257088 + f 3 * 11296277599074480128) * uU
      ∧ 4 * c - (f 0 * 4611686018427387904 + f 1 * 6521908912666391552 + f 2 * 7987674492471257088 + f 3 * 11296277599074480128) * uU ≤ 17179869184 * (uU : Int) := by
  have hK := hu.K
  have hp := hu.pos
  obtain ⟨a0, i0, b0, d0⟩ := int_u hu (f 0) 17 (by have := hf 0 (by omega); omega) (by omega)
  obtain ⟨a1, i1, b1, d1⟩ := int_u hu (f 1) 17 (by have := hf 1 (by omega); omega) (by omega)
  obtain ⟨a2, i2, b2, d2⟩ := int_u hu (f 2) 17 (by have := hf 2 (by omega); omega) (by omega)
  obtain ⟨a3, i3, b3, d3⟩ := int_u hu (f 3) 17 (by have := hf 3 (by omega); omega) (by omega)
  obtain ⟨m1, j1, l1, k1⟩ := mul_u hu i1 (c2_u hu) 79 63 80 b1 (by decide) (by omega) (by omega) (by omega)
  obtain ⟨m2, j2, l2, k2⟩ := mul_u hu i2 (c3_u hu) 79 63 80 b2 (by decide) (by omega) (by omega) (by omega)
  obtain ⟨m3, j3, l3, k3⟩ := mul_u hu i3 (c6_u hu) 79 64 81 b3 (by decide) (by omega) (by omega) (by omega)
  have p79 : (2 : Nat) ^ 79 = 604462909807314587353088 := by decide +kernel
  have p80 : (2 : Nat) ^ 80 = 1208925819614629174706176 := by decide +kernel
  have p81 : (2 : Nat) ^ 81 = 2417851639229258349412352 := by decide +kernel
  have p82 : (2 : Nat) ^ 82 = 4835703278458516698824704 := by decide +kernel
  have p83 : (2 : Nat) ^ 83 = 9671406556917033397649408 := by decide +kernel
  obtain ⟨s1, q1, r1, e1⟩ := add_u hu i0 j1 81 (by omega) (by omega) (by
    have e : (2 : Nat) ^ (17 + 62) = 2 ^ 79 := rfl
    rw [e, p79] at b0; rw [p80] at l1; rw [p81]
    generalize uU = u at *
    clear b1 b2 b3 d0 d1 d2 d3 l2 l3 k1 k2 k3
    omega)
  obtain ⟨s2, q2, r2, e2⟩ := add_u hu q1 j2 82 (by omega) (by omega) (by
    rw [p80] at l2; rw [p81] at r1; rw [p82]
    clear b0 b1 b2 b3 d0 d1 d2 d3 l1 l3 k1 k2 k3 e1
    generalize uU = u at *
    omega)
  obtain ⟨s3, q3, r3, e3⟩ := add_u hu q2 j3 83 (by omega) (by omega) (by
    rw [p81] at l3; rw [p82] at r2; rw [p83]
    clear b0 b1 b2 b3 d0 d1 d2 d3 l1 l2 k1 k2 k3 e1 e2 r1
    generalize uU = u at *
    omega)
  obtain ⟨r, c, g1, g2, g3, g4⟩ := quo4_ok q3 (83 + K) (by rw [hu.pow]; exact r3) (by omega)
  have hr : fq f = r := by unfold fq fs3 fs2 fs1 fm3 fm2 fm1; rw [g1]; rfl
  rw [hr]
  refine ⟨c, g2, ?_⟩
  have ee : 83 + K - 52 + 2 = 33 + K := by omega
  rw [ee, hu.pow] at g4
  have D0 := abs2 d0; have D1 := abs2 d1; have D2 := abs2 d2; have D3 := abs2 d3
  have K1 := abs2 k1; have K2 := abs2 k2; have K3 := abs2 k3
  have E1 := abs2 e1; have E2 := abs2 e2; have E3 := abs2 e3; have G4 := abs2 g4
  clear d0 d1 d2 d3 k1 k2 k3 e1 e2 e3 g4 b0 b1 b2 b3 l1 l2 l3 r1 r2 r3 g3 p79 p80 p81 p82 p83 i0 i1 i2 i3 j1 j2 j3 q1 q2 q3 g1 g2 hr hf
  have x27 : (2 : Nat) ^ (17 + 10) = 134217728 := rfl
  have x28 : (2 : Nat) ^ (80 - 52) = 268435456 := rfl
  have x29 : (2 : Nat) ^ (81 - 52) = 536870912 := rfl
  have x30 : (2 : Nat) ^ (82 - 52) = 1073741824 := rfl
  have x31 : (2 : Nat) ^ (83 - 52) = 2147483648 := rfl
  have x33 : (2 : Nat) ^ 33 = 8589934592 := rfl
  rw [x27] at D0 D1 D2 D3
  rw [x28] at K1 K2
  rw [x29] at K3 E1
  rw [x30] at E2
  rw [x31] at E3
  rw [x33] at G4
  simp only [Int.natCast_mul, Int.cast_ofNat_Int] at D0 D1 D2 D3 K1 K2 K3 E1 E2 E3 G4
  have hu0 : (0 : Int) ≤ (uU : Int) := by omega
  clear hp hu hK
  generalize (uU : Int) = u at *
  have c0 : f 0 * 4611686018427387904 * u = 4611686018427387904 * (f 0 * u) := by grind
  have c1 : f 1 * 4611686018427387904 * u = 4611686018427387904 * (f 1 * u) := by grind
  have c2 : f 2 * 4611686018427387904 * u = 4611686018427387904 * (f 2 * u) := by grind
  have c3 : f 3 * 4611686018427387904 * u = 4611686018427387904 * (f 3 * u) := by grind
  rw [c0] at D0; rw [c1] at D1; rw [c2] at D2; rw [c3] at D3
  have M1 := mulstep (m := m1) (k := 6521908912666391552) (by omega) (by omega) hu0 D1 (by omega)
  have M2 := mulstep (m := m2) (k := 7987674492471257088) (by omega) (by omega) hu0 D2 (by omega)
  have M3 := mulstep (k := 11296277599074480128) (by omega) (by omega) hu0 D3 K3
  clear K1 K2 K3 D1 D2 D3 c0 c1 c2 c3 ee
  have c : (f 0 * 4611686018427387904 + f 1 * 6521908912666391552 + f 2 * 7987674492471257088 + f 3 * 11296277599074480128) * u = 4611686018427387904 * (f 0 * u) + f 1 * u * 6521908912666391552 + f 2 * u * 7987674492471257088 + f 3 * u * 11296277599074480128 := by grind
  rw [c]
  generalize f 0 * u = t0 at *
  generalize f 1 * u * 6521908912666391552 = t1 at *
  generalize f 2 * u * 7987674492471257088 = t2 at *
  generalize f 3 * u * 11296277599074480128 = t3 at *
  omega
/-- four times the float of a small surd is nearly the sum of its parts -/
theorem fsum_err {K uU : Nat} (hu : Unit62 K uU) {f : Nat → Int} (hf : ∀ j, j < 4 → -100000 ≤ f j ∧ f j ≤ 100000) :
    ∃ c, IVal double (fq f) c ∧ -(1099511627776 * (uU : Int)) ≤ 4 * c - (f 0 * 4611686018427387904 + f 1 * 6521908912666391552 + f 2 * 7987674492471257088 + f 3 * 11296277599074480128) * uU
      ∧ 4 * c - (f 0 * 4611686018427387904 + f 1 * 6521908912666391552 + f 2 * 7987674492471257088 + f 3 * 11296277599074480128) * uU ≤ 1099511627776 * (uU : Int) := by
  obtain ⟨c, h1, h2, h3⟩ := fsum_tight hu hf
  exact ⟨c, h1, by omega, by omega⟩

end Go.Proofs.Ytfghjlngllanoaa
