/- Plain facts on float64: a number divided by 4; a number made whole. No program in sight. -/
import Derived.Test.YtfghjlngllanoaaFltB
namespace Go.Proofs.Ytfghjlngllanoaa
open Ieee
set_option linter.unusedVariables false
set_option maxRecDepth 100000
/-- magnitude and place of a number that is read -/
theorem read_mag {x : Nat} {s : Bool} {m : Nat} {p : Int} (h : double.read x = .number s m p) : m < 2 ^ 53 ∧ -1074 ≤ p := by
  unfold Format.read at h
  have hb : double.binade = 2 ^ 52 := by decide +kernel
  have hl := lp_double
  dsimp only at h
  split at h
  · rename_i hr
    cases h
    rw [hb] at hr
    exact ⟨by omega, by rw [hl]; omega⟩
  · split at h
    · cases h
      have := Nat.mod_lt (x % double.signWeight) (show 0 < double.binade by rw [hb]; decide)
      rw [hb] at this ⊢
      exact ⟨by omega, by rw [hl]; omega⟩
    · split at h <;> cases h
theorem read_four : double.read 4616189618054758400 = .number false 4503599627370496 (-50) := by kernel_rfl
theorem quo4_ok {x : Nat} {a : Int} (hx : IVal double x a) (E : Nat) (hE : a.natAbs ≤ 2 ^ E) (hEm : E ≤ 1200) :
    ∃ r c, floatBits .quo .f64 x 4616189618054758400 = some r ∧ IVal double r c ∧ c.natAbs ≤ 2 ^ E ∧ 2 * (4 * c - a).natAbs ≤ 2 ^ (E - 52 + 2) := by
  obtain ⟨s, v, ⟨m, p, hr, hp, hv⟩, rfl⟩ := hx
  rw [natAbs_sgn] at hE
  obtain ⟨hm, hp2⟩ := read_mag hr
  show ∃ r c, double.div x 4616189618054758400 = some r ∧ _
  unfold Format.div
  rw [hr, read_four]
  simp only [Datum.quotient]
  rw [if_neg (by decide)]
  have hlog : m.log2 ≤ 52 := by
    by_cases h0 : m = 0
    · subst h0; decide
    · have := (Nat.log2_lt h0).2 hm; omega
  have hl4 : Nat.log2 4503599627370496 = 52 := by decide +kernel
  have hfb : double.fractionBits = 52 := rfl
  rw [hl4, hfb]
  obtain ⟨t, ht⟩ : ∃ t, 52 + 2 + 52 - m.log2 = 52 + t := ⟨52 + 2 - m.log2, by omega⟩
  have ht2 : t ≤ 54 := by omega
  rw [ht]
  have hdiv : m <<< (52 + t) = (m * 2 ^ t) * 4503599627370496 := by rw [Nat.shiftLeft_eq, Nat.pow_add, Nat.mul_comm (2 ^ 52), ← Nat.mul_assoc]
  rw [hdiv, Nat.mul_div_cancel _ (by decide), Nat.mul_mod_left]
  simp only [bne_self_eq_false, Bool.toNat_false, Nat.add_zero, Option.map_some, Format.write]
  have hV : v * 2 ^ 58 = 2 * (m * 2 ^ t) * 2 ^ (p - -50 - ((52 + t : Nat) : Int) - 1 - double.leastPlace + (60 : Nat)).toNat := by
    rw [lp_double] at hv ⊢
    have e : (p - -50 - ((52 + t : Nat) : Int) - 1 - -1074 + (60 : Nat)).toNat + t + 1 = (p - -1074).toNat + 58 := by omega
    rw [← hv, Nat.mul_assoc, ← Nat.pow_add, ← e]
    have e2 : 2 * (m * 2 ^ t) = m * 2 ^ (t + 1) := by rw [Nat.pow_succ]; grind
    rw [e2, Nat.mul_assoc, ← Nat.pow_add]
    congr 2
    omega
  obtain ⟨w, hw, hw1, hw2, hw3⟩ := nearest_num double (s ^^ false) (2 * (m * 2 ^ t)) (p - -50 - ((52 + t : Nat) : Int) - 1) 60 (v * 2 ^ 58) E (by rw [lp_double]; omega) hV
    (by
      have := Nat.mul_le_mul_right (2 ^ 58) hE
      rw [← Nat.pow_add] at this
      exact Nat.le_trans this (Nat.pow_le_pow_right (by omega) (by omega)))
    (by show E - 52 + 3 < 2 ^ 11; omega)
  refine ⟨_, _, rfl, IVal.ofNum hw, by rw [natAbs_sgn]; exact hw1, ?_⟩
  have hfb' : E - double.fractionBits + 60 = (E - 52 + 2) + 58 := by rw [hfb]
  rw [hfb', Nat.pow_add] at hw2 hw3
  have e60 : w * 2 ^ 60 = (4 * w) * 2 ^ 58 := by
    rw [show (2 : Nat) ^ 60 = 4 * 2 ^ 58 from by decide +kernel, ← Nat.mul_assoc, Nat.mul_comm w 4]
  rw [e60] at hw2 hw3
  generalize 2 ^ (E - 52 + 2) = ee at *
  have hg : 0 < 2 ^ 58 := Nat.two_pow_pos _
  generalize 2 ^ 58 = g at *
  have k2 : 2 * (4 * w) ≤ 2 * v + ee := by
    apply Nat.le_of_mul_le_mul_right _ hg
    rw [Nat.add_mul, Nat.mul_assoc 2, Nat.mul_assoc 2]; exact hw2
  have k3 : 2 * v ≤ 2 * (4 * w) + ee := by
    apply Nat.le_of_mul_le_mul_right _ hg
    rw [Nat.add_mul, Nat.mul_assoc 2, Nat.mul_assoc 2]; exact hw3
  cases s
  · simp only [Bool.xor_false, Bool.false_eq_true, if_false]; omega
  · simp only [Bool.xor_false, if_true]; omega
/-- a cut of a small number is small -/
theorem cut_small (way : Toward) (neg : Bool) (n drop K : Nat) (h : n ≤ K * 2 ^ drop) (hw : way = .down ∨ way = .zero) (hK : 0 < K) : way.cut neg n drop ≤ K := by
  unfold Toward.cut
  dsimp only
  by_cases hd : drop ≤ n.log2 + 2
  · rw [Nat.min_eq_left hd, Nat.one_shiftLeft]
    have hgp : 0 < 2 ^ drop := Nat.two_pow_pos _
    generalize 2 ^ drop = g at *
    have h1 := Nat.div_add_mod n g
    have h2 := Nat.mod_lt n hgp
    generalize n / g = low at *
    generalize n % g = rest at *
    have hc : g * low = low * g := Nat.mul_comm _ _
    have hlow : low ≤ K := by
      by_cases hl : low ≤ K
      · exact hl
      · have := Nat.mul_le_mul_right g (show K + 1 ≤ low by omega)
        rw [Nat.add_mul] at this
        omega
    have hrest : low = K → rest = 0 := by
      intro e; subst e; omega
    rcases hw with rfl | rfl
    · dsimp only
      by_cases hr : rest = 0
      · simp [hr]; exact hlow
      · have : low < K := by
          rcases Nat.lt_or_eq_of_le hlow with h | h
          · exact h
          · exact absurd (hrest h) hr
        have hr' : (rest != 0) = true := by simpa using hr
        rw [hr']
        cases neg <;> simp only [Bool.true_and, Bool.false_and, Bool.toNat_true, Bool.toNat_false] <;> omega
    · dsimp only
      simp; exact hlow
  · rw [Nat.min_eq_right (by omega), Nat.one_shiftLeft]
    have hn : n < 2 ^ (n.log2 + 1) := Nat.lt_log2_self
    have hg : 2 ^ (n.log2 + 2) = 2 * 2 ^ (n.log2 + 1) := by rw [Nat.pow_succ, Nat.mul_comm]
    generalize 2 ^ (n.log2 + 2) = g at *
    generalize 2 ^ (n.log2 + 1) = q at *
    have e1 : n / g = 0 := Nat.div_eq_of_lt (by omega)
    rw [e1]
    have : ∀ b : Bool, 0 + b.toNat ≤ K := fun b => by cases b <;> simp; omega
    exact this _
/-- a number of at most 2 ^ E, made whole -/
theorem integral_small {x E : Nat} (h : KB .f64 E x) (hE : E ≤ 60) (way : Toward) (hw : way = .down ∨ way = .zero) :
    ∃ s m p c, FloatKind.f64.decode x = .number s m p ∧ (Datum.number s m p).integral way = .number s c 0 ∧ c ≤ 2 ^ E := by
  obtain ⟨z, ⟨s, v, ⟨m, p, hr, hp, hv⟩, rfl⟩, hb⟩ := h
  rw [natAbs_sgn] at hb
  obtain ⟨S, hS⟩ : ∃ S : Nat, S = 1074 := ⟨_, rfl⟩
  have l1 : FloatKind.f64.format.leastPlace = -(S : Int) := by rw [hS]; exact lp_double
  have u1 : oneU FloatKind.f64.format = S := by rw [hS]; exact oneU_double
  clear hS
  rw [l1] at hp hv
  rw [u1] at hb
  refine ⟨s, m, p, _, hr, rfl, ?_⟩
  apply cut_small way s _ _ _ _ hw (Nat.two_pow_pos _)
  rw [Nat.shiftLeft_eq, ← Nat.pow_add]
  by_cases h0 : 0 ≤ p
  · have e1 : (-p).toNat = 0 := by omega
    rw [e1, Nat.add_zero]
    have e2 : (p - -(S : Int)).toNat = p.toNat + S := by omega
    rw [e2, Nat.pow_add, ← Nat.mul_assoc] at hv
    rw [Nat.pow_add, ← hv] at hb
    exact Nat.le_of_mul_le_mul_right hb (Nat.two_pow_pos _)
  · have e1 : p.toNat = 0 := by omega
    rw [e1, Nat.pow_zero, Nat.mul_one]
    obtain ⟨q, hq⟩ : ∃ q : Nat, (q : Int) = p + S := ⟨(p + S).toNat, by omega⟩
    have e2 : (p - -(S : Int)).toNat = q := by omega
    have e3 : E + (-p).toNat + q = E + S := by omega
    rw [e2] at hv
    rw [← hv, ← e3, Nat.pow_add] at hb
    exact Nat.le_of_mul_le_mul_right hb (Nat.two_pow_pos _)
theorem floor_ok {x E : Nat} (h : KB .f64 E x) (hE : E ≤ 60) :
    ∃ s m p y z, FloatKind.f64.decode x = .number s m p ∧ FloatKind.f64.encode ((Datum.number s m p).integral .down) = y ∧ floatToIntVal .f64 y .i64 = some z ∧ z.natAbs ≤ 2 ^ E := by
  obtain ⟨s, m, p, c, h1, h2, h3⟩ := integral_small h hE .down (.inl rfl)
  have hy : KB .f64 E (FloatKind.f64.encode (.number s c 0)) := by
    obtain ⟨S, hS⟩ : ∃ S : Nat, S = 1074 := ⟨_, rfl⟩
    have l1 : FloatKind.f64.format.leastPlace = -(S : Int) := by rw [hS]; exact lp_double
    have u1 : oneU FloatKind.f64.format = S := by rw [hS]; exact oneU_double
    clear hS
    obtain ⟨w, hw, hw1, _, _⟩ := nearest_num FloatKind.f64.format s c 0 0 (c * 2 ^ S) (E + oneU FloatKind.f64.format) (by rw [l1]; omega) (by rw [l1]; congr 2; omega)
      (by rw [u1, Nat.add_zero, Nat.pow_add]; exact Nat.mul_le_mul_right _ h3) (exp_ok .f64 E hE)
    exact ⟨_, IVal.ofNum hw, by rw [natAbs_sgn]; exact hw1⟩
  obtain ⟨s', m', p', c', k1, k2, k3⟩ := integral_small hy hE .zero (.inr rfl)
  have hb : (2 : Nat) ^ E ≤ 2 ^ 60 := Nat.pow_le_pow_right (by omega) hE
  refine ⟨s, m, p, _, signed s' c' 0, h1, rfl, ?_, ?_⟩
  · unfold floatToIntVal
    rw [h2, k1]
    simp only [Datum.toInt, k2]
    rw [if_pos]
    rw [signed_val]
    have hmin : IntKind.i64.min = -9223372036854775808 := by decide
    have hmax : IntKind.i64.max = 9223372036854775807 := by decide
    rw [hmin, hmax, Nat.pow_zero, Nat.mul_one]
    cases s' <;> simp <;> omega
  · rw [signed_val, natAbs_sgn, Nat.pow_zero, Nat.mul_one]; exact k3

end Go.Proofs.Ytfghjlngllanoaa
