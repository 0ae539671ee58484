/- Plain facts on signs of surds: they go down with the first number; where they turn. No program in sight. -/
import Derived.Test.YthgmgjjjgllbjaaZr2
namespace Go.Proofs.Ythgmgjjjgllbjaa
set_option linter.unusedVariables false
theorem sg2_zero_iff {a b : Int} : sg2 a b = 0 ↔ a = 0 ∧ b = 0 := ⟨sg2_zero, fun ⟨h1, h2⟩ => by subst h1; subst h2; exact sg2_00⟩
theorem Pos2.scale {a b k : Int} (hk : 0 < k) (h : Pos2 a b) : Pos2 (k * a) (k * b) := by
  have := (Pos2.int hk).mul h
  have e1 : k * a + 2 * (0 * b) = k * a := by omega
  have e2 : k * b + 0 * a = k * b := by omega
  rwa [e1, e2] at this
/-- a greater surd has no lesser sign -/
theorem sg3_mono {a b c d k : Int} (h : sg3 a b c d = -1) (hk : 0 < k) : sg3 (a - k) b c d = -1 := by
  have hK := Pos2.int hk
  -- p less than 0 stays so
  have down : sg2 a b = -1 → sg2 (a - k) b = -1 := by
    intro hp
    rw [sg2_neg_iff] at hp ⊢
    have := hp.add hK
    have e1 : -a + k = -(a - k) := by omega
    have e2 : -b + 0 = -b := by omega
    rwa [e1, e2] at this
  unfold sg3 at h
  by_cases h1 : sg2 a b = sg2 c d ∨ sg2 c d = 0
  · rw [if_pos h1] at h
    have hp := down h
    unfold sg3
    rw [if_pos (by omega)]; exact hp
  · rw [if_neg h1] at h
    by_cases h2 : sg2 a b = 0
    · rw [if_pos h2] at h
      obtain ⟨rfl, rfl⟩ := sg2_zero h2
      have hp : sg2 (0 - k) 0 = -1 := by
        rw [sg2_neg_iff]
        have e1 : -(0 - k) = k := by omega
        rw [e1]; exact hK
      unfold sg3
      rw [if_pos (by omega)]; exact hp
    · rw [if_neg h2] at h
      rcases sg2_range a b with hp | hp | hp
      · -- p < 0 < q
        rw [hp] at h h1
        have hq : sg2 c d = 1 := by rcases sg2_range c d with hq | hq | hq <;> omega
        have hx : sg2 (a * a + 2 * b * b - 3 * c * c - 6 * d * d) (2 * a * b - 6 * c * d) = 1 := by omega
        have hp' := down hp
        have P := sg2_neg_iff.1 hp
        have Q := sg2_pos_iff.1 hx
        have R := ((P.scale (show (0 : Int) < 2 by omega)).add hK).scale hk
        have S := Q.add R
        have e1 : a * a + 2 * b * b - 3 * c * c - 6 * d * d + k * (2 * -a + k) = (a - k) * (a - k) + 2 * b * b - 3 * c * c - 6 * d * d := by grind
        have e2 : 2 * a * b - 6 * c * d + k * (2 * -b + 0) = 2 * (a - k) * b - 6 * c * d := by grind
        rw [e1, e2] at S
        unfold sg3
        rw [if_neg (by omega), if_neg (by omega), hp', S.sg]; rfl
      · exact absurd hp h2
      · -- q < 0 < p
        rw [hp] at h h1
        have hq : sg2 c d = -1 := by rcases sg2_range c d with hq | hq | hq <;> omega
        have hx : sg2 (a * a + 2 * b * b - 3 * c * c - 6 * d * d) (2 * a * b - 6 * c * d) = -1 := by omega
        unfold sg3
        rcases sg2_range (a - k) b with hp' | hp' | hp'
        · rw [if_pos (by omega)]; exact hp'
        · rw [if_neg (by omega), if_pos hp']; exact hq
        · have P := sg2_pos_iff.1 hp'
          have Q := sg2_neg_iff.1 hx
          have R := ((P.scale (show (0 : Int) < 2 by omega)).add hK).scale hk
          have S := Q.add R
          have e1 : -(a * a + 2 * b * b - 3 * c * c - 6 * d * d) + k * (2 * (a - k) + k) = -((a - k) * (a - k) + 2 * b * b - 3 * c * c - 6 * d * d) := by grind
          have e2 : -(2 * a * b - 6 * c * d) + k * (2 * b + 0) = -(2 * (a - k) * b - 6 * c * d) := by grind
          rw [e1, e2] at S
          rw [if_neg (by omega), if_neg (by omega), hp', sg2_neg_iff.2 S]; rfl
theorem sq_le_of_abs {x n : Int} (h : -n ≤ x ∧ x ≤ n) : x * x ≤ n * n := by
  have h1 := Int.natAbs_mul_self (a := x)
  have h2 := Int.natAbs_mul_self (a := n)
  have := Nat.mul_le_mul (show x.natAbs ≤ n.natAbs by omega) (show x.natAbs ≤ n.natAbs by omega)
  omega
theorem abs_mul_le {x y m n : Int} (hx : -m ≤ x ∧ x ≤ m) (hy : -n ≤ y ∧ y ≤ n) : -(m * n) ≤ x * y ∧ x * y ≤ m * n := by
  have h1 : (x * y).natAbs = x.natAbs * y.natAbs := Int.natAbs_mul _ _
  have h2 := Nat.mul_le_mul (show x.natAbs ≤ m.natAbs by omega) (show y.natAbs ≤ n.natAbs by omega)
  have h3 : (m * n).natAbs = m.natAbs * n.natAbs := Int.natAbs_mul _ _
  have h4 : 0 ≤ m * n := Int.mul_nonneg (by omega) (by omega)
  omega
/-- a surd with a great first number is greater than 0 -/
theorem sg3_big {a b c d : Int} (ha : 70000000 ≤ a ∧ a ≤ 90000000) (hb : -10000000 ≤ b ∧ b ≤ 10000000) (hc : -10000000 ≤ c ∧ c ≤ 10000000) (hd : -10000000 ≤ d ∧ d ≤ 10000000) : sg3 a b c d = 1 := by
  have b2 := sq_le_of_abs hb
  have c2 := sq_le_of_abs hc
  have d2 := sq_le_of_abs hd
  have n1 := sqnn b; have n2 := sqnn c; have n3 := sqnn d
  have a2 : 70000000 * 70000000 ≤ a * a := Int.mul_le_mul ha.1 ha.1 (by omega) (by omega)
  have P : Pos2 a b := .inl ⟨by omega, by omega⟩
  have hp := P.sg
  unfold sg3
  rcases sg2_range c d with hq | hq | hq
  · rw [if_neg (by omega), if_neg (by omega), hp]
    have e1 : a * a + 2 * b * b - 3 * c * c - 6 * d * d = a * a + 2 * (b * b) - 3 * (c * c) - 6 * (d * d) := by grind
    have e2 : 2 * a * b - 6 * c * d = 2 * (a * b) - 6 * (c * d) := by grind
    rw [e1, e2]
    have ab := abs_mul_le (x := a) (m := 90000000) (by omega) hb
    have cd := abs_mul_le hc hd
    have hX : 4000000000000000 ≤ a * a + 2 * (b * b) - 3 * (c * c) - 6 * (d * d) := by omega
    have hY : -2400000000000000 ≤ 2 * (a * b) - 6 * (c * d) ∧ 2 * (a * b) - 6 * (c * d) ≤ 2400000000000000 := by omega
    have y2 := sq_le_of_abs hY
    generalize a * a + 2 * (b * b) - 3 * (c * c) - 6 * (d * d) = X at *
    generalize 2 * (a * b) - 6 * (c * d) = Y at *
    have x2 : 4000000000000000 * 4000000000000000 ≤ X * X := Int.mul_le_mul hX hX (by omega) (by omega)
    have Q : Pos2 X Y := .inl ⟨by omega, by omega⟩
    rw [Q.sg]; rfl
  · rw [if_pos (by omega)]; exact hp
  · rw [if_pos (by omega)]; exact hp
/-- the surd, less 4 n, is less than 0 -/
def LessF (f : Nat → Int) (n : Int) : Prop := sg3 (f 0 - 4 * n) (f 1) (f 2) (f 3) = -1
theorem LessF.mono {f : Nat → Int} {n m : Int} (h : LessF f n) (k : n ≤ m) : LessF f m := by
  rcases Int.lt_or_eq_of_le k with k | k
  · have := sg3_mono h (show 0 < 4 * (m - n) by omega)
    have e : f 0 - 4 * n - 4 * (m - n) = f 0 - 4 * m := by omega
    unfold LessF
    rwa [e] at this
  · subst k; exact h
theorem less_lo {f : Nat → Int} (h : ∀ j, j < 4 → -10000000 ≤ f j ∧ f j ≤ 10000000) : ¬ LessF f (-20000000) := by
  have h0 := h 0 (by omega)
  have := sg3_big (a := f 0 - 4 * -20000000) (by omega) (h 1 (by omega)) (h 2 (by omega)) (h 3 (by omega))
  unfold LessF; omega
theorem less_hi {f : Nat → Int} (h : ∀ j, j < 4 → -10000000 ≤ f j ∧ f j ≤ 10000000) : LessF f 20000000 := by
  have h0 := h 0 (by omega); have h1 := h 1 (by omega); have h2 := h 2 (by omega); have h3 := h 3 (by omega)
  have := sg3_big (a := -(f 0 - 4 * 20000000)) (b := -f 1) (c := -f 2) (d := -f 3) (by omega) (by omega) (by omega) (by omega)
  rw [sg3_neg] at this
  unfold LessF; omega
/-- n is the whole part -/
def IsWhole (f : Nat → Int) (n : Int) : Prop := ¬ LessF f n ∧ LessF f (n + 1)
theorem IsWhole.uniq {f : Nat → Int} {n m : Int} (h : IsWhole f n) (k : IsWhole f m) : n = m := by
  rcases Int.lt_trichotomy n m with c | c | c
  · exact absurd (h.2.mono (show n + 1 ≤ m by omega)) k.1
  · exact c
  · exact absurd (k.2.mono (show m + 1 ≤ n by omega)) h.1
instance (f : Nat → Int) (n : Int) : Decidable (LessF f n) := inferInstanceAs (Decidable (_ = _))

end Go.Proofs.Ythgmgjjjgllbjaa
