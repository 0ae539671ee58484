/- Plain facts on signs of surds: they are odd, and 0 at 0 alone. No program in sight. -/
import Derived.Test.YthgmgjjjgllbjaaSignP
namespace Go.Proofs.Ythgmgjjjgllbjaa
set_option linter.unusedVariables false
/-- The square root of 3 is no number a + b root 2. -/
theorem irr3 : ∀ n : Nat, ∀ a b c d : Nat, a + b + c + d ≤ n → a * a + 2 * (b * b) = 3 * (c * c) + 6 * (d * d) → a * b = 3 * (c * d) → a = 0 ∧ b = 0 ∧ c = 0 ∧ d = 0 := by
  intro n
  induction n with
  | zero => intro a b c d h _ _; omega
  | succ n ih =>
    intro a b c d h e1 e2
    have ma : a * a % 3 = (a % 3) * (a % 3) % 3 := Nat.mul_mod _ _ _
    have mb : b * b % 3 = (b % 3) * (b % 3) % 3 := Nat.mul_mod _ _ _
    have mab : a * b % 3 = (a % 3) * (b % 3) % 3 := Nat.mul_mod _ _ _
    have h0 : a % 3 = 0 ∧ b % 3 = 0 := by
      have ha : a % 3 = 0 ∨ a % 3 = 1 ∨ a % 3 = 2 := by omega
      have hb : b % 3 = 0 ∨ b % 3 = 1 ∨ b % 3 = 2 := by omega
      rcases ha with ha | ha | ha <;> rcases hb with hb | hb | hb <;> rw [ha] at ma mab <;> rw [hb] at mb mab <;> simp at ma mb mab <;> omega
    obtain ⟨x, rfl⟩ : ∃ x, a = 3 * x := ⟨a / 3, by omega⟩
    obtain ⟨y, rfl⟩ : ∃ y, b = 3 * y := ⟨b / 3, by omega⟩
    have q1 : 3 * x * (3 * x) = 9 * (x * x) := by rw [Nat.mul_mul_mul_comm]
    have q2 : 3 * y * (3 * y) = 9 * (y * y) := by rw [Nat.mul_mul_mul_comm]
    have q3 : 3 * x * (3 * y) = 9 * (x * y) := by rw [Nat.mul_mul_mul_comm]
    rw [q1, q2] at e1
    rw [q3] at e2
    by_cases hz : x = 0 ∧ y = 0
    · obtain ⟨rfl, rfl⟩ := hz
      have hc : c * c = 0 := by omega
      have hd : d * d = 0 := by omega
      have hc' : c = 0 := by rcases Nat.mul_eq_zero.1 hc with h | h <;> exact h
      have hd' : d = 0 := by rcases Nat.mul_eq_zero.1 hd with h | h <;> exact h
      omega
    · have := ih c d x y (by omega) (by omega) (by omega)
      omega
theorem irr3Z {a b c d : Int} (h1 : a * a + 2 * b * b - 3 * c * c - 6 * d * d = 0) (h2 : 2 * a * b - 6 * c * d = 0) : a = 0 ∧ b = 0 ∧ c = 0 ∧ d = 0 := by
  have e1 : a.natAbs * a.natAbs + 2 * (b.natAbs * b.natAbs) = 3 * (c.natAbs * c.natAbs) + 6 * (d.natAbs * d.natAbs) := by
    have := natSq a; have := natSq b; have := natSq c; have := natSq d
    rw [Int.mul_assoc, Int.mul_assoc, Int.mul_assoc] at h1
    omega
  have e2 : a.natAbs * b.natAbs = 3 * (c.natAbs * d.natAbs) := by
    rw [← Int.natAbs_mul, ← Int.natAbs_mul]
    rw [Int.mul_assoc, Int.mul_assoc] at h2
    omega
  have := irr3 _ a.natAbs b.natAbs c.natAbs d.natAbs (Nat.le_refl _) e1 e2
  omega
theorem sg3_neg (a b c d : Int) : sg3 (-a) (-b) (-c) (-d) = -sg3 a b c d := by
  have e1 : ∀ x : Int, -x * -x = x * x := fun x => Int.neg_mul_neg _ _
  have e2 : ∀ k x : Int, k * -x * -x = k * x * x := fun k x => by rw [Int.mul_assoc, Int.neg_mul_neg, Int.mul_assoc]
  have e3 : ∀ k x y : Int, k * -x * -y = k * x * y := fun k x y => by rw [Int.mul_assoc, Int.neg_mul_neg, Int.mul_assoc]
  unfold sg3
  rw [sg2_neg, sg2_neg, e1, e2, e2, e2, e3, e3]
  rcases sg2_range a b with hp | hp | hp <;> rcases sg2_range c d with hq | hq | hq <;> rw [hp, hq] <;> simp
theorem sg3_zero {a b c d : Int} (h : sg3 a b c d = 0) : a = 0 ∧ b = 0 ∧ c = 0 ∧ d = 0 := by
  unfold sg3 at h
  by_cases h1 : sg2 a b = sg2 c d ∨ sg2 c d = 0
  · rw [if_pos h1] at h
    have hq : sg2 c d = 0 := by omega
    have := sg2_zero h; have := sg2_zero hq
    omega
  · rw [if_neg h1] at h
    by_cases h2 : sg2 a b = 0
    · rw [if_pos h2] at h; omega
    · rw [if_neg h2] at h
      have h3 : sg2 (a * a + 2 * b * b - 3 * c * c - 6 * d * d) (2 * a * b - 6 * c * d) = 0 := by
        rcases Int.mul_eq_zero.1 h with h | h
        · exact absurd h h2
        · exact h
      have := sg2_zero h3
      exact irr3Z this.1 this.2
theorem sg3_0 : sg3 0 0 0 0 = 0 := by decide

end Go.Proofs.Ythgmgjjjgllbjaa
