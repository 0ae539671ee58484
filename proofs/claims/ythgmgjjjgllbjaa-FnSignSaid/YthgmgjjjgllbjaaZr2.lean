/- Plain facts on the ordered ring of the numbers a + b root 2: what is greater than 0 is closed under sums and products. No program in sight. -/
import Derived.Test.YthgmgjjjgllbjaaSignQ
namespace Go.Proofs.Ythgmgjjjgllbjaa
set_option linter.unusedVariables false
/-- a + b root 2 is greater than 0 -/
def Pos2 (a b : Int) : Prop := (2 * (b * b) < a * a ∧ 0 < a) ∨ (a * a < 2 * (b * b) ∧ 0 < b)
theorem sqpos {x : Int} (h : x ≠ 0) : 0 < x * x := by
  have h1 : 0 ≤ x * x := by have := Int.natAbs_mul_self (a := x); omega
  have h2 : x * x ≠ 0 := fun e => by rcases Int.mul_eq_zero.1 e with h' | h' <;> exact h h'
  omega
theorem sqnn (x : Int) : 0 ≤ x * x := by have := Int.natAbs_mul_self (a := x); omega
theorem sq_lt_of {x y : Int} (hx : 0 ≤ x) (h : x < y) : x * x < y * y := by
  have h1 : x * x ≤ x * y := Int.mul_le_mul_of_nonneg_left (by omega) hx
  have h2 : x * y < y * y := Int.mul_lt_mul_of_pos_right h (by omega)
  omega
/-- a greater size, a greater square -/
theorem abs_lt_of_sq {x y : Int} (h : x * x < y * y) : x.natAbs < y.natAbs := by
  have h1 := Int.natAbs_mul_self (a := x)
  have h2 := Int.natAbs_mul_self (a := y)
  by_cases hc : x.natAbs < y.natAbs
  · exact hc
  · have := Nat.mul_le_mul (show y.natAbs ≤ x.natAbs by omega) (show y.natAbs ≤ x.natAbs by omega)
    omega
theorem Pos2.sg {a b : Int} (h : Pos2 a b) : sg2 a b = 1 := by
  rcases h with ⟨h1, h2⟩ | ⟨h1, h2⟩
  · by_cases hb : 0 ≤ b
    · exact sg2_pp (by omega) hb (by omega)
    · rw [sg2_pn h2 (by omega), if_pos h1]
  · by_cases ha : 0 ≤ a
    · exact sg2_pp ha (by omega) (by omega)
    · rw [sg2_np (by omega) h2, if_neg (by omega)]
theorem Pos2.of {a b : Int} (h : sg2 a b = 1) : Pos2 a b := by
  have hz : ¬ (a = 0 ∧ b = 0) := by
    rintro ⟨rfl, rfl⟩
    rw [sg2_00] at h; omega
  have hne : a * a ≠ 2 * (b * b) := fun e => hz (irr2Z e)
  unfold Pos2
  rcases sg2_cases a b with ⟨rfl, rfl⟩ | ⟨h1, h2, h3⟩ | ⟨h1, h2, h3⟩ | ⟨h1, h2⟩ | ⟨h1, h2⟩
  · exact absurd ⟨rfl, rfl⟩ hz
  · by_cases hl : 2 * (b * b) < a * a
    · left; refine ⟨hl, ?_⟩
      rcases Int.lt_or_eq_of_le h1 with h | h
      · exact h
      · subst h; have := sqnn b; omega
    · right; refine ⟨by omega, ?_⟩
      rcases Int.lt_or_eq_of_le h2 with h | h
      · exact h
      · subst h; have := sqnn a; omega
  · rw [sg2_nn h1 h2 h3] at h; omega
  · rw [sg2_pn h1 h2] at h
    split at h
    · rename_i hl; exact .inl ⟨hl, h1⟩
    · omega
  · rw [sg2_np h1 h2] at h
    split at h
    · omega
    · exact .inr ⟨by omega, h2⟩
theorem sg2_pos_iff {a b : Int} : sg2 a b = 1 ↔ Pos2 a b := ⟨Pos2.of, Pos2.sg⟩
theorem sg2_neg_iff {a b : Int} : sg2 a b = -1 ↔ Pos2 (-a) (-b) := by
  rw [← sg2_pos_iff, sg2_neg]; omega
/-- twice a cross product is less -/
theorem cross {a b c d : Int} (h1 : 2 * (b * b) < a * a) (h2 : 2 * (d * d) < c * c) : (2 * (b * d)).natAbs < (a * c).natAbs := by
  apply abs_lt_of_sq
  have e1 : 2 * (b * d) * (2 * (b * d)) = (2 * (b * b)) * (2 * (d * d)) := by grind
  have e2 : a * c * (a * c) = (a * a) * (c * c) := by grind
  rw [e1, e2]
  have p1 := sqnn b; have p2 := sqnn d; have p3 := sqnn a; have p4 := sqnn c
  have s1 : (2 * (b * b)) * (2 * (d * d)) ≤ (2 * (b * b)) * (c * c) := Int.mul_le_mul_of_nonneg_left (by omega) (by omega)
  have s2 : (2 * (b * b)) * (c * c) < (a * a) * (c * c) := Int.mul_lt_mul_of_pos_right h1 (by omega)
  omega
theorem cross' {a b c d : Int} (h1 : a * a < 2 * (b * b)) (h2 : c * c < 2 * (d * d)) : (a * c).natAbs < (2 * (b * d)).natAbs := by
  apply abs_lt_of_sq
  have e1 : 2 * (b * d) * (2 * (b * d)) = (2 * (b * b)) * (2 * (d * d)) := by grind
  have e2 : a * c * (a * c) = (a * a) * (c * c) := by grind
  rw [e1, e2]
  have p1 := sqnn b; have p2 := sqnn d; have p3 := sqnn a; have p4 := sqnn c
  have s1 : (a * a) * (c * c) ≤ (a * a) * (2 * (d * d)) := Int.mul_le_mul_of_nonneg_left (by omega) (by omega)
  have s2 : (a * a) * (2 * (d * d)) < (2 * (b * b)) * (2 * (d * d)) := Int.mul_lt_mul_of_pos_right h1 (by omega)
  omega
/-- both of the first kind: so is the sum -/
theorem add_1 {a b c d : Int} (h1 : 2 * (b * b) < a * a) (ha : 0 < a) (h2 : 2 * (d * d) < c * c) (hc : 0 < c) : 2 * ((b + d) * (b + d)) < (a + c) * (a + c) := by
  have hx := cross h1 h2
  have hp : 0 < a * c := Int.mul_pos ha hc
  have e1 : (b + d) * (b + d) = b * b + 2 * (b * d) + d * d := by grind
  have e2 : (a + c) * (a + c) = a * a + 2 * (a * c) + c * c := by grind
  rw [e1, e2]
  omega
/-- both of the second kind: so is the sum -/
theorem add_2 {a b c d : Int} (h1 : a * a < 2 * (b * b)) (hb : 0 < b) (h2 : c * c < 2 * (d * d)) (hd : 0 < d) : (a + c) * (a + c) < 2 * ((b + d) * (b + d)) := by
  have hx := cross' h1 h2
  have hp : 0 < b * d := Int.mul_pos hb hd
  have e1 : (b + d) * (b + d) = b * b + 2 * (b * d) + d * d := by grind
  have e2 : (a + c) * (a + c) = a * a + 2 * (a * c) + c * c := by grind
  rw [e1, e2]
  omega
theorem negsq (x : Int) : -x * -x = x * x := Int.neg_mul_neg _ _
theorem add_12 {a b c d : Int} (h1 : 2 * (b * b) < a * a) (ha : 0 < a) (h2 : c * c < 2 * (d * d)) (hd : 0 < d) : Pos2 (a + c) (b + d) := by
  have hne : ¬ ((a + c) * (a + c) = 2 * ((b + d) * (b + d))) := by
    intro e
    obtain ⟨e1, e2⟩ := irr2Z e
    obtain rfl : a = -c := by omega
    obtain rfl : b = -d := by omega
    rw [negsq, negsq] at h1; omega
  by_cases hl : 2 * ((b + d) * (b + d)) < (a + c) * (a + c)
  · left
    refine ⟨hl, ?_⟩
    by_cases hs : 0 < a + c
    · exact hs
    · have hs2 : a + c ≠ 0 := by
        intro e; rw [e] at hl; have := sqnn (b + d); omega
      have := add_1 h1 ha (c := -(a + c)) (d := -(b + d)) (by rw [negsq, negsq]; exact hl) (by omega)
      have e1 : b + -(b + d) = -d := by omega
      have e2 : a + -(a + c) = -c := by omega
      rw [e1, e2, negsq, negsq] at this
      omega
  · right
    refine ⟨by omega, ?_⟩
    by_cases hs : 0 < b + d
    · exact hs
    · have hs2 : b + d ≠ 0 := by
        intro e; rw [e] at hl hne; have := sqnn (a + c); omega
      have := add_2 h2 hd (c := -(a + c)) (d := -(b + d)) (by rw [negsq, negsq]; omega) (by omega)
      have e1 : d + -(b + d) = -b := by omega
      have e2 : c + -(a + c) = -a := by omega
      rw [e1, e2, negsq, negsq] at this
      omega
theorem Pos2.add {a b c d : Int} (h : Pos2 a b) (k : Pos2 c d) : Pos2 (a + c) (b + d) := by
  rcases h with ⟨h1, h2⟩ | ⟨h1, h2⟩ <;> rcases k with ⟨k1, k2⟩ | ⟨k1, k2⟩
  · exact .inl ⟨add_1 h1 h2 k1 k2, by omega⟩
  · exact add_12 h1 h2 k1 k2
  · have := add_12 k1 k2 h1 h2
    rwa [Int.add_comm c, Int.add_comm d] at this
  · exact .inr ⟨add_2 h1 h2 k1 k2, by omega⟩
theorem norm_mul (a b c d : Int) : (a * c + 2 * (b * d)) * (a * c + 2 * (b * d)) - 2 * ((a * d + b * c) * (a * d + b * c)) = (a * a - 2 * (b * b)) * (c * c - 2 * (d * d)) := by grind
theorem Pos2.mul {a b c d : Int} (h : Pos2 a b) (k : Pos2 c d) : Pos2 (a * c + 2 * (b * d)) (a * d + b * c) := by
  have hn := norm_mul a b c d
  rcases h with ⟨h1, h2⟩ | ⟨h1, h2⟩ <;> rcases k with ⟨k1, k2⟩ | ⟨k1, k2⟩
  · left
    have := Int.mul_pos (show 0 < a * a - 2 * (b * b) by omega) (show 0 < c * c - 2 * (d * d) by omega)
    refine ⟨by omega, ?_⟩
    have hx := cross h1 k1
    have hp := Int.mul_pos h2 k2
    omega
  · right
    have := Int.mul_neg_of_pos_of_neg (show 0 < a * a - 2 * (b * b) by omega) (show c * c - 2 * (d * d) < 0 by omega)
    refine ⟨by omega, ?_⟩
    have hp := Int.mul_pos h2 k2
    have hx : (b * c).natAbs < (a * d).natAbs := by
      apply abs_lt_of_sq
      have e1 : b * c * (b * c) = (b * b) * (c * c) := by grind
      have e2 : a * d * (a * d) = (a * a) * (d * d) := by grind
      rw [e1, e2]
      have p1 := sqnn b; have p2 := sqnn d; have p3 := sqnn a; have p4 := sqnn c
      have s1 : (b * b) * (c * c) ≤ (b * b) * (2 * (d * d)) := Int.mul_le_mul_of_nonneg_left (by omega) p1
      have s2 : (2 * (b * b)) * (d * d) < (a * a) * (d * d) := Int.mul_lt_mul_of_pos_right h1 (by omega)
      have e3 : (b * b) * (2 * (d * d)) = (2 * (b * b)) * (d * d) := by grind
      omega
    omega
  · right
    have := Int.mul_neg_of_neg_of_pos (show a * a - 2 * (b * b) < 0 by omega) (show 0 < c * c - 2 * (d * d) by omega)
    refine ⟨by omega, ?_⟩
    have hp := Int.mul_pos h2 k2
    have hx : (a * d).natAbs < (b * c).natAbs := by
      apply abs_lt_of_sq
      have e1 : b * c * (b * c) = (b * b) * (c * c) := by grind
      have e2 : a * d * (a * d) = (a * a) * (d * d) := by grind
      rw [e1, e2]
      have p1 := sqnn b; have p2 := sqnn d; have p3 := sqnn a; have p4 := sqnn c
      have s1 : (a * a) * (d * d) ≤ (2 * (b * b)) * (d * d) := Int.mul_le_mul_of_nonneg_right (by omega) p2
      have s2 : (b * b) * (2 * (d * d)) < (b * b) * (c * c) := Int.mul_lt_mul_of_pos_left k1 (by omega)
      have e3 : (b * b) * (2 * (d * d)) = (2 * (b * b)) * (d * d) := by grind
      omega
    omega
  · left
    have := Int.mul_pos_of_neg_of_neg (show a * a - 2 * (b * b) < 0 by omega) (show c * c - 2 * (d * d) < 0 by omega)
    refine ⟨by omega, ?_⟩
    have hx := cross' h1 k1
    have hp := Int.mul_pos h2 k2
    omega
theorem Pos2.int {n : Int} (h : 0 < n) : Pos2 n 0 := .inl ⟨by have := sqpos (show n ≠ 0 by omega); omega, h⟩
theorem Pos2.asym {a b : Int} (h : Pos2 a b) : ¬ Pos2 (-a) (-b) := by
  intro k
  have := h.add k
  rw [Int.add_right_neg, Int.add_right_neg] at this
  rcases this with ⟨h1, h2⟩ | ⟨h1, h2⟩ <;> omega

end Go.Proofs.Ythgmgjjjgllbjaa
