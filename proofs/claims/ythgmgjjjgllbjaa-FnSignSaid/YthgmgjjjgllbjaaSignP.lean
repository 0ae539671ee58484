/- Plain facts on signs of surds: a + b root 2, and p + q root 3. No program in sight. -/
import Derived.KernelRfl
import Derived.RowKit
import Derived.Laws.Bits64b
import Derived.Shelf.Bits.Mul64
namespace Go.Proofs.Ythgmgjjjgllbjaa
set_option linter.unusedVariables false

/-- the sign of a + b root 2 -/
def sg2 (a b : Int) : Int :=
  if 0 ≤ a ∧ 0 ≤ b then (if a = 0 ∧ b = 0 then 0 else 1)
  else if a ≤ 0 ∧ b ≤ 0 then -1
  else if 0 < a then (if 2 * (b * b) < a * a then 1 else -1)
  else (if 2 * (b * b) < a * a then -1 else 1)
theorem sg2_range (a b : Int) : sg2 a b = -1 ∨ sg2 a b = 0 ∨ sg2 a b = 1 := by
  unfold sg2; split
  · split <;> simp
  · split
    · simp
    · split <;> split <;> simp
/-- The square root of 2 is no fraction. -/
theorem irr2 : ∀ n : Nat, ∀ a b : Nat, a + b ≤ n → a * a = 2 * (b * b) → a = 0 ∧ b = 0 := by
  intro n
  induction n with
  | zero => intro a b h _; omega
  | succ n ih =>
    intro a b h e
    have ha : a % 2 = 0 := by
      rcases Nat.mod_two_eq_zero_or_one a with h0 | h0
      · exact h0
      · have : a * a % 2 = 1 := by rw [Nat.mul_mod, h0]
        omega
    obtain ⟨c, rfl⟩ : ∃ c, a = 2 * c := ⟨a / 2, by omega⟩
    have e2 : b * b = 2 * (c * c) := by
      have : 2 * c * (2 * c) = 4 * (c * c) := by rw [Nat.mul_mul_mul_comm]
      omega
    by_cases hc : c = 0
    · subst hc
      refine ⟨rfl, ?_⟩
      have : b * b = 0 := by omega
      rcases Nat.mul_eq_zero.1 this with h | h <;> exact h
    · have := ih b c (by omega) e2
      omega
theorem irr2Z {a b : Int} (h : a * a = 2 * (b * b)) : a = 0 ∧ b = 0 := by
  have h1 : a.natAbs * a.natAbs = 2 * (b.natAbs * b.natAbs) := by
    have := Int.natAbs_mul_self (a := a)
    have := Int.natAbs_mul_self (a := b)
    omega
  have := irr2 _ a.natAbs b.natAbs (Nat.le_refl _) h1
  omega
theorem sg2_pp {a b : Int} (ha : 0 ≤ a) (hb : 0 ≤ b) (h : ¬ (a = 0 ∧ b = 0)) : sg2 a b = 1 := by unfold sg2; rw [if_pos ⟨ha, hb⟩, if_neg h]
theorem sg2_00 : sg2 0 0 = 0 := by unfold sg2; simp
theorem sg2_nn {a b : Int} (ha : a ≤ 0) (hb : b ≤ 0) (h : ¬ (a = 0 ∧ b = 0)) : sg2 a b = -1 := by unfold sg2; rw [if_neg (by omega), if_pos ⟨ha, hb⟩]
theorem sg2_pn {a b : Int} (ha : 0 < a) (hb : b < 0) : sg2 a b = if 2 * (b * b) < a * a then 1 else -1 := by unfold sg2; rw [if_neg (by omega), if_neg (by omega), if_pos ha]
theorem sg2_np {a b : Int} (ha : a < 0) (hb : 0 < b) : sg2 a b = if 2 * (b * b) < a * a then -1 else 1 := by unfold sg2; rw [if_neg (by omega), if_neg (by omega), if_neg (by omega)]
theorem sg2_cases (a b : Int) : (a = 0 ∧ b = 0) ∨ (0 ≤ a ∧ 0 ≤ b ∧ ¬ (a = 0 ∧ b = 0)) ∨ (a ≤ 0 ∧ b ≤ 0 ∧ ¬ (a = 0 ∧ b = 0)) ∨ (0 < a ∧ b < 0) ∨ (a < 0 ∧ 0 < b) := by omega
theorem sg2_neg (a b : Int) : sg2 (-a) (-b) = -sg2 a b := by
  have e1 : -a * -a = a * a := Int.neg_mul_neg _ _
  have e2 : -b * -b = b * b := Int.neg_mul_neg _ _
  rcases sg2_cases a b with ⟨rfl, rfl⟩ | ⟨h1, h2, h3⟩ | ⟨h1, h2, h3⟩ | ⟨h1, h2⟩ | ⟨h1, h2⟩
  · rfl
  · rw [sg2_pp h1 h2 h3, sg2_nn (by omega) (by omega) (by omega)]
  · rw [sg2_nn h1 h2 h3, sg2_pp (by omega) (by omega) (by omega)]; rfl
  · rw [sg2_pn h1 h2, sg2_np (by omega) (by omega), e1, e2]; split <;> rfl
  · rw [sg2_np h1 h2, sg2_pn (by omega) (by omega), e1, e2]; split <;> rfl
theorem sg2_zero {a b : Int} (h : sg2 a b = 0) : a = 0 ∧ b = 0 := by
  unfold sg2 at h
  split at h
  · split at h
    · assumption
    · omega
  · split at h
    · omega
    · split at h <;> split at h <;> omega
/-- the sign of a surd -/
def sg3 (a b c d : Int) : Int :=
  if sg2 a b = sg2 c d ∨ sg2 c d = 0 then sg2 a b
  else if sg2 a b = 0 then sg2 c d
  else sg2 a b * sg2 (a * a + 2 * b * b - 3 * c * c - 6 * d * d) (2 * a * b - 6 * c * d)

/-- the square of a number of 63 bits, as the reference makes it -/
theorem square_parts (n : Nat) (hn : n < 9223372036854775808) : ∃ L H M O S T Q R U : Nat,
    bits .and .u64 (n : Int) 4294967295 = (L : Int) ∧ (n : Int) / 4294967296 = (H : Int) ∧ IntKind.u64.wrap ((L : Int) * (H : Int)) = (M : Int) ∧ IntKind.u64.wrap ((L : Int) * (L : Int)) = (O : Int)
    ∧ IntKind.u64.wrap ((M : Int) * 8589934592) = (S : Int) ∧ IntKind.u64.wrap ((O : Int) + (S : Int)) = (T : Int) ∧ IntKind.u64.wrap ((H : Int) * (H : Int)) = (Q : Int) ∧ (M : Int) / 2147483648 = (R : Int)
    ∧ IntKind.u64.wrap ((Q : Int) + (R : Int)) = (U : Int) ∧ IntKind.u64.wrap ((U : Int) + 1) = ((U + 1 : Nat) : Int)
    ∧ (T < O → n * n / 18446744073709551616 = U + 1) ∧ (O ≤ T → n * n / 18446744073709551616 = U) ∧ n * n % 18446744073709551616 = T := by
  obtain ⟨L, hL⟩ : ∃ L, L = n % 4294967296 := ⟨_, rfl⟩
  obtain ⟨H, hH⟩ : ∃ H, H = n / 4294967296 := ⟨_, rfl⟩
  have hn' : n = H * 4294967296 + L := by omega
  have l1 : L ≤ 4294967295 := by omega
  have h1 : H ≤ 2147483647 := by omega
  have mB : L * H ≤ 4294967295 * 2147483647 := Nat.mul_le_mul l1 h1
  have oB : L * L ≤ 4294967295 * 4294967295 := Nat.mul_le_mul l1 l1
  have qB : H * H ≤ 2147483647 * 2147483647 := Nat.mul_le_mul h1 h1
  have hsq : n * n = (H * H) * 18446744073709551616 + (L * H) * 8589934592 + L * L := by
    rw [hn']; grind
  refine ⟨L, H, L * H, L * L, (L * H * 8589934592) % 18446744073709551616, (L * L + (L * H * 8589934592) % 18446744073709551616) % 18446744073709551616, H * H, L * H / 2147483648, H * H + L * H / 2147483648,
    ?_, by omega, ?_, ?_, ?_, ?_, ?_, by omega, ?_, ?_, ?_, ?_, ?_⟩
  · rw [Mul64.maskN n (by omega), hL]
  · rw [Mul64.mulN]; exact Mul64.wrapN _ (by omega)
  · rw [Mul64.mulN]; exact Mul64.wrapN _ (by omega)
  · rw [show ((L * H : Nat) : Int) * 8589934592 = ((L * H * 8589934592 : Nat) : Int) from by omega]; exact Mul64.wrapM _
  · rw [Mul64.addN]; exact Mul64.wrapM _
  · rw [Mul64.mulN]; exact Mul64.wrapN _ (by omega)
  · rw [Mul64.addN]; exact Mul64.wrapN _ (by omega)
  · rw [show ((H * H + L * H / 2147483648 : Nat) : Int) + 1 = ((H * H + L * H / 2147483648 + 1 : Nat) : Int) from by omega]; exact Mul64.wrapN _ (by omega)
  · rw [hsq]; generalize L * H = M at *; generalize L * L = O at *; generalize H * H = Q at *; omega
  · rw [hsq]; generalize L * H = M at *; generalize L * L = O at *; generalize H * H = Q at *; omega
  · rw [hsq]; generalize L * H = M at *; generalize L * L = O at *; generalize H * H = Q at *; omega
/-- twice a number of two words -/
theorem twice_parts (B : Nat) (hB : B < 170141183460469231731687303715884105728) : 
    IntKind.u64.wrap (((B / 18446744073709551616 : Nat) : Int) * 2) = ((B / 18446744073709551616 * 2 : Nat) : Int) ∧ ((B % 18446744073709551616 : Nat) : Int) / 9223372036854775808 = ((B % 18446744073709551616 / 9223372036854775808 : Nat) : Int)
    ∧ bits .or .u64 ((B / 18446744073709551616 * 2 : Nat) : Int) ((B % 18446744073709551616 / 9223372036854775808 : Nat) : Int) = ((2 * B / 18446744073709551616 : Nat) : Int)
    ∧ IntKind.u64.wrap (((B % 18446744073709551616 : Nat) : Int) * 2) = ((2 * B % 18446744073709551616 : Nat) : Int) := by
  refine ⟨?_, by omega, ?_, ?_⟩
  · rw [show ((B / 18446744073709551616 : Nat) : Int) * 2 = ((B / 18446744073709551616 * 2 : Nat) : Int) from by omega]; exact Mul64.wrapN _ (by omega)
  · have h := bits_or_u64_nat (B / 18446744073709551616 * 2) (B % 18446744073709551616 / 9223372036854775808) (by omega) (by omega)
    have hb : B % 18446744073709551616 / 9223372036854775808 = 0 ∨ B % 18446744073709551616 / 9223372036854775808 = 1 := by omega
    rw [h]
    congr 1
    rcases hb with hb | hb
    · rw [hb, Nat.or_zero]; omega
    · rw [hb]
      have h2 := Nat.two_pow_add_eq_or_of_lt (i := 1) (b := 1) (by omega) (B / 18446744073709551616)
      rw [Nat.mul_comm (B / 18446744073709551616) 2]
      rw [show (2 : Nat) ^ 1 = 2 from rfl] at h2
      rw [← h2]
      omega
  · rw [show ((B % 18446744073709551616 : Nat) : Int) * 2 = ((B % 18446744073709551616 * 2 : Nat) : Int) from by omega, Mul64.wrapM]; omega
theorem cmp_parts {A C : Nat} (h : C < A) : C / 18446744073709551616 < A / 18446744073709551616 ∨ (A / 18446744073709551616 = C / 18446744073709551616 ∧ C % 18446744073709551616 < A % 18446744073709551616) := by omega
theorem natSq (a : Int) : ((a.natAbs * a.natAbs : Nat) : Int) = a * a := Int.natAbs_mul_self
theorem natSq_lt {a b : Int} (h : 2 * (b * b) < a * a) : 2 * (b.natAbs * b.natAbs) < a.natAbs * a.natAbs := by
  have := natSq a; have := natSq b; omega
theorem natSq_gt {a b : Int} (h : ¬ 2 * (b * b) < a * a) (hb : b ≠ 0) : a.natAbs * a.natAbs < 2 * (b.natAbs * b.natAbs) := by
  have h1 := natSq a; have h2 := natSq b
  by_cases he : a * a = 2 * (b * b)
  · exact absurd (irr2Z he).2 hb
  · omega

end Go.Proofs.Ythgmgjjjgllbjaa
