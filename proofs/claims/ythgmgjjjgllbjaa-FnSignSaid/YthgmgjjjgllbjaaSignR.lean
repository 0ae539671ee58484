/- Plain facts: a surd whose rational likeness is well above 0 is greater than 0. No program in sight. -/
import Derived.Test.YthgmgjjjgllbjaaMono
namespace Go.Proofs.Ythgmgjjjgllbjaa
set_option linter.unusedVariables false
theorem Pos2.unscale {k a b : Int} (hk : 0 < k) (h : Pos2 (k * a) (k * b)) : Pos2 a b := by
  have hkk := Int.mul_pos hk hk
  have ea : k * a * (k * a) = (k * k) * (a * a) := by grind
  have eb : 2 * (k * b * (k * b)) = (k * k) * (2 * (b * b)) := by grind
  rcases h with ⟨h1, h2⟩ | ⟨h1, h2⟩
  · rw [ea, eb] at h1
    exact .inl ⟨Int.lt_of_mul_lt_mul_left h1 (by omega), Int.pos_of_mul_pos_left (by rwa [Int.mul_comm] at h2) hk⟩
  · rw [ea, eb] at h1
    exact .inr ⟨Int.lt_of_mul_lt_mul_left h1 (by omega), Int.pos_of_mul_pos_left (by rwa [Int.mul_comm] at h2) hk⟩
/-- p + q root 3 is greater than 0, p greater and q less -/
theorem far_pos {a b c d T h : Int} (hT : 0 < T) (hh : 0 < h) (hk : 3 * (T * T) < h * h) (hp : Pos2 a b) (hq : Pos2 (-c) (-d)) (hP : Pos2 (a * T + c * h) (b * T + d * h)) :
    Pos2 (a * a + 2 * b * b - 3 * c * c - 6 * d * d) (2 * a * b - 6 * c * d) := by
  have F := (hp.scale hT).add (hq.scale hh)
  have G := hP.mul F
  have Q := (hq.mul hq).scale (show 0 < h * h - 3 * (T * T) by omega)
  have R := G.add Q
  apply Pos2.unscale (Int.mul_pos hT hT)
  have e1 : (a * T + c * h) * (T * a + h * -c) + 2 * ((b * T + d * h) * (T * b + h * -d)) + (h * h - 3 * (T * T)) * (-c * -c + 2 * (-d * -d)) = T * T * (a * a + 2 * b * b - 3 * c * c - 6 * d * d) := by grind
  have e2 : (a * T + c * h) * (T * b + h * -d) + (b * T + d * h) * (T * a + h * -c) + (h * h - 3 * (T * T)) * (-c * -d + -d * -c) = T * T * (2 * a * b - 6 * c * d) := by grind
  rwa [e1, e2] at R
/-- p + q root 3 is greater than 0, q greater and p less -/
theorem far_neg {a b c d T h : Int} (hT : 0 < T) (hh : 0 < h) (hk : h * h < 3 * (T * T)) (hp : Pos2 (-a) (-b)) (hq : Pos2 c d) (hP : Pos2 (a * T + c * h) (b * T + d * h)) :
    Pos2 (-(a * a + 2 * b * b - 3 * c * c - 6 * d * d)) (-(2 * a * b - 6 * c * d)) := by
  have F := (hp.scale hT).add (hq.scale hh)
  have G := hP.mul F
  have Q := (hq.mul hq).scale (show 0 < 3 * (T * T) - h * h by omega)
  have R := G.add Q
  apply Pos2.unscale (Int.mul_pos hT hT)
  have e1 : (a * T + c * h) * (T * -a + h * c) + 2 * ((b * T + d * h) * (T * -b + h * d)) + (3 * (T * T) - h * h) * (c * c + 2 * (d * d)) = T * T * -(a * a + 2 * b * b - 3 * c * c - 6 * d * d) := by grind
  have e2 : (a * T + c * h) * (T * -b + h * d) + (b * T + d * h) * (T * -a + h * c) + (3 * (T * T) - h * h) * (c * d + d * c) = T * T * -(2 * a * b - 6 * c * d) := by grind
  rwa [e1, e2] at R
theorem pos2_num {a b : Int} (h1 : 0 < a * 4503599627370496 + b * 6369051672525772) (h2 : 0 < a * 4503599627370496 + b * 6369051672525774) : Pos2 a b := by
  have na := sqnn a
  have nb := sqnn b
  rcases sg2_cases a b with ⟨rfl, rfl⟩ | ⟨k1, k2, k3⟩ | ⟨k1, k2, k3⟩ | ⟨k1, k2⟩ | ⟨k1, k2⟩
  · omega
  · exact Pos2.of (sg2_pp k1 k2 k3)
  · omega
  · left
    refine ⟨?_, k1⟩
    have := sq_lt_of (x := -b * 6369051672525774) (y := a * 4503599627370496) (by omega) (by omega)
    have e1 : -b * 6369051672525774 * (-b * 6369051672525774) = (b * b) * 40564819207303359131864694299076 := by grind
    have e2 : a * 4503599627370496 * (a * 4503599627370496) = (a * a) * 20282409603651670423947251286016 := by grind
    rw [e1, e2] at this
    omega
  · right
    refine ⟨?_, k2⟩
    have := sq_lt_of (x := -a * 4503599627370496) (y := b * 6369051672525772) (by omega) (by omega)
    have e1 : b * 6369051672525772 * (b * 6369051672525772) = (b * b) * 40564819207303333655658004195984 := by grind
    have e2 : -a * 4503599627370496 * (-a * 4503599627370496) = (a * a) * 20282409603651670423947251286016 := by grind
    rw [e1, e2] at this
    omega
theorem not_pos {a b n : Int} (hb : -n ≤ b ∧ b ≤ n) (h : ¬ Pos2 a b) : a * 4503599627370496 + b * 6369051672525773 ≤ n := by
  by_cases c : a * 4503599627370496 + b * 6369051672525773 ≤ n
  · exact c
  · exact absurd (pos2_num (by omega) (by omega)) h
theorem sg3_far {a b c d : Int} (ha : -100000 ≤ a ∧ a ≤ 100000) (hb : -100000 ≤ b ∧ b ≤ 100000) (hc : -100000 ≤ c ∧ c ≤ 100000) (hd : -100000 ≤ d ∧ d ≤ 100000)
    (hl : 10000000000000 ≤ a * 4503599627370496 + b * 6369051672525773 + c * 7800463371553962 + d * 11031521092846172) : sg3 a b c d = 1 := by
  by_cases hp : Pos2 a b
  · have p1 := hp.sg
    unfold sg3
    rcases sg2_range c d with q | q | q
    · have Q := sg2_neg_iff.1 q
      have P : Pos2 (a * 4503599627370496 + c * 7800463371553963) (b * 4503599627370496 + d * 7800463371553963) := pos2_num (by omega) (by omega)
      have R := far_pos (by omega) (by omega) (by decide) hp Q P
      rw [if_neg (by omega), if_neg (by omega), p1, R.sg]; rfl
    · rw [if_pos (by omega)]; exact p1
    · rw [if_pos (by omega)]; exact p1
  · have n1 := not_pos hb hp
    by_cases hq : Pos2 c d
    · have q1 := hq.sg
      unfold sg3
      rcases sg2_range a b with p | p | p
      · have Pn := sg2_neg_iff.1 p
        have P : Pos2 (a * 4503599627370496 + c * 7800463371553961) (b * 4503599627370496 + d * 7800463371553961) := pos2_num (by omega) (by omega)
        have R := far_neg (by omega) (by omega) (by decide) Pn hq P
        rw [if_neg (by omega), if_neg (by omega), p, sg2_neg_iff.2 R]; rfl
      · rw [if_neg (by omega), if_pos p]; exact q1
      · exact absurd (Pos2.of p) hp
    · have n2 := not_pos hd hq
      omega

end Go.Proofs.Ythgmgjjjgllbjaa
