/- Signs of surds (chapter 3), of impl and of spec: their walks. Written by mk_sign.py. -/
import Derived.Test.YthgmgjjjgllbjaaSurd2
import Derived.Test.YthgmgjjjgllbjaaSignP
namespace Go.Proofs.Ythgmgjjjgllbjaa
open Go.ChangeShapes Go.WideShapes Go.ChangeAt Go.RowKit
set_option linter.unusedVariables false

theorem l3Size_any (n : Int) (hn : -4611686018427387904 ≤ n ∧ n ≤ 4611686018427387904) (w : World) : Calls Try.prog 52 #[.int .i64 n] w fun e w' => e = .returned (.int .u64 n.natAbs) ∧ w = w' := by
  obtain ⟨n1, n2⟩ := hn
  rcases Int.lt_trichotomy n 0 with h | h | h
  · have H := Lib.hid (show (n.natAbs : Int) = -n from by omega)
    go_enter Try.func52, Try.ntmps52
    go_wp2
    go_ret; exact ⟨by rw [H.out]; rfl, rfl⟩
  · subst h
    go_enter Try.func52, Try.ntmps52
    go_wp2
    go_ret; exact ⟨rfl, rfl⟩
  · have H := Lib.hid (show (n.natAbs : Int) = n from by omega)
    go_enter Try.func52, Try.ntmps52
    go_wp2
    go_ret; exact ⟨by rw [H.out]; rfl, rfl⟩

theorem size_any (n : Int) (hn : -4611686018427387904 ≤ n ∧ n ≤ 4611686018427387904) (w : World) : Calls Try.prog 55 #[.int .i64 n] w fun e w' => e = .returned (.int .u64 n.natAbs) ∧ w = w' := by
  obtain ⟨n1, n2⟩ := hn
  rcases Int.lt_trichotomy n 0 with h | h | h
  · have H := Lib.hid (show (n.natAbs : Int) = -n from by omega)
    go_enter Try.func55, Try.ntmps55
    go_wp2
    go_ret; exact ⟨by rw [H.out]; rfl, rfl⟩
  · subst h
    go_enter Try.func55, Try.ntmps55
    go_wp2
    go_ret; exact ⟨rfl, rfl⟩
  · have H := Lib.hid (show (n.natAbs : Int) = n from by omega)
    go_enter Try.func55, Try.ntmps55
    go_wp2
    go_ret; exact ⟨by rw [H.out]; rfl, rfl⟩

/-- the two words of a number -/
def tupW (a : Nat) : Value := .tuple #[.int .u64 ((a / 18446744073709551616 : Nat) : Int), .int .u64 ((a % 18446744073709551616 : Nat) : Int)]

set_option maxHeartbeats 1000000 in
theorem l3Square_any (n : Nat) (hn : n < 9223372036854775808) (w : World) : Calls Try.prog 51 #[.int .u64 n] w fun e w' => e = .returned (tupW (n * n)) ∧ w = w' := by
  obtain ⟨L, H, M, O, S, T, Q, R, U, f1, f2, f3, f4, f5, f6, f7, f8, f9, f10, r1, r2, r3⟩ := square_parts n hn
  by_cases hc : T < O
  · have K := Lib.hid (show tupW (n * n) = .tuple #[.int .u64 ((U + 1 : Nat) : Int), .int .u64 (T : Int)] from by unfold tupW; rw [r1 hc, r3])
    clear r1 r2 r3
    go_enter Try.func51, Try.ntmps51
    go_wp2
    go_ret2
    exact ⟨by rw [K.out]; rfl, rfl⟩
  · have K := Lib.hid (show tupW (n * n) = .tuple #[.int .u64 (U : Int), .int .u64 (T : Int)] from by unfold tupW; rw [r2 (by omega), r3])
    clear r1 r2 r3 f10
    go_enter Try.func51, Try.ntmps51
    go_wp2
    go_ret2
    exact ⟨by rw [K.out]; rfl, rfl⟩

set_option maxHeartbeats 1000000 in
theorem mul64_any (x : Nat) (hx : x < 18446744073709551616) (w : World) : Calls Try.prog 54 #[.int .u64 x, .int .u64 x] w fun e w' => e = .returned (tupW (x * x)) ∧ w = w' := by
  obtain ⟨bd, bt, bw, hhi⟩ := Lib.mul64_hi x x hx hx
  have ba := Lib.half_mul_le (a := x / 4294967296) (b := x / 4294967296) (by omega) (by omega)
  have bb := Lib.half_mul_le (a := x / 4294967296) (b := x % 4294967296) (by omega) (by omega)
  have bc := Lib.half_mul_le (a := x % 4294967296) (b := x / 4294967296) (by omega) (by omega)
  have ba' : x / 4294967296 * (x / 4294967296) < 18446744073709551616 := by omega
  have bb' : x / 4294967296 * (x % 4294967296) < 18446744073709551616 := by omega
  have bc' : x % 4294967296 * (x / 4294967296) < 18446744073709551616 := by omega
  have bh1 : x / 4294967296 * (x / 4294967296) + (x / 4294967296 * (x % 4294967296) + x % 4294967296 * (x % 4294967296) / 4294967296) / 4294967296 < 18446744073709551616 := by omega
  have bh : x / 4294967296 * (x / 4294967296) + (x / 4294967296 * (x % 4294967296) + x % 4294967296 * (x % 4294967296) / 4294967296) / 4294967296 + ((x / 4294967296 * (x % 4294967296) + x % 4294967296 * (x % 4294967296) / 4294967296) % 4294967296 + x % 4294967296 * (x / 4294967296)) / 4294967296 < 18446744073709551616 := by omega
  go_enter Try.func54, Try.ntmps54
  go_wp2
  simp only [Mul64.maskN x hx, Mul64.divN, Mul64.mulN, Mul64.addN, Mul64.wrapN _ bd, Mul64.wrapN _ bb', Mul64.wrapN _ bt, Mul64.maskN _ bt, Mul64.wrapN _ bc', Mul64.wrapN _ bw, Mul64.wrapN _ ba', Mul64.wrapN _ bh1, Mul64.wrapN _ bh, Mul64.wrapM (x * x)]
  rw [hhi]
  go_ret2
  exact ⟨rfl, rfl⟩

/-- how two numbers stand to each other -/
def cmpI (x y : Int) : Int := if x < y then -1 else if y < x then 1 else 0

theorem cmpInt_any (x y : Int) (w : World) : Calls Try.prog 61 #[.int .i64 x, .int .i64 y] w fun e w' => e = .returned (.int .i64 (cmpI x y)) ∧ w = w' := by
  have nan : ∀ (z : Int) (w : World), Calls Try.prog 66 #[.int .i64 z] w fun e w' => e = .returned (.bool false) ∧ w = w' := by
    intro z w
    go_enter Try.func66, Try.ntmps66
    go_wp2
    go_ret; exact ⟨rfl, rfl⟩
  rcases Int.lt_trichotomy x y with h | h | h
  · have K := Lib.hid (show cmpI x y = -1 from by unfold cmpI; rw [if_pos h])
    go_enter Try.func61, Try.ntmps61
    go_wp2_with (go_at_call 66; ((with_reducible refine (nan _ _).mono ?_); rintro e w' ⟨rfl, rfl⟩))
    go_ret; exact ⟨by rw [K.out]; rfl, rfl⟩
  · subst h
    have K := Lib.hid (show cmpI x x = 0 from by unfold cmpI; simp)
    go_enter Try.func61, Try.ntmps61
    go_wp2_with (go_at_call 66; ((with_reducible refine (nan _ _).mono ?_); rintro e w' ⟨rfl, rfl⟩))
    go_ret; exact ⟨by rw [K.out]; rfl, rfl⟩
  · have K := Lib.hid (show cmpI x y = 1 from by unfold cmpI; rw [if_neg (by omega), if_pos h])
    go_enter Try.func61, Try.ntmps61
    go_wp2_with (go_at_call 66; ((with_reducible refine (nan _ _).mono ?_); rintro e w' ⟨rfl, rfl⟩))
    go_ret; exact ⟨by rw [K.out]; rfl, rfl⟩

theorem cmpU_any (x y : Int) (w : World) : Calls Try.prog 57 #[.int .u64 x, .int .u64 y] w fun e w' => e = .returned (.int .i64 (cmpI x y)) ∧ w = w' := by
  have nan : ∀ (z : Int) (w : World), Calls Try.prog 62 #[.int .u64 z] w fun e w' => e = .returned (.bool false) ∧ w = w' := by
    intro z w
    go_enter Try.func62, Try.ntmps62
    go_wp2
    go_ret; exact ⟨rfl, rfl⟩
  rcases Int.lt_trichotomy x y with h | h | h
  · have K := Lib.hid (show cmpI x y = -1 from by unfold cmpI; rw [if_pos h])
    go_enter Try.func57, Try.ntmps57
    go_wp2_with (go_at_call 62; ((with_reducible refine (nan _ _).mono ?_); rintro e w' ⟨rfl, rfl⟩))
    go_ret; exact ⟨by rw [K.out]; rfl, rfl⟩
  · subst h
    have K := Lib.hid (show cmpI x x = 0 from by unfold cmpI; simp)
    go_enter Try.func57, Try.ntmps57
    go_wp2_with (go_at_call 62; ((with_reducible refine (nan _ _).mono ?_); rintro e w' ⟨rfl, rfl⟩))
    go_ret; exact ⟨by rw [K.out]; rfl, rfl⟩
  · have K := Lib.hid (show cmpI x y = 1 from by unfold cmpI; rw [if_neg (by omega), if_pos h])
    go_enter Try.func57, Try.ntmps57
    go_wp2_with (go_at_call 62; ((with_reducible refine (nan _ _).mono ?_); rintro e w' ⟨rfl, rfl⟩))
    go_ret; exact ⟨by rw [K.out]; rfl, rfl⟩

theorem signOf_any (n : Int) (w : World) : Calls Try.prog 53 #[.int .i64 n] w fun e w' => e = .returned (.int .i64 (cmpI n 0)) ∧ w = w' := by
  go_enter Try.func53, Try.ntmps53
  go_wp2_with (go_at_call 61; ((with_reducible refine (cmpInt_any _ _ _).mono ?_); rintro e w' ⟨rfl, rfl⟩))
  go_ret; exact ⟨rfl, rfl⟩

set_option maxHeartbeats 2000000 in
theorem l3Two_any (a b : Int) (ha1 : -4611686018427387904 ≤ a ∧ a ≤ 4611686018427387904) (hb1 : -4611686018427387904 ≤ b ∧ b ≤ 4611686018427387904) (w : World) : Calls Try.prog 43 #[.int .i64 a, .int .i64 b] w fun e w' => e = .returned (.int .i64 (sg2 a b)) ∧ w = w' := by
  have AB := ha1
  have BB := hb1
  obtain ⟨a1, a2⟩ := ha1
  obtain ⟨b1, b2⟩ := hb1
  rcases Int.lt_trichotomy a 0 with ha | ha | ha <;> rcases Int.lt_trichotomy b 0 with hb | hb | hb
  · -- a < 0, b < 0
    have K := Lib.hid (sg2_nn (a := a) (b := b) (by omega) (by omega) (by omega))
    go_enter Try.func43, Try.ntmps43
    go_wp2
    go_ret; exact ⟨by rw [K.out]; rfl, rfl⟩
  · -- a < 0, b = 0
    subst hb
    have K := Lib.hid (sg2_nn (a := a) (b := 0) (by omega) (by omega) (by omega))
    go_enter Try.func43, Try.ntmps43
    go_wp2
    go_ret; exact ⟨by rw [K.out]; rfl, rfl⟩
  · have bB : b.natAbs * b.natAbs ≤ 4611686018427387904 * 4611686018427387904 := Nat.mul_le_mul (by omega) (by omega)
    obtain ⟨t1, t2, t3, t4⟩ := twice_parts (b.natAbs * b.natAbs) (by omega)
    obtain ⟨X1, hX1⟩ : ∃ X1 : Nat, X1 = a.natAbs * a.natAbs / 18446744073709551616 := ⟨_, rfl⟩
    obtain ⟨X0, hX0⟩ : ∃ X0 : Nat, X0 = a.natAbs * a.natAbs % 18446744073709551616 := ⟨_, rfl⟩
    have EA := Lib.hid (show tupW (a.natAbs * a.natAbs) = .tuple #[.int .u64 (X1 : Int), .int .u64 (X0 : Int)] from by rw [hX1, hX0]; rfl)
    have L1 := fun h : 2 * (b * b) < a * a => cmp_parts (natSq_lt h)
    have L2 := fun h : ¬ 2 * (b * b) < a * a => cmp_parts (natSq_gt h (by omega))
    rw [← hX1, ← hX0] at L1 L2
    obtain ⟨Y1, hY1⟩ : ∃ Y1 : Nat, Y1 = b.natAbs * b.natAbs / 18446744073709551616 := ⟨_, rfl⟩
    obtain ⟨Y0, hY0⟩ : ∃ Y0 : Nat, Y0 = b.natAbs * b.natAbs % 18446744073709551616 := ⟨_, rfl⟩
    have EB := Lib.hid (show tupW (b.natAbs * b.natAbs) = .tuple #[.int .u64 (Y1 : Int), .int .u64 (Y0 : Int)] from by rw [hY1, hY0]; rfl)
    rw [← hY1] at t1 t3
    rw [← hY0] at t2 t3 t4
    obtain ⟨Z2, hZ2⟩ : ∃ Z2 : Nat, Z2 = Y1 * 2 := ⟨_, rfl⟩
    obtain ⟨Z3, hZ3⟩ : ∃ Z3 : Nat, Z3 = Y0 / 9223372036854775808 := ⟨_, rfl⟩
    obtain ⟨Z1, hZ1⟩ : ∃ Z1 : Nat, Z1 = 2 * (b.natAbs * b.natAbs) / 18446744073709551616 := ⟨_, rfl⟩
    obtain ⟨Z0, hZ0⟩ : ∃ Z0 : Nat, Z0 = 2 * (b.natAbs * b.natAbs) % 18446744073709551616 := ⟨_, rfl⟩
    rw [← hZ1, ← hZ0] at L1 L2
    rw [← hZ1] at t3
    rw [← hZ0] at t4
    rw [← hZ2] at t1 t3
    rw [← hZ3] at t2 t3
    clear hX1 hX0 hY1 hY0 hZ1 hZ0 hZ2 hZ3 bB
    by_cases hc : 2 * (b * b) < a * a
    · have K := Lib.hid (show sg2 a b = -1 from by rw [sg2_np ha hb, if_pos hc])
      rcases L1 hc with hp | ⟨hp, hq⟩
      all_goals clear L1 L2 hc
      · have hp2 := hp
        go_enter Try.func43, Try.ntmps43
        go_wp2_with (first | (go_at_call 52; ((with_reducible refine (l3Size_any a AB _).mono ?_); rintro e w' ⟨rfl, rfl⟩)) | (go_at_call 52; ((with_reducible refine (l3Size_any b BB _).mono ?_); rintro e w' ⟨rfl, rfl⟩)) | ((go_at_call 51; ((with_reducible refine (l3Square_any a.natAbs (by omega) _).mono ?_); rintro e w' ⟨rfl, rfl⟩)); rw [EA.out]) | ((go_at_call 51; ((with_reducible refine (l3Square_any b.natAbs (by omega) _).mono ?_); rintro e w' ⟨rfl, rfl⟩)); rw [EB.out]))
        go_ret; exact ⟨by rw [K.out]; rfl, rfl⟩
      · subst hp
        go_enter Try.func43, Try.ntmps43
        go_wp2_with (first | (go_at_call 52; ((with_reducible refine (l3Size_any a AB _).mono ?_); rintro e w' ⟨rfl, rfl⟩)) | (go_at_call 52; ((with_reducible refine (l3Size_any b BB _).mono ?_); rintro e w' ⟨rfl, rfl⟩)) | ((go_at_call 51; ((with_reducible refine (l3Square_any a.natAbs (by omega) _).mono ?_); rintro e w' ⟨rfl, rfl⟩)); rw [EA.out]) | ((go_at_call 51; ((with_reducible refine (l3Square_any b.natAbs (by omega) _).mono ?_); rintro e w' ⟨rfl, rfl⟩)); rw [EB.out]))
        go_ret; exact ⟨by rw [K.out]; rfl, rfl⟩
    · have K := Lib.hid (show sg2 a b = 1 from by rw [sg2_np ha hb, if_neg hc])
      rcases L2 hc with hp | ⟨hp, hq⟩
      all_goals clear L1 L2 hc
      · have hp2 : ¬ Z1 < X1 := by omega
        have hp3 : ¬ X1 = Z1 := by omega
        go_enter Try.func43, Try.ntmps43
        go_wp2_with (first | (go_at_call 52; ((with_reducible refine (l3Size_any a AB _).mono ?_); rintro e w' ⟨rfl, rfl⟩)) | (go_at_call 52; ((with_reducible refine (l3Size_any b BB _).mono ?_); rintro e w' ⟨rfl, rfl⟩)) | ((go_at_call 51; ((with_reducible refine (l3Square_any a.natAbs (by omega) _).mono ?_); rintro e w' ⟨rfl, rfl⟩)); rw [EA.out]) | ((go_at_call 51; ((with_reducible refine (l3Square_any b.natAbs (by omega) _).mono ?_); rintro e w' ⟨rfl, rfl⟩)); rw [EB.out]))
        go_ret; exact ⟨by rw [K.out]; rfl, rfl⟩
      · subst hp
        have hp3 : ¬ Z0 < X0 := by omega
        go_enter Try.func43, Try.ntmps43
        go_wp2_with (first | (go_at_call 52; ((with_reducible refine (l3Size_any a AB _).mono ?_); rintro e w' ⟨rfl, rfl⟩)) | (go_at_call 52; ((with_reducible refine (l3Size_any b BB _).mono ?_); rintro e w' ⟨rfl, rfl⟩)) | ((go_at_call 51; ((with_reducible refine (l3Square_any a.natAbs (by omega) _).mono ?_); rintro e w' ⟨rfl, rfl⟩)); rw [EA.out]) | ((go_at_call 51; ((with_reducible refine (l3Square_any b.natAbs (by omega) _).mono ?_); rintro e w' ⟨rfl, rfl⟩)); rw [EB.out]))
        go_ret; exact ⟨by rw [K.out]; rfl, rfl⟩
  · -- a = 0, b < 0
    subst ha
    have K := Lib.hid (sg2_nn (a := 0) (b := b) (by omega) (by omega) (by omega))
    go_enter Try.func43, Try.ntmps43
    go_wp2
    go_ret; exact ⟨by rw [K.out]; rfl, rfl⟩
  · -- a = 0, b = 0
    subst ha
    subst hb
    have K := Lib.hid (sg2_00)
    go_enter Try.func43, Try.ntmps43
    go_wp2
    go_ret; exact ⟨by rw [K.out]; rfl, rfl⟩
  · -- a = 0, 0 < b
    subst ha
    have K := Lib.hid (sg2_pp (a := 0) (b := b) (by omega) (by omega) (by omega))
    go_enter Try.func43, Try.ntmps43
    go_wp2
    go_ret; exact ⟨by rw [K.out]; rfl, rfl⟩
  · have bB : b.natAbs * b.natAbs ≤ 4611686018427387904 * 4611686018427387904 := Nat.mul_le_mul (by omega) (by omega)
    obtain ⟨t1, t2, t3, t4⟩ := twice_parts (b.natAbs * b.natAbs) (by omega)
    obtain ⟨X1, hX1⟩ : ∃ X1 : Nat, X1 = a.natAbs * a.natAbs / 18446744073709551616 := ⟨_, rfl⟩
    obtain ⟨X0, hX0⟩ : ∃ X0 : Nat, X0 = a.natAbs * a.natAbs % 18446744073709551616 := ⟨_, rfl⟩
    have EA := Lib.hid (show tupW (a.natAbs * a.natAbs) = .tuple #[.int .u64 (X1 : Int), .int .u64 (X0 : Int)] from by rw [hX1, hX0]; rfl)
    have L1 := fun h : 2 * (b * b) < a * a => cmp_parts (natSq_lt h)
    have L2 := fun h : ¬ 2 * (b * b) < a * a => cmp_parts (natSq_gt h (by omega))
    rw [← hX1, ← hX0] at L1 L2
    obtain ⟨Y1, hY1⟩ : ∃ Y1 : Nat, Y1 = b.natAbs * b.natAbs / 18446744073709551616 := ⟨_, rfl⟩
    obtain ⟨Y0, hY0⟩ : ∃ Y0 : Nat, Y0 = b.natAbs * b.natAbs % 18446744073709551616 := ⟨_, rfl⟩
    have EB := Lib.hid (show tupW (b.natAbs * b.natAbs) = .tuple #[.int .u64 (Y1 : Int), .int .u64 (Y0 : Int)] from by rw [hY1, hY0]; rfl)
    rw [← hY1] at t1 t3
    rw [← hY0] at t2 t3 t4
    obtain ⟨Z2, hZ2⟩ : ∃ Z2 : Nat, Z2 = Y1 * 2 := ⟨_, rfl⟩
    obtain ⟨Z3, hZ3⟩ : ∃ Z3 : Nat, Z3 = Y0 / 9223372036854775808 := ⟨_, rfl⟩
    obtain ⟨Z1, hZ1⟩ : ∃ Z1 : Nat, Z1 = 2 * (b.natAbs * b.natAbs) / 18446744073709551616 := ⟨_, rfl⟩
    obtain ⟨Z0, hZ0⟩ : ∃ Z0 : Nat, Z0 = 2 * (b.natAbs * b.natAbs) % 18446744073709551616 := ⟨_, rfl⟩
    rw [← hZ1, ← hZ0] at L1 L2
    rw [← hZ1] at t3
    rw [← hZ0] at t4
    rw [← hZ2] at t1 t3
    rw [← hZ3] at t2 t3
    clear hX1 hX0 hY1 hY0 hZ1 hZ0 hZ2 hZ3 bB
    by_cases hc : 2 * (b * b) < a * a
    · have K := Lib.hid (show sg2 a b = 1 from by rw [sg2_pn ha hb, if_pos hc])
      rcases L1 hc with hp | ⟨hp, hq⟩
      all_goals clear L1 L2 hc
      · have hp2 := hp
        go_enter Try.func43, Try.ntmps43
        go_wp2_with (first | (go_at_call 52; ((with_reducible refine (l3Size_any a AB _).mono ?_); rintro e w' ⟨rfl, rfl⟩)) | (go_at_call 52; ((with_reducible refine (l3Size_any b BB _).mono ?_); rintro e w' ⟨rfl, rfl⟩)) | ((go_at_call 51; ((with_reducible refine (l3Square_any a.natAbs (by omega) _).mono ?_); rintro e w' ⟨rfl, rfl⟩)); rw [EA.out]) | ((go_at_call 51; ((with_reducible refine (l3Square_any b.natAbs (by omega) _).mono ?_); rintro e w' ⟨rfl, rfl⟩)); rw [EB.out]))
        go_ret; exact ⟨by rw [K.out]; rfl, rfl⟩
      · subst hp
        go_enter Try.func43, Try.ntmps43
        go_wp2_with (first | (go_at_call 52; ((with_reducible refine (l3Size_any a AB _).mono ?_); rintro e w' ⟨rfl, rfl⟩)) | (go_at_call 52; ((with_reducible refine (l3Size_any b BB _).mono ?_); rintro e w' ⟨rfl, rfl⟩)) | ((go_at_call 51; ((with_reducible refine (l3Square_any a.natAbs (by omega) _).mono ?_); rintro e w' ⟨rfl, rfl⟩)); rw [EA.out]) | ((go_at_call 51; ((with_reducible refine (l3Square_any b.natAbs (by omega) _).mono ?_); rintro e w' ⟨rfl, rfl⟩)); rw [EB.out]))
        go_ret; exact ⟨by rw [K.out]; rfl, rfl⟩
    · have K := Lib.hid (show sg2 a b = -1 from by rw [sg2_pn ha hb, if_neg hc])
      rcases L2 hc with hp | ⟨hp, hq⟩
      all_goals clear L1 L2 hc
      · have hp2 : ¬ Z1 < X1 := by omega
        have hp3 : ¬ X1 = Z1 := by omega
        go_enter Try.func43, Try.ntmps43
        go_wp2_with (first | (go_at_call 52; ((with_reducible refine (l3Size_any a AB _).mono ?_); rintro e w' ⟨rfl, rfl⟩)) | (go_at_call 52; ((with_reducible refine (l3Size_any b BB _).mono ?_); rintro e w' ⟨rfl, rfl⟩)) | ((go_at_call 51; ((with_reducible refine (l3Square_any a.natAbs (by omega) _).mono ?_); rintro e w' ⟨rfl, rfl⟩)); rw [EA.out]) | ((go_at_call 51; ((with_reducible refine (l3Square_any b.natAbs (by omega) _).mono ?_); rintro e w' ⟨rfl, rfl⟩)); rw [EB.out]))
        go_ret; exact ⟨by rw [K.out]; rfl, rfl⟩
      · subst hp
        have hp3 : ¬ Z0 < X0 := by omega
        go_enter Try.func43, Try.ntmps43
        go_wp2_with (first | (go_at_call 52; ((with_reducible refine (l3Size_any a AB _).mono ?_); rintro e w' ⟨rfl, rfl⟩)) | (go_at_call 52; ((with_reducible refine (l3Size_any b BB _).mono ?_); rintro e w' ⟨rfl, rfl⟩)) | ((go_at_call 51; ((with_reducible refine (l3Square_any a.natAbs (by omega) _).mono ?_); rintro e w' ⟨rfl, rfl⟩)); rw [EA.out]) | ((go_at_call 51; ((with_reducible refine (l3Square_any b.natAbs (by omega) _).mono ?_); rintro e w' ⟨rfl, rfl⟩)); rw [EB.out]))
        go_ret; exact ⟨by rw [K.out]; rfl, rfl⟩
  · -- 0 < a, b = 0
    subst hb
    have K := Lib.hid (sg2_pp (a := a) (b := 0) (by omega) (by omega) (by omega))
    go_enter Try.func43, Try.ntmps43
    go_wp2
    go_ret; exact ⟨by rw [K.out]; rfl, rfl⟩
  · -- 0 < a, 0 < b
    have K := Lib.hid (sg2_pp (a := a) (b := b) (by omega) (by omega) (by omega))
    go_enter Try.func43, Try.ntmps43
    go_wp2
    go_ret; exact ⟨by rw [K.out]; rfl, rfl⟩

end Go.Proofs.Ythgmgjjjgllbjaa
