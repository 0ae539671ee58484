/- Signs of surds (chapter 3): impl's sign2, and the signs of whole surds. Written by mk_sign.py. -/
import Derived.Test.YthgmgjjjgllbjaaSign
import Derived.Deep.RegionWith
import Derived.Deep.DeepCutAuto
namespace Go.Proofs.Ythgmgjjjgllbjaa
open Go.ChangeShapes Go.WideShapes Go.ChangeAt Go.RowKit
set_option linter.unusedVariables false

theorem cmpOr_one (x y : Int) (hx : x ≠ 0) (w : World) (B : Nat) (hb : Blk w B [.int .i64 x, .int .i64 y]) : Calls Try.prog 56 #[.slice (some ⟨B, 0, none⟩) 2 2] w fun e w' => e = .returned (.int .i64 x) ∧ w = w' := by
  have c := hb.cell
  have hx' : (x == 0) = false := by simpa using hx
  go_enter Try.func56, Try.ntmps56
  go_wp2
  refine wp_loop_rounds 2 ?_
  rw [rounds_succ]
  go_wp2
  go_ret; exact ⟨rfl, rfl⟩

theorem cmpOr_two (y : Int) (hy : y ≠ 0) (w : World) (B : Nat) (hb : Blk w B [.int .i64 0, .int .i64 y]) : Calls Try.prog 56 #[.slice (some ⟨B, 0, none⟩) 2 2] w fun e w' => e = .returned (.int .i64 y) ∧ w = w' := by
  have c := hb.cell
  have hy' : (y == 0) = false := by simpa using hy
  go_enter Try.func56, Try.ntmps56
  go_wp2
  refine wp_loop_rounds 3 ?_
  iterate 2 (rw [rounds_succ]; go_wp2)
  go_ret; exact ⟨rfl, rfl⟩

theorem cmpI_lt {x y : Int} (h : x < y) : cmpI x y = -1 := by unfold cmpI; rw [if_pos h]
theorem cmpI_gt {x y : Int} (h : y < x) : cmpI x y = 1 := by unfold cmpI; rw [if_neg (by omega), if_pos h]
theorem cmpI_eq (x : Int) : cmpI x x = 0 := by unfold cmpI; simp

set_option maxHeartbeats 2000000 in
theorem sign2_any (a b : Int) (ha1 : -4611686018427387904 ≤ a ∧ a ≤ 4611686018427387904) (hb1 : -4611686018427387904 ≤ b ∧ b ≤ 4611686018427387904) (w : World) : Calls Try.prog 45 #[.int .i64 a, .int .i64 b] w fun e w' => e = .returned (.int .i64 (sg2 a b)) ∧ Ext w w' := by
  have AB := ha1
  have BB := hb1
  obtain ⟨a1, a2⟩ := ha1
  obtain ⟨b1, b2⟩ := hb1
  rcases Int.lt_trichotomy a 0 with ha | ha | ha <;> rcases Int.lt_trichotomy b 0 with hb | hb | hb
  · -- a < 0, b < 0
    have K := Lib.hid (sg2_nn (a := a) (b := b) (by omega) (by omega) (by omega))
    have ca := cmpI_lt ha
    have cb := cmpI_lt hb
    go_enter Try.func45, Try.ntmps45
    go_wp2_with (go_at_call 53; ((with_reducible refine (signOf_any _ _).mono ?_); rintro e w' ⟨rfl, rfl⟩))
    go_ret; exact ⟨by rw [K.out]; rfl, Ext.refl _⟩
  · -- a < 0, b = 0
    subst hb
    have K := Lib.hid (sg2_nn (a := a) (b := 0) (by omega) (by omega) (by omega))
    have ca := cmpI_lt ha
    have cb := cmpI_eq 0
    go_enter Try.func45, Try.ntmps45
    go_wp2_with (go_at_call 53; ((with_reducible refine (signOf_any _ _).mono ?_); rintro e w' ⟨rfl, rfl⟩))
    go_ret; exact ⟨by rw [K.out]; rfl, Ext.refl _⟩
  · have bB : b.natAbs * b.natAbs ≤ 4611686018427387904 * 4611686018427387904 := Nat.mul_le_mul (by omega) (by omega)
    obtain ⟨t1, t2, t3, t4⟩ := twice_parts (b.natAbs * b.natAbs) (by omega)
    obtain ⟨X1, hX1⟩ : ∃ X1 : Nat, X1 = a.natAbs * a.natAbs / 18446744073709551616 := ⟨_, rfl⟩
    obtain ⟨X0, hX0⟩ : ∃ X0 : Nat, X0 = a.natAbs * a.natAbs % 18446744073709551616 := ⟨_, rfl⟩
    have EA := Lib.hid (show tupW (a.natAbs * a.natAbs) = .tuple #[.int .u64 (X1 : Int), .int .u64 (X0 : Int)] from by rw [hX1, hX0]; rfl)
    have L1 := fun h : 2 * (b * b) < a * a => cmp_parts (natSq_lt h)
    have L2 := fun h : ¬ 2 * (b * b) < a * a => cmp_parts (natSq_gt h (by omega))
    rw [← hX1, ← hX0] at L1 L2
    obtain ⟨Y1, hY1⟩ : ∃ Y1 : Nat, Y1 = b.natAbs * b.natAbs / 18446744073709551616 := ⟨_, rfl⟩
    obtain ⟨Y0, hY0⟩ : ∃ Y0 : Nat, Y0 = b.natAbs * b.natAbs % 18446744073709551616 := ⟨_, rfl⟩
    have EB := Lib.hid (show tupW (b.natAbs * b.natAbs) = .tuple #[.int .u64 (Y1 : Int), .int .u64 (Y0 : Int)] from by rw [hY1, hY0]; rfl)
    rw [← hY1] at t1 t3
    rw [← hY0] at t2 t3 t4
    obtain ⟨Z2, hZ2⟩ : ∃ Z2 : Nat, Z2 = Y1 * 2 := ⟨_, rfl⟩
    obtain ⟨Z3, hZ3⟩ : ∃ Z3 : Nat, Z3 = Y0 / 9223372036854775808 := ⟨_, rfl⟩
    obtain ⟨Z1, hZ1⟩ : ∃ Z1 : Nat, Z1 = 2 * (b.natAbs * b.natAbs) / 18446744073709551616 := ⟨_, rfl⟩
    obtain ⟨Z0, hZ0⟩ : ∃ Z0 : Nat, Z0 = 2 * (b.natAbs * b.natAbs) % 18446744073709551616 := ⟨_, rfl⟩
    rw [← hZ1, ← hZ0] at L1 L2
    rw [← hZ1] at t3
    rw [← hZ0] at t4
    rw [← hZ2] at t1 t3
    rw [← hZ3] at t2 t3
    clear hX1 hX0 hY1 hY0 hZ1 hZ0 hZ2 hZ3 bB
    have ca := cmpI_lt ha
    have cb := cmpI_gt hb
    by_cases hc : 2 * (b * b) < a * a
    · have K := Lib.hid (show sg2 a b = -1 from by rw [sg2_np ha hb, if_pos hc])
      rcases L1 hc with hp | ⟨hp, hq⟩
      all_goals clear L1 L2 hc
      · have e1 : cmpI (X1 : Int) (Z1 : Int) = 1 := cmpI_gt (by omega)
        go_enter Try.func45, Try.ntmps45
        go_wp2_with (first | (go_at_call 53; ((with_reducible refine (signOf_any _ _).mono ?_); rintro e w' ⟨rfl, rfl⟩)) | (go_at_call 55; ((with_reducible refine (size_any a AB _).mono ?_); rintro e w' ⟨rfl, rfl⟩)) | (go_at_call 55; ((with_reducible refine (size_any b BB _).mono ?_); rintro e w' ⟨rfl, rfl⟩)) | ((go_at_call 54; ((with_reducible refine (mul64_any a.natAbs (by omega) _).mono ?_); rintro e w' ⟨rfl, rfl⟩)); rw [EA.out]) | ((go_at_call 54; ((with_reducible refine (mul64_any b.natAbs (by omega) _).mono ?_); rintro e w' ⟨rfl, rfl⟩)); rw [EB.out]) | (go_at_call 57; ((with_reducible refine (cmpU_any (X1 : Int) (Z1 : Int) _).mono ?_); rintro e w' ⟨rfl, rfl⟩)) | (go_at_call 57; ((with_reducible refine (cmpU_any (X0 : Int) (Z0 : Int) _).mono ?_); rintro e w' ⟨rfl, rfl⟩)) | (go_at_call 56; ((with_reducible refine (cmpOr_one 1 _ (by omega) _ _ (Blk.new _ _ _)).mono ?_); rintro e w' ⟨rfl, rfl⟩)))
        go_ret; exact ⟨by rw [K.out]; rfl, Ext.alloc (Ext.refl _) _⟩
      · subst hp
        have e1 := cmpI_eq (X1 : Int)
        have e0 : cmpI (X0 : Int) (Z0 : Int) = 1 := cmpI_gt (by omega)
        go_enter Try.func45, Try.ntmps45
        go_wp2_with (first | (go_at_call 53; ((with_reducible refine (signOf_any _ _).mono ?_); rintro e w' ⟨rfl, rfl⟩)) | (go_at_call 55; ((with_reducible refine (size_any a AB _).mono ?_); rintro e w' ⟨rfl, rfl⟩)) | (go_at_call 55; ((with_reducible refine (size_any b BB _).mono ?_); rintro e w' ⟨rfl, rfl⟩)) | ((go_at_call 54; ((with_reducible refine (mul64_any a.natAbs (by omega) _).mono ?_); rintro e w' ⟨rfl, rfl⟩)); rw [EA.out]) | ((go_at_call 54; ((with_reducible refine (mul64_any b.natAbs (by omega) _).mono ?_); rintro e w' ⟨rfl, rfl⟩)); rw [EB.out]) | (go_at_call 57; ((with_reducible refine (cmpU_any (X1 : Int) (X1 : Int) _).mono ?_); rintro e w' ⟨rfl, rfl⟩)) | (go_at_call 57; ((with_reducible refine (cmpU_any (X0 : Int) (Z0 : Int) _).mono ?_); rintro e w' ⟨rfl, rfl⟩)) | (go_at_call 56; ((with_reducible refine (cmpOr_two 1 (by omega) _ _ (Blk.new _ _ _)).mono ?_); rintro e w' ⟨rfl, rfl⟩)))
        go_ret; exact ⟨by rw [K.out]; rfl, Ext.alloc (Ext.refl _) _⟩
    · have K := Lib.hid (show sg2 a b = 1 from by rw [sg2_np ha hb, if_neg hc])
      rcases L2 hc with hp | ⟨hp, hq⟩
      all_goals clear L1 L2 hc
      · have e1 : cmpI (X1 : Int) (Z1 : Int) = -1 := cmpI_lt (by omega)
        go_enter Try.func45, Try.ntmps45
        go_wp2_with (first | (go_at_call 53; ((with_reducible refine (signOf_any _ _).mono ?_); rintro e w' ⟨rfl, rfl⟩)) | (go_at_call 55; ((with_reducible refine (size_any a AB _).mono ?_); rintro e w' ⟨rfl, rfl⟩)) | (go_at_call 55; ((with_reducible refine (size_any b BB _).mono ?_); rintro e w' ⟨rfl, rfl⟩)) | ((go_at_call 54; ((with_reducible refine (mul64_any a.natAbs (by omega) _).mono ?_); rintro e w' ⟨rfl, rfl⟩)); rw [EA.out]) | ((go_at_call 54; ((with_reducible refine (mul64_any b.natAbs (by omega) _).mono ?_); rintro e w' ⟨rfl, rfl⟩)); rw [EB.out]) | (go_at_call 57; ((with_reducible refine (cmpU_any (X1 : Int) (Z1 : Int) _).mono ?_); rintro e w' ⟨rfl, rfl⟩)) | (go_at_call 57; ((with_reducible refine (cmpU_any (X0 : Int) (Z0 : Int) _).mono ?_); rintro e w' ⟨rfl, rfl⟩)) | (go_at_call 56; ((with_reducible refine (cmpOr_one (-1) _ (by omega) _ _ (Blk.new _ _ _)).mono ?_); rintro e w' ⟨rfl, rfl⟩)))
        go_ret; exact ⟨by rw [K.out]; rfl, Ext.alloc (Ext.refl _) _⟩
      · subst hp
        have e1 := cmpI_eq (Z1 : Int)
        have e0 : cmpI (X0 : Int) (Z0 : Int) = -1 := cmpI_lt (by omega)
        go_enter Try.func45, Try.ntmps45
        go_wp2_with (first | (go_at_call 53; ((with_reducible refine (signOf_any _ _).mono ?_); rintro e w' ⟨rfl, rfl⟩)) | (go_at_call 55; ((with_reducible refine (size_any a AB _).mono ?_); rintro e w' ⟨rfl, rfl⟩)) | (go_at_call 55; ((with_reducible refine (size_any b BB _).mono ?_); rintro e w' ⟨rfl, rfl⟩)) | ((go_at_call 54; ((with_reducible refine (mul64_any a.natAbs (by omega) _).mono ?_); rintro e w' ⟨rfl, rfl⟩)); rw [EA.out]) | ((go_at_call 54; ((with_reducible refine (mul64_any b.natAbs (by omega) _).mono ?_); rintro e w' ⟨rfl, rfl⟩)); rw [EB.out]) | (go_at_call 57; ((with_reducible refine (cmpU_any (Z1 : Int) (Z1 : Int) _).mono ?_); rintro e w' ⟨rfl, rfl⟩)) | (go_at_call 57; ((with_reducible refine (cmpU_any (X0 : Int) (Z0 : Int) _).mono ?_); rintro e w' ⟨rfl, rfl⟩)) | (go_at_call 56; ((with_reducible refine (cmpOr_two (-1) (by omega) _ _ (Blk.new _ _ _)).mono ?_); rintro e w' ⟨rfl, rfl⟩)))
        go_ret; exact ⟨by rw [K.out]; rfl, Ext.alloc (Ext.refl _) _⟩
  · -- a = 0, b < 0
    subst ha
    have K := Lib.hid (sg2_nn (a := 0) (b := b) (by omega) (by omega) (by omega))
    have ca := cmpI_eq 0
    have cb := cmpI_lt hb
    go_enter Try.func45, Try.ntmps45
    go_wp2_with (go_at_call 53; ((with_reducible refine (signOf_any _ _).mono ?_); rintro e w' ⟨rfl, rfl⟩))
    go_ret; exact ⟨by rw [K.out]; rfl, Ext.refl _⟩
  · -- a = 0, b = 0
    subst ha
    subst hb
    have K := Lib.hid (sg2_00)
    have ca := cmpI_eq 0
    go_enter Try.func45, Try.ntmps45
    go_wp2_with (go_at_call 53; ((with_reducible refine (signOf_any _ _).mono ?_); rintro e w' ⟨rfl, rfl⟩))
    go_ret; exact ⟨by rw [K.out]; rfl, Ext.refl _⟩
  · -- a = 0, 0 < b
    subst ha
    have K := Lib.hid (sg2_pp (a := 0) (b := b) (by omega) (by omega) (by omega))
    have ca := cmpI_eq 0
    have cb := cmpI_gt hb
    go_enter Try.func45, Try.ntmps45
    go_wp2_with (go_at_call 53; ((with_reducible refine (signOf_any _ _).mono ?_); rintro e w' ⟨rfl, rfl⟩))
    go_ret; exact ⟨by rw [K.out]; rfl, Ext.refl _⟩
  · have bB : b.natAbs * b.natAbs ≤ 4611686018427387904 * 4611686018427387904 := Nat.mul_le_mul (by omega) (by omega)
    obtain ⟨t1, t2, t3, t4⟩ := twice_parts (b.natAbs * b.natAbs) (by omega)
    obtain ⟨X1, hX1⟩ : ∃ X1 : Nat, X1 = a.natAbs * a.natAbs / 18446744073709551616 := ⟨_, rfl⟩
    obtain ⟨X0, hX0⟩ : ∃ X0 : Nat, X0 = a.natAbs * a.natAbs % 18446744073709551616 := ⟨_, rfl⟩
    have EA := Lib.hid (show tupW (a.natAbs * a.natAbs) = .tuple #[.int .u64 (X1 : Int), .int .u64 (X0 : Int)] from by rw [hX1, hX0]; rfl)
    have L1 := fun h : 2 * (b * b) < a * a => cmp_parts (natSq_lt h)
    have L2 := fun h : ¬ 2 * (b * b) < a * a => cmp_parts (natSq_gt h (by omega))
    rw [← hX1, ← hX0] at L1 L2
    obtain ⟨Y1, hY1⟩ : ∃ Y1 : Nat, Y1 = b.natAbs * b.natAbs / 18446744073709551616 := ⟨_, rfl⟩
    obtain ⟨Y0, hY0⟩ : ∃ Y0 : Nat, Y0 = b.natAbs * b.natAbs % 18446744073709551616 := ⟨_, rfl⟩
    have EB := Lib.hid (show tupW (b.natAbs * b.natAbs) = .tuple #[.int .u64 (Y1 : Int), .int .u64 (Y0 : Int)] from by rw [hY1, hY0]; rfl)
    rw [← hY1] at t1 t3
    rw [← hY0] at t2 t3 t4
    obtain ⟨Z2, hZ2⟩ : ∃ Z2 : Nat, Z2 = Y1 * 2 := ⟨_, rfl⟩
    obtain ⟨Z3, hZ3⟩ : ∃ Z3 : Nat, Z3 = Y0 / 9223372036854775808 := ⟨_, rfl⟩
    obtain ⟨Z1, hZ1⟩ : ∃ Z1 : Nat, Z1 = 2 * (b.natAbs * b.natAbs) / 18446744073709551616 := ⟨_, rfl⟩
    obtain ⟨Z0, hZ0⟩ : ∃ Z0 : Nat, Z0 = 2 * (b.natAbs * b.natAbs) % 18446744073709551616 := ⟨_, rfl⟩
    rw [← hZ1, ← hZ0] at L1 L2
    rw [← hZ1] at t3
    rw [← hZ0] at t4
    rw [← hZ2] at t1 t3
    rw [← hZ3] at t2 t3
    clear hX1 hX0 hY1 hY0 hZ1 hZ0 hZ2 hZ3 bB
    have ca := cmpI_gt ha
    have cb := cmpI_lt hb
    by_cases hc : 2 * (b * b) < a * a
    · have K := Lib.hid (show sg2 a b = 1 from by rw [sg2_pn ha hb, if_pos hc])
      rcases L1 hc with hp | ⟨hp, hq⟩
      all_goals clear L1 L2 hc
      · have e1 : cmpI (X1 : Int) (Z1 : Int) = 1 := cmpI_gt (by omega)
        go_enter Try.func45, Try.ntmps45
        go_wp2_with (first | (go_at_call 53; ((with_reducible refine (signOf_any _ _).mono ?_); rintro e w' ⟨rfl, rfl⟩)) | (go_at_call 55; ((with_reducible refine (size_any a AB _).mono ?_); rintro e w' ⟨rfl, rfl⟩)) | (go_at_call 55; ((with_reducible refine (size_any b BB _).mono ?_); rintro e w' ⟨rfl, rfl⟩)) | ((go_at_call 54; ((with_reducible refine (mul64_any a.natAbs (by omega) _).mono ?_); rintro e w' ⟨rfl, rfl⟩)); rw [EA.out]) | ((go_at_call 54; ((with_reducible refine (mul64_any b.natAbs (by omega) _).mono ?_); rintro e w' ⟨rfl, rfl⟩)); rw [EB.out]) | (go_at_call 57; ((with_reducible refine (cmpU_any (X1 : Int) (Z1 : Int) _).mono ?_); rintro e w' ⟨rfl, rfl⟩)) | (go_at_call 57; ((with_reducible refine (cmpU_any (X0 : Int) (Z0 : Int) _).mono ?_); rintro e w' ⟨rfl, rfl⟩)) | (go_at_call 56; ((with_reducible refine (cmpOr_one 1 _ (by omega) _ _ (Blk.new _ _ _)).mono ?_); rintro e w' ⟨rfl, rfl⟩)))
        go_ret; exact ⟨by rw [K.out]; rfl, Ext.alloc (Ext.refl _) _⟩
      · subst hp
        have e1 := cmpI_eq (X1 : Int)
        have e0 : cmpI (X0 : Int) (Z0 : Int) = 1 := cmpI_gt (by omega)
        go_enter Try.func45, Try.ntmps45
        go_wp2_with (first | (go_at_call 53; ((with_reducible refine (signOf_any _ _).mono ?_); rintro e w' ⟨rfl, rfl⟩)) | (go_at_call 55; ((with_reducible refine (size_any a AB _).mono ?_); rintro e w' ⟨rfl, rfl⟩)) | (go_at_call 55; ((with_reducible refine (size_any b BB _).mono ?_); rintro e w' ⟨rfl, rfl⟩)) | ((go_at_call 54; ((with_reducible refine (mul64_any a.natAbs (by omega) _).mono ?_); rintro e w' ⟨rfl, rfl⟩)); rw [EA.out]) | ((go_at_call 54; ((with_reducible refine (mul64_any b.natAbs (by omega) _).mono ?_); rintro e w' ⟨rfl, rfl⟩)); rw [EB.out]) | (go_at_call 57; ((with_reducible refine (cmpU_any (X1 : Int) (X1 : Int) _).mono ?_); rintro e w' ⟨rfl, rfl⟩)) | (go_at_call 57; ((with_reducible refine (cmpU_any (X0 : Int) (Z0 : Int) _).mono ?_); rintro e w' ⟨rfl, rfl⟩)) | (go_at_call 56; ((with_reducible refine (cmpOr_two 1 (by omega) _ _ (Blk.new _ _ _)).mono ?_); rintro e w' ⟨rfl, rfl⟩)))
        go_ret; exact ⟨by rw [K.out]; rfl, Ext.alloc (Ext.refl _) _⟩
    · have K := Lib.hid (show sg2 a b = -1 from by rw [sg2_pn ha hb, if_neg hc])
      rcases L2 hc with hp | ⟨hp, hq⟩
      all_goals clear L1 L2 hc
      · have e1 : cmpI (X1 : Int) (Z1 : Int) = -1 := cmpI_lt (by omega)
        go_enter Try.func45, Try.ntmps45
        go_wp2_with (first | (go_at_call 53; ((with_reducible refine (signOf_any _ _).mono ?_); rintro e w' ⟨rfl, rfl⟩)) | (go_at_call 55; ((with_reducible refine (size_any a AB _).mono ?_); rintro e w' ⟨rfl, rfl⟩)) | (go_at_call 55; ((with_reducible refine (size_any b BB _).mono ?_); rintro e w' ⟨rfl, rfl⟩)) | ((go_at_call 54; ((with_reducible refine (mul64_any a.natAbs (by omega) _).mono ?_); rintro e w' ⟨rfl, rfl⟩)); rw [EA.out]) | ((go_at_call 54; ((with_reducible refine (mul64_any b.natAbs (by omega) _).mono ?_); rintro e w' ⟨rfl, rfl⟩)); rw [EB.out]) | (go_at_call 57; ((with_reducible refine (cmpU_any (X1 : Int) (Z1 : Int) _).mono ?_); rintro e w' ⟨rfl, rfl⟩)) | (go_at_call 57; ((with_reducible refine (cmpU_any (X0 : Int) (Z0 : Int) _).mono ?_); rintro e w' ⟨rfl, rfl⟩)) | (go_at_call 56; ((with_reducible refine (cmpOr_one (-1) _ (by omega) _ _ (Blk.new _ _ _)).mono ?_); rintro e w' ⟨rfl, rfl⟩)))
        go_ret; exact ⟨by rw [K.out]; rfl, Ext.alloc (Ext.refl _) _⟩
      · subst hp
        have e1 := cmpI_eq (Z1 : Int)
        have e0 : cmpI (X0 : Int) (Z0 : Int) = -1 := cmpI_lt (by omega)
        go_enter Try.func45, Try.ntmps45
        go_wp2_with (first | (go_at_call 53; ((with_reducible refine (signOf_any _ _).mono ?_); rintro e w' ⟨rfl, rfl⟩)) | (go_at_call 55; ((with_reducible refine (size_any a AB _).mono ?_); rintro e w' ⟨rfl, rfl⟩)) | (go_at_call 55; ((with_reducible refine (size_any b BB _).mono ?_); rintro e w' ⟨rfl, rfl⟩)) | ((go_at_call 54; ((with_reducible refine (mul64_any a.natAbs (by omega) _).mono ?_); rintro e w' ⟨rfl, rfl⟩)); rw [EA.out]) | ((go_at_call 54; ((with_reducible refine (mul64_any b.natAbs (by omega) _).mono ?_); rintro e w' ⟨rfl, rfl⟩)); rw [EB.out]) | (go_at_call 57; ((with_reducible refine (cmpU_any (Z1 : Int) (Z1 : Int) _).mono ?_); rintro e w' ⟨rfl, rfl⟩)) | (go_at_call 57; ((with_reducible refine (cmpU_any (X0 : Int) (Z0 : Int) _).mono ?_); rintro e w' ⟨rfl, rfl⟩)) | (go_at_call 56; ((with_reducible refine (cmpOr_two (-1) (by omega) _ _ (Blk.new _ _ _)).mono ?_); rintro e w' ⟨rfl, rfl⟩)))
        go_ret; exact ⟨by rw [K.out]; rfl, Ext.alloc (Ext.refl _) _⟩
  · -- 0 < a, b = 0
    subst hb
    have K := Lib.hid (sg2_pp (a := a) (b := 0) (by omega) (by omega) (by omega))
    have ca := cmpI_gt ha
    have cb := cmpI_eq 0
    go_enter Try.func45, Try.ntmps45
    go_wp2_with (go_at_call 53; ((with_reducible refine (signOf_any _ _).mono ?_); rintro e w' ⟨rfl, rfl⟩))
    go_ret; exact ⟨by rw [K.out]; rfl, Ext.refl _⟩
  · -- 0 < a, 0 < b
    have K := Lib.hid (sg2_pp (a := a) (b := b) (by omega) (by omega) (by omega))
    have ca := cmpI_gt ha
    have cb := cmpI_gt hb
    go_enter Try.func45, Try.ntmps45
    go_wp2_with (go_at_call 53; ((with_reducible refine (signOf_any _ _).mono ?_); rintro e w' ⟨rfl, rfl⟩))
    go_ret; exact ⟨by rw [K.out]; rfl, Ext.refl _⟩

end Go.Proofs.Ythgmgjjjgllbjaa
