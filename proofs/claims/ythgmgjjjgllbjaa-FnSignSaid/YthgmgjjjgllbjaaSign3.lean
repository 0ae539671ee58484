/- Signs of surds (chapter 3): the signs of whole surds. Written by mk_sign3.py. -/
import Derived.Test.YthgmgjjjgllbjaaSign2
import Derived.Deep.RegionHeld3
import Derived.Deep.DeepCutAuto
namespace Go.Proofs.Ythgmgjjjgllbjaa
open Go.ChangeShapes Go.WideShapes Go.ChangeAt Go.RowKit
set_option linter.unusedVariables false

theorem mul_abs {x y : Int} {m n : Nat} (hx : x.natAbs ≤ m) (hy : y.natAbs ≤ n) : (x * y).natAbs ≤ m * n := by rw [Int.natAbs_mul]; exact Nat.mul_le_mul hx hy
theorem sq_nn (x : Int) : 0 ≤ x * x := by have := Int.natAbs_mul_self (a := x); omega
/-- the numbers behind a sign are small -/
theorem sign_bd {a b c d : Int} (ha : -1100000000 ≤ a ∧ a ≤ 1100000000) (hb : -20000000 ≤ b ∧ b ≤ 20000000) (hc : -20000000 ≤ c ∧ c ≤ 20000000) (hd : -20000000 ≤ d ∧ d ≤ 20000000) :
    (0 ≤ a * a ∧ a * a ≤ 1210000000000000000) ∧ (0 ≤ 2 * b * b ∧ 2 * b * b ≤ 800000000000000) ∧ (0 ≤ 3 * c * c ∧ 3 * c * c ≤ 1200000000000000) ∧ (0 ≤ 6 * d * d ∧ 6 * d * d ≤ 2400000000000000)
    ∧ (-44000000000000000 ≤ 2 * a * b ∧ 2 * a * b ≤ 44000000000000000) ∧ (-2400000000000000 ≤ 6 * c * d ∧ 6 * c * d ≤ 2400000000000000) := by
  have h1 := mul_abs (x := a) (y := a) (m := 1100000000) (n := 1100000000) (by omega) (by omega)
  have h2 := mul_abs (x := 2 * b) (y := b) (m := 40000000) (n := 20000000) (by omega) (by omega)
  have h3 := mul_abs (x := 3 * c) (y := c) (m := 60000000) (n := 20000000) (by omega) (by omega)
  have h4 := mul_abs (x := 6 * d) (y := d) (m := 120000000) (n := 20000000) (by omega) (by omega)
  have h5 := mul_abs (x := 2 * a) (y := b) (m := 2200000000) (n := 20000000) (by omega) (by omega)
  have h6 := mul_abs (x := 6 * c) (y := d) (m := 120000000) (n := 20000000) (by omega) (by omega)
  have q1 : 0 ≤ a * a := sq_nn a
  have q2 : 0 ≤ 2 * b * b := by have := sq_nn b; rw [Int.mul_assoc]; omega
  have q3 : 0 ≤ 3 * c * c := by have := sq_nn c; rw [Int.mul_assoc]; omega
  have q4 : 0 ≤ 6 * d * d := by have := sq_nn d; rw [Int.mul_assoc]; omega
  refine ⟨⟨q1, by omega⟩, ⟨q2, by omega⟩, ⟨q3, by omega⟩, ⟨q4, by omega⟩, by omega, by omega⟩

set_option maxHeartbeats 4000000 in
theorem l3Sign_any (a b c d : Int) (ha : -1100000000 ≤ a ∧ a ≤ 1100000000) (hb : -20000000 ≤ b ∧ b ≤ 20000000) (hc : -20000000 ≤ c ∧ c ≤ 20000000) (hd : -20000000 ≤ d ∧ d ≤ 20000000) (w : World) : Calls Try.prog 28 #[surdV a b c d] w fun e w' => e = .returned (.int .i64 (sg3 a b c d)) ∧ Ext w w' := by
  obtain ⟨⟨m1, m2⟩, ⟨m3, m4⟩, ⟨m5, m6⟩, ⟨m7, m8⟩, ⟨m9, m10⟩, ⟨m11, m12⟩⟩ := sign_bd ha hb hc hd
  have HA := ha
  have HB := hb
  have HC := hc
  have HD := hd
  obtain ⟨a1, a2⟩ := ha
  obtain ⟨b1, b2⟩ := hb
  obtain ⟨c1, c2⟩ := hc
  obtain ⟨d1, d2⟩ := hd
  rcases sg2_range a b with hp | hp | hp <;> rcases sg2_range c d with hq | hq | hq
  · have K := Lib.hid (show sg3 a b c d = -1 from by unfold sg3; rw [hp, hq]; rfl)
    go_enter Try.func28, Try.ntmps28
    go_wp2_with ((go_at_call 43; ((with_reducible refine (l3Two_any _ _ (by omega) (by omega) _).mono ?_); rintro e w' ⟨rfl, rfl⟩)))
    go_ret; exact ⟨by rw [K.out]; rfl, by repeat (first | exact Ext.refl _ | assumption | refine Ext.drew ?_ | refine Ext.alloc ?_ _ | refine Ext.trans ?_ (by assumption))⟩
  · have K := Lib.hid (show sg3 a b c d = -1 from by unfold sg3; rw [hp, hq]; rfl)
    go_enter Try.func28, Try.ntmps28
    go_wp2_with ((go_at_call 43; ((with_reducible refine (l3Two_any _ _ (by omega) (by omega) _).mono ?_); rintro e w' ⟨rfl, rfl⟩)))
    go_ret; exact ⟨by rw [K.out]; rfl, by repeat (first | exact Ext.refl _ | assumption | refine Ext.drew ?_ | refine Ext.alloc ?_ _ | refine Ext.trans ?_ (by assumption))⟩
  · rcases sg2_range (a * a + 2 * b * b - 3 * c * c - 6 * d * d) (2 * a * b - 6 * c * d) with hs | hs | hs
    · have K := Lib.hid (show sg3 a b c d = 1 from by unfold sg3; rw [hp, hq, hs]; rfl)
      go_enter Try.func28, Try.ntmps28
      go_wp2_with ((go_at_call 43; ((with_reducible refine (l3Two_any _ _ (by omega) (by omega) _).mono ?_); rintro e w' ⟨rfl, rfl⟩)))
      go_ret; exact ⟨by rw [K.out]; rfl, by repeat (first | exact Ext.refl _ | assumption | refine Ext.drew ?_ | refine Ext.alloc ?_ _ | refine Ext.trans ?_ (by assumption))⟩
    · have K := Lib.hid (show sg3 a b c d = 0 from by unfold sg3; rw [hp, hq, hs]; rfl)
      go_enter Try.func28, Try.ntmps28
      go_wp2_with ((go_at_call 43; ((with_reducible refine (l3Two_any _ _ (by omega) (by omega) _).mono ?_); rintro e w' ⟨rfl, rfl⟩)))
      go_ret; exact ⟨by rw [K.out]; rfl, by repeat (first | exact Ext.refl _ | assumption | refine Ext.drew ?_ | refine Ext.alloc ?_ _ | refine Ext.trans ?_ (by assumption))⟩
    · have K := Lib.hid (show sg3 a b c d = -1 from by unfold sg3; rw [hp, hq, hs]; rfl)
      go_enter Try.func28, Try.ntmps28
      go_wp2_with ((go_at_call 43; ((with_reducible refine (l3Two_any _ _ (by omega) (by omega) _).mono ?_); rintro e w' ⟨rfl, rfl⟩)))
      go_ret; exact ⟨by rw [K.out]; rfl, by repeat (first | exact Ext.refl _ | assumption | refine Ext.drew ?_ | refine Ext.alloc ?_ _ | refine Ext.trans ?_ (by assumption))⟩
  · have K := Lib.hid (show sg3 a b c d = -1 from by unfold sg3; rw [hp, hq]; rfl)
    go_enter Try.func28, Try.ntmps28
    go_wp2_with ((go_at_call 43; ((with_reducible refine (l3Two_any _ _ (by omega) (by omega) _).mono ?_); rintro e w' ⟨rfl, rfl⟩)))
    go_ret; exact ⟨by rw [K.out]; rfl, by repeat (first | exact Ext.refl _ | assumption | refine Ext.drew ?_ | refine Ext.alloc ?_ _ | refine Ext.trans ?_ (by assumption))⟩
  · have K := Lib.hid (show sg3 a b c d = 0 from by unfold sg3; rw [hp, hq]; rfl)
    go_enter Try.func28, Try.ntmps28
    go_wp2_with ((go_at_call 43; ((with_reducible refine (l3Two_any _ _ (by omega) (by omega) _).mono ?_); rintro e w' ⟨rfl, rfl⟩)))
    go_ret; exact ⟨by rw [K.out]; rfl, by repeat (first | exact Ext.refl _ | assumption | refine Ext.drew ?_ | refine Ext.alloc ?_ _ | refine Ext.trans ?_ (by assumption))⟩
  · have K := Lib.hid (show sg3 a b c d = 1 from by unfold sg3; rw [hp, hq]; rfl)
    go_enter Try.func28, Try.ntmps28
    go_wp2_with ((go_at_call 43; ((with_reducible refine (l3Two_any _ _ (by omega) (by omega) _).mono ?_); rintro e w' ⟨rfl, rfl⟩)))
    go_ret; exact ⟨by rw [K.out]; rfl, by repeat (first | exact Ext.refl _ | assumption | refine Ext.drew ?_ | refine Ext.alloc ?_ _ | refine Ext.trans ?_ (by assumption))⟩
  · rcases sg2_range (a * a + 2 * b * b - 3 * c * c - 6 * d * d) (2 * a * b - 6 * c * d) with hs | hs | hs
    · have K := Lib.hid (show sg3 a b c d = -1 from by unfold sg3; rw [hp, hq, hs]; rfl)
      go_enter Try.func28, Try.ntmps28
      go_wp2_with ((go_at_call 43; ((with_reducible refine (l3Two_any _ _ (by omega) (by omega) _).mono ?_); rintro e w' ⟨rfl, rfl⟩)))
      go_ret; exact ⟨by rw [K.out]; rfl, by repeat (first | exact Ext.refl _ | assumption | refine Ext.drew ?_ | refine Ext.alloc ?_ _ | refine Ext.trans ?_ (by assumption))⟩
    · have K := Lib.hid (show sg3 a b c d = 0 from by unfold sg3; rw [hp, hq, hs]; rfl)
      go_enter Try.func28, Try.ntmps28
      go_wp2_with ((go_at_call 43; ((with_reducible refine (l3Two_any _ _ (by omega) (by omega) _).mono ?_); rintro e w' ⟨rfl, rfl⟩)))
      go_ret; exact ⟨by rw [K.out]; rfl, by repeat (first | exact Ext.refl _ | assumption | refine Ext.drew ?_ | refine Ext.alloc ?_ _ | refine Ext.trans ?_ (by assumption))⟩
    · have K := Lib.hid (show sg3 a b c d = 1 from by unfold sg3; rw [hp, hq, hs]; rfl)
      go_enter Try.func28, Try.ntmps28
      go_wp2_with ((go_at_call 43; ((with_reducible refine (l3Two_any _ _ (by omega) (by omega) _).mono ?_); rintro e w' ⟨rfl, rfl⟩)))
      go_ret; exact ⟨by rw [K.out]; rfl, by repeat (first | exact Ext.refl _ | assumption | refine Ext.drew ?_ | refine Ext.alloc ?_ _ | refine Ext.trans ?_ (by assumption))⟩
  · have K := Lib.hid (show sg3 a b c d = 1 from by unfold sg3; rw [hp, hq]; rfl)
    go_enter Try.func28, Try.ntmps28
    go_wp2_with ((go_at_call 43; ((with_reducible refine (l3Two_any _ _ (by omega) (by omega) _).mono ?_); rintro e w' ⟨rfl, rfl⟩)))
    go_ret; exact ⟨by rw [K.out]; rfl, by repeat (first | exact Ext.refl _ | assumption | refine Ext.drew ?_ | refine Ext.alloc ?_ _ | refine Ext.trans ?_ (by assumption))⟩
  · have K := Lib.hid (show sg3 a b c d = 1 from by unfold sg3; rw [hp, hq]; rfl)
    go_enter Try.func28, Try.ntmps28
    go_wp2_with ((go_at_call 43; ((with_reducible refine (l3Two_any _ _ (by omega) (by omega) _).mono ?_); rintro e w' ⟨rfl, rfl⟩)))
    go_ret; exact ⟨by rw [K.out]; rfl, by repeat (first | exact Ext.refl _ | assumption | refine Ext.drew ?_ | refine Ext.alloc ?_ _ | refine Ext.trans ?_ (by assumption))⟩

end Go.Proofs.Ythgmgjjjgllbjaa
