/- Texts of small numbers: strconv.Itoa and spec's l6Dec, for 1 to 24. Written by mk_txt.py. -/
import Derived.Test.YtjloobghfggakaaDoorTurn
namespace Go.Proofs.YtjloobghfggakaaDoor
open Go.ChangeShapes Go.WideShapes Go.ChangeAt Go.RowKit
set_option linter.unusedVariables false

/-- the text of a number below 100 -/
def dec (n : Nat) : ByteArray := if n < 10 then ⟨#[UInt8.ofNat (48 + n)]⟩ else ⟨#[UInt8.ofNat (48 + n / 10), UInt8.ofNat (48 + n % 10)]⟩
theorem upto24 {n : Nat} (h1 : 1 ≤ n) (h2 : n ≤ 24) : n = 1 ∨ n = 2 ∨ n = 3 ∨ n = 4 ∨ n = 5 ∨ n = 6 ∨ n = 7 ∨ n = 8 ∨ n = 9 ∨ n = 10 ∨ n = 11 ∨ n = 12 ∨ n = 13 ∨ n = 14 ∨ n = 15 ∨ n = 16 ∨ n = 17 ∨ n = 18 ∨ n = 19 ∨ n = 20 ∨ n = 21 ∨ n = 22 ∨ n = 23 ∨ n = 24 := by omega
set_option maxRecDepth 100000 in
set_option maxHeartbeats 2000000 in
theorem small_any (n : Nat) (h1 : 1 ≤ n) (h2 : n ≤ 24) (w : World) : Calls Tryd.prog 30 #[.int .i64 (n : Int)] w fun e w' => e = .returned (.string (dec n)) ∧ w = w' := by
  obtain rfl | rfl | rfl | rfl | rfl | rfl | rfl | rfl | rfl | rfl | rfl | rfl | rfl | rfl | rfl | rfl | rfl | rfl | rfl | rfl | rfl | rfl | rfl | rfl := upto24 h1 h2
  all_goals
    go_enter Tryd.func30, Tryd.ntmps30
    go_wp2
    go_ret
    exact ⟨by kernel_rfl, rfl⟩

theorem formatInt_any (n : Nat) (h1 : 1 ≤ n) (h2 : n ≤ 24) (w : World) : Calls Tryd.prog 29 #[.int .i64 (n : Int), .int .i64 10] w fun e w' => e = .returned (.string (dec n)) ∧ w = w' := by
  go_enter Tryd.func29, Tryd.ntmps29
  go_wp2_with (go_at_call 30; ((with_reducible refine (small_any n h1 h2 _).mono ?_); rintro e w' ⟨rfl, rfl⟩))
  go_ret
  exact ⟨rfl, rfl⟩
theorem itoaI_any (n : Nat) (h1 : 1 ≤ n) (h2 : n ≤ 24) (w : World) : Calls Tryd.prog 28 #[.int .i64 (n : Int)] w fun e w' => e = .returned (.string (dec n)) ∧ w = w' := by
  go_enter Tryd.func28, Tryd.ntmps28
  go_wp2_with (go_at_call 29; ((with_reducible refine (formatInt_any n h1 h2 _).mono ?_); rintro e w' ⟨rfl, rfl⟩))
  go_ret
  exact ⟨rfl, rfl⟩
theorem itoa_any (n : Nat) (h1 : 1 ≤ n) (h2 : n ≤ 24) (w : World) : Calls Tryd.prog 27 #[.int .i64 (n : Int)] w fun e w' => e = .returned (.string (dec n)) ∧ w = w' := by
  go_enter Tryd.func27, Tryd.ntmps27
  go_wp2_with (go_at_call 28; ((with_reducible refine (itoaI_any n h1 h2 _).mono ?_); rintro e w' ⟨rfl, rfl⟩))
  go_ret
  exact ⟨rfl, rfl⟩

end Go.Proofs.YtjloobghfggakaaDoor
