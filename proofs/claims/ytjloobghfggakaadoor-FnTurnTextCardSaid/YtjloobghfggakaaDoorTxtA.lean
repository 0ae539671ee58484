/- Texts of turns, impl: (turn).text, 1 to 8. Written by mk_txtt.py. -/
import Derived.Test.YtjloobghfggakaaDoorTxtC
namespace Go.Proofs.YtjloobghfggakaaDoor
open Go.ChangeShapes Go.WideShapes Go.ChangeAt Go.RowKit
set_option linter.unusedVariables false

set_option maxRecDepth 100000 in
set_option maxHeartbeats 2000000 in
theorem text_1 (w : World) : Calls Tryd.prog 25 #[.int .i64 (1 : Nat)] w fun e w' => e = .returned (.string (dec 1 ++ slash ++ dec 24)) ∧ Ext w w' := by
  have hz1 : IntKind.i64.wrap 1 = 1 := rfl
  have hy1 := Lib.hid (show (1 : Int) = ((1 : Nat) : Int) from rfl)
  have hz24 : IntKind.i64.wrap 24 = 24 := rfl
  have hy24 := Lib.hid (show (24 : Int) = ((24 : Nat) : Int) from rfl)
  go_enter Tryd.func25, Tryd.ntmps25
  go_wp2_with fail
  refine (divisor_any 1 24 _ (by omega) (by omega)).mono ?_
  rw [show Nat.gcd 1 24 = 1 from by decide]
  rintro e w1 ⟨rfl, x1⟩
  go_wp2_with fail
  go_region_with (first | (go_at_call 27; ((with_reducible refine (itoaW_any 1 1 (by omega) (by omega) hy1.out _).mono ?_); rintro e w' ⟨rfl, rfl⟩)) | (go_at_call 27; ((with_reducible refine (itoaW_any 24 24 (by omega) (by omega) hy24.out _).mono ?_); rintro e w' ⟨rfl, rfl⟩)))
  all_goals go_wp2
  all_goals (go_ret; exact ⟨by kernel_rfl, by first | exact x1.drew | exact x1⟩)

set_option maxRecDepth 100000 in
set_option maxHeartbeats 2000000 in
theorem text_2 (w : World) : Calls Tryd.prog 25 #[.int .i64 (2 : Nat)] w fun e w' => e = .returned (.string (dec 1 ++ slash ++ dec 12)) ∧ Ext w w' := by
  have hz1 : IntKind.i64.wrap 1 = 1 := rfl
  have hy1 := Lib.hid (show (1 : Int) = ((1 : Nat) : Int) from rfl)
  have hz12 : IntKind.i64.wrap 12 = 12 := rfl
  have hy12 := Lib.hid (show (12 : Int) = ((12 : Nat) : Int) from rfl)
  go_enter Tryd.func25, Tryd.ntmps25
  go_wp2_with fail
  refine (divisor_any 2 24 _ (by omega) (by omega)).mono ?_
  rw [show Nat.gcd 2 24 = 2 from by decide]
  rintro e w1 ⟨rfl, x1⟩
  go_wp2_with fail
  go_region_with (first | (go_at_call 27; ((with_reducible refine (itoaW_any 1 1 (by omega) (by omega) hy1.out _).mono ?_); rintro e w' ⟨rfl, rfl⟩)) | (go_at_call 27; ((with_reducible refine (itoaW_any 12 12 (by omega) (by omega) hy12.out _).mono ?_); rintro e w' ⟨rfl, rfl⟩)))
  all_goals go_wp2
  all_goals (go_ret; exact ⟨by kernel_rfl, by first | exact x1.drew | exact x1⟩)

set_option maxRecDepth 100000 in
set_option maxHeartbeats 2000000 in
theorem text_3 (w : World) : Calls Tryd.prog 25 #[.int .i64 (3 : Nat)] w fun e w' => e = .returned (.string (dec 1 ++ slash ++ dec 8)) ∧ Ext w w' := by
  have hz1 : IntKind.i64.wrap 1 = 1 := rfl
  have hy1 := Lib.hid (show (1 : Int) = ((1 : Nat) : Int) from rfl)
  have hz8 : IntKind.i64.wrap 8 = 8 := rfl
  have hy8 := Lib.hid (show (8 : Int) = ((8 : Nat) : Int) from rfl)
  go_enter Tryd.func25, Tryd.ntmps25
  go_wp2_with fail
  refine (divisor_any 3 24 _ (by omega) (by omega)).mono ?_
  rw [show Nat.gcd 3 24 = 3 from by decide]
  rintro e w1 ⟨rfl, x1⟩
  go_wp2_with fail
  go_region_with (first | (go_at_call 27; ((with_reducible refine (itoaW_any 1 1 (by omega) (by omega) hy1.out _).mono ?_); rintro e w' ⟨rfl, rfl⟩)) | (go_at_call 27; ((with_reducible refine (itoaW_any 8 8 (by omega) (by omega) hy8.out _).mono ?_); rintro e w' ⟨rfl, rfl⟩)))
  all_goals go_wp2
  all_goals (go_ret; exact ⟨by kernel_rfl, by first | exact x1.drew | exact x1⟩)

set_option maxRecDepth 100000 in
set_option maxHeartbeats 2000000 in
theorem text_4 (w : World) : Calls Tryd.prog 25 #[.int .i64 (4 : Nat)] w fun e w' => e = .returned (.string (dec 1 ++ slash ++ dec 6)) ∧ Ext w w' := by
  have hz1 : IntKind.i64.wrap 1 = 1 := rfl
  have hy1 := Lib.hid (show (1 : Int) = ((1 : Nat) : Int) from rfl)
  have hz6 : IntKind.i64.wrap 6 = 6 := rfl
  have hy6 := Lib.hid (show (6 : Int) = ((6 : Nat) : Int) from rfl)
  go_enter Tryd.func25, Tryd.ntmps25
  go_wp2_with fail
  refine (divisor_any 4 24 _ (by omega) (by omega)).mono ?_
  rw [show Nat.gcd 4 24 = 4 from by decide]
  rintro e w1 ⟨rfl, x1⟩
  go_wp2_with fail
  go_region_with (first | (go_at_call 27; ((with_reducible refine (itoaW_any 1 1 (by omega) (by omega) hy1.out _).mono ?_); rintro e w' ⟨rfl, rfl⟩)) | (go_at_call 27; ((with_reducible refine (itoaW_any 6 6 (by omega) (by omega) hy6.out _).mono ?_); rintro e w' ⟨rfl, rfl⟩)))
  all_goals go_wp2
  all_goals (go_ret; exact ⟨by kernel_rfl, by first | exact x1.drew | exact x1⟩)

set_option maxRecDepth 100000 in
set_option maxHeartbeats 2000000 in
theorem text_5 (w : World) : Calls Tryd.prog 25 #[.int .i64 (5 : Nat)] w fun e w' => e = .returned (.string (dec 5 ++ slash ++ dec 24)) ∧ Ext w w' := by
  have hz5 : IntKind.i64.wrap 5 = 5 := rfl
  have hy5 := Lib.hid (show (5 : Int) = ((5 : Nat) : Int) from rfl)
  have hz24 : IntKind.i64.wrap 24 = 24 := rfl
  have hy24 := Lib.hid (show (24 : Int) = ((24 : Nat) : Int) from rfl)
  go_enter Tryd.func25, Tryd.ntmps25
  go_wp2_with fail
  refine (divisor_any 5 24 _ (by omega) (by omega)).mono ?_
  rw [show Nat.gcd 5 24 = 1 from by decide]
  rintro e w1 ⟨rfl, x1⟩
  go_wp2_with fail
  go_region_with (first | (go_at_call 27; ((with_reducible refine (itoaW_any 5 5 (by omega) (by omega) hy5.out _).mono ?_); rintro e w' ⟨rfl, rfl⟩)) | (go_at_call 27; ((with_reducible refine (itoaW_any 24 24 (by omega) (by omega) hy24.out _).mono ?_); rintro e w' ⟨rfl, rfl⟩)))
  all_goals go_wp2
  all_goals (go_ret; exact ⟨by kernel_rfl, by first | exact x1.drew | exact x1⟩)

set_option maxRecDepth 100000 in
set_option maxHeartbeats 2000000 in
theorem text_6 (w : World) : Calls Tryd.prog 25 #[.int .i64 (6 : Nat)] w fun e w' => e = .returned (.string (dec 1 ++ slash ++ dec 4)) ∧ Ext w w' := by
  have hz1 : IntKind.i64.wrap 1 = 1 := rfl
  have hy1 := Lib.hid (show (1 : Int) = ((1 : Nat) : Int) from rfl)
  have hz4 : IntKind.i64.wrap 4 = 4 := rfl
  have hy4 := Lib.hid (show (4 : Int) = ((4 : Nat) : Int) from rfl)
  go_enter Tryd.func25, Tryd.ntmps25
  go_wp2_with fail
  refine (divisor_any 6 24 _ (by omega) (by omega)).mono ?_
  rw [show Nat.gcd 6 24 = 6 from by decide]
  rintro e w1 ⟨rfl, x1⟩
  go_wp2_with fail
  go_region_with (first | (go_at_call 27; ((with_reducible refine (itoaW_any 1 1 (by omega) (by omega) hy1.out _).mono ?_); rintro e w' ⟨rfl, rfl⟩)) | (go_at_call 27; ((with_reducible refine (itoaW_any 4 4 (by omega) (by omega) hy4.out _).mono ?_); rintro e w' ⟨rfl, rfl⟩)))
  all_goals go_wp2
  all_goals (go_ret; exact ⟨by kernel_rfl, by first | exact x1.drew | exact x1⟩)

set_option maxRecDepth 100000 in
set_option maxHeartbeats 2000000 in
theorem text_7 (w : World) : Calls Tryd.prog 25 #[.int .i64 (7 : Nat)] w fun e w' => e = .returned (.string (dec 7 ++ slash ++ dec 24)) ∧ Ext w w' := by
  have hz7 : IntKind.i64.wrap 7 = 7 := rfl
  have hy7 := Lib.hid (show (7 : Int) = ((7 : Nat) : Int) from rfl)
  have hz24 : IntKind.i64.wrap 24 = 24 := rfl
  have hy24 := Lib.hid (show (24 : Int) = ((24 : Nat) : Int) from rfl)
  go_enter Tryd.func25, Tryd.ntmps25
  go_wp2_with fail
  refine (divisor_any 7 24 _ (by omega) (by omega)).mono ?_
  rw [show Nat.gcd 7 24 = 1 from by decide]
  rintro e w1 ⟨rfl, x1⟩
  go_wp2_with fail
  go_region_with (first | (go_at_call 27; ((with_reducible refine (itoaW_any 7 7 (by omega) (by omega) hy7.out _).mono ?_); rintro e w' ⟨rfl, rfl⟩)) | (go_at_call 27; ((with_reducible refine (itoaW_any 24 24 (by omega) (by omega) hy24.out _).mono ?_); rintro e w' ⟨rfl, rfl⟩)))
  all_goals go_wp2
  all_goals (go_ret; exact ⟨by kernel_rfl, by first | exact x1.drew | exact x1⟩)

set_option maxRecDepth 100000 in
set_option maxHeartbeats 2000000 in
theorem text_8 (w : World) : Calls Tryd.prog 25 #[.int .i64 (8 : Nat)] w fun e w' => e = .returned (.string (dec 1 ++ slash ++ dec 3)) ∧ Ext w w' := by
  have hz1 : IntKind.i64.wrap 1 = 1 := rfl
  have hy1 := Lib.hid (show (1 : Int) = ((1 : Nat) : Int) from rfl)
  have hz3 : IntKind.i64.wrap 3 = 3 := rfl
  have hy3 := Lib.hid (show (3 : Int) = ((3 : Nat) : Int) from rfl)
  go_enter Tryd.func25, Tryd.ntmps25
  go_wp2_with fail
  refine (divisor_any 8 24 _ (by omega) (by omega)).mono ?_
  rw [show Nat.gcd 8 24 = 8 from by decide]
  rintro e w1 ⟨rfl, x1⟩
  go_wp2_with fail
  go_region_with (first | (go_at_call 27; ((with_reducible refine (itoaW_any 1 1 (by omega) (by omega) hy1.out _).mono ?_); rintro e w' ⟨rfl, rfl⟩)) | (go_at_call 27; ((with_reducible refine (itoaW_any 3 3 (by omega) (by omega) hy3.out _).mono ?_); rintro e w' ⟨rfl, rfl⟩)))
  all_goals go_wp2
  all_goals (go_ret; exact ⟨by kernel_rfl, by first | exact x1.drew | exact x1⟩)

end Go.Proofs.YtjloobghfggakaaDoor
