/- Texts of turns, impl: (turn).text, 17 to 23. Written by mk_txtt.py. -/
import Derived.Test.YtjloobghfggakaaDoorTxtC
namespace Go.Proofs.YtjloobghfggakaaDoor
open Go.ChangeShapes Go.WideShapes Go.ChangeAt Go.RowKit
set_option linter.unusedVariables false

set_option maxRecDepth 100000 in
set_option maxHeartbeats 2000000 in
theorem text_17 (w : World) : Calls Tryd.prog 25 #[.int .i64 (17 : Nat)] w fun e w' => e = .returned (.string (dec 17 ++ slash ++ dec 24)) ∧ Ext w w' := by
  have hz17 : IntKind.i64.wrap 17 = 17 := rfl
  have hy17 := Lib.hid (show (17 : Int) = ((17 : Nat) : Int) from rfl)
  have hz24 : IntKind.i64.wrap 24 = 24 := rfl
  have hy24 := Lib.hid (show (24 : Int) = ((24 : Nat) : Int) from rfl)
  go_enter Tryd.func25, Tryd.ntmps25
  go_wp2_with fail
  refine (divisor_any 17 24 _ (by omega) (by omega)).mono ?_
  rw [show Nat.gcd 17 24 = 1 from by decide]
  rintro e w1 ⟨rfl, x1⟩
  go_wp2_with fail
  go_region_with (first | (go_at_call 27; ((with_reducible refine (itoaW_any 17 17 (by omega) (by omega) hy17.out _).mono ?_); rintro e w' ⟨rfl, rfl⟩)) | (go_at_call 27; ((with_reducible refine (itoaW_any 24 24 (by omega) (by omega) hy24.out _).mono ?_); rintro e w' ⟨rfl, rfl⟩)))
  all_goals go_wp2
  all_goals (go_ret; exact ⟨by kernel_rfl, by first | exact x1.drew | exact x1⟩)

set_option maxRecDepth 100000 in
set_option maxHeartbeats 2000000 in
theorem text_18 (w : World) : Calls Tryd.prog 25 #[.int .i64 (18 : Nat)] w fun e w' => e = .returned (.string (dec 3 ++ slash ++ dec 4)) ∧ Ext w w' := by
  have hz3 : IntKind.i64.wrap 3 = 3 := rfl
  have hy3 := Lib.hid (show (3 : Int) = ((3 : Nat) : Int) from rfl)
  have hz4 : IntKind.i64.wrap 4 = 4 := rfl
  have hy4 := Lib.hid (show (4 : Int) = ((4 : Nat) : Int) from rfl)
  go_enter Tryd.func25, Tryd.ntmps25
  go_wp2_with fail
  refine (divisor_any 18 24 _ (by omega) (by omega)).mono ?_
  rw [show Nat.gcd 18 24 = 6 from by decide]
  rintro e w1 ⟨rfl, x1⟩
  go_wp2_with fail
  go_region_with (first | (go_at_call 27; ((with_reducible refine (itoaW_any 3 3 (by omega) (by omega) hy3.out _).mono ?_); rintro e w' ⟨rfl, rfl⟩)) | (go_at_call 27; ((with_reducible refine (itoaW_any 4 4 (by omega) (by omega) hy4.out _).mono ?_); rintro e w' ⟨rfl, rfl⟩)))
  all_goals go_wp2
  all_goals (go_ret; exact ⟨by kernel_rfl, by first | exact x1.drew | exact x1⟩)

set_option maxRecDepth 100000 in
set_option maxHeartbeats 2000000 in
theorem text_19 (w : World) : Calls Tryd.prog 25 #[.int .i64 (19 : Nat)] w fun e w' => e = .returned (.string (dec 19 ++ slash ++ dec 24)) ∧ Ext w w' := by
  have hz19 : IntKind.i64.wrap 19 = 19 := rfl
  have hy19 := Lib.hid (show (19 : Int) = ((19 : Nat) : Int) from rfl)
  have hz24 : IntKind.i64.wrap 24 = 24 := rfl
  have hy24 := Lib.hid (show (24 : Int) = ((24 : Nat) : Int) from rfl)
  go_enter Tryd.func25, Tryd.ntmps25
  go_wp2_with fail
  refine (divisor_any 19 24 _ (by omega) (by omega)).mono ?_
  rw [show Nat.gcd 19 24 = 1 from by decide]
  rintro e w1 ⟨rfl, x1⟩
  go_wp2_with fail
  go_region_with (first | (go_at_call 27; ((with_reducible refine (itoaW_any 19 19 (by omega) (by omega) hy19.out _).mono ?_); rintro e w' ⟨rfl, rfl⟩)) | (go_at_call 27; ((with_reducible refine (itoaW_any 24 24 (by omega) (by omega) hy24.out _).mono ?_); rintro e w' ⟨rfl, rfl⟩)))
  all_goals go_wp2
  all_goals (go_ret; exact ⟨by kernel_rfl, by first | exact x1.drew | exact x1⟩)

set_option maxRecDepth 100000 in
set_option maxHeartbeats 2000000 in
theorem text_20 (w : World) : Calls Tryd.prog 25 #[.int .i64 (20 : Nat)] w fun e w' => e = .returned (.string (dec 5 ++ slash ++ dec 6)) ∧ Ext w w' := by
  have hz5 : IntKind.i64.wrap 5 = 5 := rfl
  have hy5 := Lib.hid (show (5 : Int) = ((5 : Nat) : Int) from rfl)
  have hz6 : IntKind.i64.wrap 6 = 6 := rfl
  have hy6 := Lib.hid (show (6 : Int) = ((6 : Nat) : Int) from rfl)
  go_enter Tryd.func25, Tryd.ntmps25
  go_wp2_with fail
  refine (divisor_any 20 24 _ (by omega) (by omega)).mono ?_
  rw [show Nat.gcd 20 24 = 4 from by decide]
  rintro e w1 ⟨rfl, x1⟩
  go_wp2_with fail
  go_region_with (first | (go_at_call 27; ((with_reducible refine (itoaW_any 5 5 (by omega) (by omega) hy5.out _).mono ?_); rintro e w' ⟨rfl, rfl⟩)) | (go_at_call 27; ((with_reducible refine (itoaW_any 6 6 (by omega) (by omega) hy6.out _).mono ?_); rintro e w' ⟨rfl, rfl⟩)))
  all_goals go_wp2
  all_goals (go_ret; exact ⟨by kernel_rfl, by first | exact x1.drew | exact x1⟩)

set_option maxRecDepth 100000 in
set_option maxHeartbeats 2000000 in
theorem text_21 (w : World) : Calls Tryd.prog 25 #[.int .i64 (21 : Nat)] w fun e w' => e = .returned (.string (dec 7 ++ slash ++ dec 8)) ∧ Ext w w' := by
  have hz7 : IntKind.i64.wrap 7 = 7 := rfl
  have hy7 := Lib.hid (show (7 : Int) = ((7 : Nat) : Int) from rfl)
  have hz8 : IntKind.i64.wrap 8 = 8 := rfl
  have hy8 := Lib.hid (show (8 : Int) = ((8 : Nat) : Int) from rfl)
  go_enter Tryd.func25, Tryd.ntmps25
  go_wp2_with fail
  refine (divisor_any 21 24 _ (by omega) (by omega)).mono ?_
  rw [show Nat.gcd 21 24 = 3 from by decide]
  rintro e w1 ⟨rfl, x1⟩
  go_wp2_with fail
  go_region_with (first | (go_at_call 27; ((with_reducible refine (itoaW_any 7 7 (by omega) (by omega) hy7.out _).mono ?_); rintro e w' ⟨rfl, rfl⟩)) | (go_at_call 27; ((with_reducible refine (itoaW_any 8 8 (by omega) (by omega) hy8.out _).mono ?_); rintro e w' ⟨rfl, rfl⟩)))
  all_goals go_wp2
  all_goals (go_ret; exact ⟨by kernel_rfl, by first | exact x1.drew | exact x1⟩)

set_option maxRecDepth 100000 in
set_option maxHeartbeats 2000000 in
theorem text_22 (w : World) : Calls Tryd.prog 25 #[.int .i64 (22 : Nat)] w fun e w' => e = .returned (.string (dec 11 ++ slash ++ dec 12)) ∧ Ext w w' := by
  have hz11 : IntKind.i64.wrap 11 = 11 := rfl
  have hy11 := Lib.hid (show (11 : Int) = ((11 : Nat) : Int) from rfl)
  have hz12 : IntKind.i64.wrap 12 = 12 := rfl
  have hy12 := Lib.hid (show (12 : Int) = ((12 : Nat) : Int) from rfl)
  go_enter Tryd.func25, Tryd.ntmps25
  go_wp2_with fail
  refine (divisor_any 22 24 _ (by omega) (by omega)).mono ?_
  rw [show Nat.gcd 22 24 = 2 from by decide]
  rintro e w1 ⟨rfl, x1⟩
  go_wp2_with fail
  go_region_with (first | (go_at_call 27; ((with_reducible refine (itoaW_any 11 11 (by omega) (by omega) hy11.out _).mono ?_); rintro e w' ⟨rfl, rfl⟩)) | (go_at_call 27; ((with_reducible refine (itoaW_any 12 12 (by omega) (by omega) hy12.out _).mono ?_); rintro e w' ⟨rfl, rfl⟩)))
  all_goals go_wp2
  all_goals (go_ret; exact ⟨by kernel_rfl, by first | exact x1.drew | exact x1⟩)

set_option maxRecDepth 100000 in
set_option maxHeartbeats 2000000 in
theorem text_23 (w : World) : Calls Tryd.prog 25 #[.int .i64 (23 : Nat)] w fun e w' => e = .returned (.string (dec 23 ++ slash ++ dec 24)) ∧ Ext w w' := by
  have hz23 : IntKind.i64.wrap 23 = 23 := rfl
  have hy23 := Lib.hid (show (23 : Int) = ((23 : Nat) : Int) from rfl)
  have hz24 : IntKind.i64.wrap 24 = 24 := rfl
  have hy24 := Lib.hid (show (24 : Int) = ((24 : Nat) : Int) from rfl)
  go_enter Tryd.func25, Tryd.ntmps25
  go_wp2_with fail
  refine (divisor_any 23 24 _ (by omega) (by omega)).mono ?_
  rw [show Nat.gcd 23 24 = 1 from by decide]
  rintro e w1 ⟨rfl, x1⟩
  go_wp2_with fail
  go_region_with (first | (go_at_call 27; ((with_reducible refine (itoaW_any 23 23 (by omega) (by omega) hy23.out _).mono ?_); rintro e w' ⟨rfl, rfl⟩)) | (go_at_call 27; ((with_reducible refine (itoaW_any 24 24 (by omega) (by omega) hy24.out _).mono ?_); rintro e w' ⟨rfl, rfl⟩)))
  all_goals go_wp2
  all_goals (go_ret; exact ⟨by kernel_rfl, by first | exact x1.drew | exact x1⟩)

end Go.Proofs.YtjloobghfggakaaDoor
