/- Texts of turns, impl: (turn).text, 9 to 16. Written by mk_txtt.py. -/
import Derived.Test.YtjloobghfggakaaDoorTxtC
namespace Go.Proofs.YtjloobghfggakaaDoor
open Go.ChangeShapes Go.WideShapes Go.ChangeAt Go.RowKit
set_option linter.unusedVariables false

set_option maxRecDepth 100000 in
set_option maxHeartbeats 2000000 in
theorem text_9 (w : World) : Calls Tryd.prog 25 #[.int .i64 (9 : Nat)] w fun e w' => e = .returned (.string (dec 3 ++ slash ++ dec 8)) ∧ Ext w w' := by
  have hz3 : IntKind.i64.wrap 3 = 3 := rfl
  have hy3 := Lib.hid (show (3 : Int) = ((3 : Nat) : Int) from rfl)
  have hz8 : IntKind.i64.wrap 8 = 8 := rfl
  have hy8 := Lib.hid (show (8 : Int) = ((8 : Nat) : Int) from rfl)
  go_enter Tryd.func25, Tryd.ntmps25
  go_wp2_with fail
  refine (divisor_any 9 24 _ (by omega) (by omega)).mono ?_
  rw [show Nat.gcd 9 24 = 3 from by decide]
  rintro e w1 ⟨rfl, x1⟩
  go_wp2_with fail
  go_region_with (first | (go_at_call 27; ((with_reducible refine (itoaW_any 3 3 (by omega) (by omega) hy3.out _).mono ?_); rintro e w' ⟨rfl, rfl⟩)) | (go_at_call 27; ((with_reducible refine (itoaW_any 8 8 (by omega) (by omega) hy8.out _).mono ?_); rintro e w' ⟨rfl, rfl⟩)))
  all_goals go_wp2
  all_goals (go_ret; exact ⟨by kernel_rfl, by first | exact x1.drew | exact x1⟩)

set_option maxRecDepth 100000 in
set_option maxHeartbeats 2000000 in
theorem text_10 (w : World) : Calls Tryd.prog 25 #[.int .i64 (10 : Nat)] w fun e w' => e = .returned (.string (dec 5 ++ slash ++ dec 12)) ∧ Ext w w' := by
  have hz5 : IntKind.i64.wrap 5 = 5 := rfl
  have hy5 := Lib.hid (show (5 : Int) = ((5 : Nat) : Int) from rfl)
  have hz12 : IntKind.i64.wrap 12 = 12 := rfl
  have hy12 := Lib.hid (show (12 : Int) = ((12 : Nat) : Int) from rfl)
  go_enter Tryd.func25, Tryd.ntmps25
  go_wp2_with fail
  refine (divisor_any 10 24 _ (by omega) (by omega)).mono ?_
  rw [show Nat.gcd 10 24 = 2 from by decide]
  rintro e w1 ⟨rfl, x1⟩
  go_wp2_with fail
  go_region_with (first | (go_at_call 27; ((with_reducible refine (itoaW_any 5 5 (by omega) (by omega) hy5.out _).mono ?_); rintro e w' ⟨rfl, rfl⟩)) | (go_at_call 27; ((with_reducible refine (itoaW_any 12 12 (by omega) (by omega) hy12.out _).mono ?_); rintro e w' ⟨rfl, rfl⟩)))
  all_goals go_wp2
  all_goals (go_ret; exact ⟨by kernel_rfl, by first | exact x1.drew | exact x1⟩)

set_option maxRecDepth 100000 in
set_option maxHeartbeats 2000000 in
theorem text_11 (w : World) : Calls Tryd.prog 25 #[.int .i64 (11 : Nat)] w fun e w' => e = .returned (.string (dec 11 ++ slash ++ dec 24)) ∧ Ext w w' := by
  have hz11 : IntKind.i64.wrap 11 = 11 := rfl
  have hy11 := Lib.hid (show (11 : Int) = ((11 : Nat) : Int) from rfl)
  have hz24 : IntKind.i64.wrap 24 = 24 := rfl
  have hy24 := Lib.hid (show (24 : Int) = ((24 : Nat) : Int) from rfl)
  go_enter Tryd.func25, Tryd.ntmps25
  go_wp2_with fail
  refine (divisor_any 11 24 _ (by omega) (by omega)).mono ?_
  rw [show Nat.gcd 11 24 = 1 from by decide]
  rintro e w1 ⟨rfl, x1⟩
  go_wp2_with fail
  go_region_with (first | (go_at_call 27; ((with_reducible refine (itoaW_any 11 11 (by omega) (by omega) hy11.out _).mono ?_); rintro e w' ⟨rfl, rfl⟩)) | (go_at_call 27; ((with_reducible refine (itoaW_any 24 24 (by omega) (by omega) hy24.out _).mono ?_); rintro e w' ⟨rfl, rfl⟩)))
  all_goals go_wp2
  all_goals (go_ret; exact ⟨by kernel_rfl, by first | exact x1.drew | exact x1⟩)

set_option maxRecDepth 100000 in
set_option maxHeartbeats 2000000 in
theorem text_12 (w : World) : Calls Tryd.prog 25 #[.int .i64 (12 : Nat)] w fun e w' => e = .returned (.string (dec 1 ++ slash ++ dec 2)) ∧ Ext w w' := by
  have hz1 : IntKind.i64.wrap 1 = 1 := rfl
  have hy1 := Lib.hid (show (1 : Int) = ((1 : Nat) : Int) from rfl)
  have hz2 : IntKind.i64.wrap 2 = 2 := rfl
  have hy2 := Lib.hid (show (2 : Int) = ((2 : Nat) : Int) from rfl)
  go_enter Tryd.func25, Tryd.ntmps25
  go_wp2_with fail
  refine (divisor_any 12 24 _ (by omega) (by omega)).mono ?_
  rw [show Nat.gcd 12 24 = 12 from by decide]
  rintro e w1 ⟨rfl, x1⟩
  go_wp2_with fail
  go_region_with (first | (go_at_call 27; ((with_reducible refine (itoaW_any 1 1 (by omega) (by omega) hy1.out _).mono ?_); rintro e w' ⟨rfl, rfl⟩)) | (go_at_call 27; ((with_reducible refine (itoaW_any 2 2 (by omega) (by omega) hy2.out _).mono ?_); rintro e w' ⟨rfl, rfl⟩)))
  all_goals go_wp2
  all_goals (go_ret; exact ⟨by kernel_rfl, by first | exact x1.drew | exact x1⟩)

set_option maxRecDepth 100000 in
set_option maxHeartbeats 2000000 in
theorem text_13 (w : World) : Calls Tryd.prog 25 #[.int .i64 (13 : Nat)] w fun e w' => e = .returned (.string (dec 13 ++ slash ++ dec 24)) ∧ Ext w w' := by
  have hz13 : IntKind.i64.wrap 13 = 13 := rfl
  have hy13 := Lib.hid (show (13 : Int) = ((13 : Nat) : Int) from rfl)
  have hz24 : IntKind.i64.wrap 24 = 24 := rfl
  have hy24 := Lib.hid (show (24 : Int) = ((24 : Nat) : Int) from rfl)
  go_enter Tryd.func25, Tryd.ntmps25
  go_wp2_with fail
  refine (divisor_any 13 24 _ (by omega) (by omega)).mono ?_
  rw [show Nat.gcd 13 24 = 1 from by decide]
  rintro e w1 ⟨rfl, x1⟩
  go_wp2_with fail
  go_region_with (first | (go_at_call 27; ((with_reducible refine (itoaW_any 13 13 (by omega) (by omega) hy13.out _).mono ?_); rintro e w' ⟨rfl, rfl⟩)) | (go_at_call 27; ((with_reducible refine (itoaW_any 24 24 (by omega) (by omega) hy24.out _).mono ?_); rintro e w' ⟨rfl, rfl⟩)))
  all_goals go_wp2
  all_goals (go_ret; exact ⟨by kernel_rfl, by first | exact x1.drew | exact x1⟩)

set_option maxRecDepth 100000 in
set_option maxHeartbeats 2000000 in
theorem text_14 (w : World) : Calls Tryd.prog 25 #[.int .i64 (14 : Nat)] w fun e w' => e = .returned (.string (dec 7 ++ slash ++ dec 12)) ∧ Ext w w' := by
  have hz7 : IntKind.i64.wrap 7 = 7 := rfl
  have hy7 := Lib.hid (show (7 : Int) = ((7 : Nat) : Int) from rfl)
  have hz12 : IntKind.i64.wrap 12 = 12 := rfl
  have hy12 := Lib.hid (show (12 : Int) = ((12 : Nat) : Int) from rfl)
  go_enter Tryd.func25, Tryd.ntmps25
  go_wp2_with fail
  refine (divisor_any 14 24 _ (by omega) (by omega)).mono ?_
  rw [show Nat.gcd 14 24 = 2 from by decide]
  rintro e w1 ⟨rfl, x1⟩
  go_wp2_with fail
  go_region_with (first | (go_at_call 27; ((with_reducible refine (itoaW_any 7 7 (by omega) (by omega) hy7.out _).mono ?_); rintro e w' ⟨rfl, rfl⟩)) | (go_at_call 27; ((with_reducible refine (itoaW_any 12 12 (by omega) (by omega) hy12.out _).mono ?_); rintro e w' ⟨rfl, rfl⟩)))
  all_goals go_wp2
  all_goals (go_ret; exact ⟨by kernel_rfl, by first | exact x1.drew | exact x1⟩)

set_option maxRecDepth 100000 in
set_option maxHeartbeats 2000000 in
theorem text_15 (w : World) : Calls Tryd.prog 25 #[.int .i64 (15 : Nat)] w fun e w' => e = .returned (.string (dec 5 ++ slash ++ dec 8)) ∧ Ext w w' := by
  have hz5 : IntKind.i64.wrap 5 = 5 := rfl
  have hy5 := Lib.hid (show (5 : Int) = ((5 : Nat) : Int) from rfl)
  have hz8 : IntKind.i64.wrap 8 = 8 := rfl
  have hy8 := Lib.hid (show (8 : Int) = ((8 : Nat) : Int) from rfl)
  go_enter Tryd.func25, Tryd.ntmps25
  go_wp2_with fail
  refine (divisor_any 15 24 _ (by omega) (by omega)).mono ?_
  rw [show Nat.gcd 15 24 = 3 from by decide]
  rintro e w1 ⟨rfl, x1⟩
  go_wp2_with fail
  go_region_with (first | (go_at_call 27; ((with_reducible refine (itoaW_any 5 5 (by omega) (by omega) hy5.out _).mono ?_); rintro e w' ⟨rfl, rfl⟩)) | (go_at_call 27; ((with_reducible refine (itoaW_any 8 8 (by omega) (by omega) hy8.out _).mono ?_); rintro e w' ⟨rfl, rfl⟩)))
  all_goals go_wp2
  all_goals (go_ret; exact ⟨by kernel_rfl, by first | exact x1.drew | exact x1⟩)

set_option maxRecDepth 100000 in
set_option maxHeartbeats 2000000 in
theorem text_16 (w : World) : Calls Tryd.prog 25 #[.int .i64 (16 : Nat)] w fun e w' => e = .returned (.string (dec 2 ++ slash ++ dec 3)) ∧ Ext w w' := by
  have hz2 : IntKind.i64.wrap 2 = 2 := rfl
  have hy2 := Lib.hid (show (2 : Int) = ((2 : Nat) : Int) from rfl)
  have hz3 : IntKind.i64.wrap 3 = 3 := rfl
  have hy3 := Lib.hid (show (3 : Int) = ((3 : Nat) : Int) from rfl)
  go_enter Tryd.func25, Tryd.ntmps25
  go_wp2_with fail
  refine (divisor_any 16 24 _ (by omega) (by omega)).mono ?_
  rw [show Nat.gcd 16 24 = 8 from by decide]
  rintro e w1 ⟨rfl, x1⟩
  go_wp2_with fail
  go_region_with (first | (go_at_call 27; ((with_reducible refine (itoaW_any 2 2 (by omega) (by omega) hy2.out _).mono ?_); rintro e w' ⟨rfl, rfl⟩)) | (go_at_call 27; ((with_reducible refine (itoaW_any 3 3 (by omega) (by omega) hy3.out _).mono ?_); rintro e w' ⟨rfl, rfl⟩)))
  all_goals go_wp2
  all_goals (go_ret; exact ⟨by kernel_rfl, by first | exact x1.drew | exact x1⟩)

end Go.Proofs.YtjloobghfggakaaDoor
