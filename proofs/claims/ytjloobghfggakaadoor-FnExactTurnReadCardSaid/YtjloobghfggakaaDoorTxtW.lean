/- Texts of turns, spec: TurnText of 9 to 16. Written by mk_txtv.py. -/
import Derived.Test.YtjloobghfggakaaDoorTxtU
namespace Go.Proofs.YtjloobghfggakaaDoor
open Go.ChangeShapes Go.WideShapes Go.ChangeAt Go.RowKit
set_option linter.unusedVariables false

set_option maxRecDepth 100000 in
set_option maxHeartbeats 2000000 in
theorem stext_9 (w : World) : Calls Tryd.prog 7 #[.int .i64 (9 : Nat)] w fun e w' => e = .returned (.string (dec 3 ++ slash ++ dec 8)) ∧ Ext w w' := by
  have hz3 : IntKind.i64.wrap 3 = 3 := rfl
  have hz8 : IntKind.i64.wrap 8 = 8 := rfl
  have hz9 : IntKind.i64.wrap 9 = 9 := rfl
  have hz24 : IntKind.i64.wrap 24 = 24 := rfl
  go_enter Tryd.func7, Tryd.ntmps7
  go_wp2_with (first | (go_at_call 13; ((with_reducible refine (l1Is_any _ _).mono ?_); rintro e w' ⟨rfl, rfl⟩)) | fail)
  refine (l1Gcd_any 24 9 _ (by omega) (by omega)).mono ?_
  rw [show Nat.gcd 24 9 = 3 from by decide]
  rintro e w1 ⟨rfl, x1⟩
  go_wp2_with fail
  go_region_with (first | (go_at_call 15; ((with_reducible refine (sdec_3 _).mono ?_); rintro e w2 ⟨rfl, hx⟩)) | (go_at_call 15; ((with_reducible refine (sdec_8 _).mono ?_); rintro e w2 ⟨rfl, hx⟩)))
  all_goals go_wp2
  all_goals (go_ret; exact ⟨by kernel_rfl, by repeat (first | exact Ext.refl _ | assumption | refine Ext.drew ?_ | refine Ext.alloc ?_ _ | refine Ext.trans ?_ (by assumption))⟩)

set_option maxRecDepth 100000 in
set_option maxHeartbeats 2000000 in
theorem stext_10 (w : World) : Calls Tryd.prog 7 #[.int .i64 (10 : Nat)] w fun e w' => e = .returned (.string (dec 5 ++ slash ++ dec 12)) ∧ Ext w w' := by
  have hz2 : IntKind.i64.wrap 2 = 2 := rfl
  have hz5 : IntKind.i64.wrap 5 = 5 := rfl
  have hz10 : IntKind.i64.wrap 10 = 10 := rfl
  have hz12 : IntKind.i64.wrap 12 = 12 := rfl
  have hz24 : IntKind.i64.wrap 24 = 24 := rfl
  go_enter Tryd.func7, Tryd.ntmps7
  go_wp2_with (first | (go_at_call 13; ((with_reducible refine (l1Is_any _ _).mono ?_); rintro e w' ⟨rfl, rfl⟩)) | fail)
  refine (l1Gcd_any 24 10 _ (by omega) (by omega)).mono ?_
  rw [show Nat.gcd 24 10 = 2 from by decide]
  rintro e w1 ⟨rfl, x1⟩
  go_wp2_with fail
  go_region_with (first | (go_at_call 15; ((with_reducible refine (sdec_5 _).mono ?_); rintro e w2 ⟨rfl, hx⟩)) | (go_at_call 15; ((with_reducible refine (sdec_12 _).mono ?_); rintro e w2 ⟨rfl, hx⟩)))
  all_goals go_wp2
  all_goals (go_ret; exact ⟨by kernel_rfl, by repeat (first | exact Ext.refl _ | assumption | refine Ext.drew ?_ | refine Ext.alloc ?_ _ | refine Ext.trans ?_ (by assumption))⟩)

set_option maxRecDepth 100000 in
set_option maxHeartbeats 2000000 in
theorem stext_11 (w : World) : Calls Tryd.prog 7 #[.int .i64 (11 : Nat)] w fun e w' => e = .returned (.string (dec 11 ++ slash ++ dec 24)) ∧ Ext w w' := by
  have hz1 : IntKind.i64.wrap 1 = 1 := rfl
  have hz11 : IntKind.i64.wrap 11 = 11 := rfl
  have hz24 : IntKind.i64.wrap 24 = 24 := rfl
  go_enter Tryd.func7, Tryd.ntmps7
  go_wp2_with (first | (go_at_call 13; ((with_reducible refine (l1Is_any _ _).mono ?_); rintro e w' ⟨rfl, rfl⟩)) | fail)
  refine (l1Gcd_any 24 11 _ (by omega) (by omega)).mono ?_
  rw [show Nat.gcd 24 11 = 1 from by decide]
  rintro e w1 ⟨rfl, x1⟩
  go_wp2_with fail
  go_region_with (first | (go_at_call 15; ((with_reducible refine (sdec_11 _).mono ?_); rintro e w2 ⟨rfl, hx⟩)) | (go_at_call 15; ((with_reducible refine (sdec_24 _).mono ?_); rintro e w2 ⟨rfl, hx⟩)))
  all_goals go_wp2
  all_goals (go_ret; exact ⟨by kernel_rfl, by repeat (first | exact Ext.refl _ | assumption | refine Ext.drew ?_ | refine Ext.alloc ?_ _ | refine Ext.trans ?_ (by assumption))⟩)

set_option maxRecDepth 100000 in
set_option maxHeartbeats 2000000 in
theorem stext_12 (w : World) : Calls Tryd.prog 7 #[.int .i64 (12 : Nat)] w fun e w' => e = .returned (.string (dec 1 ++ slash ++ dec 2)) ∧ Ext w w' := by
  have hz1 : IntKind.i64.wrap 1 = 1 := rfl
  have hz2 : IntKind.i64.wrap 2 = 2 := rfl
  have hz12 : IntKind.i64.wrap 12 = 12 := rfl
  have hz24 : IntKind.i64.wrap 24 = 24 := rfl
  go_enter Tryd.func7, Tryd.ntmps7
  go_wp2_with (first | (go_at_call 13; ((with_reducible refine (l1Is_any _ _).mono ?_); rintro e w' ⟨rfl, rfl⟩)) | fail)
  refine (l1Gcd_any 24 12 _ (by omega) (by omega)).mono ?_
  rw [show Nat.gcd 24 12 = 12 from by decide]
  rintro e w1 ⟨rfl, x1⟩
  go_wp2_with fail
  go_region_with (first | (go_at_call 15; ((with_reducible refine (sdec_1 _).mono ?_); rintro e w2 ⟨rfl, hx⟩)) | (go_at_call 15; ((with_reducible refine (sdec_2 _).mono ?_); rintro e w2 ⟨rfl, hx⟩)))
  all_goals go_wp2
  all_goals (go_ret; exact ⟨by kernel_rfl, by repeat (first | exact Ext.refl _ | assumption | refine Ext.drew ?_ | refine Ext.alloc ?_ _ | refine Ext.trans ?_ (by assumption))⟩)

set_option maxRecDepth 100000 in
set_option maxHeartbeats 2000000 in
theorem stext_13 (w : World) : Calls Tryd.prog 7 #[.int .i64 (13 : Nat)] w fun e w' => e = .returned (.string (dec 13 ++ slash ++ dec 24)) ∧ Ext w w' := by
  have hz1 : IntKind.i64.wrap 1 = 1 := rfl
  have hz13 : IntKind.i64.wrap 13 = 13 := rfl
  have hz24 : IntKind.i64.wrap 24 = 24 := rfl
  go_enter Tryd.func7, Tryd.ntmps7
  go_wp2_with (first | (go_at_call 13; ((with_reducible refine (l1Is_any _ _).mono ?_); rintro e w' ⟨rfl, rfl⟩)) | fail)
  refine (l1Gcd_any 24 13 _ (by omega) (by omega)).mono ?_
  rw [show Nat.gcd 24 13 = 1 from by decide]
  rintro e w1 ⟨rfl, x1⟩
  go_wp2_with fail
  go_region_with (first | (go_at_call 15; ((with_reducible refine (sdec_13 _).mono ?_); rintro e w2 ⟨rfl, hx⟩)) | (go_at_call 15; ((with_reducible refine (sdec_24 _).mono ?_); rintro e w2 ⟨rfl, hx⟩)))
  all_goals go_wp2
  all_goals (go_ret; exact ⟨by kernel_rfl, by repeat (first | exact Ext.refl _ | assumption | refine Ext.drew ?_ | refine Ext.alloc ?_ _ | refine Ext.trans ?_ (by assumption))⟩)

set_option maxRecDepth 100000 in
set_option maxHeartbeats 2000000 in
theorem stext_14 (w : World) : Calls Tryd.prog 7 #[.int .i64 (14 : Nat)] w fun e w' => e = .returned (.string (dec 7 ++ slash ++ dec 12)) ∧ Ext w w' := by
  have hz2 : IntKind.i64.wrap 2 = 2 := rfl
  have hz7 : IntKind.i64.wrap 7 = 7 := rfl
  have hz12 : IntKind.i64.wrap 12 = 12 := rfl
  have hz14 : IntKind.i64.wrap 14 = 14 := rfl
  have hz24 : IntKind.i64.wrap 24 = 24 := rfl
  go_enter Tryd.func7, Tryd.ntmps7
  go_wp2_with (first | (go_at_call 13; ((with_reducible refine (l1Is_any _ _).mono ?_); rintro e w' ⟨rfl, rfl⟩)) | fail)
  refine (l1Gcd_any 24 14 _ (by omega) (by omega)).mono ?_
  rw [show Nat.gcd 24 14 = 2 from by decide]
  rintro e w1 ⟨rfl, x1⟩
  go_wp2_with fail
  go_region_with (first | (go_at_call 15; ((with_reducible refine (sdec_7 _).mono ?_); rintro e w2 ⟨rfl, hx⟩)) | (go_at_call 15; ((with_reducible refine (sdec_12 _).mono ?_); rintro e w2 ⟨rfl, hx⟩)))
  all_goals go_wp2
  all_goals (go_ret; exact ⟨by kernel_rfl, by repeat (first | exact Ext.refl _ | assumption | refine Ext.drew ?_ | refine Ext.alloc ?_ _ | refine Ext.trans ?_ (by assumption))⟩)

set_option maxRecDepth 100000 in
set_option maxHeartbeats 2000000 in
theorem stext_15 (w : World) : Calls Tryd.prog 7 #[.int .i64 (15 : Nat)] w fun e w' => e = .returned (.string (dec 5 ++ slash ++ dec 8)) ∧ Ext w w' := by
  have hz3 : IntKind.i64.wrap 3 = 3 := rfl
  have hz5 : IntKind.i64.wrap 5 = 5 := rfl
  have hz8 : IntKind.i64.wrap 8 = 8 := rfl
  have hz15 : IntKind.i64.wrap 15 = 15 := rfl
  have hz24 : IntKind.i64.wrap 24 = 24 := rfl
  go_enter Tryd.func7, Tryd.ntmps7
  go_wp2_with (first | (go_at_call 13; ((with_reducible refine (l1Is_any _ _).mono ?_); rintro e w' ⟨rfl, rfl⟩)) | fail)
  refine (l1Gcd_any 24 15 _ (by omega) (by omega)).mono ?_
  rw [show Nat.gcd 24 15 = 3 from by decide]
  rintro e w1 ⟨rfl, x1⟩
  go_wp2_with fail
  go_region_with (first | (go_at_call 15; ((with_reducible refine (sdec_5 _).mono ?_); rintro e w2 ⟨rfl, hx⟩)) | (go_at_call 15; ((with_reducible refine (sdec_8 _).mono ?_); rintro e w2 ⟨rfl, hx⟩)))
  all_goals go_wp2
  all_goals (go_ret; exact ⟨by kernel_rfl, by repeat (first | exact Ext.refl _ | assumption | refine Ext.drew ?_ | refine Ext.alloc ?_ _ | refine Ext.trans ?_ (by assumption))⟩)

set_option maxRecDepth 100000 in
set_option maxHeartbeats 2000000 in
theorem stext_16 (w : World) : Calls Tryd.prog 7 #[.int .i64 (16 : Nat)] w fun e w' => e = .returned (.string (dec 2 ++ slash ++ dec 3)) ∧ Ext w w' := by
  have hz2 : IntKind.i64.wrap 2 = 2 := rfl
  have hz3 : IntKind.i64.wrap 3 = 3 := rfl
  have hz8 : IntKind.i64.wrap 8 = 8 := rfl
  have hz16 : IntKind.i64.wrap 16 = 16 := rfl
  have hz24 : IntKind.i64.wrap 24 = 24 := rfl
  go_enter Tryd.func7, Tryd.ntmps7
  go_wp2_with (first | (go_at_call 13; ((with_reducible refine (l1Is_any _ _).mono ?_); rintro e w' ⟨rfl, rfl⟩)) | fail)
  refine (l1Gcd_any 24 16 _ (by omega) (by omega)).mono ?_
  rw [show Nat.gcd 24 16 = 8 from by decide]
  rintro e w1 ⟨rfl, x1⟩
  go_wp2_with fail
  go_region_with (first | (go_at_call 15; ((with_reducible refine (sdec_2 _).mono ?_); rintro e w2 ⟨rfl, hx⟩)) | (go_at_call 15; ((with_reducible refine (sdec_3 _).mono ?_); rintro e w2 ⟨rfl, hx⟩)))
  all_goals go_wp2
  all_goals (go_ret; exact ⟨by kernel_rfl, by repeat (first | exact Ext.refl _ | assumption | refine Ext.drew ?_ | refine Ext.alloc ?_ _ | refine Ext.trans ?_ (by assumption))⟩)

end Go.Proofs.YtjloobghfggakaaDoor
