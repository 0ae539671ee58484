/- Texts of turns, spec: TurnText of 1 to 8. Written by mk_txtv.py. -/
import Derived.Test.YtjloobghfggakaaDoorTxtU
namespace Go.Proofs.YtjloobghfggakaaDoor
open Go.ChangeShapes Go.WideShapes Go.ChangeAt Go.RowKit
set_option linter.unusedVariables false

set_option maxRecDepth 100000 in
set_option maxHeartbeats 2000000 in
theorem stext_1 (w : World) : Calls Tryd.prog 7 #[.int .i64 (1 : Nat)] w fun e w' => e = .returned (.string (dec 1 ++ slash ++ dec 24)) ∧ Ext w w' := by
  have hz1 : IntKind.i64.wrap 1 = 1 := rfl
  have hz24 : IntKind.i64.wrap 24 = 24 := rfl
  go_enter Tryd.func7, Tryd.ntmps7
  go_wp2_with (first | (go_at_call 13; ((with_reducible refine (l1Is_any _ _).mono ?_); rintro e w' ⟨rfl, rfl⟩)) | fail)
  refine (l1Gcd_any 24 1 _ (by omega) (by omega)).mono ?_
  rw [show Nat.gcd 24 1 = 1 from by decide]
  rintro e w1 ⟨rfl, x1⟩
  go_wp2_with fail
  go_region_with (first | (go_at_call 15; ((with_reducible refine (sdec_1 _).mono ?_); rintro e w2 ⟨rfl, hx⟩)) | (go_at_call 15; ((with_reducible refine (sdec_24 _).mono ?_); rintro e w2 ⟨rfl, hx⟩)))
  all_goals go_wp2
  all_goals (go_ret; exact ⟨by kernel_rfl, by repeat (first | exact Ext.refl _ | assumption | refine Ext.drew ?_ | refine Ext.alloc ?_ _ | refine Ext.trans ?_ (by assumption))⟩)

set_option maxRecDepth 100000 in
set_option maxHeartbeats 2000000 in
theorem stext_2 (w : World) : Calls Tryd.prog 7 #[.int .i64 (2 : Nat)] w fun e w' => e = .returned (.string (dec 1 ++ slash ++ dec 12)) ∧ Ext w w' := by
  have hz1 : IntKind.i64.wrap 1 = 1 := rfl
  have hz2 : IntKind.i64.wrap 2 = 2 := rfl
  have hz12 : IntKind.i64.wrap 12 = 12 := rfl
  have hz24 : IntKind.i64.wrap 24 = 24 := rfl
  go_enter Tryd.func7, Tryd.ntmps7
  go_wp2_with (first | (go_at_call 13; ((with_reducible refine (l1Is_any _ _).mono ?_); rintro e w' ⟨rfl, rfl⟩)) | fail)
  refine (l1Gcd_any 24 2 _ (by omega) (by omega)).mono ?_
  rw [show Nat.gcd 24 2 = 2 from by decide]
  rintro e w1 ⟨rfl, x1⟩
  go_wp2_with fail
  go_region_with (first | (go_at_call 15; ((with_reducible refine (sdec_1 _).mono ?_); rintro e w2 ⟨rfl, hx⟩)) | (go_at_call 15; ((with_reducible refine (sdec_12 _).mono ?_); rintro e w2 ⟨rfl, hx⟩)))
  all_goals go_wp2
  all_goals (go_ret; exact ⟨by kernel_rfl, by repeat (first | exact Ext.refl _ | assumption | refine Ext.drew ?_ | refine Ext.alloc ?_ _ | refine Ext.trans ?_ (by assumption))⟩)

set_option maxRecDepth 100000 in
set_option maxHeartbeats 2000000 in
theorem stext_3 (w : World) : Calls Tryd.prog 7 #[.int .i64 (3 : Nat)] w fun e w' => e = .returned (.string (dec 1 ++ slash ++ dec 8)) ∧ Ext w w' := by
  have hz1 : IntKind.i64.wrap 1 = 1 := rfl
  have hz3 : IntKind.i64.wrap 3 = 3 := rfl
  have hz8 : IntKind.i64.wrap 8 = 8 := rfl
  have hz24 : IntKind.i64.wrap 24 = 24 := rfl
  go_enter Tryd.func7, Tryd.ntmps7
  go_wp2_with (first | (go_at_call 13; ((with_reducible refine (l1Is_any _ _).mono ?_); rintro e w' ⟨rfl, rfl⟩)) | fail)
  refine (l1Gcd_any 24 3 _ (by omega) (by omega)).mono ?_
  rw [show Nat.gcd 24 3 = 3 from by decide]
  rintro e w1 ⟨rfl, x1⟩
  go_wp2_with fail
  go_region_with (first | (go_at_call 15; ((with_reducible refine (sdec_1 _).mono ?_); rintro e w2 ⟨rfl, hx⟩)) | (go_at_call 15; ((with_reducible refine (sdec_8 _).mono ?_); rintro e w2 ⟨rfl, hx⟩)))
  all_goals go_wp2
  all_goals (go_ret; exact ⟨by kernel_rfl, by repeat (first | exact Ext.refl _ | assumption | refine Ext.drew ?_ | refine Ext.alloc ?_ _ | refine Ext.trans ?_ (by assumption))⟩)

set_option maxRecDepth 100000 in
set_option maxHeartbeats 2000000 in
theorem stext_4 (w : World) : Calls Tryd.prog 7 #[.int .i64 (4 : Nat)] w fun e w' => e = .returned (.string (dec 1 ++ slash ++ dec 6)) ∧ Ext w w' := by
  have hz1 : IntKind.i64.wrap 1 = 1 := rfl
  have hz4 : IntKind.i64.wrap 4 = 4 := rfl
  have hz6 : IntKind.i64.wrap 6 = 6 := rfl
  have hz24 : IntKind.i64.wrap 24 = 24 := rfl
  go_enter Tryd.func7, Tryd.ntmps7
  go_wp2_with (first | (go_at_call 13; ((with_reducible refine (l1Is_any _ _).mono ?_); rintro e w' ⟨rfl, rfl⟩)) | fail)
  refine (l1Gcd_any 24 4 _ (by omega) (by omega)).mono ?_
  rw [show Nat.gcd 24 4 = 4 from by decide]
  rintro e w1 ⟨rfl, x1⟩
  go_wp2_with fail
  go_region_with (first | (go_at_call 15; ((with_reducible refine (sdec_1 _).mono ?_); rintro e w2 ⟨rfl, hx⟩)) | (go_at_call 15; ((with_reducible refine (sdec_6 _).mono ?_); rintro e w2 ⟨rfl, hx⟩)))
  all_goals go_wp2
  all_goals (go_ret; exact ⟨by kernel_rfl, by repeat (first | exact Ext.refl _ | assumption | refine Ext.drew ?_ | refine Ext.alloc ?_ _ | refine Ext.trans ?_ (by assumption))⟩)

set_option maxRecDepth 100000 in
set_option maxHeartbeats 2000000 in
theorem stext_5 (w : World) : Calls Tryd.prog 7 #[.int .i64 (5 : Nat)] w fun e w' => e = .returned (.string (dec 5 ++ slash ++ dec 24)) ∧ Ext w w' := by
  have hz1 : IntKind.i64.wrap 1 = 1 := rfl
  have hz5 : IntKind.i64.wrap 5 = 5 := rfl
  have hz24 : IntKind.i64.wrap 24 = 24 := rfl
  go_enter Tryd.func7, Tryd.ntmps7
  go_wp2_with (first | (go_at_call 13; ((with_reducible refine (l1Is_any _ _).mono ?_); rintro e w' ⟨rfl, rfl⟩)) | fail)
  refine (l1Gcd_any 24 5 _ (by omega) (by omega)).mono ?_
  rw [show Nat.gcd 24 5 = 1 from by decide]
  rintro e w1 ⟨rfl, x1⟩
  go_wp2_with fail
  go_region_with (first | (go_at_call 15; ((with_reducible refine (sdec_5 _).mono ?_); rintro e w2 ⟨rfl, hx⟩)) | (go_at_call 15; ((with_reducible refine (sdec_24 _).mono ?_); rintro e w2 ⟨rfl, hx⟩)))
  all_goals go_wp2
  all_goals (go_ret; exact ⟨by kernel_rfl, by repeat (first | exact Ext.refl _ | assumption | refine Ext.drew ?_ | refine Ext.alloc ?_ _ | refine Ext.trans ?_ (by assumption))⟩)

set_option maxRecDepth 100000 in
set_option maxHeartbeats 2000000 in
theorem stext_6 (w : World) : Calls Tryd.prog 7 #[.int .i64 (6 : Nat)] w fun e w' => e = .returned (.string (dec 1 ++ slash ++ dec 4)) ∧ Ext w w' := by
  have hz1 : IntKind.i64.wrap 1 = 1 := rfl
  have hz4 : IntKind.i64.wrap 4 = 4 := rfl
  have hz6 : IntKind.i64.wrap 6 = 6 := rfl
  have hz24 : IntKind.i64.wrap 24 = 24 := rfl
  go_enter Tryd.func7, Tryd.ntmps7
  go_wp2_with (first | (go_at_call 13; ((with_reducible refine (l1Is_any _ _).mono ?_); rintro e w' ⟨rfl, rfl⟩)) | fail)
  refine (l1Gcd_any 24 6 _ (by omega) (by omega)).mono ?_
  rw [show Nat.gcd 24 6 = 6 from by decide]
  rintro e w1 ⟨rfl, x1⟩
  go_wp2_with fail
  go_region_with (first | (go_at_call 15; ((with_reducible refine (sdec_1 _).mono ?_); rintro e w2 ⟨rfl, hx⟩)) | (go_at_call 15; ((with_reducible refine (sdec_4 _).mono ?_); rintro e w2 ⟨rfl, hx⟩)))
  all_goals go_wp2
  all_goals (go_ret; exact ⟨by kernel_rfl, by repeat (first | exact Ext.refl _ | assumption | refine Ext.drew ?_ | refine Ext.alloc ?_ _ | refine Ext.trans ?_ (by assumption))⟩)

set_option maxRecDepth 100000 in
set_option maxHeartbeats 2000000 in
theorem stext_7 (w : World) : Calls Tryd.prog 7 #[.int .i64 (7 : Nat)] w fun e w' => e = .returned (.string (dec 7 ++ slash ++ dec 24)) ∧ Ext w w' := by
  have hz1 : IntKind.i64.wrap 1 = 1 := rfl
  have hz7 : IntKind.i64.wrap 7 = 7 := rfl
  have hz24 : IntKind.i64.wrap 24 = 24 := rfl
  go_enter Tryd.func7, Tryd.ntmps7
  go_wp2_with (first | (go_at_call 13; ((with_reducible refine (l1Is_any _ _).mono ?_); rintro e w' ⟨rfl, rfl⟩)) | fail)
  refine (l1Gcd_any 24 7 _ (by omega) (by omega)).mono ?_
  rw [show Nat.gcd 24 7 = 1 from by decide]
  rintro e w1 ⟨rfl, x1⟩
  go_wp2_with fail
  go_region_with (first | (go_at_call 15; ((with_reducible refine (sdec_7 _).mono ?_); rintro e w2 ⟨rfl, hx⟩)) | (go_at_call 15; ((with_reducible refine (sdec_24 _).mono ?_); rintro e w2 ⟨rfl, hx⟩)))
  all_goals go_wp2
  all_goals (go_ret; exact ⟨by kernel_rfl, by repeat (first | exact Ext.refl _ | assumption | refine Ext.drew ?_ | refine Ext.alloc ?_ _ | refine Ext.trans ?_ (by assumption))⟩)

set_option maxRecDepth 100000 in
set_option maxHeartbeats 2000000 in
theorem stext_8 (w : World) : Calls Tryd.prog 7 #[.int .i64 (8 : Nat)] w fun e w' => e = .returned (.string (dec 1 ++ slash ++ dec 3)) ∧ Ext w w' := by
  have hz1 : IntKind.i64.wrap 1 = 1 := rfl
  have hz3 : IntKind.i64.wrap 3 = 3 := rfl
  have hz8 : IntKind.i64.wrap 8 = 8 := rfl
  have hz24 : IntKind.i64.wrap 24 = 24 := rfl
  go_enter Tryd.func7, Tryd.ntmps7
  go_wp2_with (first | (go_at_call 13; ((with_reducible refine (l1Is_any _ _).mono ?_); rintro e w' ⟨rfl, rfl⟩)) | fail)
  refine (l1Gcd_any 24 8 _ (by omega) (by omega)).mono ?_
  rw [show Nat.gcd 24 8 = 8 from by decide]
  rintro e w1 ⟨rfl, x1⟩
  go_wp2_with fail
  go_region_with (first | (go_at_call 15; ((with_reducible refine (sdec_1 _).mono ?_); rintro e w2 ⟨rfl, hx⟩)) | (go_at_call 15; ((with_reducible refine (sdec_3 _).mono ?_); rintro e w2 ⟨rfl, hx⟩)))
  all_goals go_wp2
  all_goals (go_ret; exact ⟨by kernel_rfl, by repeat (first | exact Ext.refl _ | assumption | refine Ext.drew ?_ | refine Ext.alloc ?_ _ | refine Ext.trans ?_ (by assumption))⟩)

end Go.Proofs.YtjloobghfggakaaDoor
