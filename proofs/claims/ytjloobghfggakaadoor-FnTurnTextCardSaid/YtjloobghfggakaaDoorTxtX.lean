/- Texts of turns, spec: TurnText of 17 to 23. Written by mk_txtv.py. -/
import Derived.Test.YtjloobghfggakaaDoorTxtU
namespace Go.Proofs.YtjloobghfggakaaDoor
open Go.ChangeShapes Go.WideShapes Go.ChangeAt Go.RowKit
set_option linter.unusedVariables false

set_option maxRecDepth 100000 in
set_option maxHeartbeats 2000000 in
theorem stext_17 (w : World) : Calls Tryd.prog 7 #[.int .i64 (17 : Nat)] w fun e w' => e = .returned (.string (dec 17 ++ slash ++ dec 24)) ∧ Ext w w' := by
  have hz1 : IntKind.i64.wrap 1 = 1 := rfl
  have hz17 : IntKind.i64.wrap 17 = 17 := rfl
  have hz24 : IntKind.i64.wrap 24 = 24 := rfl
  go_enter Tryd.func7, Tryd.ntmps7
  go_wp2_with (first | (go_at_call 13; ((with_reducible refine (l1Is_any _ _).mono ?_); rintro e w' ⟨rfl, rfl⟩)) | fail)
  refine (l1Gcd_any 24 17 _ (by omega) (by omega)).mono ?_
  rw [show Nat.gcd 24 17 = 1 from by decide]
  rintro e w1 ⟨rfl, x1⟩
  go_wp2_with fail
  go_region_with (first | (go_at_call 15; ((with_reducible refine (sdec_17 _).mono ?_); rintro e w2 ⟨rfl, hx⟩)) | (go_at_call 15; ((with_reducible refine (sdec_24 _).mono ?_); rintro e w2 ⟨rfl, hx⟩)))
  all_goals go_wp2
  all_goals (go_ret; exact ⟨by kernel_rfl, by repeat (first | exact Ext.refl _ | assumption | refine Ext.drew ?_ | refine Ext.alloc ?_ _ | refine Ext.trans ?_ (by assumption))⟩)

set_option maxRecDepth 100000 in
set_option maxHeartbeats 2000000 in
theorem stext_18 (w : World) : Calls Tryd.prog 7 #[.int .i64 (18 : Nat)] w fun e w' => e = .returned (.string (dec 3 ++ slash ++ dec 4)) ∧ Ext w w' := by
  have hz3 : IntKind.i64.wrap 3 = 3 := rfl
  have hz4 : IntKind.i64.wrap 4 = 4 := rfl
  have hz6 : IntKind.i64.wrap 6 = 6 := rfl
  have hz18 : IntKind.i64.wrap 18 = 18 := rfl
  have hz24 : IntKind.i64.wrap 24 = 24 := rfl
  go_enter Tryd.func7, Tryd.ntmps7
  go_wp2_with (first | (go_at_call 13; ((with_reducible refine (l1Is_any _ _).mono ?_); rintro e w' ⟨rfl, rfl⟩)) | fail)
  refine (l1Gcd_any 24 18 _ (by omega) (by omega)).mono ?_
  rw [show Nat.gcd 24 18 = 6 from by decide]
  rintro e w1 ⟨rfl, x1⟩
  go_wp2_with fail
  go_region_with (first | (go_at_call 15; ((with_reducible refine (sdec_3 _).mono ?_); rintro e w2 ⟨rfl, hx⟩)) | (go_at_call 15; ((with_reducible refine (sdec_4 _).mono ?_); rintro e w2 ⟨rfl, hx⟩)))
  all_goals go_wp2
  all_goals (go_ret; exact ⟨by kernel_rfl, by repeat (first | exact Ext.refl _ | assumption | refine Ext.drew ?_ | refine Ext.alloc ?_ _ | refine Ext.trans ?_ (by assumption))⟩)

set_option maxRecDepth 100000 in
set_option maxHeartbeats 2000000 in
theorem stext_19 (w : World) : Calls Tryd.prog 7 #[.int .i64 (19 : Nat)] w fun e w' => e = .returned (.string (dec 19 ++ slash ++ dec 24)) ∧ Ext w w' := by
  have hz1 : IntKind.i64.wrap 1 = 1 := rfl
  have hz19 : IntKind.i64.wrap 19 = 19 := rfl
  have hz24 : IntKind.i64.wrap 24 = 24 := rfl
  go_enter Tryd.func7, Tryd.ntmps7
  go_wp2_with (first | (go_at_call 13; ((with_reducible refine (l1Is_any _ _).mono ?_); rintro e w' ⟨rfl, rfl⟩)) | fail)
  refine (l1Gcd_any 24 19 _ (by omega) (by omega)).mono ?_
  rw [show Nat.gcd 24 19 = 1 from by decide]
  rintro e w1 ⟨rfl, x1⟩
  go_wp2_with fail
  go_region_with (first | (go_at_call 15; ((with_reducible refine (sdec_19 _).mono ?_); rintro e w2 ⟨rfl, hx⟩)) | (go_at_call 15; ((with_reducible refine (sdec_24 _).mono ?_); rintro e w2 ⟨rfl, hx⟩)))
  all_goals go_wp2
  all_goals (go_ret; exact ⟨by kernel_rfl, by repeat (first | exact Ext.refl _ | assumption | refine Ext.drew ?_ | refine Ext.alloc ?_ _ | refine Ext.trans ?_ (by assumption))⟩)

set_option maxRecDepth 100000 in
set_option maxHeartbeats 2000000 in
theorem stext_20 (w : World) : Calls Tryd.prog 7 #[.int .i64 (20 : Nat)] w fun e w' => e = .returned (.string (dec 5 ++ slash ++ dec 6)) ∧ Ext w w' := by
  have hz4 : IntKind.i64.wrap 4 = 4 := rfl
  have hz5 : IntKind.i64.wrap 5 = 5 := rfl
  have hz6 : IntKind.i64.wrap 6 = 6 := rfl
  have hz20 : IntKind.i64.wrap 20 = 20 := rfl
  have hz24 : IntKind.i64.wrap 24 = 24 := rfl
  go_enter Tryd.func7, Tryd.ntmps7
  go_wp2_with (first | (go_at_call 13; ((with_reducible refine (l1Is_any _ _).mono ?_); rintro e w' ⟨rfl, rfl⟩)) | fail)
  refine (l1Gcd_any 24 20 _ (by omega) (by omega)).mono ?_
  rw [show Nat.gcd 24 20 = 4 from by decide]
  rintro e w1 ⟨rfl, x1⟩
  go_wp2_with fail
  go_region_with (first | (go_at_call 15; ((with_reducible refine (sdec_5 _).mono ?_); rintro e w2 ⟨rfl, hx⟩)) | (go_at_call 15; ((with_reducible refine (sdec_6 _).mono ?_); rintro e w2 ⟨rfl, hx⟩)))
  all_goals go_wp2
  all_goals (go_ret; exact ⟨by kernel_rfl, by repeat (first | exact Ext.refl _ | assumption | refine Ext.drew ?_ | refine Ext.alloc ?_ _ | refine Ext.trans ?_ (by assumption))⟩)

set_option maxRecDepth 100000 in
set_option maxHeartbeats 2000000 in
theorem stext_21 (w : World) : Calls Tryd.prog 7 #[.int .i64 (21 : Nat)] w fun e w' => e = .returned (.string (dec 7 ++ slash ++ dec 8)) ∧ Ext w w' := by
  have hz3 : IntKind.i64.wrap 3 = 3 := rfl
  have hz7 : IntKind.i64.wrap 7 = 7 := rfl
  have hz8 : IntKind.i64.wrap 8 = 8 := rfl
  have hz21 : IntKind.i64.wrap 21 = 21 := rfl
  have hz24 : IntKind.i64.wrap 24 = 24 := rfl
  go_enter Tryd.func7, Tryd.ntmps7
  go_wp2_with (first | (go_at_call 13; ((with_reducible refine (l1Is_any _ _).mono ?_); rintro e w' ⟨rfl, rfl⟩)) | fail)
  refine (l1Gcd_any 24 21 _ (by omega) (by omega)).mono ?_
  rw [show Nat.gcd 24 21 = 3 from by decide]
  rintro e w1 ⟨rfl, x1⟩
  go_wp2_with fail
  go_region_with (first | (go_at_call 15; ((with_reducible refine (sdec_7 _).mono ?_); rintro e w2 ⟨rfl, hx⟩)) | (go_at_call 15; ((with_reducible refine (sdec_8 _).mono ?_); rintro e w2 ⟨rfl, hx⟩)))
  all_goals go_wp2
  all_goals (go_ret; exact ⟨by kernel_rfl, by repeat (first | exact Ext.refl _ | assumption | refine Ext.drew ?_ | refine Ext.alloc ?_ _ | refine Ext.trans ?_ (by assumption))⟩)

set_option maxRecDepth 100000 in
set_option maxHeartbeats 2000000 in
theorem stext_22 (w : World) : Calls Tryd.prog 7 #[.int .i64 (22 : Nat)] w fun e w' => e = .returned (.string (dec 11 ++ slash ++ dec 12)) ∧ Ext w w' := by
  have hz2 : IntKind.i64.wrap 2 = 2 := rfl
  have hz11 : IntKind.i64.wrap 11 = 11 := rfl
  have hz12 : IntKind.i64.wrap 12 = 12 := rfl
  have hz22 : IntKind.i64.wrap 22 = 22 := rfl
  have hz24 : IntKind.i64.wrap 24 = 24 := rfl
  go_enter Tryd.func7, Tryd.ntmps7
  go_wp2_with (first | (go_at_call 13; ((with_reducible refine (l1Is_any _ _).mono ?_); rintro e w' ⟨rfl, rfl⟩)) | fail)
  refine (l1Gcd_any 24 22 _ (by omega) (by omega)).mono ?_
  rw [show Nat.gcd 24 22 = 2 from by decide]
  rintro e w1 ⟨rfl, x1⟩
  go_wp2_with fail
  go_region_with (first | (go_at_call 15; ((with_reducible refine (sdec_11 _).mono ?_); rintro e w2 ⟨rfl, hx⟩)) | (go_at_call 15; ((with_reducible refine (sdec_12 _).mono ?_); rintro e w2 ⟨rfl, hx⟩)))
  all_goals go_wp2
  all_goals (go_ret; exact ⟨by kernel_rfl, by repeat (first | exact Ext.refl _ | assumption | refine Ext.drew ?_ | refine Ext.alloc ?_ _ | refine Ext.trans ?_ (by assumption))⟩)

set_option maxRecDepth 100000 in
set_option maxHeartbeats 2000000 in
theorem stext_23 (w : World) : Calls Tryd.prog 7 #[.int .i64 (23 : Nat)] w fun e w' => e = .returned (.string (dec 23 ++ slash ++ dec 24)) ∧ Ext w w' := by
  have hz1 : IntKind.i64.wrap 1 = 1 := rfl
  have hz23 : IntKind.i64.wrap 23 = 23 := rfl
  have hz24 : IntKind.i64.wrap 24 = 24 := rfl
  go_enter Tryd.func7, Tryd.ntmps7
  go_wp2_with (first | (go_at_call 13; ((with_reducible refine (l1Is_any _ _).mono ?_); rintro e w' ⟨rfl, rfl⟩)) | fail)
  refine (l1Gcd_any 24 23 _ (by omega) (by omega)).mono ?_
  rw [show Nat.gcd 24 23 = 1 from by decide]
  rintro e w1 ⟨rfl, x1⟩
  go_wp2_with fail
  go_region_with (first | (go_at_call 15; ((with_reducible refine (sdec_23 _).mono ?_); rintro e w2 ⟨rfl, hx⟩)) | (go_at_call 15; ((with_reducible refine (sdec_24 _).mono ?_); rintro e w2 ⟨rfl, hx⟩)))
  all_goals go_wp2
  all_goals (go_ret; exact ⟨by kernel_rfl, by repeat (first | exact Ext.refl _ | assumption | refine Ext.drew ?_ | refine Ext.alloc ?_ _ | refine Ext.trans ?_ (by assumption))⟩)

end Go.Proofs.YtjloobghfggakaaDoor
