/- Texts of turns, spec: l6Dec for the numbers that are needed. Written by mk_txts.py. -/
import Derived.Test.YtjloobghfggakaaDoorTxtC
namespace Go.Proofs.YtjloobghfggakaaDoor
open Go.ChangeShapes Go.WideShapes Go.ChangeAt Go.RowKit
set_option linter.unusedVariables false

/-- one byte, read as a string -/
theorem conv1 (z : Nat) (W : World) (B : Nat) (hz : z < 256) (h : Blk W B [.int .u8 (z : Int)]) :
    (convert 27 9 (.slice (some ⟨B, 0, none⟩) 1 1)).run Tryd.prog W = .ok (.string ⟨#[UInt8.ofNat z]⟩) W := by
  refine run_convert_bytes_back W _ _ 5 ⟨B, 0, none⟩ 1 [UInt8.ofNat z] Tryd.underlying27 Tryd.underlying5 Tryd.underlying9 ?_
  intro j hj
  have hj0 : j = 0 := by simpa using hj
  subst hj0
  show W.cell? ⟨B, 0, none⟩ = _
  rw [h.cell]
  simp [UInt8.toNat_ofNat', Nat.mod_eq_of_lt hz]

set_option maxRecDepth 100000 in
set_option maxHeartbeats 2000000 in
theorem sdec_1 (w : World) : Calls Tryd.prog 15 #[.int .i64 1] w fun e w' => e = .returned (.string (dec 1)) ∧ Ext w w' := by
  go_enter Tryd.func15, Tryd.ntmps15
  go_wp2_with (rw [conv1 49 _ _ (by omega) (Blk.new _ [.int .u8 49] _)])
  go_ret
  exact ⟨by kernel_rfl, by repeat (first | exact Ext.refl _ | assumption | refine Ext.drew ?_ | refine Ext.alloc ?_ _ | refine Ext.trans ?_ (by assumption))⟩

set_option maxRecDepth 100000 in
set_option maxHeartbeats 2000000 in
theorem sdec_2 (w : World) : Calls Tryd.prog 15 #[.int .i64 2] w fun e w' => e = .returned (.string (dec 2)) ∧ Ext w w' := by
  go_enter Tryd.func15, Tryd.ntmps15
  go_wp2_with (rw [conv1 50 _ _ (by omega) (Blk.new _ [.int .u8 50] _)])
  go_ret
  exact ⟨by kernel_rfl, by repeat (first | exact Ext.refl _ | assumption | refine Ext.drew ?_ | refine Ext.alloc ?_ _ | refine Ext.trans ?_ (by assumption))⟩

set_option maxRecDepth 100000 in
set_option maxHeartbeats 2000000 in
theorem sdec_3 (w : World) : Calls Tryd.prog 15 #[.int .i64 3] w fun e w' => e = .returned (.string (dec 3)) ∧ Ext w w' := by
  go_enter Tryd.func15, Tryd.ntmps15
  go_wp2_with (rw [conv1 51 _ _ (by omega) (Blk.new _ [.int .u8 51] _)])
  go_ret
  exact ⟨by kernel_rfl, by repeat (first | exact Ext.refl _ | assumption | refine Ext.drew ?_ | refine Ext.alloc ?_ _ | refine Ext.trans ?_ (by assumption))⟩

set_option maxRecDepth 100000 in
set_option maxHeartbeats 2000000 in
theorem sdec_4 (w : World) : Calls Tryd.prog 15 #[.int .i64 4] w fun e w' => e = .returned (.string (dec 4)) ∧ Ext w w' := by
  go_enter Tryd.func15, Tryd.ntmps15
  go_wp2_with (rw [conv1 52 _ _ (by omega) (Blk.new _ [.int .u8 52] _)])
  go_ret
  exact ⟨by kernel_rfl, by repeat (first | exact Ext.refl _ | assumption | refine Ext.drew ?_ | refine Ext.alloc ?_ _ | refine Ext.trans ?_ (by assumption))⟩

set_option maxRecDepth 100000 in
set_option maxHeartbeats 2000000 in
theorem sdec_5 (w : World) : Calls Tryd.prog 15 #[.int .i64 5] w fun e w' => e = .returned (.string (dec 5)) ∧ Ext w w' := by
  go_enter Tryd.func15, Tryd.ntmps15
  go_wp2_with (rw [conv1 53 _ _ (by omega) (Blk.new _ [.int .u8 53] _)])
  go_ret
  exact ⟨by kernel_rfl, by repeat (first | exact Ext.refl _ | assumption | refine Ext.drew ?_ | refine Ext.alloc ?_ _ | refine Ext.trans ?_ (by assumption))⟩

set_option maxRecDepth 100000 in
set_option maxHeartbeats 2000000 in
theorem sdec_6 (w : World) : Calls Tryd.prog 15 #[.int .i64 6] w fun e w' => e = .returned (.string (dec 6)) ∧ Ext w w' := by
  go_enter Tryd.func15, Tryd.ntmps15
  go_wp2_with (rw [conv1 54 _ _ (by omega) (Blk.new _ [.int .u8 54] _)])
  go_ret
  exact ⟨by kernel_rfl, by repeat (first | exact Ext.refl _ | assumption | refine Ext.drew ?_ | refine Ext.alloc ?_ _ | refine Ext.trans ?_ (by assumption))⟩

set_option maxRecDepth 100000 in
set_option maxHeartbeats 2000000 in
theorem sdec_7 (w : World) : Calls Tryd.prog 15 #[.int .i64 7] w fun e w' => e = .returned (.string (dec 7)) ∧ Ext w w' := by
  go_enter Tryd.func15, Tryd.ntmps15
  go_wp2_with (rw [conv1 55 _ _ (by omega) (Blk.new _ [.int .u8 55] _)])
  go_ret
  exact ⟨by kernel_rfl, by repeat (first | exact Ext.refl _ | assumption | refine Ext.drew ?_ | refine Ext.alloc ?_ _ | refine Ext.trans ?_ (by assumption))⟩

set_option maxRecDepth 100000 in
set_option maxHeartbeats 2000000 in
theorem sdec_8 (w : World) : Calls Tryd.prog 15 #[.int .i64 8] w fun e w' => e = .returned (.string (dec 8)) ∧ Ext w w' := by
  go_enter Tryd.func15, Tryd.ntmps15
  go_wp2_with (rw [conv1 56 _ _ (by omega) (Blk.new _ [.int .u8 56] _)])
  go_ret
  exact ⟨by kernel_rfl, by repeat (first | exact Ext.refl _ | assumption | refine Ext.drew ?_ | refine Ext.alloc ?_ _ | refine Ext.trans ?_ (by assumption))⟩

set_option maxRecDepth 100000 in
set_option maxHeartbeats 2000000 in
theorem sdec_11 (w : World) : Calls Tryd.prog 15 #[.int .i64 11] w fun e w' => e = .returned (.string (dec 11)) ∧ Ext w w' := by
  have hv49 : IntKind.i64.wrap 49 = 49 := rfl
  have hu49 : IntKind.u8.wrap 49 = 49 := rfl
  have hw1 : IntKind.i64.wrap 1 = 1 := rfl
  go_enter Tryd.func15, Tryd.ntmps15
  go_wp2_with fail
  go_region_with (first | (go_at_call 15; ((with_reducible refine (sdec_1 _).mono ?_); rintro e w' ⟨rfl, hx⟩)) | (rw [conv1 49] <;> first | omega | exact Blk.new _ [.int .u8 49] _ | exact Blk.keep (Blk.new _ [.int .u8 49] _) (by assumption) | exact Blk.keep (Blk.new _ [.int .u8 49] _) ((Ext.drew (Ext.refl _)).trans (by assumption)) | skip))
  all_goals go_wp2
  all_goals (go_ret; exact ⟨by kernel_rfl, by repeat (first | exact Ext.refl _ | assumption | refine Ext.drew ?_ | refine Ext.alloc ?_ _ | refine Ext.trans ?_ (by assumption))⟩)

set_option maxRecDepth 100000 in
set_option maxHeartbeats 2000000 in
theorem sdec_12 (w : World) : Calls Tryd.prog 15 #[.int .i64 12] w fun e w' => e = .returned (.string (dec 12)) ∧ Ext w w' := by
  have hv50 : IntKind.i64.wrap 50 = 50 := rfl
  have hu50 : IntKind.u8.wrap 50 = 50 := rfl
  have hw1 : IntKind.i64.wrap 1 = 1 := rfl
  go_enter Tryd.func15, Tryd.ntmps15
  go_wp2_with fail
  go_region_with (first | (go_at_call 15; ((with_reducible refine (sdec_1 _).mono ?_); rintro e w' ⟨rfl, hx⟩)) | (rw [conv1 50] <;> first | omega | exact Blk.new _ [.int .u8 50] _ | exact Blk.keep (Blk.new _ [.int .u8 50] _) (by assumption) | exact Blk.keep (Blk.new _ [.int .u8 50] _) ((Ext.drew (Ext.refl _)).trans (by assumption)) | skip))
  all_goals go_wp2
  all_goals (go_ret; exact ⟨by kernel_rfl, by repeat (first | exact Ext.refl _ | assumption | refine Ext.drew ?_ | refine Ext.alloc ?_ _ | refine Ext.trans ?_ (by assumption))⟩)

set_option maxRecDepth 100000 in
set_option maxHeartbeats 2000000 in
theorem sdec_13 (w : World) : Calls Tryd.prog 15 #[.int .i64 13] w fun e w' => e = .returned (.string (dec 13)) ∧ Ext w w' := by
  have hv51 : IntKind.i64.wrap 51 = 51 := rfl
  have hu51 : IntKind.u8.wrap 51 = 51 := rfl
  have hw1 : IntKind.i64.wrap 1 = 1 := rfl
  go_enter Tryd.func15, Tryd.ntmps15
  go_wp2_with fail
  go_region_with (first | (go_at_call 15; ((with_reducible refine (sdec_1 _).mono ?_); rintro e w' ⟨rfl, hx⟩)) | (rw [conv1 51] <;> first | omega | exact Blk.new _ [.int .u8 51] _ | exact Blk.keep (Blk.new _ [.int .u8 51] _) (by assumption) | exact Blk.keep (Blk.new _ [.int .u8 51] _) ((Ext.drew (Ext.refl _)).trans (by assumption)) | skip))
  all_goals go_wp2
  all_goals (go_ret; exact ⟨by kernel_rfl, by repeat (first | exact Ext.refl _ | assumption | refine Ext.drew ?_ | refine Ext.alloc ?_ _ | refine Ext.trans ?_ (by assumption))⟩)

end Go.Proofs.YtjloobghfggakaaDoor
