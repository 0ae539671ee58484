/- Texts of turns, spec: l6Dec, the rest. Written by mk_txts.py. -/
import Derived.Test.YtjloobghfggakaaDoorTxtS
namespace Go.Proofs.YtjloobghfggakaaDoor
open Go.ChangeShapes Go.WideShapes Go.ChangeAt Go.RowKit
set_option linter.unusedVariables false

set_option maxRecDepth 100000 in
set_option maxHeartbeats 2000000 in
theorem sdec_17 (w : World) : Calls Tryd.prog 15 #[.int .i64 17] w fun e w' => e = .returned (.string (dec 17)) ∧ Ext w w' := by
  have hv55 : IntKind.i64.wrap 55 = 55 := rfl
  have hu55 : IntKind.u8.wrap 55 = 55 := rfl
  have hw1 : IntKind.i64.wrap 1 = 1 := rfl
  go_enter Tryd.func15, Tryd.ntmps15
  go_wp2_with fail
  go_region_with (first | (go_at_call 15; ((with_reducible refine (sdec_1 _).mono ?_); rintro e w' ⟨rfl, hx⟩)) | (rw [conv1 55] <;> first | omega | exact Blk.new _ [.int .u8 55] _ | exact Blk.keep (Blk.new _ [.int .u8 55] _) (by assumption) | exact Blk.keep (Blk.new _ [.int .u8 55] _) ((Ext.drew (Ext.refl _)).trans (by assumption)) | skip))
  all_goals go_wp2
  all_goals (go_ret; exact ⟨by kernel_rfl, by repeat (first | exact Ext.refl _ | assumption | refine Ext.drew ?_ | refine Ext.alloc ?_ _ | refine Ext.trans ?_ (by assumption))⟩)

set_option maxRecDepth 100000 in
set_option maxHeartbeats 2000000 in
theorem sdec_19 (w : World) : Calls Tryd.prog 15 #[.int .i64 19] w fun e w' => e = .returned (.string (dec 19)) ∧ Ext w w' := by
  have hv57 : IntKind.i64.wrap 57 = 57 := rfl
  have hu57 : IntKind.u8.wrap 57 = 57 := rfl
  have hw1 : IntKind.i64.wrap 1 = 1 := rfl
  go_enter Tryd.func15, Tryd.ntmps15
  go_wp2_with fail
  go_region_with (first | (go_at_call 15; ((with_reducible refine (sdec_1 _).mono ?_); rintro e w' ⟨rfl, hx⟩)) | (rw [conv1 57] <;> first | omega | exact Blk.new _ [.int .u8 57] _ | exact Blk.keep (Blk.new _ [.int .u8 57] _) (by assumption) | exact Blk.keep (Blk.new _ [.int .u8 57] _) ((Ext.drew (Ext.refl _)).trans (by assumption)) | skip))
  all_goals go_wp2
  all_goals (go_ret; exact ⟨by kernel_rfl, by repeat (first | exact Ext.refl _ | assumption | refine Ext.drew ?_ | refine Ext.alloc ?_ _ | refine Ext.trans ?_ (by assumption))⟩)

set_option maxRecDepth 100000 in
set_option maxHeartbeats 2000000 in
theorem sdec_23 (w : World) : Calls Tryd.prog 15 #[.int .i64 23] w fun e w' => e = .returned (.string (dec 23)) ∧ Ext w w' := by
  have hv51 : IntKind.i64.wrap 51 = 51 := rfl
  have hu51 : IntKind.u8.wrap 51 = 51 := rfl
  have hw2 : IntKind.i64.wrap 2 = 2 := rfl
  go_enter Tryd.func15, Tryd.ntmps15
  go_wp2_with fail
  go_region_with (first | (go_at_call 15; ((with_reducible refine (sdec_2 _).mono ?_); rintro e w' ⟨rfl, hx⟩)) | (rw [conv1 51] <;> first | omega | exact Blk.new _ [.int .u8 51] _ | exact Blk.keep (Blk.new _ [.int .u8 51] _) (by assumption) | exact Blk.keep (Blk.new _ [.int .u8 51] _) ((Ext.drew (Ext.refl _)).trans (by assumption)) | skip))
  all_goals go_wp2
  all_goals (go_ret; exact ⟨by kernel_rfl, by repeat (first | exact Ext.refl _ | assumption | refine Ext.drew ?_ | refine Ext.alloc ?_ _ | refine Ext.trans ?_ (by assumption))⟩)

set_option maxRecDepth 100000 in
set_option maxHeartbeats 2000000 in
theorem sdec_24 (w : World) : Calls Tryd.prog 15 #[.int .i64 24] w fun e w' => e = .returned (.string (dec 24)) ∧ Ext w w' := by
  have hv52 : IntKind.i64.wrap 52 = 52 := rfl
  have hu52 : IntKind.u8.wrap 52 = 52 := rfl
  have hw2 : IntKind.i64.wrap 2 = 2 := rfl
  go_enter Tryd.func15, Tryd.ntmps15
  go_wp2_with fail
  go_region_with (first | (go_at_call 15; ((with_reducible refine (sdec_2 _).mono ?_); rintro e w' ⟨rfl, hx⟩)) | (rw [conv1 52] <;> first | omega | exact Blk.new _ [.int .u8 52] _ | exact Blk.keep (Blk.new _ [.int .u8 52] _) (by assumption) | exact Blk.keep (Blk.new _ [.int .u8 52] _) ((Ext.drew (Ext.refl _)).trans (by assumption)) | skip))
  all_goals go_wp2
  all_goals (go_ret; exact ⟨by kernel_rfl, by repeat (first | exact Ext.refl _ | assumption | refine Ext.drew ?_ | refine Ext.alloc ?_ _ | refine Ext.trans ?_ (by assumption))⟩)

end Go.Proofs.YtjloobghfggakaaDoor
