/- Texts of turns: TurnText of every number, and slices.Index over the 24 texts. -/
import Derived.Test.YtjloobghfggakaaDoorTxtI
import Derived.Test.YtjloobghfggakaaDoorTxtV
import Derived.Test.YtjloobghfggakaaDoorTxtW
import Derived.Test.YtjloobghfggakaaDoorTxtX
import Derived.LoopTactic
import Derived.IntWalk
namespace Go.Proofs.YtjloobghfggakaaDoor
open Go.ChangeShapes Go.WideShapes Go.ChangeAt Go.RowKit
set_option linter.unusedVariables false

theorem stext_0 (w : World) : Calls Tryd.prog 7 #[.int .i64 (0 : Nat)] w fun e w' => e = .returned (.string (dec 0)) ∧ Ext w w' := by
  go_enter Tryd.func7, Tryd.ntmps7
  go_wp2_with (first | (go_at_call 13; ((with_reducible refine (l1Is_any _ _).mono ?_); rintro e w' ⟨rfl, rfl⟩)) | fail)
  go_ret
  exact ⟨by kernel_rfl, Ext.refl _⟩
theorem stext_small (t : Nat) (h : t < 24) (w : World) : Calls Tryd.prog 7 #[.int .i64 (t : Nat)] w fun e w' => e = .returned (.string (txt t)) ∧ Ext w w' := by
  obtain rfl | rfl | rfl | rfl | rfl | rfl | rfl | rfl | rfl | rfl | rfl | rfl | rfl | rfl | rfl | rfl | rfl | rfl | rfl | rfl | rfl | rfl | rfl | rfl : t = 0 ∨ t = 1 ∨ t = 2 ∨ t = 3 ∨ t = 4 ∨ t = 5 ∨ t = 6 ∨ t = 7 ∨ t = 8 ∨ t = 9 ∨ t = 10 ∨ t = 11 ∨ t = 12 ∨ t = 13 ∨ t = 14 ∨ t = 15 ∨ t = 16 ∨ t = 17 ∨ t = 18 ∨ t = 19 ∨ t = 20 ∨ t = 21 ∨ t = 22 ∨ t = 23 := by omega
  · exact stext_0 w
  · exact stext_1 w
  · exact stext_2 w
  · exact stext_3 w
  · exact stext_4 w
  · exact stext_5 w
  · exact stext_6 w
  · exact stext_7 w
  · exact stext_8 w
  · exact stext_9 w
  · exact stext_10 w
  · exact stext_11 w
  · exact stext_12 w
  · exact stext_13 w
  · exact stext_14 w
  · exact stext_15 w
  · exact stext_16 w
  · exact stext_17 w
  · exact stext_18 w
  · exact stext_19 w
  · exact stext_20 w
  · exact stext_21 w
  · exact stext_22 w
  · exact stext_23 w
theorem sTurnText_any (t : Int) (w : World) : Calls Tryd.prog 7 #[.int .i64 t] w fun e w' => e = .returned (.string (textM t)) ∧ Ext w w' := by
  by_cases ht : inR 0 23 t = true
  · obtain ⟨t1, t2⟩ := inR_of ht
    obtain ⟨k, rfl⟩ := Int.eq_ofNat_of_zero_le t1
    rw [textM_in (by omega)]
    exact stext_small k (by omega) w
  · have ht' : inR 0 23 t = false := by simpa using ht
    rw [textM_out ht']
    go_enter Tryd.func7, Tryd.ntmps7
    go_wp2_with (first | (go_at_call 13; ((with_reducible refine (l1Is_any _ _).mono ?_); rintro e w' ⟨rfl, rfl⟩)) | fail)
    go_ret
    exact ⟨rfl, Ext.refl _⟩

end Go.Proofs.YtjloobghfggakaaDoor
