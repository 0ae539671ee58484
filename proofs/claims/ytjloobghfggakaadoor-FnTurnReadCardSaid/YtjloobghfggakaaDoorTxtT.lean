/- Texts of turns, impl: (turn).text, all. Written by mk_txtt.py. -/
import Derived.Test.YtjloobghfggakaaDoorTxtA
import Derived.Test.YtjloobghfggakaaDoorTxtB
import Derived.Test.YtjloobghfggakaaDoorTxtD
namespace Go.Proofs.YtjloobghfggakaaDoor
open Go.ChangeShapes Go.WideShapes Go.ChangeAt Go.RowKit
set_option linter.unusedVariables false

theorem text_0 (w : World) : Calls Tryd.prog 25 #[.int .i64 (0 : Nat)] w fun e w' => e = .returned (.string (dec 0)) ∧ Ext w w' := by
  go_enter Tryd.func25, Tryd.ntmps25
  go_wp2
  go_ret
  exact ⟨by kernel_rfl, Ext.refl _⟩

/-- the text of a turn -/
def txt (t : Nat) : ByteArray := if t = 0 then dec 0 else dec (t / Nat.gcd t 24) ++ slash ++ dec (24 / Nat.gcd t 24)
theorem text_any (t : Nat) (h : t < 24) (w : World) : Calls Tryd.prog 25 #[.int .i64 (t : Nat)] w fun e w' => e = .returned (.string (txt t)) ∧ Ext w w' := by
  obtain rfl | rfl | rfl | rfl | rfl | rfl | rfl | rfl | rfl | rfl | rfl | rfl | rfl | rfl | rfl | rfl | rfl | rfl | rfl | rfl | rfl | rfl | rfl | rfl : t = 0 ∨ t = 1 ∨ t = 2 ∨ t = 3 ∨ t = 4 ∨ t = 5 ∨ t = 6 ∨ t = 7 ∨ t = 8 ∨ t = 9 ∨ t = 10 ∨ t = 11 ∨ t = 12 ∨ t = 13 ∨ t = 14 ∨ t = 15 ∨ t = 16 ∨ t = 17 ∨ t = 18 ∨ t = 19 ∨ t = 20 ∨ t = 21 ∨ t = 22 ∨ t = 23 := by omega
  · exact text_0 w
  · exact text_1 w
  · exact text_2 w
  · exact text_3 w
  · exact text_4 w
  · exact text_5 w
  · exact text_6 w
  · exact text_7 w
  · exact text_8 w
  · exact text_9 w
  · exact text_10 w
  · exact text_11 w
  · exact text_12 w
  · exact text_13 w
  · exact text_14 w
  · exact text_15 w
  · exact text_16 w
  · exact text_17 w
  · exact text_18 w
  · exact text_19 w
  · exact text_20 w
  · exact text_21 w
  · exact text_22 w
  · exact text_23 w

end Go.Proofs.YtjloobghfggakaaDoor
