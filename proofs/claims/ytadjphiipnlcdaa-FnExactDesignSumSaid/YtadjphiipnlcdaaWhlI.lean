/- Wheels: slices.SortFunc at the wheels' order, for 12 wheels or fewer. -/
import Derived.Test.YtadjphiipnlcdaaWhlG
namespace Go.Proofs.Ytadjphiipnlcdaa
open Go.ChangeShapes Go.WideShapes Go.ChangeAt Go.RowKit
set_option linter.unusedVariables false
set_option maxRecDepth 100000


/-- math/bits.Len of a small number: some number -/
theorem bitsLen_any (n : Nat) (hn : n ≤ 12) (w : World) : Calls Try.prog 69 #[.int .u64 (n : Int)] w fun e w' => ∃ z : Int, e = .returned (.int .i64 z) ∧ w = w' := by
  obtain rfl | rfl | rfl | rfl | rfl | rfl | rfl | rfl | rfl | rfl | rfl | rfl | rfl : n = 0 ∨ n = 1 ∨ n = 2 ∨ n = 3 ∨ n = 4 ∨ n = 5 ∨ n = 6 ∨ n = 7 ∨ n = 8 ∨ n = 9 ∨ n = 10 ∨ n = 11 ∨ n = 12 := by omega
  all_goals
    go_enter Try.func69, Try.ntmps69
    go_wp2
    go_ret
    exact ⟨_, rfl, rfl⟩

def cmpI (a b : Int) : Int := if a < b then -1 else if b < a then 1 else 0
theorem compare_any (a b : Int) (w : World) : Calls Try.prog 55 #[.int .i64 a, .int .i64 b] w fun e w' => e = .returned (.int .i64 (cmpI a b)) ∧ w = w' := by
  by_cases h1 : a < b
  · have e : cmpI a b = -1 := by simp [cmpI, h1]
    rw [e]
    go_enter Try.func55, Try.ntmps55
    go_wp2
    go_ret
    exact ⟨rfl, rfl⟩
  · by_cases h2 : b < a
    · have e : cmpI a b = 1 := by simp [cmpI, h1, h2]
      rw [e]
      go_enter Try.func55, Try.ntmps55
      go_wp2
      go_ret
      exact ⟨rfl, rfl⟩
    · have e : cmpI a b = 0 := by simp [cmpI, h1, h2]
      rw [e]
      go_enter Try.func55, Try.ntmps55
      go_wp2
      go_ret
      exact ⟨rfl, rfl⟩

theorem cmp3_any (A B : Nat → Int) (w : World) : Calls Try.prog 54 #[whV A, whV B] w fun e w' => e = .returned (.int .i64 (cmpI (A 0) (B 0))) ∧ Ext w w' := by
  go_enter Try.func54, Try.ntmps54
  go_wp2_with (first | (go_at_call 55; ((with_reducible refine (compare_any _ _ _).mono ?_); rintro e w' ⟨rfl, rfl⟩)) | fail)
  go_ret
  exact ⟨rfl, by repeat (first | exact Ext.refl _ | assumption | refine Ext.drew ?_ | refine Ext.alloc ?_ _ | refine Ext.trans ?_ (by assumption))⟩

end Go.Proofs.Ytadjphiipnlcdaa
