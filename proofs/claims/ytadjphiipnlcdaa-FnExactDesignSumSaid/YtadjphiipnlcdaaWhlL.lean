/- Wheels: slices.pdqsortCmpFunc and slices.SortFunc at 12 wheels or fewer. -/
import Derived.Test.YtadjphiipnlcdaaWhlJ
import Derived.Test.YtadjphiipnlcdaaWhlI
namespace Go.Proofs.Ytadjphiipnlcdaa
open Go.ChangeShapes Go.WideShapes Go.ChangeAt Go.RowKit
set_option linter.unusedVariables false
set_option maxRecDepth 100000


set_option maxHeartbeats 1000000 in
theorem pdq_any (base g n cap : Nat) (G : Nat → Nat → Int) (z : Int) (w : World) (hn : n ≤ 12) (h : OwnW w base (.slice (some ⟨g, 0, none⟩) n cap) n G) :
    Calls Try.prog 68 #[.slice (some ⟨g, 0, none⟩) n cap, .int .i64 0, .int .i64 (n : Int), .int .i64 z, .func (.func 54) #[] #[]] w (Sorted base g n cap G w) := by
  have q1 : (n : Int) ≤ 12 := by omega
  go_enter Try.func68, Try.ntmps68
  go_wp2
  refine wp_loop_rounds 1 ?_
  rw [rounds_succ]
  go_wp2_with fail
  refine (insertion_any base g n cap G _ hn h).mono ?_
  rintro e w2 ⟨rfl, H, hP, hS, ho, hx⟩
  have P := Lib.hid hP
  have S := Lib.hid hS
  clear hP hS
  go_wp2
  go_end0
  exact ⟨rfl, H, P.out, S.out, ho, hx⟩

set_option maxHeartbeats 1000000 in
theorem sortFunc_any (base g n cap : Nat) (G : Nat → Nat → Int) (w : World) (hn : n ≤ 12) (h : OwnW w base (.slice (some ⟨g, 0, none⟩) n cap) n G) :
    Calls Try.prog 53 #[.slice (some ⟨g, 0, none⟩) n cap, .func (.func 54) #[] #[]] w (Sorted base g n cap G w) := by
  go_enter Try.func53, Try.ntmps53
  go_wp2_with fail
  refine (bitsLen_any n hn _).mono ?_
  rintro e w1 ⟨z, rfl, rfl⟩
  go_wp2_with fail
  refine (pdq_any base g n cap G z _ hn h).mono ?_
  rintro e w2 ⟨rfl, H, hP, hS, ho, hx⟩
  have P := Lib.hid hP
  have S := Lib.hid hS
  clear hP hS
  go_wp2
  go_end0
  exact ⟨rfl, H, P.out, S.out, ho, hx⟩

end Go.Proofs.Ytadjphiipnlcdaa
