/- Wide numbers that are drawn: their words, checked one by one. -/
import Derived.Test.YtfghjlngllanoaaPtA
namespace Go.Proofs.Ytfghjlngllanoaa
open Ieee
set_option linter.unusedVariables false
set_option maxRecDepth 100000
/-- the words that a part may be -/
def wordL : List Nat := [9223372036854775808, 4602678819172646912, 9218868437227405312] ++ (List.range 41).map fun (i : Nat) => floatOfInt .f64 (Int.ofNat i - 20)
def mostL : List Nat := [0, 4607182418800017408, 4636737291354636288, 13830554455654793216, 4602678819172646912]
def leP (x y : Nat) : Bool := FloatKind.f64.format.order x y == some .lt || FloatKind.f64.format.order x y == some .eq
def geP (x y : Nat) : Bool := FloatKind.f64.format.order x y == some .gt || FloatKind.f64.format.order x y == some .eq
/-- a part of the difference is at most m -/
def nB (a b m : Nat) : Bool := match floatBits .sub .f64 a b with | some d => leP (d % 9223372036854775808) m | none => false
def most1 (m : Nat) : Nat := (floatBits .add .f64 m 4607182418800017408).getD 0
def chkN (a b m : Nat) : Bool := match floatBits .sub .f64 a b with
  | none => true
  | some d => (leP d m && geP d (Go.Op.negFloat .f64 m)) == leP (d % 9223372036854775808) m &&
     (!leP (d % 9223372036854775808) m || (nB b a m && leP (d % 9223372036854775808) (most1 m)))
set_option maxRecDepth 100000 in
theorem chk_all : (wordL.all fun a => wordL.all fun b => mostL.all fun m => chkN a b m) = true := by decide +kernel
theorem self_all : (wordL.all fun a => FloatKind.f64.format.order a a == some .eq) = true := by decide +kernel
theorem most_all : (mostL.all fun m => floatBits .add .f64 m 4607182418800017408 == some (most1 m)) = true := by decide +kernel

end Go.Proofs.Ytfghjlngllanoaa
