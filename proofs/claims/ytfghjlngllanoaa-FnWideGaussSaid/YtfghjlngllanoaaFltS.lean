/- The float of a surd, as a plain function of its numbers. No program in sight. -/
import Derived.Test.YtfghjlngllanoaaFltC
namespace Go.Proofs.Ytfghjlngllanoaa
open Ieee
set_option linter.unusedVariables false
set_option maxRecDepth 100000
def fm1 (f : Nat → Int) : Nat := kMul .f64 (floatOfInt .f64 (f 1)) 4609047870845172685
def fs1 (f : Nat → Int) : Nat := kAdd .f64 (floatOfInt .f64 (f 0)) (fm1 f)
def fm2 (f : Nat → Int) : Nat := kMul .f64 (floatOfInt .f64 (f 2)) 4610479282544200874
def fs2 (f : Nat → Int) : Nat := kAdd .f64 (fs1 f) (fm2 f)
def fm3 (f : Nat → Int) : Nat := kMul .f64 (floatOfInt .f64 (f 3)) 4612698179346440494
def fs3 (f : Nat → Int) : Nat := kAdd .f64 (fs2 f) (fm3 f)
def fq (f : Nat → Int) : Nat := (floatBits .quo .f64 (fs3 f) 4616189618054758400).getD 0
theorem c2_ok : KB .f64 1 4609047870845172685 := bd_of_check (by decide +kernel)
theorem c3_ok : KB .f64 1 4610479282544200874 := bd_of_check (by decide +kernel)
theorem c6_ok : KB .f64 2 4612698179346440494 := bd_of_check (by decide +kernel)
theorem fsum_ok {f : Nat → Int} (hf : ∀ j, j < 4 → -10000000 ≤ f j ∧ f j ≤ 10000000) :
    floatBits .mul .f64 (floatOfInt .f64 (f 1)) 4609047870845172685 = some (fm1 f) ∧ floatBits .add .f64 (floatOfInt .f64 (f 0)) (fm1 f) = some (fs1 f)
    ∧ floatBits .mul .f64 (floatOfInt .f64 (f 2)) 4610479282544200874 = some (fm2 f) ∧ floatBits .add .f64 (fs1 f) (fm2 f) = some (fs2 f)
    ∧ floatBits .mul .f64 (floatOfInt .f64 (f 3)) 4612698179346440494 = some (fm3 f) ∧ floatBits .add .f64 (fs2 f) (fm3 f) = some (fs3 f)
    ∧ floatBits .quo .f64 (fs3 f) 4616189618054758400 = some (fq f) ∧ KB .f64 28 (fq f) := by
  have k0 := kInt_ok .f64 (f 0) 24 (by have := hf 0 (by omega); omega) (by omega)
  have k1 := kInt_ok .f64 (f 1) 24 (by have := hf 1 (by omega); omega) (by omega)
  have k2 := kInt_ok .f64 (f 2) 24 (by have := hf 2 (by omega); omega) (by omega)
  have k3 := kInt_ok .f64 (f 3) 24 (by have := hf 3 (by omega); omega) (by omega)
  have m1 := kMul_ok k1 c2_ok (by omega)
  have s1 := kAdd_ok (k0.mono (show 24 ≤ 25 by omega)) (m1.2.mono (show 24 + 1 ≤ 25 by omega)) (by omega)
  have m2 := kMul_ok k2 c3_ok (by omega)
  have s2 := kAdd_ok s1.2 (m2.2.mono (show 24 + 1 ≤ 25 + 1 by omega)) (by omega)
  have m3 := kMul_ok k3 c6_ok (by omega)
  have s3 := kAdd_ok s2.2 (m3.2.mono (show 24 + 2 ≤ 25 + 1 + 1 by omega)) (by omega)
  obtain ⟨z, hz, hb⟩ := s3.2.mono (show 25 + 1 + 1 + 1 ≤ 28 by omega)
  have u1 : oneU FloatKind.f64.format = 1074 := oneU_double
  obtain ⟨r, c, h1, h2, h3, _⟩ := quo4_ok hz (28 + oneU FloatKind.f64.format) hb (by rw [u1]; omega)
  have e : fq f = r := by unfold fq fs3 fs2 fs1 fm3 fm2 fm1; rw [h1]; rfl
  refine ⟨m1.1, s1.1, m2.1, s2.1, m3.1, s3.1, ?_, ?_⟩
  · rw [e]; exact h1
  · rw [e]; exact ⟨c, h2, h3⟩

end Go.Proofs.Ytfghjlngllanoaa
