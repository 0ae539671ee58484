/- The floats of the roots and of the points (chapter 4), as plain functions of the coefficients. No program in sight. -/
import Derived.Test.YtfghjlngllanoaaFltB
namespace Go.Proofs.Ytfghjlngllanoaa
open Ieee
set_option linter.unusedVariables false
set_option maxRecDepth 100000
/-- the parts of the wide roots -/
def rRe : Nat → Nat | 0 => 4607182418800017408 | 1 => 4606875505927962389 | 2 => 4605975682916830378 | 3 => 4604544271217802189 | 4 => 4602678819172646912 | 5 => 4598334089338226320 | 6 => 0 | _ => 13821706126193002128
def rIm : Nat → Nat | 0 => 0 | 1 => 4598334089338226320 | 2 => 4602678819172646912 | 3 => 4604544271217802189 | 4 => 4605975682916830378 | 5 => 4606875505927962389 | 6 => 4607182418800017408 | _ => 4606875505927962389
/-- the parts of the roots of a width -/
def rootRe (k : FloatKind) (i : Nat) : Nat := (floatToFloatBits .f64 (rRe i) k).getD 0
def rootIm (k : FloatKind) (i : Nat) : Nat := (floatToFloatBits .f64 (rIm i) k).getD 0
theorem root_conv (k : FloatKind) : ∀ i, i < 8 → cConvBits .f64 (rRe i) (rIm i) k = some (rootRe k i, rootIm k i) := by
  cases k <;> decide +kernel
theorem root_check (k : FloatKind) : ∀ i, i < 8 → (bdCheck k.format (oneU k.format) (rootRe k i) && bdCheck k.format (oneU k.format) (rootIm k i)) = true := by
  cases k <;> decide +kernel
theorem rootRe_ok (k : FloatKind) {i : Nat} (h : i < 8) : KB k 0 (rootRe k i) := by
  have := root_check k i h
  simp only [Bool.and_eq_true] at this
  have e : 0 + oneU k.format = oneU k.format := by omega
  unfold KB; rw [e]
  exact bd_of_check this.1
theorem rootIm_ok (k : FloatKind) {i : Nat} (h : i < 8) : KB k 0 (rootIm k i) := by
  have := root_check k i h
  simp only [Bool.and_eq_true] at this
  have e : 0 + oneU k.format = oneU k.format := by omega
  unfold KB; rw [e]
  exact bd_of_check this.2
theorem zero_ok (k : FloatKind) (E : Nat) : KB k E 0 := by
  have h : bdCheck k.format 0 0 = true := by cases k <;> decide +kernel
  exact Bd.mono (bd_of_check h) (by omega)
theorem rootRe_f64 (i : Nat) : rootRe .f64 i = rRe i := by simp [rootRe, floatToFloatBits]
theorem rootIm_f64 (i : Nat) : rootIm .f64 i = rIm i := by simp [rootIm, floatToFloatBits]
/-- a coefficient times a root -/
def termRe (k : FloatKind) (c : Int) (i : Nat) : Nat := kMul k (floatOfInt k c) (rootRe k i)
def termIm (k : FloatKind) (c : Int) (i : Nat) : Nat := kMul k (floatOfInt k c) (rootIm k i)
/-- the sum of the first i terms -/
def pointP (k : FloatKind) (f : Nat → Int) : Nat → Nat × Nat
  | 0 => (0, 0)
  | i + 1 => (kAdd k (pointP k f i).1 (termRe k (f i) i), kAdd k (pointP k f i).2 (termIm k (f i) i))
theorem coef_bd {c : Int} (h : -1000000 ≤ c ∧ c ≤ 1000000) : c.natAbs ≤ 2 ^ 20 := by omega
theorem termRe_ok (k : FloatKind) {c : Int} {i : Nat} (hc : -1000000 ≤ c ∧ c ≤ 1000000) (h : i < 8) : floatBits .mul k (floatOfInt k c) (rootRe k i) = some (termRe k c i) ∧ KB k 20 (termRe k c i) :=
  kMul_ok (kInt_ok k c 20 (coef_bd hc) (by omega)) (rootRe_ok k h) (by omega)
theorem termIm_ok (k : FloatKind) {c : Int} {i : Nat} (hc : -1000000 ≤ c ∧ c ≤ 1000000) (h : i < 8) : floatBits .mul k (floatOfInt k c) (rootIm k i) = some (termIm k c i) ∧ KB k 20 (termIm k c i) :=
  kMul_ok (kInt_ok k c 20 (coef_bd hc) (by omega)) (rootIm_ok k h) (by omega)
theorem pointP_ok (k : FloatKind) {f : Nat → Int} (hf : ∀ j, j < 8 → -1000000 ≤ f j ∧ f j ≤ 1000000) (i : Nat) (h : i ≤ 8) : KB k (20 + i) (pointP k f i).1 ∧ KB k (20 + i) (pointP k f i).2 := by
  induction i with
  | zero => exact ⟨zero_ok k _, zero_ok k _⟩
  | succ i ih =>
    obtain ⟨h1, h2⟩ := ih (by omega)
    exact ⟨(kAdd_ok h1 ((termRe_ok k (hf i (by omega)) (by omega)).2.mono (by omega)) (by omega)).2, (kAdd_ok h2 ((termIm_ok k (hf i (by omega)) (by omega)).2.mono (by omega)) (by omega)).2⟩
theorem point_step (k : FloatKind) {f : Nat → Int} (hf : ∀ j, j < 8 → -1000000 ≤ f j ∧ f j ≤ 1000000) (i : Nat) (h : i < 8) :
    cSumBits .add k (pointP k f i).1 (pointP k f i).2 (termRe k (f i) i) (termIm k (f i) i) = some ((pointP k f (i + 1)).1, (pointP k f (i + 1)).2) := by
  obtain ⟨h1, h2⟩ := pointP_ok k hf i (by omega)
  have a := (kAdd_ok h1 ((termRe_ok k (hf i (by omega)) h).2.mono (by omega)) (by omega)).1
  have b := (kAdd_ok h2 ((termIm_ok k (hf i (by omega)) h).2.mono (by omega)) (by omega)).1
  simp [cSumBits, a, b, pointP]
/-- a single point as a wide one -/
def widen (x : Nat) : Nat := (floatToFloatBits .f32 x .f64).getD 0
theorem widen_ok {E x : Nat} (h : KB .f32 E x) (hE : E ≤ 60) : floatToFloatBits .f32 x .f64 = some (widen x) ∧ KB .f64 E (widen x) := by
  obtain ⟨r, h1, h2⟩ := conv_ok h hE
  have : widen x = r := by simp [widen, h1]
  rw [this]; exact ⟨h1, h2⟩
theorem widen_conv {E F x y : Nat} (h : KB .f32 E x) (h' : KB .f32 F y) (hE : E ≤ 60) (hF : F ≤ 60) : cConvBits .f32 x y .f64 = some (widen x, widen y) := by
  simp [cConvBits, (widen_ok h hE).1, (widen_ok h' hF).1]

end Go.Proofs.Ytfghjlngllanoaa
