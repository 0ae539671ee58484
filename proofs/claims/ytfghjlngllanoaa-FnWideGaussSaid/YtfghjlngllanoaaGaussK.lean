/- Wide numbers that are drawn, as Gaussian numbers: their words, checked one by one. -/
import Derived.Test.YtfghjlngllanoaaWideK
import Derived.Test.YtfghjlngllanoaaCyc2
namespace Go.Proofs.Ytfghjlngllanoaa
open Ieee
set_option linter.unusedVariables false
set_option maxRecDepth 100000
def trW (x : Nat) : Nat := FloatKind.f64.encode ((FloatKind.f64.decode x).integral .zero)
def eqW (x y : Nat) : Bool := FloatKind.f64.format.order x y == some .eq
def guardW (x : Nat) : Bool := leP (x % 9223372036854775808) 4696837146684686336
def intW (x : Nat) : Int := (floatToIntVal .f64 x .i64).getD 0
def isNumW (x : Nat) : Bool := match FloatKind.f64.decode x with | .number .. => true | _ => false
def chkW (x : Nat) : Bool := (isNumW x || !guardW x) && ((geP x 13920209183539462144 && leP x 4696837146684686336) == guardW x)
  && (!guardW x || (floatToIntVal .f64 x .i64 == some (intW x) && decide (-20 ≤ intW x) && decide (intW x ≤ 20) && (eqW (floatOfInt .f64 (intW x)) x == eqW x (trW x))))
/-- x is a whole number -/
def okW (x : Nat) : Bool := guardW x && eqW x (trW x)
set_option maxRecDepth 100000 in
theorem chkW_all : (wordL.all fun a => chkW a) = true := by decide +kernel
theorem of_all {l : List Nat} {p : Nat → Bool} (h : l.all p = true) {a : Nat} (ha : a ∈ l) : p a = true := by rw [List.all_eq_true] at h; exact h a ha
/-- a whole number as the sum that a point of it is -/
def XW (k : FloatKind) (n : Int) : Nat := kAdd k 0 (kMul k (floatOfInt k n) (rootRe k 0))
/-- zero below -/
def nzW (k : FloatKind) : Nat := k.format.signWeight
def zz (k : FloatKind) (t : Nat) : Bool := t == 0 || t == nzW k
def chkX (k : FloatKind) (i : Nat) : Bool := (kAdd k (XW k (Int.ofNat i - 20)) 0 == XW k (Int.ofNat i - 20)) && (kAdd k (XW k (Int.ofNat i - 20)) (nzW k) == XW k (Int.ofNat i - 20))
  && zz k (kMul k (floatOfInt k (Int.ofNat i - 20)) (rootRe k 6)) && zz k (kMul k (floatOfInt k (Int.ofNat i - 20)) (rootIm k 0))
def chkZ (k : FloatKind) (i : Nat) : Bool := zz k (kMul k (floatOfInt k 0) (rootRe k i)) && zz k (kMul k (floatOfInt k 0) (rootIm k i))
set_option maxRecDepth 100000 in
theorem chkX_all (k : FloatKind) : ((List.range 41).all fun i => chkX k i) = true := by cases k <;> decide +kernel
theorem chkZ_all (k : FloatKind) : ((List.range 8).all fun i => chkZ k i) = true := by cases k <;> decide +kernel
theorem zeros (k : FloatKind) : kAdd k 0 0 = 0 ∧ kAdd k 0 (nzW k) = 0 ∧ rootIm k 6 = rootRe k 0 := by cases k <;> decide +kernel
def chkE (x : Nat) : Bool := !okW x || (eqW (XW .f64 (intW x)) x && eqW (widen (XW .f32 (intW x))) (XW .f64 (intW x)))
set_option maxRecDepth 100000 in
theorem chkE_all : (wordL.all fun x => chkE x) = true := by decide +kernel
theorem zz_of {k : FloatKind} {t : Nat} (h : zz k t = true) : t = 0 ∨ t = nzW k := by unfold zz at h; simpa using h
theorem X_of (k : FloatKind) {n : Int} (h1 : -20 ≤ n) (h2 : n ≤ 20) : (∀ t, t = 0 ∨ t = nzW k → kAdd k (XW k n) t = XW k n) ∧ (kMul k (floatOfInt k n) (rootRe k 6) = 0 ∨ kMul k (floatOfInt k n) (rootRe k 6) = nzW k)
    ∧ (kMul k (floatOfInt k n) (rootIm k 0) = 0 ∨ kMul k (floatOfInt k n) (rootIm k 0) = nzW k) := by
  obtain ⟨i, hi, rfl⟩ : ∃ i : Nat, i < 41 ∧ n = Int.ofNat i - 20 := ⟨(n + 20).toNat, by omega, by simp; omega⟩
  have := of_all (chkX_all k) (List.mem_range.2 hi)
  unfold chkX at this
  simp only [Bool.and_eq_true, beq_iff_eq] at this
  obtain ⟨⟨⟨a1, a2⟩, a3⟩, a4⟩ := this
  refine ⟨?_, zz_of a3, zz_of a4⟩
  rintro t (rfl | rfl)
  · exact a1
  · exact a2
theorem Z_of (k : FloatKind) {i : Nat} (h : i < 8) : (kMul k (floatOfInt k 0) (rootRe k i) = 0 ∨ kMul k (floatOfInt k 0) (rootRe k i) = nzW k) ∧ (kMul k (floatOfInt k 0) (rootIm k i) = 0 ∨ kMul k (floatOfInt k 0) (rootIm k i) = nzW k) := by
  have := of_all (chkZ_all k) (List.mem_range.2 h)
  unfold chkZ at this
  simp only [Bool.and_eq_true] at this
  exact ⟨zz_of this.1, zz_of this.2⟩
theorem zero_add' {k : FloatKind} {t : Nat} (h : t = 0 ∨ t = nzW k) : kAdd k 0 t = 0 := by
  rcases h with rfl | rfl
  · exact (zeros k).1
  · exact (zeros k).2.1
theorem re_gauss (k : FloatKind) {a b : Int} (a1 : -20 ≤ a) (a2 : a ≤ 20) (b1 : -20 ≤ b) (b2 : b ≤ 20) (i : Nat) (h : i + 1 ≤ 8) : (pointP k (gaussF a b) (i + 1)).1 = XW k a := by
  induction i with
  | zero => rfl
  | succ i ih =>
    have e := ih (by omega)
    show kAdd k (pointP k (gaussF a b) (i + 1)).1 (kMul k (floatOfInt k (gaussF a b (i + 1))) (rootRe k (i + 1))) = XW k a
    rw [e]
    apply (X_of k a1 a2).1
    by_cases h6 : i + 1 = 6
    · rw [h6]; exact (X_of k b1 b2).2.1
    · have : gaussF a b (i + 1) = 0 := by unfold gaussF; rw [if_neg (by omega), if_neg h6]
      rw [this]
      exact (Z_of k (by omega)).1
theorem im_gauss0 (k : FloatKind) {a b : Int} (a1 : -20 ≤ a) (a2 : a ≤ 20) (i : Nat) (h : i ≤ 6) : (pointP k (gaussF a b) i).2 = 0 := by
  induction i with
  | zero => rfl
  | succ i ih =>
    have e := ih (by omega)
    show kAdd k (pointP k (gaussF a b) i).2 (kMul k (floatOfInt k (gaussF a b i)) (rootIm k i)) = 0
    rw [e]
    apply zero_add'
    by_cases h0 : i = 0
    · subst h0; exact (X_of k a1 a2).2.2
    · have : gaussF a b i = 0 := by unfold gaussF; rw [if_neg h0, if_neg (by omega)]
      rw [this]
      exact (Z_of k (by omega)).2
theorem im_gauss (k : FloatKind) {a b : Int} (a1 : -20 ≤ a) (a2 : a ≤ 20) (b1 : -20 ≤ b) (b2 : b ≤ 20) : (pointP k (gaussF a b) 8).2 = XW k b := by
  have e6 := im_gauss0 k (b := b) a1 a2 6 (by omega)
  have e7 : (pointP k (gaussF a b) 7).2 = XW k b := by
    show kAdd k (pointP k (gaussF a b) 6).2 (kMul k (floatOfInt k b) (rootIm k 6)) = XW k b
    rw [e6, (zeros k).2.2]; rfl
  show kAdd k (pointP k (gaussF a b) 7).2 (kMul k (floatOfInt k 0) (rootIm k 7)) = XW k b
  rw [e7]
  exact (X_of k b1 b2).1 _ (Z_of k (by omega)).2

end Go.Proofs.Ytfghjlngllanoaa
