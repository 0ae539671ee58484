/- Plain facts on floats of the two widths: products and sums of bounded numbers, conversions, comparisons with themselves. No program in sight. -/
import Derived.Test.YtfghjlngllanoaaFlt
import Derived.KernelRfl
import Derived.Laws.Cover2
import Derived.Laws.Cover3
namespace Go.Proofs.Ytfghjlngllanoaa
open Ieee
set_option linter.unusedVariables false
set_option maxRecDepth 100000

def bdCheck (f : Format) (E x : Nat) : Bool := match f.read x with
  | .number _ m p => decide (f.leastPlace ≤ p) && decide (m * 2 ^ (p - f.leastPlace).toNat ≤ 2 ^ E)
  | _ => false
theorem bd_of_check {f : Format} {E x : Nat} (h : bdCheck f E x = true) : Bd f E x := by
  unfold bdCheck at h
  split at h
  · rename_i s m p hr
    simp only [Bool.and_eq_true, decide_eq_true_eq] at h
    exact ⟨_, IVal.ofNum ⟨m, p, hr, h.1, rfl⟩, by rw [natAbs_sgn]; exact h.2⟩
  · cases h
theorem lp_double : double.leastPlace = -1074 := by kernel_rfl
theorem lp_single : single.leastPlace = -149 := by kernel_rfl
theorem oneU_double : oneU double = 1074 := by simp [oneU, lp_double]
theorem oneU_single : oneU single = 149 := by simp [oneU, lp_single]
theorem lp_le (k : FloatKind) : k.format.leastPlace ≤ 0 := by
  cases k
  · show single.leastPlace ≤ 0; rw [lp_single]; omega
  · show double.leastPlace ≤ 0; rw [lp_double]; omega
theorem exp_ok (k : FloatKind) (E : Nat) (h : E ≤ 60) : E + oneU k.format - k.format.fractionBits + 3 < 2 ^ k.format.exponentBits := by
  cases k
  · show E + oneU single - 23 + 3 < 2 ^ 8; rw [oneU_single]; omega
  · show E + oneU double - 52 + 3 < 2 ^ 11; rw [oneU_double]; omega

/-- the product, rounded (where it is a number) -/
def kMul (k : FloatKind) (x y : Nat) : Nat := (floatBits .mul k x y).getD 0
/-- the sum, rounded (where it is a number) -/
def kAdd (k : FloatKind) (x y : Nat) : Nat := (floatBits .add k x y).getD 0
/-- x is a number of at most 2 ^ E -/
def KB (k : FloatKind) (E x : Nat) : Prop := Bd k.format (E + oneU k.format) x
theorem KB.mono {k : FloatKind} {E F x : Nat} (h : KB k E x) (l : E ≤ F) : KB k F x := Bd.mono h (by omega)
theorem kMul_ok {k : FloatKind} {E F x y : Nat} (hx : KB k E x) (hy : KB k F y) (h : E + F ≤ 60) : floatBits .mul k x y = some (kMul k x y) ∧ KB k (E + F) (kMul k x y) := by
  obtain ⟨r, h1, h2⟩ := Bd.mul hx hy (lp_le k) (G := E + F + oneU k.format) (by omega) (exp_ok k _ h)
  have h3 : floatBits .mul k x y = some r := h1
  have h4 : kMul k x y = r := by simp [kMul, h3]
  rw [h4]
  exact ⟨h3, h2⟩
theorem kAdd_ok {k : FloatKind} {E x y : Nat} (hx : KB k E x) (hy : KB k E y) (h : E + 1 ≤ 60) : floatBits .add k x y = some (kAdd k x y) ∧ KB k (E + 1) (kAdd k x y) := by
  have e : E + oneU k.format + 1 = E + 1 + oneU k.format := by omega
  obtain ⟨r, h1, h2⟩ := Bd.add hx hy (by rw [e]; exact exp_ok k _ h)
  have h3 : floatBits .add k x y = some r := h1
  have h4 : kAdd k x y = r := by simp [kAdd, h3]
  rw [h4]
  rw [e] at h2
  exact ⟨h3, h2⟩
theorem kInt_ok (k : FloatKind) (n : Int) (E : Nat) (hn : n.natAbs ≤ 2 ^ E) (h : E ≤ 60) : KB k E (floatOfInt k n) := Bd.ofInt k.format n E (lp_le k) hn (exp_ok k E h)

/-- no NaN -/
def NotNaN (f : Format) (x : Nat) : Prop := f.order x x = some .eq
theorem order_self (d : Datum) (h : d.isNaN = false) : d.order d = some .eq := by
  cases d with
  | number s m p =>
    simp only [Datum.order]
    exact congrArg some (Std.ReflCmp.compare_self (cmp := compare))
  | infinity s =>
    simp only [Datum.order]
    exact congrArg some (Std.ReflCmp.compare_self (cmp := compare))
  | nan s t => simp [Datum.isNaN] at h
theorem Num.notNaN {f : Format} {x : Nat} {s : Bool} {v : Nat} (h : Num f x s v) : NotNaN f x := by
  obtain ⟨m, p, hr, _⟩ := h
  unfold NotNaN Format.order
  rw [hr]
  exact order_self _ rfl
theorem Bd.notNaN {f : Format} {E x : Nat} (h : Bd f E x) : NotNaN f x := by
  obtain ⟨z, ⟨s, v, hz, _⟩, _⟩ := h
  exact hz.notNaN
theorem KB.notNaN {k : FloatKind} {E x : Nat} (h : KB k E x) : NotNaN k.format x := Bd.notNaN h
theorem infinity_not (f : Format) (x : Nat) (hb : 0 < f.binade) (e2 : x % f.signWeight = f.infRung) : (f.read x).isNaN = false := by
  unfold Format.read
  simp only [e2]
  split
  · rfl
  · rw [if_neg (by omega)]
    simp [Datum.isNaN]
theorem infinity_notNaN (f : Format) (s : Bool) : NotNaN f (f.word s f.infRung) := by
  have hs := f.infRung_lt
  have e2 : (f.word s f.infRung) % f.signWeight = f.infRung := by
    cases s
    · simp [Format.word]; exact Nat.mod_eq_of_lt (by omega)
    · simp only [Format.word, if_true]
      rw [Nat.add_mod_left]; exact Nat.mod_eq_of_lt (by omega)
  exact order_self _ (infinity_not f _ (binade_pos f) e2)
theorem nearest_notNaN (f : Format) (neg : Bool) (mag : Nat) (place : Int) : NotNaN f (f.nearest neg mag place) := by
  have key : ∀ r, r ≤ f.infRung → NotNaN f (f.word neg r) := by
    intro r hr
    by_cases h : r < f.infRung
    · exact (num_word f neg r h).notNaN
    · obtain rfl : r = f.infRung := by omega
      exact infinity_notNaN f neg
  unfold Format.nearest
  split
  · exact key 0 (Nat.zero_le _)
  · exact key _ (Nat.min_le_right _ _)
/-- One divided by a number. -/
theorem inv_ok {x : Nat} {s : Bool} {v : Nat} (h : Num double x s v) : ∃ r, floatBits .quo .f64 4607182418800017408 x = some r ∧ NotNaN double r := by
  obtain ⟨m, p, hr, _⟩ := h
  have h1 : double.read 4607182418800017408 = .number false 4503599627370496 (-52) := by kernel_rfl
  show ∃ r, double.div 4607182418800017408 x = some r ∧ NotNaN double r
  unfold Format.div
  rw [h1, hr]
  simp only [Datum.quotient]
  by_cases hm : m = 0
  · subst hm
    exact ⟨_, rfl, infinity_notNaN _ _⟩
  · rw [if_neg hm]
    exact ⟨_, rfl, nearest_notNaN _ _ _ _⟩
theorem KB.num {k : FloatKind} {E x : Nat} (h : KB k E x) : ∃ s v, Num k.format x s v := by
  obtain ⟨z, ⟨s, v, hz, _⟩, _⟩ := h
  exact ⟨s, v, hz⟩

/-- A float32 that is a number, as a float64. -/
theorem conv_ok {E x : Nat} (h : KB .f32 E x) (hE : E ≤ 60) : ∃ r, floatToFloatBits .f32 x .f64 = some r ∧ KB .f64 E r := by
  obtain ⟨z, ⟨s, v, ⟨m, p, hr, hp, hv⟩, rfl⟩, hb⟩ := h
  rw [natAbs_sgn] at hb
  have l1 : FloatKind.f32.format.leastPlace = -149 := lp_single
  have l2 : FloatKind.f64.format.leastPlace = -1074 := lp_double
  have u1 : oneU FloatKind.f32.format = 149 := oneU_single
  have u2 : oneU FloatKind.f64.format = 1074 := oneU_double
  rw [l1] at hp hv
  rw [u1] at hb
  have hV : m * 2 ^ (p - FloatKind.f64.format.leastPlace + (0 : Nat)).toNat ≤ 2 ^ (E + oneU FloatKind.f64.format + 0) := by
    rw [l2, u2]
    have e1 : (p - (-1074) + (0 : Nat)).toNat = (p - (-149)).toNat + 925 := by omega
    have e2 : E + 1074 + 0 = E + 149 + 925 := by omega
    rw [e1, e2, Nat.pow_add, Nat.pow_add 2 (E + 149), ← Nat.mul_assoc, hv]
    exact Nat.mul_le_mul_right _ hb
  obtain ⟨w, hw, hw1, _⟩ := nearest_num FloatKind.f64.format s m p 0 _ (E + oneU FloatKind.f64.format) (by omega) rfl hV (exp_ok .f64 E hE)
  refine ⟨FloatKind.f64.encode (.number s m p), ?_, _, IVal.ofNum hw, by rw [natAbs_sgn]; exact hw1⟩
  obtain ⟨m', p', hr', _⟩ := hw
  have hd : (FloatKind.f64.decode (FloatKind.f64.encode (.number s m p))).isInfinity = false := by
    show (FloatKind.f64.format.read (FloatKind.f64.format.nearest s m p)).isInfinity = false
    rw [hr']; rfl
  have hs : FloatKind.f32.decode x = .number s m p := hr
  unfold floatToFloatBits
  rw [if_neg (by decide), hs]
  simp only [hd, Bool.false_eq_true, if_false]

end Go.Proofs.Ytfghjlngllanoaa
