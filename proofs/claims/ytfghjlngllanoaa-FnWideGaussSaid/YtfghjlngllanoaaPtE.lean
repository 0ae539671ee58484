/- Plain facts: how far the floats of the points are from the sums of their parts, in both widths. No program in sight. -/
import Derived.Test.YtfghjlngllanoaaOpp
namespace Go.Proofs.Ytfghjlngllanoaa
open Ieee
set_option linter.unusedVariables false
set_option maxRecDepth 100000
theorem sub_ok {f : Format} {x y : Nat} {a b : Int} (hx : IVal f x a) (hy : IVal f y b) (E : Nat) (hE : (a - b).natAbs ≤ 2 ^ E) (hEm : E - f.fractionBits + 3 < 2 ^ f.exponentBits) :
    ∃ r c, f.sub x y = some r ∧ IVal f r c ∧ c.natAbs ≤ 2 ^ E ∧ 2 * (c - (a - b)).natAbs ≤ 2 ^ (E - f.fractionBits) := by
  obtain ⟨s, v, ⟨m, p, hr, hp, hv⟩, rfl⟩ := hx
  obtain ⟨t', u, ⟨n, q, hr', hq, hu⟩, rfl⟩ := hy
  obtain ⟨t, rfl⟩ : ∃ t, t' = !t := ⟨!t', by simp⟩
  have hbb : (if s then -(v : Int) else (v : Int)) - (if (!t) then -(u : Int) else (u : Int)) = (if s then -(v : Int) else (v : Int)) + (if t then -(u : Int) else (u : Int)) := by cases t <;> simp <;> omega
  rw [hbb] at hE ⊢
  clear hbb
  unfold Format.sub
  rw [hr, hr']
  simp only [Datum.sum, Datum.opposite, Option.map_some, Format.write, Bool.not_not]
  obtain ⟨base, hbase⟩ : ∃ base, base = min p q := ⟨_, rfl⟩
  rw [← hbase]
  have e1 := signed_units (f := f) (b := base) s (by omega) (by omega) hv
  have e2 := signed_units (f := f) (b := base) t (by omega) (by omega) hu
  obtain ⟨tot, htot⟩ : ∃ tot, tot = signed s m (p - base).toNat + signed t n (q - base).toNat := ⟨_, rfl⟩
  rw [← htot]
  have e3 : tot * ((2 ^ (base - f.leastPlace).toNat : Nat) : Int) = (if s then -(v : Int) else (v : Int)) + (if t then -(u : Int) else (u : Int)) := by rw [htot, Int.add_mul, e1, e2]
  rw [← e3] at hE ⊢
  obtain ⟨w, hw, hw1, hw2, hw3⟩ := nearest_num f (if tot = 0 then s && t else decide (tot < 0)) tot.natAbs base 0 (tot * ((2 ^ (base - f.leastPlace).toNat : Nat) : Int)).natAbs E (by omega)
    (by rw [Int.natAbs_mul, Int.natAbs_natCast]; congr 3; omega) (by simpa using hE) hEm
  refine ⟨_, _, rfl, IVal.ofNum hw, ?_, ?_⟩
  · rw [natAbs_sgn]; exact hw1
  · simp only [Nat.add_zero, Nat.pow_zero, Nat.mul_one] at hw2 hw3
    have hpos : 0 < ((2 ^ (base - f.leastPlace).toNat : Nat) : Int) := by have := Nat.two_pow_pos (base - f.leastPlace).toNat; omega
    generalize ((2 ^ (base - f.leastPlace).toNat : Nat) : Int) = g at *
    generalize 2 ^ (E - f.fractionBits) = ee at *
    rcases Int.lt_trichotomy tot 0 with h | h | h
    · have hneg : tot * g < 0 := Int.mul_neg_of_neg_of_pos h hpos
      rw [if_neg (show ¬ tot = 0 by omega)]
      simp only [h, decide_true, if_true]
      omega
    · subst h
      simp only [Int.zero_mul, Int.natAbs_zero] at hw2 hw3 ⊢
      split <;> omega
    · have hneg : 0 < tot * g := Int.mul_pos h hpos
      have h' : ¬ tot < 0 := by omega
      rw [if_neg (show ¬ tot = 0 by omega)]
      simp only [h', decide_false, Bool.false_eq_true, if_false]
      omega
/-- U is 2 ^ -62 in units of the least place of a width -/
def RU (k : FloatKind) (K U : Nat) : Prop := 62 + K = oneU k.format ∧ U = 2 ^ K
theorem ru_ex (k : FloatKind) : ∃ K U, RU k K U := by
  refine ⟨oneU k.format - 62, _, ?_, rfl⟩
  cases k
  · show _ = oneU single; rw [show oneU FloatKind.f32.format = oneU single from rfl, oneU_single]
  · show _ = oneU double; rw [show oneU FloatKind.f64.format = oneU double from rfl, oneU_double]
theorem RU.pos {k : FloatKind} {K U : Nat} (h : RU k K U) : 0 < U := by rw [h.2]; exact Nat.two_pow_pos _
theorem RU.pow {k : FloatKind} {K U : Nat} (h : RU k K U) (e : Nat) : 2 ^ (e + K) = 2 ^ e * U := by rw [h.2, Nat.pow_add]
theorem RU.S {k : FloatKind} {K U : Nat} (h : RU k K U) : 2 ^ oneU k.format = 4611686018427387904 * U := by rw [← h.1, h.pow]
/-- the error of a product -/
def ek (k : FloatKind) : Nat := 2 ^ (72 - k.format.fractionBits)
theorem ek_le (k : FloatKind) : ek k ≤ 562949953421312 := by cases k <;> decide
theorem fb_le (k : FloatKind) : k.format.fractionBits ≤ 52 := by cases k <;> decide
theorem gadd {k : FloatKind} {K U x y : Nat} {a b : Int} (hu : RU k K U) (hx : IVal k.format x a) (hy : IVal k.format y b) (h : (a + b).natAbs ≤ 2 ^ 75 * U) :
    ∃ c, IVal k.format (kAdd k x y) c ∧ 2 * (c - (a + b)).natAbs ≤ 8 * ek k * U := by
  rw [← hu.pow] at h
  have hE := exp_ok k 13 (by omega)
  have hfb := fb_le k
  obtain ⟨r, c, k1, k2, k3, k4⟩ := add_ok hx hy (75 + K) h (by have := hu.1; omega)
  have hr : kAdd k x y = r := by
    have k1' : floatBits .add k x y = some r := k1
    simp [kAdd, k1']
  rw [hr]
  refine ⟨c, k2, ?_⟩
  have e1 : 75 + K - k.format.fractionBits = (3 + (72 - k.format.fractionBits)) + K := by omega
  rw [e1, hu.pow, Nat.pow_add] at k4
  exact k4
theorem gmul {k : FloatKind} {K U x y : Nat} {a r : Int} (hu : RU k K U) (hx : IVal k.format x a) (hy : IVal k.format y (r * U)) (ha : a.natAbs ≤ 2 ^ 72 * U) (hr : r.natAbs ≤ 2 ^ 62) :
    ∃ c, IVal k.format (kMul k x y) c ∧ c.natAbs ≤ 2 ^ 72 * U ∧ 2 * (c * 4611686018427387904 - a * r).natAbs ≤ ek k * 4611686018427387904 * U := by
  have hE := exp_ok k 10 (by omega)
  have hfb := fb_le k
  have hb : (a * (r * U)).natAbs ≤ 2 ^ (72 + K + oneU k.format) := by
    have e0 := hu.1
    have e1 : 72 + K + oneU k.format = 72 + 62 + K + K := by omega
    rw [e1, hu.pow, hu.pow, Nat.pow_add, Int.natAbs_mul, Int.natAbs_mul, Int.natAbs_natCast]
    have := Nat.mul_le_mul ha (Nat.mul_le_mul_right U hr)
    have e2 : 2 ^ 72 * U * (2 ^ 62 * U) = 2 ^ 72 * 2 ^ 62 * U * U := by grind
    omega
  obtain ⟨z, c, k1, k2, k3, k4⟩ := mul_ok hx hy (72 + K) (lp_le k) hb (by have := hu.1; omega)
  have hz : kMul k x y = z := by
    have k1' : floatBits .mul k x y = some z := k1
    simp [kMul, k1']
  rw [hz]
  rw [hu.pow] at k3
  refine ⟨c, k2, k3, ?_⟩
  have e1 : 72 + K - k.format.fractionBits + oneU k.format = (72 - k.format.fractionBits) + K + oneU k.format := by omega
  rw [e1, Nat.pow_add, hu.pow, hu.S] at k4
  have e2 : c * ((4611686018427387904 * U : Nat) : Int) - a * (r * U) = (c * 4611686018427387904 - a * r) * (U : Int) := by grind
  rw [e2, Int.natAbs_mul, Int.natAbs_natCast] at k4
  apply Nat.le_of_mul_le_mul_right _ hu.pos
  have e3 : 2 * (c * 4611686018427387904 - a * r).natAbs * U = 2 * ((c * 4611686018427387904 - a * r).natAbs * U) := by grind
  have e4 : ek k * 4611686018427387904 * U * U = 2 ^ (72 - k.format.fractionBits) * U * (4611686018427387904 * U) := by unfold ek; grind
  rw [e3, e4]; exact k4
theorem gint {k : FloatKind} {K U : Nat} (hu : RU k K U) (n : Int) (hn : n.natAbs ≤ 2 ^ 10) : ∃ a, IVal k.format (floatOfInt k n) a ∧ a.natAbs ≤ 2 ^ 72 * U ∧ 2 * (a - n * 4611686018427387904 * U).natAbs ≤ ek k * U := by
  have hE := exp_ok k 10 (by omega)
  have hfb := fb_le k
  have hlp : k.format.leastPlace ≤ 0 := lp_le k
  obtain ⟨w, hw, hw1, hw2, hw3⟩ := nearest_num k.format (decide (n < 0)) n.natAbs 0 0 (n.natAbs * 2 ^ oneU k.format) (72 + K) (by omega) (by unfold oneU; congr 2; omega)
    (by
      have e0 : oneU k.format = 62 + K := hu.1.symm
      have h3 := Nat.mul_le_mul_right (2 ^ (62 + K)) hn
      rw [← Nat.pow_add] at h3
      rw [Nat.add_zero, e0, show 72 + K = 10 + (62 + K) by omega]
      exact h3) (by have := hu.1; omega)
  refine ⟨_, IVal.ofNum hw, ?_, ?_⟩
  · rw [natAbs_sgn, ← hu.pow]; exact hw1
  · have e1 : 72 + K - k.format.fractionBits + 0 = (72 - k.format.fractionBits) + K := by omega
    rw [e1, hu.pow, Nat.pow_zero, Nat.mul_one, hu.S] at hw2 hw3
    change _ ≤ 2 ^ (72 - k.format.fractionBits) * U
    generalize 2 ^ (72 - k.format.fractionBits) * U = ee at *
    have e2 : n * 4611686018427387904 * (U : Int) = if decide (n < 0) then -((n.natAbs * (4611686018427387904 * U) : Nat) : Int) else ((n.natAbs * (4611686018427387904 * U) : Nat) : Int) := by
      by_cases h : n < 0
      · rw [if_pos (by simpa using h)]
        obtain ⟨m, rfl⟩ : ∃ m : Nat, n = -(m : Int) := ⟨n.natAbs, by omega⟩
        simp; grind
      · rw [if_neg (by simpa using h)]
        obtain ⟨m, rfl⟩ : ∃ m : Nat, n = (m : Int) := ⟨n.natAbs, by omega⟩
        simp; grind
    rw [e2]
    generalize n.natAbs * (4611686018427387904 * U) = V at *
    by_cases h : n < 0
    · simp only [h, decide_true, if_true]; omega
    · simp only [h, decide_false, Bool.false_eq_true, if_false]; omega
/-- a float in units of 2 ^ -62 -/
def rv (k : FloatKind) (x : Nat) : Int := match k.format.read x with
  | .number s m p => if m = 0 then 0 else if s then -((m * 2 ^ (p + 62).toNat : Nat) : Int) else ((m * 2 ^ (p + 62).toNat : Nat) : Int)
  | _ => 0
def rvOk (k : FloatKind) (x : Nat) : Bool := match k.format.read x with
  | .number _ m p => decide (k.format.leastPlace ≤ p) && (m == 0 || decide (0 ≤ p + 62))
  | _ => false
theorem rv_ok {k : FloatKind} {K U x : Nat} (hu : RU k K U) (h : rvOk k x = true) : IVal k.format x (rv k x * U) := by
  unfold rvOk at h
  unfold rv
  split at h
  · rename_i s m p hr
    simp only [Bool.and_eq_true, Bool.or_eq_true, decide_eq_true_eq, beq_iff_eq] at h
    obtain ⟨h1, h2⟩ := h
    by_cases hm : m = 0
    · subst hm
      have hN : Num k.format x s 0 := ⟨0, p, hr, h1, by simp⟩
      have := IVal.ofNum hN
      simpa using this
    · have hp : 0 ≤ p + 62 := by omega
      have hlp := lp_le k
      have hK : k.format.leastPlace = -((62 + K : Nat) : Int) := by rw [hu.1]; unfold oneU; omega
      have hN : Num k.format x s (m * 2 ^ (p + 62).toNat * U) := by
        refine ⟨m, p, hr, h1, ?_⟩
        have e : (p - k.format.leastPlace).toNat = (p + 62).toNat + K := by rw [hK]; omega
        rw [e, hu.pow, Nat.mul_assoc]
      have := IVal.ofNum hN
      simp only [hm, if_false]
      cases s
      · simpa using this
      · simp only [if_true] at this ⊢
        rw [Int.neg_mul]
        simpa using this
  · cases h
theorem rv_check (k : FloatKind) : ∀ i, i < 8 → (rvOk k (rootRe k i) && rvOk k (rootIm k i) && decide ((rv k (rootRe k i)).natAbs ≤ 2 ^ 62) && decide ((rv k (rootIm k i)).natAbs ≤ 2 ^ 62)) = true := by
  cases k <;> decide +kernel
/-- the sum of the first i parts, of floats r -/
def partS (k : FloatKind) (r : Nat → Nat) (f : Nat → Int) : Nat → Int
  | 0 => 0
  | i + 1 => partS k r f i + f i * rv k (r i)
theorem gterm {k : FloatKind} {K U y : Nat} (hu : RU k K U) {n : Int} (hn : -1000 ≤ n ∧ n ≤ 1000) (hy : rvOk k y = true) (hr : (rv k y).natAbs ≤ 2 ^ 62) :
    ∃ c, IVal k.format (kMul k (floatOfInt k n) y) c ∧ c.natAbs ≤ 2 ^ 72 * U ∧ -((ek k * U : Nat) : Int) ≤ c - n * rv k y * U ∧ c - n * rv k y * U ≤ ((ek k * U : Nat) : Int) := by
  obtain ⟨a, a1, a2, a3⟩ := gint hu n (by omega)
  obtain ⟨c, c1, c2, c3⟩ := gmul hu a1 (rv_ok hu hy) a2 hr
  refine ⟨c, c1, c2, ?_⟩
  clear a1 a2 c1 c2 hy
  generalize rv k y = r at *
  have e4 : ek k * 4611686018427387904 * U = 4611686018427387904 * (ek k * U) := by grind
  rw [e4] at c3
  generalize ek k * U = ee at *
  obtain ⟨d, hd⟩ : ∃ d, a - n * 4611686018427387904 * U = d := ⟨_, rfl⟩
  rw [hd] at a3
  have ea : a = n * 4611686018427387904 * U + d := by omega
  subst ea
  have e5 : (n * 4611686018427387904 * (U : Int) + d) * r = 4611686018427387904 * (n * r * U) + d * r := by grind
  rw [e5] at c3
  have hd1 : -(ee : Int) ≤ 2 * d ∧ 2 * d ≤ ee := by omega
  have hdr : (2 * (d * r)).natAbs ≤ ee * 4611686018427387904 := by
    have e : 2 * (d * r) = (2 * d) * r := by grind
    rw [e, Int.natAbs_mul]
    exact Nat.mul_le_mul (by omega) hr
  generalize n * r * U = nr at *
  generalize d * r = dr at *
  omega
theorem partS_bd {k : FloatKind} {r : Nat → Nat} {f : Nat → Int} (hf : ∀ j, j < 8 → -1000 ≤ f j ∧ f j ≤ 1000) (hr : ∀ i, i < 8 → (rv k (r i)).natAbs ≤ 2 ^ 62) (i : Nat) (h : i ≤ 8) : (partS k r f i).natAbs ≤ i * 4611686018427387904000 := by
  induction i with
  | zero => simp [partS]
  | succ i ih =>
    have h1 := ih (by omega)
    have h2 : (f i * rv k (r i)).natAbs ≤ 1000 * 2 ^ 62 := by
      rw [Int.natAbs_mul]
      exact Nat.mul_le_mul (by have := hf i (by omega); omega) (hr i (by omega))
    simp only [partS]
    have e : (1000 : Nat) * 2 ^ 62 = 4611686018427387904000 := rfl
    rw [e] at h2
    omega
theorem step_bd {z c s : Int} {u t : Nat} (hs : s.natAbs ≤ 32281802128991715328000 * u) (h1 : -(t : Int) ≤ z - s) (h2 : z - s ≤ (t : Int)) (ht : t ≤ 19703248369745920 * u) (hc : c.natAbs ≤ 4722366482869645213696 * u) :
    (z + c).natAbs ≤ 37778931862957161709568 * u := by
  have a1 : s ≤ 32281802128991715328000 * (u : Int) := by omega
  have a2 : -(32281802128991715328000 * (u : Int)) ≤ s := by omega
  have b1 : c ≤ 4722366482869645213696 * (u : Int) := by omega
  have b2 : -(4722366482869645213696 * (u : Int)) ≤ c := by omega
  clear hs hc
  omega
/-- a running sum of products -/
def runS (k : FloatKind) (r : Nat → Nat) (f : Nat → Int) : Nat → Nat
  | 0 => 0
  | i + 1 => kAdd k (runS k r f i) (kMul k (floatOfInt k (f i)) (r i))
theorem gsum {k : FloatKind} {K U : Nat} (hu : RU k K U) {r : Nat → Nat} {f : Nat → Int} (hf : ∀ j, j < 8 → -1000 ≤ f j ∧ f j ≤ 1000) (h1 : ∀ i, i < 8 → rvOk k (r i) = true) (h2 : ∀ i, i < 8 → (rv k (r i)).natAbs ≤ 2 ^ 62) (i : Nat) (h : i ≤ 8) :
    ∃ z, IVal k.format (runS k r f i) z ∧ -((i * (5 * (ek k * U)) : Nat) : Int) ≤ z - partS k r f i * U ∧ z - partS k r f i * U ≤ ((i * (5 * (ek k * U)) : Nat) : Int) := by
  induction i with
  | zero =>
    have h0 : IVal k.format 0 0 := by
      have hr : k.format.read 0 = .number false 0 k.format.leastPlace := by cases k <;> decide +kernel
      have := IVal.ofNum (f := k.format) (x := 0) (s := false) (v := 0) ⟨0, _, hr, by omega, by simp⟩
      simpa using this
    exact ⟨0, h0, by simp [partS], by simp [partS]⟩
  | succ i ih =>
    obtain ⟨z, z1, z2, z3⟩ := ih (by omega)
    obtain ⟨c, c1, c2, c3, c4⟩ := gterm hu (hf i (by omega)) (h1 i (by omega)) (h2 i (by omega))
    have hb := partS_bd hf h2 i (by omega)
    have hsum : (z + c).natAbs ≤ 2 ^ 75 * U := by
      have hek := Nat.mul_le_mul_right U (ek_le k)
      have hb2 : (partS k r f i * U).natAbs ≤ i * 4611686018427387904000 * U := by
        rw [Int.natAbs_mul, Int.natAbs_natCast]
        exact Nat.mul_le_mul_right U hb
      have hi : i ≤ 7 := by omega
      have hb3 : i * 4611686018427387904000 * U ≤ 7 * 4611686018427387904000 * U := Nat.mul_le_mul_right U (by omega)
      have hb4 : i * (5 * (ek k * U)) ≤ 7 * (5 * (562949953421312 * U)) := Nat.mul_le_mul hi (by omega)
      have p72 : (2 : Nat) ^ 72 = 4722366482869645213696 := rfl
      have p75 : (2 : Nat) ^ 75 = 37778931862957161709568 := rfl
      rw [p72] at c2
      rw [p75]
      generalize partS k r f i * U = s at *
      generalize i * (5 * (ek k * U)) = t at *
      have hb5 := Nat.le_trans hb2 hb3
      have e7 : 7 * 4611686018427387904000 * U = 32281802128991715328000 * U := rfl
      rw [e7] at hb5
      have e8 : 7 * (5 * (562949953421312 * U)) = 19703248369745920 * U := by omega
      rw [e8] at hb4
      exact step_bd hb5 z2 z3 hb4 c2
    obtain ⟨d, d1, d2⟩ := gadd hu z1 c1 hsum
    refine ⟨d, d1, ?_⟩
    simp only [partS]
    have e1 : (partS k r f i + f i * rv k (r i)) * (U : Int) = partS k r f i * U + f i * rv k (r i) * U := by rw [Int.add_mul]
    rw [e1]
    have e2 : (i + 1) * (5 * (ek k * U)) = i * (5 * (ek k * U)) + 5 * (ek k * U) := by rw [Nat.add_mul, Nat.one_mul]
    rw [e2]
    have e3 : 8 * ek k * U = 8 * (ek k * U) := by rw [Nat.mul_assoc]
    rw [e3] at d2
    clear hsum c2 hb h1 h2 hf c1 d1 z1
    generalize f i * rv k (r i) * U = t at *
    generalize partS k r f i * U = s at *
    generalize i * (5 * (ek k * U)) = q at *
    generalize ek k * U = ee at *
    omega
theorem pointP_run (k : FloatKind) (f : Nat → Int) (i : Nat) : pointP k f i = (runS k (rootRe k) f i, runS k (rootIm k) f i) := by
  induction i with
  | zero => rfl
  | succ i ih => simp only [pointP, runS, ih, termRe, termIm]
theorem point_err {k : FloatKind} {K U : Nat} (hu : RU k K U) {f : Nat → Int} (hf : ∀ j, j < 8 → -1000 ≤ f j ∧ f j ≤ 1000) :
    (∃ z, IVal k.format (pointP k f 8).1 z ∧ -(40 * (ek k * U : Nat) : Int) ≤ z - partS k (rootRe k) f 8 * U ∧ z - partS k (rootRe k) f 8 * U ≤ 40 * (ek k * U : Nat))
    ∧ (∃ z, IVal k.format (pointP k f 8).2 z ∧ -(40 * (ek k * U : Nat) : Int) ≤ z - partS k (rootIm k) f 8 * U ∧ z - partS k (rootIm k) f 8 * U ≤ 40 * (ek k * U : Nat)) := by
  have hc := rv_check k
  simp only [Bool.and_eq_true, decide_eq_true_eq] at hc
  rw [pointP_run]
  obtain ⟨z, z1, z2, z3⟩ := gsum hu hf (fun i hi => (hc i hi).1.1.1) (fun i hi => (hc i hi).1.2) 8 (by omega)
  obtain ⟨y, y1, y2, y3⟩ := gsum hu hf (fun i hi => (hc i hi).1.1.2) (fun i hi => (hc i hi).2) 8 (by omega)
  refine ⟨⟨z, z1, ?_, ?_⟩, ⟨y, y1, ?_, ?_⟩⟩
  all_goals (generalize ek k * U = ee at *; omega)

end Go.Proofs.Ytfghjlngllanoaa
