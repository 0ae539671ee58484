/- Plain facts on IEEE numbers: what a rounded sum or product of two numbers is, and how far it is from the exact one. No program in sight. -/
import Derived.Laws.FloatArith
import Derived.Laws.ComplexArith
namespace Go.Proofs.Ytfghjlngllanoaa
open Ieee
set_option linter.unusedVariables false
set_option maxRecDepth 100000

/-- the size of a rung, in units of the least place -/
def rungVal (f : Format) (r : Nat) : Nat := if r < f.binade then r else (f.binade + r % f.binade) * 2 ^ (r / f.binade - 1)
/-- x is a number of v units (of the least place) with the sign s -/
def Num (f : Format) (x : Nat) (s : Bool) (v : Nat) : Prop := ∃ m p, f.read x = .number s m p ∧ f.leastPlace ≤ p ∧ m * 2 ^ (p - f.leastPlace).toNat = v

theorem binade_pos (f : Format) : 0 < f.binade := Nat.two_pow_pos _
theorem num_word (f : Format) (neg : Bool) (r : Nat) (h : r < f.infRung) : Num f (f.word neg r) neg (rungVal f r) := by
  have hs := f.infRung_lt
  have hb := binade_pos f
  have e1 : (f.word neg r) / f.signWeight % 2 = neg.toNat := by
    cases neg
    · simp [Format.word, Nat.div_eq_of_lt (show r < f.signWeight by omega)]
    · simp only [Format.word, if_true]
      rw [Nat.add_div_left _ (by omega), Nat.div_eq_of_lt (by omega)]
      rfl
  have e2 : (f.word neg r) % f.signWeight = r := by
    cases neg
    · simp [Format.word]; exact Nat.mod_eq_of_lt (by omega)
    · simp only [Format.word, if_true]
      rw [Nat.add_mod_left]; exact Nat.mod_eq_of_lt (by omega)
  have e3 : ((f.word neg r) / f.signWeight % 2 == 1) = neg := by rw [e1]; cases neg <;> rfl
  unfold Num Format.read
  simp only [e2, e3]
  by_cases h1 : r < f.binade
  · rw [if_pos h1]
    exact ⟨r, f.leastPlace, rfl, Int.le_refl _, by simp [rungVal, h1]⟩
  · rw [if_neg h1, if_pos h]
    refine ⟨_, _, rfl, by omega, ?_⟩
    have : (f.leastPlace + ((r / f.binade - 1 : Nat) : Int) - f.leastPlace).toNat = r / f.binade - 1 := by omega
    rw [this]; simp [rungVal, h1]

theorem rungVal_make (f : Format) (u kept : Nat) (h : kept ≤ 2 * f.binade) (h2 : 0 < u → f.binade ≤ kept) : rungVal f (u * f.binade + kept) = kept * 2 ^ u := by
  have hb := binade_pos f
  unfold rungVal
  generalize f.binade = B at *
  by_cases hk : kept < B
  · have hu : u = 0 := by
      cases u with
      | zero => rfl
      | succ n => have := h2 (by omega); omega
    subst hu
    simp [hk]
  · obtain ⟨t, rfl⟩ : ∃ t, kept = B + t := ⟨kept - B, by omega⟩
    have e : u * B + (B + t) = t + B * (u + 1) := by rw [Nat.mul_add, Nat.mul_comm]; omega
    have hge : ¬ t + B * (u + 1) < B := by
      have : B * 1 ≤ B * (u + 1) := Nat.mul_le_mul_left _ (by omega)
      omega
    rw [e, if_neg hge, Nat.add_mul_mod_self_left, Nat.add_mul_div_left _ _ hb]
    by_cases ht : t < B
    · rw [Nat.mod_eq_of_lt ht, Nat.div_eq_of_lt ht]
      simp
    · have : t = B := by omega
      subst this
      rw [Nat.mod_self, Nat.div_self hb]
      have : 1 + (u + 1) - 1 = u + 1 := by omega
      rw [this, Nat.pow_succ, ← Nat.two_mul]
      simp [Nat.mul_comm, Nat.mul_assoc]

theorem cut_spec (neg : Bool) (n drop : Nat) :
    2 * (Toward.even.cut neg n drop * 2 ^ drop) ≤ 2 * n + 2 ^ drop ∧ 2 * n ≤ 2 * (Toward.even.cut neg n drop * 2 ^ drop) + 2 ^ drop
    ∧ (∀ K, n ≤ K * 2 ^ drop → Toward.even.cut neg n drop ≤ K) ∧ (∀ K, K * 2 ^ drop ≤ n → K ≤ Toward.even.cut neg n drop) := by
  unfold Toward.cut
  dsimp only
  by_cases hd : drop ≤ n.log2 + 2
  · rw [Nat.min_eq_left hd, Nat.one_shiftLeft]
    have hgp : 0 < 2 ^ drop := Nat.two_pow_pos _
    generalize 2 ^ drop = g at *
    have h1 := Nat.div_add_mod n g
    have h2 := Nat.mod_lt n hgp
    generalize n / g = low at *
    generalize n % g = rest at *
    have hc : g * low = low * g := Nat.mul_comm _ _
    by_cases hm : (decide (g < 2 * rest) || (g == 2 * rest && low % 2 == 1)) = true
    · have hg2 : g ≤ 2 * rest := by simp at hm; omega
      rw [hm]
      simp only [Bool.toNat_true]
      have e : (low + 1) * g = low * g + g := by rw [Nat.add_mul]; omega
      rw [e]
      refine ⟨by omega, by omega, fun K hK => ?_, fun K hK => ?_⟩
      · by_cases hl : low + 1 ≤ K
        · exact hl
        · have := Nat.mul_le_mul_right g (show K ≤ low by omega); omega
      · by_cases hl : K ≤ low + 1
        · exact hl
        · have := Nat.mul_le_mul_right g (show low + 1 + 1 ≤ K by omega)
          rw [Nat.add_mul, e] at this; omega
    · have hg2 : 2 * rest ≤ g := by simp at hm; omega
      have hm' : (decide (g < 2 * rest) || (g == 2 * rest && low % 2 == 1)) = false := by simpa using hm
      rw [hm']
      simp only [Bool.toNat_false, Nat.add_zero]
      refine ⟨by omega, by omega, fun K hK => ?_, fun K hK => ?_⟩
      · by_cases hl : low ≤ K
        · exact hl
        · have := Nat.mul_le_mul_right g (show K + 1 ≤ low by omega)
          rw [Nat.add_mul] at this
          omega
      · by_cases hl : K ≤ low
        · exact hl
        · have := Nat.mul_le_mul_right g (show low + 1 ≤ K by omega)
          rw [Nat.add_mul] at this; omega
  · rw [Nat.min_eq_right (by omega), Nat.one_shiftLeft]
    have hn : n < 2 ^ (n.log2 + 1) := Nat.lt_log2_self
    have hg : 2 ^ (n.log2 + 2) = 2 * 2 ^ (n.log2 + 1) := by rw [Nat.pow_succ, Nat.mul_comm]
    have hdp : 2 ^ (n.log2 + 2) ≤ 2 ^ drop := Nat.pow_le_pow_right (by omega) (by omega)
    generalize 2 ^ (n.log2 + 2) = g at *
    generalize 2 ^ (n.log2 + 1) = q at *
    generalize 2 ^ drop = d at *
    have e1 : n / g = 0 := Nat.div_eq_of_lt (by omega)
    have e2 : n % g = n := Nat.mod_eq_of_lt (by omega)
    have hm : (decide (g < 2 * n) || (g == 2 * n && 0 % 2 == 1)) = false := by simp; omega
    rw [e1, e2, hm]
    simp only [Bool.toNat_false, Nat.add_zero, Nat.zero_mul, Nat.mul_zero, Nat.zero_add]
    refine ⟨by omega, by omega, fun K hK => by omega, fun K hK => ?_⟩
    by_cases hl : K ≤ 0
    · exact hl
    · have := Nat.mul_le_mul_right d (show 1 ≤ K by omega); omega

theorem log2_le' {m : Nat} (h : m ≠ 0) : 2 ^ m.log2 ≤ m := Nat.log2_self_le h

/-- A number that is written: mag * 2 ^ place, V units of 2 ^ (leastPlace - s) -/
theorem nearest_num (f : Format) (neg : Bool) (mag : Nat) (place : Int) (s V E : Nat) (hlp : f.leastPlace ≤ place + s)
    (hV : V = mag * 2 ^ (place - f.leastPlace + s).toNat) (hE : V ≤ 2 ^ (E + s)) (hEm : E - f.fractionBits + 3 < 2 ^ f.exponentBits) :
    ∃ v, Num f (f.nearest neg mag place) neg v ∧ v ≤ 2 ^ E ∧ 2 * (v * 2 ^ s) ≤ 2 * V + 2 ^ (E - f.fractionBits + s) ∧ 2 * V ≤ 2 * (v * 2 ^ s) + 2 ^ (E - f.fractionBits + s) := by
  have hb := binade_pos f
  have hinf : ∀ u kept, u + 3 < 2 ^ f.exponentBits → kept ≤ 2 * f.binade → u * f.binade + kept < f.infRung := by
    intro u kept hu hk
    unfold Format.infRung
    have h3 : (u + 3) * f.binade ≤ (2 ^ f.exponentBits - 1) * f.binade := Nat.mul_le_mul_right _ (by omega)
    rw [Nat.add_mul] at h3
    omega
  by_cases hm : mag = 0
  · subst hm
    have h0 := num_word f neg 0 (by have := hinf 0 0 (by omega) (by omega); omega)
    refine ⟨0, ?_, Nat.zero_le _, by simp, by simp at hV; simp [hV]⟩
    have : rungVal f 0 = 0 := by simp [rungVal, hb]
    rw [this] at h0
    simpa [Format.nearest] using h0
  · unfold Format.nearest
    rw [if_neg hm]
    dsimp only
    have hlow := log2_le' hm
    have hup : mag < 2 ^ (mag.log2 + 1) := Nat.lt_log2_self
    obtain ⟨L, hL⟩ : ∃ L, L = max (place + (mag.log2 : Int) - (f.fractionBits : Int)) f.leastPlace := ⟨_, rfl⟩
    rw [← hL]
    obtain ⟨u, hu⟩ : ∃ u, u = (L - f.leastPlace).toNat := ⟨_, rfl⟩
    obtain ⟨a, ha⟩ : ∃ a, a = (place - L).toNat := ⟨_, rfl⟩
    obtain ⟨d, hd⟩ : ∃ d, d = (L - place).toNat := ⟨_, rfl⟩
    rw [← hu, ← ha, ← hd, Nat.shiftLeft_eq]
    obtain ⟨n, hn⟩ : ∃ n, n = mag * 2 ^ a := ⟨_, rfl⟩
    rw [← hn]
    obtain ⟨c1, c2, c3, c4⟩ := cut_spec neg n d
    -- how V stands to n
    obtain ⟨q, hq⟩ : ∃ q : Nat, (q : Int) = min place L - f.leastPlace + s := ⟨(min place L - f.leastPlace + s).toNat, by omega⟩
    have hdq : d + q = u + s := by omega
    have hVn : V = n * 2 ^ q := by
      rw [hV, hn, Nat.mul_assoc, ← Nat.pow_add]
      congr 2
      omega
    -- kept is at most twice the binade
    have hk2 : Toward.even.cut neg n d ≤ 2 * f.binade := by
      apply c3
      have : n < 2 ^ (mag.log2 + 1 + a) := by rw [hn, Nat.pow_add]; exact Nat.mul_lt_mul_of_pos_right hup (Nat.two_pow_pos _)
      have h5 : 2 ^ (mag.log2 + 1 + a) ≤ 2 ^ (1 + f.fractionBits + d) := Nat.pow_le_pow_right (by omega) (by omega)
      have h6 : 2 ^ (1 + f.fractionBits + d) = 2 * 2 ^ f.fractionBits * 2 ^ d := by rw [Nat.pow_add, Nat.pow_add]
      simp only [Format.binade]
      rw [← h6]
      omega
    have hk1 : 0 < u → f.binade ≤ Toward.even.cut neg n d := by
      intro hu0
      apply c4
      have h5 : 2 ^ (f.fractionBits + d) ≤ 2 ^ (mag.log2 + a) := Nat.pow_le_pow_right (by omega) (by omega)
      have h6 : 2 ^ (mag.log2 + a) ≤ n := by rw [hn, Nat.pow_add]; exact Nat.mul_le_mul_right _ hlow
      rw [Nat.pow_add] at h5
      simp only [Format.binade]
      omega
    have huE : u ≤ E - f.fractionBits := by
      by_cases hu0 : 0 < u
      · have h7 : 2 ^ (u + f.fractionBits + s) ≤ V := by
          rw [hV]
          have : u + f.fractionBits + s = mag.log2 + (place - f.leastPlace + s).toNat := by omega
          rw [this, Nat.pow_add]; exact Nat.mul_le_mul_right _ hlow
        have h8 := Nat.le_trans h7 hE
        have h9 := (Nat.pow_le_pow_iff_right (by omega : 1 < 2)).1 h8
        omega
      · omega
    generalize hkept : Toward.even.cut neg n d = kept at *
    have hi := hinf u kept (by omega) hk2
    rw [Nat.min_eq_left (Nat.le_of_lt hi)]
    have hN := num_word f neg _ hi
    rw [rungVal_make f u kept hk2 hk1] at hN
    have e1 : kept * 2 ^ u * 2 ^ s = kept * 2 ^ d * 2 ^ q := by rw [Nat.mul_assoc, Nat.mul_assoc, ← Nat.pow_add, ← Nat.pow_add, hdq]
    have e2 : 2 ^ d * 2 ^ q = 2 ^ (u + s) := by rw [← Nat.pow_add, hdq]
    have e3 : 2 ^ (u + s) ≤ 2 ^ (E - f.fractionBits + s) := Nat.pow_le_pow_right (by omega) (by omega)
    refine ⟨_, hN, ?_, ?_, ?_⟩
    · have h9 : kept ≤ 2 ^ (E - u) := by
        apply c3
        have h10 : n * 2 ^ q ≤ 2 ^ (E - u + d) * 2 ^ q := by
          rw [← hVn, ← Nat.pow_add]
          have : E - u + d + q = E + s := by omega
          rw [this]; exact hE
        rw [← Nat.pow_add]
        exact Nat.le_of_mul_le_mul_right h10 (Nat.two_pow_pos _)
      have := Nat.mul_le_mul_right (2 ^ u) h9
      rw [← Nat.pow_add] at this
      have e : E - u + u = E := by omega
      rwa [e] at this
    · rw [e1, hVn]
      have := Nat.mul_le_mul_right (2 ^ q) c1
      rw [Nat.add_mul, e2] at this
      have x1 : 2 * (kept * 2 ^ d) * 2 ^ q = 2 * (kept * 2 ^ d * 2 ^ q) := by rw [Nat.mul_assoc]
      have x2 : 2 * n * 2 ^ q = 2 * (n * 2 ^ q) := by rw [Nat.mul_assoc]
      omega
    · rw [e1, hVn]
      have := Nat.mul_le_mul_right (2 ^ q) c2
      rw [Nat.add_mul, e2] at this
      have x1 : 2 * (kept * 2 ^ d) * 2 ^ q = 2 * (kept * 2 ^ d * 2 ^ q) := by rw [Nat.mul_assoc]
      have x2 : 2 * n * 2 ^ q = 2 * (n * 2 ^ q) := by rw [Nat.mul_assoc]
      omega

/-- x is a number of z units -/
def IVal (f : Format) (x : Nat) (z : Int) : Prop := ∃ s v, Num f x s v ∧ z = if s then -(v : Int) else (v : Int)
theorem IVal.abs {f : Format} {x : Nat} {z : Int} (h : IVal f x z) : ∃ s, Num f x s z.natAbs := by
  obtain ⟨s, v, h, rfl⟩ := h
  refine ⟨s, ?_⟩
  cases s
  · simpa using h
  · simpa using h
theorem natAbs_sgn (b : Bool) (w : Nat) : (if b then -(w : Int) else (w : Int)).natAbs = w := by cases b <;> simp
theorem signed_val (s : Bool) (m k : Nat) : signed s m k = if s then -((m * 2 ^ k : Nat) : Int) else ((m * 2 ^ k : Nat) : Int) := by
  unfold signed
  rw [Nat.shiftLeft_eq]
theorem signed_units {f : Format} {m : Nat} {p b : Int} {v : Nat} (s : Bool) (hb : f.leastPlace ≤ b) (hp : b ≤ p) (h : m * 2 ^ (p - f.leastPlace).toNat = v) :
    signed s m (p - b).toNat * ((2 ^ (b - f.leastPlace).toNat : Nat) : Int) = if s then -(v : Int) else (v : Int) := by
  have e : m * 2 ^ (p - b).toNat * 2 ^ (b - f.leastPlace).toNat = v := by
    rw [Nat.mul_assoc, ← Nat.pow_add, ← h]
    congr 2
    omega
  rw [signed_val]
  cases s
  · simp only [Bool.false_eq_true, if_false]; rw [← Int.natCast_mul, e]
  · simp only [if_true]; rw [Int.neg_mul, ← Int.natCast_mul, e]
theorem IVal.ofNum {f : Format} {x : Nat} {s : Bool} {v : Nat} (h : Num f x s v) : IVal f x (if s then -(v : Int) else (v : Int)) := ⟨s, v, h, rfl⟩

theorem add_ok {f : Format} {x y : Nat} {a b : Int} (hx : IVal f x a) (hy : IVal f y b) (E : Nat) (hE : (a + b).natAbs ≤ 2 ^ E) (hEm : E - f.fractionBits + 3 < 2 ^ f.exponentBits) :
    ∃ r c, f.add x y = some r ∧ IVal f r c ∧ c.natAbs ≤ 2 ^ E ∧ 2 * (c - (a + b)).natAbs ≤ 2 ^ (E - f.fractionBits) := by
  obtain ⟨s, v, ⟨m, p, hr, hp, hv⟩, rfl⟩ := hx
  obtain ⟨t, u, ⟨n, q, hr', hq, hu⟩, rfl⟩ := hy
  unfold Format.add
  rw [hr, hr']
  simp only [Datum.sum, Option.map_some, Format.write]
  obtain ⟨base, hbase⟩ : ∃ base, base = min p q := ⟨_, rfl⟩
  rw [← hbase]
  have e1 := signed_units (f := f) (b := base) s (by omega) (by omega) hv
  have e2 := signed_units (f := f) (b := base) t (by omega) (by omega) hu
  obtain ⟨tot, htot⟩ : ∃ tot, tot = signed s m (p - base).toNat + signed t n (q - base).toNat := ⟨_, rfl⟩
  rw [← htot]
  have e3 : tot * ((2 ^ (base - f.leastPlace).toNat : Nat) : Int) = (if s then -(v : Int) else (v : Int)) + (if t then -(u : Int) else (u : Int)) := by rw [htot, Int.add_mul, e1, e2]
  rw [← e3] at hE ⊢
  obtain ⟨w, hw, hw1, hw2, hw3⟩ := nearest_num f (if tot = 0 then s && t else decide (tot < 0)) tot.natAbs base 0 (tot * ((2 ^ (base - f.leastPlace).toNat : Nat) : Int)).natAbs E (by omega)
    (by rw [Int.natAbs_mul, Int.natAbs_natCast]; congr 3; omega) (by simpa using hE) hEm
  refine ⟨_, _, rfl, IVal.ofNum hw, ?_, ?_⟩
  · rw [natAbs_sgn]; exact hw1
  · simp only [Nat.add_zero, Nat.pow_zero, Nat.mul_one] at hw2 hw3
    have hpos : 0 < ((2 ^ (base - f.leastPlace).toNat : Nat) : Int) := by have := Nat.two_pow_pos (base - f.leastPlace).toNat; omega
    generalize ((2 ^ (base - f.leastPlace).toNat : Nat) : Int) = g at *
    generalize 2 ^ (E - f.fractionBits) = ee at *
    rcases Int.lt_trichotomy tot 0 with h | h | h
    · have hneg : tot * g < 0 := Int.mul_neg_of_neg_of_pos h hpos
      rw [if_neg (show ¬ tot = 0 by omega)]
      simp only [h, decide_true, if_true]
      omega
    · subst h
      simp only [Int.zero_mul, Int.natAbs_zero] at hw2 hw3 ⊢
      split <;> omega
    · have hneg : 0 < tot * g := Int.mul_pos h hpos
      have h' : ¬ tot < 0 := by omega
      rw [if_neg (show ¬ tot = 0 by omega)]
      simp only [h', decide_false, Bool.false_eq_true, if_false]
      omega

/-- the units of one -/
def oneU (f : Format) : Nat := (-f.leastPlace).toNat
theorem mul_ok {f : Format} {x y : Nat} {a b : Int} (hx : IVal f x a) (hy : IVal f y b) (E : Nat) (h0 : f.leastPlace ≤ 0) (hE : (a * b).natAbs ≤ 2 ^ (E + oneU f)) (hEm : E - f.fractionBits + 3 < 2 ^ f.exponentBits) :
    ∃ r c, f.mul x y = some r ∧ IVal f r c ∧ c.natAbs ≤ 2 ^ E ∧ 2 * (c * ((2 ^ oneU f : Nat) : Int) - a * b).natAbs ≤ 2 ^ (E - f.fractionBits + oneU f) := by
  obtain ⟨s, v, ⟨m, p, hr, hp, hv⟩, rfl⟩ := hx
  obtain ⟨t, u, ⟨n, q, hr', hq, hu⟩, rfl⟩ := hy
  unfold Format.mul
  rw [hr, hr']
  simp only [Datum.product, Option.map_some, Format.write]
  have eab : (if s then -(v : Int) else (v : Int)) * (if t then -(u : Int) else (u : Int)) = if (s ^^ t) then -((v * u : Nat) : Int) else ((v * u : Nat) : Int) := by
    cases s <;> cases t <;> simp [Int.mul_neg, Int.neg_mul]
  rw [eab] at hE ⊢
  have hE' : v * u ≤ 2 ^ (E + oneU f) := by rwa [natAbs_sgn] at hE
  have hV : v * u = m * n * 2 ^ (p + q - f.leastPlace + (oneU f : Nat)).toNat := by
    rw [← hv, ← hu]
    have : (p + q - f.leastPlace + (oneU f : Nat)).toNat = (p - f.leastPlace).toNat + (q - f.leastPlace).toNat := by unfold oneU; omega
    rw [this, Nat.pow_add]
    simp only [Nat.mul_assoc, Nat.mul_left_comm]
  obtain ⟨w, hw, hw1, hw2, hw3⟩ := nearest_num f (s ^^ t) (m * n) (p + q) (oneU f) (v * u) E (by unfold oneU; omega) hV hE' hEm
  refine ⟨_, _, rfl, IVal.ofNum hw, ?_, ?_⟩
  · rw [natAbs_sgn]; exact hw1
  · generalize 2 ^ (E - f.fractionBits + oneU f) = ee at *
    have ec : ((w : Int) * ((2 ^ oneU f : Nat) : Int)) = ((w * 2 ^ oneU f : Nat) : Int) := by simp
    generalize v * u = vu at *
    generalize w * 2 ^ oneU f = wo at *
    cases (s ^^ t)
    · simp only [Bool.false_eq_true, if_false]; omega
    · simp only [if_true]; rw [Int.neg_mul]; omega

/-- x is a number of at most 2 ^ E units -/
def Bd (f : Format) (E x : Nat) : Prop := ∃ z, IVal f x z ∧ z.natAbs ≤ 2 ^ E
theorem Bd.mono {f : Format} {E F x : Nat} (h : Bd f E x) (k : E ≤ F) : Bd f F x := by
  obtain ⟨z, hz, hb⟩ := h
  exact ⟨z, hz, Nat.le_trans hb (Nat.pow_le_pow_right (by omega) k)⟩
theorem Bd.add {f : Format} {E x y : Nat} (hx : Bd f E x) (hy : Bd f E y) (hEm : E + 1 - f.fractionBits + 3 < 2 ^ f.exponentBits) : ∃ r, f.add x y = some r ∧ Bd f (E + 1) r := by
  obtain ⟨a, ha, ba⟩ := hx
  obtain ⟨b, hb, bb⟩ := hy
  obtain ⟨r, c, h1, h2, h3, _⟩ := add_ok ha hb (E + 1) (by rw [Nat.pow_succ]; omega) hEm
  exact ⟨r, h1, c, h2, h3⟩
theorem Bd.mul {f : Format} {E F G x y : Nat} (hx : Bd f E x) (hy : Bd f F y) (h0 : f.leastPlace ≤ 0) (hG : E + F = G + oneU f) (hEm : G - f.fractionBits + 3 < 2 ^ f.exponentBits) : ∃ r, f.mul x y = some r ∧ Bd f G r := by
  obtain ⟨a, ha, ba⟩ := hx
  obtain ⟨b, hb, bb⟩ := hy
  obtain ⟨r, c, h1, h2, h3, _⟩ := mul_ok ha hb G h0 (by rw [← hG, Nat.pow_add, Int.natAbs_mul]; exact Nat.mul_le_mul ba bb) hEm
  exact ⟨r, h1, c, h2, h3⟩
theorem Bd.ofInt (f : Format) (n : Int) (E : Nat) (h0 : f.leastPlace ≤ 0) (hn : n.natAbs ≤ 2 ^ E) (hEm : E + oneU f - f.fractionBits + 3 < 2 ^ f.exponentBits) : Bd f (E + oneU f) (f.write (.number (n < 0) n.natAbs 0)) := by
  obtain ⟨w, hw, hw1, _, _⟩ := nearest_num f (decide (n < 0)) n.natAbs 0 0 (n.natAbs * 2 ^ oneU f) (E + oneU f) (by omega) (by unfold oneU; congr 3; omega)
    (by rw [Nat.add_zero, Nat.pow_add]; exact Nat.mul_le_mul_right _ hn) hEm
  exact ⟨_, IVal.ofNum hw, by rw [natAbs_sgn]; exact hw1⟩

end Go.Proofs.Ytfghjlngllanoaa
