/- Plain facts on floats: what opposite numbers come to. No program in sight. -/
import Derived.Test.YtfghjlngllanoaaWideP
namespace Go.Proofs.Ytfghjlngllanoaa
open Ieee
set_option linter.unusedVariables false
set_option maxRecDepth 100000
/-- y is x with the opposite sign (both may be zeros) -/
def Opp (f : Format) (x y : Nat) : Prop := ∃ s t m p, f.read x = .number s m p ∧ f.read y = .number t m p ∧ (t = !s ∨ m = 0)
/-- magnitude and place of a rung -/
def rm (f : Format) (r : Nat) : Nat := if r < f.binade then r else f.binade + r % f.binade
def rp (f : Format) (r : Nat) : Int := if r < f.binade then f.leastPlace else f.leastPlace + (r / f.binade - 1 : Nat)
theorem read_word (f : Format) (neg : Bool) (r : Nat) (h : r < f.infRung) : f.read (f.word neg r) = .number neg (rm f r) (rp f r) := by
  have hs := f.infRung_lt
  have e1 : (f.word neg r) / f.signWeight % 2 = neg.toNat := by
    cases neg
    · simp [Format.word, Nat.div_eq_of_lt (show r < f.signWeight by omega)]
    · simp only [Format.word, if_true]
      rw [Nat.add_div_left _ (by omega), Nat.div_eq_of_lt (by omega)]
      rfl
  have e2 : (f.word neg r) % f.signWeight = r := by
    cases neg
    · simp [Format.word]; exact Nat.mod_eq_of_lt (by omega)
    · simp only [Format.word, if_true]
      rw [Nat.add_mod_left]; exact Nat.mod_eq_of_lt (by omega)
  have e3 : ((f.word neg r) / f.signWeight % 2 == 1) = neg := by rw [e1]; cases neg <;> rfl
  unfold Format.read rm rp
  simp only [e2, e3]
  by_cases h1 : r < f.binade
  · simp only [if_pos h1]
  · simp only [if_neg h1, if_pos h]
theorem rm_zero (f : Format) : rm f 0 = 0 := by simp [rm, binade_pos f]
/-- the rung of a magnitude -/
def nrung (f : Format) (mag : Nat) (place : Int) : Nat :=
  if mag = 0 then 0 else
  min ((max (place + mag.log2 - f.fractionBits) f.leastPlace - f.leastPlace).toNat * f.binade + Toward.even.cut false (mag <<< (place - max (place + mag.log2 - f.fractionBits) f.leastPlace).toNat) (max (place + mag.log2 - f.fractionBits) f.leastPlace - place).toNat) f.infRung
theorem nearest_eq (f : Format) (neg : Bool) (mag : Nat) (place : Int) : f.nearest neg mag place = f.word neg (nrung f mag place) := by
  unfold Format.nearest nrung
  by_cases h : mag = 0
  · rw [if_pos h, if_pos h]
  · rw [if_neg h, if_neg h]; rfl
theorem nrung_le (f : Format) (mag : Nat) (place : Int) : nrung f mag place ≤ f.infRung := by
  unfold nrung; split
  · exact Nat.zero_le _
  · exact Nat.min_le_right _ _
theorem word_num (f : Format) (neg : Bool) (r : Nat) (h : r ≤ f.infRung) (hB : f.binade ≤ f.infRung) {s : Bool} {v : Nat} (hn : Num f (f.word neg r) s v) : r < f.infRung := by
  rcases Nat.lt_or_eq_of_le h with h | h
  · exact h
  · subst h
    have := infinity_notNaN f neg
    obtain ⟨m, p, hr, _⟩ := hn
    have hs := f.infRung_lt
    have e2 : (f.word neg f.infRung) % f.signWeight = f.infRung := by
      cases neg
      · simp [Format.word]; exact Nat.mod_eq_of_lt (by omega)
      · simp only [Format.word, if_true]
        rw [Nat.add_mod_left]; exact Nat.mod_eq_of_lt (by omega)
    unfold Format.read at hr
    simp only [e2] at hr
    rw [if_neg (by omega), if_neg (by omega)] at hr
    simp at hr
theorem inf_ge (k : FloatKind) : k.format.binade ≤ k.format.infRung := by cases k <;> decide +kernel
theorem opp_words {k : FloatKind} {neg neg' : Bool} {mag : Nat} {place : Int} (hn : ∃ s v, Num k.format (k.format.nearest neg mag place) s v) (h : neg' = !neg ∨ mag = 0) :
    Opp k.format (k.format.nearest neg mag place) (k.format.nearest neg' mag place) := by
  obtain ⟨s, v, hn⟩ := hn
  rw [nearest_eq] at hn
  have hr := word_num k.format neg _ (nrung_le _ _ _) (inf_ge k) hn
  rw [nearest_eq, nearest_eq]
  refine ⟨neg, neg', _, _, read_word _ _ _ hr, read_word _ _ _ hr, ?_⟩
  rcases h with h | h
  · exact .inl h
  · subst h
    right
    simp [nrung, rm_zero]
theorem signed_opp {s t : Bool} {m k : Nat} (h : t = !s ∨ m = 0) : signed t m k = -signed s m k := by
  rw [signed_val, signed_val]
  rcases h with rfl | rfl
  · cases s <;> simp
  · cases s <;> cases t <;> simp
theorem opp_add {k : FloatKind} {x y x' y' : Nat} (hx : Opp k.format x x') (hy : Opp k.format y y') (hn : ∃ s v, Num k.format (kAdd k x y) s v) : Opp k.format (kAdd k x y) (kAdd k x' y') := by
  obtain ⟨s, s', m, p, hr, hr', hs⟩ := hx
  obtain ⟨t, t', n, q, hq, hq', ht⟩ := hy
  have e : kAdd k x y = k.format.nearest (if signed s m (p - min p q).toNat + signed t n (q - min p q).toNat = 0 then s && t else decide (signed s m (p - min p q).toNat + signed t n (q - min p q).toNat < 0)) (signed s m (p - min p q).toNat + signed t n (q - min p q).toNat).natAbs (min p q) := by
    simp only [kAdd, floatBits, Format.add, hr, hq, Datum.sum, Option.map_some, Format.write, Option.getD_some]
  have e' : kAdd k x' y' = k.format.nearest (if signed s' m (p - min p q).toNat + signed t' n (q - min p q).toNat = 0 then s' && t' else decide (signed s' m (p - min p q).toNat + signed t' n (q - min p q).toNat < 0)) (signed s' m (p - min p q).toNat + signed t' n (q - min p q).toNat).natAbs (min p q) := by
    simp only [kAdd, floatBits, Format.add, hr', hq', Datum.sum, Option.map_some, Format.write, Option.getD_some]
  rw [e] at hn ⊢
  rw [e', signed_opp hs, signed_opp ht]
  generalize signed s m (p - min p q).toNat = A at *
  generalize signed t n (q - min p q).toNat = B at *
  have en : (-A + -B).natAbs = (A + B).natAbs := by omega
  rw [en]
  refine opp_words hn ?_
  by_cases hz : A + B = 0
  · right; omega
  · left
    rw [if_neg hz, if_neg (by omega)]
    by_cases hl : A + B < 0
    · have : ¬ (-A + -B < 0) := by omega
      simp [hl, this]
    · have : -A + -B < 0 := by omega
      simp [hl, this]
theorem opp_mul {k : FloatKind} {x x' y : Nat} (hx : Opp k.format x x') (hy : ∃ t n q, k.format.read y = .number t n q) (hn : ∃ s v, Num k.format (kMul k x y) s v) : Opp k.format (kMul k x y) (kMul k x' y) := by
  obtain ⟨s, s', m, p, hr, hr', hs⟩ := hx
  obtain ⟨t, n, q, hq⟩ := hy
  have e : kMul k x y = k.format.nearest (s ^^ t) (m * n) (p + q) := by
    simp only [kMul, floatBits, Format.mul, hr, hq, Datum.product, Option.map_some, Format.write, Option.getD_some]
  have e' : kMul k x' y = k.format.nearest (s' ^^ t) (m * n) (p + q) := by
    simp only [kMul, floatBits, Format.mul, hr', hq, Datum.product, Option.map_some, Format.write, Option.getD_some]
  rw [e] at hn ⊢
  rw [e']
  refine opp_words hn ?_
  rcases hs with rfl | rfl
  · left; cases s <;> cases t <;> rfl
  · right; simp
theorem opp_int {k : FloatKind} (n : Int) (hn : ∃ s v, Num k.format (floatOfInt k n) s v) : Opp k.format (floatOfInt k n) (floatOfInt k (-n)) := by
  have e : floatOfInt k n = k.format.nearest (decide (n < 0)) n.natAbs 0 := rfl
  have e' : floatOfInt k (-n) = k.format.nearest (decide (-n < 0)) (-n).natAbs 0 := rfl
  rw [e] at hn ⊢
  rw [e', Int.natAbs_neg]
  refine opp_words hn ?_
  by_cases hz : n = 0
  · right; omega
  · left
    by_cases hl : n < 0
    · have : ¬ (-n < 0) := by omega
      rw [decide_eq_true hl, decide_eq_false this]; rfl
    · have : -n < 0 := by omega
      rw [decide_eq_false hl, decide_eq_true this]; rfl
theorem KB.read {k : FloatKind} {E x : Nat} (h : KB k E x) : ∃ t n q, k.format.read x = .number t n q := by
  obtain ⟨s, v, m, p, hr, _⟩ := h.num
  exact ⟨s, m, p, hr⟩
theorem opp_zero (k : FloatKind) : Opp k.format 0 0 := by
  obtain ⟨t, n, q, hr⟩ := (zero_ok k 0).read
  have h0 : k.format.read 0 = .number false 0 k.format.leastPlace := by cases k <;> decide +kernel
  exact ⟨false, false, 0, _, h0, h0, .inr rfl⟩
theorem opp_point (k : FloatKind) {f : Nat → Int} (hf : ∀ j, j < 8 → -1000000 ≤ f j ∧ f j ≤ 1000000) (i : Nat) (h : i ≤ 8) :
    Opp k.format (pointP k f i).1 (pointP k (fun j => - f j) i).1 ∧ Opp k.format (pointP k f i).2 (pointP k (fun j => - f j) i).2 := by
  induction i with
  | zero => exact ⟨opp_zero k, opp_zero k⟩
  | succ i ih =>
    obtain ⟨h1, h2⟩ := ih (by omega)
    obtain ⟨b1, b2⟩ := pointP_ok k hf (i + 1) h
    have c := kInt_ok k (f i) 20 (coef_bd (hf i (by omega))) (by omega)
    have o := opp_int (k := k) (f i) c.num
    exact ⟨opp_add h1 (opp_mul o (rootRe_ok k (by omega)).read (termRe_ok k (hf i (by omega)) (by omega)).2.num) b1.num, opp_add h2 (opp_mul o (rootIm_ok k (by omega)).read (termIm_ok k (hf i (by omega)) (by omega)).2.num) b2.num⟩
theorem opp_order {f : Format} {x y x' y' : Nat} (hx : Opp f x x') (hy : Opp f y y') : (f.order x' y' == some .eq) = (f.order x y == some .eq) := by
  obtain ⟨s, s', m, p, hr, hr', hs⟩ := hx
  obtain ⟨t, t', n, q, hq, hq', ht⟩ := hy
  unfold Format.order
  rw [hr, hr', hq, hq']
  simp only [Datum.order]
  rw [signed_opp hs, signed_opp ht]
  generalize signed s m (p - min p q).toNat = A
  generalize signed t n (q - min p q).toNat = B
  rw [Bool.eq_iff_iff]
  simp only [beq_iff_eq, Option.some.injEq, Std.compare_eq_iff_eq]
  omega
theorem opp_widen {x x' E : Nat} (hx : Opp FloatKind.f32.format x x') (h : KB .f32 E x) (hE : E ≤ 60) : Opp FloatKind.f64.format (widen x) (widen x') := by
  obtain ⟨w1, w2⟩ := widen_ok h hE
  obtain ⟨s, s', m, p, hr, hr', hs⟩ := hx
  have hd : ∀ (y : Nat) (t : Bool), FloatKind.f32.format.read y = .number t m p → (FloatKind.f64.decode (FloatKind.f64.encode (.number t m p))).isInfinity = false → widen y = FloatKind.f64.format.nearest t m p := by
    intro y t hy hi
    have hy' : FloatKind.f32.decode y = .number t m p := hy
    unfold widen floatToFloatBits
    rw [if_neg (by decide), hy']
    simp only [hi, Bool.false_eq_true, if_false, Option.getD_some]
    rfl
  have hi : (FloatKind.f64.decode (FloatKind.f64.encode (.number s m p))).isInfinity = false := by
    cases hi : (FloatKind.f64.decode (FloatKind.f64.encode (.number s m p))).isInfinity
    · rfl
    · have hx' : FloatKind.f32.decode x = .number s m p := hr
      unfold floatToFloatBits at w1
      rw [if_neg (by decide), hx'] at w1
      simp [hi] at w1
  have e := hd x s hr hi
  rw [e] at w2 ⊢
  obtain ⟨t, v, hv⟩ := w2.num
  have hv' := hv
  rw [nearest_eq] at hv'
  have hlt := word_num FloatKind.f64.format s _ (nrung_le _ _ _) (inf_ge .f64) hv'
  have hi' : (FloatKind.f64.decode (FloatKind.f64.encode (.number s' m p))).isInfinity = false := by
    show (FloatKind.f64.format.read (FloatKind.f64.format.nearest s' m p)).isInfinity = false
    rw [nearest_eq, read_word _ _ _ hlt]; rfl
  rw [hd x' s' hr' hi']
  exact opp_words ⟨t, v, hv⟩ hs

end Go.Proofs.Ytfghjlngllanoaa
