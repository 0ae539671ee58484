/- Wide numbers that are drawn: plain facts over their words, checked one by one. -/
import Derived.Test.YtfghjlngllanoaaWideK
namespace Go.Proofs.Ytfghjlngllanoaa
open Ieee
set_option linter.unusedVariables false
set_option maxRecDepth 100000
/-- a word that is no number -/
def NaNw (x : Nat) : Prop := ∃ s p, FloatKind.f64.format.read x = .nan s p
theorem NaNw.order {x : Nat} (h : NaNw x) (y : Nat) : FloatKind.f64.format.order x y = none := by
  obtain ⟨s, p, h⟩ := h
  unfold Format.order
  rw [h]; cases FloatKind.f64.format.read y <;> rfl
theorem NaNw.le {x : Nat} (h : NaNw x) (y : Nat) : leP x y = false := by unfold leP; rw [h.order]; rfl
theorem NaNw.subL {x : Nat} (h : NaNw x) (y : Nat) : floatBits .sub .f64 x y = none := by
  obtain ⟨s, p, h⟩ := h
  show Option.map _ (Datum.sum (FloatKind.f64.format.read x) _) = none
  rw [h]; cases FloatKind.f64.format.read y <;> rfl
theorem NaNw.subR {x : Nat} (h : NaNw x) (y : Nat) : floatBits .sub .f64 y x = none := by
  obtain ⟨s, p, h⟩ := h
  show Option.map _ (Datum.sum _ (FloatKind.f64.format.read x).opposite) = none
  rw [h]; cases FloatKind.f64.format.read y <;> rfl
theorem cut_nan (k : Question) (hk : ∃ x y, k = .nanBits .f64 x y) (t : Nat) : NaNw (k.cut t) ∧ NaNw (k.cut t % 9223372036854775808) := by
  obtain ⟨x, y, rfl⟩ := hk
  have e : Question.cut (.nanBits .f64 x y) t = (t % 2) * 9223372036854775808 + 9218868437227405312 + 1 + (t / 2) % 4503599627370495 := rfl
  rw [e]
  have h1 : t % 2 < 2 := Nat.mod_lt _ (by omega)
  have h2 : t / 2 % 4503599627370495 < 4503599627370495 := Nat.mod_lt _ (by omega)
  generalize t % 2 = a at *
  generalize t / 2 % 4503599627370495 = b at *
  have hs : FloatKind.f64.format.signWeight = 9223372036854775808 := by decide +kernel
  have hi : FloatKind.f64.format.infRung = 9218868437227405312 := by decide +kernel
  have hb : FloatKind.f64.format.binade = 4503599627370496 := by decide +kernel
  have key : ∀ z, z % 9223372036854775808 = 9218868437227405312 + 1 + b → NaNw z := by
    intro z hz
    refine ⟨(z / 9223372036854775808 % 2 == 1), b + 1, ?_⟩
    unfold Format.read
    rw [hs, hi, hb, hz]
    dsimp only
    rw [if_neg (by omega), if_neg (by omega), if_neg (by omega)]
    rw [show 9218868437227405312 + 1 + b - 9218868437227405312 = b + 1 by omega]
  exact ⟨key _ (by omega), key _ (by omega)⟩
theorem chk_of {a b m : Nat} (ha : a ∈ wordL) (hb : b ∈ wordL) (hm : m ∈ mostL) : chkN a b m = true := by
  have := chk_all
  rw [List.all_eq_true] at this
  have := this a ha
  rw [List.all_eq_true] at this
  have := this b hb
  rw [List.all_eq_true] at this
  exact this m hm
/-- a part: one of the words, or no number -/
def WPart (x : Nat) : Prop := NaNw x ∨ x ∈ wordL
/-- what a difference's part is -/
def PartOf (a b d : Nat) : Prop := floatBits .sub .f64 a b = some d ∨ (floatBits .sub .f64 a b = none ∧ NaNw d ∧ NaNw (d % 9223372036854775808))
theorem PartOf.abs {a b d m : Nat} (h : PartOf a b d) : leP (d % 9223372036854775808) m = nB a b m := by
  unfold nB
  rcases h with h | ⟨h, h1, h2⟩
  · rw [h]
  · rw [h, h2.le]
theorem PartOf.both {a b d m : Nat} (h : PartOf a b d) (ha : WPart a) (hb : WPart b) (hm : m ∈ mostL) : (leP d m && geP d (Go.Op.negFloat .f64 m)) = nB a b m := by
  rcases h with h | ⟨h, h1, h2⟩
  · rcases ha with ha | ha
    · rw [ha.subL] at h; cases h
    · rcases hb with hb | hb
      · rw [hb.subR] at h; cases h
      · have := chk_of ha hb hm
        unfold chkN at this
        rw [h] at this
        simp only [Bool.and_eq_true, beq_iff_eq] at this
        unfold nB; rw [h]; exact this.1
  · unfold nB; rw [h, h1.le]; rfl
theorem near_sym {a b m : Nat} (ha : WPart a) (hb : WPart b) (hm : m ∈ mostL) (h : nB a b m = true) : nB b a m = true ∧ nB a b (most1 m) = true ∧ FloatKind.f64.format.order a a = some .eq ∧ FloatKind.f64.format.order b b = some .eq := by
  have hh := h
  unfold nB at h
  cases hs : floatBits .sub .f64 a b with
  | none => rw [hs] at h; cases h
  | some d =>
    rw [hs] at h
    rcases ha with ha | ha
    · rw [ha.subL] at hs; cases hs
    rcases hb with hb | hb
    · rw [hb.subR] at hs; cases hs
    have hc := chk_of ha hb hm
    have h1 := self_all
    rw [List.all_eq_true] at h1
    have ha1 := h1 a ha
    have hb1 := h1 b hb
    unfold chkN at hc
    rw [hs] at hc
    have h' : leP (d % 9223372036854775808) m = true := h
    dsimp only at hc
    rw [h'] at hc
    simp only [Bool.not_true, Bool.false_or, Bool.and_eq_true] at hc
    refine ⟨hc.2.1, ?_, by simpa using ha1, by simpa using hb1⟩
    unfold nB; rw [hs]; exact hc.2.2

end Go.Proofs.Ytfghjlngllanoaa
