/- Whole parts of surds (chapter 3), of impl and of spec: their walks, and the exact law. -/
import Derived.Test.YthgmgjjjgllbjaaSign5
import Derived.Test.YthgmgjjjgllbjaaMono
import Derived.Test.YthgmgjjjgllbjaaFltC
import Derived.WalkLawsBesides
import Derived.Laws.ComplexArith
import Derived.Laws.Externs
namespace Go.Proofs.Ythgmgjjjgllbjaa
open Go.ChangeShapes Go.WideShapes Go.ChangeAt Go.RowKit
set_option linter.unusedVariables false

theorem sg3_range (a b c d : Int) : -1 ≤ sg3 a b c d ∧ sg3 a b c d ≤ 1 := by
  unfold sg3
  have h1 := sg2_range a b
  have h2 := sg2_range c d
  have h3 := sg2_range (a * a + 2 * b * b - 3 * c * c - 6 * d * d) (2 * a * b - 6 * c * d)
  split
  · omega
  · split
    · omega
    · rcases h1 with h1 | h1 | h1 <;> rcases h3 with h3 | h3 | h3 <;> rw [h1, h3] <;> decide
theorem notLess {f : Nat → Int} {n : Int} (h : ¬ LessF f n) : 0 ≤ sg3 (f 0 - 4 * n) (f 1) (f 2) (f 3) := by
  have := sg3_range (f 0 - 4 * n) (f 1) (f 2) (f 3)
  unfold LessF at h
  omega
/-- what SurdWhole comes to -/
def Wholes (f : Nat → Int) (w : World) (e : Ending) (w' : World) : Prop :=
  (sOk f = true ∧ ∃ n : Int, IsWhole f n ∧ -20000000 ≤ n ∧ n < 20000000 ∧ e = .returned (tupIB (n, true)) ∧ Ext w w') ∨ (sOk f = false ∧ e = .returned (tupIB (0, false)) ∧ Ext w w')
theorem mid_bd {l h : Int} (k : 1 < h - l) : l < (l + h).tdiv 2 ∧ (l + h).tdiv 2 < h := by
  rcases Int.le_total 0 (l + h) with c | c
  · rw [Int.tdiv_eq_ediv_of_nonneg c]; omega
  · obtain ⟨m, hm⟩ : ∃ m : Int, l + h = -m := ⟨-(l + h), by omega⟩
    rw [hm, Int.neg_tdiv, Int.tdiv_eq_ediv_of_nonneg (by omega)]; omega

set_option maxHeartbeats 2000000 in
theorem sSurdWhole_any (f : Nat → Int) (w : World) : Calls Try.prog 25 #[sfV f] w (Wholes f w) := by
  have j0 := Blk.new w (s4 f) 26
  have x0 : Ext w (w.alloc (.cells (s4 f).toArray 26)) := by repeat (first | exact Ext.refl _ | assumption | refine Ext.drew ?_ | refine Ext.alloc ?_ _ | refine Ext.trans ?_ (by assumption))
  by_cases hf : sOk f = true
  · have BF := Lib.hid (sOk_bd hf)
    go_enter Try.func25, Try.ntmps25
    go_wp2_with fail
    refine (sSurdValidF_any _ _).mono ?_
    rintro e w1 ⟨rfl, x1⟩
    have j1 := j0.keep x1
    have y1 := x0.trans x1
    clear j0 x0 x1
    go_wp2
    go_loopw [4, 5] (fun a b wr => ∃ l h : Int, a = .int .i64 l ∧ b = .int .i64 h ∧ -20000000 ≤ l ∧ h ≤ 20000000 ∧ l < h ∧ ¬ LessF f l ∧ LessF f h ∧ Blk wr w.heap.size (s4 f) ∧ Ext w wr) (fun a b _ => (intOf b - intOf a).toNat)
    case atStart => exact ⟨-20000000, 20000000, rfl, rfl, by omega, by omega, by omega, less_lo BF.out, less_hi BF.out, j1, y1⟩
    case round =>
      obtain ⟨l, h, rfl, rfl, l1, h1, lh, nl, lesh, jr, yr⟩ := hrel
      clear j1 y1
      have c := jr.cell
      by_cases hc : 1 < h - l
      · obtain ⟨m1, m2⟩ := mid_bd hc
        obtain ⟨M, hM⟩ : ∃ M, (l + h).tdiv 2 = M := ⟨_, rfl⟩
        rw [hM] at m1 m2
        have NL := Lib.hid nl
        have LH := Lib.hid lesh
        have f0 := BF.out 0 (by omega); have f1 := BF.out 1 (by omega); have f2 := BF.out 2 (by omega); have f3 := BF.out 3 (by omega)
        obtain ⟨f00, f01⟩ := f0
        clear nl lesh
        by_cases hm : LessF f M
        · have hs : sg3 (f 0 - 4 * M) (f 1) (f 2) (f 3) = -1 := hm
          have HM := Lib.hid hm
          clear hm
          go_wp2_with (go_at_call 28; ((with_reducible refine (l3Sign_any (f 0 - 4 * M) (f 1) (f 2) (f 3) (by omega) (by omega) (by omega) (by omega) _).mono ?_); rintro e w2 ⟨rfl, x2⟩))
          clear hs hM
          go_roundw
          case rel => exact ⟨l, M, rfl, rfl, l1, by omega, m1, NL.out, HM.out, jr.keep x2, yr.trans x2⟩
          case measure => simp [intOf]; omega
        · have hs := notLess hm
          have HM := Lib.hid hm
          clear hm
          go_wp2_with (go_at_call 28; ((with_reducible refine (l3Sign_any (f 0 - 4 * M) (f 1) (f 2) (f 3) (by omega) (by omega) (by omega) (by omega) _).mono ?_); rintro e w2 ⟨rfl, x2⟩))
          clear hs hM
          go_roundw
          case rel => exact ⟨M, h, rfl, rfl, by omega, h1, m2, HM.out, LH.out, jr.keep x2, yr.trans x2⟩
          case measure => simp [intOf]; omega
      · have e : h = l + 1 := by omega
        subst e
        have W : Wholes f w (.returned (tupIB (l, true))) wr := .inl ⟨hf, l, ⟨nl, lesh⟩, l1, by omega, rfl, yr⟩
        clear nl lesh lh
        go_wp2
        go_ret2
        exact W
  · have hf' : sOk f = false := by simpa using hf
    clear hf
    go_enter Try.func25, Try.ntmps25
    go_wp2_with fail
    refine (sSurdValidF_any _ _).mono ?_
    rintro e w1 ⟨rfl, x1⟩
    have W : Wholes f w (.returned (tupIB (0, false))) w1 := .inr ⟨hf', rfl, x0.trans x1⟩
    clear j0 x0 x1
    go_wp2
    go_ret2
    exact W

theorem less_call (f : Nat → Int) (n : Int) (hf : ∀ j, j < 4 → -10000000 ≤ f j ∧ f j ≤ 10000000) (hn : -268435456 ≤ n ∧ n ≤ 268435456) (B : Nat) (w : World) (hb : Blk w B (s4 f)) :
    Calls Try.prog 42 #[.int .i64 n, .pointer (some ⟨B, 0, none⟩)] w fun e w' => e = .returned (.bool (decide (sg3 (f 0 - 4 * n) (f 1) (f 2) (f 3) < 0))) ∧ Ext w w' := by
  have c := hb.cell
  obtain ⟨n1, n2⟩ := hn
  have HF := Lib.hid hf
  clear hf hb
  have hm := fun w' : World => sminus_any f (fn4 (4 * n) 0 0 0) w' (fun j hj => by have := HF.out j hj; omega) (fun j hj => by
    obtain rfl | rfl | rfl | rfl : j = 0 ∨ j = 1 ∨ j = 2 ∨ j = 3 := by omega
    · show -1000000000000 ≤ 4 * n ∧ 4 * n ≤ 1000000000000; omega
    · show (-1000000000000 : Int) ≤ 0 ∧ (0 : Int) ≤ 1000000000000; omega
    · show (-1000000000000 : Int) ≤ 0 ∧ (0 : Int) ≤ 1000000000000; omega
    · show (-1000000000000 : Int) ≤ 0 ∧ (0 : Int) ≤ 1000000000000; omega)
  have e : sfV (fun j => f j - fn4 (4 * n) 0 0 0 j) = surdV (f 0 - 4 * n) (f 1) (f 2) (f 3) := by simp [fn4]
  rw [e] at hm
  have f0 := HF.out 0 (by omega); have f1 := HF.out 1 (by omega); have f2 := HF.out 2 (by omega); have f3 := HF.out 3 (by omega)
  have HM := Lib.hid hm
  clear hm e
  go_enter Try.func42, Try.ntmps42
  go_wp2_with fail
  refine (HM.out _).mono ?_
  rintro e w1 ⟨rfl, x1⟩
  clear c
  go_wp2_with fail
  refine (sign_any (f 0 - 4 * n) (f 1) (f 2) (f 3) (by omega) (by omega) (by omega) (by omega) _).mono ?_
  rintro e w2 ⟨rfl, x2⟩
  go_wp2
  go_ret
  exact ⟨rfl, x1.trans x2⟩

end Go.Proofs.Ythgmgjjjgllbjaa
