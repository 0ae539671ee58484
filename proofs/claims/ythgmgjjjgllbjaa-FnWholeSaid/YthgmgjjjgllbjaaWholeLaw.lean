/- The law on whole parts of surds (P27): its walk. -/
import Derived.Test.YthgmgjjjgllbjaaWhole2
import Derived.Test.YthgmgjjjgllbjaaSurdD
namespace Go.Proofs.Ythgmgjjjgllbjaa
open Go.ChangeShapes Go.WideShapes Go.ChangeAt Go.RowKit
set_option linter.unusedVariables false

theorem cmp_at {f : Nat → Int} (n : Int) (hf : sOk f = true) : cmpM f (fn4 n 0 0 0) = if sOk (fn4 n 0 0 0) then (sg3 (f 0 - n) (f 1) (f 2) (f 3), true) else (0, false) := by
  unfold cmpM
  cases h : sOk (fn4 n 0 0 0) <;> simp [hf, sgF, fn4]

set_option maxHeartbeats 2000000 in
theorem lawWhole (a : Option Addr) (len cap : Nat) (w : World) (h : CodeOk w a len cap) :
    Calls Try.prog 10 #[.slice a len cap] w fun e w' => e = .returned (.bool true) ∧ Ext w w' := by
  have hl := h.1
  have hm := h.2.1
  unfold maxLen at hm
  by_cases hbig : 1048576 < len
  · go_enter Try.func10, Try.ntmps10
    go_wp2_with fail
    go_ret; exact ⟨rfl, Ext.refl _⟩
  · go_enter Try.func10, Try.ntmps10
    go_wp2_with fail
    refine (dSurdWhole_any _ _ _ _ h).mono ?_
    rintro e w1 ⟨f, rfl, hf, x1⟩
    have b0 := Blk.new w1 (s4 f) 26
    have y := x1.alloc (.cells (s4 f).toArray 26)
    have c0 := b0.cell
    clear x1 h hl hm hbig hf
    go_wp2_with fail
    refine (iSurdWhole_any f _).mono ?_
    intro e w2 hw
    obtain ⟨p, rfl, x2, hp⟩ := hw.one
    have HP := Lib.hid hp
    dsimp only [tupIB]
    replace b0 := b0.keep x2
    replace c0 := b0.cell
    replace y := y.trans x2
    clear x2 hw hp
    go_wp2_with fail
    refine (sSurdWhole_any f _).mono ?_
    intro e w3 hw
    obtain ⟨q, rfl, x3, hq⟩ := hw.one
    obtain rfl := whole_same HP.out hq
    dsimp only [tupIB]
    replace b0 := b0.keep x3
    replace c0 := b0.cell
    replace y := y.trans x3
    clear x3 hw hq
    rcases HP.out with ⟨h1, h2, h3, h4, h5⟩ | ⟨h1, h2⟩
    · obtain ⟨n, b⟩ := p
      simp only at h2 h3 h4 h5
      subst h2
      have H1 := Lib.hid (cmp_at (4 * n) h1)
      have H2 := Lib.hid (cmp_at (4 * n + 4) h1)
      have s1 := notLess h3.1
      have s2 : sg3 (f 0 - (4 * n + 4)) (f 1) (f 2) (f 3) = -1 := by
        have e : f 0 - (4 * n + 4) = f 0 - 4 * (n + 1) := by omega
        rw [e]; exact h3.2
      have S2 := Lib.hid s2
      clear h3 HP h1 s2
      generalize sg3 (f 0 - 4 * n) (f 1) (f 2) (f 3) = S at *
      dsimp only
      go_wp2_with fail
      refine (iSurdCompare_any f (fn4 (4 * n) 0 0 0) _).mono ?_
      rintro e w4 ⟨rfl, x4⟩
      replace b0 := b0.keep x4
      replace c0 := b0.cell
      replace y := y.trans x4
      clear x4
      rw [H1.out]
      cases k1 : sOk (fn4 (4 * n) 0 0 0) <;> cases k2 : sOk (fn4 (4 * n + 4) 0 0 0) <;> simp only [k2, Bool.false_eq_true, if_false, if_true, S2.out] at H2 ⊢ <;> clear k1 k2 <;> dsimp only [tupIB]
      all_goals
        go_wp2_with fail
        refine (iSurdCompare_any f (fn4 (4 * n + 4) 0 0 0) _).mono ?_
        rintro e w5 ⟨rfl, x5⟩
        rw [H2.out]; dsimp only [tupIB]
        go_wp2
        go_ret; exact ⟨rfl, y.trans x5⟩
    · subst h2
      clear HP
      go_wp2
      go_ret; exact ⟨rfl, y⟩

end Go.Proofs.Ythgmgjjjgllbjaa
