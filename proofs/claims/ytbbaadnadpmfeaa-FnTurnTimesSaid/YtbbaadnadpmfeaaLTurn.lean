/- The laws on turns: their walks, and the plain arithmetic behind them. -/
import Derived.Test.YtbbaadnadpmfeaaDraw2
namespace Go.Proofs.Ytbbaadnadpmfeaa
open Go.ChangeShapes Go.WideShapes Go.ChangeAt Go.RowKit
set_option linter.unusedVariables false

theorem modT_add24 (n : Int) : modT (n + 24) = modT n := by unfold modT; omega
theorem divs_cases {d : Int} (h : divs d = true) : d = 1 ∨ d = 2 ∨ d = 3 ∨ d = 4 ∨ d = 6 ∨ d = 8 ∨ d = 12 ∨ d = 24 := by
  obtain ⟨h1, h2, h3⟩ := divs_le h
  obtain rfl | rfl | rfl | rfl | rfl | rfl | rfl | rfl | rfl | rfl | rfl | rfl | rfl | rfl | rfl | rfl | rfl | rfl | rfl | rfl | rfl | rfl | rfl | rfl : d = 1 ∨ d = 2 ∨ d = 3 ∨ d = 4 ∨ d = 5 ∨ d = 6 ∨ d = 7 ∨ d = 8 ∨ d = 9 ∨ d = 10 ∨ d = 11 ∨ d = 12 ∨ d = 13 ∨ d = 14 ∨ d = 15 ∨ d = 16 ∨ d = 17 ∨ d = 18 ∨ d = 19 ∨ d = 20 ∨ d = 21 ∨ d = 22 ∨ d = 23 ∨ d = 24 := by omega
  all_goals omega
/-- whole turns are left out -/
theorem turnOf_law {num den : Int} (n1 : -50 ≤ num) (n2 : num ≤ 49) (hd : divs den = true) :
    ∃ o : Int, 0 ≤ o ∧ o ≤ 23 ∧ turnOfM num den = (o, true) ∧ turnOfM (num + den) den = (o, true) ∧ turnTimesM o den = (0, true) := by
  have hc := divs_cases hd
  obtain ⟨m1, m2⟩ := modT_bd (num * (24 / den))
  have e1 : inR (-1000000) 1000000 num = true := inR_true (by omega) (by omega)
  have e2 : inR (-1000000) 1000000 (num + den) = true := inR_true (by omega) (by omega)
  have e3 : inR 0 23 (modT (num * (24 / den))) = true := inR_true m1 m2
  have e4 : inR (-1000000) 1000000 den = true := inR_true (by omega) (by omega)
  refine ⟨modT (num * (24 / den)), m1, m2, by simp [turnOfM, hd, e1], ?_, ?_⟩
  · simp only [turnOfM, hd, e2, Bool.and_self, if_true, Prod.mk.injEq, and_true]
    rcases hc with rfl | rfl | rfl | rfl | rfl | rfl | rfl | rfl <;> unfold modT <;> omega
  · simp only [turnTimesM, e3, e4, Bool.and_self, if_true, Prod.mk.injEq, and_true]
    rcases hc with rfl | rfl | rfl | rfl | rfl | rfl | rfl | rfl <;> unfold modT <;> omega

theorem lawTurnOf (a : Option Addr) (len cap : Nat) (w : World) (h : CodeOk w a len cap) :
    Calls Try.prog 5 #[.slice a len cap] w fun e w' => e = .returned (.bool true) ∧ Ext w w' := by
  have hl := h.1
  have hm := h.2.1
  unfold maxLen at hm
  by_cases hbig : 1048576 < len
  · go_enter Try.func5, Try.ntmps5
    go_wp2_with fail
    go_ret; exact ⟨rfl, Ext.refl _⟩
  · go_enter Try.func5, Try.ntmps5
    go_wp2_with fail
    refine (dTurnOf_any _ _ _ _ h).mono ?_
    rintro e w1 ⟨num, den, rfl, n1, n2, d1, d2, x1⟩
    by_cases hd : divs den = true
    · obtain ⟨o, o1, o2, H1, H2, H3⟩ := turnOf_law n1 n2 hd
      have K1 := Lib.hid H1
      have K2 := Lib.hid H2
      have K3 := Lib.hid H3
      clear H1 H2 H3
      go_wp2_with fail
      refine (iTurnOf_any _ _ _).mono ?_
      rintro e w' ⟨rfl, rfl⟩
      rw [K1.out]; dsimp only [tupIB]
      go_wp2_with fail
      refine (sTurnOf_any _ _ _).mono ?_
      rintro e w' ⟨rfl, rfl⟩
      rw [K1.out]; dsimp only [tupIB]
      go_wp2_with fail
      refine (iTurnOf_any _ _ _).mono ?_
      rintro e w' ⟨rfl, rfl⟩
      rw [K2.out]; dsimp only [tupIB]
      go_wp2_with fail
      refine (iTurnTimes_any _ _ _).mono ?_
      rintro e w' ⟨rfl, rfl⟩
      rw [K3.out]; dsimp only [tupIB]
      go_wp2_with fail
      go_ret; exact ⟨rfl, x1⟩
    · have K1 := Lib.hid (show turnOfM num den = (0, false) from by simp [turnOfM, hd])
      clear hd
      go_wp2_with fail
      refine (iTurnOf_any _ _ _).mono ?_
      rintro e w' ⟨rfl, rfl⟩
      rw [K1.out]; dsimp only [tupIB]
      go_wp2_with fail
      refine (sTurnOf_any _ _ _).mono ?_
      rintro e w' ⟨rfl, rfl⟩
      rw [K1.out]; dsimp only [tupIB]
      go_wp2_with fail
      go_ret; exact ⟨rfl, x1⟩

/-- turns add up -/
theorem turnAdd_law {a b : Int} (ha : inR 0 23 a = true) (hb : inR 0 23 b = true) :
    ∃ o k : Int, turnAddM a b = (o, true) ∧ turnAddM b a = (o, true) ∧ turnTimesM a 23 = (k, true) ∧ turnAddM o k = (b, true) := by
  obtain ⟨a1, a2⟩ := inR_of ha
  obtain ⟨b1, b2⟩ := inR_of hb
  obtain ⟨m1, m2⟩ := modT_bd (a + b)
  obtain ⟨m3, m4⟩ := modT_bd (a * 23)
  have e1 : inR 0 23 (modT (a + b)) = true := inR_true m1 m2
  have e2 : inR 0 23 (modT (a * 23)) = true := inR_true m3 m4
  have e3 : inR (-1000000) 1000000 23 = true := by decide
  refine ⟨modT (a + b), modT (a * 23), by simp [turnAddM, ha, hb], by simp [turnAddM, ha, hb, Int.add_comm], by simp [turnTimesM, ha, e3], ?_⟩
  simp only [turnAddM, e1, e2, Bool.and_self, if_true, Prod.mk.injEq, and_true]
  unfold modT; omega
theorem turnAdd_no {a b : Int} (h : ¬ (inR 0 23 a = true ∧ inR 0 23 b = true)) : turnAddM a b = (0, false) := by
  unfold turnAddM
  rw [if_neg (by simpa using h)]
theorem turnTimes_no {a n : Int} (h : ¬ inR 0 23 a = true) : turnTimesM a n = (0, false) := by
  unfold turnTimesM
  rw [if_neg (by simp [h])]
/-- turns are done one after the other -/
theorem turnTimes_law {a n : Int} (ha : inR 0 23 a = true) (n1 : -50 ≤ n) (n2 : n ≤ 49) :
    ∃ o y : Int, turnTimesM a n = (o, true) ∧ turnTimesM a (n + 1) = (y, true) ∧ turnAddM o a = (y, true) := by
  obtain ⟨a1, a2⟩ := inR_of ha
  obtain ⟨m1, m2⟩ := modT_bd (a * n)
  have e1 : inR 0 23 (modT (a * n)) = true := inR_true m1 m2
  have e2 : inR (-1000000) 1000000 n = true := inR_true (by omega) (by omega)
  have e3 : inR (-1000000) 1000000 (n + 1) = true := inR_true (by omega) (by omega)
  refine ⟨modT (a * n), modT (a * (n + 1)), by simp [turnTimesM, ha, e2], by simp [turnTimesM, ha, e3], ?_⟩
  simp only [turnAddM, e1, ha, Bool.and_self, if_true, Prod.mk.injEq, and_true]
  rw [Int.mul_add, Int.mul_one]
  unfold modT; omega

theorem lawTurnAdd (a : Option Addr) (len cap : Nat) (w : World) (h : CodeOk w a len cap) :
    Calls Try.prog 6 #[.slice a len cap] w fun e w' => e = .returned (.bool true) ∧ Ext w w' := by
  have hl := h.1
  have hm := h.2.1
  unfold maxLen at hm
  by_cases hbig : 1048576 < len
  · go_enter Try.func6, Try.ntmps6
    go_wp2_with fail
    go_ret; exact ⟨rfl, Ext.refl _⟩
  · go_enter Try.func6, Try.ntmps6
    go_wp2_with fail
    refine (dTurnAdd_any _ _ _ _ h).mono ?_
    rintro e w1 ⟨x, y, rfl, n1, n2, d1, d2, x1⟩
    by_cases hd : inR 0 23 x = true ∧ inR 0 23 y = true
    · obtain ⟨o, k, H1, H2, H3, H4⟩ := turnAdd_law hd.1 hd.2
      have K1 := Lib.hid H1
      have K2 := Lib.hid H2
      have K3 := Lib.hid H3
      have K4 := Lib.hid H4
      clear H1 H2 H3 H4 hd
      go_wp2_with fail
      refine (iTurnAdd_any _ _ _).mono ?_
      rintro e w' ⟨rfl, rfl⟩
      rw [K1.out]; dsimp only [tupIB]
      go_wp2_with fail
      refine (sTurnAdd_any _ _ _).mono ?_
      rintro e w' ⟨rfl, rfl⟩
      rw [K1.out]; dsimp only [tupIB]
      go_wp2_with fail
      refine (iTurnAdd_any _ _ _).mono ?_
      rintro e w' ⟨rfl, rfl⟩
      rw [K2.out]; dsimp only [tupIB]
      go_wp2_with fail
      refine (iTurnTimes_any _ _ _).mono ?_
      rintro e w' ⟨rfl, rfl⟩
      rw [K3.out]; dsimp only [tupIB]
      go_wp2_with fail
      refine (iTurnAdd_any _ _ _).mono ?_
      rintro e w' ⟨rfl, rfl⟩
      rw [K4.out]; dsimp only [tupIB]
      go_wp2_with fail
      go_ret; exact ⟨rfl, x1⟩
    · have K1 := Lib.hid (turnAdd_no hd)
      clear hd
      go_wp2_with fail
      refine (iTurnAdd_any _ _ _).mono ?_
      rintro e w' ⟨rfl, rfl⟩
      rw [K1.out]; dsimp only [tupIB]
      go_wp2_with fail
      refine (sTurnAdd_any _ _ _).mono ?_
      rintro e w' ⟨rfl, rfl⟩
      rw [K1.out]; dsimp only [tupIB]
      go_wp2_with fail
      go_ret; exact ⟨rfl, x1⟩

theorem lawTurnTimes (a : Option Addr) (len cap : Nat) (w : World) (h : CodeOk w a len cap) :
    Calls Try.prog 7 #[.slice a len cap] w fun e w' => e = .returned (.bool true) ∧ Ext w w' := by
  have hl := h.1
  have hm := h.2.1
  unfold maxLen at hm
  by_cases hbig : 1048576 < len
  · go_enter Try.func7, Try.ntmps7
    go_wp2_with fail
    go_ret; exact ⟨rfl, Ext.refl _⟩
  · go_enter Try.func7, Try.ntmps7
    go_wp2_with fail
    refine (dTurnTimes_any _ _ _ _ h).mono ?_
    rintro e w1 ⟨x, y, rfl, n1, n2, d1, d2, x1⟩
    by_cases hd : inR 0 23 x = true
    · obtain ⟨o, k, H1, H2, H3⟩ := turnTimes_law hd d1 d2
      have K1 := Lib.hid H1
      have K2 := Lib.hid H2
      have K3 := Lib.hid H3
      clear H1 H2 H3 hd
      go_wp2_with fail
      refine (iTurnTimes_any _ _ _).mono ?_
      rintro e w' ⟨rfl, rfl⟩
      rw [K1.out]; dsimp only [tupIB]
      go_wp2_with fail
      refine (sTurnTimes_any _ _ _).mono ?_
      rintro e w' ⟨rfl, rfl⟩
      rw [K1.out]; dsimp only [tupIB]
      go_wp2_with fail
      refine (iTurnTimes_any _ _ _).mono ?_
      rintro e w' ⟨rfl, rfl⟩
      rw [K2.out]; dsimp only [tupIB]
      go_wp2_with fail
      refine (iTurnAdd_any _ _ _).mono ?_
      rintro e w' ⟨rfl, rfl⟩
      rw [K3.out]; dsimp only [tupIB]
      go_wp2_with fail
      go_ret; exact ⟨rfl, x1⟩
    · have K1 := Lib.hid (turnTimes_no (n := y) hd)
      clear hd
      go_wp2_with fail
      refine (iTurnTimes_any _ _ _).mono ?_
      rintro e w' ⟨rfl, rfl⟩
      rw [K1.out]; dsimp only [tupIB]
      go_wp2_with fail
      refine (sTurnTimes_any _ _ _).mono ?_
      rintro e w' ⟨rfl, rfl⟩
      rw [K1.out]; dsimp only [tupIB]
      go_wp2_with fail
      go_ret; exact ⟨rfl, x1⟩

end Go.Proofs.Ytbbaadnadpmfeaa
