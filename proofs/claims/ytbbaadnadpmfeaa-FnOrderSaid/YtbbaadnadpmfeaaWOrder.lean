/- The law on orders: its walk, and the plain arithmetic behind it. -/
import Derived.Test.YtbbaadnadpmfeaaDraw2
import Derived.Test.YtbbaadnadpmfeaaGcd
namespace Go.Proofs.Ytbbaadnadpmfeaa
open Go.ChangeShapes Go.WideShapes Go.ChangeAt Go.RowKit
set_option linter.unusedVariables false

theorem order_fin : ∀ t : Fin 24, ∀ n : Fin 25, 1 ≤ n.val → n.val ≤ 24 / Nat.gcd t.val 24 → ((t.val * n.val) % 24 = 0 ↔ n.val = 24 / Nat.gcd t.val 24) := by decide +kernel
theorem order_fin2 : ∀ t : Fin 24, 1 ≤ 24 / Nat.gcd t.val 24 ∧ 24 / Nat.gcd t.val 24 ≤ 24 ∧ 24 % (24 / Nat.gcd t.val 24) = 0 := by decide +kernel
/-- what an order is good for -/
theorem order_law {t : Int} (ht : inR 0 23 t = true) : ∃ o : Nat, 1 ≤ o ∧ o ≤ 24 ∧ (24 : Int) % o = 0 ∧ orderM t = o ∧
    ∀ n : Nat, 1 ≤ n → n ≤ o → ∃ x : Int, turnTimesM t n = (x, true) ∧ (x = 0 ↔ n = o) := by
  obtain ⟨t1, t2⟩ := inR_of ht
  obtain ⟨k, rfl⟩ := Int.eq_ofNat_of_zero_le t1
  have hk : k < 24 := by omega
  obtain ⟨f1, f2, f3⟩ := order_fin2 ⟨k, hk⟩
  simp only at f1 f2 f3
  refine ⟨24 / Nat.gcd k 24, f1, f2, by rw [show (24 : Int) = ((24 : Nat) : Int) from rfl, ← Int.natCast_emod, f3]; rfl, by simp [orderM, ht], fun n n1 n2 => ?_⟩
  have e2 : inR (-1000000) 1000000 (n : Int) = true := inR_true (by omega) (by omega)
  refine ⟨modT ((k : Int) * n), by simp [turnTimesM, ht, e2], ?_⟩
  have := order_fin ⟨k, hk⟩ ⟨n, by omega⟩ n1 n2
  simp only at this
  rw [← this]
  unfold modT
  rw [show (24 : Int) = ((24 : Nat) : Int) from rfl, ← Int.natCast_mul, ← Int.natCast_emod]
  omega

set_option maxHeartbeats 400000 in
theorem lawOrder (a : Option Addr) (len cap : Nat) (w : World) (h : CodeOk w a len cap) :
    Calls Try.prog 8 #[.slice a len cap] w fun e w' => e = .returned (.bool true) ∧ Ext w w' := by
  have hl := h.1
  have hm := h.2.1
  unfold maxLen at hm
  by_cases hbig : 1048576 < len
  · go_enter Try.func8, Try.ntmps8
    go_wp2_with fail
    go_ret; exact ⟨rfl, Ext.refl _⟩
  · go_enter Try.func8, Try.ntmps8
    go_wp2_with fail
    refine (dTurnOrder_any _ _ _ _ h).mono ?_
    rintro e w1 ⟨t, rfl, n1, n2, x1⟩
    by_cases hd : inR 0 23 t = true
    · obtain ⟨o, o1, o2, o3, H1, H2⟩ := order_law hd
      have K1 := Lib.hid H1
      have K2 := Lib.hid H2
      have K3 := Lib.hid o3
      clear H1 H2 o3 hd
      go_wp2_with fail
      refine (iTurnOrder_any _ _).mono ?_
      rw [K1.out]
      rintro e w2 ⟨rfl, x2⟩
      go_wp2_with fail
      refine (sTurnOrder_any _ _).mono ?_
      rw [K1.out]
      rintro e w3 ⟨rfl, x3⟩
      have x4 := (x1.trans x2).trans x3
      clear x1 x2 x3
      have z0 : ((o : Int) == 0) = false := by simp; omega
      go_wp2_with fail
      go_loop [6] (fun i => ∃ k : Nat, 1 ≤ k ∧ k ≤ o + 1 ∧ i = .int .i64 k) (fun i => o + 1 - (intOf i).toNat)
      case atStart => exact ⟨1, by omega, by omega, rfl⟩
      case round =>
        obtain ⟨k, k1, k2, rfl⟩ := hrel
        by_cases hk : k ≤ o
        · obtain ⟨x, hx, hx0⟩ := K2.out k k1 hk
          have KX := Lib.hid hx
          clear hx
          by_cases hko : k = o
          · have hz := hx0.2 hko
            clear hx0
            subst hz
            have hb : ((k : Int) == (o : Int)) = true := by simp; omega
            have KO := Lib.hid hko
            clear hko
            go_wp2_with fail
            refine (iTurnTimes_any _ _ _).mono ?_
            rw [KX.out]; dsimp only [tupIB]
            rintro e w5 ⟨rfl, rfl⟩
            go_wp2_with fail
            go_round
            case rel => exact ⟨k + 1, by omega, by omega, by go_num⟩
            case measure => simp [intOf]; omega
          · have hz : ¬ x = 0 := fun e => hko (hx0.1 e)
            clear hx0
            have hb : ((k : Int) == (o : Int)) = false := by simp; omega
            have hb2 : (x == 0) = false := by simpa using hz
            clear hz
            go_wp2_with fail
            refine (iTurnTimes_any _ _ _).mono ?_
            rw [KX.out]; dsimp only [tupIB]
            rintro e w5 ⟨rfl, rfl⟩
            go_wp2_with fail
            go_round
            case rel => exact ⟨k + 1, by omega, by omega, by go_num⟩
            case measure => simp [intOf]; omega
        · have o3 := K3.out
          go_wp2_with fail
          go_ret; exact ⟨rfl, x4⟩
    · have K1 := Lib.hid (show orderM t = 0 from by simp [orderM, hd])
      clear hd
      go_wp2_with fail
      refine (iTurnOrder_any _ _).mono ?_
      rw [K1.out]
      rintro e w2 ⟨rfl, x2⟩
      go_wp2_with fail
      refine (sTurnOrder_any _ _).mono ?_
      rw [K1.out]
      rintro e w3 ⟨rfl, x3⟩
      go_wp2_with fail
      go_ret; exact ⟨rfl, (x1.trans x2).trans x3⟩

end Go.Proofs.Ytbbaadnadpmfeaa
