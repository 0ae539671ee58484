/- Contracts of the common divisors (impl.divisor, spec.l1Gcd) and of the orders of turns. -/
import Derived.Test.YtbbaadnadpmfeaaTurn
import Derived.Deep.QuietTactic
import Derived.BigQuiet
namespace Go.Proofs.Ytbbaadnadpmfeaa
open Go.ChangeShapes Go.WideShapes Go.ChangeAt Go.RowKit
set_option linter.unusedVariables false

theorem gcd_step (x y : Nat) : Nat.gcd y (x % y) = Nat.gcd x y := by rw [Nat.gcd_comm x y, Nat.gcd_rec y x, Nat.gcd_comm]
theorem Ext.drewN {a b : World} (h : Ext a b) (n : Nat) : Ext a (b.drewN n) := by
  have k : Below a.heap.size a b := h
  exact ⟨k.os, k.tape, k.output, k.size, k.block⟩
/-- how a loop that takes a common divisor stands -/
def GcdAt (g : Nat) (w : World) (a b : Value) (wr : World) : Prop :=
  ∃ x y : Nat, x ≤ 1000000 ∧ y ≤ 1000000 ∧ a = .int .i64 x ∧ b = .int .i64 y ∧ Nat.gcd x y = g ∧ Ext w wr
theorem GcdAt.next {g x y : Nat} {w wr : World} (hx : x ≤ 1000000) (hy : y ≤ 1000000) (h0 : ¬ (y : Int) = 0) (hg : Nat.gcd x y = g) (h : Ext w wr) (v : Int) (hv : v = (x : Int) % (y : Int)) :
    GcdAt g w (.int .i64 y) (.int .i64 v) wr ∧ v.toNat < y := by
  subst hv
  have hlt : x % y < y := Nat.mod_lt _ (by omega)
  have e : (x : Int) % (y : Int) = ((x % y : Nat) : Int) := (Int.natCast_emod x y).symm
  refine ⟨⟨y, x % y, hy, by omega, rfl, by rw [e], by rw [gcd_step, hg], h⟩, by rw [e, Int.toNat_natCast]; exact hlt⟩

set_option maxHeartbeats 400000 in
theorem divisor_any (x y : Nat) (w : World) (hx : x ≤ 1000000) (hy : y ≤ 1000000) :
    Calls Try.prog 33 #[.int .i64 x, .int .i64 y] w fun e w' => e = .returned (.int .i64 (Nat.gcd x y : Nat)) ∧ Ext w w' := by
  obtain ⟨g, hg⟩ : ∃ g, Nat.gcd x y = g := ⟨_, rfl⟩
  rw [hg]
  have HG := Lib.hid hg
  clear hg
  go_enter Try.func33, Try.ntmps33
  go_wp2
  go_loopw [0, 1] (fun a b wr => GcdAt g w a b wr) (fun _ b _ => (intOf b).toNat)
  case atStart => exact ⟨x, y, hx, hy, rfl, rfl, HG.out, Ext.refl _⟩
  case round =>
    obtain ⟨x', y', hx', hy', rfl, rfl, hg', hext⟩ := hrel
    have HG' := Lib.hid hg'
    clear hg'
    by_cases h0 : (y' : Int) = 0
    · obtain rfl : y' = 0 := by omega
      have e0 : x' = g := by have := HG'.out; simpa using this
      clear h0
      subst e0
      go_wp2
      go_ret
      exact ⟨rfl, hext⟩
    · have h1 : ((y' : Int) != 0) = true := by simpa using h0
      have hm : (x' : Int).tmod (y' : Int) = (x' : Int) % (y' : Int) := by rw [Int.tmod_eq_emod_of_nonneg (by omega)]
      go_wp2
      go_quiet (fail)
      go_wp2
      exact GcdAt.next hx' hy' h0 HG'.out (hext.drewN _) _ rfl

set_option maxHeartbeats 400000 in
theorem l1Gcd_any (x y : Nat) (w : World) (hx : x ≤ 1000000) (hy : y ≤ 1000000) :
    Calls Try.prog 30 #[.int .i64 x, .int .i64 y] w fun e w' => e = .returned (.int .i64 (Nat.gcd x y : Nat)) ∧ Ext w w' := by
  obtain ⟨g, hg⟩ : ∃ g, Nat.gcd x y = g := ⟨_, rfl⟩
  rw [hg]
  have HG := Lib.hid hg
  clear hg
  go_enter Try.func30, Try.ntmps30
  go_wp2
  go_loopw [0, 1] (fun a b wr => GcdAt g w a b wr) (fun _ b _ => (intOf b).toNat)
  case atStart => exact ⟨x, y, hx, hy, rfl, rfl, HG.out, Ext.refl _⟩
  case round =>
    obtain ⟨x', y', hx', hy', rfl, rfl, hg', hext⟩ := hrel
    have HG' := Lib.hid hg'
    clear hg'
    by_cases h0 : (y' : Int) = 0
    · obtain rfl : y' = 0 := by omega
      have e0 : x' = g := by have := HG'.out; simpa using this
      clear h0
      subst e0
      go_wp2
      go_ret
      exact ⟨rfl, hext⟩
    · have h1 : ((y' : Int) != 0) = true := by simpa using h0
      have hm : (x' : Int).tmod (y' : Int) = (x' : Int) % (y' : Int) := by rw [Int.tmod_eq_emod_of_nonneg (by omega)]
      go_wp2
      exact GcdAt.next hx' hy' h0 HG'.out hext _ rfl

/-- the order of a turn, or 0 -/
def orderM (t : Int) : Int := if inR 0 23 t then 24 / (Nat.gcd t.toNat 24 : Int) else 0
theorem gcd24_bd (x : Nat) : 1 ≤ Nat.gcd x 24 ∧ Nat.gcd x 24 ≤ 24 :=
  ⟨Nat.gcd_pos_of_pos_right _ (by omega), Nat.gcd_le_right _ (by omega)⟩

theorem order_any (x : Nat) (w : World) (hx : x ≤ 1000) :
    Calls Try.prog 32 #[.int .i64 x] w fun e w' => e = .returned (.int .i64 (24 / (Nat.gcd x 24 : Int))) ∧ Ext w w' := by
  obtain ⟨g1, g2⟩ := gcd24_bd x
  obtain ⟨g, hg⟩ : ∃ g, Nat.gcd x 24 = g := ⟨_, rfl⟩
  rw [hg] at g1 g2 ⊢
  have HG := Lib.hid hg
  clear hg
  go_enter Try.func32, Try.ntmps32
  go_wp2_with fail
  refine (divisor_any x 24 _ (by omega) (by omega)).mono ?_
  rw [HG.out]
  rintro e w1 ⟨rfl, x1⟩
  go_wp2
  go_ret; exact ⟨rfl, x1⟩

theorem iTurnOrder_any (t : Int) (w : World) : Calls Try.prog 11 #[.int .i64 t] w fun e w' => e = .returned (.int .i64 (orderM t)) ∧ Ext w w' := by
  by_cases ht : inR 0 23 t = true
  · obtain ⟨t1, t2⟩ := inR_of ht
    have H := Lib.hid (show orderM t = 24 / (Nat.gcd t.toNat 24 : Int) from by simp [orderM, ht])
    obtain ⟨n, rfl⟩ := Int.eq_ofNat_of_zero_le t1
    rw [Int.toNat_natCast] at H
    go_enter Try.func11, Try.ntmps11
    go_wp2_with (go_at_call 31; ((with_reducible refine (tvalid_any _ _).mono ?_); rintro e w' ⟨rfl, rfl⟩))
    refine (order_any n _ (by omega)).mono ?_
    rintro e w1 ⟨rfl, x1⟩
    rw [← H.out]
    go_wp2
    go_ret; exact ⟨rfl, x1⟩
  · have ht' : inR 0 23 t = false := by simpa using ht
    have H := Lib.hid (show orderM t = 0 from by simp [orderM, ht'])
    clear ht
    go_enter Try.func11, Try.ntmps11
    go_wp2_with (go_at_call 31; ((with_reducible refine (tvalid_any _ _).mono ?_); rintro e w' ⟨rfl, rfl⟩))
    go_ret; exact ⟨by rw [H.out]; rfl, Ext.refl _⟩

theorem sTurnOrder_any (t : Int) (w : World) : Calls Try.prog 10 #[.int .i64 t] w fun e w' => e = .returned (.int .i64 (orderM t)) ∧ Ext w w' := by
  by_cases ht : inR 0 23 t = true
  · obtain ⟨t1, t2⟩ := inR_of ht
    have H := Lib.hid (show orderM t = 24 / (Nat.gcd t.toNat 24 : Int) from by simp [orderM, ht])
    obtain ⟨n, rfl⟩ := Int.eq_ofNat_of_zero_le t1
    rw [Int.toNat_natCast] at H
    obtain ⟨g1, g2⟩ := gcd24_bd n
    go_enter Try.func10, Try.ntmps10
    go_wp2_with (go_at_call 29; ((with_reducible refine (l1Is_any _ _).mono ?_); rintro e w' ⟨rfl, rfl⟩))
    refine (l1Gcd_any 24 n _ (by omega) (by omega)).mono ?_
    rintro e w1 ⟨rfl, x1⟩
    rw [Nat.gcd_comm]
    generalize hg : Nat.gcd n 24 = g at *
    clear hg
    go_wp2
    go_ret; exact ⟨by rw [H.out]; rfl, x1⟩
  · have ht' : inR 0 23 t = false := by simpa using ht
    have H := Lib.hid (show orderM t = 0 from by simp [orderM, ht'])
    clear ht
    go_enter Try.func10, Try.ntmps10
    go_wp2_with (go_at_call 29; ((with_reducible refine (l1Is_any _ _).mono ?_); rintro e w' ⟨rfl, rfl⟩))
    go_ret; exact ⟨by rw [H.out]; rfl, Ext.refl _⟩

theorem lTurnOrder (t : Int) (w : World) (_ : (Lit.int .i64 t).wf = true) : Calls Try.prog 3 #[.int .i64 t] w fun e w' => e = .returned (.bool true) ∧ Ext w w' := by
  go_enter Try.func3, Try.ntmps3
  go_wp2_with fail
  refine (sTurnOrder_any _ _).mono ?_
  rintro e w1 ⟨rfl, x1⟩
  go_wp2_with fail
  refine (iTurnOrder_any _ _).mono ?_
  rintro e w2 ⟨rfl, x2⟩
  go_wp2
  go_ret; exact ⟨rfl, x1.trans x2⟩

end Go.Proofs.Ytbbaadnadpmfeaa
