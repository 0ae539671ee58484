/- Contracts of the common divisors (impl.divisor, spec.l1Gcd) and of the orders of turns. -/
import Derived.Test.YtjloobghfggakaaDoorTurn
import Derived.Deep.QuietTactic
import Derived.BigQuiet
namespace Go.Proofs.YtjloobghfggakaaDoor
open Go.ChangeShapes Go.WideShapes Go.ChangeAt Go.RowKit
set_option linter.unusedVariables false

theorem gcd_step (x y : Nat) : Nat.gcd y (x % y) = Nat.gcd x y := by rw [Nat.gcd_comm x y, Nat.gcd_rec y x, Nat.gcd_comm]
/-- how a loop that takes a common divisor stands -/
def GcdAt (g : Nat) (w : World) (a b : Value) (wr : World) : Prop :=
  ∃ x y : Nat, x ≤ 1000000 ∧ y ≤ 1000000 ∧ a = .int .i64 x ∧ b = .int .i64 y ∧ Nat.gcd x y = g ∧ Ext w wr
theorem GcdAt.next {g x y : Nat} {w wr : World} (hx : x ≤ 1000000) (hy : y ≤ 1000000) (h0 : ¬ (y : Int) = 0) (hg : Nat.gcd x y = g) (h : Ext w wr) (v : Int) (hv : v = (x : Int) % (y : Int)) :
    GcdAt g w (.int .i64 y) (.int .i64 v) wr ∧ v.toNat < y := by
  subst hv
  have hlt : x % y < y := Nat.mod_lt _ (by omega)
  have e : (x : Int) % (y : Int) = ((x % y : Nat) : Int) := (Int.natCast_emod x y).symm
  refine ⟨⟨y, x % y, hy, by omega, rfl, by rw [e], by rw [gcd_step, hg], h⟩, by rw [e, Int.toNat_natCast]; exact hlt⟩

set_option maxHeartbeats 400000 in
theorem divisor_any (x y : Nat) (w : World) (hx : x ≤ 1000000) (hy : y ≤ 1000000) :
    Calls Tryd.prog 26 #[.int .i64 x, .int .i64 y] w fun e w' => e = .returned (.int .i64 (Nat.gcd x y : Nat)) ∧ Ext w w' := by
  obtain ⟨g, hg⟩ : ∃ g, Nat.gcd x y = g := ⟨_, rfl⟩
  rw [hg]
  have HG := Lib.hid hg
  clear hg
  go_enter Tryd.func26, Tryd.ntmps26
  go_wp2
  go_loopw [0, 1] (fun a b wr => GcdAt g w a b wr) (fun _ b _ => (intOf b).toNat)
  case atStart => exact ⟨x, y, hx, hy, rfl, rfl, HG.out, Ext.refl _⟩
  case round =>
    obtain ⟨x', y', hx', hy', rfl, rfl, hg', hext⟩ := hrel
    have HG' := Lib.hid hg'
    clear hg'
    by_cases h0 : (y' : Int) = 0
    · obtain rfl : y' = 0 := by omega
      have e0 : x' = g := by have := HG'.out; simpa using this
      clear h0
      subst e0
      go_wp2
      go_ret
      exact ⟨rfl, hext⟩
    · have h1 : ((y' : Int) != 0) = true := by simpa using h0
      have hm : (x' : Int).tmod (y' : Int) = (x' : Int) % (y' : Int) := by rw [Int.tmod_eq_emod_of_nonneg (by omega)]
      go_wp2
      go_quiet (fail)
      go_wp2
      exact GcdAt.next hx' hy' h0 HG'.out (hext.drewN _) _ rfl

set_option maxHeartbeats 400000 in
theorem l1Gcd_any (x y : Nat) (w : World) (hx : x ≤ 1000000) (hy : y ≤ 1000000) :
    Calls Tryd.prog 14 #[.int .i64 x, .int .i64 y] w fun e w' => e = .returned (.int .i64 (Nat.gcd x y : Nat)) ∧ Ext w w' := by
  obtain ⟨g, hg⟩ : ∃ g, Nat.gcd x y = g := ⟨_, rfl⟩
  rw [hg]
  have HG := Lib.hid hg
  clear hg
  go_enter Tryd.func14, Tryd.ntmps14
  go_wp2
  go_loopw [0, 1] (fun a b wr => GcdAt g w a b wr) (fun _ b _ => (intOf b).toNat)
  case atStart => exact ⟨x, y, hx, hy, rfl, rfl, HG.out, Ext.refl _⟩
  case round =>
    obtain ⟨x', y', hx', hy', rfl, rfl, hg', hext⟩ := hrel
    have HG' := Lib.hid hg'
    clear hg'
    by_cases h0 : (y' : Int) = 0
    · obtain rfl : y' = 0 := by omega
      have e0 : x' = g := by have := HG'.out; simpa using this
      clear h0
      subst e0
      go_wp2
      go_ret
      exact ⟨rfl, hext⟩
    · have h1 : ((y' : Int) != 0) = true := by simpa using h0
      have hm : (x' : Int).tmod (y' : Int) = (x' : Int) % (y' : Int) := by rw [Int.tmod_eq_emod_of_nonneg (by omega)]
      go_wp2
      exact GcdAt.next hx' hy' h0 HG'.out hext _ rfl

/-- the order of a turn, or 0 -/
def orderM (t : Int) : Int := if inR 0 23 t then 24 / (Nat.gcd t.toNat 24 : Int) else 0
theorem gcd24_bd (x : Nat) : 1 ≤ Nat.gcd x 24 ∧ Nat.gcd x 24 ≤ 24 :=
  ⟨Nat.gcd_pos_of_pos_right _ (by omega), Nat.gcd_le_right _ (by omega)⟩

end Go.Proofs.YtjloobghfggakaaDoor
