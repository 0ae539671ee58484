/- The law on near numbers (P34): its draw and its walk. -/
import Derived.Test.YtfghjlngllanoaaNearD
namespace Go.Proofs.Ytfghjlngllanoaa
open Go.ChangeShapes Go.WideShapes Go.ChangeAt Go.RowKit
set_option linter.unusedVariables false
set_option maxRecDepth 100000

abbrev mostV : List Value := [.float .f64 0, .float .f64 4607182418800017408, .float .f64 4636737291354636288, .float .f64 13830554455654793216, .float .f64 4602678819172646912]
theorem elem5 {w : World} {B : Nat} (h : Blk w B mostV) (m : Nat) (hm : (m : Int) < 5) : ∃ y : Nat, w.cell? ⟨B, m, none⟩ = some (.float .f64 y) ∧ y ∈ mostL := by
  have c := h.cell m
  rw [c]
  obtain rfl | rfl | rfl | rfl | rfl : m = 0 ∨ m = 1 ∨ m = 2 ∨ m = 3 ∨ m = 4 := by omega
  all_goals exact ⟨_, rfl, by simp [mostL]⟩

set_option maxRecDepth 100000 in
set_option maxHeartbeats 1000000 in
theorem dPointsNear_any (a : Option Addr) (len cap : Nat) (w : World) (h : CodeOk w a len cap) :
    Calls Try.prog 28 #[.slice a len cap] w fun e w' => ∃ x y u v m : Nat, e = .returned (.tuple #[.complex .f64 x y, .complex .f64 u v, .float .f64 m]) ∧ WideW x y ∧ WideW u v ∧ m ∈ mostL ∧ Ext w w' := by
  go_enter Try.func28, Try.ntmps28
  go_wp2_with fail
  refine (l6Open_any _ _ _ _ h).mono ?_
  rintro e w1 ⟨R, rfl, hR, k1, x1⟩
  go_wp2_with fail
  refine (l91Wide_any 0 R _ (by omega) k1).mono ?_
  rintro e w2 ⟨x, y, rfl, hw, ⟨q, q1, q2, k2⟩, x2⟩
  have y2 := x2.ext x1 hR
  clear k1 x1 x2 h
  go_wp2_with fail
  have hlt := k2.lt
  go_region_with (first
    | (go_at_call 30; ((with_reducible refine (l91Wide_any q R (w2.alloc _).drew (by omega) (k2.keep ((Ext.refl w2).alloc _).drew)).mono ?_); rintro e w3 ⟨u, v, rfl, hv, ⟨q', q1', q2', k3⟩, x3⟩; have L3 := (((Blk.new w2 mostV 40).keep (Ext.refl _).drew).keepB x3 (by omega)); have y3 : Ext w w3 := x3.ext ((y2.alloc _).drew) (by omega); clear x3))
    | (go_at_call 30; ((with_reducible refine (l91Wide_any q R w2.drew (by omega) (k2.keep (Ext.refl w2).drew)).mono ?_); rintro e w3 ⟨u, v, rfl, hv, ⟨q', q1', q2', k3⟩, x3⟩; have y3 : Ext w w3 := x3.ext y2.drew (by omega); clear x3))
    | (go_at_call 49; ((with_reducible refine (pick_any 5 q' R w3 (by omega) (by omega) (by omega) k3).mono ?_); rintro e w4 ⟨i, i1, i2, rfl, k4, x4⟩; obtain ⟨m, rfl⟩ := Int.eq_ofNat_of_zero_le i1; obtain ⟨z, hz, hzm⟩ := elem5 (L3.keepB x4 (by omega)) m i2; have y4 : Ext w w4 := x4.ext y3 (by omega); clear x4))
    | (go_at_call 49; ((with_reducible refine (pick_any 5 q' R (w3.alloc _) (by omega) (by omega) (by omega) (k3.keep ((Ext.refl w3).alloc _))).mono ?_); rintro e w4 ⟨i, i1, i2, rfl, k4, x4⟩; obtain ⟨m, rfl⟩ := Int.eq_ofNat_of_zero_le i1; have hl3 := k3.lt; obtain ⟨z, hz, hzm⟩ := elem5 ((Blk.new w3 mostV 40).keepB x4 (by omega)) m i2; have y4 : Ext w w4 := x4.ext (y3.alloc _) (by omega); clear x4))
    | (go_at_call 49; ((with_reducible refine (pick_any 5 q' R w3 (by omega) (by omega) (by omega) k3).mono ?_); rintro e w4 ⟨i, i1, i2, rfl, k4, x4⟩; obtain ⟨m, rfl⟩ := Int.eq_ofNat_of_zero_le i1; obtain ⟨z, hz, hzm⟩ := elem5 (Blk.new w4 mostV 40) m i2; have y4 : Ext w w4 := x4.ext y3 (by omega); clear x4)))
  all_goals go_wp2_with fail
  all_goals exact bodyPost_ret (v := .tuple #[.complex .f64 x y, .complex .f64 u v, .float .f64 z]) (by simp [results, Try.results28, go_sem]) rfl ⟨x, y, u, v, z, rfl, hw, hv, hzm, by first | exact y4 | exact y4.alloc _⟩

theorem most_add {m : Nat} (h : m ∈ mostL) : floatBits .add .f64 m 4607182418800017408 = some (most1 m) := by
  have := most_all
  rw [List.all_eq_true] at this
  simpa using this m h
set_option maxHeartbeats 1000000 in
theorem lawNear (a : Option Addr) (len cap : Nat) (w : World) (h : CodeOk w a len cap) :
    Calls Try.prog 7 #[.slice a len cap] w fun e w' => e = .returned (.bool true) ∧ Ext w w' := by
  have hl := h.1
  have hm := h.2.1
  unfold maxLen at hm
  by_cases hbig : 1048576 < len
  · go_enter Try.func7, Try.ntmps7
    go_wp2_with fail
    go_ret; exact ⟨rfl, Ext.refl _⟩
  · go_enter Try.func7, Try.ntmps7
    go_wp2_with fail
    refine (dPointsNear_any _ _ _ _ h).mono ?_
    rintro e w1 ⟨x, y, u, v, m, rfl, ⟨hx, hy⟩, ⟨hu, hv⟩, hM, x1⟩
    clear h hl hm hbig
    have P := Lib.hid (And.intro hx (And.intro (Or.inr hy : WPart y) (And.intro hu (And.intro (Or.inr hv : WPart v) hM))))
    have hadd := Lib.hid (most_add hM)
    clear hx hy hu hv hM
    go_wp2_with fail
    refine (iPointsNear_any x y u v m _).mono ?_
    rintro e w2 ⟨rfl, x2⟩
    replace x1 := x1.trans x2
    clear x2
    go_wp2_with fail
    refine (sPointsNear_any x y u v m P.out.1 P.out.2.1 P.out.2.2.1 P.out.2.2.2.1 P.out.2.2.2.2 _).mono ?_
    rintro e w3 ⟨rfl, x3⟩
    replace x1 := x1.trans x3
    clear x3
    cases hn : (nB x u m && nB y v m)
    · go_wp2
      go_ret; exact ⟨rfl, x1⟩
    · have hn' := hn
      rw [Bool.and_eq_true] at hn'
      obtain ⟨s1, s2, s3, s4⟩ := near_sym P.out.1 P.out.2.2.1 P.out.2.2.2.2 hn'.1
      obtain ⟨r1, r2, r3, r4⟩ := near_sym P.out.2.1 P.out.2.2.2.1 P.out.2.2.2.2 hn'.2
      have A1 := Lib.hid (show (nB u x m && nB v y m) = true by rw [s1, r1]; rfl)
      have A2 := Lib.hid (show (nB x u (most1 m) && nB y v (most1 m)) = true by rw [s2, r2]; rfl)
      have had : ∀ t w, (binOp .add t (.float .f64 m) (.float .f64 4607182418800017408)).run Try.prog w = .ok (.float .f64 (most1 m)) w := fun t w => run_float_arith w .add t .f64 _ _ _ hadd.out
      clear hn hn' s1 s2 r1 r2 P hadd
      go_wp2_with fail
      refine (iPointsNear_any u v x y m _).mono ?_
      rintro e w4 ⟨rfl, x4⟩
      rw [A1.out]
      replace x1 := x1.trans x4
      clear x4
      go_wp2_with fail
      refine (iPointsNear_any x y u v (most1 m) _).mono ?_
      rintro e w5 ⟨rfl, x5⟩
      rw [A2.out]
      replace x1 := x1.trans x5
      clear x5
      go_wp2
      go_ret; exact ⟨rfl, x1⟩

end Go.Proofs.Ytfghjlngllanoaa
