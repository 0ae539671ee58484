/- The exact law of FnExactDesignSum. Written by mk_whlz.py. -/
import Derived.Test.YtadjphiipnlcdaaWhlSs
namespace Go.Proofs.Ytadjphiipnlcdaa
open Go.ChangeShapes Go.WideShapes Go.ChangeAt Go.RowKit
set_option linter.unusedVariables false
set_option maxRecDepth 100000


set_option maxHeartbeats 1000000 in
theorem szW3 (a : Option Addr) (n cap L : Nat) (w : World) (hm : n ≤ maxLen) (hL : L ≤ 1048576) :
    Calls Try.prog 9 #[.slice a n cap, .int .i64 (L : Int)] w fun e w' => e = .returned (.int .i64 (if n ≤ L then (L : Int) - (n : Int) else -1)) ∧ w = w' := by
  unfold maxLen at hm
  have hwr : IntKind.i64.wrap ((L : Int) - (n : Int)) = (L : Int) - n := IntWalk.i64_in _ (by omega)
  by_cases h : n ≤ L
  · rw [if_pos h]
    go_enter Try.func9, Try.ntmps9
    go_wp2
    go_ret
    exact ⟨rfl, rfl⟩
  · rw [if_neg h]
    go_enter Try.func9, Try.ntmps9
    go_wp2
    go_ret
    exact ⟨rfl, rfl⟩

set_option maxHeartbeats 8000000 in
theorem lDesignSum (a : Option Addr) (n cap : Nat) (G : Nat → Nat → Int) (b : Option Addr) (m cap2 : Nat) (H : Nat → Nat → Int) (w : World) (hc : n ≤ cap) (hm : cap ≤ maxLen) (h : Whs w a n G) (hc2 : m ≤ cap2) (hm2 : cap2 ≤ maxLen) (k : Whs w b m H) :
    Calls Try.prog 4 #[.slice a n cap, .slice b m cap2] w fun e w' => e = .returned (.bool true) ∧ Ext w w' := by
  by_cases hn : n ≤ 1048576
  · by_cases hn2 : m ≤ 1048576 - n
    · have hn3 : m ≤ 1048576 := by omega
      go_enter Try.func4, Try.ntmps4
      go_wp2_with fail
      refine (szWheelS_any a n cap _ (Nat.le_trans hc hm)).mono ?_
      rw [if_pos hn]
      rintro e w0 ⟨rfl, rfl⟩
      have hL : (1048576 - (n : Int)) = ((1048576 - n : Nat) : Int) := by omega
      rw [hL]
      have hneg : ¬ (((1048576 - n : Nat) : Int) < 0) := by omega
      go_wp2_with fail
      refine (szW3 b m cap2 (1048576 - n) _ (Nat.le_trans hc2 hm2) (by omega)).mono ?_
      rw [if_pos hn2]
      rintro e w0 ⟨rfl, rfl⟩
      have hneg2 : ¬ ((((1048576 - n : Nat) : Int) - (m : Int)) < 0) := by omega
      clear hL
      go_wp2_with fail
      refine (toWheelS_any a n cap G _ hc hn h).mono ?_
      rintro e w1 ⟨B1, rfl, hB1, r1, x1⟩
      go_wp2_with fail
      refine (toWheelS_any b m cap2 H _ hc2 hn3 (k.keep x1)).mono ?_
      rintro e w2 ⟨B2, rfl, hB2, r2, x2⟩
      have r1' := r1.keep x2
      have y2 := x1.trans x2
      clear r1 x1 x2 hneg hneg2
      go_wp2_with fail
      refine (sDesignSum_any B1 B2 n m n m G H _ (Nat.le_refl _) (Nat.le_refl _) hn hn3 r1'.whs r2.whs).mono ?_
      rintro e w3 ⟨v0, ok, c, R, rfl, M3, T2, x3⟩
      have t2' : RT (validM n G && validM m H) (catF n G H) (n + m) ok c R := T2
      have T := Lib.hid t2'
      have hm12 := t2'.le
      have s2 := y2.size
      have s3 := x3.size
      have y3 := y2.trans x3
      clear T2 t2' r1' r2 x3 y2 hB1 hB2
      generalize hcR : (fun j => R (j / 9) (j % 9)) = cR at M3
      have CR := Lib.hid hcR
      clear hcR
      go_wp2_with fail
      refine (toWheelS_any a n cap G _ hc hn (h.keep y3)).mono ?_
      rintro e w4 ⟨B3, rfl, hB3, r3, x4⟩
      have M4 := M3.keep x4
      have y4 := y3.trans x4
      have l3 := r3.lt
      clear M3 y3 x4
      go_wp2_with fail
      refine (toWheelS_any b m cap2 H _ hc2 hn3 (k.keep y4)).mono ?_
      rintro e w5 ⟨B4, rfl, hB4, r4, x5⟩
      have M5 := M4.keep x5
      have r3' := r3.keep x5
      have y5 := y4.trans x5
      have l4 := r4.lt
      have s5 := x5.size
      clear M4 y4 x5 r3
      go_wp2_with fail
      refine (iDesignSum_any B3 B4 n m n m G H _ (Nat.le_refl _) (Nat.le_refl _) hn hn3 r3'.whs r4.whs).mono ?_
      rintro e w6 ⟨vg, ok2, c2, R2, rfl, N6', T6, x6⟩
      have t6 : RT (validM n G && validM m H) (catF n G H) (n + m) ok2 c2 R2 := T6
      obtain ⟨rfl, rfl, hRR⟩ := T.out.one t6
      have N6 : OwnM w6 w5.heap.size w6.heap.size vg c2 cR := by
        rw [← CR.out]; exact N6'.congr hRR
      have M6 := M5.keep x6
      have X6 := r3'.cel.keep x6
      have Z6 := r4.cel.keep x6
      have y6 := y5.trans x6
      have s6 := x6.size
      clear M5 r3' r4 y5 x6 T6 t6 hRR N6'
      go_wp2_with fail
      refine (eqOwn hm12 N6 M6).mono ?_
      rintro e w7 ⟨rfl, x7⟩
      have M7 := M6.keep x7
      have N7 := N6.keep x7
      have X7 := X6.keep x7
      have Z7 := Z6.keep x7
      have y7 := y6.trans x7
      clear M6 N6 X6 Z6 y6 x7
      go_wp2_with fail
      refine (toWheelS_any a n cap G _ hc hn (h.keep y7)).mono ?_
      rintro e w8 ⟨B5, rfl, _, r8, x8⟩
      have M8 := M7.keep x8
      have N8 := N7.keep x8
      have X8 := X7.keep x8
      have Z8 := Z7.keep x8
      have y8 := y7.trans x8
      clear M7 N7 X7 Z7 y7 x8
      go_wp2_with fail
      refine (eqWheelS_any _ _ n n n G _ (Nat.le_refl _) (Nat.le_refl _) hn X8.whsG r8.whs).mono ?_
      rintro e w9 ⟨rfl, x9⟩
      have M9 := M8.keep x9
      have N9 := N8.keep x9
      have X9 := X8.keep x9
      have Z9 := Z8.keep x9
      have y9 := y8.trans x9
      clear M8 N8 X8 Z8 y8 x9
      clear r8
      go_wp2_with fail
      refine (toWheelS_any b m cap2 H _ hc2 hn3 (k.keep y9)).mono ?_
      rintro e w10 ⟨B6, rfl, _, r10, x10⟩
      have M10 := M9.keep x10
      have N10 := N9.keep x10
      have X10 := X9.keep x10
      have Z10 := Z9.keep x10
      have y10 := y9.trans x10
      clear M9 N9 X9 Z9 y9 x10
      go_wp2_with fail
      refine (eqWheelS_any _ _ m m m H _ (Nat.le_refl _) (Nat.le_refl _) hn3 Z10.whsG r10.whs).mono ?_
      rintro e w11 ⟨rfl, x11⟩
      have M11 := M10.keep x11
      have N11 := N10.keep x11
      have X11 := X10.keep x11
      have Z11 := Z10.keep x11
      have y11 := y10.trans x11
      clear M10 N10 X10 Z10 y10 x11
      clear r10
      go_wp2_with fail
      refine (markWh B3 n n 1 _ _ (by omega) hn (Nat.le_refl _) X11).mono ?_
      rintro e w12 ⟨rfl, _, x12⟩
      have y12 := x12.ext y11 (by omega)
      have M12 := M11.keepB x12 (.inr hB3)
      have N12 := N11.keepB x12 (.inl (by omega))
      have Z12 := Z11.keepB x12 (by omega)
      clear M11 N11 X11 Z11 y11 x12
      go_wp2_with fail
      refine (markWh B4 m m (1 + n * 9) _ _ (by omega) hn3 (Nat.le_refl _) Z12).mono ?_
      rintro e w13 ⟨rfl, _, x13⟩
      have y13 := x13.ext y12 (by omega)
      have M13 := M12.keepB x13 (.inr (by omega))
      have N13 := N12.keepB x13 (.inl (by omega))
      have hk1 : ¬ (((1 + n * 9 + m * 9 : Nat) : Int) < 0) := by omega
      clear M12 N12 Z12 y12 x13
      go_wp2_with fail
      refine (eqOwn hm12 N13 M13).mono ?_
      rintro e w14 ⟨rfl, x14⟩
      have M14 := M13.keep x14
      have N14 := N13.keep x14
      have y14 := y13.trans x14
      clear M13 N13 y13 x14
      go_wp2_with fail
      refine (markOwn hm12 N14).mono ?_
      rintro e w15 ⟨rfl, N15, g, hg, x15⟩
      have y15 := x15.ext y14 (by omega)
      have M15 := M14.keepB x15 (.inr (by omega))
      have hk2 : ¬ (((1 + c2 * 9 : Nat) : Int) < 0) := by omega
      clear M14 N14 x15 y14
      go_wp2_with fail
      refine (heldOwn hm12 N15).mono ?_
      rintro e w16 ⟨rfl, rfl⟩
      go_wp2_with fail
      refine (toWheelS_any a n cap G _ hc hn (h.keep y15)).mono ?_
      rintro e w17 ⟨B7, rfl, _, r17, x17⟩
      have M17 := M15.keep x17
      have N17 := N15.keep x17
      have y17 := y15.trans x17
      clear M15 N15 y15 x17
      go_wp2_with fail
      refine (toWheelS_any b m cap2 H _ hc2 hn3 (k.keep y17)).mono ?_
      rintro e w18 ⟨B8, rfl, _, r18, x18⟩
      have M18 := M17.keep x18
      have N18 := N17.keep x18
      have r17' := r17.keep x18
      have y18 := y17.trans x18
      clear M17 N17 y17 x18 r17
      go_wp2_with fail
      refine (iDesignSum_any B7 B8 n m n m G H _ (Nat.le_refl _) (Nat.le_refl _) hn hn3 r17'.whs r18.whs).mono ?_
      rintro e w19 ⟨vh, ok3, c3, R3, rfl, O19', T19, x19⟩
      have t19 : RT (validM n G && validM m H) (catF n G H) (n + m) ok3 c3 R3 := T19
      obtain ⟨rfl, rfl, hRR⟩ := T.out.one t19
      have O19 : OwnM w19 w18.heap.size w19.heap.size vh c3 cR := by
        rw [← CR.out]; exact O19'.congr hRR
      have M19 := M18.keep x19
      have N19 := N18.keep x19
      have y19 := y18.trans x19
      clear T19 t19 hRR O19' M18 N18 y18 x19 r17' r18
      go_wp2_with fail
      refine (eqOwn hm12 O19 M19).mono ?_
      rintro e w20 ⟨rfl, x20⟩
      have N20 := N19.keep x20
      have y20 := y19.trans x20
      clear M19 N19 O19 y19 x20
      go_wp2_with fail
      refine (heldOwn hm12 N20).mono ?_
      rintro e w21 ⟨rfl, rfl⟩
      go_wp2
      go_ret
      exact ⟨rfl, y20⟩
    · go_enter Try.func4, Try.ntmps4
      go_wp2_with fail
      refine (szWheelS_any a n cap _ (Nat.le_trans hc hm)).mono ?_
      rw [if_pos hn]
      rintro e w0 ⟨rfl, rfl⟩
      have hL : (1048576 - (n : Int)) = ((1048576 - n : Nat) : Int) := by omega
      rw [hL]
      have hneg : ¬ (((1048576 - n : Nat) : Int) < 0) := by omega
      go_wp2_with fail
      refine (szW3 b m cap2 (1048576 - n) _ (Nat.le_trans hc2 hm2) (by omega)).mono ?_
      rw [if_neg hn2]
      rintro e w0 ⟨rfl, rfl⟩
      go_wp2
      go_ret
      exact ⟨rfl, Ext.refl _⟩
  · go_enter Try.func4, Try.ntmps4
    go_wp2_with fail
    refine (szWheelS_any a n cap _ (Nat.le_trans hc hm)).mono ?_
    rw [if_neg hn]
    rintro e w0 ⟨rfl, rfl⟩
    go_wp2
    go_ret
    exact ⟨rfl, Ext.refl _⟩

end Go.Proofs.Ytadjphiipnlcdaa
