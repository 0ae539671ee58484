/- The exact law of FnExactDesignBack. Written by mk_whlx.py. -/
import Derived.Test.YtadjphiipnlcdaaWhlV
import Derived.Test.YtadjphiipnlcdaaWhlBs
namespace Go.Proofs.Ytadjphiipnlcdaa
open Go.ChangeShapes Go.WideShapes Go.ChangeAt Go.RowKit
set_option linter.unusedVariables false
set_option maxRecDepth 100000


set_option maxHeartbeats 4000000 in
theorem lDesignBack (a : Option Addr) (n cap : Nat) (G : Nat → Nat → Int) (w : World) (hc : n ≤ cap) (hm : cap ≤ maxLen) (h : Whs w a n G) :
    Calls Try.prog 5 #[.slice a n cap] w fun e w' => e = .returned (.bool true) ∧ Ext w w' := by
  have H0 := h
  by_cases hn : n ≤ 1048576
  · go_enter Try.func5, Try.ntmps5
    go_wp2_with fail
    refine (szWheelS_any a n cap _ (Nat.le_trans hc hm)).mono ?_
    rw [if_pos hn]
    rintro e w0 ⟨rfl, rfl⟩
    have hneg : ¬ (1048576 - (n : Int)) < 0 := by omega
    go_wp2_with fail
    refine (toWheelS_any a n cap G _ hc hn h).mono ?_
    rintro e w1 ⟨B1, rfl, hB1, r1, x1⟩
    go_wp2_with fail
    refine (sDesignBack_any _ n n G _ (Nat.le_refl _) hn r1.whs).mono ?_
    rintro e w2 t2
    obtain ⟨v0, ok, m, R, rfl, M2, T2, x2⟩ := t2.res
    clear t2
    have t2' : RT (validM n G) (fun i => negF (G i)) n ok m R := T2
    have T := Lib.hid t2'
    have hm12 := t2'.le
    have h2 := (h.keep x1).keep x2
    have y2 := x1.trans x2
    have z1 := x1.size
    clear T2 t2' r1 x1 x2 h
    generalize hcR : (fun j => R (j / 9) (j % 9)) = cR at M2
    have CR := Lib.hid hcR
    clear hcR
    go_wp2_with fail
    refine (toWheelS_any a n cap G _ hc hn h2).mono ?_
    rintro e w3 ⟨B2, rfl, hB2, r2, x3⟩
    have h3 := h2.keep x3
    have M3 := M2.keep x3
    have y3 := y2.trans x3
    have z3 := y2.size
    have z4 := r2.lt
    clear h2 y2 x3 M2
    go_wp2_with fail
    refine (iDesignBack_any _ n n G _ (Nat.le_refl _) hn r2.whs).mono ?_
    rintro e w4 t4
    obtain ⟨vg, ok2, m2, R2, rfl, N4', T4, x4⟩ := t4.res
    clear t4
    have t4' : RT (validM n G) (fun i => negF (G i)) n ok2 m2 R2 := T4
    obtain ⟨rfl, rfl, hRR⟩ := T.out.one t4'
    have N4 : OwnM w4 w3.heap.size w4.heap.size vg m2 cR := by
      rw [← CR.out]; exact N4'.congr hRR
    have h4 := h3.keep x4
    have M4 := M3.keep x4
    have X4 := r2.cel.keep x4
    have y4 := y3.trans x4
    clear T4 t4' hRR N4' h3 M3 r2 y3 x4
    go_wp2_with fail
    refine (eqOwn hm12 N4 M4).mono ?_
    rintro e w5 ⟨rfl, x5⟩
    have h5 := h4.keep x5
    have M5 := M4.keep x5
    have N5 := N4.keep x5
    have X5 := X4.keep x5
    have y5 := y4.trans x5
    clear h4 M4 N4 X4 y4 x5
    go_wp2_with fail
    refine (toWheelS_any a n cap G _ hc hn h5).mono ?_
    rintro e w6 ⟨B3, rfl, hB3, r6, x6⟩
    have h6 := h5.keep x6
    have M6 := M5.keep x6
    have N6 := N5.keep x6
    have X6 := X5.keep x6
    have y6 := y5.trans x6
    clear h5 M5 N5 X5 y5 x6
    go_wp2_with fail
    refine (eqWheelS_any _ _ n n n G _ (Nat.le_refl _) (Nat.le_refl _) hn X6.whsG r6.whs).mono ?_
    rintro e w7 ⟨rfl, x7⟩
    have h7 := h6.keep x7
    have M7 := M6.keep x7
    have N7 := N6.keep x7
    have X7 := X6.keep x7
    have y7 := y6.trans x7
    clear h6 M6 N6 X6 y6 x7 r6
    go_wp2_with fail
    refine (markWh B2 n n 1 _ _ (by omega) hn (Nat.le_refl _) X7).mono ?_
    rintro e w8 ⟨rfl, _, x8⟩
    have y8 := x8.ext y7 (by omega)
    have M8 := M7.keepB x8 (.inr hB2)
    have N8 := N7.keepB x8 (.inl z4)
    have hk1 : ¬ (((1 + n * 9 : Nat) : Int) < 0) := by omega
    clear M7 N7 X7 x8 y7 h7
    have h8 : Whs w8 a n G := H0.keep y8
    go_wp2_with fail
    refine (eqOwn hm12 N8 M8).mono ?_
    rintro e w9 ⟨rfl, x9⟩
    have h9 := h8.keep x9
    have M9 := M8.keep x9
    have N9 := N8.keep x9
    have y9 := y8.trans x9
    clear h8 M8 N8 y8 x9
    go_wp2_with fail
    refine (markOwn hm12 N9).mono ?_
    rintro e w10 ⟨rfl, N10, g, hg, x10⟩
    have y10 := x10.ext y9 (by omega)
    have M10 := M9.keepB x10 (.inr (by omega))
    have h10 : Whs w10 a n G := H0.keep y10
    have hk2 : ¬ (((1 + m2 * 9 : Nat) : Int) < 0) := by omega
    clear M9 N9 x10 y9 h9
    go_wp2_with fail
    refine (heldOwn hm12 N10).mono ?_
    rintro e w11 ⟨rfl, rfl⟩
    go_wp2_with fail
    refine (toWheelS_any a n cap G _ hc hn h10).mono ?_
    rintro e w12 ⟨B4, rfl, hB4, r12, x12⟩
    have M12 := M10.keep x12
    have N12 := N10.keep x12
    have y12 := y10.trans x12
    clear h10 M10 N10 y10 x12
    go_wp2_with fail
    refine (iDesignBack_any _ n n G _ (Nat.le_refl _) hn r12.whs).mono ?_
    rintro e w13 t13
    obtain ⟨vh, ok3, m3, R3, rfl, O13', T13, x13⟩ := t13.res
    clear t13
    have t13' : RT (validM n G) (fun i => negF (G i)) n ok3 m3 R3 := T13
    obtain ⟨rfl, rfl, hRR⟩ := T.out.one t13'
    have O13 : OwnM w13 w12.heap.size w13.heap.size vh m3 cR := by
      rw [← CR.out]; exact O13'.congr hRR
    have M13 := M12.keep x13
    have N13 := N12.keep x13
    have y13 := y12.trans x13
    clear T13 t13' hRR O13' M12 N12 y12 x13 r12
    go_wp2_with fail
    refine (eqOwn hm12 O13 M13).mono ?_
    rintro e w14 ⟨rfl, x14⟩
    have N14 := N13.keep x14
    have y14 := y13.trans x14
    clear M13 N13 O13 y13 x14
    go_wp2_with fail
    refine (heldOwn hm12 N14).mono ?_
    rintro e w15 ⟨rfl, rfl⟩
    go_wp2
    go_ret
    exact ⟨rfl, y14⟩
  · go_enter Try.func5, Try.ntmps5
    go_wp2_with fail
    refine (szWheelS_any a n cap _ (Nat.le_trans hc hm)).mono ?_
    rw [if_neg hn]
    rintro e w0 ⟨rfl, rfl⟩
    go_wp2
    go_ret
    exact ⟨rfl, Ext.refl _⟩

end Go.Proofs.Ytadjphiipnlcdaa
