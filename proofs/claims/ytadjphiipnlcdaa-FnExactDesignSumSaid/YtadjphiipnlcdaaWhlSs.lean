/- Wheels: spec.DesignSum. -/
import Derived.Test.YtadjphiipnlcdaaWhlCt
import Derived.Test.YtadjphiipnlcdaaWhlG
namespace Go.Proofs.Ytadjphiipnlcdaa
open Go.ChangeShapes Go.WideShapes Go.ChangeAt Go.RowKit
set_option linter.unusedVariables false
set_option maxRecDepth 100000


set_option maxHeartbeats 4000000 in
theorem sDesignSum_any (p q N M c1 c2 : Nat) (X Y : Nat → Nat → Int) (w : World) (hc1 : N ≤ c1) (hc2 : M ≤ c2) (hn : N ≤ 1048576) (hm : M ≤ 1048576) (h1 : Whs w (some ⟨p, 0, none⟩) N X) (h2 : Whs w (some ⟨q, 0, none⟩) M Y) :
    Calls Try.prog 14 #[.slice (some ⟨p, 0, none⟩) N c1, .slice (some ⟨q, 0, none⟩) M c2] w (ResW (validM N X && validM M Y) (catF N X Y) (N + M) w) := by
  obtain ⟨i0, hi, hz0, hz1, hz2⟩ := info_partsW infoWhC
  go_enter Try.func14, Try.ntmps14
  go_wp2_with fail
  refine (sDesignValid_any _ N c1 X _ hc1 hn h1).mono ?_
  rintro e w2 ⟨rfl, x2⟩
  have h2' := h2.keep x2
  by_cases hv : validM N X = true
  · rw [hv]
    have V1 := Lib.hid hv
    clear hv
    go_wp2_with fail
    refine (sDesignValid_any _ M c2 Y _ hc2 hm h2').mono ?_
    rintro e w3 ⟨rfl, x3⟩
    have y3 := x2.trans x3
    clear h2' x2 x3
    by_cases hv : validM M Y = true
    · rw [hv]
      have n1 := validM_le V1.out
      have n2 := validM_le hv
      have CC := Lib.hid (catF_cyc (validM_cyc V1.out) (validM_cyc hv))
      have V2 := Lib.hid (show (validM N X && validM M Y) = true by simp [V1.out, hv])
      clear hv V1
      have o4 : (w3.alloc (.cells #[] 41)).ownsRow w.heap.size 41 9 (.slice (some ⟨w3.heap.size, 0, none⟩) 0 0) 0 [] := World.ownsRow_lit (w := w3) (base := w.heap.size) (e := 41) (size := 9) #[] 0 y3.size (by decide) rfl
      have o4' : OwnW (w3.alloc (.cells #[] 41)) w.heap.size (.slice (some ⟨w3.heap.size, 0, none⟩) 0 0) 0 X := o4
      have y4 : Ext w (w3.alloc (.cells #[] 41)) := y3.alloc _
      have N4 := newsAt (h1.keep y4)
      go_wp2_with (at_builtin; refine wpList_append_own _ rfl _ _ 25 rfl w.heap.size 41 i0 (whV fun _ => 0) 9 72 Try.underlying25 hi hz0 hz1 hz2 rfl (by decide) _ _ _ rfl o4 ⟨p, 0, none⟩ N c1 (flat N X) rfl (flat_len _ _) ?c1 ?c2 ?c3 ?c4 ?c5 ?_)
      case c1 => exact N4
      case c2 => exact one_flat _ _
      case c3 => unfold maxLen; omega
      case c4 => omega
      case c5 => exact y4.size
      intro v5 w5 hown5 hgrow5 _
      obtain ⟨r5, hr5, z5⟩ := grownW o4' hgrow5 y4.size
      have y5 := z5.ext (z := w) y4 hr5
      have o5 : OwnW w5 w.heap.size v5 N X := by
        first
        | exact hown5
        | (rw [Nat.zero_add] at hown5; exact hown5)
      have N5 := newsAt (h2.keep y5)
      clear hown5 hgrow5 z5 o4 o4' y4 N4 y3
      go_wp2_with (at_builtin; refine wpList_append_own _ rfl _ _ 25 rfl w.heap.size 41 i0 (whV fun _ => 0) 9 72 Try.underlying25 hi hz0 hz1 hz2 rfl (by decide) _ _ _ rfl o5 ⟨q, 0, none⟩ M c2 (flat M Y) rfl (flat_len _ _) ?c1 ?c2 ?c3 ?c4 ?c5 ?_)
      case c1 => exact N5
      case c2 => exact one_flat _ _
      case c3 => unfold maxLen; omega
      case c4 => omega
      case c5 => exact y5.size
      intro v6 w6 hown6 hgrow6 _
      obtain ⟨r6, hr6, z6⟩ := grownW o5 hgrow6 y5.size
      have y6 := z6.ext (z := w) y5 hr6
      have o6 : OwnW w6 w.heap.size v6 (N + M) (catF N X Y) := by
        have := hown6
        rw [flat_app] at this
        exact this
      clear hown6 hgrow6 z6 o5 y5 N5 h1 h2
      obtain ⟨a6, c6, rfl, hc6, _, hw6⟩ := o6.whs
      go_wp2_with fail
      refine (l5Tidy_any a6 (N + M) c6 (catF N X Y) _ hc6 (by omega) hw6 CC.out).mono ?_
      rintro e w7 ⟨v, ok, m, R, rfl, oc, tr, x7⟩
      have oc' := (oc.mono y6.size).ownC.own
      have y7 := y6.trans x7
      clear oc y6 x7 hw6 o6
      have TRK := Lib.hid tr
      clear tr
      go_wp2
      go_ret2
      exact ⟨v, ok, m, R, rfl, oc', .inl ⟨V2.out, TRK.out⟩, y7⟩
    · have hv' : validM M Y = false := by simpa using hv
      rw [hv']
      have V2 := Lib.hid (show (validM N X && validM M Y) = false by simp [hv'])
      have L9 : OwnW (w3.alloc (.cells #[] 41)) w.heap.size (.slice (some ⟨w3.heap.size, 0, none⟩) 0 0) 0 X := World.ownsRow_lit (w := w3) (base := w.heap.size) (e := 41) (size := 9) #[] 0 y3.size (by decide) rfl
      have o9 := L9.ownC.own
      clear hv hv' V1
      go_wp2_with fail
      go_ret2
      exact ⟨_, false, 0, X, rfl, o9, .inr ⟨V2.out, rfl, rfl⟩, y3.alloc _⟩
  · have hv' : validM N X = false := by simpa using hv
    rw [hv']
    have V2 := Lib.hid (show (validM N X && validM M Y) = false by simp [hv'])
    have L9 : OwnW (w2.alloc (.cells #[] 41)) w.heap.size (.slice (some ⟨w2.heap.size, 0, none⟩) 0 0) 0 X := World.ownsRow_lit (w := w2) (base := w.heap.size) (e := 41) (size := 9) #[] 0 x2.size (by decide) rfl
    have o9 := L9.ownC.own
    clear hv hv'
    go_wp2_with fail
    go_ret2
    exact ⟨_, false, 0, X, rfl, o9, .inr ⟨V2.out, rfl, rfl⟩, x2.alloc _⟩

end Go.Proofs.Ytadjphiipnlcdaa
