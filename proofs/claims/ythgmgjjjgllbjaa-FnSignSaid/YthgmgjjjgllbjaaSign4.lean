/- Signs of surds (chapter 3): impl's sign of whole surds. Written by mk_sign3.py. -/
import Derived.Test.YthgmgjjjgllbjaaSign3
namespace Go.Proofs.Ythgmgjjjgllbjaa
open Go.ChangeShapes Go.WideShapes Go.ChangeAt Go.RowKit
set_option linter.unusedVariables false

set_option maxHeartbeats 4000000 in
theorem sign_any (a b c d : Int) (ha : -1100000000 ≤ a ∧ a ≤ 1100000000) (hb : -20000000 ≤ b ∧ b ≤ 20000000) (hc : -20000000 ≤ c ∧ c ≤ 20000000) (hd : -20000000 ≤ d ∧ d ≤ 20000000) (w : World) : Calls Try.prog 30 #[surdV a b c d] w fun e w' => e = .returned (.int .i64 (sg3 a b c d)) ∧ Ext w w' := by
  obtain ⟨⟨m1, m2⟩, ⟨m3, m4⟩, ⟨m5, m6⟩, ⟨m7, m8⟩, ⟨m9, m10⟩, ⟨m11, m12⟩⟩ := sign_bd ha hb hc hd
  have HA := ha
  have HB := hb
  have HC := hc
  have HD := hd
  obtain ⟨a1, a2⟩ := ha
  obtain ⟨b1, b2⟩ := hb
  obtain ⟨c1, c2⟩ := hc
  obtain ⟨d1, d2⟩ := hd
  have j0 := Blk.new w [.int .i64 a, .int .i64 b, .int .i64 c, .int .i64 d] 26
  have x0 : Ext w (w.alloc (.cells #[.int .i64 a, .int .i64 b, .int .i64 c, .int .i64 d] 26)) := by repeat (first | exact Ext.refl _ | assumption | refine Ext.drew ?_ | refine Ext.alloc ?_ _ | refine Ext.trans ?_ (by assumption))
  go_enter Try.func30, Try.ntmps30
  go_upto_region 1 with fail
  generalize World.alloc _ _ = W at *
  have z0 : Ext W W.drew := (Ext.refl W).drew
  have k0 := (j0.keep z0).cell
  go_cut [3, 4] (fun s3 s4 wx => s3 = .int .i64 (sg2 a b) ∧ s4 = .int .i64 (sg2 c d) ∧ Ext W wx)
  case first =>
    go_region_held3 (fun w' => Ext W w' ∧ (∀ o, w'.cell? ⟨w.heap.size, o, none⟩ = [Value.int .i64 a, .int .i64 b, .int .i64 c, .int .i64 d][o]?))
      ((with_reducible refine (fun hx => ⟨hx, (j0.keep hx).cell⟩ : Ext W _ → _) ?_; repeat (first | with_reducible assumption | with_reducible exact Ext.refl _ | with_reducible refine Ext.drew ?_ | with_reducible refine Ext.alloc ?_ _)))
      (first
      | (go_at_call 45; ((with_reducible refine (sign2_any a b (by omega) (by omega) _).mono ?_); rintro e w1 ⟨rfl, x1⟩; have y1 : Ext W w1 := (by first | with_reducible exact z0.trans x1 | with_reducible exact y2.trans x1); have e1 := (j0.keep y1).cell; clear x1))
      | (go_at_call 45; ((with_reducible refine (sign2_any c d (by omega) (by omega) _).mono ?_); rintro e w2 ⟨rfl, x2⟩; have y2 : Ext W w2 := (by first | with_reducible exact z0.trans x2 | with_reducible exact y1.trans x2); have e2 := (j0.keep y2).cell; clear x2)))
    all_goals (go_wp2_with fail; go_meet; exact ⟨rfl, rfl, by assumption⟩)
  case rest =>
  obtain ⟨rfl, rfl, y3⟩ := hcut
  have k3 := (j0.keep y3).cell
  have y4 := x0.trans y3
  clear z0 k0 j0 x0 y3
  rcases sg2_range a b with hp | hp | hp <;> rcases sg2_range c d with hq | hq | hq
  · have K := Lib.hid (show sg3 a b c d = -1 from by unfold sg3; rw [hp, hq]; rfl)
    have K2 := Lib.hid (show sg3 a b c d = sg2 a b from by rw [K.out, hp])
    go_wp2_with (go_at_call 45; ((with_reducible refine (sign2_any _ _ (by omega) (by omega) _).mono ?_); rintro e w5 ⟨rfl, x5⟩))
    go_ret; exact ⟨by first | (rw [K.out]; rfl) | (rw [K2.out]; rfl), by first | exact y4 | exact y4.trans x5⟩
  · have K := Lib.hid (show sg3 a b c d = -1 from by unfold sg3; rw [hp, hq]; rfl)
    have K2 := Lib.hid (show sg3 a b c d = sg2 a b from by rw [K.out, hp])
    go_wp2_with (go_at_call 45; ((with_reducible refine (sign2_any _ _ (by omega) (by omega) _).mono ?_); rintro e w5 ⟨rfl, x5⟩))
    go_ret; exact ⟨by first | (rw [K.out]; rfl) | (rw [K2.out]; rfl), by first | exact y4 | exact y4.trans x5⟩
  · rcases sg2_range (a * a + 2 * b * b - 3 * c * c - 6 * d * d) (2 * a * b - 6 * c * d) with hs | hs | hs
    · have K := Lib.hid (show sg3 a b c d = 1 from by unfold sg3; rw [hp, hq, hs]; rfl)
      go_wp2_with (go_at_call 45; ((with_reducible refine (sign2_any _ _ (by omega) (by omega) _).mono ?_); rintro e w5 ⟨rfl, x5⟩))
      go_ret; exact ⟨by first | (rw [K.out]; rfl), by first | exact y4 | exact y4.trans x5⟩
    · have K := Lib.hid (show sg3 a b c d = 0 from by unfold sg3; rw [hp, hq, hs]; rfl)
      go_wp2_with (go_at_call 45; ((with_reducible refine (sign2_any _ _ (by omega) (by omega) _).mono ?_); rintro e w5 ⟨rfl, x5⟩))
      go_ret; exact ⟨by first | (rw [K.out]; rfl), by first | exact y4 | exact y4.trans x5⟩
    · have K := Lib.hid (show sg3 a b c d = -1 from by unfold sg3; rw [hp, hq, hs]; rfl)
      go_wp2_with (go_at_call 45; ((with_reducible refine (sign2_any _ _ (by omega) (by omega) _).mono ?_); rintro e w5 ⟨rfl, x5⟩))
      go_ret; exact ⟨by first | (rw [K.out]; rfl), by first | exact y4 | exact y4.trans x5⟩
  · have K := Lib.hid (show sg3 a b c d = -1 from by unfold sg3; rw [hp, hq]; rfl)
    have K2 := Lib.hid (show sg3 a b c d = sg2 c d from by rw [K.out, hq])
    go_wp2_with (go_at_call 45; ((with_reducible refine (sign2_any _ _ (by omega) (by omega) _).mono ?_); rintro e w5 ⟨rfl, x5⟩))
    go_ret; exact ⟨by first | (rw [K.out]; rfl) | (rw [K2.out]; rfl), by first | exact y4 | exact y4.trans x5⟩
  · have K := Lib.hid (show sg3 a b c d = 0 from by unfold sg3; rw [hp, hq]; rfl)
    have K2 := Lib.hid (show sg3 a b c d = sg2 a b from by rw [K.out, hp])
    go_wp2_with (go_at_call 45; ((with_reducible refine (sign2_any _ _ (by omega) (by omega) _).mono ?_); rintro e w5 ⟨rfl, x5⟩))
    go_ret; exact ⟨by first | (rw [K.out]; rfl) | (rw [K2.out]; rfl), by first | exact y4 | exact y4.trans x5⟩
  · have K := Lib.hid (show sg3 a b c d = 1 from by unfold sg3; rw [hp, hq]; rfl)
    have K2 := Lib.hid (show sg3 a b c d = sg2 c d from by rw [K.out, hq])
    go_wp2_with (go_at_call 45; ((with_reducible refine (sign2_any _ _ (by omega) (by omega) _).mono ?_); rintro e w5 ⟨rfl, x5⟩))
    go_ret; exact ⟨by first | (rw [K.out]; rfl) | (rw [K2.out]; rfl), by first | exact y4 | exact y4.trans x5⟩
  · rcases sg2_range (a * a + 2 * b * b - 3 * c * c - 6 * d * d) (2 * a * b - 6 * c * d) with hs | hs | hs
    · have K := Lib.hid (show sg3 a b c d = -1 from by unfold sg3; rw [hp, hq, hs]; rfl)
      go_wp2_with (go_at_call 45; ((with_reducible refine (sign2_any _ _ (by omega) (by omega) _).mono ?_); rintro e w5 ⟨rfl, x5⟩))
      go_ret; exact ⟨by first | (rw [K.out]; rfl), by first | exact y4 | exact y4.trans x5⟩
    · have K := Lib.hid (show sg3 a b c d = 0 from by unfold sg3; rw [hp, hq, hs]; rfl)
      go_wp2_with (go_at_call 45; ((with_reducible refine (sign2_any _ _ (by omega) (by omega) _).mono ?_); rintro e w5 ⟨rfl, x5⟩))
      go_ret; exact ⟨by first | (rw [K.out]; rfl), by first | exact y4 | exact y4.trans x5⟩
    · have K := Lib.hid (show sg3 a b c d = 1 from by unfold sg3; rw [hp, hq, hs]; rfl)
      go_wp2_with (go_at_call 45; ((with_reducible refine (sign2_any _ _ (by omega) (by omega) _).mono ?_); rintro e w5 ⟨rfl, x5⟩))
      go_ret; exact ⟨by first | (rw [K.out]; rfl), by first | exact y4 | exact y4.trans x5⟩
  · have K := Lib.hid (show sg3 a b c d = 1 from by unfold sg3; rw [hp, hq]; rfl)
    have K2 := Lib.hid (show sg3 a b c d = sg2 a b from by rw [K.out, hp])
    go_wp2_with (go_at_call 45; ((with_reducible refine (sign2_any _ _ (by omega) (by omega) _).mono ?_); rintro e w5 ⟨rfl, x5⟩))
    go_ret; exact ⟨by first | (rw [K.out]; rfl) | (rw [K2.out]; rfl), by first | exact y4 | exact y4.trans x5⟩
  · have K := Lib.hid (show sg3 a b c d = 1 from by unfold sg3; rw [hp, hq]; rfl)
    have K2 := Lib.hid (show sg3 a b c d = sg2 a b from by rw [K.out, hp])
    go_wp2_with (go_at_call 45; ((with_reducible refine (sign2_any _ _ (by omega) (by omega) _).mono ?_); rintro e w5 ⟨rfl, x5⟩))
    go_ret; exact ⟨by first | (rw [K.out]; rfl) | (rw [K2.out]; rfl), by first | exact y4 | exact y4.trans x5⟩

end Go.Proofs.Ythgmgjjjgllbjaa
