/- Draws of wide numbers, and the law on near numbers (P34): walks. -/
import Derived.Test.YtfghjlngllanoaaWideN
import Derived.Test.YtfghjlngllanoaaDraw2
import Derived.Deep.RegionWith
import Derived.Deep.DeepCutAuto
namespace Go.Proofs.Ytfghjlngllanoaa
open Go.ChangeShapes Go.WideShapes Go.ChangeAt Go.RowKit
set_option linter.unusedVariables false
set_option maxRecDepth 100000

theorem arith_run (P : Program) (op : BinOp) (a b : Nat) (w : World) (hop : op = .sub ∨ op = .quo) : ∃ d w', (Op.floatArith op .f64 a b).run P w = .ok (.float .f64 d) w' ∧ Ext w w' ∧ (floatBits op .f64 a b = some d ∨ (floatBits op .f64 a b = none ∧ NaNw d ∧ NaNw (d % 9223372036854775808))) := by
  cases h : floatBits op .f64 a b with
  | some d => exact ⟨d, w, run_floatArith w h, Ext.refl _, .inl rfl⟩
  | none =>
    refine ⟨(Question.nanBits .f64 a b).cut (w.tape w.drawn (.nanBits .f64 a b)), w.drew, ?_, (Ext.refl w).drew, .inr ⟨rfl, (cut_nan _ ⟨_, _, rfl⟩ _).1, (cut_nan _ ⟨_, _, rfl⟩ _).2⟩⟩
    rcases hop with rfl | rfl
    · have h' : FloatKind.f64.format.sub a b = none := h
      simp [Op.floatArith, h', Question.forced]
    · have h' : FloatKind.f64.format.div a b = none := h
      simp [Op.floatArith, h', Question.forced]
theorem sub_run (P : Program) (t : TypeId) (a b c d : Nat) (w : World) : ∃ re im w', (binOp .sub t (.complex .f64 a b) (.complex .f64 c d)).run P w = .ok (.complex .f64 re im) w' ∧ Ext w w' ∧ PartOf a c re ∧ PartOf b d im := by
  obtain ⟨re, w1, h1, x1, p1⟩ := arith_run P .sub a c w (.inl rfl)
  obtain ⟨im, w2, h2, x2, p2⟩ := arith_run P .sub b d w1 (.inl rfl)
  refine ⟨re, im, w2, ?_, x1.trans x2, p1, p2⟩
  simp [binOp, Op.complexOp, Op.Complex.arith, h1, h2]
theorem quo_run (P : Program) (t : TypeId) (w : World) : ∃ d w', (binOp .quo t (.float .f64 0) (.float .f64 0)).run P w = .ok (.float .f64 d) w' ∧ Ext w w' ∧ NaNw d := by
  obtain ⟨d, w1, h1, x1, p1⟩ := arith_run P .quo 0 0 w (.inr rfl)
  refine ⟨d, w1, ?_, x1, ?_⟩
  · simp [binOp, h1]
  · rcases p1 with p1 | p1
    · have : floatBits .quo .f64 0 0 = none := by decide +kernel
      rw [this] at p1; cases p1
    · exact p1.2.1
/-- a wide number drawn -/
def WideW (x y : Nat) : Prop := WPart x ∧ y ∈ wordL
def DrawnWide (R p : Nat) (w : World) (e : Ending) (w' : World) : Prop :=
  ∃ x y : Nat, e = .returned (.complex .f64 x y) ∧ WideW x y ∧ (∃ q, p ≤ q ∧ q ≤ p + 3 ∧ RdOk w' R q) ∧ ExtB R w w'
theorem word_int {v : Int} (h1 : 0 ≤ v) (h2 : v < 41) : floatOfInt .f64 (v - 20) ∈ wordL := by
  obtain ⟨i, rfl⟩ := Int.eq_ofNat_of_zero_le h1
  unfold wordL
  refine List.mem_append_right _ (List.mem_map.2 ⟨i, List.mem_range.2 (by omega), rfl⟩)
theorem word_one : 4607182418800017408 ∈ wordL := by decide +kernel
theorem word_two : 4611686018427387904 ∈ wordL := by decide +kernel
theorem word_inf : 9218868437227405312 ∈ wordL := by decide +kernel
theorem word_half : 4602678819172646912 ∈ wordL := by decide +kernel
theorem word_nz : 9223372036854775808 ∈ wordL := by decide +kernel
theorem wrap20 {v : Int} (h1 : 0 ≤ v) (h2 : v < 41) : IntKind.i64.wrap (v - 20) = v - 20 := by rw [IntKind.wrap_i64]; omega
theorem ng0 : Op.negFloat .f64 0 = 9223372036854775808 := by decide +kernel
theorem inf_run (P : Program) (t : TypeId) (w : World) : (binOp .quo t (.float .f64 4607182418800017408) (.float .f64 0)).run P w = .ok (.float .f64 9218868437227405312) w := run_float_arith w .quo t .f64 _ _ _ (by decide +kernel)
theorem nz_run (P : Program) (t : TypeId) (w : World) : (binOp .mul t (.float .f64 9223372036854775808) (.float .f64 4607182418800017408)).run P w = .ok (.float .f64 9223372036854775808) w := run_float_arith w .mul t .f64 _ _ _ (by decide +kernel)

set_option maxHeartbeats 1000000 in
theorem l91Wide_any (p R : Nat) (w : World) (hp : p ≤ 900000) (h : RdOk w R p) : Calls Try.prog 30 #[.pointer (some ⟨R, 0, none⟩)] w (DrawnWide R p w) := by
  go_enter Try.func30, Try.ntmps30
  go_wp2_with fail
  refine (pick_any 10 p R _ (by omega) (by omega) (by omega) h).mono ?_
  rintro e w1 ⟨v, v1, v2, rfl, k1, x1⟩
  have ng : ∀ w, (Op.unary .neg (.float .f64 0)).run Try.prog w = .ok (.float .f64 9223372036854775808) w := fun w => by rw [← ng0]; rfl
  have hi := inf_run Try.prog
  have hz := nz_run Try.prog
  by_cases h0 : v = 0
  · subst h0
    obtain ⟨d, w2, hq, x2, hd⟩ := quo_run Try.prog 40 w1
    go_wp2
    go_ret
    exact ⟨_, _, rfl, ⟨.inl hd, word_one⟩, ⟨_, by omega, by omega, k1.keep x2⟩, x1.trans (x2.toB R)⟩
  by_cases h1 : v = 1
  · subst h1
    go_wp2
    go_ret
    exact ⟨_, _, rfl, ⟨.inr word_one, word_inf⟩, ⟨_, by omega, by omega, k1⟩, x1⟩
  by_cases h2 : v = 2
  · subst h2
    go_wp2
    go_ret
    exact ⟨_, _, rfl, ⟨.inr word_nz, word_two⟩, ⟨_, by omega, by omega, k1⟩, x1⟩
  by_cases h3 : v = 3
  · subst h3
    go_wp2
    go_ret
    exact ⟨_, _, rfl, ⟨.inr word_half, word_one⟩, ⟨_, by omega, by omega, k1⟩, x1⟩
  go_wp2_with fail
  refine (pick_any 41 (p + 1) R _ (by omega) (by omega) (by omega) k1).mono ?_
  rintro e w2 ⟨u, u1, u2, rfl, k2, x2⟩
  go_wp2_with fail
  refine (pick_any 41 (p + 2) R _ (by omega) (by omega) (by omega) k2).mono ?_
  rintro e w3 ⟨t, t1, t2, rfl, k3, x3⟩
  go_wp2_with fail
  go_ret
  exact ⟨_, _, rfl, ⟨.inr (by first | exact word_int u1 u2 | (rw [wrap20 u1 u2]; exact word_int u1 u2)), by first | exact word_int t1 t2 | (rw [wrap20 t1 t2]; exact word_int t1 t2)⟩, ⟨_, by omega, by omega, k3⟩, (x1.trans x2).trans x3⟩

theorem dWideGauss_any (a : Option Addr) (len cap : Nat) (w : World) (h : CodeOk w a len cap) :
    Calls Try.prog 8 #[.slice a len cap] w fun e w' => ∃ x y : Nat, e = .returned (.complex .f64 x y) ∧ WideW x y ∧ Ext w w' := by
  go_enter Try.func8, Try.ntmps8
  go_wp2_with fail
  refine (l6Open_any _ _ _ _ h).mono ?_
  rintro e w1 ⟨R, rfl, hR, k1, x1⟩
  go_wp2_with fail
  refine (l91Wide_any 0 R _ (by omega) k1).mono ?_
  rintro e w2 ⟨x, y, rfl, hw, _, x2⟩
  go_wp2_with fail
  go_ret
  exact ⟨x, y, rfl, hw, x2.ext x1 hR⟩

theorem iPointsNear_any (a b c d m : Nat) (w : World) :
    Calls Try.prog 17 #[.complex .f64 a b, .complex .f64 c d, .float .f64 m] w fun e w' => e = .returned (.bool (nB a c m && nB b d m)) ∧ Ext w w' := by
  obtain ⟨re, im, w1, s1, x1, p1, p2⟩ := sub_run Try.prog 23 a b c d w
  have h1 := p1.abs (m := m)
  have h2 := p2.abs (m := m)
  clear p1 p2
  go_enter Try.func17, Try.ntmps17
  go_wp2_with fail
  refine (mabs_any re _).mono ?_
  rintro e w' ⟨rfl, rfl⟩
  generalize re % 9223372036854775808 = r1 at *
  unfold leP at h1 h2
  cases hb : nB a c m <;> rw [hb] at h1
  · go_wp2
    go_ret; exact ⟨by rw [hb]; rfl, x1⟩
  · go_wp2_with fail
    refine (mabs_any im _).mono ?_
    rintro e w' ⟨rfl, rfl⟩
    generalize im % 9223372036854775808 = r2 at *
    cases hb2 : nB b d m <;> rw [hb2] at h2
    · go_wp2
      go_ret; exact ⟨by rw [hb, hb2]; rfl, x1⟩
    · go_wp2
      go_ret; exact ⟨by rw [hb, hb2]; rfl, x1⟩

theorem sPointsNear_any (a b c d m : Nat) (ha : WPart a) (hb : WPart b) (hc : WPart c) (hd : WPart d) (hm : m ∈ mostL) (w : World) :
    Calls Try.prog 29 #[.complex .f64 a b, .complex .f64 c d, .float .f64 m] w fun e w' => e = .returned (.bool (nB a c m && nB b d m)) ∧ Ext w w' := by
  obtain ⟨re, im, w1, s1, x1, p1, p2⟩ := sub_run Try.prog 23 a b c d w
  have h1 := p1.both ha hc hm
  have h2 := p2.both hb hd hm
  clear p1 p2 ha hb hc hd hm
  unfold leP geP at h1 h2
  rw [← h1, ← h2]
  clear h1 h2
  have hn : ∀ w, (Op.unary .neg (.float .f64 m)).run Try.prog w = .ok (.float .f64 (Op.negFloat .f64 m)) w := fun w => rfl
  cases e1 : (FloatKind.f64.format.order re m == some .lt || FloatKind.f64.format.order re m == some .eq) <;> cases e2 : (FloatKind.f64.format.order re (Op.negFloat .f64 m) == some .gt || FloatKind.f64.format.order re (Op.negFloat .f64 m) == some .eq)
    <;> cases e3 : (FloatKind.f64.format.order im m == some .lt || FloatKind.f64.format.order im m == some .eq) <;> cases e4 : (FloatKind.f64.format.order im (Op.negFloat .f64 m) == some .gt || FloatKind.f64.format.order im (Op.negFloat .f64 m) == some .eq)
  all_goals
    go_enter Try.func29, Try.ntmps29
    go_wp2
    go_ret; exact ⟨rfl, x1⟩

end Go.Proofs.Ytfghjlngllanoaa
