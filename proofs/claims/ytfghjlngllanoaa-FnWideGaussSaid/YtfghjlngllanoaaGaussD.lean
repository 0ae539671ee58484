/- Gaussian numbers of wide ones (P32): walks. -/
import Derived.Test.YtfghjlngllanoaaGaussK
import Derived.Test.YtfghjlngllanoaaNearD
import Derived.Test.YtfghjlngllanoaaCycLaws
namespace Go.Proofs.Ytfghjlngllanoaa
open Go.ChangeShapes Go.WideShapes Go.ChangeAt Go.RowKit
set_option linter.unusedVariables false
set_option maxRecDepth 100000

theorem NaNw.abs {x : Nat} (h : NaNw x) : NaNw (x % 9223372036854775808) := by
  obtain ⟨s, p, hr⟩ := h
  have hs : FloatKind.f64.format.signWeight = 9223372036854775808 := by decide +kernel
  unfold NaNw
  unfold Ieee.Format.read at hr ⊢
  rw [hs] at hr ⊢
  have e1 : x % 9223372036854775808 % 9223372036854775808 = x % 9223372036854775808 := by omega
  rw [e1]
  clear e1
  dsimp only at hr ⊢
  split at hr
  · cases hr
  · rename_i h1
    split at hr
    · cases hr
    · rename_i h2
      split at hr
      · cases hr
      · rename_i h3
        rw [if_neg h1, if_neg h2, if_neg h3]
        exact ⟨_, _, rfl⟩
theorem NaNw.ge {x : Nat} (h : NaNw x) (y : Nat) : geP x y = false := by unfold geP; rw [h.order]; rfl
/-- what is known of a part -/
theorem wfacts {x : Nat} (h : WPart x) : (geP x 13920209183539462144 && leP x 4696837146684686336) = guardW x ∧ (guardW x = true → isNumW x = true ∧ floatToIntVal .f64 x .i64 = some (intW x) ∧ -20 ≤ intW x ∧ intW x ≤ 20 ∧ eqW (floatOfInt .f64 (intW x)) x = eqW x (trW x)) := by
  rcases h with h | h
  · have hg : guardW x = false := h.abs.le _
    refine ⟨by rw [h.ge, hg]; rfl, fun hh => by rw [hg] at hh; cases hh⟩
  · have hc := of_all chkW_all h
    unfold chkW at hc
    simp only [Bool.and_eq_true, beq_iff_eq] at hc
    obtain ⟨⟨c1, c2⟩, c3⟩ := hc
    refine ⟨c2, fun hg => ?_⟩
    rw [hg] at c1 c3
    simp only [Bool.not_true, Bool.or_false, Bool.false_or, Bool.and_eq_true, beq_iff_eq, decide_eq_true_eq] at c1 c3
    exact ⟨c1, c3.1.1.1, c3.1.1.2, c3.1.2, c3.2⟩

theorem trunc_run (x : Nat) (h : isNumW x = true) (w : World) : (callFunc 68 #[.float .f64 x]).run Try.prog w = .ok (.value (.float .f64 (trW x))) w := by
  have := run_callFunc_extern (P := Try.prog) (e := Extern.MathFloor.toIntegral "math.archTrunc" .zero) Try.func68 (by kernel_rfl) (by kernel_rfl) (by kernel_rfl) (by kernel_rfl) #[.float .f64 x] w
  rw [this]
  have e : Extern.MathFloor.toIntegral "math.archTrunc" .zero #[.float .f64 x] = pure (.float .f64 (trW x)) := by
    change (match FloatKind.f64.decode x with | .nan s t => _ | d => pure (Value.float .f64 (FloatKind.f64.encode (d.integral .zero)))) = _
    unfold isNumW at h
    unfold trW
    cases hd : FloatKind.f64.decode x with
    | number s m p => rfl
    | infinity s => simp [hd] at h
    | nan s t => simp [hd] at h
  rw [e]
  rfl
theorem mtrunc_any (x : Nat) (h : isNumW x = true) (w : World) : Calls Try.prog 50 #[.float .f64 x] w fun e w' => e = .returned (.float .f64 (trW x)) ∧ w = w' := by
  have hs := trunc_run x h
  clear h
  generalize trW x = y at *
  go_enter Try.func50, Try.ntmps50
  go_wp2
  go_ret; exact ⟨rfl, rfl⟩

def wpM (x : Nat) : Int × Bool := if okW x then (intW x, true) else (0, false)
theorem iwholePart_any (x : Nat) (h : WPart x) (w : World) : Calls Try.prog 32 #[.float .f64 x] w fun e w' => e = .returned (.tuple #[.int .i64 (wpM x).1, .bool (wpM x).2]) ∧ w = w' := by
  obtain ⟨_, h2⟩ := wfacts h
  cases hg : guardW x
  · have H := Lib.hid (show wpM x = (0, false) from by simp [wpM, okW, hg])
    clear h2 h
    unfold guardW leP at hg
    go_enter Try.func32, Try.ntmps32
    go_wp2_with fail
    refine (mabs_any x _).mono ?_
    rintro e w' ⟨rfl, rfl⟩
    generalize x % 9223372036854775808 = r1 at *
    go_wp2
    go_ret2; exact ⟨by rw [H.out]; rfl, rfl⟩
  · obtain ⟨n1, n2, n3, n4, n5⟩ := h2 hg
    have hcv : ∀ w, (convert 40 3 (.float .f64 x)).run Try.prog w = .ok (.int .i64 (intW x)) w := fun w => run_convert_float_int w _ _ .f64 .i64 _ _ (by rw [Try.underlying40]; rfl) Try.underlying3 n2
    have N1 := Lib.hid n1
    cases he : eqW x (trW x)
    · have H := Lib.hid (show wpM x = (0, false) from by simp [wpM, okW, hg, he])
      clear n1 n2 n3 n4 n5 h2 h
      unfold guardW leP at hg
      have he2 : (FloatKind.f64.format.order x (trW x) != some .eq) = true := by unfold eqW at he; simp [bne, he]
      clear he
      go_enter Try.func32, Try.ntmps32
      go_wp2_with fail
      refine (mabs_any x _).mono ?_
      rintro e w' ⟨rfl, rfl⟩
      generalize x % 9223372036854775808 = r1 at *
      go_wp2_with fail
      refine (mtrunc_any x N1.out _).mono ?_
      rintro e w' ⟨rfl, rfl⟩
      generalize trW x = r2 at *
      go_wp2
      go_ret2; exact ⟨by rw [H.out]; rfl, rfl⟩
    · have H := Lib.hid (show wpM x = (intW x, true) from by simp [wpM, okW, hg, he])
      clear n1 n2 n3 n4 n5 h2 h
      unfold guardW leP at hg
      have he2 : (FloatKind.f64.format.order x (trW x) != some .eq) = false := by unfold eqW at he; simp [bne, he]
      clear he
      go_enter Try.func32, Try.ntmps32
      go_wp2_with fail
      refine (mabs_any x _).mono ?_
      rintro e w' ⟨rfl, rfl⟩
      generalize x % 9223372036854775808 = r1 at *
      go_wp2_with fail
      refine (mtrunc_any x N1.out _).mono ?_
      rintro e w' ⟨rfl, rfl⟩
      generalize trW x = r2 at *
      go_wp2
      go_ret2; exact ⟨by rw [H.out]; rfl, rfl⟩

/-- what WideGauss answers -/
def gM (x y : Nat) : (Nat → Int) × Bool := if okW x && okW y then (gaussF (intW x) (intW y), true) else (fun _ => 0, false)
theorem wpM_snd (x : Nat) : (wpM x).2 = okW x := by unfold wpM; cases okW x <;> rfl
theorem wpM_fst {x : Nat} (h : okW x = true) : (wpM x).1 = intW x := by unfold wpM; rw [h]; rfl
set_option maxHeartbeats 1000000 in
theorem iWideGauss_any (x y : Nat) (hx : WPart x) (hy : WPart y) (w : World) : Calls Try.prog 9 #[.complex .f64 x y] w fun e w' => e = .returned (tupCB (gM x y)) ∧ Ext w w' := by
  have j0 := Blk.new w (cyc8 fun _ => 0) 27
  have x0 : Ext w (w.alloc (.cells (cyc8 fun _ => 0).toArray 27)) := by repeat (first | exact Ext.refl _ | assumption | refine Ext.drew ?_ | refine Ext.alloc ?_ _ | refine Ext.trans ?_ (by assumption))
  have hbld := buildCyc
  go_enter Try.func9, Try.ntmps9
  go_wp2_with fail
  refine (iwholePart_any x hx _).mono ?_
  rintro e w' ⟨rfl, rfl⟩
  rw [wpM_snd]
  go_wp2_with fail
  refine (iwholePart_any y hy _).mono ?_
  rintro e w' ⟨rfl, rfl⟩
  rw [wpM_snd]
  cases ox : okW x
  · have H := Lib.hid (show gM x y = (fun _ => 0, false) from by simp [gM, ox])
    go_wp2_with (refine store_cyc infoCyc (x := .tmp 2) (y := .tmp 26) w.heap.size (fun _ => 0) _ rfl rfl j0 rfl ?_)
    intro w3 k3 z3
    have x3 := z3.ext x0 (by omega)
    have c3 := k3.cell
    clear z3 x0 j0
    go_wp2
    exact bodyPost_ret (v := .tuple #[cycV fun _ => 0, .bool false]) (by simp [results, Try.results9, go_sem, c3]) rfl ⟨by rw [H.out]; rfl, x3⟩
  · cases oy : okW y
    · have H := Lib.hid (show gM x y = (fun _ => 0, false) from by simp [gM, oy])
      go_wp2_with (refine store_cyc infoCyc (x := .tmp 2) (y := .tmp 26) w.heap.size (fun _ => 0) _ rfl rfl j0 rfl ?_)
      intro w3 k3 z3
      have x3 := z3.ext x0 (by omega)
      have c3 := k3.cell
      clear z3 x0 j0
      go_wp2
      exact bodyPost_ret (v := .tuple #[cycV fun _ => 0, .bool false]) (by simp [results, Try.results9, go_sem, c3]) rfl ⟨by rw [H.out]; rfl, x3⟩
    · have H := Lib.hid (show gM x y = (gaussF (intW x) (intW y), true) from by simp [gM, ox, oy])
      rw [wpM_fst ox, wpM_fst oy]
      go_wp2_with fail
      refine (gauss_any (intW x) (intW y) _).mono ?_
      rintro e w2 ⟨rfl, x2⟩
      have j2 := j0.keep x2
      have y2 := x0.trans x2
      clear j0 x0 x2
      go_wp2_with (refine store_cyc infoCyc (x := .tmp 2) (y := .tmp 29) w.heap.size (gaussF (intW x) (intW y)) _ rfl rfl j2 rfl ?_)
      intro w3 k3 z3
      have x3 := z3.ext y2 (by omega)
      have c3 := k3.cell
      clear z3 y2 j2
      go_wp2
      exact bodyPost_ret (v := .tuple #[cycV (gaussF (intW x) (intW y)), .bool true]) (by simp [results, Try.results9, go_sem, c3]) rfl ⟨by rw [H.out]; rfl, x3⟩

end Go.Proofs.Ytfghjlngllanoaa
