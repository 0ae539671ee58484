/- The laws on exact points (P8, P10, P11, P16): their walks. Written by mk_cyclaws.py. -/
import Derived.Test.YtadjphiipnlcdaaCycD
import Derived.Laws.StructEq
namespace Go.Proofs.Ytadjphiipnlcdaa
open Go.ChangeShapes Go.WideShapes Go.ChangeAt Go.RowKit
set_option linter.unusedVariables false
set_option maxRecDepth 100000

/-- two exact points are one -/
def eqF8 (f g : Nat → Int) : Bool := f 0 == g 0 && f 1 == g 1 && f 2 == g 2 && f 3 == g 3 && f 4 == g 4 && f 5 == g 5 && f 6 == g 6 && f 7 == g 7
theorem eqF8_self (f : Nat → Int) : eqF8 f f = true := by simp [eqF8]
theorem eqA (d : Nat) (f g : Nat → Int) (w : World) : (Op.equalIn (d + 2) 37 (cycV f) (cycV g)).run Try.prog w = .ok (eqF8 f g) w := by
  have u3 := Try.underlying3
  have a3 := Try.isAgg3
  have z3 := Try.sizeOf3
  rw [show d + 2 = (d + 1) + 1 from rfl, Op.equalIn]
  simp only [Sem.run_bind, run_underlying Try.underlying37, Result.andThen_ok]
  simp only [Std.Legacy.Range.forIn_eq_forIn_range', Std.Legacy.Range.size, Nat.sub_zero, Nat.add_sub_cancel, Nat.div_one, List.range'_succ, List.range'_zero, List.forIn_cons, List.forIn_nil]
  go_simp
  unfold eqF8
  (repeat' split) <;> simp_all
theorem eqC (f g : Nat → Int) (w : World) : (Op.equalIn 10000 39 (cycV f) (cycV g)).run Try.prog w = .ok (eqF8 f g) w := by
  have u3 := Try.underlying37
  have a3 := Try.isAgg37
  have z3 := Try.sizeOf37
  have hS : Try.prog.underlying 39 = some (.struct (Try.prog.fieldsOf 39)) := by kernel_rfl
  have hp : Try.prog.stoodInHeld 39 = false := by kernel_rfl
  have ha := eqA 9997 f g
  rw [show (10000 : Nat) = 9999 + 1 from rfl, run_equalIn_agg w 9999 39 _ _ hS hp]
  simp only [Program.fieldsOf, Try.underlying39]
  go_simp
  cases eqF8 f g <;> rfl

theorem cycOk_neg {f : Nat → Int} (h : cycOk f = true) : cycOk (fun j => - f j) = true := by
  have b := cycOk_bd h
  have b0 := b 0 (by omega); have b1 := b 1 (by omega); have b2 := b 2 (by omega); have b3 := b 3 (by omega)
  have b4 := b 4 (by omega); have b5 := b 5 (by omega); have b6 := b 6 (by omega); have b7 := b 7 (by omega)
  simp only [cycOk, Bool.and_eq_true]
  exact ⟨⟨⟨⟨⟨⟨⟨inR_true (by omega) (by omega), inR_true (by omega) (by omega)⟩, inR_true (by omega) (by omega)⟩, inR_true (by omega) (by omega)⟩, inR_true (by omega) (by omega)⟩, inR_true (by omega) (by omega)⟩, inR_true (by omega) (by omega)⟩, inR_true (by omega) (by omega)⟩
theorem scaleM_neg {f : Nat → Int} (h : cycOk f = true) : scaleM f (-1) = (fun j => - f j, true) := by
  have e : (fun j => f j * -1) = fun j => - f j := by funext j; omega
  have r : inR (-1000000) 1000000 (-1) = true := by decide
  simp only [scaleM, h, r, e, Bool.and_self, if_true, doneM, cycOk_neg h]
theorem addM_ok {f g h : Nat → Int} (hf : cycOk f = true) (hg : cycOk g = true) (e : (fun j => f j + g j) = h) (hh : cycOk h = true) : addM f g = (h, true) := by
  simp [addM, hf, hg, doneM, e, hh]
theorem lessM_ok {f g h : Nat → Int} (hf : cycOk f = true) (hg : cycOk g = true) (e : (fun j => f j - g j) = h) (hh : cycOk h = true) : lessM f g = (h, true) := by
  simp [lessM, hf, hg, doneM, e, hh]
theorem addM_no {f g : Nat → Int} (h : (cycOk f && cycOk g && cycOk (fun j => f j + g j)) = false) : addM f g = (fun _ => 0, false) := by
  cases h1 : cycOk f <;> cases h2 : cycOk g <;> cases h3 : cycOk (fun j => f j + g j) <;> simp_all [addM, doneM]
theorem lessM_no {f g : Nat → Int} (h : (cycOk f && cycOk g && cycOk (fun j => f j - g j)) = false) : lessM f g = (fun _ => 0, false) := by
  cases h1 : cycOk f <;> cases h2 : cycOk g <;> cases h3 : cycOk (fun j => f j - g j) <;> simp_all [lessM, doneM]
theorem scaleM_no {f : Nat → Int} {n : Int} (h : (cycOk f && inR (-1000000) 1000000 n && cycOk (fun j => f j * n)) = false) : scaleM f n = (fun _ => 0, false) := by
  cases h1 : cycOk f <;> cases h2 : inR (-1000000) 1000000 n <;> cases h3 : cycOk (fun j => f j * n) <;> simp_all [scaleM, doneM]

end Go.Proofs.Ytadjphiipnlcdaa
