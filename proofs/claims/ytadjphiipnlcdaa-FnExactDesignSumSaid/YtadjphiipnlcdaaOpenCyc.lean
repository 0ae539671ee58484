/- An exact point that came in: its value is eight integers. -/
import Derived.Test.YtadjphiipnlcdaaCyc
import Derived.ProofKit
import Derived.OpenShut
namespace Go.Proofs.Ytadjphiipnlcdaa
open Go.ChangeShapes Go.WideShapes Go.ChangeAt Go.RowKit
set_option linter.unusedVariables false
set_option maxRecDepth 100000


theorem list8 {α : Type} (l : List α) (h : l.length = 8) : ∃ a b c d e f g i, l = [a, b, c, d, e, f, g, i] := by
  match l, h with
  | [a, b, c, d, e, f, g, i], _ => exact ⟨a, b, c, d, e, f, g, i, rfl⟩
theorem cellsInt : Try.prog.cellsOf 3 = 1 := by kernel_rfl
theorem cellsArr : Try.prog.cellsOf 37 = 8 := by kernel_rfl
theorem cellsLCyc : Try.prog.cellsOf 43 = 8 := by kernel_rfl
set_option maxRecDepth 100000 in
theorem openCyc {H : Type} {enc : TypeId × Value → H} {W : World} {base b r} {sp : Nat → Bool} {held : Bool} {v : Value} {d : DataW H} {p : List MemPlace}
    (hv : Value.okWide Try.prog W r base 43 v) (h : DataW.Trod enc Try.prog W b sp held 43 v d p) : ∃ f, v = cycV f := by
  obtain ⟨cs, rfl, hsz⟩ := okWide_struct Try.underlying43 hv
  rw [cellsLCyc] at hsz
  obtain ⟨l⟩ := cs
  obtain ⟨c0, c1, c2, c3, c4, c5, c6, c7, rfl⟩ := list8 l (by simpa using hsz)
  obtain ⟨fuel, hf⟩ := h
  obtain ⟨y0, n, _, _, h0⟩ := trod_struct1 Try.underlying43 hf
  simp only [cellsArr, Value.cells] at h0
  obtain ⟨xs, m, _, _, _, hx, hg⟩ := DataW.trod_array Try.underlying37 h0
  simp only [cellsInt] at hg
  obtain ⟨x0, x1, x2, x3, x4, x5, x6, x7, rfl⟩ := list8 xs hx
  obtain ⟨a0, e0, _, _⟩ := DataW.trod_int Try.underlying3 (hg 0 (by omega))
  obtain ⟨a1, e1, _, _⟩ := DataW.trod_int Try.underlying3 (hg 1 (by omega))
  obtain ⟨a2, e2, _, _⟩ := DataW.trod_int Try.underlying3 (hg 2 (by omega))
  obtain ⟨a3, e3, _, _⟩ := DataW.trod_int Try.underlying3 (hg 3 (by omega))
  obtain ⟨a4, e4, _, _⟩ := DataW.trod_int Try.underlying3 (hg 4 (by omega))
  obtain ⟨a5, e5, _, _⟩ := DataW.trod_int Try.underlying3 (hg 5 (by omega))
  obtain ⟨a6, e6, _, _⟩ := DataW.trod_int Try.underlying3 (hg 6 (by omega))
  obtain ⟨a7, e7, _, _⟩ := DataW.trod_int Try.underlying3 (hg 7 (by omega))
  simp at e0 e1 e2 e3 e4 e5 e6 e7
  subst e0 e1 e2 e3 e4 e5 e6 e7
  exact ⟨fun j => [a0, a1, a2, a3, a4, a5, a6, a7].getD j 0, rfl⟩

end Go.Proofs.Ytadjphiipnlcdaa
