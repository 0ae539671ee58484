/- A list of wheels that came in: each wheel is nine integers. -/
import Derived.Test.YtadjphiipnlcdaaWhlB
import Derived.Test.YtadjphiipnlcdaaOpenCyc
import Derived.Deep.Slices
import Derived.ProofKit
import Derived.OpenShut
namespace Go.Proofs.Ytadjphiipnlcdaa
open Go.ChangeShapes Go.WideShapes Go.ChangeAt Go.RowKit
set_option linter.unusedVariables false
set_option maxRecDepth 100000


theorem list9 {α : Type} (l : List α) (h : l.length = 9) : ∃ z a b c d e f g i, l = [z, a, b, c, d, e, f, g, i] := by
  match l, h with
  | [z, a, b, c, d, e, f, g, i], _ => exact ⟨z, a, b, c, d, e, f, g, i, rfl⟩
theorem cellsLWh : Try.prog.cellsOf 45 = 9 := by kernel_rfl
set_option maxRecDepth 100000 in
theorem openRow {H : Type} {enc : TypeId × Value → H} {W : World} {b n} {sp : Nat → Bool} {held : Bool} {cs : List Value} {x : DataW H × List MemPlace} (hl : cs.length = 9)
    (hf : DataW.trod enc Try.prog W b sp held n 45 cs = some x) : ∃ F, cs = wh9 F := by
  obtain ⟨c0, c1, c2, c3, c4, c5, c6, c7, c8, rfl⟩ := list9 cs hl
  obtain ⟨y0, y1, m, _, _, h0, h1⟩ := trod_struct2 Try.underlying45 hf
  simp only [cellsInt, cellsLCyc] at h0 h1
  obtain ⟨s, es, _, _⟩ := DataW.trod_int Try.underlying3 h0
  obtain ⟨y2, m2, _, _, h2⟩ := trod_struct1 Try.underlying43 h1
  simp only [cellsArr] at h2
  obtain ⟨xs, m3, _, _, _, hx, hg⟩ := DataW.trod_array Try.underlying37 h2
  simp only [cellsInt] at hg
  obtain ⟨x0, x1, x2, x3, x4, x5, x6, x7, rfl⟩ := list8 xs hx
  obtain ⟨a0, e0, _, _⟩ := DataW.trod_int Try.underlying3 (hg 0 (by omega))
  obtain ⟨a1, e1, _, _⟩ := DataW.trod_int Try.underlying3 (hg 1 (by omega))
  obtain ⟨a2, e2, _, _⟩ := DataW.trod_int Try.underlying3 (hg 2 (by omega))
  obtain ⟨a3, e3, _, _⟩ := DataW.trod_int Try.underlying3 (hg 3 (by omega))
  obtain ⟨a4, e4, _, _⟩ := DataW.trod_int Try.underlying3 (hg 4 (by omega))
  obtain ⟨a5, e5, _, _⟩ := DataW.trod_int Try.underlying3 (hg 5 (by omega))
  obtain ⟨a6, e6, _, _⟩ := DataW.trod_int Try.underlying3 (hg 6 (by omega))
  obtain ⟨a7, e7, _, _⟩ := DataW.trod_int Try.underlying3 (hg 7 (by omega))
  simp at es e0 e1 e2 e3 e4 e5 e6 e7
  subst es e0 e1 e2 e3 e4 e5 e6 e7
  exact ⟨fun j => [s, a0, a1, a2, a3, a4, a5, a6, a7].getD j 0, rfl⟩
set_option maxRecDepth 100000 in
theorem openWheels {H : Type} {enc : TypeId × Value → H} {W : World} {base b r} {sp : Nat → Bool} {held : Bool} {v : Value} {d : DataW H} {p : List MemPlace}
    (hv : Value.okWide Try.prog W r base 22 v) (h : DataW.Trod enc Try.prog W b sp held 22 v d p) :
    ∃ a n cap G, v = .slice a n cap ∧ n ≤ cap ∧ cap ≤ maxLen ∧ Whs W a n G := by
  obtain ⟨a, n, cap, rfl⟩ := okWide_slice Try.underlying22 hv
  obtain ⟨fuel, hf⟩ := h
  rcases Go.Deep.open_slice Try.underlying22 hf with ⟨hcs, _⟩ | ⟨x, len, c, m, k, D, Pl, hcs, _, hl, hm, hmm, _, hx⟩
  · simp [Value.cells] at hcs
    obtain ⟨rfl, rfl, rfl⟩ := hcs
    exact ⟨none, 0, 0, fun _ _ => 0, rfl, Nat.le_refl _, by unfold maxLen; omega, .inl rfl⟩
  · simp [Value.cells] at hcs
    obtain ⟨rfl, rfl, rfl⟩ := hcs
    have hnm : n ≤ m := by rw [hmm]; split <;> omega
    obtain ⟨G, hG⟩ := Go.Deep.choose_lt (α := Nat → Int) (n := n) (p := fun i F => W.cells? b (x.add (i * 9)) 9 = some (wh9 F)) (fun i hi => by
      obtain ⟨cs, h1, h2⟩ := hx i (by omega)
      rw [cellsLWh] at h1
      obtain ⟨_, hlen, _⟩ := World.cells?_some h1
      obtain ⟨F, rfl⟩ := openRow hlen h2
      exact ⟨F, h1⟩)
    refine ⟨some x, n, cap, G, rfl, hl, hm, ?_⟩
    by_cases h0 : n = 0
    · exact .inl h0
    · obtain ⟨bb, off, spot⟩ := x
      have hrow : ∀ i, i < n → ∀ c, c < 9 → W.cell? (((⟨bb, off, spot⟩ : Addr).add (i * 9)).add c) = some (.int .i64 (G i c)) := fun i hi c hc => by
        obtain ⟨_, _, h3⟩ := World.cells?_some (hG i hi)
        rw [h3 c hc]
        obtain rfl | rfl | rfl | rfl | rfl | rfl | rfl | rfl | rfl : c = 0 ∨ c = 1 ∨ c = 2 ∨ c = 3 ∨ c = 4 ∨ c = 5 ∨ c = 6 ∨ c = 7 ∨ c = 8 := by omega
        all_goals rfl
      have hc := hrow 0 (by omega) 0 (by omega)
      have hspot : spot = none := by simpa [Addr.add] using World.cell?_spot hc
      subst hspot
      refine .inr ⟨bb, off, rfl, ?_, fun i hi c hc9 => ?_⟩
      · simp only [addr_add, World.cell?] at hc
        cases hb : W.heap[bb]? with
        | none => simp [hb] at hc
        | some o => exact (Array.getElem?_eq_some_iff.1 hb).1
      · have := hrow i hi c hc9
        rw [addr_add, addr_add] at this
        exact this

end Go.Proofs.Ytadjphiipnlcdaa
