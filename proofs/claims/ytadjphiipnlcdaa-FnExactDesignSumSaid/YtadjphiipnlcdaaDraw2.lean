/- Contracts of the draws (spec's DrawX): what they return lies in small ranges; only new blocks are made. -/
import Derived.Test.YtadjphiipnlcdaaDraw
import Derived.Deep.RegionWith
namespace Go.Proofs.Ytadjphiipnlcdaa
open Go.ChangeShapes Go.WideShapes Go.ChangeAt Go.RowKit
set_option linter.unusedVariables false
set_option maxRecDepth 100000


/-- what a slice of bytes that came in is good for -/
def CodeOk (w : World) (a : Option Addr) (len cap : Nat) : Prop :=
  len ≤ cap ∧ cap ≤ maxLen ∧ (len = 0 ∨ ∃ b off, a = some ⟨b, off, none⟩ ∧ b < w.heap.size ∧ ∀ i, i < len → ∃ z : Int, w.cell? ⟨b, off + i, none⟩ = some (.int .u8 z) ∧ 0 ≤ z ∧ z ≤ 255)
theorem codeOk_of {w : World} {x : Addr} {len cap : Nat} {zs : List Int} (hl : len ≤ cap) (hm : cap ≤ maxLen) (hz : zs.length = cap)
    (hcell : ∀ i, i < zs.length → w.cell? (x.add i) = some (.int .u8 (zs.getD i 0))) (hwz : ∀ n ∈ zs, (Lit.int .u8 n).wf = true) : CodeOk w (some x) len cap := by
  refine ⟨hl, hm, ?_⟩
  by_cases h0 : len = 0
  · exact .inl h0
  · obtain ⟨b, off, spot⟩ := x
    have hc := hcell 0 (by omega)
    have hspot : spot = none := by simpa [Addr.add] using World.cell?_spot hc
    subst hspot
    refine .inr ⟨b, off, rfl, ?_, fun i hi => ⟨zs.getD i 0, ?_, ?_⟩⟩
    · simp only [Addr.add, World.cell?] at hc
      cases hb : w.heap[b]? with
      | none => simp [hb] at hc
      | some o => exact (Array.getElem?_eq_some_iff.1 hb).1
    · have := hcell i (by omega)
      by_cases hi0 : i = 0
      · subst hi0; simpa [Addr.add] using this
      · simpa [Addr.add, hi0] using this
    · have h' : i < zs.length := by omega
      have hmem : zs.getD i 0 ∈ zs := by rw [List.getD_eq_getElem?_getD, List.getElem?_eq_getElem h']; exact List.getElem_mem h'
      have hw := hwz (zs.getD i 0) hmem
      have hmin : IntKind.u8.min = 0 := rfl
      have hmax : IntKind.u8.max = 255 := rfl
      simp only [Lit.wf, Bool.and_eq_true, decide_eq_true_eq] at hw
      omega
theorem codeOk_nil (w : World) : CodeOk w none 0 0 := ⟨Nat.le_refl _, by unfold maxLen; omega, .inl rfl⟩
/-- what opening a code comes to: a new reader at place 0 -/
def Opened (w : World) (e : Ending) (w' : World) : Prop :=
  ∃ R, e = .returned (.pointer (some ⟨R, 0, none⟩)) ∧ w.heap.size ≤ R ∧ RdOk w' R 0 ∧ Ext w w'
theorem opened {w : World} {a : Option Addr} {len cap m c : Nat} (h : CodeOk w a len cap) (hm : m ≤ len) (h2 : m ≤ 2000) (T : TypeId) (v : Value) (hv : v = .slice a m c) :
    RdOk (w.alloc (.cells #[v, .int .i64 0] T)) w.heap.size 0 := by
  subst hv
  obtain ⟨h1, _, h3⟩ := h
  refine ⟨a, m, c, Blk.new w [.slice a m c, .int .i64 0] T, h2, ?_⟩
  rcases h3 with h3 | ⟨b, off, rfl, hb, h3⟩
  · exact .inl (by omega)
  · refine .inr ⟨b, off, rfl, by omega, by have := ((Ext.refl w).alloc (.cells #[.slice (some ⟨b, off, none⟩) m c, .int .i64 0] T)).size; omega, fun i hi => ?_⟩
    obtain ⟨z, hz, z1, z2⟩ := h3 i (by omega)
    exact ⟨z, (cell_of_heap (Below.heap_alloc w _ b hb)).trans hz, z1, z2⟩
set_option maxRecDepth 100000 in
theorem l6Open_any (a : Option Addr) (len cap : Nat) (w : World) (h : CodeOk w a len cap) :
    Calls Try.prog 42 #[.slice a len cap] w (Opened w) := by
  have hl := h.1
  have hm := h.2.1
  unfold maxLen at hm
  by_cases h0 : 2000 < len
  · go_enter Try.func42, Try.ntmps42
    go_wp2
    go_ret
    exact ⟨_, rfl, Nat.le_refl _, opened (m := 2000) h (by omega) (by omega) _ _ rfl, (Ext.refl w).alloc _⟩
  · go_enter Try.func42, Try.ntmps42
    go_wp2
    go_ret
    exact ⟨_, rfl, Nat.le_refl _, opened (m := len) h (by omega) (by omega) _ _ rfl, (Ext.refl w).alloc _⟩

/-- two numbers drawn -/
def DrawnTwo (l1 h1 l2 h2 : Int) (w : World) (e : Ending) (w' : World) : Prop :=
  ∃ x y : Int, e = .returned (.tuple #[.int .i64 x, .int .i64 y]) ∧ l1 ≤ x ∧ x ≤ h1 ∧ l2 ≤ y ∧ y ≤ h2 ∧ Ext w w'
/-- one number drawn -/
def DrawnOne (l1 h1 : Int) (w : World) (e : Ending) (w' : World) : Prop :=
  ∃ x : Int, e = .returned (.int .i64 x) ∧ l1 ≤ x ∧ x ≤ h1 ∧ Ext w w'

end Go.Proofs.Ytadjphiipnlcdaa
