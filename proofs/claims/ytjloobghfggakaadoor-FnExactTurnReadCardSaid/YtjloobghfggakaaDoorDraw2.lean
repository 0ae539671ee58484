/- Contracts of the draws (spec's DrawX): what they return lies in small ranges; only new blocks are made. -/
import Derived.Test.YtjloobghfggakaaDoorDraw
import Derived.Deep.RegionWith
namespace Go.Proofs.YtjloobghfggakaaDoor
open Go.ChangeShapes Go.WideShapes Go.ChangeAt Go.RowKit
set_option linter.unusedVariables false


/-- what a slice of bytes that came in is good for -/
def CodeOk (w : World) (a : Option Addr) (len cap : Nat) : Prop :=
  len ≤ cap ∧ cap ≤ maxLen ∧ (len = 0 ∨ ∃ b off, a = some ⟨b, off, none⟩ ∧ b < w.heap.size ∧ ∀ i, i < len → ∃ z : Int, w.cell? ⟨b, off + i, none⟩ = some (.int .u8 z) ∧ 0 ≤ z ∧ z ≤ 255)
theorem codeOk_of {w : World} {x : Addr} {len cap : Nat} {zs : List Int} (hl : len ≤ cap) (hm : cap ≤ maxLen) (hz : zs.length = cap)
    (hcell : ∀ i, i < zs.length → w.cell? (x.add i) = some (.int .u8 (zs.getD i 0))) (hwz : ∀ n ∈ zs, (Lit.int .u8 n).wf = true) : CodeOk w (some x) len cap := by
  refine ⟨hl, hm, ?_⟩
  by_cases h0 : len = 0
  · exact .inl h0
  · obtain ⟨b, off, spot⟩ := x
    have hc := hcell 0 (by omega)
    have hspot : spot = none := by simpa [Addr.add] using World.cell?_spot hc
    subst hspot
    refine .inr ⟨b, off, rfl, ?_, fun i hi => ⟨zs.getD i 0, ?_, ?_⟩⟩
    · simp only [Addr.add, World.cell?] at hc
      cases hb : w.heap[b]? with
      | none => simp [hb] at hc
      | some o => exact (Array.getElem?_eq_some_iff.1 hb).1
    · have := hcell i (by omega)
      by_cases hi0 : i = 0
      · subst hi0; simpa [Addr.add] using this
      · simpa [Addr.add, hi0] using this
    · have h' : i < zs.length := by omega
      have hmem : zs.getD i 0 ∈ zs := by rw [List.getD_eq_getElem?_getD, List.getElem?_eq_getElem h']; exact List.getElem_mem h'
      have hw := hwz (zs.getD i 0) hmem
      have hmin : IntKind.u8.min = 0 := rfl
      have hmax : IntKind.u8.max = 255 := rfl
      simp only [Lit.wf, Bool.and_eq_true, decide_eq_true_eq] at hw
      omega
theorem codeOk_nil (w : World) : CodeOk w none 0 0 := ⟨Nat.le_refl _, by unfold maxLen; omega, .inl rfl⟩
/-- what opening a code comes to: a new reader at place 0 -/
def Opened (w : World) (e : Ending) (w' : World) : Prop :=
  ∃ R, e = .returned (.pointer (some ⟨R, 0, none⟩)) ∧ w.heap.size ≤ R ∧ RdOk w' R 0 ∧ Ext w w'
theorem opened {w : World} {a : Option Addr} {len cap m c : Nat} (h : CodeOk w a len cap) (hm : m ≤ len) (h2 : m ≤ 2000) (T : TypeId) (v : Value) (hv : v = .slice a m c) :
    RdOk (w.alloc (.cells #[v, .int .i64 0] T)) w.heap.size 0 := by
  subst hv
  obtain ⟨h1, _, h3⟩ := h
  refine ⟨a, m, c, Blk.new w [.slice a m c, .int .i64 0] T, h2, ?_⟩
  rcases h3 with h3 | ⟨b, off, rfl, hb, h3⟩
  · exact .inl (by omega)
  · refine .inr ⟨b, off, rfl, by omega, by have := ((Ext.refl w).alloc (.cells #[.slice (some ⟨b, off, none⟩) m c, .int .i64 0] T)).size; omega, fun i hi => ?_⟩
    obtain ⟨z, hz, z1, z2⟩ := h3 i (by omega)
    exact ⟨z, (cell_of_heap (Below.heap_alloc w _ b hb)).trans hz, z1, z2⟩
set_option maxRecDepth 100000 in
theorem l6Open_any (a : Option Addr) (len cap : Nat) (w : World) (h : CodeOk w a len cap) :
    Calls Tryd.prog 20 #[.slice a len cap] w (Opened w) := by
  have hl := h.1
  have hm := h.2.1
  unfold maxLen at hm
  by_cases h0 : 2000 < len
  · go_enter Tryd.func20, Tryd.ntmps20
    go_wp2
    go_ret
    exact ⟨_, rfl, Nat.le_refl _, opened (m := 2000) h (by omega) (by omega) _ _ rfl, (Ext.refl w).alloc _⟩
  · go_enter Tryd.func20, Tryd.ntmps20
    go_wp2
    go_ret
    exact ⟨_, rfl, Nat.le_refl _, opened (m := len) h (by omega) (by omega) _ _ rfl, (Ext.refl w).alloc _⟩

/-- a turn, or seldom another small number, drawn -/
def DrawnInt (lo hi : Int) (k R p : Nat) (w : World) (e : Ending) (w' : World) : Prop :=
  ∃ v : Int, lo ≤ v ∧ v ≤ hi ∧ e = .returned (.int .i64 v) ∧ (∃ q, p ≤ q ∧ q ≤ p + k ∧ RdOk w' R q) ∧ ExtB R w w'
set_option maxRecDepth 100000 in
set_option maxHeartbeats 400000 in
theorem l91Turn_any (p R : Nat) (w : World) (hp : p ≤ 900000) (h : RdOk w R p) :
    Calls Tryd.prog 19 #[.pointer (some ⟨R, 0, none⟩)] w (DrawnInt (-1) 100 2 R p w) := by
  go_enter Tryd.func19, Tryd.ntmps19
  go_wp2_with fail
  refine (pick_any 20 p R _ (by omega) (by omega) (by omega) h).mono ?_
  rintro e w1 ⟨v, v1, v2, rfl, k1, x1⟩
  by_cases h0 : v = 0
  · subst h0
    go_wp2_with fail
    have b1 := Blk.new w1 [.int .i64 (-1), .int .i64 24, .int .i64 100] 3
    have hlt := k1.lt
    refine (pick_any 3 (p + 1) R _ (by omega) (by omega) (by omega) (k1.keep ((Ext.refl w1).alloc _))).mono ?_
    rintro e w2 ⟨u, u1, u2, rfl, k2, x2⟩
    have b2 := (b1.keepB x2 (by omega)).cell
    have x3 : ExtB R w w2 := x1.trans ((((Ext.refl w1).alloc _).toB R).trans x2)
    clear b1 k1 x1 x2 h
    obtain rfl | rfl | rfl : u = 0 ∨ u = 1 ∨ u = 2 := by omega
    all_goals
      go_wp2_with fail
      go_ret
      exact ⟨_, by omega, by omega, rfl, ⟨_, by omega, by omega, k2⟩, x3⟩
  · go_wp2_with fail
    refine (pick_any 24 (p + 1) R _ (by omega) (by omega) (by omega) k1).mono ?_
    rintro e w2 ⟨u, u1, u2, rfl, k2, x2⟩
    go_wp2_with fail
    go_ret
    exact ⟨_, by omega, by omega, rfl, ⟨_, by omega, by omega, k2⟩, x1.trans x2⟩

/-- two numbers drawn -/
def DrawnTwo (l1 h1 l2 h2 : Int) (w : World) (e : Ending) (w' : World) : Prop :=
  ∃ x y : Int, e = .returned (.tuple #[.int .i64 x, .int .i64 y]) ∧ l1 ≤ x ∧ x ≤ h1 ∧ l2 ≤ y ∧ y ≤ h2 ∧ Ext w w'
/-- one number drawn -/
def DrawnOne (l1 h1 : Int) (w : World) (e : Ending) (w' : World) : Prop :=
  ∃ x : Int, e = .returned (.int .i64 x) ∧ l1 ≤ x ∧ x ≤ h1 ∧ Ext w w'

end Go.Proofs.YtjloobghfggakaaDoor
