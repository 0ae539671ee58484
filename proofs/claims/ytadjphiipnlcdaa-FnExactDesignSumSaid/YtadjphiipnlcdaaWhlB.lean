/- Wheels: lists of wheels: valid. -/
import Derived.Test.YtadjphiipnlcdaaWhlA
namespace Go.Proofs.Ytadjphiipnlcdaa
open Go.ChangeShapes Go.WideShapes Go.ChangeAt Go.RowKit
set_option linter.unusedVariables false
set_option maxRecDepth 100000


/-- n wheels lie from an address on -/
def Whs (w : World) (a : Option Addr) (n : Nat) (G : Nat → Nat → Int) : Prop :=
  n = 0 ∨ ∃ b off, a = some ⟨b, off, none⟩ ∧ b < w.heap.size ∧ ∀ i, i < n → ∀ c, c < 9 → w.cell? ⟨b, off + i * 9 + c, none⟩ = some (.int .i64 (G i c))
theorem cell_of_heapW {w w' : World} {b o : Nat} (h : w'.heap[b]? = w.heap[b]?) : w'.cell? ⟨b, o, none⟩ = w.cell? ⟨b, o, none⟩ := by
  simp [World.cell?, h]
theorem Whs.keepB {w w' : World} {a : Option Addr} {n R : Nat} {G : Nat → Nat → Int} (h : Whs w a n G) (k : ExtB R w w') (hR : n = 0 ∨ ∀ b off, a = some ⟨b, off, none⟩ → b ≠ R) : Whs w' a n G := by
  rcases h with h | ⟨b, off, rfl, hb, hc⟩
  · exact .inl h
  · rcases hR with hR | hR
    · exact .inl hR
    · exact .inr ⟨b, off, rfl, Nat.lt_of_lt_of_le hb k.size, fun i hi c h9 => (cell_of_heapW (k.2.2.2.2 b hb (hR b off rfl))).trans (hc i hi c h9)⟩
theorem Whs.keep {w w' : World} {a : Option Addr} {n : Nat} {G : Nat → Nat → Int} (h : Whs w a n G) (k : Ext w w') : Whs w' a n G := by
  rcases h with h | ⟨b, off, rfl, hb, hc⟩
  · exact .inl h
  · exact .inr ⟨b, off, rfl, Nat.lt_of_lt_of_le hb k.size, fun i hi c h9 => (cell_of_heapW (Below.block k b hb)).trans (hc i hi c h9)⟩
theorem Whs.less {w : World} {a : Option Addr} {n m : Nat} {G : Nat → Nat → Int} (h : Whs w a n G) (hm : m ≤ n) : Whs w a m G := by
  rcases h with h | ⟨b, off, rfl, hb, hc⟩
  · exact .inl (by omega)
  · exact .inr ⟨b, off, rfl, hb, fun i hi => hc i (by omega)⟩
/-- what a load of a wheel's parts wants -/
theorem row9 {w : World} {b o : Nat} {F : Nat → Int} (h : ∀ c, c < 9 → w.cell? ⟨b, o + c, none⟩ = some (.int .i64 (F c))) : ∀ j v, ((wh9 F).toArray)[j]? = some v → w.cell? ⟨b, o + j, none⟩ = some v := by
  intro j v hv
  by_cases hj : j < 9
  · rw [h j hj, ← hv]
    obtain rfl | rfl | rfl | rfl | rfl | rfl | rfl | rfl | rfl : j = 0 ∨ j = 1 ∨ j = 2 ∨ j = 3 ∨ j = 4 ∨ j = 5 ∨ j = 6 ∨ j = 7 ∨ j = 8 := by omega
    all_goals rfl
  · rw [Array.getElem?_eq_none (by simp; omega)] at hv
    cases hv
theorem row8 {w : World} {b o : Nat} {F : Nat → Int} (h : ∀ c, c < 9 → w.cell? ⟨b, o + c, none⟩ = some (.int .i64 (F c))) : ∀ j v, ((cyc8 (tl F)).toArray)[j]? = some v → w.cell? ⟨b, o + 1 + j, none⟩ = some v := by
  intro j v hv
  by_cases hj : j < 8
  · rw [show o + 1 + j = o + (j + 1) from by omega, h (j + 1) (by omega), ← hv]
    obtain rfl | rfl | rfl | rfl | rfl | rfl | rfl | rfl : j = 0 ∨ j = 1 ∨ j = 2 ∨ j = 3 ∨ j = 4 ∨ j = 5 ∨ j = 6 ∨ j = 7 := by omega
    all_goals rfl
  · rw [Array.getElem?_eq_none (by simp; omega)] at hv
    cases hv
theorem cells8 {w : World} {b o : Nat} {F : Nat → Int} (h : ∀ c, c < 9 → w.cell? ⟨b, o + c, none⟩ = some (.int .i64 (F c))) :
    w.cell? ⟨b, o, none⟩ = some (.int .i64 (F 0)) ∧ w.cell? ⟨b, o + 1, none⟩ = some (.int .i64 (F 1)) ∧ w.cell? ⟨b, o + 1 + 1, none⟩ = some (.int .i64 (F 2)) ∧ w.cell? ⟨b, o + 1 + 2, none⟩ = some (.int .i64 (F 3)) ∧ w.cell? ⟨b, o + 1 + 3, none⟩ = some (.int .i64 (F 4)) ∧
    w.cell? ⟨b, o + 1 + 4, none⟩ = some (.int .i64 (F 5)) ∧ w.cell? ⟨b, o + 1 + 5, none⟩ = some (.int .i64 (F 6)) ∧ w.cell? ⟨b, o + 1 + 6, none⟩ = some (.int .i64 (F 7)) ∧ w.cell? ⟨b, o + 1 + 7, none⟩ = some (.int .i64 (F 8)) :=
  ⟨h 0 (by omega), h 1 (by omega), h 2 (by omega), h 3 (by omega), h 4 (by omega), h 5 (by omega), h 6 (by omega), h 7 (by omega), h 8 (by omega)⟩
def validM (n : Nat) (G : Nat → Nat → Int) : Bool := decide (n ≤ 12) && (List.range n).all fun i => whOk (G i)
theorem validM_true {n : Nat} {G : Nat → Nat → Int} (h1 : n ≤ 12) (h2 : ∀ i, i < n → whOk (G i) = true) : validM n G = true := by
  simp [validM, h1]; exact h2
theorem validM_big {n : Nat} {G : Nat → Nat → Int} (h1 : 12 < n) : validM n G = false := by
  simp [validM]; omega
theorem validM_bad {n : Nat} {G : Nat → Nat → Int} {k : Nat} (hk : k < n) (h2 : whOk (G k) = false) : validM n G = false := by
  simp [validM]; intro _; exact ⟨k, hk, h2⟩

set_option maxHeartbeats 1000000 in
theorem sDesignValid_any (a : Option Addr) (n cap : Nat) (G : Nat → Nat → Int) (w : World) (hc : n ≤ cap) (hm : n ≤ 1048576) (h : Whs w a n G) :
    Calls Try.prog 20 #[.slice a n cap] w fun e w' => e = .returned (.bool (validM n G)) ∧ Ext w w' := by
  by_cases h12 : 12 < n
  · rw [validM_big h12]
    go_enter Try.func20, Try.ntmps20
    go_wp2
    go_ret
    exact ⟨rfl, Ext.refl _⟩
  · go_enter Try.func20, Try.ntmps20
    go_wp2
    go_loopw [3] (fun i wr => ∃ k : Nat, k ≤ n ∧ i = .int .i64 k ∧ (∀ i, i < k → whOk (G i) = true) ∧ Ext w wr) (fun i _ => n - (intOf i).toNat)
    case atStart => exact ⟨0, by omega, rfl, by omega, Ext.refl _⟩
    case round =>
      obtain ⟨k, hk, rfl, hp, x1⟩ := hrel
      have hw := h.keep x1
      by_cases hlt : k < n
      · rcases hw with hw | ⟨b, off, rfl, hb, hcell⟩
        · omega
        · obtain ⟨c0, c1, c2, c3, c4, c5, c6, c7, c8⟩ := cells8 (hcell k hlt)
          have P := Lib.hid hp
          clear hp hcell h
          by_cases h0 : inR (-1000) 1000 (G k 0) = true
          · go_wp2_with (first | (go_at_call 35; ((with_reducible refine (l6In_any _ _ _ _).mono ?_); rintro e w' ⟨rfl, rfl⟩)) | fail)
            refine (sCycValid_any (tl (G k)) _).mono ?_
            rintro e w2 ⟨rfl, x2⟩
            have y2 := x1.trans x2
            have e0 : whOk (G k) = cycOk (tl (G k)) := by simp [whOk, h0]
            clear x1 x2 c0 c1 c2 c3 c4 c5 c6 c7 c8 h0
            by_cases hv : cycOk (tl (G k)) = true
            · have e1 := Lib.hid (e0.trans hv)
              clear e0
              go_wp2_with fail
              go_roundw
              case rel => exact ⟨k + 1, by omega, by go_num, fun i hi => by
                by_cases h2 : i = k
                · subst h2; exact e1.out
                · exact P.out i (by omega), y2⟩
              case measure => simp [intOf]; omega
            · have hv' : cycOk (tl (G k)) = false := by simpa using hv
              have e1 := validM_bad hlt (e0.trans hv')
              clear e0 hv
              go_wp2_with fail
              go_ret
              exact ⟨by rw [e1]; rfl, y2⟩
          · have h0' : inR (-1000) 1000 (G k 0) = false := by simpa using h0
            have e1 := validM_bad (G := G) hlt (show whOk (G k) = false by simp [whOk, h0'])
            clear h0
            go_wp2_with (first | (go_at_call 35; ((with_reducible refine (l6In_any _ _ _ _).mono ?_); rintro e w' ⟨rfl, rfl⟩)) | fail)
            go_ret
            exact ⟨by rw [e1]; rfl, x1⟩
      · have hk8 : k = n := by omega
        subst hk8
        have e1 := validM_true (G := G) (by omega) hp
        clear hp h hw
        go_wp2
        go_ret
        exact ⟨by rw [e1]; rfl, x1⟩

end Go.Proofs.Ytadjphiipnlcdaa
