/- Wheels, plain: orders; a list's wheel is written. -/
import Derived.Test.YtadjphiipnlcdaaWhlI
namespace Go.Proofs.Ytadjphiipnlcdaa
open Go.ChangeShapes Go.WideShapes Go.ChangeAt Go.RowKit
set_option linter.unusedVariables false
set_option maxRecDepth 100000


/-- H holds what G holds, in another order -/
def Prm (n : Nat) (G H : Nat → Nat → Int) : Prop :=
  ∃ f : Nat → Nat, (∀ i, i < n → f i < n ∧ ∀ c, c < 9 → H i c = G (f i) c) ∧ (∀ i j, i < n → j < n → f i = f j → i = j) ∧ (∀ p, p < n → ∃ i, i < n ∧ f i = p)
theorem Prm.refl (n : Nat) (G : Nat → Nat → Int) : Prm n G G := ⟨fun i => i, fun i hi => ⟨hi, fun _ _ => rfl⟩, fun i j _ _ e => e, fun p hp => ⟨p, hp, rfl⟩⟩
def swpI (q i : Nat) : Nat := if i = q then q + 1 else if i = q + 1 then q else i
/-- two neighbours change places -/
def swp (q : Nat) (G : Nat → Nat → Int) : Nat → Nat → Int := fun i => if i = q then G (q + 1) else if i = q + 1 then G q else G i
theorem swp_eq (q : Nat) (G : Nat → Nat → Int) (i : Nat) : swp q G i = G (swpI q i) := by
  unfold swp swpI; split
  · rfl
  · split <;> rfl
theorem Prm.swp {n q : Nat} {G H : Nat → Nat → Int} (h : Prm n G H) (hq : q + 1 < n) : Prm n G (swp q H) := by
  obtain ⟨f, h1, h2, h3⟩ := h
  have b : ∀ i, i < n → swpI q i < n := fun i hi => by unfold swpI; split <;> (try split) <;> omega
  have inv : ∀ i, swpI q (swpI q i) = i := fun i => by unfold swpI; (repeat' split) <;> omega
  refine ⟨fun i => f (swpI q i), fun i hi => ⟨(h1 _ (b i hi)).1, fun c hc => by rw [swp_eq, (h1 _ (b i hi)).2 c hc]⟩, fun i j hi hj e => ?_, fun p hp => ?_⟩
  · have := h2 _ _ (b i hi) (b j hj) e
    rw [← inv i, this, inv]
  · obtain ⟨i, hi, e⟩ := h3 p hp
    exact ⟨swpI q i, b i hi, by show f (swpI q (swpI q i)) = p; rw [inv, e]⟩
/-- the first i speeds do not descend -/
def Srt (i : Nat) (G : Nat → Nat → Int) : Prop := ∀ p q, p < q → q < i → G p 0 ≤ G q 0
/-- the wheel at j sinks into the first i -/
def Snk (i j : Nat) (G : Nat → Nat → Int) : Prop := (∀ p q, p < q → q ≤ i → p ≠ j → q ≠ j → G p 0 ≤ G q 0) ∧ (∀ q, j < q → q ≤ i → G j 0 ≤ G q 0)
theorem Snk.start {i : Nat} {G : Nat → Nat → Int} (h : Srt i G) : Snk i i G := ⟨fun p q hpq hq h1 h2 => h p q hpq (by omega), fun q h1 h2 => by omega⟩
theorem Snk.stop {i j : Nat} {G : Nat → Nat → Int} (h : Snk i j G) (hj : j ≤ i) (h2 : j = 0 ∨ ∃ q, j = q + 1 ∧ G q 0 ≤ G j 0) : Srt (i + 1) G := by
  intro p q hpq hq
  by_cases h3 : q = j
  · subst h3
    rcases h2 with h2 | ⟨r, rfl, h2⟩
    · omega
    · by_cases h4 : p = r
      · subst h4; exact h2
      · have := h.1 p r (by omega) (by omega) (by omega) (by omega); omega
  · by_cases h4 : p = j
    · subst h4; exact h.2 q hpq (by omega)
    · exact h.1 p q hpq (by omega) h4 h3
theorem Snk.step {i q : Nat} {G : Nat → Nat → Int} (h : Snk i (q + 1) G) (hj : q + 1 ≤ i) (h2 : G (q + 1) 0 < G q 0) : Snk i q (swp q G) := by
  have e0 : ∀ a, a ≠ q → a ≠ q + 1 → swp q G a = G a := fun a h1 h2 => by unfold swp; rw [if_neg h1, if_neg h2]
  have e1 : swp q G q = G (q + 1) := by unfold swp; rw [if_pos rfl]
  have e2 : swp q G (q + 1) = G q := by unfold swp; rw [if_neg (by omega), if_pos rfl]
  refine ⟨fun p r hpr hr h3 h4 => ?_, fun r h3 h4 => ?_⟩
  · by_cases h5 : p = q + 1
    · subst h5; rw [e2, e0 r (by omega) (by omega)]; exact h.1 q r (by omega) hr (by omega) (by omega)
    · by_cases h6 : r = q + 1
      · subst h6; rw [e2, e0 p h3 h5]; exact h.1 p q (by omega) (by omega) h5 (by omega)
      · rw [e0 p h3 h5, e0 r h4 h6]; exact h.1 p r hpr hr h5 h6
  · rw [e1]
    by_cases h6 : r = q + 1
    · subst h6; rw [e2]; omega
    · rw [e0 r (by omega) h6]; exact h.2 r (by omega) h4
theorem cmpI_neg (a b : Int) : cmpI a b < 0 ↔ a < b := by
  unfold cmpI; split
  · omega
  · split <;> omega
theorem OwnW.cells9 {w : World} {base g n cap k : Nat} {G : Nat → Nat → Int} (h : OwnW w base (.slice (some ⟨g, 0, none⟩) n cap) n G) (hk : k < n) :
    w.cell? ⟨g, k * 9, none⟩ = some (.int .i64 (G k 0)) ∧ w.cell? ⟨g, k * 9 + 1, none⟩ = some (.int .i64 (G k 1)) ∧ w.cell? ⟨g, k * 9 + 2, none⟩ = some (.int .i64 (G k 2)) ∧ w.cell? ⟨g, k * 9 + 3, none⟩ = some (.int .i64 (G k 3)) ∧ w.cell? ⟨g, k * 9 + 4, none⟩ = some (.int .i64 (G k 4)) ∧
    w.cell? ⟨g, k * 9 + 5, none⟩ = some (.int .i64 (G k 5)) ∧ w.cell? ⟨g, k * 9 + 6, none⟩ = some (.int .i64 (G k 6)) ∧ w.cell? ⟨g, k * 9 + 7, none⟩ = some (.int .i64 (G k 7)) ∧ w.cell? ⟨g, k * 9 + 8, none⟩ = some (.int .i64 (G k 8)) :=
  Go.Proofs.Ytadjphiipnlcdaa.cells9 (w := w) (b := g) (o := k * 9) (F := G k) (by
    rcases h.shape with ⟨hv, _⟩ | ⟨_, _, hv, _, _, _, _, hcell, _⟩
    · cases hv
    · cases hv
      exact fun c hc => by rw [hcell (k * 9 + c) (by omega), flat_get n G (by omega), show (k * 9 + c) / 9 = k by omega, show (k * 9 + c) % 9 = c by omega])
/-- a list's wheel is written -/
theorem OwnW.put9 {w : World} {base g n cap k : Nat} {G : Nat → Nat → Int} (h : OwnW w base (.slice (some ⟨g, 0, none⟩) n cap) n G) (hk : k < n) (F : Nat → Int) :
    OwnW (((((((((w.setCell ⟨g, k * 9, none⟩ (.int .i64 (F 0))).setCell ⟨g, k * 9 + 1, none⟩ (.int .i64 (F 1))).setCell ⟨g, k * 9 + 2, none⟩ (.int .i64 (F 2))).setCell ⟨g, k * 9 + 3, none⟩ (.int .i64 (F 3))).setCell ⟨g, k * 9 + 4, none⟩ (.int .i64 (F 4))).setCell ⟨g, k * 9 + 5, none⟩ (.int .i64 (F 5))).setCell ⟨g, k * 9 + 6, none⟩ (.int .i64 (F 6))).setCell ⟨g, k * 9 + 7, none⟩ (.int .i64 (F 7))).setCell ⟨g, k * 9 + 8, none⟩ (.int .i64 (F 8))) base (.slice (some ⟨g, 0, none⟩) n cap) n (fun j => if j = k then F else G j) ∧ ExtB g w (((((((((w.setCell ⟨g, k * 9, none⟩ (.int .i64 (F 0))).setCell ⟨g, k * 9 + 1, none⟩ (.int .i64 (F 1))).setCell ⟨g, k * 9 + 2, none⟩ (.int .i64 (F 2))).setCell ⟨g, k * 9 + 3, none⟩ (.int .i64 (F 3))).setCell ⟨g, k * 9 + 4, none⟩ (.int .i64 (F 4))).setCell ⟨g, k * 9 + 5, none⟩ (.int .i64 (F 5))).setCell ⟨g, k * 9 + 6, none⟩ (.int .i64 (F 6))).setCell ⟨g, k * 9 + 7, none⟩ (.int .i64 (F 7))).setCell ⟨g, k * 9 + 8, none⟩ (.int .i64 (F 8))) := by
  obtain ⟨h0, z0⟩ := h.put hk (c := 0) (o := k * 9) (by omega) (by omega) (F 0)
  obtain ⟨h1, z1⟩ := h0.put hk (c := 1) (o := k * 9 + 1) (by omega) (by omega) (F 1)
  obtain ⟨h2, z2⟩ := h1.put hk (c := 2) (o := k * 9 + 2) (by omega) (by omega) (F 2)
  obtain ⟨h3, z3⟩ := h2.put hk (c := 3) (o := k * 9 + 3) (by omega) (by omega) (F 3)
  obtain ⟨h4, z4⟩ := h3.put hk (c := 4) (o := k * 9 + 4) (by omega) (by omega) (F 4)
  obtain ⟨h5, z5⟩ := h4.put hk (c := 5) (o := k * 9 + 5) (by omega) (by omega) (F 5)
  obtain ⟨h6, z6⟩ := h5.put hk (c := 6) (o := k * 9 + 6) (by omega) (by omega) (F 6)
  obtain ⟨h7, z7⟩ := h6.put hk (c := 7) (o := k * 9 + 7) (by omega) (by omega) (F 7)
  obtain ⟨h8, z8⟩ := h7.put hk (c := 8) (o := k * 9 + 8) (by omega) (by omega) (F 8)
  refine ⟨OwnW.congr h8 (fun i hi c hc => ?_), ((((((((z0).trans z1).trans z2).trans z3).trans z4).trans z5).trans z6).trans z7).trans z8⟩
  by_cases h1 : i = k
  · subst h1
    simp only [if_true]
    obtain rfl | rfl | rfl | rfl | rfl | rfl | rfl | rfl | rfl : c = 0 ∨ c = 1 ∨ c = 2 ∨ c = 3 ∨ c = 4 ∨ c = 5 ∨ c = 6 ∨ c = 7 ∨ c = 8 := by omega
    all_goals rfl
  · simp only [if_neg h1]
/-- what a void call hands back -/
def Sorted (base g n cap : Nat) (G : Nat → Nat → Int) (w : World) (e : Ending) (w' : World) : Prop :=
  e = .returned (.tuple #[]) ∧ ∃ H, Prm n G H ∧ Srt n H ∧ OwnW w' base (.slice (some ⟨g, 0, none⟩) n cap) n H ∧ ExtB g w w'

end Go.Proofs.Ytadjphiipnlcdaa
