/- Wheels: lists handed back, with marks and holds in one piece; one result each. -/
import Derived.Test.YtadjphiipnlcdaaWhlU
namespace Go.Proofs.Ytadjphiipnlcdaa
open Go.ChangeShapes Go.WideShapes Go.ChangeAt Go.RowKit
set_option linter.unusedVariables false
set_option maxRecDepth 100000


/-- a list of m wheels in a block from lo on, below hi -/
def OwnM (w : World) (lo hi : Nat) (v : Value) (m : Nat) (c : Nat → Int) : Prop :=
  (v = .slice none 0 0 ∧ m = 0) ∨ ∃ g c2, v = .slice (some ⟨g, 0, none⟩) m c2 ∧ m ≤ c2 ∧ lo ≤ g ∧ g < hi ∧ Cel w g m c
theorem OwnM.keep {w w' : World} {lo hi m : Nat} {v : Value} {c : Nat → Int} (h : OwnM w lo hi v m c) (k : Ext w w') : OwnM w' lo hi v m c := by
  rcases h with h | ⟨g, c2, rfl, h1, h2, h3, h4⟩
  · exact .inl h
  · exact .inr ⟨g, c2, rfl, h1, h2, h3, h4.keep k⟩
theorem OwnM.keepB {w w' : World} {lo hi m R : Nat} {v : Value} {c : Nat → Int} (h : OwnM w lo hi v m c) (k : ExtB R w w') (hR : R < lo ∨ hi ≤ R) : OwnM w' lo hi v m c := by
  rcases h with h | ⟨g, c2, rfl, h1, h2, h3, h4⟩
  · exact .inl h
  · exact .inr ⟨g, c2, rfl, h1, h2, h3, h4.keepB k (by omega)⟩
theorem OwnM.congr {w : World} {lo hi m : Nat} {v : Value} {c d : Nat → Int} (h : OwnM w lo hi v m c) (k : ∀ j, j < m * 9 → c j = d j) : OwnM w lo hi v m d := by
  rcases h with h | ⟨g, c2, rfl, h1, h2, h3, h4⟩
  · exact .inl h
  · exact .inr ⟨g, c2, rfl, h1, h2, h3, h4.congr k⟩
theorem OwnM.whs {w : World} {lo hi m : Nat} {v : Value} {c : Nat → Int} (h : OwnM w lo hi v m c) : ∃ a cap, v = .slice a m cap ∧ m ≤ cap ∧ Whs w a m (fun i k => c (i * 9 + k)) := by
  rcases h with ⟨rfl, rfl⟩ | ⟨g, c2, rfl, h1, h2, h3, h4⟩
  · exact ⟨none, 0, rfl, Nat.le_refl _, .inl rfl⟩
  · exact ⟨_, c2, rfl, h1, h4.whs⟩
theorem OwnC.own {w : World} {base m : Nat} {v : Value} {R : Nat → Nat → Int} (h : OwnC w base v m R) : OwnM w base w.heap.size v m (fun j => R (j / 9) (j % 9)) := by
  rcases h.cel with h | ⟨g, c2, rfl, h1, _, h3, h4⟩
  · exact .inl h
  · exact .inr ⟨g, c2, rfl, h1, h3, h4.lt, h4⟩
theorem OwnW.ownC {w : World} {base m : Nat} {v : Value} {R : Nat → Nat → Int} (h : OwnW w base v m R) : OwnC w base v m R := by
  rcases h.shape with h | ⟨g, cap, rfl, _, _, h1, h2, _⟩
  · exact .inl h
  · exact .inr ⟨g, cap, cap, rfl, h1, h2, h⟩
theorem Cel.whsG {w : World} {g n : Nat} {G : Nat → Nat → Int} (h : Cel w g n (fun j => G (j / 9) (j % 9))) : Whs w (some ⟨g, 0, none⟩) n G :=
  Whs.congr h.whs fun i _ c h9 => by
    show G ((i * 9 + c) / 9) ((i * 9 + c) % 9) = G i c
    rw [show (i * 9 + c) / 9 = i by omega, show (i * 9 + c) % 9 = c by omega]
/-- what the functions on designs hand back: valid arguments or not (V), the changed wheels Y -/
def ResW (V : Bool) (Y : Nat → Nat → Int) (N : Nat) (w : World) (e : Ending) (w' : World) : Prop :=
  ∃ v ok m R, e = .returned (.tuple #[v, .bool ok]) ∧ OwnM w' w.heap.size w'.heap.size v m (fun j => R (j / 9) (j % 9)) ∧ ((V = true ∧ TR Y N ok m R) ∨ (V = false ∧ ok = false ∧ m = 0)) ∧ Ext w w'
theorem TidyTo.res {X Y : Nat → Nat → Int} {N : Nat} {w w' : World} {e : Ending} (h : TidyTo X Y N w e w') : ResW (validM N X) Y N w e w' := by
  obtain ⟨v, ok, m, R, h1, h2, h3, h4⟩ := h
  exact ⟨v, ok, m, R, h1, h2.own, h3, h4⟩
theorem TidyOf.res {X : Nat → Nat → Int} {N : Nat} {w w' : World} {e : Ending} (h : TidyOf X N w e w') : ResW (validM N X) X N w e w' := by
  obtain ⟨v, ok, m, R, h1, h2, h3, h4⟩ := h
  exact ⟨v, ok, m, R, h1, h2.ownC.own, h3, h4⟩
def RT (V : Bool) (Y : Nat → Nat → Int) (N : Nat) (ok : Bool) (m : Nat) (R : Nat → Nat → Int) : Prop := (V = true ∧ TR Y N ok m R) ∨ (V = false ∧ ok = false ∧ m = 0)
theorem RT.le {V ok : Bool} {Y R : Nat → Nat → Int} {N m : Nat} (h : RT V Y N ok m R) : m ≤ 12 := by
  rcases h with ⟨_, h⟩ | ⟨_, _, rfl⟩
  · exact h.le
  · omega
theorem RT.one {V ok ok2 : Bool} {Y R R2 : Nat → Nat → Int} {N m m2 : Nat} (h : RT V Y N ok m R) (k : RT V Y N ok2 m2 R2) : ok2 = ok ∧ m2 = m ∧ ∀ j, j < m * 9 → R2 (j / 9) (j % 9) = R (j / 9) (j % 9) := by
  rcases h with ⟨hV, h⟩ | ⟨hV, rfl, rfl⟩ <;> rcases k with ⟨kV, k⟩ | ⟨kV, rfl, rfl⟩
  · obtain ⟨e1, e2, e3⟩ := h.one k
    exact ⟨e1.symm, e2.symm, fun j hj => (e3 _ (by omega) _ (by omega)).symm⟩
  · rw [hV] at kV; cases kV
  · rw [hV] at kV; cases kV
  · exact ⟨rfl, rfl, fun j hj => by omega⟩
theorem RT.congr {V ok : Bool} {Y Z R : Nat → Nat → Int} {N m : Nat} (h : RT V Y N ok m R) (e : ∀ i, i < N → ∀ c, c < 9 → Y i c = Z i c) : RT V Z N ok m R := by
  rcases h with ⟨h1, h2⟩ | h
  · exact .inl ⟨h1, h2.congr e⟩
  · exact .inr h

theorem eqOwn {w : World} {l1 h1 l2 h2 m : Nat} {v1 v2 : Value} {c : Nat → Int} (hm : m ≤ 12) (k1 : OwnM w l1 h1 v1 m c) (k2 : OwnM w l2 h2 v2 m c) :
    Calls Try.prog 13 #[v1, v2] w fun e w' => e = .returned (.bool true) ∧ Ext w w' := by
  obtain ⟨a1, c1, rfl, n1, w1⟩ := k1.whs
  obtain ⟨a2, c2, rfl, n2, w2⟩ := k2.whs
  exact eqWheelS_any a1 a2 m c1 c2 _ w n1 n2 (by omega) w1 w2
theorem markOwn {w : World} {lo hi m : Nat} {v : Value} {c : Nat → Int} (hm : m ≤ 12) (k : OwnM w lo hi v m c) :
    Calls Try.prog 16 #[v, .int .i64 1] w fun e w' => e = .returned (.int .i64 ((1 + m * 9 : Nat) : Int)) ∧ OwnM w' lo hi v m (fun j => ((1 : Nat) : Int) + j) ∧ ∃ g, lo ≤ g ∧ ExtB g w w' := by
  rcases k with ⟨rfl, rfl⟩ | ⟨g, c2, rfl, h1, h2, h3, h4⟩
  · refine (markNil none 0 1 w).mono ?_
    rintro e w' ⟨rfl, rfl⟩
    exact ⟨rfl, .inl ⟨rfl, rfl⟩, lo, Nat.le_refl _, ExtB.refl _ _⟩
  · refine (markWh g m c2 1 w c (by omega) (by omega) h1 h4).mono ?_
    rintro e w' ⟨rfl, hc, hx⟩
    exact ⟨rfl, .inr ⟨g, c2, rfl, h1, h2, h3, hc⟩, g, h2, hx⟩
theorem heldOwn {w : World} {lo hi m : Nat} {v : Value} (hm : m ≤ 12) (k : OwnM w lo hi v m (fun j => ((1 : Nat) : Int) + j)) :
    Calls Try.prog 17 #[v, .int .i64 1] w fun e w' => e = .returned (.int .i64 ((1 + m * 9 : Nat) : Int)) ∧ w = w' := by
  rcases k with ⟨rfl, rfl⟩ | ⟨g, c2, rfl, h1, h2, h3, h4⟩
  · exact heldNil none 0 1 w
  · exact heldWh g m c2 1 w (by omega) (by omega) h1 h4

end Go.Proofs.Ytadjphiipnlcdaa
