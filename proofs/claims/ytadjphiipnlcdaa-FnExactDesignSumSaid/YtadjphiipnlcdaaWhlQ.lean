/- Wheels, plain: radii that are 0 left out; the result of tidying is one. -/
import Derived.Test.YtadjphiipnlcdaaWhlP
namespace Go.Proofs.Ytadjphiipnlcdaa
set_option linter.unusedVariables false
set_option maxRecDepth 100000


theorem okK.seen {X : Nat → Nat → Int} {k : Nat} {s : Int} (h : okK X k) (hs : Seen X k s) : cycOk (accF X k s) = true := by
  induction k with
  | zero => obtain ⟨i, hi, _⟩ := hs; omega
  | succ k ih =>
    by_cases e : X k 0 = s
    · have := h k (by omega); rwa [e] at this
    · rw [accF_miss e]
      obtain ⟨i, hi, e2⟩ := hs
      have : i ≠ k := fun e3 => e (by rw [← e3]; exact e2)
      exact ih (fun j hj => h j (by omega)) ⟨i, by omega, e2⟩
theorem okK.zero (X : Nat → Nat → Int) : okK X 0 := fun i hi => by omega
theorem okK.succ {X : Nat → Nat → Int} {k : Nat} (h : okK X k) (h2 : cycOk (accF X (k + 1) (X k 0)) = true) : okK X (k + 1) := fun i hi => by
  by_cases e : i = k
  · subst e; exact h2
  · exact h i (by omega)
theorem okK.no {X : Nat → Nat → Int} {k n : Nat} (hk : k < n) (h2 : cycOk (accF X (k + 1) (X k 0)) = false) : ¬ okK X n := fun h => by
  rw [h k hk] at h2; cases h2
theorem St.cyc {X : Nat → Nat → Int} {k n : Nat} {G : Nat → Nat → Int} (h : St X k n G) (ho : okK X k) : ∀ i, i < n → cycOk (tl (G i)) = true := fun i hi => by
  rw [cycOk_congr (f := tl (G i)) (g := accF X k (G i 0)) fun j hj => (h.1 i hi).2 j hj]
  exact ho.seen (h.1 i hi).1
/-- the list H holds, in order, those of the first k of G that are not 0 -/
def Flt (G : Nat → Nat → Int) (k m : Nat) (H : Nat → Nat → Int) : Prop :=
  ∃ f : Nat → Nat, (∀ i, i < m → f i < k ∧ ¬ isZ (G (f i)) ∧ ∀ c, c < 9 → H i c = G (f i) c) ∧ (∀ i j, i < j → j < m → f i < f j) ∧ (∀ p, p < k → ¬ isZ (G p) → ∃ i, i < m ∧ f i = p)
theorem Flt.zero (G H : Nat → Nat → Int) : Flt G 0 0 H := ⟨fun _ => 0, fun i hi => by omega, fun i j _ hj => by omega, fun p hp => by omega⟩
theorem Flt.skip {G H : Nat → Nat → Int} {k m : Nat} (h : Flt G k m H) (hz : isZ (G k)) : Flt G (k + 1) m H := by
  obtain ⟨f, h1, h2, h3⟩ := h
  refine ⟨f, fun i hi => ⟨by have := (h1 i hi).1; omega, (h1 i hi).2⟩, h2, fun p hp hn => ?_⟩
  by_cases e : p = k
  · subst e; exact absurd hz hn
  · exact h3 p (by omega) hn
theorem Flt.take {G H : Nat → Nat → Int} {k m : Nat} (h : Flt G k m H) (hz : ¬ isZ (G k)) : Flt G (k + 1) (m + 1) (fun i => if i < m then H i else G k) := by
  obtain ⟨f, h1, h2, h3⟩ := h
  refine ⟨fun i => if i < m then f i else k, fun i hi => ?_, fun i j hij hj => ?_, fun p hp hn => ?_⟩
  · by_cases e : i < m
    · simp only [if_pos e]; obtain ⟨a, b, c⟩ := h1 i e; exact ⟨by omega, b, c⟩
    · simp only [if_neg e]; exact ⟨by omega, hz, fun _ _ => trivial⟩
  · have e : i < m := by omega
    simp only [if_pos e]
    by_cases e2 : j < m
    · simp only [if_pos e2]; exact h2 i j hij e2
    · simp only [if_neg e2]; exact (h1 i e).1
  · by_cases e : p = k
    · subst e; exact ⟨m, by omega, by simp⟩
    · obtain ⟨i, hi, e2⟩ := h3 p (by omega) hn
      exact ⟨i, by omega, by simp only [if_pos hi]; exact e2⟩
theorem isZ_congr {F H : Nat → Int} (h : ∀ c, c < 9 → F c = H c) : isZ F ↔ isZ H := by
  unfold isZ
  constructor <;> intro k j hj <;> have := h (j + 1) (by omega) <;> have := k j hj <;> omega
theorem Flt.le {G H : Nat → Nat → Int} {k m : Nat} (h : Flt G k m H) : m ≤ k := by
  obtain ⟨f, h1, h2, _⟩ := h
  have : ∀ i, i < m → i ≤ f i := fun i => by
    induction i with
    | zero => intro _; omega
    | succ i ih => intro hi; have := ih (by omega); have := h2 i (i + 1) (by omega) hi; omega
  by_cases e : m = 0
  · omega
  · have h3 := this (m - 1) (by omega); have := (h1 (m - 1) (by omega)).1; omega
theorem Flt.fin {X G H : Nat → Nat → Int} {k n m : Nat} (hs : St X k n G) (h : Flt G n m H) : Fin X k m H := by
  obtain ⟨f, h1, h2, h3⟩ := h
  obtain ⟨s1, s2, s3⟩ := hs
  refine ⟨fun i hi => ?_, fun s hsn hz => ?_, fun i j hi hj e => ?_⟩
  · obtain ⟨a, b, c⟩ := h1 i hi
    obtain ⟨d, e⟩ := s1 _ a
    rw [c 0 (by omega)]
    exact ⟨d, fun j hj => by rw [c (j + 1) (by omega), e j hj], fun z => b ((isZ_congr c).1 z)⟩
  · obtain ⟨p, hp, e⟩ := s2 s hsn
    have hn : ¬ isZ (G p) := fun z => hz fun j hj => by rw [← e, ← (s1 p hp).2 j hj]; exact z j hj
    obtain ⟨i, hi, e2⟩ := h3 p hp hn
    exact ⟨i, hi, by rw [(h1 i hi).2.2 0 (by omega), e2, e]⟩
  · rw [(h1 i hi).2.2 0 (by omega), (h1 j hj).2.2 0 (by omega)] at e
    have := s3 _ _ (h1 i hi).1 (h1 j hj).1 e
    by_cases hij : i < j
    · have := h2 i j hij hj; omega
    · by_cases hji : j < i
      · have := h2 j i hji hi; omega
      · omega
theorem Flt.asc {G H : Nat → Nat → Int} {n m : Nat} (ha : Asc n G) (h : Flt G n m H) : Asc m H := by
  obtain ⟨f, h1, h2, _⟩ := h
  intro i j hij hj
  rw [(h1 i (by omega)).2.2 0 (by omega), (h1 j hj).2.2 0 (by omega)]
  exact ha _ _ (h2 i j hij hj) (h1 j hj).1
/-- what tidying comes to -/
def TR (X : Nat → Nat → Int) (N : Nat) (ok : Bool) (m : Nat) (R : Nat → Nat → Int) : Prop :=
  (ok = true ∧ okK X N ∧ Fin X N m R ∧ Asc m R ∧ validM m R = true) ∨ (ok = false ∧ m = 0 ∧ (¬ okK X N ∨ ∃ q H, Fin X N q H ∧ validM q H = false))
theorem TR.one {X : Nat → Nat → Int} {N m m2 : Nat} {ok ok2 : Bool} {R R2 : Nat → Nat → Int} (h : TR X N ok m R) (k : TR X N ok2 m2 R2) : ok = ok2 ∧ m = m2 ∧ ∀ i, i < m → ∀ c, c < 9 → R i c = R2 i c := by
  rcases h with ⟨rfl, a1, a2, a3, a4⟩ | ⟨rfl, rfl, a1⟩ <;> rcases k with ⟨rfl, b1, b2, b3, b4⟩ | ⟨rfl, rfl, b1⟩
  · obtain ⟨e, f⟩ := a2.one b2 a3 b3; exact ⟨rfl, e, f⟩
  · rcases b1 with b1 | ⟨q, H, c1, c2⟩
    · exact absurd a1 b1
    · rw [a2.valid c1, c2] at a4; cases a4
  · rcases a1 with a1 | ⟨q, H, c1, c2⟩
    · exact absurd b1 a1
    · rw [b2.valid c1, c2] at b4; cases b4
  · exact ⟨rfl, rfl, fun i hi => by omega⟩
theorem TR.le {X : Nat → Nat → Int} {N m : Nat} {ok : Bool} {R : Nat → Nat → Int} (h : TR X N ok m R) : m ≤ 12 := by
  rcases h with ⟨_, _, _, _, h⟩ | ⟨_, rfl, _⟩
  · exact validM_le h
  · omega
theorem TR.congr {X Y : Nat → Nat → Int} {N m : Nat} {ok : Bool} {R : Nat → Nat → Int} (h : TR X N ok m R) (e : ∀ i, i < N → ∀ c, c < 9 → X i c = Y i c) : TR Y N ok m R := by
  have acc : ∀ k, k ≤ N → ∀ s j, j < 8 → accF X k s j = accF Y k s j := fun k => by
    induction k with
    | zero => intro _ s j _; rfl
    | succ k ih =>
      intro hk s j hj
      by_cases h1 : X k 0 = s
      · rw [accF_hit h1, accF_hit (by rw [← e k (by omega) 0 (by omega)]; exact h1)]
        show accF X k s j + X k (j + 1) = accF Y k s j + Y k (j + 1)
        rw [ih (by omega) s j hj, e k (by omega) (j + 1) (by omega)]
      · rw [accF_miss h1, accF_miss (by rw [← e k (by omega) 0 (by omega)]; exact h1), ih (by omega) s j hj]
  have seen : ∀ s, Seen X N s ↔ Seen Y N s := fun s => by
    constructor
    · rintro ⟨i, hi, h1⟩; exact ⟨i, hi, by rw [← e i hi 0 (by omega)]; exact h1⟩
    · rintro ⟨i, hi, h1⟩; exact ⟨i, hi, by rw [e i hi 0 (by omega)]; exact h1⟩
  have ok : okK X N ↔ okK Y N := by
    constructor
    · intro h i hi; rw [← h i hi, ← e i hi 0 (by omega)]; exact cycOk_congr fun j hj => (acc (i + 1) (by omega) _ j hj).symm
    · intro h i hi; rw [← h i hi, ← e i hi 0 (by omega)]; exact cycOk_congr fun j hj => acc (i + 1) (by omega) _ j hj
  have fin : ∀ {q H}, Fin X N q H → Fin Y N q H := fun {q H} h => by
    refine ⟨fun i hi => ?_, fun s hs hz => ?_, h.2.2⟩
    · obtain ⟨a, b, c⟩ := h.1 i hi
      exact ⟨(seen _).1 a, fun j hj => by rw [b j hj, acc N (Nat.le_refl _) _ j hj], c⟩
    · exact h.2.1 s ((seen s).2 hs) fun z => hz fun j hj => by rw [← acc N (Nat.le_refl _) _ j hj]; exact z j hj
  rcases h with ⟨a, b, c, d, f⟩ | ⟨a, b, c⟩
  · exact .inl ⟨a, ok.1 b, fin c, d, f⟩
  · refine .inr ⟨a, b, ?_⟩
    rcases c with c | ⟨q, H, c1, c2⟩
    · exact .inl fun h => c (ok.2 h)
    · exact .inr ⟨q, H, fin c1, c2⟩

end Go.Proofs.Ytadjphiipnlcdaa
