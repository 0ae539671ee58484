/- Wheels, plain: what a tidy design is: the sums of radii speed by speed. -/
import Derived.Test.YtadjphiipnlcdaaWhlE
namespace Go.Proofs.Ytadjphiipnlcdaa
set_option linter.unusedVariables false
set_option maxRecDepth 100000


/-- a wheel's radius is added to that of another -/
def addW (A F : Nat → Int) : Nat → Int := fun j => if j = 0 then A 0 else A j + F j
/-- the sum of the radii of the first k wheels that have the speed s -/
def accF (X : Nat → Nat → Int) : Nat → Int → Nat → Int
  | 0, _ => fun _ => 0
  | k + 1, s => if X k 0 = s then fun j => accF X k s j + X k (j + 1) else accF X k s
def Seen (X : Nat → Nat → Int) (k : Nat) (s : Int) : Prop := ∃ i, i < k ∧ X i 0 = s
theorem accF_hit {X : Nat → Nat → Int} {k : Nat} {s : Int} (h : X k 0 = s) : accF X (k + 1) s = fun j => accF X k s j + X k (j + 1) := by simp [accF, h]
theorem accF_miss {X : Nat → Nat → Int} {k : Nat} {s : Int} (h : ¬ X k 0 = s) : accF X (k + 1) s = accF X k s := by simp [accF, h]
theorem accF_none {X : Nat → Nat → Int} {k : Nat} {s : Int} (h : ¬ Seen X k s) : accF X k s = fun _ => 0 := by
  induction k with
  | zero => rfl
  | succ k ih =>
    have h1 : ¬ X k 0 = s := fun e => h ⟨k, by omega, e⟩
    rw [accF_miss h1]
    exact ih fun ⟨i, hi, e⟩ => h ⟨i, by omega, e⟩
/-- the list G of n wheels holds, for each speed among the first k wheels of X, the sum of the radii -/
def St (X : Nat → Nat → Int) (k n : Nat) (G : Nat → Nat → Int) : Prop :=
  (∀ i, i < n → Seen X k (G i 0) ∧ ∀ j, j < 8 → G i (j + 1) = accF X k (G i 0) j) ∧ (∀ s, Seen X k s → ∃ i, i < n ∧ G i 0 = s) ∧ (∀ i j, i < n → j < n → G i 0 = G j 0 → i = j)
theorem St.zero (X G : Nat → Nat → Int) : St X 0 0 G := ⟨fun i hi => by omega, fun s ⟨i, hi, _⟩ => by omega, fun i j hi => by omega⟩
theorem St.put {X : Nat → Nat → Int} {k n p : Nat} {G : Nat → Nat → Int} (h : St X k n G) (hp : p < n) (he : G p 0 = X k 0) : St X (k + 1) n (fun j => if j = p then addW (G p) (X k) else G j) := by
  obtain ⟨h1, h2, h3⟩ := h
  have sp : ∀ i, (if i = p then addW (G p) (X k) else G i) 0 = G i 0 := fun i => by
    by_cases hi : i = p
    · subst hi; simp [addW]
    · simp [hi]
  refine ⟨fun i hi => ⟨?_, fun j hj => ?_⟩, fun s hs => ?_, fun i j hi hj e => ?_⟩
  · simp only [sp]; obtain ⟨q, hq, e⟩ := (h1 i hi).1; exact ⟨q, by omega, e⟩
  · simp only [sp]
    by_cases hip : i = p
    · subst hip
      rw [if_pos rfl, accF_hit he.symm]
      show addW (G i) (X k) (j + 1) = _
      unfold addW
      rw [if_neg (by omega), (h1 i hi).2 j hj]
    · have hne : ¬ X k 0 = G i 0 := fun e => hip (h3 i p hi hp (by rw [he, e]))
      rw [if_neg hip, accF_miss hne, (h1 i hi).2 j hj]
  · obtain ⟨q, hq, e⟩ := hs
    by_cases hqk : q = k
    · subst hqk; exact ⟨p, hp, (sp p).trans (he.trans e)⟩
    · obtain ⟨i, hi, e2⟩ := h2 s ⟨q, by omega, e⟩
      exact ⟨i, hi, by simp only [sp]; exact e2⟩
  · simp only [sp] at e
    exact h3 i j hi hj e
theorem St.ins {X : Nat → Nat → Int} {k n p : Nat} {G : Nat → Nat → Int} (h : St X k n G) (hp : p ≤ n) (he : ∀ i, i < n → G i 0 ≠ X k 0) :
    St X (k + 1) (n + 1) (fun j => if j < p then G j else if j = p then X k else G (j - 1)) := by
  obtain ⟨h1, h2, h3⟩ := h
  have hns : ¬ Seen X k (X k 0) := fun hs => by obtain ⟨i, hi, e⟩ := h2 _ hs; exact he i hi e
  have old : ∀ i, i < n → Seen X (k + 1) (G i 0) ∧ ∀ j, j < 8 → G i (j + 1) = accF X (k + 1) (G i 0) j := fun i hi => by
    refine ⟨?_, fun j hj => ?_⟩
    · obtain ⟨q, hq, e⟩ := (h1 i hi).1; exact ⟨q, by omega, e⟩
    · rw [accF_miss (fun e => he i hi e.symm)]; exact (h1 i hi).2 j hj
  have new : Seen X (k + 1) (X k 0) ∧ ∀ j, j < 8 → X k (j + 1) = accF X (k + 1) (X k 0) j := by
    refine ⟨⟨k, by omega, rfl⟩, fun j hj => ?_⟩
    rw [accF_hit rfl, accF_none hns]; simp
  refine ⟨fun i hi => ?_, fun s hs => ?_, fun i j hi hj e => ?_⟩
  · by_cases ha : i < p
    · simp only [if_pos ha]; exact old i (by omega)
    · by_cases hb : i = p
      · simp only [if_neg ha, if_pos hb]; exact new
      · simp only [if_neg ha, if_neg hb]; exact old (i - 1) (by omega)
  · obtain ⟨q, hq, e⟩ := hs
    by_cases hqk : q = k
    · subst hqk
      exact ⟨p, by omega, by simp only [if_neg (Nat.lt_irrefl p), if_true]; exact e⟩
    · obtain ⟨i, hi, e2⟩ := h2 s ⟨q, by omega, e⟩
      by_cases ha : i < p
      · exact ⟨i, by omega, by simp only [if_pos ha]; exact e2⟩
      · exact ⟨i + 1, by omega, by simp only [if_neg (show ¬ i + 1 < p by omega), if_neg (show ¬ i + 1 = p by omega), Nat.add_sub_cancel]; exact e2⟩
  · by_cases ha : i < p
    · simp only [if_pos ha] at e
      by_cases hb : j < p
      · simp only [if_pos hb] at e; exact h3 i j (by omega) (by omega) e
      · by_cases hc : j = p
        · simp only [if_neg hb, if_pos hc] at e; exact absurd e (he i (by omega))
        · simp only [if_neg hb, if_neg hc] at e; have := h3 i (j - 1) (by omega) (by omega) e; omega
    · by_cases hb : i = p
      · simp only [if_neg ha, if_pos hb] at e
        by_cases hc : j < p
        · simp only [if_pos hc] at e; exact absurd e.symm (he j (by omega))
        · by_cases hd : j = p
          · omega
          · simp only [if_neg hc, if_neg hd] at e; exact absurd e.symm (he (j - 1) (by omega))
      · simp only [if_neg ha, if_neg hb] at e
        by_cases hc : j < p
        · simp only [if_pos hc] at e; have := h3 (i - 1) j (by omega) (by omega) e; omega
        · by_cases hd : j = p
          · simp only [if_neg hc, if_pos hd] at e; exact absurd e (he (i - 1) (by omega))
          · simp only [if_neg hc, if_neg hd] at e; have := h3 (i - 1) (j - 1) (by omega) (by omega) e; omega
theorem cycOk_congr {f g : Nat → Int} (h : ∀ j, j < 8 → f j = g j) : cycOk f = cycOk g := by
  unfold cycOk
  rw [h 0 (by omega), h 1 (by omega), h 2 (by omega), h 3 (by omega), h 4 (by omega), h 5 (by omega), h 6 (by omega), h 7 (by omega)]
/-- the sums of the first k wheels are valid points, one after the other -/
def okK (X : Nat → Nat → Int) (k : Nat) : Prop := ∀ i, i < k → cycOk (accF X (i + 1) (X i 0)) = true
theorem St.okPut {X : Nat → Nat → Int} {k n p : Nat} {G : Nat → Nat → Int} (h : St X k n G) (hp : p < n) (he : G p 0 = X k 0) : cycOk (tl (addW (G p) (X k))) = cycOk (accF X (k + 1) (X k 0)) := by
  apply cycOk_congr
  intro j hj
  rw [accF_hit rfl, ← he]
  show addW (G p) (X k) (j + 1) = _
  unfold addW
  rw [if_neg (by omega), (h.1 p hp).2 j hj]
theorem St.okIns {X : Nat → Nat → Int} {k n : Nat} {G : Nat → Nat → Int} (h : St X k n G) (he : ∀ i, i < n → G i 0 ≠ X k 0) : cycOk (tl (X k)) = cycOk (accF X (k + 1) (X k 0)) := by
  apply cycOk_congr
  intro j hj
  have hns : ¬ Seen X k (X k 0) := fun hs => by obtain ⟨i, hi, e⟩ := h.2.1 _ hs; exact he i hi e
  rw [accF_hit rfl, accF_none hns]
  show X k (j + 1) = _
  simp
/-- speeds ascend -/
def Asc (n : Nat) (G : Nat → Nat → Int) : Prop := ∀ i j, i < j → j < n → G i 0 < G j 0
theorem Asc.put {n p : Nat} {G : Nat → Nat → Int} (h : Asc n G) (A : Nat → Int) (he : A 0 = G p 0) : Asc n (fun j => if j = p then A else G j) := by
  have sp : ∀ i, (if i = p then A else G i) 0 = G i 0 := fun i => by
    by_cases hi : i = p
    · subst hi; simp [he]
    · simp [hi]
  intro i j hij hj
  simp only [sp]
  exact h i j hij hj
theorem Asc.ins {n p : Nat} {G : Nat → Nat → Int} {F : Nat → Int} (h : Asc n G) (hp : p ≤ n) (h1 : ∀ i, i < p → G i 0 < F 0) (h2 : p < n → F 0 < G p 0) : Asc (n + 1) (fun j => if j < p then G j else if j = p then F else G (j - 1)) := by
  have h3 : ∀ i, p ≤ i → i < n → F 0 < G i 0 := fun i hi hn => by
    have := h2 (by omega)
    by_cases e : i = p
    · subst e; exact this
    · have := h p i (by omega) hn; omega
  intro i j hij hj
  by_cases ha : i < p
  · simp only [if_pos ha]
    by_cases hb : j < p
    · simp only [if_pos hb]; exact h i j hij (by omega)
    · by_cases hc : j = p
      · simp only [if_neg hb, if_pos hc]; exact h1 i ha
      · simp only [if_neg hb, if_neg hc]; exact h i (j - 1) (by omega) (by omega)
  · by_cases hb : i = p
    · simp only [if_neg ha, if_pos hb, if_neg (show ¬ j < p by omega), if_neg (show ¬ j = p by omega)]; exact h3 (j - 1) (by omega) (by omega)
    · simp only [if_neg ha, if_neg hb, if_neg (show ¬ j < p by omega), if_neg (show ¬ j = p by omega)]; exact h (i - 1) (j - 1) (by omega) (by omega)
/-- no radius is 0 -/
def isZ (F : Nat → Int) : Prop := ∀ j, j < 8 → F (j + 1) = 0
/-- the list holds just the sums that are not 0 -/
def Fin (X : Nat → Nat → Int) (k n : Nat) (G : Nat → Nat → Int) : Prop :=
  (∀ i, i < n → Seen X k (G i 0) ∧ (∀ j, j < 8 → G i (j + 1) = accF X k (G i 0) j) ∧ ¬ isZ (G i)) ∧ (∀ s, Seen X k s → ¬ (∀ j, j < 8 → accF X k s j = 0) → ∃ i, i < n ∧ G i 0 = s) ∧ (∀ i j, i < n → j < n → G i 0 = G j 0 → i = j)
def spd (n : Nat) (G : Nat → Nat → Int) : List Int := (List.range n).map fun i => G i 0
theorem mem_spd {n : Nat} {G : Nat → Nat → Int} {s : Int} : s ∈ spd n G ↔ ∃ i, i < n ∧ G i 0 = s := by simp [spd]
theorem spd_len (n : Nat) (G : Nat → Nat → Int) : (spd n G).length = n := by simp [spd]
theorem Fin.mem {X : Nat → Nat → Int} {k n : Nat} {G : Nat → Nat → Int} (h : Fin X k n G) (s : Int) : s ∈ spd n G ↔ Seen X k s ∧ ¬ ∀ j, j < 8 → accF X k s j = 0 := by
  rw [mem_spd]
  constructor
  · rintro ⟨i, hi, rfl⟩
    obtain ⟨a, b, c⟩ := h.1 i hi
    exact ⟨a, fun hz => c fun j hj => by rw [b j hj, hz j hj]⟩
  · rintro ⟨a, b⟩; exact h.2.1 s a b
theorem Fin.nodup {X : Nat → Nat → Int} {k n : Nat} {G : Nat → Nat → Int} (h : Fin X k n G) : (spd n G).Nodup := by
  unfold spd List.Nodup
  rw [List.pairwise_map]
  have : (List.range n).Pairwise (· < ·) := List.pairwise_lt_range
  refine List.Pairwise.imp_of_mem ?_ this
  intro a b ha hb hab e
  have := h.2.2 a b (by simpa using ha) (by simpa using hb) e
  omega
theorem Fin.len {X : Nat → Nat → Int} {k n m : Nat} {G H : Nat → Nat → Int} (h : Fin X k n G) (h2 : Fin X k m H) : n = m := by
  have := ((List.perm_ext_iff_of_nodup h.nodup h2.nodup).2 fun s => by rw [h.mem, h2.mem]).length_eq
  rwa [spd_len, spd_len] at this
theorem Fin.same {X : Nat → Nat → Int} {k n m : Nat} {G H : Nat → Nat → Int} (h : Fin X k n G) (h2 : Fin X k m H) {i j : Nat} (hi : i < n) (hj : j < m) (e : G i 0 = H j 0) : ∀ c, c < 9 → G i c = H j c := by
  intro c hc
  by_cases h0 : c = 0
  · subst h0; exact e
  · obtain ⟨q, rfl⟩ : ∃ q, c = q + 1 := ⟨c - 1, by omega⟩
    rw [(h.1 i hi).2.1 q (by omega), (h2.1 j hj).2.1 q (by omega), e]
theorem whOk_congr {F H : Nat → Int} (h : ∀ c, c < 9 → F c = H c) : whOk F = whOk H := by
  unfold whOk
  rw [h 0 (by omega), cycOk_congr (f := tl F) (g := tl H) fun j hj => h (j + 1) (by omega)]
theorem Fin.valid {X : Nat → Nat → Int} {k n m : Nat} {G H : Nat → Nat → Int} (h : Fin X k n G) (h2 : Fin X k m H) : validM n G = validM m H := by
  have key : ∀ {n m : Nat} {G H : Nat → Nat → Int}, Fin X k n G → Fin X k m H → validM n G = true → validM m H = true := fun {n m G H} h h2 hv => by
    have hl := h.len h2
    simp only [validM, Bool.and_eq_true, decide_eq_true_eq, List.all_eq_true, List.mem_range] at hv ⊢
    refine ⟨by omega, fun j hj => ?_⟩
    obtain ⟨i, hi, e⟩ := mem_spd.1 ((h.mem (H j 0)).2 ((h2.mem (H j 0)).1 (mem_spd.2 ⟨j, hj, rfl⟩)))
    rw [← whOk_congr (h.same h2 hi hj e)]
    exact hv.2 i hi
  cases hv : validM n G with
  | true => exact (key h h2 hv).symm
  | false =>
    cases hw : validM m H with
    | false => rfl
    | true => rw [key h2 h hw] at hv; cases hv
theorem sorted_eq : ∀ (L M : List Int), L.Pairwise (· < ·) → M.Pairwise (· < ·) → (∀ x, x ∈ L ↔ x ∈ M) → L = M
  | [], [], _, _, _ => rfl
  | [], b :: M, _, _, h => by have := (h b).2 (by simp); simp at this
  | a :: L, [], _, _, h => by have := (h a).1 (by simp); simp at this
  | a :: L, b :: M, hl, hm, h => by
    rw [List.pairwise_cons] at hl hm
    have e : a = b := by
      have h1 := (h a).1 (by simp)
      have h2 := (h b).2 (by simp)
      rw [List.mem_cons] at h1 h2
      rcases h1 with h1 | h1
      · exact h1
      · rcases h2 with h2 | h2
        · exact h2.symm
        · have := hl.1 b h2; have := hm.1 a h1; omega
    subst e
    rw [sorted_eq L M hl.2 hm.2 fun x => ?_]
    have := h x
    rw [List.mem_cons, List.mem_cons] at this
    constructor
    · intro hx
      rcases this.1 (.inr hx) with e | e
      · subst e; have := hl.1 x hx; omega
      · exact e
    · intro hx
      rcases this.2 (.inr hx) with e | e
      · subst e; have := hm.1 x hx; omega
      · exact e
theorem Asc.pair {n : Nat} {G : Nat → Nat → Int} (h : Asc n G) : (spd n G).Pairwise (· < ·) := by
  unfold spd
  rw [List.pairwise_map]
  refine List.Pairwise.imp_of_mem ?_ (List.pairwise_lt_range (n := n))
  intro a b ha hb hab
  exact h a b hab (by simpa using hb)
/-- two ascending lists of the same sums are one -/
theorem Fin.one {X : Nat → Nat → Int} {k n m : Nat} {G H : Nat → Nat → Int} (h : Fin X k n G) (h2 : Fin X k m H) (ha : Asc n G) (hb : Asc m H) : n = m ∧ ∀ i, i < n → ∀ c, c < 9 → G i c = H i c := by
  have hl := h.len h2
  subst hl
  refine ⟨rfl, fun i hi => ?_⟩
  have e := sorted_eq _ _ ha.pair hb.pair fun s => by rw [h.mem, h2.mem]
  have e1 : (spd n G)[i]? = (spd n H)[i]? := by rw [e]
  have e2 : G i 0 = H i 0 := by simpa [spd, List.getElem?_range hi] using e1
  exact h.same h2 hi hi e2

end Go.Proofs.Ytadjphiipnlcdaa
