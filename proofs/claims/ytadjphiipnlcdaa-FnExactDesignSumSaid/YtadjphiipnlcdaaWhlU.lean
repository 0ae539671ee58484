/- Wheels: impl.DesignTidy; the laws' marks and holds. -/
import Derived.Test.YtadjphiipnlcdaaWhlO
namespace Go.Proofs.Ytadjphiipnlcdaa
open Go.ChangeShapes Go.WideShapes Go.ChangeAt Go.RowKit
set_option linter.unusedVariables false
set_option maxRecDepth 100000


set_option maxHeartbeats 1000000 in
theorem iDesignTidy_any (a : Option Addr) (N cap : Nat) (X : Nat → Nat → Int) (w : World) (hc : N ≤ cap) (hn : N ≤ 1048576) (h : Whs w a N X) :
    Calls Try.prog 24 #[.slice a N cap] w (TidyTo X X N w) := by
  go_enter Try.func24, Try.ntmps24
  go_wp2_with fail
  refine (changedT_any a N cap X _ hc hn h).mono ?_
  rintro e w1 ⟨v, ok, m, R, rfl, oc, tr, x1⟩
  have T1 := Lib.hid tr
  clear tr
  go_wp2
  go_ret2
  exact ⟨v, ok, m, R, rfl, oc, T1.out, x1⟩

/-- the cells of n wheels lie from the start of block g on -/
def Cel (w : World) (g n : Nat) (c : Nat → Int) : Prop := ∃ xs, Blk w g xs ∧ ∀ j, j < n * 9 → xs[j]? = some (.int .i64 (c j))
theorem Cel.cell {w : World} {g n j : Nat} {c : Nat → Int} (h : Cel w g n c) (hj : j < n * 9) : w.cell? ⟨g, j, none⟩ = some (.int .i64 (c j)) := by
  obtain ⟨xs, h1, h2⟩ := h
  rw [h1.cell]; exact h2 j hj
theorem Cel.free {w : World} {g n : Nat} {c : Nat → Int} (h : Cel w g n c) (j : Nat) : w.frozen? ⟨g, j, none⟩ = false := by
  obtain ⟨xs, h1, h2⟩ := h
  exact h1.free j
theorem Cel.lt {w : World} {g n : Nat} {c : Nat → Int} (h : Cel w g n c) : g < w.heap.size := by
  obtain ⟨xs, h1, h2⟩ := h
  exact h1.lt
theorem Cel.keep {w w' : World} {g n : Nat} {c : Nat → Int} (h : Cel w g n c) (k : Ext w w') : Cel w' g n c := by
  obtain ⟨xs, h1, h2⟩ := h
  exact ⟨xs, h1.keep k, h2⟩
theorem Cel.keepB {w w' : World} {g n R : Nat} {c : Nat → Int} (h : Cel w g n c) (k : ExtB R w w') (hR : g ≠ R) : Cel w' g n c := by
  obtain ⟨xs, h1, h2⟩ := h
  exact ⟨xs, h1.keepB k hR, h2⟩
theorem Cel.congr {w : World} {g n : Nat} {c d : Nat → Int} (h : Cel w g n c) (k : ∀ j, j < n * 9 → c j = d j) : Cel w g n d := by
  obtain ⟨xs, h1, h2⟩ := h
  exact ⟨xs, h1, fun j hj => by rw [h2 j hj, k j hj]⟩
theorem Cel.set {w : World} {g n : Nat} {c : Nat → Int} (h : Cel w g n c) (j : Nat) (u : Int) (hj : j < n * 9) :
    Cel (w.setCell ⟨g, j, none⟩ (.int .i64 u)) g n (fun i => if i = j then u else c i) := by
  obtain ⟨xs, h1, h2⟩ := h
  refine ⟨_, h1.set j _, fun i hi => ?_⟩
  rw [List.getElem?_set]
  by_cases hij : i = j
  · subst hij
    have : i < xs.length := by
      have := h2 i hi
      exact (List.getElem?_eq_some_iff.1 this).1
    simp [this]
  · rw [if_neg (Ne.symm hij)]
    simp only [if_neg hij]
    exact h2 i hi
theorem Cel.whs {w : World} {g n : Nat} {c : Nat → Int} (h : Cel w g n c) : Whs w (some ⟨g, 0, none⟩) n (fun i k => c (i * 9 + k)) :=
  .inr ⟨g, 0, rfl, h.lt, fun i hi k hk => by rw [Nat.zero_add, h.cell (by omega)]⟩
theorem Blk.cel {w : World} {B n : Nat} {G : Nat → Nat → Int} (h : Blk w B (flat n G)) : Cel w B n (fun j => G (j / 9) (j % 9)) :=
  ⟨_, h, fun j hj => flat_get n G hj⟩
theorem OwnC.cel {w : World} {base m : Nat} {v : Value} {R : Nat → Nat → Int} (h : OwnC w base v m R) :
    (v = .slice none 0 0 ∧ m = 0) ∨ ∃ g c2, v = .slice (some ⟨g, 0, none⟩) m c2 ∧ m ≤ c2 ∧ c2 ≤ maxLen ∧ base ≤ g ∧ Cel w g m (fun j => R (j / 9) (j % 9)) := by
  rcases h with h | ⟨g, cap, c2, rfl, h1, h2, h3⟩
  · exact .inl h
  · refine .inr ⟨g, c2, rfl, h1, h2, ?_⟩
    obtain ⟨hl, h | ⟨g', cap', cur, hv, hb, hg, _, _, hs, ht⟩⟩ := h3
    · cases h.1
    · cases hv
      refine ⟨hb, cur.toList, ⟨_, by simpa using hg⟩, fun j hj => ?_⟩
      rw [← flat_get m R hj, ← ht, List.getElem?_take, if_pos hj]
theorem Whs.congr {w : World} {a : Option Addr} {n : Nat} {G H : Nat → Nat → Int} (h : Whs w a n G) (k : ∀ i, i < n → ∀ c, c < 9 → G i c = H i c) : Whs w a n H := by
  rcases h with h | ⟨b, off, rfl, hb, hc⟩
  · exact .inl h
  · exact .inr ⟨b, off, rfl, hb, fun i hi c h9 => by rw [hc i hi c h9, k i hi c h9]⟩

set_option maxHeartbeats 1000000 in
theorem markNil (a : Option Addr) (cap m : Nat) (w : World) : Calls Try.prog 16 #[.slice a (0 : Nat) cap, .int .i64 (m : Int)] w fun e w' => e = .returned (.int .i64 (m : Int)) ∧ w = w' := by
  go_enter Try.func16, Try.ntmps16
  go_wp2
  refine wp_loop_rounds 1 ?_; rw [rounds_succ]
  go_wp2
  go_ret; exact ⟨rfl, rfl⟩

set_option maxHeartbeats 1000000 in
theorem heldNil (a : Option Addr) (cap m : Nat) (w : World) : Calls Try.prog 17 #[.slice a (0 : Nat) cap, .int .i64 (m : Int)] w fun e w' => e = .returned (.int .i64 (m : Int)) ∧ w = w' := by
  go_enter Try.func17, Try.ntmps17
  go_wp2
  refine wp_loop_rounds 1 ?_; rw [rounds_succ]
  go_wp2
  go_ret; exact ⟨rfl, rfl⟩

set_option maxHeartbeats 1000000 in
theorem heldWh (g n cap m : Nat) (w : World) (hm : m ≤ 1000) (hn : n ≤ 1048576) (hc : n ≤ cap) (h : Cel w g n (fun j => (m : Int) + j)) :
    Calls Try.prog 17 #[.slice (some ⟨g, 0, none⟩) n cap, .int .i64 (m : Int)] w fun e w' => e = .returned (.int .i64 ((m + n * 9 : Nat) : Int)) ∧ w = w' := by
  have H := Lib.hid h
  clear h
  go_enter Try.func17, Try.ntmps17
  go_wp2
  go_loop [1, 5] (fun q i => ∃ k : Nat, k ≤ n ∧ i = .int .i64 (k : Int) ∧ q = .int .i64 ((m + k * 9 : Nat) : Int)) (fun _ i => n - (intOf i).toNat)
  case atStart => exact ⟨0, by omega, rfl, by simp⟩
  case round =>
    obtain ⟨k, hk, rfl, rfl⟩ := hrel
    by_cases hkn : k < n
    · have c1 := H.out.cell (j := k * 9) (by omega)
      go_wp2
      go_loop [1, 6] (fun q i => ∃ j : Nat, j ≤ 8 ∧ i = .int .i64 (j : Int) ∧ q = .int .i64 ((m + k * 9 + 1 + j : Nat) : Int)) (fun _ i => 8 - (intOf i).toNat)
      case atStart => exact ⟨0, by omega, rfl, by go_num⟩
      case round =>
        obtain ⟨j, hj, rfl, rfl⟩ := hrel
        by_cases hj8 : j < 8
        · have c2 := H.out.cell (j := k * 9 + 1 + j) (by omega)
          go_wp2
          go_round
          case rel => exact ⟨j + 1, by omega, by go_num, by go_num⟩
          case measure => simp [intOf]; omega
        · have hj' : j = 8 := by omega
          subst hj'
          go_wp2
          go_round
          case rel => exact ⟨k + 1, by omega, by go_num, by go_num⟩
          case measure => simp [intOf]; omega
    · have hkn' : k = n := by omega
      subst hkn'
      go_wp2
      go_ret; exact ⟨rfl, rfl⟩

/-- what marking a list leaves -/
def MarkedW (g n m : Nat) (w : World) (e : Ending) (w' : World) : Prop :=
  e = .returned (.int .i64 ((m + n * 9 : Nat) : Int)) ∧ Cel w' g n (fun j => (m : Int) + j) ∧ ExtB g w w'
set_option maxHeartbeats 1000000 in
theorem markWh (g n cap m : Nat) (w : World) (c : Nat → Int) (hm : m ≤ 1000000000) (hn : n ≤ 1048576) (hc : n ≤ cap) (h : Cel w g n c) :
    Calls Try.prog 16 #[.slice (some ⟨g, 0, none⟩) n cap, .int .i64 (m : Int)] w (MarkedW g n m w) := by
  go_enter Try.func16, Try.ntmps16
  go_wp2
  go_loopw [1, 5] (fun q i wr => ∃ k : Nat, k ≤ n ∧ i = .int .i64 (k : Int) ∧ q = .int .i64 ((m + k * 9 : Nat) : Int) ∧ Cel wr g n (fun j => if j < k * 9 then (m : Int) + j else c j) ∧ ExtB g w wr) (fun _ i _ => n - (intOf i).toNat)
  case atStart => exact ⟨0, by omega, rfl, by simp, by simpa using h, ExtB.refl _ _⟩
  case round =>
    obtain ⟨k, hk, rfl, rfl, ho, hx⟩ := hrel
    clear h
    by_cases hkn : k < n
    · have c1 := ho.cell (j := k * 9) (by omega)
      have f1 := ho.free (k * 9)
      have o2 := (ho.set (k * 9) ((m + k * 9 : Nat) : Int) (by omega)).congr (d := fun j => if j < k * 9 + 1 then (m : Int) + j else c j) (fun j hj => by
        by_cases h1 : j = k * 9
        · subst h1; simp
        · by_cases h2 : j < k * 9
          · rw [if_neg h1, if_pos h2, if_pos (by omega)]
          · rw [if_neg h1, if_neg h2, if_neg (by omega)])
      have x2 := hx.set (p := ⟨g, k * 9, none⟩) (.inl rfl) (.int .i64 ((m + k * 9 : Nat) : Int))
      clear ho hx
      go_wp2
      go_loopw [1, 6] (fun q i wr => ∃ j : Nat, j ≤ 8 ∧ i = .int .i64 (j : Int) ∧ q = .int .i64 ((m + k * 9 + 1 + j : Nat) : Int) ∧ Cel wr g n (fun i => if i < k * 9 + 1 + j then (m : Int) + i else c i) ∧ ExtB g w wr) (fun _ i _ => 8 - (intOf i).toNat)
      case atStart => exact ⟨0, by omega, rfl, by go_num, o2, x2⟩
      case round =>
        obtain ⟨j, hj, rfl, rfl, hp, hy⟩ := hrel
        clear o2 x2 c1 f1
        by_cases hj8 : j < 8
        · have c2 := hp.cell (j := k * 9 + 1 + j) (by omega)
          have f2 := hp.free (k * 9 + 1 + j)
          have o3 := (hp.set (k * 9 + 1 + j) ((m + k * 9 + 1 + j : Nat) : Int) (by omega)).congr (d := fun i => if i < k * 9 + 1 + (j + 1) then (m : Int) + i else c i) (fun i hi => by
            by_cases h1 : i = k * 9 + 1 + j
            · subst h1; simp; omega
            · by_cases h2 : i < k * 9 + 1 + j
              · rw [if_neg h1, if_pos h2, if_pos (by omega)]
              · rw [if_neg h1, if_neg h2, if_neg (by omega)])
          have x3 := hy.set (p := ⟨g, k * 9 + 1 + j, none⟩) (.inl rfl) (.int .i64 ((m + k * 9 + 1 + j : Nat) : Int))
          clear hp hy
          go_wp2
          go_roundw
          case rel => exact ⟨j + 1, by omega, by go_num, by go_num, o3, x3⟩
          case measure => simp [intOf]; omega
        · have hj' : j = 8 := by omega
          subst hj'
          go_wp2
          go_roundw
          case rel => exact ⟨k + 1, by omega, by go_num, by go_num, hp.congr (fun i hi => by rw [show k * 9 + 1 + 8 = (k + 1) * 9 by omega]), hy⟩
          case measure => simp [intOf]; omega
    · have hkn' : k = n := by omega
      subst hkn'
      go_wp2
      go_ret; exact ⟨rfl, ho.congr (fun i hi => by simp [hi]), hx⟩

end Go.Proofs.Ytadjphiipnlcdaa
