/- Contracts of the functions on turns (chapter 1): impl and spec. -/
import Derived.Test.YtbbaadnadpmfeaaRows
import Derived.WalkKit
import Derived.ProofKit
import Derived.OpenShut
import Derived.Handy
import Derived.Lib.Hide
namespace Go.Proofs.Ytbbaadnadpmfeaa
open Go.ChangeShapes Go.WideShapes Go.ChangeAt Go.RowKit
set_option linter.unusedVariables false

/-- w' is w with new blocks alone: whatever was there is as it was. -/
def Ext (w w' : World) : Prop := Below w.heap.size w w'
theorem Ext.refl (w : World) : Ext w w := Below.refl _ _
theorem Ext.size {a b : World} (h : Ext a b) : a.heap.size ≤ b.heap.size := Below.size h
theorem Ext.trans {a b c : World} (h : Ext a b) (k : Ext b c) : Ext a c := Below.trans h (Below.mono k h.size)
theorem Ext.alloc {a b : World} (h : Ext a b) (o : Obj) : Ext a (b.alloc o) := Below.alloc h h.size o
theorem Ext.drew {a b : World} (h : Ext a b) : Ext a b.drew := Below.drew h
theorem Ext.set {a b : World} (h : Ext a b) {p : Addr} (hp : a.heap.size ≤ p.block) (v : Value) : Ext a (b.setCell p v) := Below.setCell h hp v
theorem Ext.below {a b : World} (h : Ext a b) : Below a.heap.size a b := h

/-- Block B of w holds just the cells xs, none of them frozen. -/
def Blk (w : World) (B : Nat) (xs : List Value) : Prop := ∃ T, w.heap[B]? = some (.cells xs.toArray T (0, 0))
theorem Blk.cell {w : World} {B : Nat} {xs : List Value} (h : Blk w B xs) : ∀ o, w.cell? ⟨B, o, none⟩ = xs[o]? := by
  obtain ⟨T, h⟩ := h; intro o; simp [World.cell?, h]
theorem Blk.free {w : World} {B : Nat} {xs : List Value} (h : Blk w B xs) : ∀ o, w.frozen? ⟨B, o, none⟩ = false := by
  obtain ⟨T, h⟩ := h; intro o; simp [World.frozen?, h]
theorem Blk.lt {w : World} {B : Nat} {xs : List Value} (h : Blk w B xs) : B < w.heap.size := by
  obtain ⟨T, h⟩ := h; exact (Array.getElem?_eq_some_iff.1 h).1
theorem Blk.keep {w w' : World} {B : Nat} {xs : List Value} (h : Blk w B xs) (k : Ext w w') : Blk w' B xs := by
  have := h.lt; obtain ⟨T, h⟩ := h; exact ⟨T, (Below.block k B this).trans h⟩
theorem Blk.alloc {w : World} {B : Nat} {xs : List Value} (h : Blk w B xs) (o : Obj) : Blk (w.alloc o) B xs := h.keep ((Ext.refl w).alloc o)
theorem Blk.new (w : World) (xs : List Value) (T : TypeId) : Blk (w.alloc (.cells xs.toArray T)) w.heap.size xs := ⟨T, (MapKept.heap_alloc w _).1⟩
theorem Blk.set {w : World} {B : Nat} {xs : List Value} (h : Blk w B xs) (o : Nat) (v : Value) : Blk (w.setCell ⟨B, o, none⟩ v) B (xs.set o v) := by
  obtain ⟨T, h⟩ := h; refine ⟨T, ?_⟩; simp [World.setCell, Array.getElem?_modify, h]
theorem Blk.other {w : World} {B : Nat} {xs : List Value} (h : Blk w B xs) {p : Addr} (hp : p.block ≠ B) (v : Value) : Blk (w.setCell p v) B xs := by
  obtain ⟨T, h⟩ := h; exact ⟨T, (Below.heap_setCell w p v B (fun e => hp e.symm)).trans h⟩

/-- n lies between lo and hi. -/
def inR (lo hi n : Int) : Bool := decide (lo ≤ n) && decide (n ≤ hi)
theorem inR_true {lo hi n : Int} (h1 : lo ≤ n) (h2 : n ≤ hi) : inR lo hi n = true := by simp [inR, h1, h2]
theorem inR_of {lo hi n : Int} (h : inR lo hi n = true) : lo ≤ n ∧ n ≤ hi := by simpa [inR] using h
theorem inR_not {lo hi n : Int} (h : ¬ (lo ≤ n ∧ n ≤ hi)) : inR lo hi n = false := by simp [inR]; omega
/-- what is left of a number behind whole turns -/
def modT (n : Int) : Int := n % 24
theorem modT_bd (n : Int) : 0 ≤ modT n ∧ modT n ≤ 23 := by unfold modT; omega
theorem tmod24 (n : Int) : -24 < n.tmod 24 ∧ n.tmod 24 < 24 ∧ ((0 ≤ n.tmod 24 ∧ n.tmod 24 = modT n) ∨ (n.tmod 24 < 0 ∧ n.tmod 24 + 24 = modT n)) := by
  unfold modT
  rcases Int.le_total 0 n with h | h
  · rw [Int.tmod_eq_emod_of_nonneg h]; omega
  · obtain ⟨m, rfl⟩ : ∃ m : Int, n = -m := ⟨-n, by omega⟩
    rw [Int.neg_tmod, Int.tmod_eq_emod_of_nonneg (by omega)]; omega
/-- n is at least 1 and divides 24 -/
def divs (n : Int) : Bool := decide (1 ≤ n) && (24 % n == 0)
theorem divs_le {n : Int} (h : divs n = true) : 1 ≤ n ∧ n ≤ 24 ∧ 24 % n = 0 := by
  simp [divs] at h
  refine ⟨h.1, ?_, h.2⟩
  exact Int.le_of_dvd (by omega) (Int.dvd_of_emod_eq_zero h.2)


theorem l6In_any (n lo hi : Int) (w : World) : Calls Try.prog 39 #[.int .i64 n, .int .i64 lo, .int .i64 hi] w fun e w' => e = .returned (.bool (inR lo hi n)) ∧ w = w' := by
  go_enter Try.func39, Try.ntmps39
  go_wp2
  all_goals (go_ret; exact ⟨by unfold inR; simp [*]; try omega, rfl⟩)

theorem within_any (n lo hi : Int) (w : World) : Calls Try.prog 37 #[.int .i64 n, .int .i64 lo, .int .i64 hi] w fun e w' => e = .returned (.bool (inR lo hi n)) ∧ w = w' := by
  go_enter Try.func37, Try.ntmps37
  go_wp2
  all_goals (go_ret; exact ⟨by unfold inR; simp [*]; try omega, rfl⟩)

theorem l1Is_any (n : Int) (w : World) : Calls Try.prog 29 #[.int .i64 n] w fun e w' => e = .returned (.bool (inR 0 23 n)) ∧ w = w' := by
  go_enter Try.func29, Try.ntmps29
  go_wp2_with (go_at_call 39; ((with_reducible refine (l6In_any _ _ _ _).mono ?_); rintro e w' ⟨rfl, rfl⟩))
  go_ret; exact ⟨rfl, rfl⟩

theorem tvalid_any (n : Int) (w : World) : Calls Try.prog 31 #[.int .i64 n] w fun e w' => e = .returned (.bool (inR 0 23 n)) ∧ w = w' := by
  go_enter Try.func31, Try.ntmps31
  go_wp2_with (go_at_call 37; ((with_reducible refine (within_any _ _ _ _).mono ?_); rintro e w' ⟨rfl, rfl⟩))
  go_ret; exact ⟨rfl, rfl⟩

theorem divides_any (n : Int) (w : World) : Calls Try.prog 36 #[.int .i64 n] w fun e w' => e = .returned (.bool (divs n)) ∧ w = w' := by
  go_enter Try.func36, Try.ntmps36
  go_wp2
  all_goals (go_ret; exact ⟨by unfold divs; simp [*]; try omega, rfl⟩)

theorem l1Mod_any (n : Int) (w : World) : Calls Try.prog 40 #[.int .i64 n] w fun e w' => e = .returned (.int .i64 (modT n)) ∧ w = w' := by
  obtain ⟨h3, h4, h5⟩ := tmod24 n
  rcases h5 with ⟨h5, h6⟩ | ⟨h5, h6⟩
  · have H := Lib.hid h6; clear h6
    go_enter Try.func40, Try.ntmps40
    go_wp2
    go_ret; exact ⟨by rw [← H.out]; rfl, rfl⟩
  · have H := Lib.hid h6; clear h6
    go_enter Try.func40, Try.ntmps40
    go_wp2
    go_ret; exact ⟨by rw [← H.out]; rfl, rfl⟩

theorem turnOf_any (n : Int) (w : World) : Calls Try.prog 38 #[.int .i64 n] w fun e w' => e = .returned (.int .i64 (modT n)) ∧ w = w' := by
  obtain ⟨h3, h4, h5⟩ := tmod24 n
  have h6 : (n.tmod 24 + 24) % 24 = modT n := by unfold modT at *; omega
  have H := Lib.hid h6; clear h6 h5
  go_enter Try.func38, Try.ntmps38
  go_wp2
  go_ret; exact ⟨by rw [← H.out]; rfl, rfl⟩

/-- what TurnOf returns -/
def turnOfM (num den : Int) : Int × Bool := if divs den && inR (-1000000) 1000000 num then (modT (num * (24 / den)), true) else (0, false)
def tupIB (p : Int × Bool) : Value := .tuple #[.int .i64 p.1, .bool p.2]
theorem mul_bd {num q : Int} (h1 : -1000000 ≤ num) (h2 : num ≤ 1000000) (h3 : 0 ≤ q) (h4 : q ≤ 24) : -24000000 ≤ num * q ∧ num * q ≤ 24000000 := by
  constructor
  · have := Int.mul_le_mul_of_nonneg_right h1 h3; omega
  · have := Int.mul_le_mul_of_nonneg_right h2 h3; omega
theorem div24_bd {d : Int} (h : 1 ≤ d) : 0 ≤ 24 / d ∧ 24 / d ≤ 24 :=
  ⟨Int.ediv_nonneg (by omega) (by omega), Int.ediv_le_self _ (by omega)⟩
theorem sTurnOf_any (num den : Int) (w : World) : Calls Try.prog 19 #[.int .i64 num, .int .i64 den] w fun e w' => e = .returned (tupIB (turnOfM num den)) ∧ w = w' := by
  by_cases hd : 1 ≤ den ∧ den ≤ 24
  · obtain ⟨hd1, hd2⟩ := hd
    have e1 : inR 1 24 den = true := inR_true hd1 hd2
    obtain ⟨q1, q2⟩ := div24_bd hd1
    by_cases hz : 24 % den = 0
    · have hz1 : (24 % den != 0) = false := by simp [hz]
      have e3 : divs den = true := by simp [divs, hd1, hz]
      by_cases hn : -1000000 ≤ num ∧ num ≤ 1000000
      · obtain ⟨hn1, hn2⟩ := hn
        have e2 : inR (-1000000) 1000000 num = true := inR_true hn1 hn2
        obtain ⟨m1, m2⟩ := mul_bd hn1 hn2 q1 q2
        have H := Lib.hid (show turnOfM num den = (modT (num * (24 / den)), true) from by unfold turnOfM; simp [e3, e2])
        clear e3 hz
        go_enter Try.func19, Try.ntmps19
        go_wp2_with (first | (go_at_call 39; ((with_reducible refine (l6In_any _ _ _ _).mono ?_); rintro e w' ⟨rfl, rfl⟩)) | (go_at_call 40; ((with_reducible refine (l1Mod_any _ _).mono ?_); rintro e w' ⟨rfl, rfl⟩)))
        go_ret2; exact ⟨by rw [H.out]; rfl, rfl⟩
      · have e2 : inR (-1000000) 1000000 num = false := inR_not hn
        have H := Lib.hid (show turnOfM num den = (0, false) from by unfold turnOfM; simp [e2])
        clear e3 hz
        go_enter Try.func19, Try.ntmps19
        go_wp2_with (first | (go_at_call 39; ((with_reducible refine (l6In_any _ _ _ _).mono ?_); rintro e w' ⟨rfl, rfl⟩)))
        go_ret2; exact ⟨by rw [H.out]; rfl, rfl⟩
    · have hz1 : (24 % den != 0) = true := by simp [hz]
      have H := Lib.hid (show turnOfM num den = (0, false) from by unfold turnOfM divs; simp [hz])
      go_enter Try.func19, Try.ntmps19
      go_wp2_with (first | (go_at_call 39; ((with_reducible refine (l6In_any _ _ _ _).mono ?_); rintro e w' ⟨rfl, rfl⟩)))
      go_ret2; exact ⟨by rw [H.out]; rfl, rfl⟩
  · have e1 : inR 1 24 den = false := inR_not hd
    have e0 : divs den = false := by
      cases h : divs den with
      | false => rfl
      | true => exact absurd ⟨(divs_le h).1, (divs_le h).2.1⟩ hd
    have H := Lib.hid (show turnOfM num den = (0, false) from by unfold turnOfM; simp [e0])
    clear e0
    go_enter Try.func19, Try.ntmps19
    go_wp2_with (first | (go_at_call 39; ((with_reducible refine (l6In_any _ _ _ _).mono ?_); rintro e w' ⟨rfl, rfl⟩)))
    go_ret2; exact ⟨by rw [H.out]; rfl, rfl⟩

theorem iTurnOf_any (num den : Int) (w : World) : Calls Try.prog 18 #[.int .i64 num, .int .i64 den] w fun e w' => e = .returned (tupIB (turnOfM num den)) ∧ w = w' := by
  by_cases hd : divs den = true
  · obtain ⟨hd1, hd2, hz⟩ := divs_le hd
    obtain ⟨q1, q2⟩ := div24_bd hd1
    by_cases hn : -1000000 ≤ num ∧ num ≤ 1000000
    · obtain ⟨hn1, hn2⟩ := hn
      have e2 : inR (-1000000) 1000000 num = true := inR_true hn1 hn2
      obtain ⟨m1, m2⟩ := mul_bd hn1 hn2 q1 q2
      have H := Lib.hid (show turnOfM num den = (modT (num * (24 / den)), true) from by unfold turnOfM; simp [hd, e2])
      clear hz
      go_enter Try.func18, Try.ntmps18
      go_wp2_with (first | (go_at_call 36; ((with_reducible refine (divides_any _ _).mono ?_); rintro e w' ⟨rfl, rfl⟩)) | (go_at_call 37; ((with_reducible refine (within_any _ _ _ _).mono ?_); rintro e w' ⟨rfl, rfl⟩)) | (go_at_call 38; ((with_reducible refine (turnOf_any _ _).mono ?_); rintro e w' ⟨rfl, rfl⟩)))
      go_ret2; exact ⟨by rw [H.out]; rfl, rfl⟩
    · have e2 : inR (-1000000) 1000000 num = false := inR_not hn
      have H := Lib.hid (show turnOfM num den = (0, false) from by unfold turnOfM; simp [e2])
      clear hz
      go_enter Try.func18, Try.ntmps18
      go_wp2_with (first | (go_at_call 36; ((with_reducible refine (divides_any _ _).mono ?_); rintro e w' ⟨rfl, rfl⟩)) | (go_at_call 37; ((with_reducible refine (within_any _ _ _ _).mono ?_); rintro e w' ⟨rfl, rfl⟩)))
      go_ret2; exact ⟨by rw [H.out]; rfl, rfl⟩
  · have hd' : divs den = false := by simpa using hd
    have H := Lib.hid (show turnOfM num den = (0, false) from by unfold turnOfM; simp [hd'])
    clear hd
    go_enter Try.func18, Try.ntmps18
    go_wp2_with (first | (go_at_call 36; ((with_reducible refine (divides_any _ _).mono ?_); rintro e w' ⟨rfl, rfl⟩)) | (go_at_call 37; ((with_reducible refine (within_any _ _ _ _).mono ?_); rintro e w' ⟨rfl, rfl⟩)))
    go_ret2; exact ⟨by rw [H.out]; rfl, rfl⟩

/-- what TurnAdd returns -/
def turnAddM (a b : Int) : Int × Bool := if inR 0 23 a && inR 0 23 b then (modT (a + b), true) else (0, false)

theorem sTurnAdd_any (a b : Int) (w : World) : Calls Try.prog 23 #[.int .i64 a, .int .i64 b] w fun e w' => e = .returned (tupIB (turnAddM a b)) ∧ w = w' := by
  by_cases ha : inR 0 23 a = true
  · by_cases hb : inR 0 23 b = true
    · obtain ⟨a1, a2⟩ := inR_of ha
      obtain ⟨b1, b2⟩ := inR_of hb
      have H := Lib.hid (show turnAddM a b = (modT (a + b), true) from by unfold turnAddM; simp [ha, hb])
      go_enter Try.func23, Try.ntmps23
      go_wp2_with (first | (go_at_call 29; ((with_reducible refine (l1Is_any _ _).mono ?_); rintro e w' ⟨rfl, rfl⟩)) | (go_at_call 40; ((with_reducible refine (l1Mod_any _ _).mono ?_); rintro e w' ⟨rfl, rfl⟩)))
      go_ret2; exact ⟨by rw [H.out]; rfl, rfl⟩
    · have hb' : inR 0 23 b = false := by simpa using hb
      have H := Lib.hid (show turnAddM a b = (0, false) from by unfold turnAddM; simp [hb'])
      clear hb
      go_enter Try.func23, Try.ntmps23
      go_wp2_with (first | (go_at_call 29; ((with_reducible refine (l1Is_any _ _).mono ?_); rintro e w' ⟨rfl, rfl⟩)) | (go_at_call 40; ((with_reducible refine (l1Mod_any _ _).mono ?_); rintro e w' ⟨rfl, rfl⟩)))
      go_ret2; exact ⟨by rw [H.out]; rfl, rfl⟩
  · have ha' : inR 0 23 a = false := by simpa using ha
    have H := Lib.hid (show turnAddM a b = (0, false) from by unfold turnAddM; simp [ha'])
    clear ha
    go_enter Try.func23, Try.ntmps23
    go_wp2_with (first | (go_at_call 29; ((with_reducible refine (l1Is_any _ _).mono ?_); rintro e w' ⟨rfl, rfl⟩)) | (go_at_call 40; ((with_reducible refine (l1Mod_any _ _).mono ?_); rintro e w' ⟨rfl, rfl⟩)))
    go_ret2; exact ⟨by rw [H.out]; rfl, rfl⟩

theorem iTurnAdd_any (a b : Int) (w : World) : Calls Try.prog 22 #[.int .i64 a, .int .i64 b] w fun e w' => e = .returned (tupIB (turnAddM a b)) ∧ w = w' := by
  by_cases ha : inR 0 23 a = true
  · by_cases hb : inR 0 23 b = true
    · obtain ⟨a1, a2⟩ := inR_of ha
      obtain ⟨b1, b2⟩ := inR_of hb
      have H := Lib.hid (show turnAddM a b = (modT (a + b), true) from by unfold turnAddM; simp [ha, hb])
      go_enter Try.func22, Try.ntmps22
      go_wp2_with (first | (go_at_call 31; ((with_reducible refine (tvalid_any _ _).mono ?_); rintro e w' ⟨rfl, rfl⟩)) | (go_at_call 38; ((with_reducible refine (turnOf_any _ _).mono ?_); rintro e w' ⟨rfl, rfl⟩)))
      go_ret2; exact ⟨by rw [H.out]; rfl, rfl⟩
    · have hb' : inR 0 23 b = false := by simpa using hb
      have H := Lib.hid (show turnAddM a b = (0, false) from by unfold turnAddM; simp [hb'])
      clear hb
      go_enter Try.func22, Try.ntmps22
      go_wp2_with (first | (go_at_call 31; ((with_reducible refine (tvalid_any _ _).mono ?_); rintro e w' ⟨rfl, rfl⟩)) | (go_at_call 38; ((with_reducible refine (turnOf_any _ _).mono ?_); rintro e w' ⟨rfl, rfl⟩)))
      go_ret2; exact ⟨by rw [H.out]; rfl, rfl⟩
  · have ha' : inR 0 23 a = false := by simpa using ha
    have H := Lib.hid (show turnAddM a b = (0, false) from by unfold turnAddM; simp [ha'])
    clear ha
    go_enter Try.func22, Try.ntmps22
    go_wp2_with (first | (go_at_call 31; ((with_reducible refine (tvalid_any _ _).mono ?_); rintro e w' ⟨rfl, rfl⟩)) | (go_at_call 38; ((with_reducible refine (turnOf_any _ _).mono ?_); rintro e w' ⟨rfl, rfl⟩)))
    go_ret2; exact ⟨by rw [H.out]; rfl, rfl⟩

/-- what TurnTimes returns -/
def turnTimesM (a n : Int) : Int × Bool := if inR 0 23 a && inR (-1000000) 1000000 n then (modT (a * n), true) else (0, false)
theorem mul_bd2 {a n : Int} (h3 : 0 ≤ a) (h4 : a ≤ 23) (h1 : -1000000 ≤ n) (h2 : n ≤ 1000000) : -24000000 ≤ a * n ∧ a * n ≤ 24000000 := by
  have := mul_bd h1 h2 h3 (by omega)
  rwa [Int.mul_comm] at this

theorem sTurnTimes_any (a n : Int) (w : World) : Calls Try.prog 25 #[.int .i64 a, .int .i64 n] w fun e w' => e = .returned (tupIB (turnTimesM a n)) ∧ w = w' := by
  by_cases ha : inR 0 23 a = true
  · by_cases hb : inR (-1000000) 1000000 n = true
    · obtain ⟨a1, a2⟩ := inR_of ha
      obtain ⟨b1, b2⟩ := inR_of hb
      obtain ⟨m1, m2⟩ := mul_bd2 a1 a2 b1 b2
      have H := Lib.hid (show turnTimesM a n = (modT (a * n), true) from by unfold turnTimesM; simp [ha, hb])
      go_enter Try.func25, Try.ntmps25
      go_wp2_with (first | (go_at_call 29; ((with_reducible refine (l1Is_any _ _).mono ?_); rintro e w' ⟨rfl, rfl⟩)) | (go_at_call 39; ((with_reducible refine (l6In_any _ _ _ _).mono ?_); rintro e w' ⟨rfl, rfl⟩)) | (go_at_call 40; ((with_reducible refine (l1Mod_any _ _).mono ?_); rintro e w' ⟨rfl, rfl⟩)))
      go_ret2; exact ⟨by rw [H.out]; rfl, rfl⟩
    · have hb' : inR (-1000000) 1000000 n = false := by simpa using hb
      have H := Lib.hid (show turnTimesM a n = (0, false) from by unfold turnTimesM; simp [hb'])
      clear hb
      go_enter Try.func25, Try.ntmps25
      go_wp2_with (first | (go_at_call 29; ((with_reducible refine (l1Is_any _ _).mono ?_); rintro e w' ⟨rfl, rfl⟩)) | (go_at_call 39; ((with_reducible refine (l6In_any _ _ _ _).mono ?_); rintro e w' ⟨rfl, rfl⟩)) | (go_at_call 40; ((with_reducible refine (l1Mod_any _ _).mono ?_); rintro e w' ⟨rfl, rfl⟩)))
      go_ret2; exact ⟨by rw [H.out]; rfl, rfl⟩
  · have ha' : inR 0 23 a = false := by simpa using ha
    have H := Lib.hid (show turnTimesM a n = (0, false) from by unfold turnTimesM; simp [ha'])
    clear ha
    go_enter Try.func25, Try.ntmps25
    go_wp2_with (first | (go_at_call 29; ((with_reducible refine (l1Is_any _ _).mono ?_); rintro e w' ⟨rfl, rfl⟩)) | (go_at_call 39; ((with_reducible refine (l6In_any _ _ _ _).mono ?_); rintro e w' ⟨rfl, rfl⟩)) | (go_at_call 40; ((with_reducible refine (l1Mod_any _ _).mono ?_); rintro e w' ⟨rfl, rfl⟩)))
    go_ret2; exact ⟨by rw [H.out]; rfl, rfl⟩

theorem iTurnTimes_any (a n : Int) (w : World) : Calls Try.prog 20 #[.int .i64 a, .int .i64 n] w fun e w' => e = .returned (tupIB (turnTimesM a n)) ∧ w = w' := by
  by_cases ha : inR 0 23 a = true
  · by_cases hb : inR (-1000000) 1000000 n = true
    · obtain ⟨a1, a2⟩ := inR_of ha
      obtain ⟨b1, b2⟩ := inR_of hb
      obtain ⟨m1, m2⟩ := mul_bd2 a1 a2 b1 b2
      have H := Lib.hid (show turnTimesM a n = (modT (a * n), true) from by unfold turnTimesM; simp [ha, hb])
      go_enter Try.func20, Try.ntmps20
      go_wp2_with (first | (go_at_call 31; ((with_reducible refine (tvalid_any _ _).mono ?_); rintro e w' ⟨rfl, rfl⟩)) | (go_at_call 37; ((with_reducible refine (within_any _ _ _ _).mono ?_); rintro e w' ⟨rfl, rfl⟩)) | (go_at_call 38; ((with_reducible refine (turnOf_any _ _).mono ?_); rintro e w' ⟨rfl, rfl⟩)))
      go_ret2; exact ⟨by rw [H.out]; rfl, rfl⟩
    · have hb' : inR (-1000000) 1000000 n = false := by simpa using hb
      have H := Lib.hid (show turnTimesM a n = (0, false) from by unfold turnTimesM; simp [hb'])
      clear hb
      go_enter Try.func20, Try.ntmps20
      go_wp2_with (first | (go_at_call 31; ((with_reducible refine (tvalid_any _ _).mono ?_); rintro e w' ⟨rfl, rfl⟩)) | (go_at_call 37; ((with_reducible refine (within_any _ _ _ _).mono ?_); rintro e w' ⟨rfl, rfl⟩)) | (go_at_call 38; ((with_reducible refine (turnOf_any _ _).mono ?_); rintro e w' ⟨rfl, rfl⟩)))
      go_ret2; exact ⟨by rw [H.out]; rfl, rfl⟩
  · have ha' : inR 0 23 a = false := by simpa using ha
    have H := Lib.hid (show turnTimesM a n = (0, false) from by unfold turnTimesM; simp [ha'])
    clear ha
    go_enter Try.func20, Try.ntmps20
    go_wp2_with (first | (go_at_call 31; ((with_reducible refine (tvalid_any _ _).mono ?_); rintro e w' ⟨rfl, rfl⟩)) | (go_at_call 37; ((with_reducible refine (within_any _ _ _ _).mono ?_); rintro e w' ⟨rfl, rfl⟩)) | (go_at_call 38; ((with_reducible refine (turnOf_any _ _).mono ?_); rintro e w' ⟨rfl, rfl⟩)))
    go_ret2; exact ⟨by rw [H.out]; rfl, rfl⟩

end Go.Proofs.Ytbbaadnadpmfeaa
