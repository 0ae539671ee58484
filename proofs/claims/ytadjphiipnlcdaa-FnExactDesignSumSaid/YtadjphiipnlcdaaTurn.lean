/- Contracts of the functions on turns (chapter 1): impl and spec. -/
import Derived.Test.YtadjphiipnlcdaaRows
import Derived.WalkKit
import Derived.ProofKit
import Derived.OpenShut
import Derived.Handy
import Derived.Deep.QuietTactic
import Derived.BigQuiet
import Derived.Lib.Hide
namespace Go.Proofs.Ytadjphiipnlcdaa
open Go.ChangeShapes Go.WideShapes Go.ChangeAt Go.RowKit
set_option linter.unusedVariables false
set_option maxRecDepth 100000

/-- w' is w with new blocks alone: whatever was there is as it was. -/
def Ext (w w' : World) : Prop := Below w.heap.size w w'
theorem Ext.refl (w : World) : Ext w w := Below.refl _ _
theorem Ext.size {a b : World} (h : Ext a b) : a.heap.size ≤ b.heap.size := Below.size h
theorem Ext.trans {a b c : World} (h : Ext a b) (k : Ext b c) : Ext a c := Below.trans h (Below.mono k h.size)
theorem Ext.alloc {a b : World} (h : Ext a b) (o : Obj) : Ext a (b.alloc o) := Below.alloc h h.size o
theorem Ext.drew {a b : World} (h : Ext a b) : Ext a b.drew := Below.drew h
theorem Ext.set {a b : World} (h : Ext a b) {p : Addr} (hp : a.heap.size ≤ p.block) (v : Value) : Ext a (b.setCell p v) := Below.setCell h hp v
theorem Ext.below {a b : World} (h : Ext a b) : Below a.heap.size a b := h

/-- Block B of w holds just the cells xs, none of them frozen. -/
def Blk (w : World) (B : Nat) (xs : List Value) : Prop := ∃ T, w.heap[B]? = some (.cells xs.toArray T (0, 0))
theorem Blk.cell {w : World} {B : Nat} {xs : List Value} (h : Blk w B xs) : ∀ o, w.cell? ⟨B, o, none⟩ = xs[o]? := by
  obtain ⟨T, h⟩ := h; intro o; simp [World.cell?, h]
theorem Blk.free {w : World} {B : Nat} {xs : List Value} (h : Blk w B xs) : ∀ o, w.frozen? ⟨B, o, none⟩ = false := by
  obtain ⟨T, h⟩ := h; intro o; simp [World.frozen?, h]
theorem Blk.lt {w : World} {B : Nat} {xs : List Value} (h : Blk w B xs) : B < w.heap.size := by
  obtain ⟨T, h⟩ := h; exact (Array.getElem?_eq_some_iff.1 h).1
theorem Blk.keep {w w' : World} {B : Nat} {xs : List Value} (h : Blk w B xs) (k : Ext w w') : Blk w' B xs := by
  have := h.lt; obtain ⟨T, h⟩ := h; exact ⟨T, (Below.block k B this).trans h⟩
theorem Blk.alloc {w : World} {B : Nat} {xs : List Value} (h : Blk w B xs) (o : Obj) : Blk (w.alloc o) B xs := h.keep ((Ext.refl w).alloc o)
theorem Blk.new (w : World) (xs : List Value) (T : TypeId) : Blk (w.alloc (.cells xs.toArray T)) w.heap.size xs := ⟨T, (MapKept.heap_alloc w _).1⟩
theorem Blk.set {w : World} {B : Nat} {xs : List Value} (h : Blk w B xs) (o : Nat) (v : Value) : Blk (w.setCell ⟨B, o, none⟩ v) B (xs.set o v) := by
  obtain ⟨T, h⟩ := h; refine ⟨T, ?_⟩; simp [World.setCell, Array.getElem?_modify, h]
theorem Blk.other {w : World} {B : Nat} {xs : List Value} (h : Blk w B xs) {p : Addr} (hp : p.block ≠ B) (v : Value) : Blk (w.setCell p v) B xs := by
  obtain ⟨T, h⟩ := h; exact ⟨T, (Below.heap_setCell w p v B (fun e => hp e.symm)).trans h⟩

/-- as Ext, but block R may have been written -/
def ExtB (R : Nat) (w w' : World) : Prop := w'.os = w.os ∧ w'.tape = w.tape ∧ w'.output = w.output ∧ w.heap.size ≤ w'.heap.size ∧ ∀ k, k < w.heap.size → k ≠ R → w'.heap[k]? = w.heap[k]?
theorem ExtB.refl (R : Nat) (w : World) : ExtB R w w := ⟨rfl, rfl, rfl, Nat.le_refl _, fun _ _ _ => rfl⟩
theorem ExtB.size {R : Nat} {a b : World} (h : ExtB R a b) : a.heap.size ≤ b.heap.size := h.2.2.2.1
theorem ExtB.trans {R : Nat} {a b c : World} (h : ExtB R a b) (k : ExtB R b c) : ExtB R a c :=
  ⟨k.1.trans h.1, k.2.1.trans h.2.1, k.2.2.1.trans h.2.2.1, Nat.le_trans h.size k.size, fun i hi hr => (k.2.2.2.2 i (Nat.lt_of_lt_of_le hi h.size) hr).trans (h.2.2.2.2 i hi hr)⟩
theorem Ext.toB {a b : World} (R : Nat) (h : Ext a b) : ExtB R a b := ⟨Below.os h, Below.tape h, Below.output h, h.size, fun i hi _ => Below.block h i hi⟩
theorem ExtB.alloc {R : Nat} {a b : World} (h : ExtB R a b) (o : Obj) : ExtB R a (b.alloc o) := h.trans (((Ext.refl b).alloc o).toB R)
theorem ExtB.drew {R : Nat} {a b : World} (h : ExtB R a b) : ExtB R a b.drew := h
theorem ExtB.set {R : Nat} {a b : World} (h : ExtB R a b) {p : Addr} (hp : p.block = R ∨ a.heap.size ≤ p.block) (v : Value) : ExtB R a (b.setCell p v) :=
  ⟨h.1, h.2.1, h.2.2.1, by simpa [World.setCell] using h.size, fun i hi hr => (Below.heap_setCell b p v i (by rcases hp with hp | hp <;> omega)).trans (h.2.2.2.2 i hi hr)⟩
theorem ExtB.ext {R : Nat} {z a b : World} (h : ExtB R a b) (k : Ext z a) (hR : z.heap.size ≤ R) : Ext z b :=
  ⟨h.1.trans (Below.os k), h.2.1.trans (Below.tape k), h.2.2.1.trans (Below.output k), Nat.le_trans k.size h.size, fun i hi => (h.2.2.2.2 i (Nat.lt_of_lt_of_le hi k.size) (by omega)).trans (Below.block k i hi)⟩
theorem Blk.keepB {R : Nat} {w w' : World} {B : Nat} {xs : List Value} (h : Blk w B xs) (k : ExtB R w w') (hB : B ≠ R) : Blk w' B xs := by
  have := h.lt; obtain ⟨T, h⟩ := h; exact ⟨T, (k.2.2.2.2 B this hB).trans h⟩
theorem Ext.drewN {a b : World} (h : Ext a b) (n : Nat) : Ext a (b.drewN n) := by
  have k : Below a.heap.size a b := h
  exact ⟨k.os, k.tape, k.output, k.size, k.block⟩

/-- n lies between lo and hi. -/
def inR (lo hi n : Int) : Bool := decide (lo ≤ n) && decide (n ≤ hi)
theorem inR_true {lo hi n : Int} (h1 : lo ≤ n) (h2 : n ≤ hi) : inR lo hi n = true := by simp [inR, h1, h2]
theorem inR_of {lo hi n : Int} (h : inR lo hi n = true) : lo ≤ n ∧ n ≤ hi := by simpa [inR] using h
theorem inR_not {lo hi n : Int} (h : ¬ (lo ≤ n ∧ n ≤ hi)) : inR lo hi n = false := by simp [inR]; omega
/-- what is left of a number behind whole turns -/
def modT (n : Int) : Int := n % 24
theorem modT_bd (n : Int) : 0 ≤ modT n ∧ modT n ≤ 23 := by unfold modT; omega
theorem tmod24 (n : Int) : -24 < n.tmod 24 ∧ n.tmod 24 < 24 ∧ ((0 ≤ n.tmod 24 ∧ n.tmod 24 = modT n) ∨ (n.tmod 24 < 0 ∧ n.tmod 24 + 24 = modT n)) := by
  unfold modT
  rcases Int.le_total 0 n with h | h
  · rw [Int.tmod_eq_emod_of_nonneg h]; omega
  · obtain ⟨m, rfl⟩ : ∃ m : Int, n = -m := ⟨-n, by omega⟩
    rw [Int.neg_tmod, Int.tmod_eq_emod_of_nonneg (by omega)]; omega
/-- n is at least 1 and divides 24 -/
def divs (n : Int) : Bool := decide (1 ≤ n) && (24 % n == 0)
theorem divs_le {n : Int} (h : divs n = true) : 1 ≤ n ∧ n ≤ 24 ∧ 24 % n = 0 := by
  simp [divs] at h
  refine ⟨h.1, ?_, h.2⟩
  exact Int.le_of_dvd (by omega) (Int.dvd_of_emod_eq_zero h.2)


theorem l6In_any (n lo hi : Int) (w : World) : Calls Try.prog 35 #[.int .i64 n, .int .i64 lo, .int .i64 hi] w fun e w' => e = .returned (.bool (inR lo hi n)) ∧ w = w' := by
  go_enter Try.func35, Try.ntmps35
  go_wp2
  all_goals (go_ret; exact ⟨by unfold inR; simp [*]; try omega, rfl⟩)

theorem within_any (n lo hi : Int) (w : World) : Calls Try.prog 39 #[.int .i64 n, .int .i64 lo, .int .i64 hi] w fun e w' => e = .returned (.bool (inR lo hi n)) ∧ w = w' := by
  go_enter Try.func39, Try.ntmps39
  go_wp2
  all_goals (go_ret; exact ⟨by unfold inR; simp [*]; try omega, rfl⟩)

theorem l1Is_any (n : Int) (w : World) : Calls Try.prog 58 #[.int .i64 n] w fun e w' => e = .returned (.bool (inR 0 23 n)) ∧ w = w' := by
  go_enter Try.func58, Try.ntmps58
  go_wp2_with (go_at_call 35; ((with_reducible refine (l6In_any _ _ _ _).mono ?_); rintro e w' ⟨rfl, rfl⟩))
  go_ret; exact ⟨rfl, rfl⟩

theorem l1Mod_any (n : Int) (w : World) : Calls Try.prog 61 #[.int .i64 n] w fun e w' => e = .returned (.int .i64 (modT n)) ∧ w = w' := by
  obtain ⟨h3, h4, h5⟩ := tmod24 n
  rcases h5 with ⟨h5, h6⟩ | ⟨h5, h6⟩
  · have H := Lib.hid h6; clear h6
    go_enter Try.func61, Try.ntmps61
    go_wp2
    go_ret; exact ⟨by rw [← H.out]; rfl, rfl⟩
  · have H := Lib.hid h6; clear h6
    go_enter Try.func61, Try.ntmps61
    go_wp2
    go_ret; exact ⟨by rw [← H.out]; rfl, rfl⟩

/-- what TurnOf returns -/
def turnOfM (num den : Int) : Int × Bool := if divs den && inR (-1000000) 1000000 num then (modT (num * (24 / den)), true) else (0, false)
def tupIB (p : Int × Bool) : Value := .tuple #[.int .i64 p.1, .bool p.2]
theorem mul_bd {num q : Int} (h1 : -1000000 ≤ num) (h2 : num ≤ 1000000) (h3 : 0 ≤ q) (h4 : q ≤ 24) : -24000000 ≤ num * q ∧ num * q ≤ 24000000 := by
  constructor
  · have := Int.mul_le_mul_of_nonneg_right h1 h3; omega
  · have := Int.mul_le_mul_of_nonneg_right h2 h3; omega
theorem div24_bd {d : Int} (h : 1 ≤ d) : 0 ≤ 24 / d ∧ 24 / d ≤ 24 :=
  ⟨Int.ediv_nonneg (by omega) (by omega), Int.ediv_le_self _ (by omega)⟩

/-- what TurnAdd returns -/
def turnAddM (a b : Int) : Int × Bool := if inR 0 23 a && inR 0 23 b then (modT (a + b), true) else (0, false)

/-- what TurnTimes returns -/
def turnTimesM (a n : Int) : Int × Bool := if inR 0 23 a && inR (-1000000) 1000000 n then (modT (a * n), true) else (0, false)
theorem mul_bd2 {a n : Int} (h3 : 0 ≤ a) (h4 : a ≤ 23) (h1 : -1000000 ≤ n) (h2 : n ≤ 1000000) : -24000000 ≤ a * n ∧ a * n ≤ 24000000 := by
  have := mul_bd h1 h2 h3 (by omega)
  rwa [Int.mul_comm] at this

end Go.Proofs.Ytadjphiipnlcdaa
