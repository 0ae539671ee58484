/- Contracts of the reader of codes (spec's l6Rd): each pick is a number in its range; nothing but the reader's own block is written. -/
import Derived.Test.YtadjphiipnlcdaaTurn
import Derived.Deep.QuietTactic
import Derived.BigQuiet
namespace Go.Proofs.Ytadjphiipnlcdaa
open Go.ChangeShapes Go.WideShapes Go.ChangeAt Go.RowKit
set_option linter.unusedVariables false
set_option maxRecDepth 100000

/-- Block R of w is a reader at place p: it holds a slice of at most 2000 bytes that can be read, and p. -/
def RdOk (w : World) (R p : Nat) : Prop :=
  ∃ (a : Option Addr) (len cap : Nat), Blk w R [.slice a len cap, .int .i64 p] ∧ len ≤ 2000 ∧
    (len = 0 ∨ ∃ b off, a = some ⟨b, off, none⟩ ∧ b ≠ R ∧ b < w.heap.size ∧ ∀ i, i < len → ∃ z : Int, w.cell? ⟨b, off + i, none⟩ = some (.int .u8 z) ∧ 0 ≤ z ∧ z ≤ 255)
theorem RdOk.lt {w : World} {R p : Nat} (h : RdOk w R p) : R < w.heap.size := by
  obtain ⟨a, len, cap, hb, _⟩ := h; exact hb.lt
theorem cell_of_heap {w w' : World} {b o : Nat} (h : w'.heap[b]? = w.heap[b]?) : w'.cell? ⟨b, o, none⟩ = w.cell? ⟨b, o, none⟩ := by
  simp [World.cell?, h]
theorem RdOk.keep {w w' : World} {R p : Nat} (h : RdOk w R p) (k : Ext w w') : RdOk w' R p := by
  obtain ⟨a, len, cap, hb, hl, hc⟩ := h
  refine ⟨a, len, cap, hb.keep k, hl, ?_⟩
  rcases hc with hc | ⟨b, off, ha, hne, hlt, hc⟩
  · exact .inl hc
  · refine .inr ⟨b, off, ha, hne, Nat.lt_of_lt_of_le hlt k.size, fun i hi => ?_⟩
    obtain ⟨z, hz, h1, h2⟩ := hc i hi
    exact ⟨z, (cell_of_heap (Below.block k b hlt)).trans hz, h1, h2⟩
/-- writes to another new block leave the reader as it is -/
theorem RdOk.other {w : World} {R p : Nat} (h : RdOk w R p) {B o : Nat} (v : Value) (hR : R < B) (hB : ∀ b off a len cap, Blk w R [.slice (some ⟨b, off, a⟩) len cap, .int .i64 p] → 0 < len → b ≠ B) : RdOk (w.setCell ⟨B, o, none⟩ v) R p := by
  obtain ⟨a, len, cap, hb, hl, hc⟩ := h
  refine ⟨a, len, cap, hb.other (by simp; omega) v, hl, ?_⟩
  rcases hc with hc | ⟨b, off, rfl, hne, hlt, hc⟩
  · exact .inl hc
  · by_cases h0 : len = 0
    · exact .inl h0
    · refine .inr ⟨b, off, rfl, hne, by simpa [World.setCell] using hlt, fun i hi => ?_⟩
      obtain ⟨z, hz, h1, h2⟩ := hc i hi
      exact ⟨z, (cell_of_heap (Below.heap_setCell w _ v b (hB b off none len cap hb (by omega)))).trans hz, h1, h2⟩
/-- as RdOk, and the bytes lie below block N -/
def RdN (N : Nat) (w : World) (R p : Nat) : Prop :=
  ∃ (a : Option Addr) (len cap : Nat), Blk w R [.slice a len cap, .int .i64 p] ∧ len ≤ 2000 ∧
    (len = 0 ∨ ∃ b off, a = some ⟨b, off, none⟩ ∧ b ≠ R ∧ b < N ∧ b < w.heap.size ∧ ∀ i, i < len → ∃ z : Int, w.cell? ⟨b, off + i, none⟩ = some (.int .u8 z) ∧ 0 ≤ z ∧ z ≤ 255)
theorem RdOk.n {w : World} {R p : Nat} (h : RdOk w R p) : RdN w.heap.size w R p := by
  obtain ⟨a, len, cap, hb, hl, hc⟩ := h
  refine ⟨a, len, cap, hb, hl, ?_⟩
  rcases hc with hc | ⟨b, off, ha, hne, hlt, hc⟩
  · exact .inl hc
  · exact .inr ⟨b, off, ha, hne, hlt, hlt, hc⟩
theorem RdN.ok {N : Nat} {w : World} {R p : Nat} (h : RdN N w R p) : RdOk w R p := by
  obtain ⟨a, len, cap, hb, hl, hc⟩ := h
  refine ⟨a, len, cap, hb, hl, ?_⟩
  rcases hc with hc | ⟨b, off, ha, hne, _, hlt, hc⟩
  · exact .inl hc
  · exact .inr ⟨b, off, ha, hne, hlt, hc⟩
theorem RdN.lt {N : Nat} {w : World} {R p : Nat} (h : RdN N w R p) : R < w.heap.size := h.ok.lt
theorem RdN.keepB {N : Nat} {w w' : World} {R p B : Nat} (h : RdN N w R p) (k : ExtB B w w') (hB : N ≤ B) (hR : R ≠ B) : RdN N w' R p := by
  obtain ⟨a, len, cap, hb, hl, hc⟩ := h
  refine ⟨a, len, cap, hb.keepB k hR, hl, ?_⟩
  rcases hc with hc | ⟨b, off, ha, hne, hN, hlt, hc⟩
  · exact .inl hc
  · refine .inr ⟨b, off, ha, hne, hN, Nat.lt_of_lt_of_le hlt k.size, fun i hi => ?_⟩
    obtain ⟨z, hz, h1, h2⟩ := hc i hi
    exact ⟨z, (cell_of_heap (k.2.2.2.2 b hlt (by omega))).trans hz, h1, h2⟩
theorem RdN.keep {N : Nat} {w w' : World} {R p : Nat} (h : RdN N w R p) (k : Ext w w') (hN : N ≤ w.heap.size) : RdN N w' R p :=
  h.keepB (k.toB w.heap.size) hN (by have := h.lt; omega)
/-- what a pick comes to -/
def Picked (n : Int) (R p : Nat) (w : World) (e : Ending) (w' : World) : Prop :=
  ∃ v : Int, 0 ≤ v ∧ v < n ∧ e = .returned (.int .i64 v) ∧ RdOk w' R (p + 1) ∧ ExtB R w w'
def PickedN (N : Nat) (n : Int) (R p : Nat) (w : World) (e : Ending) (w' : World) : Prop :=
  ∃ v : Int, 0 ≤ v ∧ v < n ∧ e = .returned (.int .i64 v) ∧ RdN N w' R (p + 1) ∧ ExtB R w w'
theorem xor_bd (x y : Int) (h1 : 0 ≤ x) (h2 : x < 4611686018427387904) (h3 : 0 ≤ y) (h4 : y < 4611686018427387904) : 0 ≤ bits .xor .i64 x y := by
  obtain ⟨a, rfl⟩ := Int.eq_ofNat_of_zero_le h1
  obtain ⟨b, rfl⟩ := Int.eq_ofNat_of_zero_le h3
  have hx : a ^^^ b < 2 ^ 62 := Nat.xor_lt_two_pow (by omega) (by omega)
  have e1 : (BitVec.ofInt 64 (a : Int)).toNat = a := by simp; omega
  have e2 : (BitVec.ofInt 64 (b : Int)).toNat = b := by simp; omega
  show 0 ≤ IntKind.i64.wrap ((BitVec.ofInt 64 (a : Int) ^^^ BitVec.ofInt 64 (b : Int)).toNat : Nat)
  rw [BitVec.toNat_xor, e1, e2, IntKind.wrap_i64]
  omega
theorem pick_world {N : Nat} {w : World} {R p : Nat} {a : Option Addr} {len cap : Nat} (hb : Blk w R [.slice a len cap, .int .i64 p]) (hl : len ≤ 2000)
    (hc : len = 0 ∨ ∃ b off, a = some ⟨b, off, none⟩ ∧ b ≠ R ∧ b < N ∧ b < w.heap.size ∧ ∀ i, i < len → ∃ z : Int, w.cell? ⟨b, off + i, none⟩ = some (.int .u8 z) ∧ 0 ≤ z ∧ z ≤ 255) :
    RdN N (w.setCell ⟨R, 1, none⟩ (.int .i64 ((p : Int) + 1))) R (p + 1) ∧ ExtB R w (w.setCell ⟨R, 1, none⟩ (.int .i64 ((p : Int) + 1))) := by
  refine ⟨⟨a, len, cap, by simpa using hb.set 1 (.int .i64 ((p : Int) + 1)), hl, ?_⟩, (ExtB.refl R w).set (.inl rfl) _⟩
  rcases hc with hc | ⟨b, off, ha, hne, hN, hlt, hc⟩
  · exact .inl hc
  · refine .inr ⟨b, off, ha, hne, hN, by simpa [World.setCell] using hlt, fun i hi => ?_⟩
    obtain ⟨z, hz, h1, h2⟩ := hc i hi
    exact ⟨z, (cell_of_heap (Below.heap_setCell w _ _ b hne)).trans hz, h1, h2⟩


set_option maxRecDepth 100000 in
set_option maxHeartbeats 1000000 in
theorem pick_N (N : Nat) (n : Int) (p R : Nat) (w : World) (hn1 : 1 ≤ n) (hn2 : n ≤ 100000) (hp : p ≤ 1000000) (h : RdN N w R p) :
    Calls Try.prog 63 #[.pointer (some ⟨R, 0, none⟩), .int .i64 n] w (PickedN N n R p w) := by
  obtain ⟨a, len, cap, hb, hl, hc⟩ := h
  obtain ⟨k1, k2⟩ := pick_world hb hl hc
  have c := hb.cell
  have f := hb.free
  have c0 : w.cell? ⟨R, 0, none⟩ = some (.slice a len cap) := by simp [c]
  have c1 : w.cell? ⟨R, 1, none⟩ = some (.int .i64 p) := by simp [c]
  have f1 : w.frozen? ⟨R, 1, none⟩ = false := f 1
  clear c f
  by_cases h0 : len = 0
  · subst h0
    go_enter Try.func63, Try.ntmps63
    go_wp2
    go_ret
    exact ⟨0, by omega, by omega, rfl, k1, k2⟩
  · rcases hc with hc | ⟨b, off, rfl, hne, hN, hlt, hc⟩
    · exact absurd hc h0
    · by_cases hpl : p < len
      · obtain ⟨z, hz, z1, z2⟩ := hc p hpl
        clear hc
        have h00 : ((len : Int) == 0) = false := by simp; omega
        go_enter Try.func63, Try.ntmps63
        go_wp2
        go_ret
        exact ⟨_, Int.emod_nonneg _ (by omega), Int.emod_lt_of_pos _ (by omega), rfl, k1, k2⟩
      · have q1 : p % len < len := Nat.mod_lt _ (by omega)
        have q2 : (p * 7 + 3) % len < len := Nat.mod_lt _ (by omega)
        obtain ⟨z, hz, z1, z2⟩ := hc _ q1
        obtain ⟨y, hy, y1, y2⟩ := hc _ q2
        clear hc
        have h00 : ((len : Int) == 0) = false := by simp; omega
        have hlz : ¬ (len : Int) = 0 := by omega
        have m1 : (p : Int).tmod (len : Int) = (p : Int) % (len : Int) := by rw [Int.tmod_eq_emod_of_nonneg (by omega)]
        have m2 : ((p : Int) * 7 + 3).tmod (len : Int) = ((p : Int) * 7 + 3) % (len : Int) := by rw [Int.tmod_eq_emod_of_nonneg (by omega)]
        have m3 : (p : Int).tdiv (len : Int) = (p : Int) / (len : Int) := by rw [Int.tdiv_eq_ediv_of_nonneg (by omega)]
        have s1 : IntKind.i64.wrap ((p : Int) * 7) = (p : Int) * 7 := IntWalk.i64_in _ (by omega)
        have s2 : IntKind.i64.wrap ((p : Int) * 7 + 3) = (p : Int) * 7 + 3 := IntWalk.i64_in _ (by omega)
        have t1 : ((p : Int) % (len : Int)).toNat = p % len := by rw [← Int.natCast_emod]; rfl
        have t2 : (((p : Int) * 7 + 3) % (len : Int)).toNat = (p * 7 + 3) % len := by rw [show ((p : Int) * 7 + 3) = ((p * 7 + 3 : Nat) : Int) from by omega, ← Int.natCast_emod]; rfl
        have v1 : 0 ≤ (p : Int) / (len : Int) := Int.ediv_nonneg (by omega) (by omega)
        have v2 : (p : Int) / (len : Int) ≤ 1000000 := Int.le_trans (Int.ediv_le_self _ (by omega)) (by omega)
        have u1 : 0 ≤ (p : Int) % (len : Int) := Int.emod_nonneg _ hlz
        have u2 : (p : Int) % (len : Int) < (len : Int) := Int.emod_lt_of_pos _ (by omega)
        have u3 : 0 ≤ ((p : Int) * 7 + 3) % (len : Int) := Int.emod_nonneg _ hlz
        have u4 : ((p : Int) * 7 + 3) % (len : Int) < (len : Int) := Int.emod_lt_of_pos _ (by omega)
        go_enter Try.func63, Try.ntmps63
        go_wp2
        go_quiet (fail)
        clear m1 m2 m3 s1 s2 t1 t2 u1 u2 u3 u4 hz hy c0 c1 f1 h00
        generalize hX : z * 131 + y * 1117 + (p : Int) * 29 + (p : Int) / (len : Int) * 53 = X
        have x1 : 0 ≤ X := by omega
        have x2 : X < 4000000000 := by omega
        have hb := xor_bd X (X / 64) x1 (by omega) (by omega) (by omega)
        clear hX v1 v2
        have q3 := Int.emod_nonneg (bits .xor .i64 X (X / 64)) (show n ≠ 0 by omega)
        have q4 := Int.emod_lt_of_pos (bits .xor .i64 X (X / 64)) (show 0 < n by omega)
        go_wp2
        go_ret

        exact ⟨_, q3, q4, rfl, k1, k2⟩
theorem pick_any (n : Int) (p R : Nat) (w : World) (hn1 : 1 ≤ n) (hn2 : n ≤ 100000) (hp : p ≤ 1000000) (h : RdOk w R p) :
    Calls Try.prog 63 #[.pointer (some ⟨R, 0, none⟩), .int .i64 n] w (Picked n R p w) :=
  (pick_N w.heap.size n p R w hn1 hn2 hp h.n).mono fun _ _ ⟨v, h1, h2, h3, h4, h5⟩ => ⟨v, h1, h2, h3, h4.ok, h5⟩

end Go.Proofs.Ytadjphiipnlcdaa
