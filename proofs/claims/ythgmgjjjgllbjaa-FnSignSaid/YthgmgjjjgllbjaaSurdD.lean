/- Draws of surds: what they return is small; only new blocks are made. -/
import Derived.Test.YthgmgjjjgllbjaaSurd2
import Derived.Test.YthgmgjjjgllbjaaDraw2
import Derived.Laws.StructEq
namespace Go.Proofs.Ythgmgjjjgllbjaa
open Go.ChangeShapes Go.WideShapes Go.ChangeAt Go.RowKit
set_option linter.unusedVariables false
theorem ExtB.up {G R : Nat} {a b c : World} (h : ExtB G a b) (k : ExtB R b c) (hR : a.heap.size ≤ R) : ExtB G a c :=
  ⟨k.1.trans h.1, k.2.1.trans h.2.1, k.2.2.1.trans h.2.2.1, Nat.le_trans h.size k.size, fun i hi hr => (k.2.2.2.2 i (Nat.lt_of_lt_of_le hi h.size) (by omega)).trans (h.2.2.2.2 i hi hr)⟩

theorem codeOk_keep {w w' : World} {a : Option Addr} {len cap : Nat} (h : CodeOk w a len cap) (k : Ext w w') : CodeOk w' a len cap := by
  obtain ⟨h1, h2, h3⟩ := h
  refine ⟨h1, h2, ?_⟩
  rcases h3 with h3 | ⟨b, off, ha, hb, h3⟩
  · exact .inl h3
  · refine .inr ⟨b, off, ha, Nat.lt_of_lt_of_le hb k.size, fun i hi => ?_⟩
    obtain ⟨z, hz, z1, z2⟩ := h3 i hi
    exact ⟨z, (cell_of_heap (Below.block k b hb)).trans hz, z1, z2⟩

/-- all four numbers are small, or the first is too great -/
def Few (f : Nat → Int) : Prop := (∀ j, j < 4 → -100 ≤ f j ∧ f j ≤ 100) ∨ f 0 = 10000001
/-- a surd drawn -/
def DrawnSurd (R p : Nat) (w : World) (e : Ending) (w' : World) : Prop :=
  ∃ f : Nat → Int, e = .returned (sfV f) ∧ Few f ∧ (∃ q, p ≤ q ∧ q ≤ p + 6 ∧ RdOk w' R q) ∧ ExtB R w w'
theorem fn4_bd {a b c d n : Int} (ha : -n ≤ a ∧ a ≤ n) (hb : -n ≤ b ∧ b ≤ n) (hc : -n ≤ c ∧ c ≤ n) (hd : -n ≤ d ∧ d ≤ n) : ∀ j, j < 4 → -n ≤ fn4 a b c d j ∧ fn4 a b c d j ≤ n := by
  intro j hj
  obtain rfl | rfl | rfl | rfl : j = 0 ∨ j = 1 ∨ j = 2 ∨ j = 3 := by omega
  · exact ha
  · exact hb
  · exact hc
  · exact hd
theorem drawn_end {f : Nat → Int} {R p q : Nat} {w w1 w3 : World} (hb : Few f) (k : RdN w.heap.size w1 R q) (z : ExtB w.heap.size w1 w3) (x : ExtB R w w1) (hR : R < w.heap.size) (h1 : p ≤ q) (h2 : q ≤ p + 6) :
    DrawnSurd R p w (.returned (sfV f)) w3 :=
  ⟨f, rfl, hb, ⟨q, h1, h2, (k.keepB z (Nat.le_refl _) (by omega)).ok⟩, x.up z (Nat.le_refl _)⟩

set_option maxHeartbeats 2000000 in
theorem l91Surd_any (p R : Nat) (w : World) (hp : p ≤ 900000) (h : RdOk w R p) : Calls Try.prog 33 #[.pointer (some ⟨R, 0, none⟩)] w (DrawnSurd R p w) := by
  have hRw := h.lt
  have x0 : ExtB R w (w.alloc (.cells (s4 fun _ => 0).toArray 26)) := ((Ext.refl w).alloc _).toB R
  have k0 := h.n.keep ((Ext.refl w).alloc (.cells (s4 fun _ => 0).toArray 26)) (Nat.le_refl _)
  have r0 := Blk.new w (s4 fun _ => 0) 26
  have hbld := buildSurd
  go_enter Try.func33, Try.ntmps33
  go_wp2_with fail
  refine (pick_N w.heap.size 12 p R _ (by omega) (by omega) (by omega) k0).mono ?_
  rintro e w1 ⟨v, v1, v2, rfl, k1, x1⟩
  have r1 := r0.keepB x1 (by omega)
  have y1 := x0.trans x1
  clear x0 k0 r0 x1
  by_cases h0 : v = 0
  · subst h0
    go_wp2_with (refine store4 infoSurd (x := .tmp 2) (y := .tmp 7) w.heap.size (fn4 99 (-70) 0 0) _ rfl rfl r1 rfl ?_)
    intro w3 k3 z3
    have c3 := k3.cell
    have D := drawn_end (f := fn4 99 (-70) 0 0) (p := p) (.inl (fn4_bd (by omega) (by omega) (by omega) (by omega))) k1 z3 y1 hRw (by omega) (by omega)
    clear z3 r1 k3 k1 y1
    go_wp2
    exact bodyPost_ret (v := sfV (fn4 99 (-70) 0 0)) (by simp [results, Try.results33, go_sem, c3]) rfl D
  by_cases h1 : v = 1
  · subst h1
    clear h0
    go_wp2_with fail
    refine (pick_N w.heap.size 3 (p + 1) R _ (by omega) (by omega) (by omega) k1).mono ?_
    rintro e w2 ⟨u, u1, u2, rfl, k2, x2⟩
    have r2 := r1.keepB x2 (by omega)
    have y2 := y1.trans x2
    clear r1 k1 y1 x2
    go_wp2_with (refine store4 infoSurd (x := .tmp 2) (y := .tmp 13) w.heap.size (fn4 0 (-56) 97 (-28 + u)) _ rfl rfl r2 rfl ?_)
    intro w3 k3 z3
    have c3 := k3.cell
    have D := drawn_end (f := fn4 0 (-56) 97 (-28 + u)) (p := p) (.inl (fn4_bd (by omega) (by omega) (by omega) (by omega))) k2 z3 y2 hRw (by omega) (by omega)
    clear z3 r2 k3 k2 y2
    go_wp2
    exact bodyPost_ret (v := sfV (fn4 0 (-56) 97 (-28 + u))) (by simp [results, Try.results33, go_sem, c3]) rfl D
  by_cases h2 : v = 2
  · subst h2
    clear h0 h1
    go_wp2_with (refine store4 infoSurd (x := .tmp 2) (y := .tmp 16) w.heap.size (fn4 10000001 0 0 0) _ rfl rfl r1 rfl ?_)
    intro w3 k3 z3
    have c3 := k3.cell
    have D := drawn_end (f := fn4 10000001 0 0 0) (p := p) (.inr rfl) k1 z3 y1 hRw (by omega) (by omega)
    clear z3 r1 k3 k1 y1
    go_wp2
    exact bodyPost_ret (v := sfV (fn4 10000001 0 0 0)) (by simp [results, Try.results33, go_sem, c3]) rfl D
  by_cases h3 : v = 3
  · subst h3
    clear h0 h1 h2
    go_wp2_with (refine store4 infoSurd (x := .tmp 2) (y := .tmp 19) w.heap.size (fun _ => 0) _ rfl rfl r1 rfl ?_)
    intro w3 k3 z3
    have c3 := k3.cell
    have D := drawn_end (f := fun _ => 0) (p := p) (.inl fun j hj => by show (-100 : Int) ≤ 0 ∧ (0 : Int) ≤ 100; omega) k1 z3 y1 hRw (by omega) (by omega)
    clear z3 r1 k3 k1 y1
    go_wp2
    exact bodyPost_ret (v := sfV (fun _ => 0)) (by simp [results, Try.results33, go_sem, c3]) rfl D
  have g0 : (v == 0) = false := by simpa using h0
  have g1 : (v == 1) = false := by simpa using h1
  have g2 : (v == 2) = false := by simpa using h2
  have g3 : (v == 3) = false := by simpa using h3
  clear h0 h1 h2 h3
  go_wp2_with fail
  refine (pick_N w.heap.size 41 (p + 1) R _ (by omega) (by omega) (by omega) k1).mono ?_
  rintro e w2 ⟨a, a1, a2, rfl, k2, x2⟩
  have r2 := r1.keepB x2 (by omega)
  have y2 := y1.trans x2
  clear r1 k1 y1 x2
  go_wp2_with fail
  refine (pick_N w.heap.size 21 (p + 1 + 1) R _ (by omega) (by omega) (by omega) k2).mono ?_
  rintro e w3 ⟨b, b1, b2, rfl, k3, x3⟩
  have r3 := r2.keepB x3 (by omega)
  have y3 := y2.trans x3
  clear r2 k2 y2 x3
  go_wp2_with fail
  refine (pick_N w.heap.size 21 (p + 1 + 1 + 1) R _ (by omega) (by omega) (by omega) k3).mono ?_
  rintro e w4 ⟨c, c1, c2, rfl, k4, x4⟩
  have r4 := r3.keepB x4 (by omega)
  have y4 := y3.trans x4
  clear r3 k3 y3 x4
  go_wp2_with fail
  refine (pick_N w.heap.size 21 (p + 1 + 1 + 1 + 1) R _ (by omega) (by omega) (by omega) k4).mono ?_
  rintro e w5 ⟨d, d1, d2, rfl, k5, x5⟩
  have r5 := r4.keepB x5 (by omega)
  have y5 := y4.trans x5
  clear r4 k4 y4 x5
  go_wp2_with (refine store4 infoSurd (x := .tmp 2) (y := .tmp 32) w.heap.size (fn4 (a - 20) (b - 10) (c - 10) (d - 10)) _ rfl rfl r5 rfl ?_)
  intro w6 k6 z6
  have c6 := k6.cell
  have D := drawn_end (f := fn4 (a - 20) (b - 10) (c - 10) (d - 10)) (p := p) (.inl (fn4_bd (by omega) (by omega) (by omega) (by omega))) k5 z6 y5 hRw (by omega) (by omega)
  clear z6 r5 k6 k5 y5
  go_wp2
  exact bodyPost_ret (v := sfV (fn4 (a - 20) (b - 10) (c - 10) (d - 10))) (by simp [results, Try.results33, go_sem, c6]) rfl D

/-- one surd drawn, of a code -/
def DrawnS1 (w : World) (e : Ending) (w' : World) : Prop := ∃ f : Nat → Int, e = .returned (sfV f) ∧ Few f ∧ Ext w w'
/-- two surds drawn, of a code -/
def DrawnS2 (w : World) (e : Ending) (w' : World) : Prop := ∃ f g : Nat → Int, e = .returned (.tuple #[sfV f, sfV g]) ∧ Few f ∧ Few g ∧ Ext w w'

set_option maxHeartbeats 1000000 in
theorem dSurdValid_any (a : Option Addr) (len cap : Nat) (w : World) (h : CodeOk w a len cap) : Calls Try.prog 16 #[.slice a len cap] w (DrawnS1 w) := by
  have x0 : Ext w (w.alloc (.cells (s4 fun _ => 0).toArray 26)) := (Ext.refl w).alloc _
  have r0 := Blk.new w (s4 fun _ => 0) 26
  have h' := codeOk_keep h x0
  go_enter Try.func16, Try.ntmps16
  go_wp2_with fail
  refine (l6Open_any _ _ _ _ h').mono ?_
  rintro e w1 ⟨R, rfl, hR, k1, x1⟩
  have r1 := r0.keep x1
  have hlt := r0.lt
  go_wp2_with fail
  refine (l91Surd_any 0 R _ (by omega) k1).mono ?_
  rintro e w2 ⟨f, rfl, hf, _, x2⟩
  have r2 := r1.keepB x2 (by omega)
  have y2 := x0.trans (x2.ext x1 hR)
  clear r0 r1 x0 x1 x2 h h'
  go_wp2_with (refine store4 infoSurd (x := .tmp 2) (y := .tmp 5) w.heap.size f _ rfl rfl r2 rfl ?_)
  intro w3 k3 z3
  have y3 := z3.ext y2 (by omega)
  have c3 := k3.cell
  clear z3 r2 y2
  go_wp2
  exact bodyPost_ret (v := sfV f) (by simp [results, Try.results16, go_sem, c3]) rfl ⟨f, rfl, hf, y3⟩

set_option maxHeartbeats 1000000 in
theorem dSurdSign_any (a : Option Addr) (len cap : Nat) (w : World) (h : CodeOk w a len cap) : Calls Try.prog 23 #[.slice a len cap] w (DrawnS1 w) := by
  have x0 : Ext w (w.alloc (.cells (s4 fun _ => 0).toArray 26)) := (Ext.refl w).alloc _
  have r0 := Blk.new w (s4 fun _ => 0) 26
  have h' := codeOk_keep h x0
  go_enter Try.func23, Try.ntmps23
  go_wp2_with fail
  refine (l6Open_any _ _ _ _ h').mono ?_
  rintro e w1 ⟨R, rfl, hR, k1, x1⟩
  have r1 := r0.keep x1
  have hlt := r0.lt
  go_wp2_with fail
  refine (l91Surd_any 0 R _ (by omega) k1).mono ?_
  rintro e w2 ⟨f, rfl, hf, _, x2⟩
  have r2 := r1.keepB x2 (by omega)
  have y2 := x0.trans (x2.ext x1 hR)
  clear r0 r1 x0 x1 x2 h h'
  go_wp2_with (refine store4 infoSurd (x := .tmp 2) (y := .tmp 5) w.heap.size f _ rfl rfl r2 rfl ?_)
  intro w3 k3 z3
  have y3 := z3.ext y2 (by omega)
  have c3 := k3.cell
  clear z3 r2 y2
  go_wp2
  exact bodyPost_ret (v := sfV f) (by simp [results, Try.results23, go_sem, c3]) rfl ⟨f, rfl, hf, y3⟩

set_option maxHeartbeats 1000000 in
theorem dSurdWhole_any (a : Option Addr) (len cap : Nat) (w : World) (h : CodeOk w a len cap) : Calls Try.prog 27 #[.slice a len cap] w (DrawnS1 w) := by
  have x0 : Ext w (w.alloc (.cells (s4 fun _ => 0).toArray 26)) := (Ext.refl w).alloc _
  have r0 := Blk.new w (s4 fun _ => 0) 26
  have h' := codeOk_keep h x0
  go_enter Try.func27, Try.ntmps27
  go_wp2_with fail
  refine (l6Open_any _ _ _ _ h').mono ?_
  rintro e w1 ⟨R, rfl, hR, k1, x1⟩
  have r1 := r0.keep x1
  have hlt := r0.lt
  go_wp2_with fail
  refine (l91Surd_any 0 R _ (by omega) k1).mono ?_
  rintro e w2 ⟨f, rfl, hf, _, x2⟩
  have r2 := r1.keepB x2 (by omega)
  have y2 := x0.trans (x2.ext x1 hR)
  clear r0 r1 x0 x1 x2 h h'
  go_wp2_with (refine store4 infoSurd (x := .tmp 2) (y := .tmp 5) w.heap.size f _ rfl rfl r2 rfl ?_)
  intro w3 k3 z3
  have y3 := z3.ext y2 (by omega)
  have c3 := k3.cell
  clear z3 r2 y2
  go_wp2
  exact bodyPost_ret (v := sfV f) (by simp [results, Try.results27, go_sem, c3]) rfl ⟨f, rfl, hf, y3⟩

set_option maxHeartbeats 2000000 in
theorem l91Surds_any (a : Option Addr) (len cap : Nat) (w : World) (h : CodeOk w a len cap) : Calls Try.prog 38 #[.slice a len cap] w (DrawnS2 w) := by
  have x0 : Ext w ((w.alloc (.cells (s4 fun _ => 0).toArray 26)).alloc (.cells (s4 fun _ => 0).toArray 26)) := ((Ext.refl w).alloc _).alloc _
  have r0 := (Blk.new w (s4 fun _ => 0) 26).alloc (.cells (s4 fun _ => 0).toArray 26)
  have s0 := Blk.fst1 w (.cells (s4 fun _ => 0).toArray 26) (s4 fun _ => 0) 26
  have h' := codeOk_keep h x0
  go_enter Try.func38, Try.ntmps38
  go_wp2_with fail
  refine (l6Open_any _ _ _ _ h').mono ?_
  rintro e w1 ⟨R, rfl, hR, k1, x1⟩
  have r1 := r0.keep x1
  have s1 := s0.keep x1
  have hlt := s0.lt
  have y1 := x0.trans x1
  clear r0 s0 x0 h h'
  go_wp2_with fail
  refine (l91Surd_any 0 R _ (by omega) k1).mono ?_
  rintro e w2 ⟨f, rfl, hf, ⟨q, q1, q2, k2⟩, x2⟩
  have r2 := r1.keepB x2 (by omega)
  have s2 := s1.keepB x2 (by omega)
  have y2 := x2.ext y1 (by omega)
  clear r1 s1 k1 y1 x1 x2
  have t3 := (Blk.new w2 (s4 f) 26).keep (Ext.refl _).drew
  have z0 : Ext w2 (w2.alloc (.cells (s4 f).toArray 26)).drew := ((Ext.refl w2).alloc _).drew
  have r3 := r2.keep z0
  have s3 := s2.keep z0
  have k3 := k2.keep z0
  have y3 := y2.trans z0
  have c3 := t3.cell
  have cr := r3.cell
  have cs := s3.cell
  have fr := r3.free
  have fs := s3.free
  have hlt2 := k2.lt
  have hr2 := r2.lt
  have hs2 := s2.lt
  clear r2 s2 k2 y2 z0
  go_upto_region 3 with fail
  go_region_with (first
    | (go_at_call 33; ((with_reducible refine (l91Surd_any q R _ (by omega) k3).mono ?_); rintro e w5 ⟨g, rfl, hg, _, x5⟩; have c5 := (t3.keepB x5 (by omega)).cell; have r5 := r3.keepB x5 (by omega); have s5 := s3.keepB x5 (by omega); have dr := r5.cell; have ds := s5.cell; have er := r5.free; have es := s5.free; have y5 := x5.ext y3 (by omega); clear x5)))
  all_goals
    go_wp2_with fail
    obtain ⟨w6, e6, n6, z6⟩ := set4 f r5 rfl
    rw [e6]
    have m6 := s5.keepB z6 (by omega)
    obtain ⟨w7, e7, n7, z7⟩ := set4 g m6 rfl
    rw [e7]
    have l7 := n6.keepB z7 (by omega)
    have y7 := z7.ext (z6.ext y5 (by omega)) (by omega)
    have cA := l7.cell
    have cB := n7.cell
    exact bodyPost_ret (v := .tuple #[sfV f, sfV g]) (by simp [results, Try.results38, go_sem, cA, cB]) rfl ⟨f, g, rfl, hf, hg, y7⟩

set_option maxHeartbeats 1000000 in
theorem dSurdAdd_any (a : Option Addr) (len cap : Nat) (w : World) (h : CodeOk w a len cap) : Calls Try.prog 20 #[.slice a len cap] w (DrawnS2 w) := by
  have x0 : Ext w ((w.alloc (.cells (s4 fun _ => 0).toArray 26)).alloc (.cells (s4 fun _ => 0).toArray 26)) := ((Ext.refl w).alloc _).alloc _
  have r0 := (Blk.new w (s4 fun _ => 0) 26).alloc (.cells (s4 fun _ => 0).toArray 26)
  have s0 := Blk.fst1 w (.cells (s4 fun _ => 0).toArray 26) (s4 fun _ => 0) 26
  have h' := codeOk_keep h x0
  go_enter Try.func20, Try.ntmps20
  go_wp2_with fail
  refine (l91Surds_any _ _ _ _ h').mono ?_
  rintro e w1 ⟨f, g, rfl, hf, hg, x1⟩
  have r1 := r0.keep x1
  have s1 := s0.keep x1
  have y1 := x0.trans x1
  clear r0 s0 x0 h h' x1
  go_wp2_with (refine store4 infoSurd (x := .tmp 2) (y := .tmp 6) w.heap.size f _ rfl rfl r1 rfl ?_)
  intro w3 k3 z3
  have s3 := s1.keepB z3 (by omega)
  have y3 := z3.ext y1 (by omega)
  clear z3 r1 s1 y1
  go_wp2_with (refine store4 infoSurd (x := .tmp 3) (y := .tmp 7) (w.heap.size + 1) g _ rfl rfl s3 rfl ?_)
  intro w4 k4 z4
  have k5 := k3.keepB z4 (by omega)
  have y4 := z4.ext y3 (by omega)
  have cA := k5.cell
  have cB := k4.cell
  clear z4 s3 y3 k3
  go_wp2
  exact bodyPost_ret (v := .tuple #[sfV f, sfV g]) (by simp [results, Try.results20, go_sem, cA, cB]) rfl ⟨f, g, rfl, hf, hg, y4⟩

set_option maxHeartbeats 1000000 in
theorem dSurdCompare_any (a : Option Addr) (len cap : Nat) (w : World) (h : CodeOk w a len cap) : Calls Try.prog 22 #[.slice a len cap] w (DrawnS2 w) := by
  have x0 : Ext w ((w.alloc (.cells (s4 fun _ => 0).toArray 26)).alloc (.cells (s4 fun _ => 0).toArray 26)) := ((Ext.refl w).alloc _).alloc _
  have r0 := (Blk.new w (s4 fun _ => 0) 26).alloc (.cells (s4 fun _ => 0).toArray 26)
  have s0 := Blk.fst1 w (.cells (s4 fun _ => 0).toArray 26) (s4 fun _ => 0) 26
  have h' := codeOk_keep h x0
  go_enter Try.func22, Try.ntmps22
  go_wp2_with fail
  refine (l91Surds_any _ _ _ _ h').mono ?_
  rintro e w1 ⟨f, g, rfl, hf, hg, x1⟩
  have r1 := r0.keep x1
  have s1 := s0.keep x1
  have y1 := x0.trans x1
  clear r0 s0 x0 h h' x1
  go_wp2_with (refine store4 infoSurd (x := .tmp 2) (y := .tmp 6) w.heap.size f _ rfl rfl r1 rfl ?_)
  intro w3 k3 z3
  have s3 := s1.keepB z3 (by omega)
  have y3 := z3.ext y1 (by omega)
  clear z3 r1 s1 y1
  go_wp2_with (refine store4 infoSurd (x := .tmp 3) (y := .tmp 7) (w.heap.size + 1) g _ rfl rfl s3 rfl ?_)
  intro w4 k4 z4
  have k5 := k3.keepB z4 (by omega)
  have y4 := z4.ext y3 (by omega)
  have cA := k5.cell
  have cB := k4.cell
  clear z4 s3 y3 k3
  go_wp2
  exact bodyPost_ret (v := .tuple #[sfV f, sfV g]) (by simp [results, Try.results22, go_sem, cA, cB]) rfl ⟨f, g, rfl, hf, hg, y4⟩

end Go.Proofs.Ythgmgjjjgllbjaa
