/- Real and imaginary parts of exact points (chapter 3), of impl and of spec, and the exact laws. Written by mk_surd4.py. -/
import Derived.Test.YtcbbnpijijoblaaSurd3
import Derived.Deep.RegionWith
import Derived.Deep.DeepCutAuto
import Derived.LoopTactic
import Derived.IntWalk
namespace Go.Proofs.Ytcbbnpijijoblaa
open Go.ChangeShapes Go.WideShapes Go.ChangeAt Go.RowKit
set_option linter.unusedVariables false

theorem cosAt (z : Int) (n : Nat) (h : z = (n : Int)) (hn : n < 8 ∨ (18 ≤ n ∧ n < 24)) (w : World) : Calls Try.prog 64 #[.int .i64 z] w fun e w' => e = .returned (sfV (cosF n)) ∧ Ext w w' := by
  subst h
  obtain rfl | rfl | rfl | rfl | rfl | rfl | rfl | rfl | rfl | rfl | rfl | rfl | rfl | rfl : n = 0 ∨ n = 1 ∨ n = 2 ∨ n = 3 ∨ n = 4 ∨ n = 5 ∨ n = 6 ∨ n = 7 ∨ n = 18 ∨ n = 19 ∨ n = 20 ∨ n = 21 ∨ n = 22 ∨ n = 23 := by omega
  · exact cosine_0 w
  · exact cosine_1 w
  · exact cosine_2 w
  · exact cosine_3 w
  · exact cosine_4 w
  · exact cosine_5 w
  · exact cosine_6 w
  · exact cosine_7 w
  · exact cosine_18 w
  · exact cosine_19 w
  · exact cosine_20 w
  · exact cosine_21 w
  · exact cosine_22 w
  · exact cosine_23 w

set_option maxHeartbeats 1000000 in
theorem splusT_any (f g : Nat → Int) (w : World) (hf : ∀ j, j < 4 → -1000000000000 ≤ f j ∧ f j ≤ 1000000000000) (hg : ∀ j, j < 4 → -1000000000000 ≤ g j ∧ g j ≤ 1000000000000) :
    Calls Try.prog 55 #[sfV f, sfV g] w fun e w' => e = .returned (sfV fun j => f j + g j) ∧ Ext w w' := by
  obtain ⟨a0, b0⟩ := hf 0 (by omega); obtain ⟨a1, b1⟩ := hf 1 (by omega); obtain ⟨a2, b2⟩ := hf 2 (by omega); obtain ⟨a3, b3⟩ := hf 3 (by omega)
  obtain ⟨c0, d0⟩ := hg 0 (by omega); obtain ⟨c1, d1⟩ := hg 1 (by omega); obtain ⟨c2, d2⟩ := hg 2 (by omega); obtain ⟨c3, d3⟩ := hg 3 (by omega)
  clear hf hg
  go_enter Try.func55, Try.ntmps55
  go_wp2
  go_returns
  exact ⟨rfl, by repeat (first | exact Ext.refl _ | assumption | refine Ext.drew ?_ | refine Ext.alloc ?_ _ | refine Ext.trans ?_ (by assumption))⟩

/-- the sum of the first k coefficients, each times its surd -/
def partF (cs : Nat → Nat → Int) (f : Nat → Int) : Nat → Nat → Int
  | 0 => fun _ => 0
  | k + 1 => fun j => partF cs f k j + f k * cs k j
theorem mul4_bd {a c : Int} (ha : -1000000 ≤ a ∧ a ≤ 1000000) (hc : -4 ≤ c ∧ c ≤ 4) : -4000000 ≤ a * c ∧ a * c ≤ 4000000 := by
  have h1 : c = -4 ∨ c = -3 ∨ c = -2 ∨ c = -1 ∨ c = 0 ∨ c = 1 ∨ c = 2 ∨ c = 3 ∨ c = 4 := by omega
  rcases h1 with rfl | rfl | rfl | rfl | rfl | rfl | rfl | rfl | rfl <;> omega
theorem partF_bd {cs : Nat → Nat → Int} {f : Nat → Int} (hf : ∀ j, j < 8 → -1000000 ≤ f j ∧ f j ≤ 1000000) (hc : ∀ k, k < 8 → ∀ j, j < 4 → -4 ≤ cs k j ∧ cs k j ≤ 4) (k : Nat) (hk : k ≤ 8) (j : Nat) (hj : j < 4) :
    -(4000000 * (k : Int)) ≤ partF cs f k j ∧ partF cs f k j ≤ 4000000 * (k : Int) := by
  induction k with
  | zero => simp [partF]
  | succ k ih =>
    have := ih (by omega)
    have := mul4_bd (hf k (by omega)) (hc k (by omega) j hj)
    simp only [partF]
    omega
/-- an index into an array of eight -/
theorem idxN (f : Nat → Int) (k : Nat) (hk : k < 8) (w : World) : (Instr.index 22 (cycV f) (.int .i64 (k : Int))).run Try.prog w = .ok (.int .i64 (f k)) w := by
  obtain rfl | rfl | rfl | rfl | rfl | rfl | rfl | rfl : k = 0 ∨ k = 1 ∨ k = 2 ∨ k = 3 ∨ k = 4 ∨ k = 5 ∨ k = 6 ∨ k = 7 := by omega
  · exact idx0 f w
  · exact idx1 f w
  · exact idx2 f w
  · exact idx3 f w
  · exact idx4 f w
  · exact idx5 f w
  · exact idx6 f w
  · exact idx7 f w
/-- the twentyfourth of the imaginary part's cosine -/
def imK (k : Nat) : Nat := (k + 18) % 24
theorem imK_mod (k : Nat) (hk : k < 8) : modT ((k : Int) - 6) = (imK k : Int) := by unfold modT imK; omega
theorem imK_lt (k : Nat) (hk : k < 8) : imK k < 8 ∨ (18 ≤ imK k ∧ imK k < 24) := by unfold imK; omega
theorem reC_bd : ∀ k, k < 8 → ∀ j, j < 4 → -4 ≤ cosF k j ∧ cosF k j ≤ 4 := fun k hk j hj => cosF_bd k (by omega) j hj
theorem imC_bd : ∀ k, k < 8 → ∀ j, j < 4 → -4 ≤ cosF (imK k) j ∧ cosF (imK k) j ≤ 4 := fun k hk j hj => cosF_bd (imK k) (by have := imK_lt k hk; omega) j hj
/-- the real part -/
def l3ReF (f : Nat → Int) : Nat → Int := fn4 (4 * f 0 + 2 * f 4) (f 1 + 2 * f 3 - f 5 + f 7) (2 * f 2) (f 1 + f 5 - f 7)
/-- the imaginary part -/
def l3ImF (f : Nat → Int) : Nat → Int := fn4 (2 * f 2 + 4 * f 6) (-f 1 + 2 * f 3 + f 5 + f 7) (2 * f 4) (f 1 + f 5 + f 7)
theorem re_same (f : Nat → Int) : sfV (partF cosF f 8) = sfV (l3ReF f) := by
  have h0 : partF cosF f 8 0 = l3ReF f 0 := by simp [partF, cosF, fn4, l3ReF]; omega
  have h1 : partF cosF f 8 1 = l3ReF f 1 := by simp [partF, cosF, fn4, l3ReF]; omega
  have h2 : partF cosF f 8 2 = l3ReF f 2 := by simp [partF, cosF, fn4, l3ReF]; omega
  have h3 : partF cosF f 8 3 = l3ReF f 3 := by simp [partF, cosF, fn4, l3ReF]; omega
  simp only [sfV, h0, h1, h2, h3]
theorem im_same (f : Nat → Int) : sfV (partF (fun k => cosF (imK k)) f 8) = sfV (l3ImF f) := by
  have h0 : partF (fun k => cosF (imK k)) f 8 0 = l3ImF f 0 := by simp [partF, cosF, fn4, l3ImF, imK]; omega
  have h1 : partF (fun k => cosF (imK k)) f 8 1 = l3ImF f 1 := by simp [partF, cosF, fn4, l3ImF, imK]; omega
  have h2 : partF (fun k => cosF (imK k)) f 8 2 = l3ImF f 2 := by simp [partF, cosF, fn4, l3ImF, imK]; omega
  have h3 : partF (fun k => cosF (imK k)) f 8 3 = l3ImF f 3 := by simp [partF, cosF, fn4, l3ImF, imK]
  simp only [sfV, h0, h1, h2, h3]

set_option maxHeartbeats 1000000 in
theorem l3Re_any (f : Nat → Int) (w : World) (hf : ∀ j, j < 8 → -1000000 ≤ f j ∧ f j ≤ 1000000) : Calls Try.prog 59 #[cycV f] w fun e w' => e = .returned (sfV (l3ReF f)) ∧ Ext w w' := by
  obtain ⟨a0, b0⟩ := hf 0 (by omega)
  obtain ⟨a1, b1⟩ := hf 1 (by omega)
  obtain ⟨a2, b2⟩ := hf 2 (by omega)
  obtain ⟨a3, b3⟩ := hf 3 (by omega)
  obtain ⟨a4, b4⟩ := hf 4 (by omega)
  obtain ⟨a5, b5⟩ := hf 5 (by omega)
  obtain ⟨a6, b6⟩ := hf 6 (by omega)
  obtain ⟨a7, b7⟩ := hf 7 (by omega)
  clear hf
  have k1 := (Blk.new1 w (.cells (cyc8 f).toArray 26) (s4 fun _ => 0) 41).alloc (.cells (cyc8 fun _ => 0).toArray 22)
  have k2 := Blk.new2 w (.cells (cyc8 f).toArray 26) (.cells (s4 fun _ => 0).toArray 41) (cyc8 fun _ => 0) 22
  have x0 : Ext w (((w.alloc (.cells (cyc8 f).toArray 26)).alloc (.cells (s4 fun _ => 0).toArray 41)).alloc (.cells (cyc8 fun _ => 0).toArray 22)) := by repeat (first | exact Ext.refl _ | assumption | refine Ext.drew ?_ | refine Ext.alloc ?_ _ | refine Ext.trans ?_ (by assumption))
  go_enter Try.func59, Try.ntmps59
  go_wp2_with (refine store_cyc infoArr (x := .tmp 3) (y := .tmp 5) (w.heap.size + 1 + 1) f _ rfl rfl k2 rfl ?_)
  intro w2 y2 z2
  have r1 := k1.keepB z2 (by omega)
  have x2 := z2.ext x0 (by omega)
  clear z2 k1 k2 x0
  have c2 := y2.cell
  go_wp2_with (refine store4 infoSurd (x := .tmp 2) (y := .tmp 36) (w.heap.size + 1) (l3ReF f) _ rfl rfl r1 rfl ?_)
  intro w3 k3 z3
  have x3 := z3.ext x2 (by omega)
  have c3 := k3.cell
  clear z3 r1 x2 y2 c2
  go_wp2
  exact bodyPost_ret (v := sfV (l3ReF f)) (by simp [results, Try.results59, go_sem, c3]) rfl ⟨rfl, x3⟩

set_option maxHeartbeats 1000000 in
theorem l3Im_any (f : Nat → Int) (w : World) (hf : ∀ j, j < 8 → -1000000 ≤ f j ∧ f j ≤ 1000000) : Calls Try.prog 57 #[cycV f] w fun e w' => e = .returned (sfV (l3ImF f)) ∧ Ext w w' := by
  obtain ⟨a0, b0⟩ := hf 0 (by omega)
  obtain ⟨a1, b1⟩ := hf 1 (by omega)
  obtain ⟨a2, b2⟩ := hf 2 (by omega)
  obtain ⟨a3, b3⟩ := hf 3 (by omega)
  obtain ⟨a4, b4⟩ := hf 4 (by omega)
  obtain ⟨a5, b5⟩ := hf 5 (by omega)
  obtain ⟨a6, b6⟩ := hf 6 (by omega)
  obtain ⟨a7, b7⟩ := hf 7 (by omega)
  clear hf
  have k1 := (Blk.new1 w (.cells (cyc8 f).toArray 26) (s4 fun _ => 0) 41).alloc (.cells (cyc8 fun _ => 0).toArray 22)
  have k2 := Blk.new2 w (.cells (cyc8 f).toArray 26) (.cells (s4 fun _ => 0).toArray 41) (cyc8 fun _ => 0) 22
  have x0 : Ext w (((w.alloc (.cells (cyc8 f).toArray 26)).alloc (.cells (s4 fun _ => 0).toArray 41)).alloc (.cells (cyc8 fun _ => 0).toArray 22)) := by repeat (first | exact Ext.refl _ | assumption | refine Ext.drew ?_ | refine Ext.alloc ?_ _ | refine Ext.trans ?_ (by assumption))
  go_enter Try.func57, Try.ntmps57
  go_wp2_with (refine store_cyc infoArr (x := .tmp 3) (y := .tmp 5) (w.heap.size + 1 + 1) f _ rfl rfl k2 rfl ?_)
  intro w2 y2 z2
  have r1 := k1.keepB z2 (by omega)
  have x2 := z2.ext x0 (by omega)
  clear z2 k1 k2 x0
  have c2 := y2.cell
  go_wp2_with (refine store4 infoSurd (x := .tmp 2) (y := .tmp 37) (w.heap.size + 1) (l3ImF f) _ rfl rfl r1 rfl ?_)
  intro w3 k3 z3
  have x3 := z3.ext x2 (by omega)
  have c3 := k3.cell
  clear z3 r1 x2 y2 c2
  go_wp2
  exact bodyPost_ret (v := sfV (l3ImF f)) (by simp [results, Try.results57, go_sem, c3]) rfl ⟨rfl, x3⟩

set_option maxHeartbeats 2000000 in
theorem re_any (f : Nat → Int) (w : World) (hf : ∀ j, j < 8 → -1000000 ≤ f j ∧ f j ≤ 1000000) : Calls Try.prog 60 #[cycV f] w fun e w' => e = .returned (sfV (l3ReF f)) ∧ Ext w w' := by
  rw [← re_same f]
  have hp := partF_bd (cs := cosF) hf reC_bd
  have k1 := (Blk.new1 w (.cells (cyc8 f).toArray 26) (s4 fun _ => 0) 41).alloc (.cells (s4 fun _ => 0).toArray 41)
  have k2 := Blk.new2 w (.cells (cyc8 f).toArray 26) (.cells (s4 fun _ => 0).toArray 41) (s4 fun _ => 0) 41
  have x0 : Ext w (((w.alloc (.cells (cyc8 f).toArray 26)).alloc (.cells (s4 fun _ => 0).toArray 41)).alloc (.cells (s4 fun _ => 0).toArray 41)) := by repeat (first | exact Ext.refl _ | assumption | refine Ext.drew ?_ | refine Ext.alloc ?_ _ | refine Ext.trans ?_ (by assumption))
  go_enter Try.func60, Try.ntmps60
  go_wp2
  generalize World.alloc (World.alloc (World.alloc _ _) _) _ = W at *
  go_loopw [8] (fun i wr => ∃ k : Nat, k ≤ 8 ∧ i = .int .i64 (k : Int) ∧ Blk wr (w.heap.size + 1) (s4 fun _ => 0) ∧ Blk wr (w.heap.size + 1 + 1) (s4 (partF cosF f k)) ∧ Ext w wr) (fun i _ => 8 - (intOf i).toNat)
  case atStart => exact ⟨0, by omega, by go_num, k1, k2, x0⟩
  case round =>
    obtain ⟨k, hk, rfl, r1, r2, x1⟩ := hrel
    by_cases hlt : k < 8
    · have ix := idxN f k hlt
      have fk := hf k hlt
      have pk := hp k hk
      have ck := reC_bd k hlt
      have z0 : Ext wr wr.drew := (Ext.refl wr).drew
      have c0 := (r2.keep z0).cell
      generalize hF : partF cosF f k = F at *
      have HF := Lib.hid hF
      clear hF hf hp k1 k2 x0
      go_upto_region 5 with fail
      go_region_with
        (first
        | (go_at_call 64; ((with_reducible refine (cosAt _ k rfl (.inl hlt) _).mono ?_); rintro e w1 ⟨rfl, x1⟩; have y1 : Ext wr w1 := z0.trans x1; clear x1; have c1 := (r2.keep y1).cell))
        | (go_at_call 66; ((with_reducible refine (sscaled_any (cosF k) (f k) _ (fun j hj => by have := mul4_bd fk (ck j hj); omega)).mono ?_); rintro e w2 ⟨rfl, x2⟩; have y2 : Ext wr w2 := y1.trans x2; clear x2; have c2 := (r2.keep y2).cell))
        | (go_at_call 55; ((with_reducible refine (splusT_any F (fun j => f k * (cosF k) j) _ (fun j hj => by have := pk j hj; omega) (fun j hj => by have := mul4_bd fk (ck j hj); omega)).mono ?_); rintro e w3 ⟨rfl, x3⟩; have y3 : Ext wr w3 := y2.trans x3; clear x3; have n3 := r2.keep y3; have cn3 := n3.cell; have fn3 := n3.free)))
      all_goals
        clear cn3 fn3
        have m3 := r1.keep y3
        obtain ⟨w4, e4, n4, z4⟩ := set4 (fun j => F j + f k * (cosF k) j) n3 rfl
        rw [e4]
        have m4 := m3.keepB z4 (by omega)
        have y4 := z4.ext (x1.trans y3) (by omega)
        clear c0 c1 c2 n3 m3 e4 z4 ix fk pk ck y1 y2 y3 z0
        go_wp2
        go_roundw
        case rel => exact ⟨k + 1, by omega, by go_num, m4, by simp only [partF, HF.out]; exact n4, y4⟩
        case measure => simp [intOf]; omega
    · have hk8 : k = 8 := by omega
      subst hk8
      have c2 := r2.cell
      clear hf hp k1 k2 x0
      go_wp2_with (refine store4 infoSurd (x := .tmp 2) (y := .tmp 19) (w.heap.size + 1) (partF cosF f 8) _ rfl rfl r1 rfl ?_)
      intro w3 k3 z3
      have x3 := z3.ext x1 (by omega)
      have c3 := k3.cell
      clear z3 r1 c2
      go_wp2
      exact bodyPost_ret (v := sfV (partF cosF f 8)) (by simp [results, Try.results60, go_sem, c3]) rfl ⟨rfl, x3⟩

set_option maxHeartbeats 2000000 in
theorem im_any (f : Nat → Int) (w : World) (hf : ∀ j, j < 8 → -1000000 ≤ f j ∧ f j ≤ 1000000) : Calls Try.prog 58 #[cycV f] w fun e w' => e = .returned (sfV (l3ImF f)) ∧ Ext w w' := by
  rw [← im_same f]
  have hp := partF_bd (cs := (fun k => cosF (imK k))) hf imC_bd
  have k1 := (Blk.new1 w (.cells (cyc8 f).toArray 26) (s4 fun _ => 0) 41).alloc (.cells (s4 fun _ => 0).toArray 41)
  have k2 := Blk.new2 w (.cells (cyc8 f).toArray 26) (.cells (s4 fun _ => 0).toArray 41) (s4 fun _ => 0) 41
  have x0 : Ext w (((w.alloc (.cells (cyc8 f).toArray 26)).alloc (.cells (s4 fun _ => 0).toArray 41)).alloc (.cells (s4 fun _ => 0).toArray 41)) := by repeat (first | exact Ext.refl _ | assumption | refine Ext.drew ?_ | refine Ext.alloc ?_ _ | refine Ext.trans ?_ (by assumption))
  go_enter Try.func58, Try.ntmps58
  go_wp2
  generalize World.alloc (World.alloc (World.alloc _ _) _) _ = W at *
  go_loopw [8] (fun i wr => ∃ k : Nat, k ≤ 8 ∧ i = .int .i64 (k : Int) ∧ Blk wr (w.heap.size + 1) (s4 fun _ => 0) ∧ Blk wr (w.heap.size + 1 + 1) (s4 (partF (fun k => cosF (imK k)) f k)) ∧ Ext w wr) (fun i _ => 8 - (intOf i).toNat)
  case atStart => exact ⟨0, by omega, by go_num, k1, k2, x0⟩
  case round =>
    obtain ⟨k, hk, rfl, r1, r2, x1⟩ := hrel
    by_cases hlt : k < 8
    · have ix := idxN f k hlt
      have fk := hf k hlt
      have pk := hp k hk
      have ck := imC_bd k hlt
      have z0 : Ext wr wr.drew := (Ext.refl wr).drew
      have c0 := (r2.keep z0).cell
      generalize hF : partF (fun k => cosF (imK k)) f k = F at *
      have HF := Lib.hid hF
      clear hF hf hp k1 k2 x0
      have e6 : IntKind.i64.wrap ((k : Int) - 6) = (k : Int) - 6 := IntWalk.i64_in _ (by omega)
      go_upto_region 5 with fail
      go_region_with
        (first
        | (go_at_call 65; ((with_reducible refine (turnOf_any _ _).mono ?_); rintro e w' ⟨rfl, rfl⟩))
        | (go_at_call 64; ((with_reducible refine (cosAt _ (imK k) (imK_mod k hlt) (imK_lt k hlt) _).mono ?_); rintro e w1 ⟨rfl, x1⟩; have y1 : Ext wr w1 := z0.trans x1; clear x1; have c1 := (r2.keep y1).cell))
        | (go_at_call 66; ((with_reducible refine (sscaled_any (cosF (imK k)) (f k) _ (fun j hj => by have := mul4_bd fk (ck j hj); omega)).mono ?_); rintro e w2 ⟨rfl, x2⟩; have y2 : Ext wr w2 := y1.trans x2; clear x2; have c2 := (r2.keep y2).cell))
        | (go_at_call 55; ((with_reducible refine (splusT_any F (fun j => f k * (cosF (imK k)) j) _ (fun j hj => by have := pk j hj; omega) (fun j hj => by have := mul4_bd fk (ck j hj); omega)).mono ?_); rintro e w3 ⟨rfl, x3⟩; have y3 : Ext wr w3 := y2.trans x3; clear x3; have n3 := r2.keep y3; have cn3 := n3.cell; have fn3 := n3.free)))
      all_goals
        clear cn3 fn3
        have m3 := r1.keep y3
        obtain ⟨w4, e4, n4, z4⟩ := set4 (fun j => F j + f k * (cosF (imK k)) j) n3 rfl
        rw [e4]
        have m4 := m3.keepB z4 (by omega)
        have y4 := z4.ext (x1.trans y3) (by omega)
        clear c0 c1 c2 n3 m3 e4 z4 ix fk pk ck y1 y2 y3 z0
        go_wp2
        go_roundw
        case rel => exact ⟨k + 1, by omega, by go_num, m4, by simp only [partF, HF.out]; exact n4, y4⟩
        case measure => simp [intOf]; omega
    · have hk8 : k = 8 := by omega
      subst hk8
      have c2 := r2.cell
      clear hf hp k1 k2 x0
      go_wp2_with (refine store4 infoSurd (x := .tmp 2) (y := .tmp 21) (w.heap.size + 1) (partF (fun k => cosF (imK k)) f 8) _ rfl rfl r1 rfl ?_)
      intro w3 k3 z3
      have x3 := z3.ext x1 (by omega)
      have c3 := k3.cell
      clear z3 r1 c2
      go_wp2
      exact bodyPost_ret (v := sfV (partF (fun k => cosF (imK k)) f 8)) (by simp [results, Try.results58, go_sem, c3]) rfl ⟨rfl, x3⟩

/-- what SurdRe answers -/
def reM (f : Nat → Int) : (Nat → Int) × Bool := if cycOk f then doneS (l3ReF f) else (fun _ => 0, false)
/-- what SurdIm answers -/
def imM (f : Nat → Int) : (Nat → Int) × Bool := if cycOk f then doneS (l3ImF f) else (fun _ => 0, false)

set_option maxHeartbeats 1000000 in
theorem sSurdRe_any (f : Nat → Int) (w : World) : Calls Try.prog 32 #[cycV f] w fun e w' => e = .returned (tupSB (reM f)) ∧ Ext w w' := by
  have j0 := (Blk.new w (cyc8 f) 26).alloc (.cells (s4 fun _ => 0).toArray 41)
  have j1 := Blk.fst1 w (.cells (cyc8 f).toArray 26) (s4 fun _ => 0) 41
  have x0 : Ext w ((w.alloc (.cells (cyc8 f).toArray 26)).alloc (.cells (s4 fun _ => 0).toArray 41)) := by repeat (first | exact Ext.refl _ | assumption | refine Ext.drew ?_ | refine Ext.alloc ?_ _ | refine Ext.trans ?_ (by assumption))
  have hbld := buildSurd
  by_cases hf : cycOk f = true
  · have H := Lib.hid (show reM f = doneS (l3ReF f) from by simp [reM, hf])
    have BF := Lib.hid (cycOk_bd hf)
    go_enter Try.func32, Try.ntmps32
    go_wp2_with fail
    refine (sCycValid_any _ _).mono ?_
    rintro e w1 ⟨rfl, x1⟩
    have c0 := (j0.keep x1).cell
    have k1 := j1.keep x1
    have x2 := x0.trans x1
    clear j0 j1 x0 x1
    go_wp2_with fail
    refine (l3Re_any f _ BF.out).mono ?_
    rintro e w3 ⟨rfl, x3⟩
    have k3 := k1.keep x3
    have x4 := x2.trans x3
    clear c0 k1 x2 x3
    go_wp2_with fail
    refine (l3Done_any (l3ReF f) _).mono ?_
    rw [← H.out]
    rintro e w5 ⟨rfl, x5⟩
    have k5 := k3.keep x5
    have x6 := x4.trans x5
    clear k3 x4 x5
    dsimp only [tupSB]
    go_wp2_with (refine store4 infoSurd (x := .tmp 2) (y := .tmp 11) (w.heap.size + 1) (reM f).1 _ rfl rfl k5 rfl ?_)
    intro w8 k8 z8
    have x8 := z8.ext x6 (by omega)
    have c8 := k8.cell
    clear k5 x6 z8
    go_wp2
    exact bodyPost_ret (v := .tuple #[sfV (reM f).1, .bool (reM f).2]) (by simp [results, Try.results32, go_sem, c8]) rfl ⟨rfl, x8⟩
  · have hf' : cycOk f = false := by simpa using hf
    have H := Lib.hid (show reM f = (fun _ => 0, false) from by simp [reM, hf'])
    clear hf
    go_enter Try.func32, Try.ntmps32
    go_wp2_with fail
    refine (sCycValid_any _ _).mono ?_
    rintro e w1 ⟨rfl, x1⟩
    have k1 := j1.keep x1
    have x2 := x0.trans x1
    clear j0 j1 x0 x1
    go_wp2_with (refine store4 infoSurd (x := .tmp 2) (y := .tmp 7) (w.heap.size + 1) (fun _ => 0) _ rfl rfl k1 rfl ?_)
    intro w8 k8 z8
    have x8 := z8.ext x2 (by omega)
    have c8 := k8.cell
    clear k1 x2 z8
    go_wp2
    exact bodyPost_ret (v := .tuple #[sfV fun _ => 0, .bool false]) (by simp [results, Try.results32, go_sem, c8]) rfl ⟨by rw [H.out]; rfl, x8⟩

set_option maxHeartbeats 1000000 in
theorem iSurdRe_any (f : Nat → Int) (w : World) : Calls Try.prog 33 #[cycV f] w fun e w' => e = .returned (tupSB (reM f)) ∧ Ext w w' := by
  have j0 := (Blk.new w (cyc8 f) 26).alloc (.cells (s4 fun _ => 0).toArray 41)
  have j1 := Blk.fst1 w (.cells (cyc8 f).toArray 26) (s4 fun _ => 0) 41
  have x0 : Ext w ((w.alloc (.cells (cyc8 f).toArray 26)).alloc (.cells (s4 fun _ => 0).toArray 41)) := by repeat (first | exact Ext.refl _ | assumption | refine Ext.drew ?_ | refine Ext.alloc ?_ _ | refine Ext.trans ?_ (by assumption))
  have hbld := buildSurd
  by_cases hf : cycOk f = true
  · have H := Lib.hid (show reM f = doneS (l3ReF f) from by simp [reM, hf])
    have BF := Lib.hid (cycOk_bd hf)
    go_enter Try.func33, Try.ntmps33
    go_wp2_with fail
    refine (valid_any _ _).mono ?_
    rintro e w1 ⟨rfl, x1⟩
    have c0 := (j0.keep x1).cell
    have k1 := j1.keep x1
    have x2 := x0.trans x1
    clear j0 j1 x0 x1
    go_wp2_with fail
    refine (re_any f _ BF.out).mono ?_
    rintro e w3 ⟨rfl, x3⟩
    have k3 := k1.keep x3
    have x4 := x2.trans x3
    clear c0 k1 x2 x3
    go_wp2_with fail
    refine (smade_any (l3ReF f) _).mono ?_
    rw [← H.out]
    rintro e w5 ⟨rfl, x5⟩
    have k5 := k3.keep x5
    have x6 := x4.trans x5
    clear k3 x4 x5
    dsimp only [tupSB]
    go_wp2_with (refine store4 infoSurd (x := .tmp 2) (y := .tmp 11) (w.heap.size + 1) (reM f).1 _ rfl rfl k5 rfl ?_)
    intro w8 k8 z8
    have x8 := z8.ext x6 (by omega)
    have c8 := k8.cell
    clear k5 x6 z8
    go_wp2
    exact bodyPost_ret (v := .tuple #[sfV (reM f).1, .bool (reM f).2]) (by simp [results, Try.results33, go_sem, c8]) rfl ⟨rfl, x8⟩
  · have hf' : cycOk f = false := by simpa using hf
    have H := Lib.hid (show reM f = (fun _ => 0, false) from by simp [reM, hf'])
    clear hf
    go_enter Try.func33, Try.ntmps33
    go_wp2_with fail
    refine (valid_any _ _).mono ?_
    rintro e w1 ⟨rfl, x1⟩
    have k1 := j1.keep x1
    have x2 := x0.trans x1
    clear j0 j1 x0 x1
    go_wp2_with (refine store4 infoSurd (x := .tmp 2) (y := .tmp 7) (w.heap.size + 1) (fun _ => 0) _ rfl rfl k1 rfl ?_)
    intro w8 k8 z8
    have x8 := z8.ext x2 (by omega)
    have c8 := k8.cell
    clear k1 x2 z8
    go_wp2
    exact bodyPost_ret (v := .tuple #[sfV fun _ => 0, .bool false]) (by simp [results, Try.results33, go_sem, c8]) rfl ⟨by rw [H.out]; rfl, x8⟩

set_option maxHeartbeats 1000000 in
theorem sSurdIm_any (f : Nat → Int) (w : World) : Calls Try.prog 30 #[cycV f] w fun e w' => e = .returned (tupSB (imM f)) ∧ Ext w w' := by
  have j0 := (Blk.new w (cyc8 f) 26).alloc (.cells (s4 fun _ => 0).toArray 41)
  have j1 := Blk.fst1 w (.cells (cyc8 f).toArray 26) (s4 fun _ => 0) 41
  have x0 : Ext w ((w.alloc (.cells (cyc8 f).toArray 26)).alloc (.cells (s4 fun _ => 0).toArray 41)) := by repeat (first | exact Ext.refl _ | assumption | refine Ext.drew ?_ | refine Ext.alloc ?_ _ | refine Ext.trans ?_ (by assumption))
  have hbld := buildSurd
  by_cases hf : cycOk f = true
  · have H := Lib.hid (show imM f = doneS (l3ImF f) from by simp [imM, hf])
    have BF := Lib.hid (cycOk_bd hf)
    go_enter Try.func30, Try.ntmps30
    go_wp2_with fail
    refine (sCycValid_any _ _).mono ?_
    rintro e w1 ⟨rfl, x1⟩
    have c0 := (j0.keep x1).cell
    have k1 := j1.keep x1
    have x2 := x0.trans x1
    clear j0 j1 x0 x1
    go_wp2_with fail
    refine (l3Im_any f _ BF.out).mono ?_
    rintro e w3 ⟨rfl, x3⟩
    have k3 := k1.keep x3
    have x4 := x2.trans x3
    clear c0 k1 x2 x3
    go_wp2_with fail
    refine (l3Done_any (l3ImF f) _).mono ?_
    rw [← H.out]
    rintro e w5 ⟨rfl, x5⟩
    have k5 := k3.keep x5
    have x6 := x4.trans x5
    clear k3 x4 x5
    dsimp only [tupSB]
    go_wp2_with (refine store4 infoSurd (x := .tmp 2) (y := .tmp 11) (w.heap.size + 1) (imM f).1 _ rfl rfl k5 rfl ?_)
    intro w8 k8 z8
    have x8 := z8.ext x6 (by omega)
    have c8 := k8.cell
    clear k5 x6 z8
    go_wp2
    exact bodyPost_ret (v := .tuple #[sfV (imM f).1, .bool (imM f).2]) (by simp [results, Try.results30, go_sem, c8]) rfl ⟨rfl, x8⟩
  · have hf' : cycOk f = false := by simpa using hf
    have H := Lib.hid (show imM f = (fun _ => 0, false) from by simp [imM, hf'])
    clear hf
    go_enter Try.func30, Try.ntmps30
    go_wp2_with fail
    refine (sCycValid_any _ _).mono ?_
    rintro e w1 ⟨rfl, x1⟩
    have k1 := j1.keep x1
    have x2 := x0.trans x1
    clear j0 j1 x0 x1
    go_wp2_with (refine store4 infoSurd (x := .tmp 2) (y := .tmp 7) (w.heap.size + 1) (fun _ => 0) _ rfl rfl k1 rfl ?_)
    intro w8 k8 z8
    have x8 := z8.ext x2 (by omega)
    have c8 := k8.cell
    clear k1 x2 z8
    go_wp2
    exact bodyPost_ret (v := .tuple #[sfV fun _ => 0, .bool false]) (by simp [results, Try.results30, go_sem, c8]) rfl ⟨by rw [H.out]; rfl, x8⟩

set_option maxHeartbeats 1000000 in
theorem iSurdIm_any (f : Nat → Int) (w : World) : Calls Try.prog 31 #[cycV f] w fun e w' => e = .returned (tupSB (imM f)) ∧ Ext w w' := by
  have j0 := (Blk.new w (cyc8 f) 26).alloc (.cells (s4 fun _ => 0).toArray 41)
  have j1 := Blk.fst1 w (.cells (cyc8 f).toArray 26) (s4 fun _ => 0) 41
  have x0 : Ext w ((w.alloc (.cells (cyc8 f).toArray 26)).alloc (.cells (s4 fun _ => 0).toArray 41)) := by repeat (first | exact Ext.refl _ | assumption | refine Ext.drew ?_ | refine Ext.alloc ?_ _ | refine Ext.trans ?_ (by assumption))
  have hbld := buildSurd
  by_cases hf : cycOk f = true
  · have H := Lib.hid (show imM f = doneS (l3ImF f) from by simp [imM, hf])
    have BF := Lib.hid (cycOk_bd hf)
    go_enter Try.func31, Try.ntmps31
    go_wp2_with fail
    refine (valid_any _ _).mono ?_
    rintro e w1 ⟨rfl, x1⟩
    have c0 := (j0.keep x1).cell
    have k1 := j1.keep x1
    have x2 := x0.trans x1
    clear j0 j1 x0 x1
    go_wp2_with fail
    refine (im_any f _ BF.out).mono ?_
    rintro e w3 ⟨rfl, x3⟩
    have k3 := k1.keep x3
    have x4 := x2.trans x3
    clear c0 k1 x2 x3
    go_wp2_with fail
    refine (smade_any (l3ImF f) _).mono ?_
    rw [← H.out]
    rintro e w5 ⟨rfl, x5⟩
    have k5 := k3.keep x5
    have x6 := x4.trans x5
    clear k3 x4 x5
    dsimp only [tupSB]
    go_wp2_with (refine store4 infoSurd (x := .tmp 2) (y := .tmp 11) (w.heap.size + 1) (imM f).1 _ rfl rfl k5 rfl ?_)
    intro w8 k8 z8
    have x8 := z8.ext x6 (by omega)
    have c8 := k8.cell
    clear k5 x6 z8
    go_wp2
    exact bodyPost_ret (v := .tuple #[sfV (imM f).1, .bool (imM f).2]) (by simp [results, Try.results31, go_sem, c8]) rfl ⟨rfl, x8⟩
  · have hf' : cycOk f = false := by simpa using hf
    have H := Lib.hid (show imM f = (fun _ => 0, false) from by simp [imM, hf'])
    clear hf
    go_enter Try.func31, Try.ntmps31
    go_wp2_with fail
    refine (valid_any _ _).mono ?_
    rintro e w1 ⟨rfl, x1⟩
    have k1 := j1.keep x1
    have x2 := x0.trans x1
    clear j0 j1 x0 x1
    go_wp2_with (refine store4 infoSurd (x := .tmp 2) (y := .tmp 7) (w.heap.size + 1) (fun _ => 0) _ rfl rfl k1 rfl ?_)
    intro w8 k8 z8
    have x8 := z8.ext x2 (by omega)
    have c8 := k8.cell
    clear k1 x2 z8
    go_wp2
    exact bodyPost_ret (v := .tuple #[sfV fun _ => 0, .bool false]) (by simp [results, Try.results31, go_sem, c8]) rfl ⟨by rw [H.out]; rfl, x8⟩

set_option maxHeartbeats 1000000 in
theorem lSurdRe (f : Nat → Int) (w : World) : Calls Try.prog 11 #[cycV f] w fun e w' => e = .returned (.bool true) ∧ Ext w w' := by
  have j0 := Blk.new w (cyc8 f) 24
  have x0 : Ext w (w.alloc (.cells (cyc8 f).toArray 24)) := by repeat (first | exact Ext.refl _ | assumption | refine Ext.drew ?_ | refine Ext.alloc ?_ _ | refine Ext.trans ?_ (by assumption))
  go_enter Try.func11, Try.ntmps11
  go_wp2_with fail
  refine (toCyc_any f _).mono ?_
  rintro e w1 ⟨rfl, x1⟩
  have j1 := j0.keep x1
  have y1 := x0.trans x1
  clear j0 x0 x1
  go_wp2_with fail
  refine (sSurdRe_any f _).mono ?_
  rintro e w2 ⟨rfl, x2⟩
  dsimp only [tupSB]
  have j2 := j1.keep x2
  have j3 := j2.alloc (.cells (s4 (reM f).1).toArray 41)
  have k3 := Blk.new w2 (s4 (reM f).1) 41
  have y3 := (y1.trans x2).alloc (.cells (s4 (reM f).1).toArray 41)
  have c3 := j3.cell
  clear j1 y1 x2 j2
  go_wp2_with fail
  refine (toCyc_any f _).mono ?_
  rintro e w4 ⟨rfl, x4⟩
  have k4 := k3.keep x4
  have y4 := y3.trans x4
  clear c3 j3 k3 y3 x4
  go_wp2_with fail
  refine (iSurdRe_any f _).mono ?_
  rintro e w5 ⟨rfl, x5⟩
  dsimp only [tupSB]
  have k6 := (k4.keep x5).alloc (.cells (s4 (reM f).1).toArray 41)
  have c6 := k6.cell
  have y6 := (y4.trans x5).alloc (.cells (s4 (reM f).1).toArray 41)
  clear k4 y4 x5 k6
  go_wp2_with fail
  refine (eqSurd_any (reM f).1 _).mono ?_
  rintro e w8 ⟨rfl, x8⟩
  clear c6
  go_wp2
  go_ret
  exact ⟨rfl, y6.trans x8⟩

set_option maxHeartbeats 1000000 in
theorem lSurdIm (f : Nat → Int) (w : World) : Calls Try.prog 10 #[cycV f] w fun e w' => e = .returned (.bool true) ∧ Ext w w' := by
  have j0 := Blk.new w (cyc8 f) 24
  have x0 : Ext w (w.alloc (.cells (cyc8 f).toArray 24)) := by repeat (first | exact Ext.refl _ | assumption | refine Ext.drew ?_ | refine Ext.alloc ?_ _ | refine Ext.trans ?_ (by assumption))
  go_enter Try.func10, Try.ntmps10
  go_wp2_with fail
  refine (toCyc_any f _).mono ?_
  rintro e w1 ⟨rfl, x1⟩
  have j1 := j0.keep x1
  have y1 := x0.trans x1
  clear j0 x0 x1
  go_wp2_with fail
  refine (sSurdIm_any f _).mono ?_
  rintro e w2 ⟨rfl, x2⟩
  dsimp only [tupSB]
  have j2 := j1.keep x2
  have j3 := j2.alloc (.cells (s4 (imM f).1).toArray 41)
  have k3 := Blk.new w2 (s4 (imM f).1) 41
  have y3 := (y1.trans x2).alloc (.cells (s4 (imM f).1).toArray 41)
  have c3 := j3.cell
  clear j1 y1 x2 j2
  go_wp2_with fail
  refine (toCyc_any f _).mono ?_
  rintro e w4 ⟨rfl, x4⟩
  have k4 := k3.keep x4
  have y4 := y3.trans x4
  clear c3 j3 k3 y3 x4
  go_wp2_with fail
  refine (iSurdIm_any f _).mono ?_
  rintro e w5 ⟨rfl, x5⟩
  dsimp only [tupSB]
  have k6 := (k4.keep x5).alloc (.cells (s4 (imM f).1).toArray 41)
  have c6 := k6.cell
  have y6 := (y4.trans x5).alloc (.cells (s4 (imM f).1).toArray 41)
  clear k4 y4 x5 k6
  go_wp2_with fail
  refine (eqSurd_any (imM f).1 _).mono ?_
  rintro e w8 ⟨rfl, x8⟩
  clear c6
  go_wp2
  go_ret
  exact ⟨rfl, y6.trans x8⟩

end Go.Proofs.Ytcbbnpijijoblaa
