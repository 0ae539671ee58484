/- Real and imaginary parts of exact points (chapter 3), of impl and of spec, and the exact laws. Written by mk_surd4.py. -/
import Derived.Test.YtfghjlngllanoaaSurd3
import Derived.Deep.RegionWith
import Derived.Deep.DeepCutAuto
import Derived.LoopTactic
import Derived.IntWalk
namespace Go.Proofs.Ytfghjlngllanoaa
open Go.ChangeShapes Go.WideShapes Go.ChangeAt Go.RowKit
set_option linter.unusedVariables false
set_option maxRecDepth 100000

theorem cosAt (z : Int) (n : Nat) (h : z = (n : Int)) (hn : n < 8 ∨ (18 ≤ n ∧ n < 24)) (w : World) : Calls Try.prog 64 #[.int .i64 z] w fun e w' => e = .returned (sfV (cosF n)) ∧ Ext w w' := by
  subst h
  obtain rfl | rfl | rfl | rfl | rfl | rfl | rfl | rfl | rfl | rfl | rfl | rfl | rfl | rfl : n = 0 ∨ n = 1 ∨ n = 2 ∨ n = 3 ∨ n = 4 ∨ n = 5 ∨ n = 6 ∨ n = 7 ∨ n = 18 ∨ n = 19 ∨ n = 20 ∨ n = 21 ∨ n = 22 ∨ n = 23 := by omega
  · exact cosine_0 w
  · exact cosine_1 w
  · exact cosine_2 w
  · exact cosine_3 w
  · exact cosine_4 w
  · exact cosine_5 w
  · exact cosine_6 w
  · exact cosine_7 w
  · exact cosine_18 w
  · exact cosine_19 w
  · exact cosine_20 w
  · exact cosine_21 w
  · exact cosine_22 w
  · exact cosine_23 w

set_option maxHeartbeats 1000000 in
theorem splusT_any (f g : Nat → Int) (w : World) (hf : ∀ j, j < 4 → -1000000000000 ≤ f j ∧ f j ≤ 1000000000000) (hg : ∀ j, j < 4 → -1000000000000 ≤ g j ∧ g j ≤ 1000000000000) :
    Calls Try.prog 63 #[sfV f, sfV g] w fun e w' => e = .returned (sfV fun j => f j + g j) ∧ Ext w w' := by
  obtain ⟨a0, b0⟩ := hf 0 (by omega); obtain ⟨a1, b1⟩ := hf 1 (by omega); obtain ⟨a2, b2⟩ := hf 2 (by omega); obtain ⟨a3, b3⟩ := hf 3 (by omega)
  obtain ⟨c0, d0⟩ := hg 0 (by omega); obtain ⟨c1, d1⟩ := hg 1 (by omega); obtain ⟨c2, d2⟩ := hg 2 (by omega); obtain ⟨c3, d3⟩ := hg 3 (by omega)
  clear hf hg
  go_enter Try.func63, Try.ntmps63
  go_wp2
  go_returns
  exact ⟨rfl, by repeat (first | exact Ext.refl _ | assumption | refine Ext.drew ?_ | refine Ext.alloc ?_ _ | refine Ext.trans ?_ (by assumption))⟩

/-- the sum of the first k coefficients, each times its surd -/
def partF (cs : Nat → Nat → Int) (f : Nat → Int) : Nat → Nat → Int
  | 0 => fun _ => 0
  | k + 1 => fun j => partF cs f k j + f k * cs k j
theorem mul4_bd {a c : Int} (ha : -1000000 ≤ a ∧ a ≤ 1000000) (hc : -4 ≤ c ∧ c ≤ 4) : -4000000 ≤ a * c ∧ a * c ≤ 4000000 := by
  have h1 : c = -4 ∨ c = -3 ∨ c = -2 ∨ c = -1 ∨ c = 0 ∨ c = 1 ∨ c = 2 ∨ c = 3 ∨ c = 4 := by omega
  rcases h1 with rfl | rfl | rfl | rfl | rfl | rfl | rfl | rfl | rfl <;> omega
theorem partF_bd {cs : Nat → Nat → Int} {f : Nat → Int} (hf : ∀ j, j < 8 → -1000000 ≤ f j ∧ f j ≤ 1000000) (hc : ∀ k, k < 8 → ∀ j, j < 4 → -4 ≤ cs k j ∧ cs k j ≤ 4) (k : Nat) (hk : k ≤ 8) (j : Nat) (hj : j < 4) :
    -(4000000 * (k : Int)) ≤ partF cs f k j ∧ partF cs f k j ≤ 4000000 * (k : Int) := by
  induction k with
  | zero => simp [partF]
  | succ k ih =>
    have := ih (by omega)
    have := mul4_bd (hf k (by omega)) (hc k (by omega) j hj)
    simp only [partF]
    omega
/-- an index into an array of eight -/
theorem idxN (f : Nat → Int) (k : Nat) (hk : k < 8) (w : World) : (Instr.index 25 (cycV f) (.int .i64 (k : Int))).run Try.prog w = .ok (.int .i64 (f k)) w := by
  obtain rfl | rfl | rfl | rfl | rfl | rfl | rfl | rfl : k = 0 ∨ k = 1 ∨ k = 2 ∨ k = 3 ∨ k = 4 ∨ k = 5 ∨ k = 6 ∨ k = 7 := by omega
  · exact idx0 f w
  · exact idx1 f w
  · exact idx2 f w
  · exact idx3 f w
  · exact idx4 f w
  · exact idx5 f w
  · exact idx6 f w
  · exact idx7 f w
/-- the twentyfourth of the imaginary part's cosine -/
def imK (k : Nat) : Nat := (k + 18) % 24
theorem imK_mod (k : Nat) (hk : k < 8) : modT ((k : Int) - 6) = (imK k : Int) := by unfold modT imK; omega
theorem imK_lt (k : Nat) (hk : k < 8) : imK k < 8 ∨ (18 ≤ imK k ∧ imK k < 24) := by unfold imK; omega
theorem reC_bd : ∀ k, k < 8 → ∀ j, j < 4 → -4 ≤ cosF k j ∧ cosF k j ≤ 4 := fun k hk j hj => cosF_bd k (by omega) j hj
theorem imC_bd : ∀ k, k < 8 → ∀ j, j < 4 → -4 ≤ cosF (imK k) j ∧ cosF (imK k) j ≤ 4 := fun k hk j hj => cosF_bd (imK k) (by have := imK_lt k hk; omega) j hj
/-- the real part -/
def l3ReF (f : Nat → Int) : Nat → Int := fn4 (4 * f 0 + 2 * f 4) (f 1 + 2 * f 3 - f 5 + f 7) (2 * f 2) (f 1 + f 5 - f 7)
/-- the imaginary part -/
def l3ImF (f : Nat → Int) : Nat → Int := fn4 (2 * f 2 + 4 * f 6) (-f 1 + 2 * f 3 + f 5 + f 7) (2 * f 4) (f 1 + f 5 + f 7)
theorem re_same (f : Nat → Int) : sfV (partF cosF f 8) = sfV (l3ReF f) := by
  have h0 : partF cosF f 8 0 = l3ReF f 0 := by simp [partF, cosF, fn4, l3ReF]; omega
  have h1 : partF cosF f 8 1 = l3ReF f 1 := by simp [partF, cosF, fn4, l3ReF]; omega
  have h2 : partF cosF f 8 2 = l3ReF f 2 := by simp [partF, cosF, fn4, l3ReF]; omega
  have h3 : partF cosF f 8 3 = l3ReF f 3 := by simp [partF, cosF, fn4, l3ReF]; omega
  simp only [sfV, h0, h1, h2, h3]
theorem im_same (f : Nat → Int) : sfV (partF (fun k => cosF (imK k)) f 8) = sfV (l3ImF f) := by
  have h0 : partF (fun k => cosF (imK k)) f 8 0 = l3ImF f 0 := by simp [partF, cosF, fn4, l3ImF, imK]; omega
  have h1 : partF (fun k => cosF (imK k)) f 8 1 = l3ImF f 1 := by simp [partF, cosF, fn4, l3ImF, imK]; omega
  have h2 : partF (fun k => cosF (imK k)) f 8 2 = l3ImF f 2 := by simp [partF, cosF, fn4, l3ImF, imK]; omega
  have h3 : partF (fun k => cosF (imK k)) f 8 3 = l3ImF f 3 := by simp [partF, cosF, fn4, l3ImF, imK]
  simp only [sfV, h0, h1, h2, h3]

set_option maxHeartbeats 2000000 in
theorem re_any (f : Nat → Int) (w : World) (hf : ∀ j, j < 8 → -1000000 ≤ f j ∧ f j ≤ 1000000) : Calls Try.prog 46 #[cycV f] w fun e w' => e = .returned (sfV (l3ReF f)) ∧ Ext w w' := by
  rw [← re_same f]
  have hp := partF_bd (cs := cosF) hf reC_bd
  have k1 := (Blk.new1 w (.cells (cyc8 f).toArray 27) (s4 fun _ => 0) 44).alloc (.cells (s4 fun _ => 0).toArray 44)
  have k2 := Blk.new2 w (.cells (cyc8 f).toArray 27) (.cells (s4 fun _ => 0).toArray 44) (s4 fun _ => 0) 44
  have x0 : Ext w (((w.alloc (.cells (cyc8 f).toArray 27)).alloc (.cells (s4 fun _ => 0).toArray 44)).alloc (.cells (s4 fun _ => 0).toArray 44)) := by repeat (first | exact Ext.refl _ | assumption | refine Ext.drew ?_ | refine Ext.alloc ?_ _ | refine Ext.trans ?_ (by assumption))
  go_enter Try.func46, Try.ntmps46
  go_wp2
  generalize World.alloc (World.alloc (World.alloc _ _) _) _ = W at *
  go_loopw [8] (fun i wr => ∃ k : Nat, k ≤ 8 ∧ i = .int .i64 (k : Int) ∧ Blk wr (w.heap.size + 1) (s4 fun _ => 0) ∧ Blk wr (w.heap.size + 1 + 1) (s4 (partF cosF f k)) ∧ Ext w wr) (fun i _ => 8 - (intOf i).toNat)
  case atStart => exact ⟨0, by omega, by go_num, k1, k2, x0⟩
  case round =>
    obtain ⟨k, hk, rfl, r1, r2, x1⟩ := hrel
    by_cases hlt : k < 8
    · have ix := idxN f k hlt
      have fk := hf k hlt
      have pk := hp k hk
      have ck := reC_bd k hlt
      have z0 : Ext wr wr.drew := (Ext.refl wr).drew
      have c0 := (r2.keep z0).cell
      generalize hF : partF cosF f k = F at *
      have HF := Lib.hid hF
      clear hF hf hp k1 k2 x0
      go_upto_region 5 with fail
      go_region_with
        (first
        | (go_at_call 64; ((with_reducible refine (cosAt _ k rfl (.inl hlt) _).mono ?_); rintro e w1 ⟨rfl, x1⟩; have y1 : Ext wr w1 := z0.trans x1; clear x1; have c1 := (r2.keep y1).cell))
        | (go_at_call 65; ((with_reducible refine (sscaled_any (cosF k) (f k) _ (fun j hj => by have := mul4_bd fk (ck j hj); omega)).mono ?_); rintro e w2 ⟨rfl, x2⟩; have y2 : Ext wr w2 := y1.trans x2; clear x2; have c2 := (r2.keep y2).cell))
        | (go_at_call 63; ((with_reducible refine (splusT_any F (fun j => f k * (cosF k) j) _ (fun j hj => by have := pk j hj; omega) (fun j hj => by have := mul4_bd fk (ck j hj); omega)).mono ?_); rintro e w3 ⟨rfl, x3⟩; have y3 : Ext wr w3 := y2.trans x3; clear x3; have n3 := r2.keep y3; have cn3 := n3.cell; have fn3 := n3.free)))
      all_goals
        clear cn3 fn3
        have m3 := r1.keep y3
        obtain ⟨w4, e4, n4, z4⟩ := set4 (fun j => F j + f k * (cosF k) j) n3 rfl
        rw [e4]
        have m4 := m3.keepB z4 (by omega)
        have y4 := z4.ext (x1.trans y3) (by omega)
        clear c0 c1 c2 n3 m3 e4 z4 ix fk pk ck y1 y2 y3 z0
        go_wp2
        go_roundw
        case rel => exact ⟨k + 1, by omega, by go_num, m4, by simp only [partF, HF.out]; exact n4, y4⟩
        case measure => simp [intOf]; omega
    · have hk8 : k = 8 := by omega
      subst hk8
      have c2 := r2.cell
      clear hf hp k1 k2 x0
      go_wp2_with (refine store4 infoSurd (x := .tmp 2) (y := .tmp 19) (w.heap.size + 1) (partF cosF f 8) _ rfl rfl r1 rfl ?_)
      intro w3 k3 z3
      have x3 := z3.ext x1 (by omega)
      have c3 := k3.cell
      clear z3 r1 c2
      go_wp2
      exact bodyPost_ret (v := sfV (partF cosF f 8)) (by simp [results, Try.results46, go_sem, c3]) rfl ⟨rfl, x3⟩

set_option maxHeartbeats 2000000 in
theorem im_any (f : Nat → Int) (w : World) (hf : ∀ j, j < 8 → -1000000 ≤ f j ∧ f j ≤ 1000000) : Calls Try.prog 48 #[cycV f] w fun e w' => e = .returned (sfV (l3ImF f)) ∧ Ext w w' := by
  rw [← im_same f]
  have hp := partF_bd (cs := (fun k => cosF (imK k))) hf imC_bd
  have k1 := (Blk.new1 w (.cells (cyc8 f).toArray 27) (s4 fun _ => 0) 44).alloc (.cells (s4 fun _ => 0).toArray 44)
  have k2 := Blk.new2 w (.cells (cyc8 f).toArray 27) (.cells (s4 fun _ => 0).toArray 44) (s4 fun _ => 0) 44
  have x0 : Ext w (((w.alloc (.cells (cyc8 f).toArray 27)).alloc (.cells (s4 fun _ => 0).toArray 44)).alloc (.cells (s4 fun _ => 0).toArray 44)) := by repeat (first | exact Ext.refl _ | assumption | refine Ext.drew ?_ | refine Ext.alloc ?_ _ | refine Ext.trans ?_ (by assumption))
  go_enter Try.func48, Try.ntmps48
  go_wp2
  generalize World.alloc (World.alloc (World.alloc _ _) _) _ = W at *
  go_loopw [8] (fun i wr => ∃ k : Nat, k ≤ 8 ∧ i = .int .i64 (k : Int) ∧ Blk wr (w.heap.size + 1) (s4 fun _ => 0) ∧ Blk wr (w.heap.size + 1 + 1) (s4 (partF (fun k => cosF (imK k)) f k)) ∧ Ext w wr) (fun i _ => 8 - (intOf i).toNat)
  case atStart => exact ⟨0, by omega, by go_num, k1, k2, x0⟩
  case round =>
    obtain ⟨k, hk, rfl, r1, r2, x1⟩ := hrel
    by_cases hlt : k < 8
    · have ix := idxN f k hlt
      have fk := hf k hlt
      have pk := hp k hk
      have ck := imC_bd k hlt
      have z0 : Ext wr wr.drew := (Ext.refl wr).drew
      have c0 := (r2.keep z0).cell
      generalize hF : partF (fun k => cosF (imK k)) f k = F at *
      have HF := Lib.hid hF
      clear hF hf hp k1 k2 x0
      have e6 : IntKind.i64.wrap ((k : Int) - 6) = (k : Int) - 6 := IntWalk.i64_in _ (by omega)
      go_upto_region 5 with fail
      go_region_with
        (first
        | (go_at_call 67; ((with_reducible refine (turnOf_any _ _).mono ?_); rintro e w' ⟨rfl, rfl⟩))
        | (go_at_call 64; ((with_reducible refine (cosAt _ (imK k) (imK_mod k hlt) (imK_lt k hlt) _).mono ?_); rintro e w1 ⟨rfl, x1⟩; have y1 : Ext wr w1 := z0.trans x1; clear x1; have c1 := (r2.keep y1).cell))
        | (go_at_call 65; ((with_reducible refine (sscaled_any (cosF (imK k)) (f k) _ (fun j hj => by have := mul4_bd fk (ck j hj); omega)).mono ?_); rintro e w2 ⟨rfl, x2⟩; have y2 : Ext wr w2 := y1.trans x2; clear x2; have c2 := (r2.keep y2).cell))
        | (go_at_call 63; ((with_reducible refine (splusT_any F (fun j => f k * (cosF (imK k)) j) _ (fun j hj => by have := pk j hj; omega) (fun j hj => by have := mul4_bd fk (ck j hj); omega)).mono ?_); rintro e w3 ⟨rfl, x3⟩; have y3 : Ext wr w3 := y2.trans x3; clear x3; have n3 := r2.keep y3; have cn3 := n3.cell; have fn3 := n3.free)))
      all_goals
        clear cn3 fn3
        have m3 := r1.keep y3
        obtain ⟨w4, e4, n4, z4⟩ := set4 (fun j => F j + f k * (cosF (imK k)) j) n3 rfl
        rw [e4]
        have m4 := m3.keepB z4 (by omega)
        have y4 := z4.ext (x1.trans y3) (by omega)
        clear c0 c1 c2 n3 m3 e4 z4 ix fk pk ck y1 y2 y3 z0
        go_wp2
        go_roundw
        case rel => exact ⟨k + 1, by omega, by go_num, m4, by simp only [partF, HF.out]; exact n4, y4⟩
        case measure => simp [intOf]; omega
    · have hk8 : k = 8 := by omega
      subst hk8
      have c2 := r2.cell
      clear hf hp k1 k2 x0
      go_wp2_with (refine store4 infoSurd (x := .tmp 2) (y := .tmp 21) (w.heap.size + 1) (partF (fun k => cosF (imK k)) f 8) _ rfl rfl r1 rfl ?_)
      intro w3 k3 z3
      have x3 := z3.ext x1 (by omega)
      have c3 := k3.cell
      clear z3 r1 c2
      go_wp2
      exact bodyPost_ret (v := sfV (partF (fun k => cosF (imK k)) f 8)) (by simp [results, Try.results48, go_sem, c3]) rfl ⟨rfl, x3⟩

/-- what SurdRe answers -/
def reM (f : Nat → Int) : (Nat → Int) × Bool := if cycOk f then doneS (l3ReF f) else (fun _ => 0, false)
/-- what SurdIm answers -/
def imM (f : Nat → Int) : (Nat → Int) × Bool := if cycOk f then doneS (l3ImF f) else (fun _ => 0, false)

set_option maxHeartbeats 1000000 in
theorem iSurdRe_any (f : Nat → Int) (w : World) : Calls Try.prog 24 #[cycV f] w fun e w' => e = .returned (tupSB (reM f)) ∧ Ext w w' := by
  have j0 := (Blk.new w (cyc8 f) 27).alloc (.cells (s4 fun _ => 0).toArray 44)
  have j1 := Blk.fst1 w (.cells (cyc8 f).toArray 27) (s4 fun _ => 0) 44
  have x0 : Ext w ((w.alloc (.cells (cyc8 f).toArray 27)).alloc (.cells (s4 fun _ => 0).toArray 44)) := by repeat (first | exact Ext.refl _ | assumption | refine Ext.drew ?_ | refine Ext.alloc ?_ _ | refine Ext.trans ?_ (by assumption))
  have hbld := buildSurd
  by_cases hf : cycOk f = true
  · have H := Lib.hid (show reM f = doneS (l3ReF f) from by simp [reM, hf])
    have BF := Lib.hid (cycOk_bd hf)
    go_enter Try.func24, Try.ntmps24
    go_wp2_with fail
    refine (valid_any _ _).mono ?_
    rintro e w1 ⟨rfl, x1⟩
    have c0 := (j0.keep x1).cell
    have k1 := j1.keep x1
    have x2 := x0.trans x1
    clear j0 j1 x0 x1
    go_wp2_with fail
    refine (re_any f _ BF.out).mono ?_
    rintro e w3 ⟨rfl, x3⟩
    have k3 := k1.keep x3
    have x4 := x2.trans x3
    clear c0 k1 x2 x3
    go_wp2_with fail
    refine (smade_any (l3ReF f) _).mono ?_
    rw [← H.out]
    rintro e w5 ⟨rfl, x5⟩
    have k5 := k3.keep x5
    have x6 := x4.trans x5
    clear k3 x4 x5
    dsimp only [tupSB]
    go_wp2_with (refine store4 infoSurd (x := .tmp 2) (y := .tmp 11) (w.heap.size + 1) (reM f).1 _ rfl rfl k5 rfl ?_)
    intro w8 k8 z8
    have x8 := z8.ext x6 (by omega)
    have c8 := k8.cell
    clear k5 x6 z8
    go_wp2
    exact bodyPost_ret (v := .tuple #[sfV (reM f).1, .bool (reM f).2]) (by simp [results, Try.results24, go_sem, c8]) rfl ⟨rfl, x8⟩
  · have hf' : cycOk f = false := by simpa using hf
    have H := Lib.hid (show reM f = (fun _ => 0, false) from by simp [reM, hf'])
    clear hf
    go_enter Try.func24, Try.ntmps24
    go_wp2_with fail
    refine (valid_any _ _).mono ?_
    rintro e w1 ⟨rfl, x1⟩
    have k1 := j1.keep x1
    have x2 := x0.trans x1
    clear j0 j1 x0 x1
    go_wp2_with (refine store4 infoSurd (x := .tmp 2) (y := .tmp 7) (w.heap.size + 1) (fun _ => 0) _ rfl rfl k1 rfl ?_)
    intro w8 k8 z8
    have x8 := z8.ext x2 (by omega)
    have c8 := k8.cell
    clear k1 x2 z8
    go_wp2
    exact bodyPost_ret (v := .tuple #[sfV fun _ => 0, .bool false]) (by simp [results, Try.results24, go_sem, c8]) rfl ⟨by rw [H.out]; rfl, x8⟩

set_option maxHeartbeats 1000000 in
theorem iSurdIm_any (f : Nat → Int) (w : World) : Calls Try.prog 25 #[cycV f] w fun e w' => e = .returned (tupSB (imM f)) ∧ Ext w w' := by
  have j0 := (Blk.new w (cyc8 f) 27).alloc (.cells (s4 fun _ => 0).toArray 44)
  have j1 := Blk.fst1 w (.cells (cyc8 f).toArray 27) (s4 fun _ => 0) 44
  have x0 : Ext w ((w.alloc (.cells (cyc8 f).toArray 27)).alloc (.cells (s4 fun _ => 0).toArray 44)) := by repeat (first | exact Ext.refl _ | assumption | refine Ext.drew ?_ | refine Ext.alloc ?_ _ | refine Ext.trans ?_ (by assumption))
  have hbld := buildSurd
  by_cases hf : cycOk f = true
  · have H := Lib.hid (show imM f = doneS (l3ImF f) from by simp [imM, hf])
    have BF := Lib.hid (cycOk_bd hf)
    go_enter Try.func25, Try.ntmps25
    go_wp2_with fail
    refine (valid_any _ _).mono ?_
    rintro e w1 ⟨rfl, x1⟩
    have c0 := (j0.keep x1).cell
    have k1 := j1.keep x1
    have x2 := x0.trans x1
    clear j0 j1 x0 x1
    go_wp2_with fail
    refine (im_any f _ BF.out).mono ?_
    rintro e w3 ⟨rfl, x3⟩
    have k3 := k1.keep x3
    have x4 := x2.trans x3
    clear c0 k1 x2 x3
    go_wp2_with fail
    refine (smade_any (l3ImF f) _).mono ?_
    rw [← H.out]
    rintro e w5 ⟨rfl, x5⟩
    have k5 := k3.keep x5
    have x6 := x4.trans x5
    clear k3 x4 x5
    dsimp only [tupSB]
    go_wp2_with (refine store4 infoSurd (x := .tmp 2) (y := .tmp 11) (w.heap.size + 1) (imM f).1 _ rfl rfl k5 rfl ?_)
    intro w8 k8 z8
    have x8 := z8.ext x6 (by omega)
    have c8 := k8.cell
    clear k5 x6 z8
    go_wp2
    exact bodyPost_ret (v := .tuple #[sfV (imM f).1, .bool (imM f).2]) (by simp [results, Try.results25, go_sem, c8]) rfl ⟨rfl, x8⟩
  · have hf' : cycOk f = false := by simpa using hf
    have H := Lib.hid (show imM f = (fun _ => 0, false) from by simp [imM, hf'])
    clear hf
    go_enter Try.func25, Try.ntmps25
    go_wp2_with fail
    refine (valid_any _ _).mono ?_
    rintro e w1 ⟨rfl, x1⟩
    have k1 := j1.keep x1
    have x2 := x0.trans x1
    clear j0 j1 x0 x1
    go_wp2_with (refine store4 infoSurd (x := .tmp 2) (y := .tmp 7) (w.heap.size + 1) (fun _ => 0) _ rfl rfl k1 rfl ?_)
    intro w8 k8 z8
    have x8 := z8.ext x2 (by omega)
    have c8 := k8.cell
    clear k1 x2 z8
    go_wp2
    exact bodyPost_ret (v := .tuple #[sfV fun _ => 0, .bool false]) (by simp [results, Try.results25, go_sem, c8]) rfl ⟨by rw [H.out]; rfl, x8⟩

end Go.Proofs.Ytfghjlngllanoaa
