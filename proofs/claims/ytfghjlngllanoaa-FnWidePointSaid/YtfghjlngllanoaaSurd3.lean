/- Real and imaginary parts of exact points (chapter 3), of impl and of spec. -/
import Derived.Test.YtfghjlngllanoaaSurd2
import Derived.Test.YtfghjlngllanoaaCyc2
namespace Go.Proofs.Ytfghjlngllanoaa
open Go.ChangeShapes Go.WideShapes Go.ChangeAt Go.RowKit
set_option linter.unusedVariables false
set_option maxRecDepth 100000

set_option maxHeartbeats 1000000 in
theorem sscaled_any (f : Nat → Int) (n : Int) (w : World) (hg : ∀ j, j < 4 → -1000000000000 ≤ n * f j ∧ n * f j ≤ 1000000000000) :
    Calls Try.prog 65 #[sfV f, .int .i64 n] w fun e w' => e = .returned (sfV fun j => n * f j) ∧ Ext w w' := by
  obtain ⟨c0, d0⟩ := hg 0 (by omega); obtain ⟨c1, d1⟩ := hg 1 (by omega); obtain ⟨c2, d2⟩ := hg 2 (by omega); obtain ⟨c3, d3⟩ := hg 3 (by omega)
  clear hg
  go_enter Try.func65, Try.ntmps65
  go_wp2
  go_returns
  exact ⟨rfl, by repeat (first | exact Ext.refl _ | assumption | refine Ext.drew ?_ | refine Ext.alloc ?_ _ | refine Ext.trans ?_ (by assumption))⟩

/-- four times the cosine of a 24th part -/
def cosF : Nat → Nat → Int
  | 0 => fn4 4 0 0 0 | 1 => fn4 0 1 0 1 | 2 => fn4 0 0 2 0 | 3 => fn4 0 2 0 0 | 4 => fn4 2 0 0 0 | 5 => fn4 0 (-1) 0 1 | 6 => fn4 0 0 0 0
  | 7 => fn4 0 1 0 (-1) | 8 => fn4 (-2) 0 0 0 | 9 => fn4 0 (-2) 0 0 | 10 => fn4 0 0 (-2) 0 | 11 => fn4 0 (-1) 0 (-1) | 12 => fn4 (-4) 0 0 0
  | 13 => fn4 0 (-1) 0 (-1) | 14 => fn4 0 0 (-2) 0 | 15 => fn4 0 (-2) 0 0 | 16 => fn4 (-2) 0 0 0 | 17 => fn4 0 1 0 (-1) | 18 => fn4 0 0 0 0
  | 19 => fn4 0 (-1) 0 1 | 20 => fn4 2 0 0 0 | 21 => fn4 0 2 0 0 | 22 => fn4 0 0 2 0 | _ => fn4 0 1 0 1
def tab : List Value := [.int .i64 4, .int .i64 0, .int .i64 0, .int .i64 0, .int .i64 0, .int .i64 1, .int .i64 0, .int .i64 1, .int .i64 0, .int .i64 0, .int .i64 2, .int .i64 0, .int .i64 0, .int .i64 2, .int .i64 0, .int .i64 0, .int .i64 2, .int .i64 0, .int .i64 0, .int .i64 0, .int .i64 0, .int .i64 (-1), .int .i64 0, .int .i64 1, .int .i64 0, .int .i64 0, .int .i64 0, .int .i64 0]
theorem tab_one : ∀ v ∈ tab, v.oneCell' = true := by simp [tab, Value.oneCell']
theorem storeRow {P : Program} {T : TypeId} (n : Nat) (hP : (P.info? T).map (·.size) = some n) {ops : Array Oper} {rest : List Oper} {ty : TypeId} {pos : String} {after : Array Edge} {a : Act} {w : World} {Q : Exit → Act → World → Prop} {x y : Operand}
    (B : Nat) (vs xs : List Value) (hx : a.eval x = .pointer (some ⟨B, 0, none⟩)) (hy : a.eval y = .agg vs.toArray) (hb : Blk w B xs) (hl : xs.length = n) (hv : vs.length = n) (h1 : ∀ v ∈ vs, v.oneCell' = true)
    (h : ∀ w', Blk w' B vs → ExtB B w w' → wpList P ops Q rest (a.put none undef) w') : wpList P ops Q (⟨none, .store T x y, ty, pos, after, none⟩ :: rest) a w := by
  obtain ⟨T', hT⟩ := hb
  refine wpList_store_row rfl T x y rfl B vs.toArray hx hy T' xs.toArray hT (by rw [hP]; simp [hv]) (by simp [hl, hv]) (by simpa using h1) ?_
  exact h _ ⟨T', setRow_heap w B _ _ T' _ hT⟩ ⟨rfl, rfl, rfl, by simp, fun k hk hne => setRow_other w B k _ hne⟩
theorem infoTab : (Try.prog.info? 91).map (·.size) = some 28 := by kernel_rfl
theorem buildTab (w : World) : (Instr.build 91 #[(0, sfV (fn4 4 0 0 0)), (1, sfV (fn4 0 1 0 1)), (2, sfV (fn4 0 0 2 0)), (3, sfV (fn4 0 2 0 0)), (4, sfV (fn4 2 0 0 0)), (5, sfV (fn4 0 (-1) 0 1)), (6, sfV (fn4 0 0 0 0))]).run Try.prog w = .ok (.agg tab.toArray) w := run_build w 91 _ _ (by kernel_rfl)
theorem cosF_bd : ∀ n, n < 24 → ∀ j, j < 4 → -4 ≤ cosF n j ∧ cosF n j ≤ 4 := by decide +kernel

set_option maxHeartbeats 1000000 in
theorem cosine_0 (w : World) : Calls Try.prog 64 #[.int .i64 0] w fun e w' => e = .returned (sfV (cosF 0)) ∧ Ext w w' := by
  have k0 := (Blk.new w (s4 fun _ => 0) 44).alloc (.cells (List.replicate 28 (.int .i64 0)).toArray 91)
  have k1 := Blk.fst1 w (.cells (s4 fun _ => 0).toArray 44) (List.replicate 28 (.int .i64 0)) 91
  have x0 : Ext w ((w.alloc (.cells (s4 fun _ => 0).toArray 44)).alloc (.cells (List.replicate 28 (.int .i64 0)).toArray 91)) := by repeat (first | exact Ext.refl _ | assumption | refine Ext.drew ?_ | refine Ext.alloc ?_ _ | refine Ext.trans ?_ (by assumption))
  go_enter Try.func64, Try.ntmps64
  go_wp2_with (refine storeRow 28 infoTab (x := .tmp 3) (y := .tmp 12) (w.heap.size + 1) tab _ rfl rfl k1 rfl rfl tab_one ?_)
  intro w2 k2 z2
  have r2 := k0.keepB z2 (by omega)
  have x2 := z2.ext x0 (by omega)
  clear k0 k1 x0 z2
  have c2 := k2.cell
  unfold tab at c2
  clear k2
  go_wp2_with (refine store4 infoSurd (x := .tmp 2) (y := .tmp 23) w.heap.size (cosF 0) _ rfl rfl r2 rfl ?_)
  intro w3 k3 z3
  have x3 := z3.ext x2 (by omega)
  have c3 := k3.cell
  clear z3 r2 x2
  go_wp2
  exact bodyPost_ret (v := sfV (cosF 0)) (by simp [results, Try.results64, go_sem, c3]) rfl ⟨rfl, x3⟩

set_option maxHeartbeats 1000000 in
theorem cosine_1 (w : World) : Calls Try.prog 64 #[.int .i64 1] w fun e w' => e = .returned (sfV (cosF 1)) ∧ Ext w w' := by
  have k0 := (Blk.new w (s4 fun _ => 0) 44).alloc (.cells (List.replicate 28 (.int .i64 0)).toArray 91)
  have k1 := Blk.fst1 w (.cells (s4 fun _ => 0).toArray 44) (List.replicate 28 (.int .i64 0)) 91
  have x0 : Ext w ((w.alloc (.cells (s4 fun _ => 0).toArray 44)).alloc (.cells (List.replicate 28 (.int .i64 0)).toArray 91)) := by repeat (first | exact Ext.refl _ | assumption | refine Ext.drew ?_ | refine Ext.alloc ?_ _ | refine Ext.trans ?_ (by assumption))
  go_enter Try.func64, Try.ntmps64
  go_wp2_with (refine storeRow 28 infoTab (x := .tmp 3) (y := .tmp 12) (w.heap.size + 1) tab _ rfl rfl k1 rfl rfl tab_one ?_)
  intro w2 k2 z2
  have r2 := k0.keepB z2 (by omega)
  have x2 := z2.ext x0 (by omega)
  clear k0 k1 x0 z2
  have c2 := k2.cell
  unfold tab at c2
  clear k2
  go_wp2_with (refine store4 infoSurd (x := .tmp 2) (y := .tmp 23) w.heap.size (cosF 1) _ rfl rfl r2 rfl ?_)
  intro w3 k3 z3
  have x3 := z3.ext x2 (by omega)
  have c3 := k3.cell
  clear z3 r2 x2
  go_wp2
  exact bodyPost_ret (v := sfV (cosF 1)) (by simp [results, Try.results64, go_sem, c3]) rfl ⟨rfl, x3⟩

set_option maxHeartbeats 1000000 in
theorem cosine_2 (w : World) : Calls Try.prog 64 #[.int .i64 2] w fun e w' => e = .returned (sfV (cosF 2)) ∧ Ext w w' := by
  have k0 := (Blk.new w (s4 fun _ => 0) 44).alloc (.cells (List.replicate 28 (.int .i64 0)).toArray 91)
  have k1 := Blk.fst1 w (.cells (s4 fun _ => 0).toArray 44) (List.replicate 28 (.int .i64 0)) 91
  have x0 : Ext w ((w.alloc (.cells (s4 fun _ => 0).toArray 44)).alloc (.cells (List.replicate 28 (.int .i64 0)).toArray 91)) := by repeat (first | exact Ext.refl _ | assumption | refine Ext.drew ?_ | refine Ext.alloc ?_ _ | refine Ext.trans ?_ (by assumption))
  go_enter Try.func64, Try.ntmps64
  go_wp2_with (refine storeRow 28 infoTab (x := .tmp 3) (y := .tmp 12) (w.heap.size + 1) tab _ rfl rfl k1 rfl rfl tab_one ?_)
  intro w2 k2 z2
  have r2 := k0.keepB z2 (by omega)
  have x2 := z2.ext x0 (by omega)
  clear k0 k1 x0 z2
  have c2 := k2.cell
  unfold tab at c2
  clear k2
  go_wp2_with (refine store4 infoSurd (x := .tmp 2) (y := .tmp 23) w.heap.size (cosF 2) _ rfl rfl r2 rfl ?_)
  intro w3 k3 z3
  have x3 := z3.ext x2 (by omega)
  have c3 := k3.cell
  clear z3 r2 x2
  go_wp2
  exact bodyPost_ret (v := sfV (cosF 2)) (by simp [results, Try.results64, go_sem, c3]) rfl ⟨rfl, x3⟩

set_option maxHeartbeats 1000000 in
theorem cosine_3 (w : World) : Calls Try.prog 64 #[.int .i64 3] w fun e w' => e = .returned (sfV (cosF 3)) ∧ Ext w w' := by
  have k0 := (Blk.new w (s4 fun _ => 0) 44).alloc (.cells (List.replicate 28 (.int .i64 0)).toArray 91)
  have k1 := Blk.fst1 w (.cells (s4 fun _ => 0).toArray 44) (List.replicate 28 (.int .i64 0)) 91
  have x0 : Ext w ((w.alloc (.cells (s4 fun _ => 0).toArray 44)).alloc (.cells (List.replicate 28 (.int .i64 0)).toArray 91)) := by repeat (first | exact Ext.refl _ | assumption | refine Ext.drew ?_ | refine Ext.alloc ?_ _ | refine Ext.trans ?_ (by assumption))
  go_enter Try.func64, Try.ntmps64
  go_wp2_with (refine storeRow 28 infoTab (x := .tmp 3) (y := .tmp 12) (w.heap.size + 1) tab _ rfl rfl k1 rfl rfl tab_one ?_)
  intro w2 k2 z2
  have r2 := k0.keepB z2 (by omega)
  have x2 := z2.ext x0 (by omega)
  clear k0 k1 x0 z2
  have c2 := k2.cell
  unfold tab at c2
  clear k2
  go_wp2_with (refine store4 infoSurd (x := .tmp 2) (y := .tmp 23) w.heap.size (cosF 3) _ rfl rfl r2 rfl ?_)
  intro w3 k3 z3
  have x3 := z3.ext x2 (by omega)
  have c3 := k3.cell
  clear z3 r2 x2
  go_wp2
  exact bodyPost_ret (v := sfV (cosF 3)) (by simp [results, Try.results64, go_sem, c3]) rfl ⟨rfl, x3⟩

set_option maxHeartbeats 1000000 in
theorem cosine_4 (w : World) : Calls Try.prog 64 #[.int .i64 4] w fun e w' => e = .returned (sfV (cosF 4)) ∧ Ext w w' := by
  have k0 := (Blk.new w (s4 fun _ => 0) 44).alloc (.cells (List.replicate 28 (.int .i64 0)).toArray 91)
  have k1 := Blk.fst1 w (.cells (s4 fun _ => 0).toArray 44) (List.replicate 28 (.int .i64 0)) 91
  have x0 : Ext w ((w.alloc (.cells (s4 fun _ => 0).toArray 44)).alloc (.cells (List.replicate 28 (.int .i64 0)).toArray 91)) := by repeat (first | exact Ext.refl _ | assumption | refine Ext.drew ?_ | refine Ext.alloc ?_ _ | refine Ext.trans ?_ (by assumption))
  go_enter Try.func64, Try.ntmps64
  go_wp2_with (refine storeRow 28 infoTab (x := .tmp 3) (y := .tmp 12) (w.heap.size + 1) tab _ rfl rfl k1 rfl rfl tab_one ?_)
  intro w2 k2 z2
  have r2 := k0.keepB z2 (by omega)
  have x2 := z2.ext x0 (by omega)
  clear k0 k1 x0 z2
  have c2 := k2.cell
  unfold tab at c2
  clear k2
  go_wp2_with (refine store4 infoSurd (x := .tmp 2) (y := .tmp 23) w.heap.size (cosF 4) _ rfl rfl r2 rfl ?_)
  intro w3 k3 z3
  have x3 := z3.ext x2 (by omega)
  have c3 := k3.cell
  clear z3 r2 x2
  go_wp2
  exact bodyPost_ret (v := sfV (cosF 4)) (by simp [results, Try.results64, go_sem, c3]) rfl ⟨rfl, x3⟩

set_option maxHeartbeats 1000000 in
theorem cosine_5 (w : World) : Calls Try.prog 64 #[.int .i64 5] w fun e w' => e = .returned (sfV (cosF 5)) ∧ Ext w w' := by
  have k0 := (Blk.new w (s4 fun _ => 0) 44).alloc (.cells (List.replicate 28 (.int .i64 0)).toArray 91)
  have k1 := Blk.fst1 w (.cells (s4 fun _ => 0).toArray 44) (List.replicate 28 (.int .i64 0)) 91
  have x0 : Ext w ((w.alloc (.cells (s4 fun _ => 0).toArray 44)).alloc (.cells (List.replicate 28 (.int .i64 0)).toArray 91)) := by repeat (first | exact Ext.refl _ | assumption | refine Ext.drew ?_ | refine Ext.alloc ?_ _ | refine Ext.trans ?_ (by assumption))
  go_enter Try.func64, Try.ntmps64
  go_wp2_with (refine storeRow 28 infoTab (x := .tmp 3) (y := .tmp 12) (w.heap.size + 1) tab _ rfl rfl k1 rfl rfl tab_one ?_)
  intro w2 k2 z2
  have r2 := k0.keepB z2 (by omega)
  have x2 := z2.ext x0 (by omega)
  clear k0 k1 x0 z2
  have c2 := k2.cell
  unfold tab at c2
  clear k2
  go_wp2_with (refine store4 infoSurd (x := .tmp 2) (y := .tmp 23) w.heap.size (cosF 5) _ rfl rfl r2 rfl ?_)
  intro w3 k3 z3
  have x3 := z3.ext x2 (by omega)
  have c3 := k3.cell
  clear z3 r2 x2
  go_wp2
  exact bodyPost_ret (v := sfV (cosF 5)) (by simp [results, Try.results64, go_sem, c3]) rfl ⟨rfl, x3⟩

set_option maxHeartbeats 1000000 in
theorem cosine_6 (w : World) : Calls Try.prog 64 #[.int .i64 6] w fun e w' => e = .returned (sfV (cosF 6)) ∧ Ext w w' := by
  have k0 := (Blk.new w (s4 fun _ => 0) 44).alloc (.cells (List.replicate 28 (.int .i64 0)).toArray 91)
  have k1 := Blk.fst1 w (.cells (s4 fun _ => 0).toArray 44) (List.replicate 28 (.int .i64 0)) 91
  have x0 : Ext w ((w.alloc (.cells (s4 fun _ => 0).toArray 44)).alloc (.cells (List.replicate 28 (.int .i64 0)).toArray 91)) := by repeat (first | exact Ext.refl _ | assumption | refine Ext.drew ?_ | refine Ext.alloc ?_ _ | refine Ext.trans ?_ (by assumption))
  go_enter Try.func64, Try.ntmps64
  go_wp2_with (refine storeRow 28 infoTab (x := .tmp 3) (y := .tmp 12) (w.heap.size + 1) tab _ rfl rfl k1 rfl rfl tab_one ?_)
  intro w2 k2 z2
  have r2 := k0.keepB z2 (by omega)
  have x2 := z2.ext x0 (by omega)
  clear k0 k1 x0 z2
  have c2 := k2.cell
  unfold tab at c2
  clear k2
  go_wp2_with (refine store4 infoSurd (x := .tmp 2) (y := .tmp 23) w.heap.size (cosF 6) _ rfl rfl r2 rfl ?_)
  intro w3 k3 z3
  have x3 := z3.ext x2 (by omega)
  have c3 := k3.cell
  clear z3 r2 x2
  go_wp2
  exact bodyPost_ret (v := sfV (cosF 6)) (by simp [results, Try.results64, go_sem, c3]) rfl ⟨rfl, x3⟩

set_option maxHeartbeats 1000000 in
theorem cosine_7 (w : World) : Calls Try.prog 64 #[.int .i64 7] w fun e w' => e = .returned (sfV (cosF 7)) ∧ Ext w w' := by
  have k0 := (Blk.new w (s4 fun _ => 0) 44).alloc (.cells (List.replicate 28 (.int .i64 0)).toArray 91)
  have k1 := Blk.fst1 w (.cells (s4 fun _ => 0).toArray 44) (List.replicate 28 (.int .i64 0)) 91
  have x0 : Ext w ((w.alloc (.cells (s4 fun _ => 0).toArray 44)).alloc (.cells (List.replicate 28 (.int .i64 0)).toArray 91)) := by repeat (first | exact Ext.refl _ | assumption | refine Ext.drew ?_ | refine Ext.alloc ?_ _ | refine Ext.trans ?_ (by assumption))
  go_enter Try.func64, Try.ntmps64
  go_wp2_with (refine storeRow 28 infoTab (x := .tmp 3) (y := .tmp 12) (w.heap.size + 1) tab _ rfl rfl k1 rfl rfl tab_one ?_)
  intro w2 k2 z2
  have r2 := k0.keepB z2 (by omega)
  have x2 := z2.ext x0 (by omega)
  clear k0 k1 x0 z2
  have c2 := k2.cell
  unfold tab at c2
  clear k2
  go_wp2_with fail
  refine (sscaled_any (cosF 5) (-1) _ (fun j hj => by have := cosF_bd 5 (by omega) j hj; omega)).mono ?_
  rintro e w4 ⟨rfl, x4⟩
  have r2 := r2.keep x4
  have x2 := x2.trans x4
  clear x4
  clear c2
  go_wp2_with (refine store4 infoSurd (x := .tmp 2) (y := .tmp 31) w.heap.size (cosF 7) _ rfl rfl r2 rfl ?_)
  intro w3 k3 z3
  have x3 := z3.ext x2 (by omega)
  have c3 := k3.cell
  clear z3 r2 x2
  go_wp2
  exact bodyPost_ret (v := sfV (cosF 7)) (by simp [results, Try.results64, go_sem, c3]) rfl ⟨rfl, x3⟩

theorem cosLow (z : Int) (n : Nat) (h : z = (n : Int)) (hn : n ≤ 6) (w : World) : Calls Try.prog 64 #[.int .i64 z] w fun e w' => e = .returned (sfV (cosF n)) ∧ Ext w w' := by
  subst h
  obtain rfl | rfl | rfl | rfl | rfl | rfl | rfl : n = 0 ∨ n = 1 ∨ n = 2 ∨ n = 3 ∨ n = 4 ∨ n = 5 ∨ n = 6 := by omega
  · exact cosine_0 w
  · exact cosine_1 w
  · exact cosine_2 w
  · exact cosine_3 w
  · exact cosine_4 w
  · exact cosine_5 w
  · exact cosine_6 w

set_option maxHeartbeats 1000000 in
theorem cosine_18 (w : World) : Calls Try.prog 64 #[.int .i64 18] w fun e w' => e = .returned (sfV (cosF 18)) ∧ Ext w w' := by
  have k0 := (Blk.new w (s4 fun _ => 0) 44).alloc (.cells (List.replicate 28 (.int .i64 0)).toArray 91)
  have k1 := Blk.fst1 w (.cells (s4 fun _ => 0).toArray 44) (List.replicate 28 (.int .i64 0)) 91
  have x0 : Ext w ((w.alloc (.cells (s4 fun _ => 0).toArray 44)).alloc (.cells (List.replicate 28 (.int .i64 0)).toArray 91)) := by repeat (first | exact Ext.refl _ | assumption | refine Ext.drew ?_ | refine Ext.alloc ?_ _ | refine Ext.trans ?_ (by assumption))
  go_enter Try.func64, Try.ntmps64
  go_wp2_with (refine storeRow 28 infoTab (x := .tmp 3) (y := .tmp 12) (w.heap.size + 1) tab _ rfl rfl k1 rfl rfl tab_one ?_)
  intro w2 k2 z2
  have r2 := k0.keepB z2 (by omega)
  have x2 := z2.ext x0 (by omega)
  clear k0 k1 x0 z2 k2
  go_wp2_with (go_at_call 67; ((with_reducible refine (turnOf_any _ _).mono ?_); rintro e w' ⟨rfl, rfl⟩))
  refine (cosLow (modT 6) 6 (by decide +kernel) (by omega) _).mono ?_
  rintro e w4 ⟨rfl, x4⟩
  have r2 := r2.keep x4
  have x2 := x2.trans x4
  clear x4
  go_wp2_with (refine store4 infoSurd (x := .tmp 2) (y := .tmp 17) w.heap.size (cosF 6) _ rfl rfl r2 rfl ?_)
  intro w3 k3 z3
  have x3 := z3.ext x2 (by omega)
  have c3 := k3.cell
  clear z3 r2 x2
  go_wp2
  exact bodyPost_ret (v := sfV (cosF 6)) (by simp [results, Try.results64, go_sem, c3]) rfl ⟨rfl, x3⟩

set_option maxHeartbeats 1000000 in
theorem cosine_19 (w : World) : Calls Try.prog 64 #[.int .i64 19] w fun e w' => e = .returned (sfV (cosF 19)) ∧ Ext w w' := by
  have k0 := (Blk.new w (s4 fun _ => 0) 44).alloc (.cells (List.replicate 28 (.int .i64 0)).toArray 91)
  have k1 := Blk.fst1 w (.cells (s4 fun _ => 0).toArray 44) (List.replicate 28 (.int .i64 0)) 91
  have x0 : Ext w ((w.alloc (.cells (s4 fun _ => 0).toArray 44)).alloc (.cells (List.replicate 28 (.int .i64 0)).toArray 91)) := by repeat (first | exact Ext.refl _ | assumption | refine Ext.drew ?_ | refine Ext.alloc ?_ _ | refine Ext.trans ?_ (by assumption))
  go_enter Try.func64, Try.ntmps64
  go_wp2_with (refine storeRow 28 infoTab (x := .tmp 3) (y := .tmp 12) (w.heap.size + 1) tab _ rfl rfl k1 rfl rfl tab_one ?_)
  intro w2 k2 z2
  have r2 := k0.keepB z2 (by omega)
  have x2 := z2.ext x0 (by omega)
  clear k0 k1 x0 z2 k2
  go_wp2_with (go_at_call 67; ((with_reducible refine (turnOf_any _ _).mono ?_); rintro e w' ⟨rfl, rfl⟩))
  refine (cosLow (modT 5) 5 (by decide +kernel) (by omega) _).mono ?_
  rintro e w4 ⟨rfl, x4⟩
  have r2 := r2.keep x4
  have x2 := x2.trans x4
  clear x4
  go_wp2_with (refine store4 infoSurd (x := .tmp 2) (y := .tmp 17) w.heap.size (cosF 5) _ rfl rfl r2 rfl ?_)
  intro w3 k3 z3
  have x3 := z3.ext x2 (by omega)
  have c3 := k3.cell
  clear z3 r2 x2
  go_wp2
  exact bodyPost_ret (v := sfV (cosF 5)) (by simp [results, Try.results64, go_sem, c3]) rfl ⟨rfl, x3⟩

set_option maxHeartbeats 1000000 in
theorem cosine_20 (w : World) : Calls Try.prog 64 #[.int .i64 20] w fun e w' => e = .returned (sfV (cosF 20)) ∧ Ext w w' := by
  have k0 := (Blk.new w (s4 fun _ => 0) 44).alloc (.cells (List.replicate 28 (.int .i64 0)).toArray 91)
  have k1 := Blk.fst1 w (.cells (s4 fun _ => 0).toArray 44) (List.replicate 28 (.int .i64 0)) 91
  have x0 : Ext w ((w.alloc (.cells (s4 fun _ => 0).toArray 44)).alloc (.cells (List.replicate 28 (.int .i64 0)).toArray 91)) := by repeat (first | exact Ext.refl _ | assumption | refine Ext.drew ?_ | refine Ext.alloc ?_ _ | refine Ext.trans ?_ (by assumption))
  go_enter Try.func64, Try.ntmps64
  go_wp2_with (refine storeRow 28 infoTab (x := .tmp 3) (y := .tmp 12) (w.heap.size + 1) tab _ rfl rfl k1 rfl rfl tab_one ?_)
  intro w2 k2 z2
  have r2 := k0.keepB z2 (by omega)
  have x2 := z2.ext x0 (by omega)
  clear k0 k1 x0 z2 k2
  go_wp2_with (go_at_call 67; ((with_reducible refine (turnOf_any _ _).mono ?_); rintro e w' ⟨rfl, rfl⟩))
  refine (cosLow (modT 4) 4 (by decide +kernel) (by omega) _).mono ?_
  rintro e w4 ⟨rfl, x4⟩
  have r2 := r2.keep x4
  have x2 := x2.trans x4
  clear x4
  go_wp2_with (refine store4 infoSurd (x := .tmp 2) (y := .tmp 17) w.heap.size (cosF 4) _ rfl rfl r2 rfl ?_)
  intro w3 k3 z3
  have x3 := z3.ext x2 (by omega)
  have c3 := k3.cell
  clear z3 r2 x2
  go_wp2
  exact bodyPost_ret (v := sfV (cosF 4)) (by simp [results, Try.results64, go_sem, c3]) rfl ⟨rfl, x3⟩

set_option maxHeartbeats 1000000 in
theorem cosine_21 (w : World) : Calls Try.prog 64 #[.int .i64 21] w fun e w' => e = .returned (sfV (cosF 21)) ∧ Ext w w' := by
  have k0 := (Blk.new w (s4 fun _ => 0) 44).alloc (.cells (List.replicate 28 (.int .i64 0)).toArray 91)
  have k1 := Blk.fst1 w (.cells (s4 fun _ => 0).toArray 44) (List.replicate 28 (.int .i64 0)) 91
  have x0 : Ext w ((w.alloc (.cells (s4 fun _ => 0).toArray 44)).alloc (.cells (List.replicate 28 (.int .i64 0)).toArray 91)) := by repeat (first | exact Ext.refl _ | assumption | refine Ext.drew ?_ | refine Ext.alloc ?_ _ | refine Ext.trans ?_ (by assumption))
  go_enter Try.func64, Try.ntmps64
  go_wp2_with (refine storeRow 28 infoTab (x := .tmp 3) (y := .tmp 12) (w.heap.size + 1) tab _ rfl rfl k1 rfl rfl tab_one ?_)
  intro w2 k2 z2
  have r2 := k0.keepB z2 (by omega)
  have x2 := z2.ext x0 (by omega)
  clear k0 k1 x0 z2 k2
  go_wp2_with (go_at_call 67; ((with_reducible refine (turnOf_any _ _).mono ?_); rintro e w' ⟨rfl, rfl⟩))
  refine (cosLow (modT 3) 3 (by decide +kernel) (by omega) _).mono ?_
  rintro e w4 ⟨rfl, x4⟩
  have r2 := r2.keep x4
  have x2 := x2.trans x4
  clear x4
  go_wp2_with (refine store4 infoSurd (x := .tmp 2) (y := .tmp 17) w.heap.size (cosF 3) _ rfl rfl r2 rfl ?_)
  intro w3 k3 z3
  have x3 := z3.ext x2 (by omega)
  have c3 := k3.cell
  clear z3 r2 x2
  go_wp2
  exact bodyPost_ret (v := sfV (cosF 3)) (by simp [results, Try.results64, go_sem, c3]) rfl ⟨rfl, x3⟩

set_option maxHeartbeats 1000000 in
theorem cosine_22 (w : World) : Calls Try.prog 64 #[.int .i64 22] w fun e w' => e = .returned (sfV (cosF 22)) ∧ Ext w w' := by
  have k0 := (Blk.new w (s4 fun _ => 0) 44).alloc (.cells (List.replicate 28 (.int .i64 0)).toArray 91)
  have k1 := Blk.fst1 w (.cells (s4 fun _ => 0).toArray 44) (List.replicate 28 (.int .i64 0)) 91
  have x0 : Ext w ((w.alloc (.cells (s4 fun _ => 0).toArray 44)).alloc (.cells (List.replicate 28 (.int .i64 0)).toArray 91)) := by repeat (first | exact Ext.refl _ | assumption | refine Ext.drew ?_ | refine Ext.alloc ?_ _ | refine Ext.trans ?_ (by assumption))
  go_enter Try.func64, Try.ntmps64
  go_wp2_with (refine storeRow 28 infoTab (x := .tmp 3) (y := .tmp 12) (w.heap.size + 1) tab _ rfl rfl k1 rfl rfl tab_one ?_)
  intro w2 k2 z2
  have r2 := k0.keepB z2 (by omega)
  have x2 := z2.ext x0 (by omega)
  clear k0 k1 x0 z2 k2
  go_wp2_with (go_at_call 67; ((with_reducible refine (turnOf_any _ _).mono ?_); rintro e w' ⟨rfl, rfl⟩))
  refine (cosLow (modT 2) 2 (by decide +kernel) (by omega) _).mono ?_
  rintro e w4 ⟨rfl, x4⟩
  have r2 := r2.keep x4
  have x2 := x2.trans x4
  clear x4
  go_wp2_with (refine store4 infoSurd (x := .tmp 2) (y := .tmp 17) w.heap.size (cosF 2) _ rfl rfl r2 rfl ?_)
  intro w3 k3 z3
  have x3 := z3.ext x2 (by omega)
  have c3 := k3.cell
  clear z3 r2 x2
  go_wp2
  exact bodyPost_ret (v := sfV (cosF 2)) (by simp [results, Try.results64, go_sem, c3]) rfl ⟨rfl, x3⟩

set_option maxHeartbeats 1000000 in
theorem cosine_23 (w : World) : Calls Try.prog 64 #[.int .i64 23] w fun e w' => e = .returned (sfV (cosF 23)) ∧ Ext w w' := by
  have k0 := (Blk.new w (s4 fun _ => 0) 44).alloc (.cells (List.replicate 28 (.int .i64 0)).toArray 91)
  have k1 := Blk.fst1 w (.cells (s4 fun _ => 0).toArray 44) (List.replicate 28 (.int .i64 0)) 91
  have x0 : Ext w ((w.alloc (.cells (s4 fun _ => 0).toArray 44)).alloc (.cells (List.replicate 28 (.int .i64 0)).toArray 91)) := by repeat (first | exact Ext.refl _ | assumption | refine Ext.drew ?_ | refine Ext.alloc ?_ _ | refine Ext.trans ?_ (by assumption))
  go_enter Try.func64, Try.ntmps64
  go_wp2_with (refine storeRow 28 infoTab (x := .tmp 3) (y := .tmp 12) (w.heap.size + 1) tab _ rfl rfl k1 rfl rfl tab_one ?_)
  intro w2 k2 z2
  have r2 := k0.keepB z2 (by omega)
  have x2 := z2.ext x0 (by omega)
  clear k0 k1 x0 z2 k2
  go_wp2_with (go_at_call 67; ((with_reducible refine (turnOf_any _ _).mono ?_); rintro e w' ⟨rfl, rfl⟩))
  refine (cosLow (modT 1) 1 (by decide +kernel) (by omega) _).mono ?_
  rintro e w4 ⟨rfl, x4⟩
  have r2 := r2.keep x4
  have x2 := x2.trans x4
  clear x4
  go_wp2_with (refine store4 infoSurd (x := .tmp 2) (y := .tmp 17) w.heap.size (cosF 1) _ rfl rfl r2 rfl ?_)
  intro w3 k3 z3
  have x3 := z3.ext x2 (by omega)
  have c3 := k3.cell
  clear z3 r2 x2
  go_wp2
  exact bodyPost_ret (v := sfV (cosF 1)) (by simp [results, Try.results64, go_sem, c3]) rfl ⟨rfl, x3⟩

end Go.Proofs.Ytfghjlngllanoaa
