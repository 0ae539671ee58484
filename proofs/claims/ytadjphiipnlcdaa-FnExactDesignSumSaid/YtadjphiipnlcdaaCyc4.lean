/- Contracts of spec's roots (chapter 2). -/
import Derived.Test.YtadjphiipnlcdaaCyc3
namespace Go.Proofs.Ytadjphiipnlcdaa
open Go.ChangeShapes Go.WideShapes Go.ChangeAt Go.RowKit
set_option linter.unusedVariables false
set_option maxRecDepth 100000
/-- a point turned by one step -/
def stepF (f : Nat → Int) : Nat → Int := fun j => if j = 0 then -f 7 else if j = 4 then f 3 + f 7 else f (j - 1)
/-- the point of size 1 at a turn -/
def rootF : Nat → Nat → Int
  | 0 => fun j => if j = 0 then 1 else 0
  | n + 1 => stepF (rootF n)
theorem rootF_bd : ∀ n, n ≤ 24 → ∀ j, j < 8 → -1 ≤ rootF n j ∧ rootF n j ≤ 1 := by decide +kernel

set_option maxHeartbeats 1000000 in
theorem l2Step_any (f : Nat → Int) (w : World) (hf : ∀ j, j < 8 → -1000000 ≤ f j ∧ f j ≤ 1000000) :
    Calls Try.prog 72 #[cycV f] w fun e w' => e = .returned (cycV (stepF f)) ∧ Ext w w' := by
  obtain ⟨a3, b3⟩ := hf 3 (by omega); obtain ⟨a7, b7⟩ := hf 7 (by omega)
  clear hf
  go_enter Try.func72, Try.ntmps72
  go_wp2
  refine wp_loop_rounds 8 ?_
  iterate 7 (rw [rounds_succ]; go_wp2)
  rw [rounds_succ]
  go_wp2
  go_returns
  exact ⟨rfl, by repeat (first | exact Ext.refl _ | assumption | refine Ext.drew ?_ | refine Ext.alloc ?_ _ | refine Ext.trans ?_ (by assumption))⟩

set_option maxHeartbeats 1000000 in
theorem l2Turned_any (n : Nat) (hn : n ≤ 24) (w : World) : Calls Try.prog 60 #[cycV (rootF 0), .int .i64 n] w fun e w' => e = .returned (cycV (rootF n)) ∧ Ext w w' := by
  have k0 := (Blk.new w (cyc8 (rootF 0)) 39).alloc (.cells (cyc8 fun _ => 0).toArray 39)
  have k1 := Blk.new1 w (.cells (cyc8 (rootF 0)).toArray 39) (cyc8 fun _ => 0) 39
  have x0 : Ext w ((w.alloc (.cells (cyc8 (rootF 0)).toArray 39)).alloc (.cells (cyc8 fun _ => 0).toArray 39)) := by repeat (first | exact Ext.refl _ | assumption | refine Ext.drew ?_ | refine Ext.alloc ?_ _ | refine Ext.trans ?_ (by assumption))
  go_enter Try.func60, Try.ntmps60
  go_wp2
  generalize World.alloc (World.alloc _ _) _ = W at *
  go_loopw [5] (fun i wr => ∃ k : Nat, k ≤ n ∧ i = .int .i64 k ∧ Blk wr w.heap.size (cyc8 (rootF k)) ∧ Blk wr (w.heap.size + 1) (cyc8 fun _ => 0) ∧ Ext w wr) (fun i _ => n - (intOf i).toNat)
  case atStart => exact ⟨0, by omega, rfl, k0, k1, x0⟩
  case round =>
    obtain ⟨k, hk, rfl, r0, r1, y0⟩ := hrel
    have c0 := r0.cell
    have c1 := r1.cell
    by_cases hkn : k < n
    · have bd := rootF_bd k (by omega)
      go_wp2_with fail
      refine (l2Step_any (rootF k) _ (fun j hj => ⟨by have := (bd j hj).1; omega, by have := (bd j hj).2; omega⟩)).mono ?_
      rintro e w1 ⟨rfl, x1⟩
      have s0 := r0.keep x1
      have s1 := r1.keep x1
      have y1 := y0.trans x1
      clear c0 c1 r0 r1 y0 x1
      go_wp2_with (refine store_cyc infoCyc (x := .tmp 2) (y := .tmp 12) w.heap.size (stepF (rootF k)) _ rfl rfl s0 rfl ?_)
      intro w2 q0 z2
      have q1 := s1.keepB z2 (by omega)
      have y2 := z2.ext y1 (by omega)
      clear s0 s1 z2 y1
      go_wp2
      go_roundw
      case rel => exact ⟨k + 1, by omega, by go_num, q0, q1, y2⟩
      case measure => simp [intOf]; omega
    · have hkn' : k = n := by omega
      subst hkn'
      go_wp2_with (refine store_cyc infoCyc (x := .tmp 4) (y := .tmp 13) (w.heap.size + 1) (rootF k) _ rfl rfl r1 rfl ?_)
      intro w2 q1 z2
      have y2 := z2.ext y0 (by omega)
      have c2 := q1.cell
      clear c0 c1 z2
      go_wp2
      exact bodyPost_ret (v := cycV (rootF k)) (by simp [results, Try.results60, go_sem, c2]) rfl ⟨rfl, y2⟩

theorem cycRoot_ok {t : Int} (h : inR 0 23 t = true) : ∃ n : Nat, n < 24 ∧ t = (n : Int) := by
  have := inR_of h
  exact ⟨t.toNat, by omega, by omega⟩
/-- what CycRoot answers -/
def rootM (t : Int) : (Nat → Int) × Bool := if inR 0 23 t then (rootF t.toNat, true) else (fun _ => 0, false)

set_option maxHeartbeats 1000000 in
theorem sCycRoot_any (t : Int) (w : World) : Calls Try.prog 71 #[.int .i64 t] w fun e w' => e = .returned (tupCB (rootM t)) ∧ Ext w w' := by
  by_cases ht : inR 0 23 t = true
  · obtain ⟨n, hn, rfl⟩ := cycRoot_ok ht
    have H := Lib.hid (show rootM (n : Int) = (rootF n, true) from by simp [rootM, ht])
    have k0 := (Blk.new w (cyc8 fun _ => 0) 39).alloc (.cells (cyc8 (rootF 0)).toArray 39)
    have x0 : Ext w ((w.alloc (.cells (cyc8 fun _ => 0).toArray 39)).alloc (.cells (cyc8 (rootF 0)).toArray 39)) := by repeat (first | exact Ext.refl _ | assumption | refine Ext.drew ?_ | refine Ext.alloc ?_ _ | refine Ext.trans ?_ (by assumption))
    go_enter Try.func71, Try.ntmps71
    go_wp2_with (go_at_call 58; ((with_reducible refine (l1Is_any _ _).mono ?_); rintro e w' ⟨rfl, rfl⟩))
    refine (l2Turned_any n (by omega) _).mono ?_
    rintro e w1 ⟨rfl, x1⟩
    have k1 := k0.keep x1
    have x2 := x0.trans x1
    clear k0 x0 x1
    go_wp2_with (refine store_cyc infoCyc (x := .tmp 2) (y := .tmp 13) w.heap.size (rootF n) _ rfl rfl k1 rfl ?_)
    intro w2 k2 z2
    have x3 := z2.ext x2 (by omega)
    have c2 := k2.cell
    clear z2 k1
    go_wp2
    exact bodyPost_ret (v := .tuple #[cycV (rootF n), .bool true]) (by simp [results, Try.results71, go_sem, c2]) rfl ⟨by rw [H.out]; rfl, x3⟩
  · have ht' : inR 0 23 t = false := by simpa using ht
    have H := Lib.hid (show rootM t = (fun _ => 0, false) from by simp [rootM, ht'])
    clear ht
    go_enter Try.func71, Try.ntmps71
    go_wp2_with (go_at_call 58; ((with_reducible refine (l1Is_any _ _).mono ?_); rintro e w' ⟨rfl, rfl⟩))
    go_returns
    exact ⟨by rw [H.out]; rfl, by repeat (first | exact Ext.refl _ | assumption | refine Ext.drew ?_ | refine Ext.alloc ?_ _ | refine Ext.trans ?_ (by assumption))⟩



end Go.Proofs.Ytadjphiipnlcdaa
