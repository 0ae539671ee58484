/- Sums of surds (chapter 3), of impl and of spec, and the exact law. Written by mk_surd2.py. -/
import Derived.Test.YtfghjlngllanoaaSurd
import Derived.Lib.Hide
import Derived.Deep.RegionHeld3
import Derived.Deep.DeepCutAuto
namespace Go.Proofs.Ytfghjlngllanoaa
open Go.ChangeShapes Go.WideShapes Go.ChangeAt Go.RowKit
set_option linter.unusedVariables false
set_option maxRecDepth 100000
/-- the cells of a surd -/
abbrev s4 (f : Nat → Int) : List Value := [.int .i64 (f 0), .int .i64 (f 1), .int .i64 (f 2), .int .i64 (f 3)]
abbrev sfV (f : Nat → Int) : Value := .agg #[.int .i64 (f 0), .int .i64 (f 1), .int .i64 (f 2), .int .i64 (f 3)]
def sOk (f : Nat → Int) : Bool := surdOk (f 0) (f 1) (f 2) (f 3)
theorem sOk_bd {f : Nat → Int} (h : sOk f = true) : ∀ j, j < 4 → -10000000 ≤ f j ∧ f j ≤ 10000000 := by
  simp only [sOk, surdOk, Bool.and_eq_true] at h
  intro j hj
  obtain ⟨⟨⟨h0, h1⟩, h2⟩, h3⟩ := h
  obtain rfl | rfl | rfl | rfl : j = 0 ∨ j = 1 ∨ j = 2 ∨ j = 3 := by omega
  all_goals (apply inR_of; assumption)
def tupSB (p : (Nat → Int) × Bool) : Value := .tuple #[sfV p.1, .bool p.2]
def doneS (f : Nat → Int) : (Nat → Int) × Bool := if sOk f then (f, true) else (fun _ => 0, false)
def saddM (f g : Nat → Int) : (Nat → Int) × Bool := if sOk f && sOk g then doneS (fun j => f j + g j) else (fun _ => 0, false)
theorem infoSurd : (Try.prog.info? 44).map (·.size) = some 4 := by kernel_rfl
theorem buildSurd (w : World) : (Instr.build 44 #[]).run Try.prog w = .ok (sfV fun _ => 0) w := run_build w 44 _ _ (by kernel_rfl)
/-- A whole surd is stored into a block of four cells. -/
theorem store4 {P : Program} {T : TypeId} (hP : (P.info? T).map (·.size) = some 4) {ops : Array Oper} {rest : List Oper} {ty : TypeId} {pos : String} {after : Array Edge} {a : Act} {w : World} {Q : Exit → Act → World → Prop} {x y : Operand}
    (B : Nat) (f : Nat → Int) (xs : List Value) (hx : a.eval x = .pointer (some ⟨B, 0, none⟩)) (hy : a.eval y = sfV f) (hb : Blk w B xs) (hl : xs.length = 4)
    (h : ∀ w', Blk w' B (s4 f) → ExtB B w w' → wpList P ops Q rest (a.put none undef) w') : wpList P ops Q (⟨none, .store T x y, ty, pos, after, none⟩ :: rest) a w := by
  obtain ⟨T', hT⟩ := hb
  refine wpList_store_row rfl T x y rfl B (s4 f).toArray hx hy T' xs.toArray hT (by rw [hP]; rfl) (by simpa using hl) (by simp [Value.oneCell']) ?_
  exact h _ ⟨T', setRow_heap w B _ _ T' _ hT⟩ ⟨rfl, rfl, rfl, by simp, fun k hk hne => setRow_other w B k _ hne⟩
theorem Blk.fst1 (w : World) (o : Obj) (xs : List Value) (T : TypeId) : Blk ((w.alloc o).alloc (.cells xs.toArray T)) (w.heap.size + 1) xs := by
  have := Blk.new (w.alloc o) xs T
  simpa using this
theorem Blk.fst2 (w : World) (o o' : Obj) (xs : List Value) (T : TypeId) : Blk (((w.alloc o).alloc o').alloc (.cells xs.toArray T)) (w.heap.size + 1 + 1) xs := by
  have := Blk.new ((w.alloc o).alloc o') xs T
  simpa using this
theorem set4 {w : World} {B : Nat} {xs : List Value} (f : Nat → Int) (hb : Blk w B xs) (hl : xs.length = 4) :
    ∃ w3, ((((w.setCell ⟨B, 0, none⟩ (.int .i64 (f 0))).setCell ⟨B, 1, none⟩ (.int .i64 (f 1))).setCell ⟨B, 2, none⟩ (.int .i64 (f 2))).setCell ⟨B, 3, none⟩ (.int .i64 (f 3))) = w3 ∧ Blk w3 B (s4 f) ∧ ExtB B w w3 := by
  match xs, hl with
  | [x0, x1, x2, x3], _ =>
    have z0 := ExtB.refl B w
    have b1 : Blk (w.setCell ⟨B, 0, none⟩ (.int .i64 (f 0))) B [.int .i64 (f 0), x1, x2, x3] := hb.set 0 _
    have z1 := z0.set (p := ⟨B, 0, none⟩) (.inl rfl) (.int .i64 (f 0))
    generalize World.setCell w _ _ = w1 at b1 z1 ⊢
    have b2 : Blk (w1.setCell ⟨B, 1, none⟩ (.int .i64 (f 1))) B [.int .i64 (f 0), .int .i64 (f 1), x2, x3] := b1.set 1 _
    have z2 := z1.set (p := ⟨B, 1, none⟩) (.inl rfl) (.int .i64 (f 1))
    generalize World.setCell w1 _ _ = w2 at b2 z2 ⊢
    have b3 : Blk (w2.setCell ⟨B, 2, none⟩ (.int .i64 (f 2))) B [.int .i64 (f 0), .int .i64 (f 1), .int .i64 (f 2), x3] := b2.set 2 _
    have z3 := z2.set (p := ⟨B, 2, none⟩) (.inl rfl) (.int .i64 (f 2))
    generalize World.setCell w2 _ _ = w3 at b3 z3 ⊢
    exact ⟨_, rfl, b3.set 3 _, z3.set (p := ⟨B, 3, none⟩) (.inl rfl) _⟩

theorem svalidF_any (f : Nat → Int) (w : World) : Calls Try.prog 66 #[sfV f] w fun e w' => e = .returned (.bool (sOk f)) ∧ Ext w w' := svalid_any _ _ _ _ w

set_option maxHeartbeats 1000000 in
theorem splus_any (f g : Nat → Int) (w : World) (hf : ∀ j, j < 4 → -10000000 ≤ f j ∧ f j ≤ 10000000) (hg : ∀ j, j < 4 → -10000000 ≤ g j ∧ g j ≤ 10000000) :
    Calls Try.prog 63 #[sfV f, sfV g] w fun e w' => e = .returned (sfV fun j => f j + g j) ∧ Ext w w' := by
  obtain ⟨a0, b0⟩ := hf 0 (by omega); obtain ⟨a1, b1⟩ := hf 1 (by omega); obtain ⟨a2, b2⟩ := hf 2 (by omega); obtain ⟨a3, b3⟩ := hf 3 (by omega)
  obtain ⟨c0, d0⟩ := hg 0 (by omega); obtain ⟨c1, d1⟩ := hg 1 (by omega); obtain ⟨c2, d2⟩ := hg 2 (by omega); obtain ⟨c3, d3⟩ := hg 3 (by omega)
  clear hf hg
  go_enter Try.func63, Try.ntmps63
  go_wp2
  go_returns
  exact ⟨rfl, by repeat (first | exact Ext.refl _ | assumption | refine Ext.drew ?_ | refine Ext.alloc ?_ _ | refine Ext.trans ?_ (by assumption))⟩

set_option maxHeartbeats 400000 in
theorem smade_any (f : Nat → Int) (w : World) : Calls Try.prog 47 #[sfV f] w fun e w' => e = .returned (tupSB (doneS f)) ∧ Ext w w' := by
  have j0 := (Blk.new w (s4 f) 44).alloc (.cells (s4 fun _ => 0).toArray 44)
  have j1 := Blk.fst1 w (.cells (s4 f).toArray 44) (s4 fun _ => 0) 44
  have x0 : Ext w ((w.alloc (.cells (s4 f).toArray 44)).alloc (.cells (s4 fun _ => 0).toArray 44)) := by repeat (first | exact Ext.refl _ | assumption | refine Ext.drew ?_ | refine Ext.alloc ?_ _ | refine Ext.trans ?_ (by assumption))
  have hbld := buildSurd
  by_cases hv : sOk f = true
  · have H := Lib.hid (show doneS f = (f, true) from by simp [doneS, hv])
    go_enter Try.func47, Try.ntmps47
    go_wp2_with fail
    refine (svalidF_any _ _).mono ?_
    rintro e w1 ⟨rfl, x1⟩
    have k0 := j0.keep x1
    have k1 := j1.keep x1
    have x2 := x0.trans x1
    have c0 := k0.cell
    clear j0 j1 x0 x1 k0
    go_wp2_with (refine store4 infoSurd (x := .tmp 2) (y := .tmp 8) (w.heap.size + 1) f _ rfl rfl k1 rfl ?_)
    intro w2 k2 z2
    have x3 := z2.ext x2 (by omega)
    have c2 := k2.cell
    clear c0 z2 k1
    go_wp2
    exact bodyPost_ret (v := .tuple #[sfV f, .bool true]) (by simp [results, Try.results47, go_sem, c2]) rfl ⟨by rw [H.out]; rfl, x3⟩
  · have hv' : sOk f = false := by simpa using hv
    have H := Lib.hid (show doneS f = (fun _ => 0, false) from by simp [doneS, hv'])
    clear hv
    go_enter Try.func47, Try.ntmps47
    go_wp2_with fail
    refine (svalidF_any _ _).mono ?_
    rintro e w1 ⟨rfl, x1⟩
    have k1 := j1.keep x1
    have x2 := x0.trans x1
    clear j0 j1 x0 x1
    go_wp2_with (refine store4 infoSurd (x := .tmp 2) (y := .tmp 7) (w.heap.size + 1) (fun _ => 0) _ rfl rfl k1 rfl ?_)
    intro w2 k2 z2
    have x3 := z2.ext x2 (by omega)
    have c2 := k2.cell
    clear z2 k1
    go_wp2
    exact bodyPost_ret (v := .tuple #[sfV fun _ => 0, .bool false]) (by simp [results, Try.results47, go_sem, c2]) rfl ⟨by rw [H.out]; rfl, x3⟩

theorem newZ {w w1 : World} {xs : List Value} {T : TypeId} (x : Ext (w.alloc (.cells xs.toArray T)) w1) : Blk w1 w.heap.size xs := (Blk.new w xs T).keep x
theorem newZd {w w1 : World} {xs : List Value} {T : TypeId} (x : Ext (w.alloc (.cells xs.toArray T)).drew w1) : Blk w1 w.heap.size xs := ((Blk.new w xs T).keep (Ext.refl _).drew).keep x

/-- four numbers as a function -/
def fn4 (a b c d : Int) : Nat → Int | 0 => a | 1 => b | 2 => c | _ => d

end Go.Proofs.Ytfghjlngllanoaa
