/- Contracts of the functions on exact points (chapter 2): impl, spec and the laws' own helpers. -/
import Derived.Test.YtadjphiipnlcdaaTurn
import Derived.Deep.QuietTactic
import Derived.BigQuiet
import Derived.Deep.RegionWith
namespace Go.Proofs.Ytadjphiipnlcdaa
open Go.ChangeShapes Go.WideShapes Go.ChangeAt Go.RowKit
set_option linter.unusedVariables false
set_option maxRecDepth 100000


/-- the cells of an exact point -/
abbrev cyc8 (f : Nat → Int) : List Value := [.int .i64 (f 0), .int .i64 (f 1), .int .i64 (f 2), .int .i64 (f 3), .int .i64 (f 4), .int .i64 (f 5), .int .i64 (f 6), .int .i64 (f 7)]
/-- an exact point as a value -/
abbrev cycV (f : Nat → Int) : Value := .agg #[.int .i64 (f 0), .int .i64 (f 1), .int .i64 (f 2), .int .i64 (f 3), .int .i64 (f 4), .int .i64 (f 5), .int .i64 (f 6), .int .i64 (f 7)]
theorem infoCyc : (Try.prog.info? 39).map (·.size) = some 8 := by kernel_rfl
theorem buildCyc (w : World) : (Instr.build 39 #[]).run Try.prog w = .ok (cycV fun _ => 0) w := run_build w 39 _ _ (by kernel_rfl)
/-- A whole exact point is stored into a block of eight cells. -/
theorem store_cyc {P : Program} {T : TypeId} (hP : (P.info? T).map (·.size) = some 8) {ops : Array Oper} {rest : List Oper} {ty : TypeId} {pos : String} {after : Array Edge} {a : Act} {w : World} {Q : Exit → Act → World → Prop} {x y : Operand}
    (B : Nat) (f : Nat → Int) (xs : List Value) (hx : a.eval x = .pointer (some ⟨B, 0, none⟩)) (hy : a.eval y = cycV f) (hb : Blk w B xs) (hl : xs.length = 8)
    (h : ∀ w', Blk w' B (cyc8 f) → ExtB B w w' → wpList P ops Q rest (a.put none undef) w') : wpList P ops Q (⟨none, .store T x y, ty, pos, after, none⟩ :: rest) a w := by
  obtain ⟨T', hT⟩ := hb
  refine wpList_store_row rfl T x y rfl B (cyc8 f).toArray hx hy T' xs.toArray hT (by rw [hP]; rfl) (by simpa using hl) (by simp [Value.oneCell']) ?_
  exact h _ ⟨T', setRow_heap w B _ _ T' _ hT⟩ ⟨rfl, rfl, rfl, by simp, fun k hk hne => setRow_other w B k _ hne⟩
theorem infoArr : (Try.prog.info? 37).map (·.size) = some 8 := by kernel_rfl
/-- eight stores into a block of eight cells -/
theorem set8 {w : World} {B : Nat} {xs : List Value} (f : Nat → Int) (hb : Blk w B xs) (hl : xs.length = 8) :
    ∃ w3, ((((((((w.setCell ⟨B, 0, none⟩ (.int .i64 (f 0))).setCell ⟨B, 1, none⟩ (.int .i64 (f 1))).setCell ⟨B, 2, none⟩ (.int .i64 (f 2))).setCell ⟨B, 3, none⟩ (.int .i64 (f 3))).setCell ⟨B, 4, none⟩ (.int .i64 (f 4))).setCell ⟨B, 5, none⟩ (.int .i64 (f 5))).setCell ⟨B, 6, none⟩ (.int .i64 (f 6))).setCell ⟨B, 7, none⟩ (.int .i64 (f 7))) = w3 ∧ Blk w3 B (cyc8 f) ∧ ExtB B w w3 := by
  match xs, hl with
  | [x0, x1, x2, x3, x4, x5, x6, x7], _ =>
    have z0 := ExtB.refl B w
    have b1 : Blk (w.setCell ⟨B, 0, none⟩ (.int .i64 (f 0))) B [.int .i64 (f 0), x1, x2, x3, x4, x5, x6, x7] := hb.set 0 _
    have z1 := z0.set (p := ⟨B, 0, none⟩) (.inl rfl) (.int .i64 (f 0))
    generalize World.setCell w _ _ = w1 at b1 z1 ⊢
    have b2 : Blk (w1.setCell ⟨B, 1, none⟩ (.int .i64 (f 1))) B [.int .i64 (f 0), .int .i64 (f 1), x2, x3, x4, x5, x6, x7] := b1.set 1 _
    have z2 := z1.set (p := ⟨B, 1, none⟩) (.inl rfl) (.int .i64 (f 1))
    generalize World.setCell w1 _ _ = w2 at b2 z2 ⊢
    have b3 : Blk (w2.setCell ⟨B, 2, none⟩ (.int .i64 (f 2))) B [.int .i64 (f 0), .int .i64 (f 1), .int .i64 (f 2), x3, x4, x5, x6, x7] := b2.set 2 _
    have z3 := z2.set (p := ⟨B, 2, none⟩) (.inl rfl) (.int .i64 (f 2))
    generalize World.setCell w2 _ _ = w3 at b3 z3 ⊢
    have b4 : Blk (w3.setCell ⟨B, 3, none⟩ (.int .i64 (f 3))) B [.int .i64 (f 0), .int .i64 (f 1), .int .i64 (f 2), .int .i64 (f 3), x4, x5, x6, x7] := b3.set 3 _
    have z4 := z3.set (p := ⟨B, 3, none⟩) (.inl rfl) (.int .i64 (f 3))
    generalize World.setCell w3 _ _ = w4 at b4 z4 ⊢
    have b5 : Blk (w4.setCell ⟨B, 4, none⟩ (.int .i64 (f 4))) B [.int .i64 (f 0), .int .i64 (f 1), .int .i64 (f 2), .int .i64 (f 3), .int .i64 (f 4), x5, x6, x7] := b4.set 4 _
    have z5 := z4.set (p := ⟨B, 4, none⟩) (.inl rfl) (.int .i64 (f 4))
    generalize World.setCell w4 _ _ = w5 at b5 z5 ⊢
    have b6 : Blk (w5.setCell ⟨B, 5, none⟩ (.int .i64 (f 5))) B [.int .i64 (f 0), .int .i64 (f 1), .int .i64 (f 2), .int .i64 (f 3), .int .i64 (f 4), .int .i64 (f 5), x6, x7] := b5.set 5 _
    have z6 := z5.set (p := ⟨B, 5, none⟩) (.inl rfl) (.int .i64 (f 5))
    generalize World.setCell w5 _ _ = w6 at b6 z6 ⊢
    have b7 : Blk (w6.setCell ⟨B, 6, none⟩ (.int .i64 (f 6))) B [.int .i64 (f 0), .int .i64 (f 1), .int .i64 (f 2), .int .i64 (f 3), .int .i64 (f 4), .int .i64 (f 5), .int .i64 (f 6), x7] := b6.set 6 _
    have z7 := z6.set (p := ⟨B, 6, none⟩) (.inl rfl) (.int .i64 (f 6))
    generalize World.setCell w6 _ _ = w7 at b7 z7 ⊢
    have b8 : Blk (w7.setCell ⟨B, 7, none⟩ (.int .i64 (f 7))) B [.int .i64 (f 0), .int .i64 (f 1), .int .i64 (f 2), .int .i64 (f 3), .int .i64 (f 4), .int .i64 (f 5), .int .i64 (f 6), .int .i64 (f 7)] := b7.set 7 _
    have z8 := z7.set (p := ⟨B, 7, none⟩) (.inl rfl) (.int .i64 (f 7))
    generalize World.setCell w7 _ _ = w8 at b8 z8 ⊢
    exact ⟨w8, rfl, b8, z8⟩
/- an index into an array of eight -/
theorem idx0 (f : Nat → Int) (w : World) : (Instr.index 37 (cycV f) (.int .i64 0)).run Try.prog w = .ok (.int .i64 (f 0)) w := by kernel_rfl
theorem idx1 (f : Nat → Int) (w : World) : (Instr.index 37 (cycV f) (.int .i64 1)).run Try.prog w = .ok (.int .i64 (f 1)) w := by kernel_rfl
theorem idx2 (f : Nat → Int) (w : World) : (Instr.index 37 (cycV f) (.int .i64 2)).run Try.prog w = .ok (.int .i64 (f 2)) w := by kernel_rfl
theorem idx3 (f : Nat → Int) (w : World) : (Instr.index 37 (cycV f) (.int .i64 3)).run Try.prog w = .ok (.int .i64 (f 3)) w := by kernel_rfl
theorem idx4 (f : Nat → Int) (w : World) : (Instr.index 37 (cycV f) (.int .i64 4)).run Try.prog w = .ok (.int .i64 (f 4)) w := by kernel_rfl
theorem idx5 (f : Nat → Int) (w : World) : (Instr.index 37 (cycV f) (.int .i64 5)).run Try.prog w = .ok (.int .i64 (f 5)) w := by kernel_rfl
theorem idx6 (f : Nat → Int) (w : World) : (Instr.index 37 (cycV f) (.int .i64 6)).run Try.prog w = .ok (.int .i64 (f 6)) w := by kernel_rfl
theorem idx7 (f : Nat → Int) (w : World) : (Instr.index 37 (cycV f) (.int .i64 7)).run Try.prog w = .ok (.int .i64 (f 7)) w := by kernel_rfl
theorem Blk.new1 (w : World) (o : Obj) (xs : List Value) (T : TypeId) : Blk ((w.alloc o).alloc (.cells xs.toArray T)) (w.heap.size + 1) xs := by
  have := Blk.new (w.alloc o) xs T
  simpa using this
theorem Blk.new2 (w : World) (o o' : Obj) (xs : List Value) (T : TypeId) : Blk (((w.alloc o).alloc o').alloc (.cells xs.toArray T)) (w.heap.size + 1 + 1) xs := by
  have := Blk.new ((w.alloc o).alloc o') xs T
  simpa using this

set_option maxHeartbeats 1000000 in
theorem toIntA8_any (f : Nat → Int) (w : World) : Calls Try.prog 65 #[cycV f] w fun e w' => e = .returned (cycV f) ∧ Ext w w' := by
  go_enter Try.func65, Try.ntmps65
  go_wp2
  go_rounds 9
  go_returns
  exact ⟨rfl, by repeat (first | exact Ext.refl _ | assumption | refine Ext.drew ?_ | refine Ext.alloc ?_ _ | refine Ext.trans ?_ (by assumption))⟩

set_option maxHeartbeats 1000000 in
theorem toCyc_any (f : Nat → Int) (w : World) : Calls Try.prog 44 #[cycV f] w fun e w' => e = .returned (cycV f) ∧ Ext w w' := by
  go_enter Try.func44, Try.ntmps44
  go_wp2_with fail
  have k1 := (Blk.new1 w (.cells (cyc8 f).toArray 43) (cyc8 fun _ => 0) 39).alloc (.cells (cyc8 fun _ => 0).toArray 39)
  have k2 := Blk.new2 w (.cells (cyc8 f).toArray 43) (.cells (cyc8 fun _ => 0).toArray 39) (cyc8 fun _ => 0) 39
  have x0 : Ext w (((w.alloc (.cells (cyc8 f).toArray 43)).alloc (.cells (cyc8 fun _ => 0).toArray 39)).alloc (.cells (cyc8 fun _ => 0).toArray 39)) := by repeat (first | exact Ext.refl _ | assumption | refine Ext.drew ?_ | refine Ext.alloc ?_ _ | refine Ext.trans ?_ (by assumption))
  refine (toIntA8_any _ _).mono ?_
  rintro e w1 ⟨rfl, x1⟩
  have j1 := k1.keep x1
  have j2 := k2.keep x1
  have x1' := x0.trans x1
  clear k1 k2 x0 x1
  go_wp2_with (refine store_cyc infoArr (x := .tmp 7) (y := .tmp 6) (w.heap.size + 1 + 1) f _ rfl rfl j2 rfl ?_)
  intro w2 y2 z2
  have y1 := j1.keepB z2 (by omega)
  have x2 := z2.ext x1' (by omega)
  clear z2 j1 j2 x1'
  have c2 := y2.cell
  go_wp2_with (refine store_cyc infoCyc (x := .tmp 2) (y := .tmp 8) (w.heap.size + 1) f _ rfl rfl y1 rfl ?_)
  intro w3 y3 z3
  have x3 := z3.ext x2 (by omega)
  clear c2 z3
  have c3 := y3.cell
  go_wp2
  exact bodyPost_ret (v := cycV f) (by simp [results, Try.results44, go_sem, c3]) rfl ⟨rfl, x3⟩

set_option maxHeartbeats 1000000 in
theorem l2Sum_any (f g : Nat → Int) (n : Int) (w : World) (hf : ∀ j, j < 8 → -1000000000000 ≤ f j ∧ f j ≤ 1000000000000) (hg : ∀ j, j < 8 → -1000000000000 ≤ n * g j ∧ n * g j ≤ 1000000000000) :
    Calls Try.prog 67 #[cycV f, .int .i64 n, cycV g] w fun e w' => e = .returned (cycV fun j => f j + n * g j) ∧ Ext w w' := by
  obtain ⟨a0, b0⟩ := hf 0 (by omega); obtain ⟨a1, b1⟩ := hf 1 (by omega); obtain ⟨a2, b2⟩ := hf 2 (by omega); obtain ⟨a3, b3⟩ := hf 3 (by omega)
  obtain ⟨a4, b4⟩ := hf 4 (by omega); obtain ⟨a5, b5⟩ := hf 5 (by omega); obtain ⟨a6, b6⟩ := hf 6 (by omega); obtain ⟨a7, b7⟩ := hf 7 (by omega)
  obtain ⟨c0, d0⟩ := hg 0 (by omega); obtain ⟨c1, d1⟩ := hg 1 (by omega); obtain ⟨c2, d2⟩ := hg 2 (by omega); obtain ⟨c3, d3⟩ := hg 3 (by omega)
  obtain ⟨c4, d4⟩ := hg 4 (by omega); obtain ⟨c5, d5⟩ := hg 5 (by omega); obtain ⟨c6, d6⟩ := hg 6 (by omega); obtain ⟨c7, d7⟩ := hg 7 (by omega)
  clear hf hg
  go_enter Try.func67, Try.ntmps67
  go_wp2
  refine wp_loop_rounds 9 ?_
  iterate 8 (rw [rounds_succ]; go_wp2; go_region; go_wp2)
  rw [rounds_succ]
  go_wp2
  go_returns
  exact ⟨rfl, by repeat (first | exact Ext.refl _ | assumption | refine Ext.drew ?_ | refine Ext.alloc ?_ _ | refine Ext.trans ?_ (by assumption))⟩

/-- all coefficients are in their range -/
def cycOk (f : Nat → Int) : Bool := inR (-1000000) 1000000 (f 0) && inR (-1000000) 1000000 (f 1) && inR (-1000000) 1000000 (f 2) && inR (-1000000) 1000000 (f 3) && inR (-1000000) 1000000 (f 4) && inR (-1000000) 1000000 (f 5) && inR (-1000000) 1000000 (f 6) && inR (-1000000) 1000000 (f 7)
theorem cycOk_bd {f : Nat → Int} (h : cycOk f = true) : ∀ j, j < 8 → -1000000 ≤ f j ∧ f j ≤ 1000000 := by
  simp only [cycOk, Bool.and_eq_true] at h
  intro j hj
  obtain ⟨⟨⟨⟨⟨⟨⟨h0, h1⟩, h2⟩, h3⟩, h4⟩, h5⟩, h6⟩, h7⟩ := h
  obtain rfl | rfl | rfl | rfl | rfl | rfl | rfl | rfl : j = 0 ∨ j = 1 ∨ j = 2 ∨ j = 3 ∨ j = 4 ∨ j = 5 ∨ j = 6 ∨ j = 7 := by omega
  all_goals (apply inR_of; assumption)
/-- an exact point and whether it is one -/
def tupCB (p : (Nat → Int) × Bool) : Value := .tuple #[cycV p.1, .bool p.2]
/-- a result that is checked -/
def doneM (f : Nat → Int) : (Nat → Int) × Bool := if cycOk f then (f, true) else (fun _ => 0, false)

set_option maxHeartbeats 1000000 in
theorem sCycValid_any (f : Nat → Int) (w : World) : Calls Try.prog 36 #[cycV f] w fun e w' => e = .returned (.bool (cycOk f)) ∧ Ext w w' := by
  go_enter Try.func36, Try.ntmps36
  go_wp2
  refine wp_loop_rounds 9 ?_
  iterate 9 (any_goals (rw [rounds_succ]; go_wp2_with (go_at_call 35; ((with_reducible refine (l6In_any _ _ _ _).mono ?_); rintro e w' ⟨rfl, rfl⟩))))
  all_goals go_ret
  all_goals exact ⟨by simp only [Bool.not_eq_true', Bool.not_eq_false'] at *; simp [cycOk, *], by repeat (first | exact Ext.refl _ | assumption | refine Ext.drew ?_ | refine Ext.alloc ?_ _ | refine Ext.trans ?_ (by assumption))⟩

set_option maxHeartbeats 1000000 in
theorem small_any (f : Nat → Int) (w : World) : Calls Try.prog 62 #[cycV f, .int .i64 1000000] w fun e w' => e = .returned (.bool (cycOk f)) ∧ Ext w w' := by
  have i0 := idx0 f; have i1 := idx1 f; have i2 := idx2 f; have i3 := idx3 f; have i4 := idx4 f; have i5 := idx5 f; have i6 := idx6 f; have i7 := idx7 f
  go_enter Try.func62, Try.ntmps62
  go_wp2
  refine wp_loop_rounds 9 ?_
  iterate 9 (any_goals (rw [rounds_succ]; go_wp2_with (go_at_call 39; ((with_reducible refine (within_any _ _ _ _).mono ?_); rintro e w' ⟨rfl, rfl⟩))))
  all_goals go_ret
  all_goals exact ⟨by simp only [Bool.not_eq_true', Bool.not_eq_false'] at *; simp [cycOk, *], by repeat (first | exact Ext.refl _ | assumption | refine Ext.drew ?_ | refine Ext.alloc ?_ _ | refine Ext.trans ?_ (by assumption))⟩

end Go.Proofs.Ytadjphiipnlcdaa
