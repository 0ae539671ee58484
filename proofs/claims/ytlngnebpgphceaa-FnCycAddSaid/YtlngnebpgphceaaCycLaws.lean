/- The laws on exact points (P8, P10, P11, P16): their walks. Written by mk_cyclaws.py. -/
import Derived.Test.YtlngnebpgphceaaCycD
import Derived.Laws.StructEq
namespace Go.Proofs.Ytlngnebpgphceaa
open Go.ChangeShapes Go.WideShapes Go.ChangeAt Go.RowKit
set_option linter.unusedVariables false

/-- two exact points are one -/
def eqF8 (f g : Nat → Int) : Bool := f 0 == g 0 && f 1 == g 1 && f 2 == g 2 && f 3 == g 3 && f 4 == g 4 && f 5 == g 5 && f 6 == g 6 && f 7 == g 7
theorem eqF8_self (f : Nat → Int) : eqF8 f f = true := by simp [eqF8]
theorem eqA (d : Nat) (f g : Nat → Int) (w : World) : (Op.equalIn (d + 2) 23 (cycV f) (cycV g)).run Try.prog w = .ok (eqF8 f g) w := by
  have u3 := Try.underlying3
  have a3 := Try.isAgg3
  have z3 := Try.sizeOf3
  rw [show d + 2 = (d + 1) + 1 from rfl, Op.equalIn]
  simp only [Sem.run_bind, run_underlying Try.underlying23, Result.andThen_ok]
  simp only [Std.Legacy.Range.forIn_eq_forIn_range', Std.Legacy.Range.size, Nat.sub_zero, Nat.add_sub_cancel, Nat.div_one, List.range'_succ, List.range'_zero, List.forIn_cons, List.forIn_nil]
  go_simp
  unfold eqF8
  (repeat' split) <;> simp_all
theorem eqC (f g : Nat → Int) (w : World) : (Op.equalIn 10000 25 (cycV f) (cycV g)).run Try.prog w = .ok (eqF8 f g) w := by
  have u3 := Try.underlying23
  have a3 := Try.isAgg23
  have z3 := Try.sizeOf23
  have hS : Try.prog.underlying 25 = some (.struct (Try.prog.fieldsOf 25)) := by kernel_rfl
  have hp : Try.prog.stoodInHeld 25 = false := by kernel_rfl
  have ha := eqA 9997 f g
  rw [show (10000 : Nat) = 9999 + 1 from rfl, run_equalIn_agg w 9999 25 _ _ hS hp]
  simp only [Program.fieldsOf, Try.underlying25]
  go_simp
  cases eqF8 f g <;> rfl

theorem cycOk_neg {f : Nat → Int} (h : cycOk f = true) : cycOk (fun j => - f j) = true := by
  have b := cycOk_bd h
  have b0 := b 0 (by omega); have b1 := b 1 (by omega); have b2 := b 2 (by omega); have b3 := b 3 (by omega)
  have b4 := b 4 (by omega); have b5 := b 5 (by omega); have b6 := b 6 (by omega); have b7 := b 7 (by omega)
  simp only [cycOk, Bool.and_eq_true]
  exact ⟨⟨⟨⟨⟨⟨⟨inR_true (by omega) (by omega), inR_true (by omega) (by omega)⟩, inR_true (by omega) (by omega)⟩, inR_true (by omega) (by omega)⟩, inR_true (by omega) (by omega)⟩, inR_true (by omega) (by omega)⟩, inR_true (by omega) (by omega)⟩, inR_true (by omega) (by omega)⟩
theorem scaleM_neg {f : Nat → Int} (h : cycOk f = true) : scaleM f (-1) = (fun j => - f j, true) := by
  have e : (fun j => f j * -1) = fun j => - f j := by funext j; omega
  have r : inR (-1000000) 1000000 (-1) = true := by decide
  simp only [scaleM, h, r, e, Bool.and_self, if_true, doneM, cycOk_neg h]
theorem addM_ok {f g h : Nat → Int} (hf : cycOk f = true) (hg : cycOk g = true) (e : (fun j => f j + g j) = h) (hh : cycOk h = true) : addM f g = (h, true) := by
  simp [addM, hf, hg, doneM, e, hh]
theorem lessM_ok {f g h : Nat → Int} (hf : cycOk f = true) (hg : cycOk g = true) (e : (fun j => f j - g j) = h) (hh : cycOk h = true) : lessM f g = (h, true) := by
  simp [lessM, hf, hg, doneM, e, hh]
theorem addM_no {f g : Nat → Int} (h : (cycOk f && cycOk g && cycOk (fun j => f j + g j)) = false) : addM f g = (fun _ => 0, false) := by
  cases h1 : cycOk f <;> cases h2 : cycOk g <;> cases h3 : cycOk (fun j => f j + g j) <;> simp_all [addM, doneM]
theorem lessM_no {f g : Nat → Int} (h : (cycOk f && cycOk g && cycOk (fun j => f j - g j)) = false) : lessM f g = (fun _ => 0, false) := by
  cases h1 : cycOk f <;> cases h2 : cycOk g <;> cases h3 : cycOk (fun j => f j - g j) <;> simp_all [lessM, doneM]
theorem scaleM_no {f : Nat → Int} {n : Int} (h : (cycOk f && inR (-1000000) 1000000 n && cycOk (fun j => f j * n)) = false) : scaleM f n = (fun _ => 0, false) := by
  cases h1 : cycOk f <;> cases h2 : inR (-1000000) 1000000 n <;> cases h3 : cycOk (fun j => f j * n) <;> simp_all [scaleM, doneM]

set_option maxHeartbeats 4000000 in
theorem lawCyc (a : Option Addr) (len cap : Nat) (w : World) (h : CodeOk w a len cap) :
    Calls Try.prog 3 #[.slice a len cap] w fun e w' => e = .returned (.bool true) ∧ Ext w w' := by
  have hl := h.1
  have hm := h.2.1
  unfold maxLen at hm
  by_cases hbig : 1048576 < len
  · go_enter Try.func3, Try.ntmps3
    go_wp2_with fail
    go_ret; exact ⟨rfl, Ext.refl _⟩
  · go_enter Try.func3, Try.ntmps3
    go_wp2_with fail
    refine (dCycValid_any _ _ _ _ h).mono ?_
    rintro e w1 ⟨f, rfl, hf, x1⟩
    clear h hl hm hbig hf
    have b0 := Blk.new w1 (cyc8 f) 25
    have y := (x1.alloc (.cells (cyc8 f).toArray 25))
    have c0 := b0.cell
    clear x1
    go_wp2_with fail
    refine (iCycValid_any f _).mono ?_
    rintro e w2 ⟨rfl, x2⟩
    replace b0 := (b0.keep x2)
    replace c0 := b0.cell
    replace y := (y.trans x2)
    clear x2
    go_wp2_with fail
    refine (sCycValid_any f _).mono ?_
    rintro e w3 ⟨rfl, x3⟩
    replace b0 := (b0.keep x3)
    replace c0 := b0.cell
    replace y := (y.trans x3)
    clear x3
    by_cases hv : cycOk f = true
    · have H1 := Lib.hid (scaleM_neg hv)
      have H2 := Lib.hid (show addM f (fun j => - f j) = (fun _ => 0, true) from addM_ok hv (cycOk_neg hv) (by funext j; omega) (by decide))
      have eqs := eqC (fun _ => 0) (fun _ => 0)
      have eqt := eqF8_self (fun _ => 0)
      have hbld := buildCyc
      go_wp2_with fail
      refine (iCycScale_any f (-1) _).mono ?_
      rintro e w4 ⟨rfl, x4⟩
      rw [H1.out]; dsimp only [tupCB]
      replace b0 := (b0.keep x4).alloc (.cells (cyc8 fun j => - f j).toArray 25)
      replace c0 := b0.cell
      have b1 := Blk.new w4 (cyc8 fun j => - f j) 25
      have c1 := b1.cell
      replace y := (y.trans x4).alloc (.cells (cyc8 fun j => - f j).toArray 25)
      clear x4
      go_wp2_with fail
      refine (iCycAdd_any f (fun j => - f j) _).mono ?_
      rintro e w5 ⟨rfl, x5⟩
      rw [H2.out]; dsimp only [tupCB]
      clear c0 b0
      clear c1 b1
      have b2 := Blk.new w5 (cyc8 fun _ => 0) 25
      have c2 := b2.cell
      replace y := (y.trans x5).alloc (.cells (cyc8 fun _ => 0).toArray 25)
      clear x5
      go_wp2
      go_ret; exact ⟨rfl, y⟩
    · have hv' : cycOk f = false := by simpa using hv
      clear hv
      go_wp2
      go_ret; exact ⟨rfl, y⟩

set_option maxHeartbeats 4000000 in
theorem lawCycAdd (a : Option Addr) (len cap : Nat) (w : World) (h : CodeOk w a len cap) :
    Calls Try.prog 5 #[.slice a len cap] w fun e w' => e = .returned (.bool true) ∧ Ext w w' := by
  have hl := h.1
  have hm := h.2.1
  unfold maxLen at hm
  by_cases hbig : 1048576 < len
  · go_enter Try.func5, Try.ntmps5
    go_wp2_with fail
    go_ret; exact ⟨rfl, Ext.refl _⟩
  · go_enter Try.func5, Try.ntmps5
    go_wp2_with fail
    refine (dCycAdd_any _ _ _ _ h).mono ?_
    rintro e w1 ⟨f, g, rfl, hf, hg, x1⟩
    clear h hl hm hbig hf hg
    by_cases hv : (cycOk f && cycOk g && cycOk (fun j => f j + g j)) = true
    · simp only [Bool.and_eq_true] at hv
      obtain ⟨⟨hs1, hs2⟩, hs3⟩ := hv
      have H1 := Lib.hid (show addM f g = (fun j => f j + g j, true) from addM_ok hs1 hs2 rfl hs3)
      have H2 := Lib.hid (show addM g f = (fun j => f j + g j, true) from addM_ok hs2 hs1 (by funext j; omega) hs3)
      have H3 := Lib.hid (show lessM (fun j => f j + g j) g = (f, true) from lessM_ok hs3 hs2 (by funext j; omega) hs1)
      have eqf := eqC f f
      have eqg := eqF8_self f
      have eqs := eqC (fun j => f j + g j) (fun j => f j + g j)
      have eqt := eqF8_self (fun j => f j + g j)
      clear hs1 hs2 hs3
      have b0 := (Blk.new w1 (cyc8 f) 25).alloc (.cells (cyc8 g).toArray 25)
      have b1 := Blk.new1 w1 (.cells (cyc8 f).toArray 25) (cyc8 g) 25
      have y := ((x1.alloc (.cells (cyc8 f).toArray 25)).alloc (.cells (cyc8 g).toArray 25))
      have c0 := b0.cell
      have c1 := b1.cell
      clear x1
      go_wp2_with fail
      refine (iCycAdd_any f g _).mono ?_
      rintro e w2 ⟨rfl, x2⟩
      rw [H1.out]; dsimp only [tupCB]
      replace b0 := (b0.keep x2).alloc (.cells (cyc8 fun j => f j + g j).toArray 25)
      replace c0 := b0.cell
      replace b1 := (b1.keep x2).alloc (.cells (cyc8 fun j => f j + g j).toArray 25)
      replace c1 := b1.cell
      have b2 := Blk.new w2 (cyc8 fun j => f j + g j) 25
      have c2 := b2.cell
      replace y := (y.trans x2).alloc (.cells (cyc8 fun j => f j + g j).toArray 25)
      clear x2
      go_wp2_with fail
      refine (sCycAdd_any f g _).mono ?_
      rintro e w3 ⟨rfl, x3⟩
      rw [H1.out]; dsimp only [tupCB]
      replace b0 := (b0.keep x3).alloc (.cells (cyc8 fun j => f j + g j).toArray 25)
      replace c0 := b0.cell
      replace b1 := (b1.keep x3).alloc (.cells (cyc8 fun j => f j + g j).toArray 25)
      replace c1 := b1.cell
      replace b2 := (b2.keep x3).alloc (.cells (cyc8 fun j => f j + g j).toArray 25)
      replace c2 := b2.cell
      have b3 := Blk.new w3 (cyc8 fun j => f j + g j) 25
      have c3 := b3.cell
      replace y := (y.trans x3).alloc (.cells (cyc8 fun j => f j + g j).toArray 25)
      clear x3
      go_wp2_with fail
      refine (iCycAdd_any g f _).mono ?_
      rintro e w4 ⟨rfl, x4⟩
      rw [H2.out]; dsimp only [tupCB]
      replace b0 := (b0.keep x4).alloc (.cells (cyc8 fun j => f j + g j).toArray 25)
      replace c0 := b0.cell
      replace b1 := (b1.keep x4).alloc (.cells (cyc8 fun j => f j + g j).toArray 25)
      replace c1 := b1.cell
      replace b2 := (b2.keep x4).alloc (.cells (cyc8 fun j => f j + g j).toArray 25)
      replace c2 := b2.cell
      replace b3 := (b3.keep x4).alloc (.cells (cyc8 fun j => f j + g j).toArray 25)
      replace c3 := b3.cell
      have b4 := Blk.new w4 (cyc8 fun j => f j + g j) 25
      have c4 := b4.cell
      replace y := (y.trans x4).alloc (.cells (cyc8 fun j => f j + g j).toArray 25)
      clear x4
      go_wp2_with fail
      refine (iCycLess_any (fun j => f j + g j) g _).mono ?_
      rintro e w5 ⟨rfl, x5⟩
      rw [H3.out]; dsimp only [tupCB]
      clear c1 b1
      clear c3 b3
      replace b0 := (b0.keep x5).alloc (.cells (cyc8 f).toArray 25)
      replace c0 := b0.cell
      replace b2 := (b2.keep x5).alloc (.cells (cyc8 f).toArray 25)
      replace c2 := b2.cell
      replace b4 := (b4.keep x5).alloc (.cells (cyc8 f).toArray 25)
      replace c4 := b4.cell
      have b5 := Blk.new w5 (cyc8 f) 25
      have c5 := b5.cell
      replace y := (y.trans x5).alloc (.cells (cyc8 f).toArray 25)
      clear x5
      go_wp2
      go_ret; exact ⟨rfl, y⟩
    · have hv' : (cycOk f && cycOk g && cycOk (fun j => f j + g j)) = false := by simpa using hv
      have H1 := Lib.hid (addM_no hv')
      have eqs := eqC (fun _ => 0) (fun _ => 0)
      have eqt := eqF8_self (fun _ => 0)
      clear hv hv'
      have b0 := (Blk.new w1 (cyc8 f) 25).alloc (.cells (cyc8 g).toArray 25)
      have b1 := Blk.new1 w1 (.cells (cyc8 f).toArray 25) (cyc8 g) 25
      have y := ((x1.alloc (.cells (cyc8 f).toArray 25)).alloc (.cells (cyc8 g).toArray 25))
      have c0 := b0.cell
      have c1 := b1.cell
      clear x1
      go_wp2_with fail
      refine (iCycAdd_any f g _).mono ?_
      rintro e w2 ⟨rfl, x2⟩
      rw [H1.out]; dsimp only [tupCB]
      replace b0 := (b0.keep x2).alloc (.cells (cyc8 fun _ => 0).toArray 25)
      replace c0 := b0.cell
      replace b1 := (b1.keep x2).alloc (.cells (cyc8 fun _ => 0).toArray 25)
      replace c1 := b1.cell
      have b2 := Blk.new w2 (cyc8 fun _ => 0) 25
      have c2 := b2.cell
      replace y := (y.trans x2).alloc (.cells (cyc8 fun _ => 0).toArray 25)
      clear x2
      go_wp2_with fail
      refine (sCycAdd_any f g _).mono ?_
      rintro e w3 ⟨rfl, x3⟩
      rw [H1.out]; dsimp only [tupCB]
      clear c0 b0
      clear c1 b1
      replace b2 := (b2.keep x3).alloc (.cells (cyc8 fun _ => 0).toArray 25)
      replace c2 := b2.cell
      have b3 := Blk.new w3 (cyc8 fun _ => 0) 25
      have c3 := b3.cell
      replace y := (y.trans x3).alloc (.cells (cyc8 fun _ => 0).toArray 25)
      clear x3
      go_wp2
      go_ret; exact ⟨rfl, y⟩

set_option maxHeartbeats 4000000 in
theorem lawCycLess (a : Option Addr) (len cap : Nat) (w : World) (h : CodeOk w a len cap) :
    Calls Try.prog 6 #[.slice a len cap] w fun e w' => e = .returned (.bool true) ∧ Ext w w' := by
  have hl := h.1
  have hm := h.2.1
  unfold maxLen at hm
  by_cases hbig : 1048576 < len
  · go_enter Try.func6, Try.ntmps6
    go_wp2_with fail
    go_ret; exact ⟨rfl, Ext.refl _⟩
  · go_enter Try.func6, Try.ntmps6
    go_wp2_with fail
    refine (dCycLess_any _ _ _ _ h).mono ?_
    rintro e w1 ⟨f, g, rfl, hf, hg, x1⟩
    clear h hl hm hbig hf hg
    by_cases hv : (cycOk f && cycOk g && cycOk (fun j => f j - g j)) = true
    · simp only [Bool.and_eq_true] at hv
      obtain ⟨⟨hs1, hs2⟩, hs3⟩ := hv
      have H1 := Lib.hid (show lessM f g = (fun j => f j - g j, true) from lessM_ok hs1 hs2 rfl hs3)
      have en : (fun j => - (f j - g j)) = fun j => g j - f j := by funext j; omega
      have hs4 : cycOk (fun j => g j - f j) = true := by have := cycOk_neg hs3; rwa [en] at this
      have H2 := Lib.hid (show addM (fun j => f j - g j) g = (f, true) from addM_ok hs3 hs2 (by funext j; omega) hs1)
      have H3 := Lib.hid (show lessM g f = (fun j => g j - f j, true) from lessM_ok hs2 hs1 rfl hs4)
      have H4 := Lib.hid (show scaleM (fun j => f j - g j) (-1) = (fun j => g j - f j, true) from by rw [scaleM_neg hs3, en])
      have eqf := eqC f f
      have eqg := eqF8_self f
      have eqh := eqC (fun j => g j - f j) (fun j => g j - f j)
      have eqi := eqF8_self (fun j => g j - f j)
      clear en hs4
      have eqs := eqC (fun j => f j - g j) (fun j => f j - g j)
      have eqt := eqF8_self (fun j => f j - g j)
      clear hs1 hs2 hs3
      have b0 := (Blk.new w1 (cyc8 f) 25).alloc (.cells (cyc8 g).toArray 25)
      have b1 := Blk.new1 w1 (.cells (cyc8 f).toArray 25) (cyc8 g) 25
      have y := ((x1.alloc (.cells (cyc8 f).toArray 25)).alloc (.cells (cyc8 g).toArray 25))
      have c0 := b0.cell
      have c1 := b1.cell
      clear x1
      go_wp2_with fail
      refine (iCycLess_any f g _).mono ?_
      rintro e w2 ⟨rfl, x2⟩
      rw [H1.out]; dsimp only [tupCB]
      replace b0 := (b0.keep x2).alloc (.cells (cyc8 fun j => f j - g j).toArray 25)
      replace c0 := b0.cell
      replace b1 := (b1.keep x2).alloc (.cells (cyc8 fun j => f j - g j).toArray 25)
      replace c1 := b1.cell
      have b2 := Blk.new w2 (cyc8 fun j => f j - g j) 25
      have c2 := b2.cell
      replace y := (y.trans x2).alloc (.cells (cyc8 fun j => f j - g j).toArray 25)
      clear x2
      go_wp2_with fail
      refine (sCycLess_any f g _).mono ?_
      rintro e w3 ⟨rfl, x3⟩
      rw [H1.out]; dsimp only [tupCB]
      replace b0 := (b0.keep x3).alloc (.cells (cyc8 fun j => f j - g j).toArray 25)
      replace c0 := b0.cell
      replace b1 := (b1.keep x3).alloc (.cells (cyc8 fun j => f j - g j).toArray 25)
      replace c1 := b1.cell
      replace b2 := (b2.keep x3).alloc (.cells (cyc8 fun j => f j - g j).toArray 25)
      replace c2 := b2.cell
      have b3 := Blk.new w3 (cyc8 fun j => f j - g j) 25
      have c3 := b3.cell
      replace y := (y.trans x3).alloc (.cells (cyc8 fun j => f j - g j).toArray 25)
      clear x3
      go_wp2_with fail
      refine (iCycAdd_any (fun j => f j - g j) g _).mono ?_
      rintro e w4 ⟨rfl, x4⟩
      rw [H2.out]; dsimp only [tupCB]
      replace b0 := (b0.keep x4).alloc (.cells (cyc8 f).toArray 25)
      replace c0 := b0.cell
      replace b1 := (b1.keep x4).alloc (.cells (cyc8 f).toArray 25)
      replace c1 := b1.cell
      replace b2 := (b2.keep x4).alloc (.cells (cyc8 f).toArray 25)
      replace c2 := b2.cell
      replace b3 := (b3.keep x4).alloc (.cells (cyc8 f).toArray 25)
      replace c3 := b3.cell
      have b4 := Blk.new w4 (cyc8 f) 25
      have c4 := b4.cell
      replace y := (y.trans x4).alloc (.cells (cyc8 f).toArray 25)
      clear x4
      go_wp2_with fail
      refine (iCycLess_any g f _).mono ?_
      rintro e w5 ⟨rfl, x5⟩
      rw [H3.out]; dsimp only [tupCB]
      clear c1 b1
      clear c3 b3
      replace b0 := (b0.keep x5).alloc (.cells (cyc8 fun j => g j - f j).toArray 25)
      replace c0 := b0.cell
      replace b2 := (b2.keep x5).alloc (.cells (cyc8 fun j => g j - f j).toArray 25)
      replace c2 := b2.cell
      replace b4 := (b4.keep x5).alloc (.cells (cyc8 fun j => g j - f j).toArray 25)
      replace c4 := b4.cell
      have b5 := Blk.new w5 (cyc8 fun j => g j - f j) 25
      have c5 := b5.cell
      replace y := (y.trans x5).alloc (.cells (cyc8 fun j => g j - f j).toArray 25)
      clear x5
      go_wp2_with fail
      refine (iCycScale_any (fun j => f j - g j) (-1) _).mono ?_
      rintro e w6 ⟨rfl, x6⟩
      rw [H4.out]; dsimp only [tupCB]
      clear c2 b2
      replace b0 := (b0.keep x6).alloc (.cells (cyc8 fun j => g j - f j).toArray 25)
      replace c0 := b0.cell
      replace b4 := (b4.keep x6).alloc (.cells (cyc8 fun j => g j - f j).toArray 25)
      replace c4 := b4.cell
      replace b5 := (b5.keep x6).alloc (.cells (cyc8 fun j => g j - f j).toArray 25)
      replace c5 := b5.cell
      have b6 := Blk.new w6 (cyc8 fun j => g j - f j) 25
      have c6 := b6.cell
      replace y := (y.trans x6).alloc (.cells (cyc8 fun j => g j - f j).toArray 25)
      clear x6
      go_wp2
      go_ret; exact ⟨rfl, y⟩
    · have hv' : (cycOk f && cycOk g && cycOk (fun j => f j - g j)) = false := by simpa using hv
      have H1 := Lib.hid (lessM_no hv')
      have eqs := eqC (fun _ => 0) (fun _ => 0)
      have eqt := eqF8_self (fun _ => 0)
      clear hv hv'
      have b0 := (Blk.new w1 (cyc8 f) 25).alloc (.cells (cyc8 g).toArray 25)
      have b1 := Blk.new1 w1 (.cells (cyc8 f).toArray 25) (cyc8 g) 25
      have y := ((x1.alloc (.cells (cyc8 f).toArray 25)).alloc (.cells (cyc8 g).toArray 25))
      have c0 := b0.cell
      have c1 := b1.cell
      clear x1
      go_wp2_with fail
      refine (iCycLess_any f g _).mono ?_
      rintro e w2 ⟨rfl, x2⟩
      rw [H1.out]; dsimp only [tupCB]
      replace b0 := (b0.keep x2).alloc (.cells (cyc8 fun _ => 0).toArray 25)
      replace c0 := b0.cell
      replace b1 := (b1.keep x2).alloc (.cells (cyc8 fun _ => 0).toArray 25)
      replace c1 := b1.cell
      have b2 := Blk.new w2 (cyc8 fun _ => 0) 25
      have c2 := b2.cell
      replace y := (y.trans x2).alloc (.cells (cyc8 fun _ => 0).toArray 25)
      clear x2
      go_wp2_with fail
      refine (sCycLess_any f g _).mono ?_
      rintro e w3 ⟨rfl, x3⟩
      rw [H1.out]; dsimp only [tupCB]
      clear c0 b0
      clear c1 b1
      replace b2 := (b2.keep x3).alloc (.cells (cyc8 fun _ => 0).toArray 25)
      replace c2 := b2.cell
      have b3 := Blk.new w3 (cyc8 fun _ => 0) 25
      have c3 := b3.cell
      replace y := (y.trans x3).alloc (.cells (cyc8 fun _ => 0).toArray 25)
      clear x3
      go_wp2
      go_ret; exact ⟨rfl, y⟩

set_option maxHeartbeats 4000000 in
theorem lawScale (a : Option Addr) (len cap : Nat) (w : World) (h : CodeOk w a len cap) :
    Calls Try.prog 4 #[.slice a len cap] w fun e w' => e = .returned (.bool true) ∧ Ext w w' := by
  have hl := h.1
  have hm := h.2.1
  unfold maxLen at hm
  by_cases hbig : 1048576 < len
  · go_enter Try.func4, Try.ntmps4
    go_wp2_with fail
    go_ret; exact ⟨rfl, Ext.refl _⟩
  · go_enter Try.func4, Try.ntmps4
    go_wp2_with fail
    refine (dCycScale_any _ _ _ _ h).mono ?_
    rintro e w1 ⟨f, n, rfl, hf, n1, n2, x1⟩
    clear h hl hm hbig hf
    by_cases hv : (cycOk f && inR (-1000000) 1000000 n && cycOk (fun j => f j * n)) = true
    · simp only [Bool.and_eq_true] at hv
      obtain ⟨⟨hs1, hs2⟩, hs3⟩ := hv
      have H1 := Lib.hid (show scaleM f n = (fun j => f j * n, true) from by simp [scaleM, hs1, hs2, doneM, hs3])
      have eqs := eqC (fun j => f j * n) (fun j => f j * n)
      have eqt := eqF8_self (fun j => f j * n)
      have HS1 := Lib.hid hs1
      have HS3 := Lib.hid hs3
      clear hs1 hs2 hs3
      have b0 := Blk.new w1 (cyc8 f) 25
      have y := (x1.alloc (.cells (cyc8 f).toArray 25))
      have c0 := b0.cell
      clear x1
      go_wp2_with fail
      refine (iCycScale_any f n _).mono ?_
      rintro e w2 ⟨rfl, x2⟩
      rw [H1.out]; dsimp only [tupCB]
      replace b0 := (b0.keep x2).alloc (.cells (cyc8 fun j => f j * n).toArray 25)
      replace c0 := b0.cell
      have b1 := Blk.new w2 (cyc8 fun j => f j * n) 25
      have c1 := b1.cell
      replace y := (y.trans x2).alloc (.cells (cyc8 fun j => f j * n).toArray 25)
      clear x2
      go_wp2_with fail
      refine (sCycScale_any f n _).mono ?_
      rintro e w3 ⟨rfl, x3⟩
      rw [H1.out]; dsimp only [tupCB]
      replace b0 := (b0.keep x3).alloc (.cells (cyc8 fun j => f j * n).toArray 25)
      replace c0 := b0.cell
      replace b1 := (b1.keep x3).alloc (.cells (cyc8 fun j => f j * n).toArray 25)
      replace c1 := b1.cell
      have b2 := Blk.new w3 (cyc8 fun j => f j * n) 25
      have c2 := b2.cell
      replace y := (y.trans x3).alloc (.cells (cyc8 fun j => f j * n).toArray 25)
      clear x3
      by_cases hp : (inR (-1000000) 1000000 (n + 1) && cycOk (fun j => f j * (n + 1))) = true
      · simp only [Bool.and_eq_true] at hp
        have H2 := Lib.hid (show scaleM f (n + 1) = (fun j => f j * (n + 1), true) from by simp [scaleM, HS1.out, hp.1, hp.2, doneM])
        have H3 := Lib.hid (show addM (fun j => f j * n) f = (fun j => f j * (n + 1), true) from addM_ok HS3.out HS1.out (by funext j; rw [Int.mul_add, Int.mul_one]) hp.2)
        have eqf := eqC (fun j => f j * (n + 1)) (fun j => f j * (n + 1))
        have eqg := eqF8_self (fun j => f j * (n + 1))
        clear hp
        go_wp2_with fail
        refine (iCycScale_any f (n + 1) _).mono ?_
        rintro e w4 ⟨rfl, x4⟩
        rw [H2.out]; dsimp only [tupCB]
        replace b0 := (b0.keep x4).alloc (.cells (cyc8 fun j => f j * (n + 1)).toArray 25)
        replace c0 := b0.cell
        replace b1 := (b1.keep x4).alloc (.cells (cyc8 fun j => f j * (n + 1)).toArray 25)
        replace c1 := b1.cell
        replace b2 := (b2.keep x4).alloc (.cells (cyc8 fun j => f j * (n + 1)).toArray 25)
        replace c2 := b2.cell
        have b3 := Blk.new w4 (cyc8 fun j => f j * (n + 1)) 25
        have c3 := b3.cell
        replace y := (y.trans x4).alloc (.cells (cyc8 fun j => f j * (n + 1)).toArray 25)
        clear x4
        go_wp2_with fail
        refine (iCycAdd_any (fun j => f j * n) f _).mono ?_
        rintro e w5 ⟨rfl, x5⟩
        rw [H3.out]; dsimp only [tupCB]
        clear c0 b0
        clear c1 b1
        clear c2 b2
        replace b3 := (b3.keep x5).alloc (.cells (cyc8 fun j => f j * (n + 1)).toArray 25)
        replace c3 := b3.cell
        have b4 := Blk.new w5 (cyc8 fun j => f j * (n + 1)) 25
        have c4 := b4.cell
        replace y := (y.trans x5).alloc (.cells (cyc8 fun j => f j * (n + 1)).toArray 25)
        clear x5
        go_wp2
        go_ret; exact ⟨rfl, y⟩
      · have H2 := Lib.hid (show scaleM f (n + 1) = (fun _ => 0, false) from by
          cases h1 : inR (-1000000) 1000000 (n + 1) <;> cases h2 : cycOk (fun j => f j * (n + 1)) <;> simp_all [scaleM, doneM])
        clear hp
        go_wp2_with fail
        refine (iCycScale_any f (n + 1) _).mono ?_
        rintro e w4 ⟨rfl, x4⟩
        rw [H2.out]; dsimp only [tupCB]
        replace b0 := (b0.keep x4).alloc (.cells (cyc8 fun _ => 0).toArray 25)
        replace c0 := b0.cell
        replace b1 := (b1.keep x4).alloc (.cells (cyc8 fun _ => 0).toArray 25)
        replace c1 := b1.cell
        replace b2 := (b2.keep x4).alloc (.cells (cyc8 fun _ => 0).toArray 25)
        replace c2 := b2.cell
        have b3 := Blk.new w4 (cyc8 fun _ => 0) 25
        have c3 := b3.cell
        replace y := (y.trans x4).alloc (.cells (cyc8 fun _ => 0).toArray 25)
        clear x4
        go_wp2_with fail
        refine (iCycAdd_any (fun j => f j * n) f _).mono ?_
        rintro e w5 ⟨rfl, x5⟩
        dsimp only [tupCB]
        clear c0 b0
        clear c1 b1
        clear c2 b2
        replace b3 := (b3.keep x5).alloc (.cells (cyc8 (addM (fun j => f j * n) f).1).toArray 25)
        replace c3 := b3.cell
        have b4 := Blk.new w5 (cyc8 (addM (fun j => f j * n) f).1) 25
        have c4 := b4.cell
        replace y := (y.trans x5).alloc (.cells (cyc8 (addM (fun j => f j * n) f).1).toArray 25)
        clear x5
        go_wp2
        go_ret; exact ⟨rfl, y⟩
    · have hv' : (cycOk f && inR (-1000000) 1000000 n && cycOk (fun j => f j * n)) = false := by simpa using hv
      have H1 := Lib.hid (scaleM_no hv')
      have eqs := eqC (fun _ => 0) (fun _ => 0)
      have eqt := eqF8_self (fun _ => 0)
      clear hv hv'
      have b0 := Blk.new w1 (cyc8 f) 25
      have y := (x1.alloc (.cells (cyc8 f).toArray 25))
      have c0 := b0.cell
      clear x1
      go_wp2_with fail
      refine (iCycScale_any f n _).mono ?_
      rintro e w2 ⟨rfl, x2⟩
      rw [H1.out]; dsimp only [tupCB]
      replace b0 := (b0.keep x2).alloc (.cells (cyc8 fun _ => 0).toArray 25)
      replace c0 := b0.cell
      have b1 := Blk.new w2 (cyc8 fun _ => 0) 25
      have c1 := b1.cell
      replace y := (y.trans x2).alloc (.cells (cyc8 fun _ => 0).toArray 25)
      clear x2
      go_wp2_with fail
      refine (sCycScale_any f n _).mono ?_
      rintro e w3 ⟨rfl, x3⟩
      rw [H1.out]; dsimp only [tupCB]
      replace b0 := (b0.keep x3).alloc (.cells (cyc8 fun _ => 0).toArray 25)
      replace c0 := b0.cell
      replace b1 := (b1.keep x3).alloc (.cells (cyc8 fun _ => 0).toArray 25)
      replace c1 := b1.cell
      have b2 := Blk.new w3 (cyc8 fun _ => 0) 25
      have c2 := b2.cell
      replace y := (y.trans x3).alloc (.cells (cyc8 fun _ => 0).toArray 25)
      clear x3
      go_wp2
      go_ret; exact ⟨rfl, y⟩

end Go.Proofs.Ytlngnebpgphceaa
