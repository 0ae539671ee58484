/- The laws on surds and their signs (P19, P22, P25): their walks. -/
import Derived.Test.YthgmgjjjgllbjaaSurdD
import Derived.Test.YthgmgjjjgllbjaaSign5
import Derived.Test.YthgmgjjjgllbjaaSignQ
namespace Go.Proofs.Ythgmgjjjgllbjaa
open Go.ChangeShapes Go.WideShapes Go.ChangeAt Go.RowKit
set_option linter.unusedVariables false

/-- two surds are one -/
def eqF4 (f g : Nat → Int) : Bool := f 0 == g 0 && f 1 == g 1 && f 2 == g 2 && f 3 == g 3
theorem eqF4_self (f : Nat → Int) : eqF4 f f = true := by simp [eqF4]
theorem eqS (f g : Nat → Int) (w : World) : (Op.equalIn 10000 26 (sfV f) (sfV g)).run Try.prog w = .ok (eqF4 f g) w := by
  have u3 := Try.underlying3
  have a3 := Try.isAgg3
  have z3 := Try.sizeOf3
  have hS : Try.prog.underlying 26 = some (.struct (Try.prog.fieldsOf 26)) := by kernel_rfl
  have hp : Try.prog.stoodInHeld 26 = false := by kernel_rfl
  rw [show (10000 : Nat) = 9999 + 1 from rfl, run_equalIn_agg w 9999 26 _ _ hS hp]
  simp only [Program.fieldsOf, Try.underlying26]
  go_simp
  unfold eqF4
  by_cases h0 : f 0 = g 0 <;> by_cases h1 : f 1 = g 1 <;> by_cases h2 : f 2 = g 2 <;> by_cases h3 : f 3 = g 3 <;> simp [h0, h1, h2, h3]

theorem sgF_neg (f : Nat → Int) : sgF (fun j => - f j) = - sgF f := sg3_neg _ _ _ _
theorem sgF_sub (f g : Nat → Int) : sgF (fun j => g j - f j) = - sgF (fun j => f j - g j) := by
  rw [← sgF_neg]
  congr 1
  funext j; omega
theorem sgF_range (f : Nat → Int) : -1 ≤ sgF f ∧ sgF f ≤ 1 := by
  unfold sgF sg3
  have h1 := sg2_range (f 0) (f 1)
  have h2 := sg2_range (f 2) (f 3)
  have h3 := sg2_range (f 0 * f 0 + 2 * f 1 * f 1 - 3 * f 2 * f 2 - 6 * f 3 * f 3) (2 * f 0 * f 1 - 6 * f 2 * f 3)
  split
  · omega
  · split
    · omega
    · rcases h1 with h1 | h1 | h1 <;> rcases h3 with h3 | h3 | h3 <;> rw [h1, h3] <;> decide
theorem sgF_eq (f g : Nat → Int) : eqF4 f g = (sgF (fun j => f j - g j) == 0) := by
  rw [Bool.eq_iff_iff]
  simp only [eqF4, Bool.and_eq_true, beq_iff_eq]
  constructor
  · rintro ⟨⟨⟨h0, h1⟩, h2⟩, h3⟩
    have e : sgF (fun j => f j - g j) = sg3 (f 0 - g 0) (f 1 - g 1) (f 2 - g 2) (f 3 - g 3) := rfl
    rw [e, h0, h1, h2, h3]
    simp only [Int.sub_self]
    exact sg3_0
  · intro h
    have := sg3_zero (show sg3 (f 0 - g 0) (f 1 - g 1) (f 2 - g 2) (f 3 - g 3) = 0 from h)
    omega

set_option maxHeartbeats 2000000 in
theorem lawSurd (a : Option Addr) (len cap : Nat) (w : World) (h : CodeOk w a len cap) :
    Calls Try.prog 5 #[.slice a len cap] w fun e w' => e = .returned (.bool true) ∧ Ext w w' := by
  have hl := h.1
  have hm := h.2.1
  unfold maxLen at hm
  by_cases hbig : 1048576 < len
  · go_enter Try.func5, Try.ntmps5
    go_wp2_with fail
    go_ret; exact ⟨rfl, Ext.refl _⟩
  · go_enter Try.func5, Try.ntmps5
    go_wp2_with fail
    refine (dSurdValid_any _ _ _ _ h).mono ?_
    rintro e w1 ⟨f, rfl, hf, x1⟩
    have k1 := Blk.new w1 (s4 f) 26
    have y1 := x1.alloc (.cells (s4 f).toArray 26)
    have c1 := k1.cell
    clear x1 h hl hm hbig
    go_wp2_with fail
    refine (iSurdValid_any (f 0) (f 1) (f 2) (f 3) _).mono ?_
    rintro e w2 ⟨rfl, x2⟩
    have k2 := k1.keep x2
    have y2 := y1.trans x2
    have c2 := k2.cell
    clear c1 k1 y1 x2
    go_wp2_with fail
    refine (sSurdValid_any (f 0) (f 1) (f 2) (f 3) _).mono ?_
    rintro e w3 ⟨rfl, x3⟩
    have k3 := k2.keep x3
    have y3 := y2.trans x3
    have c3 := k3.cell
    clear c2 k2 y2 x3
    by_cases hv : surdOk (f 0) (f 1) (f 2) (f 3) = true
    · have hs : sOk f = true := hv
      have hsn : sOk (fun j => - f j) = true := by
        have b := sOk_bd hs
        have b0 := b 0 (by omega); have b1 := b 1 (by omega); have b2 := b 2 (by omega); have b3 := b 3 (by omega)
        simp only [sOk, surdOk, Bool.and_eq_true]
        exact ⟨⟨⟨inR_true (by omega) (by omega), inR_true (by omega) (by omega)⟩, inR_true (by omega) (by omega)⟩, inR_true (by omega) (by omega)⟩
      have H1 := Lib.hid (show signM f = (sgF f, true) from by simp [signM, hs])
      have H2 := Lib.hid (show signM (fun j => - f j) = (-sgF f, true) from by simp [signM, hsn, sgF_neg])
      have H3 := Lib.hid (show saddM f (fun j => - f j) = (fun _ => 0, true) from by
        have e : (fun j => f j + - f j) = fun _ => 0 := by funext j; omega
        have z : sOk (fun _ => 0) = true := by decide
        simp [saddM, hs, hsn, e, doneS, z])
      have b := sOk_bd hs
      have b0 := b 0 (by omega); have b1 := b 1 (by omega); have b2 := b 2 (by omega); have b3 := b 3 (by omega)
      obtain ⟨b00, b01⟩ := b0; obtain ⟨b10, b11⟩ := b1; obtain ⟨b20, b21⟩ := b2; obtain ⟨b30, b31⟩ := b3
      obtain ⟨s1, s2⟩ := sgF_range f
      generalize sgF f = S at *
      clear b hs hsn hf
      have hbld := buildSurd
      have k4 := k3.alloc (.cells (s4 fun j => - f j).toArray 26)
      have m4 := Blk.new w3 (s4 fun j => - f j) 26
      have y4 := y3.alloc (.cells (s4 fun j => - f j).toArray 26)
      have c4 := k4.cell
      go_wp2_with fail
      refine (iSurdSign_any f _).mono ?_
      rintro e w5 ⟨rfl, x5⟩
      rw [H1.out]; dsimp only [tupIB]
      have k5 := k4.keep x5
      have m5 := m4.keep x5
      have y5 := y4.trans x5
      have d5 := m5.cell
      clear c3 c4 k4 m4 y4 x5 k3 y3
      go_wp2_with fail
      refine (iSurdSign_any (fun j => - f j) _).mono ?_
      rintro e w6 ⟨rfl, x6⟩
      rw [H2.out]; dsimp only [tupIB]
      have k6 := k5.keep x6
      have m6 := m5.keep x6
      have y6 := y5.trans x6
      have c6 := k6.cell
      have d6 := m6.cell
      clear d5 k5 m5 y5 x6
      go_wp2_with fail
      refine (iSurdAdd_any f (fun j => - f j) _).mono ?_
      rintro e w7 ⟨rfl, x7⟩
      rw [H3.out]; dsimp only [tupSB]
      have k7 := Blk.new w7 (s4 fun _ => 0) 26
      have y7 := (y6.trans x7).alloc (.cells (s4 fun _ => 0).toArray 26)
      have c7 := k7.cell
      have eqs := eqS (fun _ => 0) (fun _ => 0)
      have eqt := eqF4_self (fun _ => 0)
      clear c6 d6 k6 m6 y6 x7
      go_wp2
      go_ret; exact ⟨rfl, y7⟩
    · have hv' : surdOk (f 0) (f 1) (f 2) (f 3) = false := by simpa using hv
      clear hv
      go_wp2
      go_ret; exact ⟨rfl, y3⟩

set_option maxHeartbeats 2000000 in
theorem lawCompare (a : Option Addr) (len cap : Nat) (w : World) (h : CodeOk w a len cap) :
    Calls Try.prog 7 #[.slice a len cap] w fun e w' => e = .returned (.bool true) ∧ Ext w w' := by
  have hl := h.1
  have hm := h.2.1
  unfold maxLen at hm
  by_cases hbig : 1048576 < len
  · go_enter Try.func7, Try.ntmps7
    go_wp2_with fail
    go_ret; exact ⟨rfl, Ext.refl _⟩
  · go_enter Try.func7, Try.ntmps7
    go_wp2_with fail
    refine (dSurdCompare_any _ _ _ _ h).mono ?_
    rintro e w1 ⟨f, g, rfl, hf, hg, x1⟩
    have k1 := (Blk.new w1 (s4 f) 26).alloc (.cells (s4 g).toArray 26)
    have m1 := Blk.fst1 w1 (.cells (s4 f).toArray 26) (s4 g) 26
    have y1 := (x1.alloc (.cells (s4 f).toArray 26)).alloc (.cells (s4 g).toArray 26)
    have c1 := k1.cell
    have d1 := m1.cell
    clear x1 h hl hm hbig hf hg
    go_wp2_with fail
    refine (iSurdCompare_any f g _).mono ?_
    rintro e w2 ⟨rfl, x2⟩
    have k2 := k1.keep x2
    have m2 := m1.keep x2
    have y2 := y1.trans x2
    have c2 := k2.cell
    have d2 := m2.cell
    clear c1 d1 k1 m1 y1 x2
    by_cases hv : (sOk f && sOk g) = true
    · have hs := hv
      simp only [Bool.and_eq_true] at hs
      have H1 := Lib.hid (show cmpM f g = (sgF (fun j => f j - g j), true) from by simp [cmpM, hs.1, hs.2])
      have H2 := Lib.hid (show cmpM g f = (-sgF (fun j => f j - g j), true) from by rw [← sgF_sub]; simp [cmpM, hs.1, hs.2])
      have he := sgF_eq f g
      obtain ⟨s1, s2⟩ := sgF_range (fun j => f j - g j)
      generalize sgF (fun j => f j - g j) = S at *
      clear hv hs
      have eqs := eqS f g
      rw [H1.out]; dsimp only [tupIB]
      go_wp2_with fail
      refine (sSurdCompare_any f g _).mono ?_
      rintro e w3 ⟨rfl, x3⟩
      rw [H1.out]; dsimp only [tupIB]
      have k3 := k2.keep x3
      have m3 := m2.keep x3
      have y3 := y2.trans x3
      have c3 := k3.cell
      have d3 := m3.cell
      clear c2 d2 k2 m2 y2 x3
      go_wp2_with fail
      refine (iSurdCompare_any g f _).mono ?_
      rintro e w4 ⟨rfl, x4⟩
      rw [H2.out]; dsimp only [tupIB]
      have c4 := (k3.keep x4).cell
      have d4 := (m3.keep x4).cell
      have y4 := y3.trans x4
      clear c3 d3 k3 m3 y3 x4
      go_wp2
      go_ret; exact ⟨rfl, y4⟩
    · have hv' : (sOk f && sOk g) = false := by simpa using hv
      have H1 := Lib.hid (show cmpM f g = (0, false) from by simp [cmpM, hv'])
      clear hv hv'
      rw [H1.out]; dsimp only [tupIB]
      go_wp2_with fail
      refine (sSurdCompare_any f g _).mono ?_
      rintro e w3 ⟨rfl, x3⟩
      rw [H1.out]; dsimp only [tupIB]
      have y3 := y2.trans x3
      clear c2 d2 k2 m2 y2 x3
      go_wp2
      go_ret; exact ⟨rfl, y3⟩

set_option maxHeartbeats 4000000 in
theorem lawSurdAdd (a : Option Addr) (len cap : Nat) (w : World) (h : CodeOk w a len cap) :
    Calls Try.prog 6 #[.slice a len cap] w fun e w' => e = .returned (.bool true) ∧ Ext w w' := by
  have hl := h.1
  have hm := h.2.1
  unfold maxLen at hm
  by_cases hbig : 1048576 < len
  · go_enter Try.func6, Try.ntmps6
    go_wp2_with fail
    go_ret; exact ⟨rfl, Ext.refl _⟩
  · go_enter Try.func6, Try.ntmps6
    go_wp2_with fail
    refine (dSurdAdd_any _ _ _ _ h).mono ?_
    rintro e w1 ⟨f, g, rfl, hf, hg, x1⟩
    have k1 := (Blk.new w1 (s4 f) 26).alloc (.cells (s4 g).toArray 26)
    have m1 := Blk.fst1 w1 (.cells (s4 f).toArray 26) (s4 g) 26
    have y1 := (x1.alloc (.cells (s4 f).toArray 26)).alloc (.cells (s4 g).toArray 26)
    have c1 := k1.cell
    have d1 := m1.cell
    clear x1 h hl hm hbig hf hg
    go_wp2_with fail
    refine (iSurdAdd_any f g _).mono ?_
    rintro e w2 ⟨rfl, x2⟩
    have k2 := k1.keep x2
    have m2 := m1.keep x2
    have y2 := y1.trans x2
    clear c1 d1 k1 m1 y1 x2
    by_cases hv : (sOk f && sOk g && sOk (fun j => f j + g j)) = true
    · have hs := hv
      simp only [Bool.and_eq_true] at hs
      obtain ⟨⟨hs1, hs2⟩, hs3⟩ := hs
      have ec : (fun j => g j + f j) = fun j => f j + g j := by funext j; omega
      have es : (fun j => f j + g j - f j) = g := by funext j; omega
      have H1 := Lib.hid (show saddM f g = (fun j => f j + g j, true) from by simp [saddM, hs1, hs2, doneS, hs3])
      have H2 := Lib.hid (show saddM g f = (fun j => f j + g j, true) from by simp [saddM, hs1, hs2, doneS, ec, hs3])
      have H3 := Lib.hid (show cmpM (fun j => f j + g j) f = (sgF g, true) from by simp only [cmpM, hs1, hs3, es]; rfl)
      have H4 := Lib.hid (show signM g = (sgF g, true) from by simp [signM, hs2])
      have eqs := eqS (fun j => f j + g j) (fun j => f j + g j)
      have eqt := eqF4_self (fun j => f j + g j)
      clear hv hs1 hs2 hs3 ec es
      generalize sgF g = S at *
      rw [H1.out]; dsimp only [tupSB]
      have k3 := k2.alloc (.cells (s4 fun j => f j + g j).toArray 26)
      have m3 := m2.alloc (.cells (s4 fun j => f j + g j).toArray 26)
      have n3 := Blk.new w2 (s4 fun j => f j + g j) 26
      have y3 := y2.alloc (.cells (s4 fun j => f j + g j).toArray 26)
      have c3 := k3.cell
      have d3 := m3.cell
      clear k2 m2 y2
      go_wp2_with fail
      refine (sSurdAdd_any f g _).mono ?_
      rintro e w4 ⟨rfl, x4⟩
      rw [H1.out]; dsimp only [tupSB]
      have k5 := (k3.keep x4).alloc (.cells (s4 fun j => f j + g j).toArray 26)
      have m5 := (m3.keep x4).alloc (.cells (s4 fun j => f j + g j).toArray 26)
      have n5 := (n3.keep x4).alloc (.cells (s4 fun j => f j + g j).toArray 26)
      have o5 := Blk.new w4 (s4 fun j => f j + g j) 26
      have y5 := (y3.trans x4).alloc (.cells (s4 fun j => f j + g j).toArray 26)
      have c5 := k5.cell
      have d5 := m5.cell
      have e5 := n5.cell
      have f5 := o5.cell
      clear c3 d3 k3 m3 n3 y3 x4
      go_wp2_with fail
      refine (iSurdAdd_any g f _).mono ?_
      rintro e w6 ⟨rfl, x6⟩
      rw [H2.out]; dsimp only [tupSB]
      have k7 := (k5.keep x6).alloc (.cells (s4 fun j => f j + g j).toArray 26)
      have m7 := (m5.keep x6).alloc (.cells (s4 fun j => f j + g j).toArray 26)
      have n7 := (n5.keep x6).alloc (.cells (s4 fun j => f j + g j).toArray 26)
      have o7 := Blk.new w6 (s4 fun j => f j + g j) 26
      have y7 := (y5.trans x6).alloc (.cells (s4 fun j => f j + g j).toArray 26)
      have c7 := k7.cell
      have e7 := n7.cell
      clear c5 d5 e5 f5 k5 m5 n5 o5 y5 x6
      go_wp2_with fail
      refine (iSurdCompare_any (fun j => f j + g j) f _).mono ?_
      rintro e w8 ⟨rfl, x8⟩
      rw [H3.out]; dsimp only [tupIB]
      have m8 := m7.keep x8
      have n8 := n7.keep x8
      have o8 := o7.keep x8
      have y8 := y7.trans x8
      have d8 := m8.cell
      clear c7 e7 k7 m7 n7 o7 y7 x8
      go_wp2_with fail
      refine (iSurdSign_any g _).mono ?_
      rintro e w9 ⟨rfl, x9⟩
      rw [H4.out]; dsimp only [tupIB]
      have e9 := (n8.keep x9).cell
      have f9 := (o8.keep x9).cell
      have y9 := y8.trans x9
      clear d8 m8 n8 o8 y8 x9
      go_wp2
      go_ret; exact ⟨rfl, y9⟩
    · have hv' : (sOk f && sOk g && sOk (fun j => f j + g j)) = false := by simpa using hv
      have H1 := Lib.hid (show saddM f g = (fun _ => 0, false) from by
        cases h1 : sOk f <;> cases h2 : sOk g <;> cases h3 : sOk (fun j => f j + g j) <;> simp_all [saddM, doneS])
      clear hv hv'
      have eqs := eqS (fun _ => 0) (fun _ => 0)
      have eqt := eqF4_self (fun _ => 0)
      rw [H1.out]; dsimp only [tupSB]
      have c2 := (k2.alloc (.cells (s4 fun _ => 0).toArray 26)).cell
      have d2 := (m2.alloc (.cells (s4 fun _ => 0).toArray 26)).cell
      have n2 := Blk.new w2 (s4 fun _ => 0) 26
      have y3 := y2.alloc (.cells (s4 fun _ => 0).toArray 26)
      clear k2 m2 y2
      go_wp2_with fail
      refine (sSurdAdd_any f g _).mono ?_
      rintro e w4 ⟨rfl, x4⟩
      rw [H1.out]; dsimp only [tupSB]
      have n5 := (n2.keep x4).alloc (.cells (s4 fun _ => 0).toArray 26)
      have o5 := Blk.new w4 (s4 fun _ => 0) 26
      have y5 := (y3.trans x4).alloc (.cells (s4 fun _ => 0).toArray 26)
      have e5 := n5.cell
      have f5 := o5.cell
      clear c2 d2 n2 y3 x4 n5 o5
      go_wp2
      go_ret; exact ⟨rfl, y5⟩

end Go.Proofs.Ythgmgjjjgllbjaa
