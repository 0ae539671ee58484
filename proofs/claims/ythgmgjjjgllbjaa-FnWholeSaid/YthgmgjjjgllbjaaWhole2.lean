/- Whole parts of surds (chapter 3): impl's walk, and the exact law. -/
import Derived.Test.YthgmgjjjgllbjaaWhole
import Derived.Test.YthgmgjjjgllbjaaExt
import Derived.Test.YthgmgjjjgllbjaaFltS
import Derived.Deep.RegionHeld3
import Derived.Deep.DeepCutAuto
namespace Go.Proofs.Ythgmgjjjgllbjaa
open Go.ChangeShapes Go.WideShapes Go.ChangeAt Go.RowKit
set_option linter.unusedVariables false

theorem msqrt_any (x r : Nat) (h : FloatKind.f64.format.sqrt x = some r) (w : World) : Calls Try.prog 41 #[.float .f64 x] w fun e w' => e = .returned (.float .f64 r) ∧ w = w' := by
  have hs := sqrt_run x r h
  clear h
  go_enter Try.func41, Try.ntmps41
  go_wp2
  go_ret; exact ⟨rfl, rfl⟩

theorem mfloor_any (x y : Nat) {s : Bool} {m : Nat} {p : Int} (h1 : FloatKind.f64.decode x = .number s m p) (h2 : FloatKind.f64.encode ((Ieee.Datum.number s m p).integral .down) = y) (w : World) : Calls Try.prog 40 #[.float .f64 x] w fun e w' => e = .returned (.float .f64 y) ∧ w = w' := by
  have hs := floor_run x y h1 h2
  clear h1 h2
  go_enter Try.func40, Try.ntmps40
  go_wp2
  go_ret; exact ⟨rfl, rfl⟩

set_option maxRecDepth 100000 in
set_option maxHeartbeats 4000000 in
theorem iSurdWhole_any (f : Nat → Int) (w : World) : Calls Try.prog 26 #[sfV f] w (Wholes f w) := by
  have j0 := Blk.new w (s4 f) 26
  have x0 : Ext w (w.alloc (.cells (s4 f).toArray 26)) := by repeat (first | exact Ext.refl _ | assumption | refine Ext.drew ?_ | refine Ext.alloc ?_ _ | refine Ext.trans ?_ (by assumption))
  by_cases hf : sOk f = true
  · have hb := sOk_bd hf
    have BF := Lib.hid hb
    obtain ⟨h1, h2, h3, h4, h5, h6, h7, h8⟩ := fsum_ok hb
    obtain ⟨s, m, p, y, z, g1, g2, g3, g4⟩ := floor_ok h8 (by omega)
    have a1 : ∀ t w, (binOp .mul t (.float .f64 (floatOfInt .f64 (f 1))) (.float .f64 4609047870845172685)).run Try.prog w = .ok (.float .f64 (fm1 f)) w := fun t w => run_float_arith w .mul t .f64 _ _ _ h1
    have a2 : ∀ t w, (binOp .add t (.float .f64 (floatOfInt .f64 (f 0))) (.float .f64 (fm1 f))).run Try.prog w = .ok (.float .f64 (fs1 f)) w := fun t w => run_float_arith w .add t .f64 _ _ _ h2
    have a3 : ∀ t w, (binOp .mul t (.float .f64 (floatOfInt .f64 (f 2))) (.float .f64 4610479282544200874)).run Try.prog w = .ok (.float .f64 (fm2 f)) w := fun t w => run_float_arith w .mul t .f64 _ _ _ h3
    have a4 : ∀ t w, (binOp .add t (.float .f64 (fs1 f)) (.float .f64 (fm2 f))).run Try.prog w = .ok (.float .f64 (fs2 f)) w := fun t w => run_float_arith w .add t .f64 _ _ _ h4
    have a5 : ∀ t w, (binOp .mul t (.float .f64 (floatOfInt .f64 (f 3))) (.float .f64 4612698179346440494)).run Try.prog w = .ok (.float .f64 (fm3 f)) w := fun t w => run_float_arith w .mul t .f64 _ _ _ h5
    have a6 : ∀ t w, (binOp .add t (.float .f64 (fs2 f)) (.float .f64 (fm3 f))).run Try.prog w = .ok (.float .f64 (fs3 f)) w := fun t w => run_float_arith w .add t .f64 _ _ _ h6
    have a7 : ∀ t w, (binOp .quo t (.float .f64 (fs3 f)) (.float .f64 4616189618054758400)).run Try.prog w = .ok (.float .f64 (fq f)) w := fun t w => run_float_arith w .quo t .f64 _ _ _ h7
    have a8 : ∀ w, (convert 39 3 (.float .f64 y)).run Try.prog w = .ok (.int .i64 z) w := fun w => run_convert_float_int w _ _ .f64 .i64 y z (by rw [Try.underlying39]; rfl) Try.underlying3 g3
    have hmf : ∀ (fn : Fn) (first cap : Array Value) (w : World), (Instr.makeFunc fn first cap).run Try.prog w = .ok (.func fn first cap) w := fun _ _ _ _ => rfl
    have G1 := Lib.hid g1
    have G2 := Lib.hid g2
    have z1 : -268435456 ≤ z ∧ z ≤ 268435456 := by omega
    clear h1 h2 h3 h4 h5 h6 h7 h8 g1 g2 g3 g4 hb
    go_enter Try.func26, Try.ntmps26
    go_wp2_with fail
    refine (svalidF_any _ _).mono ?_
    rintro e w1 ⟨rfl, x1⟩
    have j1 := j0.keep x1
    have y1 := x0.trans x1
    clear j0 x0 x1
    go_upto_region 3 with fail
    have z0 : Ext w1 w1.drew := (Ext.refl w1).drew
    have c0 := (j1.keep z0).cell
    go_cut [4] (fun s4 wx => s4 = .int .i64 z ∧ Ext w1 wx)
    case first =>
      go_region_held3 (fun w' => Ext w1 w' ∧ (∀ o, w'.cell? ⟨w.heap.size, o, none⟩ = (s4 f)[o]?))
        ((with_reducible refine (fun hx => ⟨hx, (j1.keep hx).cell⟩ : Ext w1 _ → _) ?_; repeat (first | with_reducible assumption | with_reducible exact Ext.refl _ | with_reducible refine Ext.drew ?_)))
        (first
        | (go_at_call 41; ((with_reducible refine (msqrt_any _ _ sqrt3 _).mono ?_); rintro e w' ⟨rfl, rfl⟩))
        | (go_at_call 41; ((with_reducible refine (msqrt_any _ _ sqrt6 _).mono ?_); rintro e w' ⟨rfl, rfl⟩))
        | (go_at_call 40; ((with_reducible refine (mfloor_any _ _ G1.out G2.out _).mono ?_); rintro e w' ⟨rfl, rfl⟩)))
      all_goals (go_wp2_with fail; go_meet; exact ⟨rfl, by repeat (first | assumption | exact Ext.refl _ | refine Ext.drew ?_)⟩)
    case rest =>
    obtain ⟨rfl, x3⟩ := hcut
    have j3 := j1.keep x3
    have y3 := y1.trans x3
    clear z0 c0 j1 y1 x3 a1 a2 a3 a4 a5 a6 a7 a8 G1 G2
    go_wp2
    go_loopw [4] (fun a wr => ∃ n : Int, a = .int .i64 n ∧ -268435456 ≤ n ∧ n ≤ 268435456 ∧ Blk wr w.heap.size (s4 f) ∧ Ext w wr) (fun a _ => (intOf a + 300000000).toNat)
    case atStart => exact ⟨z, rfl, z1.1, z1.2, j3, y3⟩
    case round =>
      obtain ⟨n, rfl, n1, n2, jr, yr⟩ := hrel
      clear j3 y3 z1
      by_cases hl : LessF f n
      · have hs : sg3 (f 0 - 4 * n) (f 1) (f 2) (f 3) = -1 := hl
        have nlo : -20000000 < n := by
          by_cases c : -20000000 < n
          · exact c
          · exact absurd (hl.mono (show n ≤ -20000000 by omega)) (less_lo BF.out)
        clear hl
        go_wp2_with (go_at_call 42; ((with_reducible refine (less_call f n BF.out ⟨n1, n2⟩ _ _ jr).mono ?_); rintro e w4 ⟨rfl, x4⟩))
        clear hs
        go_roundw
        case rel => exact ⟨n - 1, rfl, by omega, by omega, jr.keep x4, yr.trans x4⟩
        case measure => simp [intOf]; omega
      · have hs := notLess hl
        have HL := Lib.hid hl
        clear hl
        go_wp2_with (go_at_call 42; ((with_reducible refine (less_call f n BF.out ⟨n1, n2⟩ _ _ jr).mono ?_); rintro e w4 ⟨rfl, x4⟩))
        have jr4 := jr.keep x4
        have yr4 := yr.trans x4
        have nhi : n < 20000000 := by
          by_cases c : n < 20000000
          · exact c
          · exact absurd ((less_hi BF.out).mono (show (20000000 : Int) ≤ n by omega)) HL.out
        have N0 := Lib.hid (show ¬ LessF f n ∧ -268435456 ≤ n ∧ n < 20000000 from ⟨HL.out, n1, nhi⟩)
        clear hs HL jr yr x4 n1 n2 nhi
        go_loopw [4] (fun a wr => ∃ k : Int, a = .int .i64 k ∧ -268435456 ≤ k ∧ k < 20000000 ∧ ¬ LessF f k ∧ Blk wr w.heap.size (s4 f) ∧ Ext w wr) (fun a _ => (300000000 - intOf a).toNat)
        case atStart => exact ⟨n, rfl, N0.out.2.1, N0.out.2.2, N0.out.1, jr4, yr4⟩
        case round =>
          obtain ⟨k, rfl, k1, k2, nk, jk, yk⟩ := hrel
          clear jr4 yr4 N0
          have NK := Lib.hid nk
          clear nk
          by_cases hl : LessF f (k + 1)
          · have hs : sg3 (f 0 - 4 * (k + 1)) (f 1) (f 2) (f 3) = -1 := hl
            have HL := Lib.hid hl
            clear hl
            have klo : -20000000 ≤ k := by
              by_cases c : -20000000 ≤ k
              · exact c
              · exact absurd (HL.out.mono (show k + 1 ≤ -20000000 by omega)) (less_lo BF.out)
            go_wp2_with (go_at_call 42; ((with_reducible refine (less_call f (k + 1) BF.out ⟨by omega, by omega⟩ _ _ jk).mono ?_); rintro e w5 ⟨rfl, x5⟩))
            have W : Wholes f w (.returned (tupIB (k, true))) w5 := .inl ⟨hf, k, ⟨NK.out, HL.out⟩, klo, k2, rfl, yk.trans x5⟩
            clear hs x5 yk jk
            go_ret2
            exact W
          · have hs : decide (sg3 (f 0 - 4 * (k + 1)) (f 1) (f 2) (f 3) < 0) = false := by have := notLess hl; simp; omega
            have HL := Lib.hid hl
            clear hl
            go_wp2_with (go_at_call 42; ((with_reducible refine (less_call f (k + 1) BF.out ⟨by omega, by omega⟩ _ _ jk).mono ?_); rintro e w5 ⟨rfl, x5⟩))
            have khi : k + 1 < 20000000 := by
              by_cases c : k + 1 < 20000000
              · exact c
              · exact absurd ((less_hi BF.out).mono (show (20000000 : Int) ≤ k + 1 by omega)) HL.out
            clear hs
            go_roundw
            case rel => exact ⟨k + 1, rfl, by omega, khi, HL.out, jk.keep x5, yk.trans x5⟩
            case measure => simp [intOf]; omega
  · have hf' : sOk f = false := by simpa using hf
    clear hf
    go_enter Try.func26, Try.ntmps26
    go_wp2_with fail
    refine (svalidF_any _ _).mono ?_
    rintro e w1 ⟨rfl, x1⟩
    have W : Wholes f w (.returned (tupIB (0, false))) w1 := .inr ⟨hf', rfl, x0.trans x1⟩
    clear j0 x0 x1
    go_wp2
    go_ret2
    exact W

/-- what SurdWhole answers, as one number and a truth -/
theorem Wholes.one {f : Nat → Int} {w w' : World} {e : Ending} (h : Wholes f w e w') : ∃ p : Int × Bool, e = .returned (tupIB p) ∧ Ext w w' ∧ ((sOk f = true ∧ p.2 = true ∧ IsWhole f p.1 ∧ -20000000 ≤ p.1 ∧ p.1 < 20000000) ∨ (sOk f = false ∧ p = (0, false))) := by
  rcases h with ⟨h1, n, h2, h3, h4, rfl, h5⟩ | ⟨h1, rfl, h2⟩
  · exact ⟨_, rfl, h5, .inl ⟨h1, rfl, h2, h3, h4⟩⟩
  · exact ⟨_, rfl, h2, .inr ⟨h1, rfl⟩⟩
theorem whole_same {f : Nat → Int} {p q : Int × Bool} (h : (sOk f = true ∧ p.2 = true ∧ IsWhole f p.1 ∧ -20000000 ≤ p.1 ∧ p.1 < 20000000) ∨ (sOk f = false ∧ p = (0, false)))
    (k : (sOk f = true ∧ q.2 = true ∧ IsWhole f q.1 ∧ -20000000 ≤ q.1 ∧ q.1 < 20000000) ∨ (sOk f = false ∧ q = (0, false))) : p = q := by
  rcases h with ⟨h1, h2, h3, _⟩ | ⟨h1, rfl⟩
  · rcases k with ⟨k1, k2, k3, _⟩ | ⟨k1, rfl⟩
    · have := h3.uniq k3
      cases p; cases q; simp_all
    · rw [h1] at k1; cases k1
  · rcases k with ⟨k1, k2, k3, _⟩ | ⟨k1, rfl⟩
    · rw [h1] at k1; cases k1
    · rfl

set_option maxHeartbeats 1000000 in
theorem lSurdWholeF (f : Nat → Int) (w : World) : Calls Try.prog 9 #[sfV f] w fun e w' => e = .returned (.bool true) ∧ Ext w w' := by
  have j0 := Blk.new w (s4 f) 23
  have x0 : Ext w (w.alloc (.cells (s4 f).toArray 23)) := by repeat (first | exact Ext.refl _ | assumption | refine Ext.drew ?_ | refine Ext.alloc ?_ _ | refine Ext.trans ?_ (by assumption))
  go_enter Try.func9, Try.ntmps9
  go_wp2_with fail
  refine (toSurdF_any f _).mono ?_
  rintro e w1 ⟨rfl, x1⟩
  have j1 := j0.keep x1
  have y1 := x0.trans x1
  clear j0 x0 x1
  go_wp2_with fail
  refine (sSurdWhole_any f _).mono ?_
  intro e w2 hw
  obtain ⟨p, rfl, x2, hp⟩ := hw.one
  have HP := Lib.hid hp
  dsimp only [tupIB]
  have c2 := (j1.keep x2).cell
  have y2 := y1.trans x2
  clear j1 y1 x2 hw hp
  go_wp2_with fail
  refine (toSurdF_any f _).mono ?_
  rintro e w4 ⟨rfl, x4⟩
  have y4 := y2.trans x4
  clear c2 y2 x4
  go_wp2_with fail
  refine (iSurdWhole_any f _).mono ?_
  intro e w5 hw
  obtain ⟨q, rfl, x5, hq⟩ := hw.one
  obtain rfl := whole_same HP.out hq
  dsimp only [tupIB]
  clear hq HP hw
  go_wp2
  go_ret
  exact ⟨rfl, y4.trans x5⟩

theorem lSurdWhole (a b c d : Int) (w : World) (_ : (Lit.int .i64 a).wf = true) (_ : (Lit.int .i64 b).wf = true) (_ : (Lit.int .i64 c).wf = true) (_ : (Lit.int .i64 d).wf = true) :
    Calls Try.prog 9 #[surdV a b c d] w fun e w' => e = .returned (.bool true) ∧ Ext w w' := lSurdWholeF (fn4 a b c d) w

end Go.Proofs.Ythgmgjjjgllbjaa
