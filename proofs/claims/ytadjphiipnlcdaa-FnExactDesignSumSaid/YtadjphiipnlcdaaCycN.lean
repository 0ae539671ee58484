/- l91Cyc: as in CycD, and the reader's bytes stay below block N. Written by mk_cycn.py. -/
import Derived.Test.YtadjphiipnlcdaaCycD
namespace Go.Proofs.Ytadjphiipnlcdaa
open Go.ChangeShapes Go.WideShapes Go.ChangeAt Go.RowKit
set_option linter.unusedVariables false
set_option maxRecDepth 100000

def DrawnCycN (N R p : Nat) (w : World) (e : Ending) (w' : World) : Prop :=
  ∃ f : Nat → Int, e = .returned (cycV f) ∧ Coef 1000001 f ∧ (∃ q, p ≤ q ∧ q ≤ p + 12 ∧ RdN N w' R q) ∧ ExtB R w w'
theorem drawnCN_end {N : Nat} {f : Nat → Int} {R p q : Nat} {w w1 w3 : World} (hN : N ≤ w.heap.size) (hb : Coef 1000001 f) (k : RdN N w1 R q) (z : ExtB w.heap.size w1 w3) (x : ExtB R w w1) (hR : R < w.heap.size) (h1 : p ≤ q) (h2 : q ≤ p + 12) :
    DrawnCycN N R p w (.returned (cycV f)) w3 :=
  ⟨f, rfl, hb, ⟨q, h1, h2, k.keepB z hN (by omega)⟩, x.upC z (Nat.le_refl _)⟩
set_option maxHeartbeats 4000000 in
theorem l91CycN_any (N p R : Nat) (w : World) (hp : p ≤ 900000) (hN : N ≤ w.heap.size) (h : RdN N w R p) : Calls Try.prog 64 #[.pointer (some ⟨R, 0, none⟩)] w (DrawnCycN N R p w) := by
  have hRw := h.lt
  have x0 : ExtB R w ((w.alloc (.cells (cyc8 fun _ => 0).toArray 39)).alloc (.cells (cyc8 fun _ => 0).toArray 39)) := (((Ext.refl w).alloc _).alloc _).toB R
  have k0 := h.keep (((Ext.refl w).alloc (.cells (cyc8 fun _ => 0).toArray 39)).alloc (.cells (cyc8 fun _ => 0).toArray 39)) hN
  have r0 := (Blk.new w (cyc8 fun _ => 0) 39).alloc (.cells (cyc8 fun _ => 0).toArray 39)
  have s0 := Blk.new1 w (.cells (cyc8 fun _ => 0).toArray 39) (cyc8 fun _ => 0) 39
  go_enter Try.func64, Try.ntmps64
  go_wp2_with fail
  refine (pick_N N 8 p R _ (by omega) (by omega) (by omega) k0).mono ?_
  rintro e w1 ⟨v, v1, v2, rfl, k1, x1⟩
  have r1 := r0.keepB x1 (by omega)
  have s1 := s0.keepB x1 (by omega)
  have y1 := x0.trans x1
  clear x0 k0 r0 s0 x1
  by_cases h0 : v = 0
  · subst h0
    go_wp2_with fail
    refine (pick_N N 24 (p + 1) R _ (by omega) (by omega) (by omega) k1).mono ?_
    rintro e w2 ⟨u, u1, u2, rfl, k2, x2⟩
    have r2 := r1.keepB x2 (by omega)
    have y2 := y1.trans x2
    have hlt := r2.lt
    clear r1 s1 k1 y1 x2
    obtain ⟨n, rfl⟩ : ∃ n : Nat, u = (n : Int) := ⟨u.toNat, by omega⟩
    have H := Lib.hid (show rootM (n : Int) = (rootF n, true) from by simp [rootM, inR_true u1 (show (n : Int) ≤ 23 by omega)])
    go_wp2_with fail
    refine (sCycRoot_any (n : Int) _).mono ?_
    rintro e w3 ⟨rfl, x3⟩
    rw [H.out]; dsimp only [tupCB]
    have z3 : Ext w2 (w3.alloc (.cells (cyc8 (rootF n)).toArray 39)) := x3.alloc _
    have k3 := k2.keep z3 (by omega)
    have r3 := r2.keep z3
    have t3 := Blk.new w3 (cyc8 (rootF n)) 39
    have y3 := y2.trans (z3.toB R)
    have c3 := t3.cell
    clear r2 k2 y2 x3 z3
    go_wp2_with (refine store_cyc infoCyc (x := .tmp 2) (y := .tmp 18) w.heap.size (rootF n) _ rfl rfl r3 rfl ?_)
    intro w4 k4 z4
    have c4 := k4.cell
    have D := drawnCN_end hN (f := rootF n) (p := p) (fun j hj => by have := rootF_bd n (by omega) j hj; omega) k3 z4 y3 hRw (by omega) (by omega)
    clear z4 r3 k4 k3 y3 c3 t3
    go_wp2
    exact bodyPost_ret (v := cycV (rootF n)) (by simp [results, Try.results64, go_sem, c4]) rfl D
  by_cases h1 : v = 1
  · subst h1
    clear h0
    go_wp2_with fail
    refine (pick_N N 9 (p + 1) R _ (by omega) (by omega) (by omega) k1).mono ?_
    rintro e w2 ⟨u, u1, u2, rfl, k2, x2⟩
    have r2 := r1.keepB x2 (by omega)
    have y2 := y1.trans x2
    clear r1 s1 k1 y1 x2
    go_wp2_with fail
    refine (pick_N N 9 (p + 1 + 1) R _ (by omega) (by omega) (by omega) k2).mono ?_
    rintro e w3 ⟨t, t1, t2, rfl, k3, x3⟩
    have r3 := r2.keepB x3 (by omega)
    have y3 := y2.trans x3
    have hlt := r3.lt
    clear r2 k2 y2 x3
    go_wp2_with fail
    refine (l2Gauss_any (u - 4) (t - 4) _).mono ?_
    rintro e w4 ⟨rfl, x4⟩
    have k4 := k3.keep x4 (by omega)
    have r4 := r3.keep x4
    have y4 := y3.trans (x4.toB R)
    clear r3 k3 y3 x4
    go_wp2_with (refine store_cyc infoCyc (x := .tmp 2) (y := .tmp 27) w.heap.size (gaussF (u - 4) (t - 4)) _ rfl rfl r4 rfl ?_)
    intro w5 k5 z5
    have c5 := k5.cell
    have D := drawnCN_end hN (f := gaussF (u - 4) (t - 4)) (p := p) (fun j hj => by unfold gaussF; split <;> (try split) <;> omega) k4 z5 y4 hRw (by omega) (by omega)
    clear z5 r4 k5 k4 y4
    go_wp2
    exact bodyPost_ret (v := cycV (gaussF (u - 4) (t - 4))) (by simp [results, Try.results64, go_sem, c5]) rfl D
  by_cases h2 : v = 2
  · subst h2
    clear h0 h1
    have c1 := s1.cell
    go_wp2_with (refine store_cyc infoCyc (x := .tmp 2) (y := .tmp 30) w.heap.size (fun _ => 0) _ rfl rfl r1 rfl ?_)
    intro w5 k5 z5
    have c5 := k5.cell
    have D := drawnCN_end hN (f := fun _ => 0) (p := p) (fun j hj => by show (-1000001 : Int) ≤ 0 ∧ (0 : Int) ≤ 1000001; omega) k1 z5 y1 hRw (by omega) (by omega)
    clear z5 r1 k5 k1 y1 c1
    go_wp2
    exact bodyPost_ret (v := cycV fun _ => 0) (by simp [results, Try.results64, go_sem, c5]) rfl D
  have g0 : (v == 0) = false := by simpa using h0
  have g1 : (v == 1) = false := by simpa using h1
  have g2 : (v == 2) = false := by simpa using h2
  clear h0 h1 h2
  go_wp2_with fail
  refine (pick_N N 3 (p + 1) R _ (by omega) (by omega) (by omega) k1).mono ?_
  rintro e w2 ⟨u, u1, u2, rfl, k2, x2⟩
  have r2 := r1.keepB x2 (by omega)
  have s2 := s1.keepB x2 (by omega)
  have y2 := y1.trans x2
  clear r1 s1 k1 y1 x2
  obtain ⟨n, hn⟩ : ∃ n : Nat, n = (1 + u).toNat := ⟨_, rfl⟩
  have hn3 : n ≤ 3 := by omega
  have hun : 1 + u = (n : Int) := by omega
  have Hn := Lib.hid hun
  clear hun hn
  go_wp2
  rw [Hn.out]
  clear Hn u1 u2
  go_loopw [7] (fun i wr => ∃ (k q : Nat) (f : Nat → Int), k ≤ n ∧ i = .int .i64 (k : Int) ∧ p ≤ q ∧ q ≤ p + 2 + 2 * k ∧ RdN N wr R q ∧ Blk wr w.heap.size (cyc8 fun _ => 0) ∧ Blk wr (w.heap.size + 1) (cyc8 f) ∧ Coef 4 f ∧ ExtB R w wr) (fun i _ => n - (intOf i).toNat)
  case atStart => exact ⟨0, p + 1 + 1, fun _ => 0, by omega, rfl, by omega, by omega, k2, r2, s2, fun j hj => by show (-4 : Int) ≤ 0 ∧ (0 : Int) ≤ 4; omega, y2⟩
  case round =>
    obtain ⟨k, q, f, hk, rfl, q1, q2, kr, rr, sr, hf, yr⟩ := hrel
    clear k2 r2 s2 y2
    by_cases hlt : k < n
    · go_wp2_with fail
      refine (pick_N N 8 q R _ (by omega) (by omega) (by omega) kr).mono ?_
      rintro e w3 ⟨i, i1, i2, rfl, k3, x3⟩
      have r3 := rr.keepB x3 (by omega)
      have s3 := sr.keepB x3 (by omega)
      have y3 := yr.trans x3
      clear kr rr sr yr x3
      obtain ⟨m, rfl⟩ : ∃ m : Nat, i = (m : Int) := ⟨i.toNat, by omega⟩
      have m8 : m < 8 := by omega
      go_wp2_with fail
      refine (pick_N N 9 (q + 1) R _ (by omega) (by omega) (by omega) k3).mono ?_
      rintro e w4 ⟨x, xx1, xx2, rfl, k4, x4⟩
      have r4 := r3.keepB x4 (by omega)
      have s4' := s3.keepB x4 (by omega)
      have y4 := y3.trans x4
      clear k3 r3 s3 y3 x4
      have hcell : w4.cell? ⟨w.heap.size + 1, m, none⟩ = some (.int .i64 (f m)) := by rw [s4'.cell, cyc8At f m m8]
      have hfree := s4'.free m
      go_wp2_with fail
      have z5 := (ExtB.refl (w.heap.size + 1) w4).set (p := ⟨w.heap.size + 1, m, none⟩) (.inl rfl) (.int .i64 (x - 4))
      have s5 := s4'.set8 m8 (x - 4)
      have r5 := r4.keepB z5 (by omega)
      have k5 := k4.keepB z5 (by omega) (by omega)
      have y5 := y4.upC z5 (by omega)
      have f5 := hf.set m (u := x - 4) (by omega)
      clear hcell hfree z5 k4 r4 s4' y4 hf
      go_roundw
      case rel => exact ⟨k + 1, q + 1 + 1, _, by omega, by go_num, by omega, by omega, k5, r5, s5, f5, y5⟩
      case measure => simp [intOf]; omega
    · go_wp2_with fail
      refine (pick_N N 30 q R _ (by omega) (by omega) (by omega) kr).mono ?_
      rintro e w3 ⟨i, i1, i2, rfl, k3, x3⟩
      have r3 := rr.keepB x3 (by omega)
      have s3 := sr.keepB x3 (by omega)
      have y3 := yr.trans x3
      clear kr rr sr yr x3
      have c3 := s3.cell
      have fr := s3.free
      by_cases j0 : i = 0
      · subst j0
        have s5 := s3.set8 (k := 0) (by omega) 1000001
        have z5 := (ExtB.refl (w.heap.size + 1) w3).set (p := ⟨w.heap.size + 1, 0, none⟩) (.inl rfl) (.int .i64 1000001)
        have r5 := r3.keepB z5 (by omega)
        have k5 := k3.keepB z5 (by omega) (by omega)
        have y5 := y3.upC z5 (by omega)
        have c5 := s5.cell
        have f5 := (hf.mono (show (4 : Int) ≤ 1000001 by omega)).set 0 (u := 1000001) (by omega)
        clear s5 z5 s3 r3 k3 y3 hf
        go_wp2_with (refine store_cyc infoCyc (x := .tmp 2) (y := .tmp 56) w.heap.size (setF f 0 1000001) _ rfl rfl r5 rfl ?_)
        intro w6 k6 z6
        have c6 := k6.cell
        have D := drawnCN_end hN (f := setF f 0 1000001) (p := p) f5 k5 z6 y5 hRw (by omega) (by omega)
        clear z6 r5 k6 k5 y5 c5 c3 fr
        go_wp2
        exact bodyPost_ret (v := cycV (setF f 0 1000001)) (by simp [results, Try.results64, go_sem, c6]) rfl D
      by_cases j1 : i = 1
      · subst j1
        clear j0
        have s5 := s3.set8 (k := 7) (by omega) 1000000
        have z5 := (ExtB.refl (w.heap.size + 1) w3).set (p := ⟨w.heap.size + 1, 7, none⟩) (.inl rfl) (.int .i64 1000000)
        have r5 := r3.keepB z5 (by omega)
        have k5 := k3.keepB z5 (by omega) (by omega)
        have y5 := y3.upC z5 (by omega)
        have c5 := s5.cell
        have f5 := (hf.mono (show (4 : Int) ≤ 1000001 by omega)).set 7 (u := 1000000) (by omega)
        clear s5 z5 s3 r3 k3 y3 hf
        go_wp2_with (refine store_cyc infoCyc (x := .tmp 2) (y := .tmp 56) w.heap.size (setF f 7 1000000) _ rfl rfl r5 rfl ?_)
        intro w6 k6 z6
        have c6 := k6.cell
        have D := drawnCN_end hN (f := setF f 7 1000000) (p := p) f5 k5 z6 y5 hRw (by omega) (by omega)
        clear z6 r5 k6 k5 y5 c5 c3 fr
        go_wp2
        exact bodyPost_ret (v := cycV (setF f 7 1000000)) (by simp [results, Try.results64, go_sem, c6]) rfl D
      have e0 : (i == 0) = false := by simpa using j0
      have e1 : (i == 1) = false := by simpa using j1
      have f5 := hf.mono (show (4 : Int) ≤ 1000001 by omega)
      clear j0 j1 s3 hf fr
      go_wp2_with (refine store_cyc infoCyc (x := .tmp 2) (y := .tmp 56) w.heap.size f _ rfl rfl r3 rfl ?_)
      intro w6 k6 z6
      have c6 := k6.cell
      have D := drawnCN_end hN (f := f) (p := p) f5 k3 z6 y3 hRw (by omega) (by omega)
      clear z6 r3 k6 k3 y3 c3
      go_wp2
      exact bodyPost_ret (v := cycV f) (by simp [results, Try.results64, go_sem, c6]) rfl D

end Go.Proofs.Ytadjphiipnlcdaa
