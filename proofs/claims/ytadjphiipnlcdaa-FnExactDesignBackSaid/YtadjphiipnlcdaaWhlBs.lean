/- Wheels: spec.l5Each at DesignBack's arguments; spec.DesignBack. -/
import Derived.Test.YtadjphiipnlcdaaWhlBk
import Derived.Test.YtadjphiipnlcdaaWhlG
import Derived.Test.YtadjphiipnlcdaaWhlV
import Derived.Deep.AppendLies
import Derived.Deep.RegionHeld3
namespace Go.Proofs.Ytadjphiipnlcdaa
open Go.ChangeShapes Go.WideShapes Go.ChangeAt Go.RowKit
set_option linter.unusedVariables false
set_option maxRecDepth 100000


theorem l1Mod0 (w : World) : Calls Try.prog 61 #[.int .i64 0] w fun e w' => e = .returned (.int .i64 0) ∧ w = w' := by
  have h := l1Mod_any 0 w
  have e : modT 0 = 0 := by decide
  rwa [e] at h
set_option maxHeartbeats 1000000 in
theorem l2Turned0 (f : Nat → Int) (w : World) : Calls Try.prog 60 #[cycV f, .int .i64 0] w fun e w' => e = .returned (cycV f) ∧ Ext w w' := by
  have k0 := (Blk.new w (cyc8 f) 39).alloc (.cells (cyc8 fun _ => 0).toArray 39)
  have k1 := Blk.new1 w (.cells (cyc8 f).toArray 39) (cyc8 fun _ => 0) 39
  have x0 : Ext w ((w.alloc (.cells (cyc8 f).toArray 39)).alloc (.cells (cyc8 fun _ => 0).toArray 39)) := by repeat (first | exact Ext.refl _ | assumption | refine Ext.drew ?_ | refine Ext.alloc ?_ _ | refine Ext.trans ?_ (by assumption))
  go_enter Try.func60, Try.ntmps60
  go_wp2
  generalize World.alloc (World.alloc _ _) _ = W at *
  refine wp_loop_rounds 1 ?_; rw [rounds_succ]
  have c0 := k0.cell
  go_wp2_with (refine store_cyc infoCyc (x := .tmp 4) (y := .tmp 13) (w.heap.size + 1) f _ rfl rfl k1 rfl ?_)
  intro w2 q1 z2
  have y2 := z2.ext x0 (by omega)
  have c2 := q1.cell
  clear c0 z2
  go_wp2
  exact bodyPost_ret (v := cycV f) (by simp [results, Try.results60, go_sem, c2]) rfl ⟨rfl, y2⟩
theorem l2TurnedW (F : Nat → Int) (w : World) : Calls Try.prog 60 #[.agg #[.int .i64 (F 1), .int .i64 (F 2), .int .i64 (F 3), .int .i64 (F 4), .int .i64 (F 5), .int .i64 (F 6), .int .i64 (F 7), .int .i64 (F 8)], .int .i64 0] w
    fun e w' => e = .returned (.agg #[.int .i64 (F 1), .int .i64 (F 2), .int .i64 (F 3), .int .i64 (F 4), .int .i64 (F 5), .int .i64 (F 6), .int .i64 (F 7), .int .i64 (F 8)]) ∧ Ext w w' := l2Turned0 (tl F) w

set_option maxHeartbeats 4000000 in
theorem l5EachB (a : Option Addr) (N cap : Nat) (X : Nat → Nat → Int) (w : World) (hc : N ≤ cap) (hn : N ≤ 1048576) (h : Whs w a N X) :
    Calls Try.prog 32 #[.slice a N cap, .int .i64 (-1), .int .i64 0, .int .i64 0, .bool false] w (ResW (validM N X) (fun i => negF (X i)) N w) := by
  obtain ⟨i0, hi, hz0, hz1, hz2⟩ := info_partsW infoWhC
  go_enter Try.func32, Try.ntmps32
  go_wp2_with fail
  refine (sDesignValid_any a N cap X _ hc hn h).mono ?_
  rintro e w2 ⟨rfl, x2⟩
  have h2 := h.keep x2
  by_cases hv : validM N X = true
  · rw [hv]
    have V12 := validM_le hv
    have VY := Lib.hid (validM_cycN hv)
    have SP := Lib.hid (validM_speed hv)
    have hv' := hv
    clear hv
    have hin : inR 0 23 0 = true := by decide
    have hlit : OwnW (w2.alloc (.cells #[] 41)) w.heap.size (.slice (some ⟨w2.heap.size, 0, none⟩) 0 0) 0 (fun i => negF (X i)) := World.ownsRow_lit (w := w2) (base := w.heap.size) (e := 41) (size := 9) #[] 0 x2.size (by decide) rfl
    have x3 : Ext w (w2.alloc (.cells #[] 41)) := x2.alloc _
    go_wp2_with (first | (go_at_call 58; ((with_reducible refine (l1Is_any _ _).mono ?_); rintro e w' ⟨rfl, rfl⟩)) | fail)
    go_loopw [12, 13] (fun out i wr => ∃ k : Nat, k ≤ N ∧ i = .int .i64 (k : Int) ∧ OwnW wr w.heap.size out k (fun i => negF (X i)) ∧ Ext w wr) (fun _ i _ => N - (intOf i).toNat)
    case atStart => exact ⟨0, by omega, rfl, hlit, x3⟩
    case round =>
      obtain ⟨k, hk, rfl, ho, x5⟩ := hrel
      clear hlit x3
      have hw := h.keep x5
      by_cases hlt : k < N
      · rcases h with h | ⟨b, off, rfl, hb, hcell0⟩
        · omega
        · have hcell : ∀ c, c < 9 → wr.cell? ⟨b, off + k * 9 + c, none⟩ = some (.int .i64 (X k c)) := fun c h9 => (cell_of_heapW (Below.block x5 b hb)).trans (hcell0 k hlt c h9)
          have hb' : b < wr.heap.size := Nat.lt_of_lt_of_le hb x5.size
          obtain ⟨c0, c1, c2, c3, c4, c5, c6, c7, c8⟩ := cells8 hcell
          have sp := SP.out k hlt
          have ew : IntKind.i64.wrap (-X k 0) = -X k 0 := IntWalk.i64_in _ (by omega)
          have ez : IntKind.i64.wrap 0 = 0 := IntWalk.i64_in _ (by omega)
          have hbw := buildWhN (X k)
          have RO : ∀ g, u12.ownBlock = some g → w.heap.size ≤ g ∧ g < wr.heap.size := fun g hg => World.ownsRow.lt ho g hg
          clear hcell hcell0 h2 hw
          go_wp2_with fail
          have OWN0 : OwnW (wr.alloc (.cells #[.int .i64 (X k 1), .int .i64 (X k 2), .int .i64 (X k 3), .int .i64 (X k 4), .int .i64 (X k 5), .int .i64 (X k 6), .int .i64 (X k 7), .int .i64 (X k 8)] 39)) w.heap.size _ k (fun i => negF (X i)) := World.ownsRow.alloc ho _
          have kc : ∀ o, (wr.alloc (.cells #[.int .i64 (X k 1), .int .i64 (X k 2), .int .i64 (X k 3), .int .i64 (X k 4), .int .i64 (X k 5), .int .i64 (X k 6), .int .i64 (X k 7), .int .i64 (X k 8)] 39)).cell? ⟨wr.heap.size, o, none⟩ = [Value.int .i64 (X k 1), Value.int .i64 (X k 2), Value.int .i64 (X k 3), Value.int .i64 (X k 4), Value.int .i64 (X k 5), Value.int .i64 (X k 6), Value.int .i64 (X k 7), Value.int .i64 (X k 8)][o]? := (Blk.new wr [Value.int .i64 (X k 1), Value.int .i64 (X k 2), Value.int .i64 (X k 3), Value.int .i64 (X k 4), Value.int .i64 (X k 5), Value.int .i64 (X k 6), Value.int .i64 (X k 7), Value.int .i64 (X k 8)] 39).cell
          have c0' : (wr.alloc (.cells #[.int .i64 (X k 1), .int .i64 (X k 2), .int .i64 (X k 3), .int .i64 (X k 4), .int .i64 (X k 5), .int .i64 (X k 6), .int .i64 (X k 7), .int .i64 (X k 8)] 39)).cell? ⟨b, off + k * 9, none⟩ = some (.int .i64 (X k 0)) := (cell_of_heapW (Below.block ((Ext.refl wr).alloc _) b hb')).trans c0
          have hG : wr.heap.size < (wr.alloc (.cells #[.int .i64 (X k 1), .int .i64 (X k 2), .int .i64 (X k 3), .int .i64 (X k 4), .int .i64 (X k 5), .int .i64 (X k 6), .int .i64 (X k 7), .int .i64 (X k 8)] 39)).heap.size := by simp
          have hbW : b < (wr.alloc (.cells #[.int .i64 (X k 1), .int .i64 (X k 2), .int .i64 (X k 3), .int .i64 (X k 4), .int .i64 (X k 5), .int .i64 (X k 6), .int .i64 (X k 7), .int .i64 (X k 8)] 39)).heap.size := by omega
          have y5 : Ext w (wr.alloc (.cells #[.int .i64 (X k 1), .int .i64 (X k 2), .int .i64 (X k 3), .int .i64 (X k 4), .int .i64 (X k 5), .int .i64 (X k 6), .int .i64 (X k 7), .int .i64 (X k 8)] 39)) := x5.alloc _
          clear c0 c1 c2 c3 c4 c5 c6 c7 c8 ho x5 hb' x2
          generalize wr.heap.size = G0 at *
          generalize World.alloc wr _ = W at *
          go_region_held3 (fun w' => w'.cell? ⟨b, off + k * 9, none⟩ = some (.int .i64 (X k 0)) ∧ (∀ o, w'.cell? ⟨G0, o, none⟩ = [Value.int .i64 (X k 1), Value.int .i64 (X k 2), Value.int .i64 (X k 3), Value.int .i64 (X k 4), Value.int .i64 (X k 5), Value.int .i64 (X k 6), Value.int .i64 (X k 7), Value.int .i64 (X k 8)][o]?))
            (first | exact ⟨c0', kc⟩ | exact ⟨d0, kc3⟩ | exact ⟨e0, kc4⟩ | exact ⟨f0, kc5⟩)
            (first
            | (go_at_call 61; ((with_reducible refine (l1Mod0 _).mono ?_); rintro e w' ⟨rfl, rfl⟩))
            | (go_at_call 60; ((with_reducible refine (l2TurnedW (X k) _).mono ?_); rintro e w3 ⟨rfl, x3⟩; have z3 : Ext W w3 := ((Ext.refl W).drew).trans x3; clear x3; have d0 := (cell_of_heapW (o := off + k * 9) (Below.block z3 b hbW)).trans c0'; have kc3 := (fun o => (cell_of_heapW (o := o) (Below.block z3 G0 hG)).trans (kc o)); have s3 := z3.size; have z4 : Ext W (w3.alloc (.cells (wh9 (negF (X k))).toArray 41)) := z3.alloc _; have e0 := (cell_of_heapW (o := off + k * 9) (Below.block z4 b hbW)).trans c0'; have kc4 := (fun o => (cell_of_heapW (o := o) (Below.block z4 G0 hG)).trans (kc o)); have y3 := y5.trans z4; have OWN3 := OWN0.keep z4; have s4 := y5.size))
            | (refine step_append_lies _ rfl (.tmp 44) (.tmp 65) 25 rfl w.heap.size 41 i0 (whV fun _ => 0) 9 72 Try.underlying25 hi hz0 hz1 hz2 rfl (by decide) _ _ _ (by rfl) OWN3 ⟨w3.heap.size, 0, none⟩ 1 1 (wh9 (negF (X k))) (by rfl) rfl (newsB (Blk.new w3 (wh9 (negF (X k))) 41)) (one_wh9 _) (by decide) (by unfold maxLen; omega) (by omega) (by simp; omega) _ rfl ?_; intro g cap4 w4 hown hgrow hat hlt4; have f0 := (hgrow.cell_far ⟨b, off + k * 9, none⟩ (by simp; omega) (fun e => by have := RO b e.symm; omega)).trans e0; have kc5 := (fun o => (hgrow.cell_far ⟨G0, o, none⟩ (by simp; omega) (fun e => by have := RO G0 e.symm; omega)).trans (kc4 o))))
          have hbase : w.heap.size ≤ (w3.alloc (.cells (wh9 (negF (X k))).toArray 41)).heap.size := by simp; omega
          obtain ⟨q, hq, x8⟩ := grownW OWN3 hgrow hbase
          have y8 := x8.ext (z := w) y3 hq
          have o7 : OwnW w4 w.heap.size (.slice (some ⟨g, 0, none⟩) (k + 1) cap4) (k + 1) (fun i => negF (X i)) := by
            have : OwnW w4 w.heap.size (.slice (some ⟨g, 0, none⟩) (k + 1) cap4) (k + 1) (fun i => if i < k then negF (X i) else negF (X k)) := by
              unfold OwnW
              rw [← flat_app k 1 (fun i => negF (X i)) (fun _ => negF (X k)), ← flat_one]
              exact hown
            refine OwnW.congr this fun i hi c hc => ?_
            by_cases h1 : i < k
            · simp only [if_pos h1]
            · have h2 : i = k := by omega
              subst h2; simp only [if_neg h1]
          clear hown hgrow hat hlt4 f0 kc5 e0 kc4 d0 kc3 OWN3 OWN0 y3 y5 x8 z3 z4 c0' kc RO s3 s4 hbase hbw
          go_wp2
          go_roundw
          case rel => exact ⟨k + 1, by omega, by go_num, o7, y8⟩
          case measure => simp [intOf]; omega
      · have hk8 : k = N := by omega
        subst hk8
        clear hw h h2
        obtain ⟨ao, co, rfl, hco, hcm, hwo⟩ := ho.whs
        go_wp2_with fail
        refine (l5Tidy_any ao k co (fun i => negF (X i)) _ hco (by omega) hwo VY.out).mono ?_
        rintro e w4 ⟨v, ok, m, R, rfl, o4, tr, x6⟩
        have o5 := (o4.mono x5.size).ownC.own
        have y6 := x5.trans x6
        have TRK := Lib.hid tr
        have V := Lib.hid hv'
        clear x5 x6 hwo ho o4 tr hv'
        go_wp2
        go_ret2
        exact ⟨v, ok, m, R, rfl, o5, .inl ⟨V.out, TRK.out⟩, y6⟩
  · have hv' : validM N X = false := by simpa using hv
    rw [hv']
    have V := Lib.hid hv'
    have L9 : OwnW (w2.alloc (.cells #[] 41)) w.heap.size (.slice (some ⟨w2.heap.size, 0, none⟩) 0 0) 0 (fun i => negF (X i)) := World.ownsRow_lit (w := w2) (base := w.heap.size) (e := 41) (size := 9) #[] 0 x2.size (by decide) rfl
    have o9 := L9.ownC.own
    clear hv hv' h2
    go_wp2_with fail
    go_ret2
    exact ⟨_, false, 0, fun i => negF (X i), rfl, o9, .inr ⟨V.out, rfl, rfl⟩, x2.alloc _⟩

set_option maxHeartbeats 1000000 in
theorem sDesignBack_any (a : Option Addr) (N cap : Nat) (X : Nat → Nat → Int) (w : World) (hc : N ≤ cap) (hn : N ≤ 1048576) (h : Whs w a N X) :
    Calls Try.prog 18 #[.slice a N cap] w (ResW (validM N X) (fun i => negF (X i)) N w) := by
  go_enter Try.func18, Try.ntmps18
  go_wp2_with fail
  refine (l5EachB a N cap X _ hc hn h).mono ?_
  rintro e w1 ⟨v, ok, m, R, rfl, oc, tr, x1⟩
  have T1 := Lib.hid tr
  clear tr
  go_wp2
  go_ret2
  exact ⟨v, ok, m, R, rfl, oc, T1.out, x1⟩
theorem ResW.res {V : Bool} {Y : Nat → Nat → Int} {N : Nat} {w w' : World} {e : Ending} (h : ResW V Y N w e w') : ResW V Y N w e w' := h

end Go.Proofs.Ytadjphiipnlcdaa
