/- The exact laws on exact points whose text draws an order: their walks. Written by mk_wcyc2.py. -/
import Derived.Test.YtcbbnpijijoblaaCyc3
import Derived.Deep.RegionHeld3
import Derived.Deep.DeepCutAuto
namespace Go.Proofs.Ytcbbnpijijoblaa
open Go.ChangeShapes Go.WideShapes Go.ChangeAt Go.RowKit
set_option linter.unusedVariables false
theorem newZ {w w1 : World} {xs : List Value} {T : TypeId} (x : Ext (w.alloc (.cells xs.toArray T)) w1) : Blk w1 w.heap.size xs := (Blk.new w xs T).keep x
theorem newZd {w w1 : World} {xs : List Value} {T : TypeId} (x : Ext (w.alloc (.cells xs.toArray T)).drew w1) : Blk w1 w.heap.size xs := ((Blk.new w xs T).keep (Ext.refl _).drew).keep x

set_option maxHeartbeats 2000000 in
theorem lCycAdd (f g : Nat → Int) (w : World) : Calls Try.prog 6 #[cycV f, cycV g] w fun e w' => e = .returned (.bool true) ∧ Ext w w' := by
  have k0 := (Blk.new w (cyc8 f) 24).alloc (.cells (cyc8 g).toArray 24)
  have k1 := Blk.new1 w (.cells (cyc8 f).toArray 24) (cyc8 g) 24
  have x0 : Ext w ((w.alloc (.cells (cyc8 f).toArray 24)).alloc (.cells (cyc8 g).toArray 24)) := by repeat (first | exact Ext.refl _ | assumption | refine Ext.drew ?_ | refine Ext.alloc ?_ _ | refine Ext.trans ?_ (by assumption))
  go_enter Try.func6, Try.ntmps6
  go_upto_region 1 with fail
  generalize World.alloc (World.alloc _ _) _ = W at *
  have z0 : Ext W W.drew := (Ext.refl W).drew
  have c0 := (k0.keep z0).cell
  have c1 := (k1.keep z0).cell
  go_cut [5, 6] (fun s5 s6 wx => ∃ N : Nat, s5 = .pointer (some ⟨N, 0, none⟩) ∧ s6 = .bool (addM f g).2 ∧ Blk wx N (cyc8 (addM f g).1) ∧ Ext W wx)
  case first =>
    go_region_held3 (fun w' => Ext W w' ∧ (∀ o, w'.cell? ⟨w.heap.size, o, none⟩ = (cyc8 f)[o]?) ∧ (∀ o, w'.cell? ⟨w.heap.size + 1, o, none⟩ = (cyc8 g)[o]?))
      ((with_reducible refine (fun hx => ⟨hx, (k0.keep hx).cell, (k1.keep hx).cell⟩ : Ext W _ → _) ?_; repeat (first | with_reducible assumption | with_reducible exact Ext.refl _ | with_reducible refine Ext.drew ?_ | with_reducible refine Ext.alloc ?_ _ | with_reducible refine Ext.set ?_ (by first | exact Nat.le_refl _ | exact Ext.size (by assumption)) _)))
      (first
      | (go_at_call 13; ((with_reducible refine (toCyc_any f _).mono ?_); rintro e w1 ⟨rfl, x1⟩; have y1 : Ext W w1 := (by first | with_reducible exact z0.trans x1 | with_reducible exact (z0.alloc _).trans x1 | with_reducible exact ((Ext.refl _).alloc _).drew.trans x1); (first | (with_reducible (have n1 := newZ x1)) | (with_reducible (have n1 := newZd x1)) | skip); clear x1))
      | (go_at_call 13; ((with_reducible refine (toCyc_any g _).mono ?_); rintro e w2 ⟨rfl, x2⟩; have y2 : Ext W w2 := (by first | with_reducible exact y1.trans x2 | with_reducible exact (y1.alloc _).trans x2 | with_reducible exact ((Ext.refl _).alloc _).drew.trans x2); (first | (with_reducible (have n2 := newZ x2)) | (with_reducible (have n2 := newZd x2)) | (with_reducible (have n2 := n1.keep x2; clear n1)) | (with_reducible (have n2 := (n1.alloc _).keep x2; clear n1)) | skip); clear x2))
      | (go_at_call 20; ((with_reducible refine (sCycAdd_any f g _).mono ?_); rintro e w3 ⟨rfl, x3⟩; have y3 : Ext W w3 := (by first | with_reducible exact y2.trans x3 | with_reducible exact (y2.alloc _).trans x3 | with_reducible exact ((Ext.refl _).alloc _).drew.trans x3); (first | (with_reducible (have n3 := newZ x3)) | (with_reducible (have n3 := newZd x3)) | (with_reducible (have n3 := n2.keep x3; clear n2)) | (with_reducible (have n3 := (n2.alloc _).keep x3; clear n2)) | skip); (try (have cn3 := n3.cell; have fn3 := n3.free)); clear x3; dsimp only [tupCB])))
    all_goals (go_wp2_with fail; go_meet; refine ⟨_, rfl, rfl, ?_⟩; first | (obtain ⟨w4, e4, n4, z4⟩ := set8 (addM f g).1 n3 rfl; rw [e4]; exact ⟨n4, z4.ext y3 (by first | exact Nat.le_refl _ | exact Ext.size (by assumption))⟩) | exact ⟨Blk.new w3 (cyc8 (addM f g).1) _, Ext.alloc y3 _⟩)
  case rest =>
  obtain ⟨N, rfl, rfl, k5, y5⟩ := hcut
  clear z0 c0 c1
  have j0 := k0.keep y5
  have j1 := k1.keep y5
  have x5 := x0.trans y5
  clear k0 k1 x0 y5
  go_upto_region 2 with fail
  have z0 : Ext wc wc.drew := (Ext.refl wc).drew
  have c0 := (j0.keep z0).cell
  have c1 := (j1.keep z0).cell
  go_cut [7, 8] (fun s7 s8 wx => ∃ N : Nat, s7 = .pointer (some ⟨N, 0, none⟩) ∧ s8 = .bool (addM f g).2 ∧ Blk wx N (cyc8 (addM f g).1) ∧ Ext wc wx)
  case first =>
    go_region_held3 (fun w' => Ext wc w' ∧ (∀ o, w'.cell? ⟨w.heap.size, o, none⟩ = (cyc8 f)[o]?) ∧ (∀ o, w'.cell? ⟨w.heap.size + 1, o, none⟩ = (cyc8 g)[o]?))
      ((with_reducible refine (fun hx => ⟨hx, (j0.keep hx).cell, (j1.keep hx).cell⟩ : Ext wc _ → _) ?_; repeat (first | with_reducible assumption | with_reducible exact Ext.refl _ | with_reducible refine Ext.drew ?_ | with_reducible refine Ext.alloc ?_ _ | with_reducible refine Ext.set ?_ (by first | exact Nat.le_refl _ | exact Ext.size (by assumption)) _)))
      (first
      | (go_at_call 13; ((with_reducible refine (toCyc_any f _).mono ?_); rintro e w1 ⟨rfl, x1⟩; have y1 : Ext wc w1 := (by first | with_reducible exact z0.trans x1 | with_reducible exact (z0.alloc _).trans x1 | with_reducible exact ((Ext.refl _).alloc _).drew.trans x1); (first | (with_reducible (have n1 := newZ x1)) | (with_reducible (have n1 := newZd x1)) | skip); clear x1))
      | (go_at_call 13; ((with_reducible refine (toCyc_any g _).mono ?_); rintro e w2 ⟨rfl, x2⟩; have y2 : Ext wc w2 := (by first | with_reducible exact y1.trans x2 | with_reducible exact (y1.alloc _).trans x2 | with_reducible exact ((Ext.refl _).alloc _).drew.trans x2); (first | (with_reducible (have n2 := newZ x2)) | (with_reducible (have n2 := newZd x2)) | (with_reducible (have n2 := n1.keep x2; clear n1)) | (with_reducible (have n2 := (n1.alloc _).keep x2; clear n1)) | skip); clear x2))
      | (go_at_call 21; ((with_reducible refine (iCycAdd_any f g _).mono ?_); rintro e w3 ⟨rfl, x3⟩; have y3 : Ext wc w3 := (by first | with_reducible exact y2.trans x3 | with_reducible exact (y2.alloc _).trans x3 | with_reducible exact ((Ext.refl _).alloc _).drew.trans x3); (first | (with_reducible (have n3 := newZ x3)) | (with_reducible (have n3 := newZd x3)) | (with_reducible (have n3 := n2.keep x3; clear n2)) | (with_reducible (have n3 := (n2.alloc _).keep x3; clear n2)) | skip); (try (have cn3 := n3.cell; have fn3 := n3.free)); clear x3; dsimp only [tupCB])))
    all_goals (go_wp2_with fail; go_meet; refine ⟨_, rfl, rfl, ?_⟩; first | (obtain ⟨w4, e4, n4, z4⟩ := set8 (addM f g).1 n3 rfl; rw [e4]; exact ⟨n4, z4.ext y3 (by first | exact Nat.le_refl _ | exact Ext.size (by assumption))⟩) | exact ⟨Blk.new w3 (cyc8 (addM f g).1) _, Ext.alloc y3 _⟩)
  case rest =>
  obtain ⟨M, rfl, rfl, k7, y7⟩ := hcut
  clear z0 c0 c1 j0 j1
  have k5 := k5.keep y7
  have x7 := x5.trans y7
  clear x5 y7
  have c5 := k5.cell
  have c7 := k7.cell
  clear k5 k7
  go_wp2_with fail
  refine (eqCyc_any (addM f g).1 _).mono ?_
  rintro e w8 ⟨rfl, x8⟩
  clear c5 c7
  go_wp2
  go_ret
  exact ⟨rfl, x7.trans x8⟩

set_option maxHeartbeats 2000000 in
theorem lCycLess (f g : Nat → Int) (w : World) : Calls Try.prog 8 #[cycV f, cycV g] w fun e w' => e = .returned (.bool true) ∧ Ext w w' := by
  have k0 := (Blk.new w (cyc8 f) 24).alloc (.cells (cyc8 g).toArray 24)
  have k1 := Blk.new1 w (.cells (cyc8 f).toArray 24) (cyc8 g) 24
  have x0 : Ext w ((w.alloc (.cells (cyc8 f).toArray 24)).alloc (.cells (cyc8 g).toArray 24)) := by repeat (first | exact Ext.refl _ | assumption | refine Ext.drew ?_ | refine Ext.alloc ?_ _ | refine Ext.trans ?_ (by assumption))
  go_enter Try.func8, Try.ntmps8
  go_upto_region 1 with fail
  generalize World.alloc (World.alloc _ _) _ = W at *
  have z0 : Ext W W.drew := (Ext.refl W).drew
  have c0 := (k0.keep z0).cell
  have c1 := (k1.keep z0).cell
  go_cut [5, 6] (fun s5 s6 wx => ∃ N : Nat, s5 = .pointer (some ⟨N, 0, none⟩) ∧ s6 = .bool (lessM f g).2 ∧ Blk wx N (cyc8 (lessM f g).1) ∧ Ext W wx)
  case first =>
    go_region_held3 (fun w' => Ext W w' ∧ (∀ o, w'.cell? ⟨w.heap.size, o, none⟩ = (cyc8 f)[o]?) ∧ (∀ o, w'.cell? ⟨w.heap.size + 1, o, none⟩ = (cyc8 g)[o]?))
      ((with_reducible refine (fun hx => ⟨hx, (k0.keep hx).cell, (k1.keep hx).cell⟩ : Ext W _ → _) ?_; repeat (first | with_reducible assumption | with_reducible exact Ext.refl _ | with_reducible refine Ext.drew ?_ | with_reducible refine Ext.alloc ?_ _ | with_reducible refine Ext.set ?_ (by first | exact Nat.le_refl _ | exact Ext.size (by assumption)) _)))
      (first
      | (go_at_call 13; ((with_reducible refine (toCyc_any f _).mono ?_); rintro e w1 ⟨rfl, x1⟩; have y1 : Ext W w1 := (by first | with_reducible exact z0.trans x1 | with_reducible exact (z0.alloc _).trans x1 | with_reducible exact ((Ext.refl _).alloc _).drew.trans x1); (first | (with_reducible (have n1 := newZ x1)) | (with_reducible (have n1 := newZd x1)) | skip); clear x1))
      | (go_at_call 13; ((with_reducible refine (toCyc_any g _).mono ?_); rintro e w2 ⟨rfl, x2⟩; have y2 : Ext W w2 := (by first | with_reducible exact y1.trans x2 | with_reducible exact (y1.alloc _).trans x2 | with_reducible exact ((Ext.refl _).alloc _).drew.trans x2); (first | (with_reducible (have n2 := newZ x2)) | (with_reducible (have n2 := newZd x2)) | (with_reducible (have n2 := n1.keep x2; clear n1)) | (with_reducible (have n2 := (n1.alloc _).keep x2; clear n1)) | skip); clear x2))
      | (go_at_call 24; ((with_reducible refine (sCycLess_any f g _).mono ?_); rintro e w3 ⟨rfl, x3⟩; have y3 : Ext W w3 := (by first | with_reducible exact y2.trans x3 | with_reducible exact (y2.alloc _).trans x3 | with_reducible exact ((Ext.refl _).alloc _).drew.trans x3); (first | (with_reducible (have n3 := newZ x3)) | (with_reducible (have n3 := newZd x3)) | (with_reducible (have n3 := n2.keep x3; clear n2)) | (with_reducible (have n3 := (n2.alloc _).keep x3; clear n2)) | skip); (try (have cn3 := n3.cell; have fn3 := n3.free)); clear x3; dsimp only [tupCB])))
    all_goals (go_wp2_with fail; go_meet; refine ⟨_, rfl, rfl, ?_⟩; first | (obtain ⟨w4, e4, n4, z4⟩ := set8 (lessM f g).1 n3 rfl; rw [e4]; exact ⟨n4, z4.ext y3 (by first | exact Nat.le_refl _ | exact Ext.size (by assumption))⟩) | exact ⟨Blk.new w3 (cyc8 (lessM f g).1) _, Ext.alloc y3 _⟩)
  case rest =>
  obtain ⟨N, rfl, rfl, k5, y5⟩ := hcut
  clear z0 c0 c1
  have j0 := k0.keep y5
  have j1 := k1.keep y5
  have x5 := x0.trans y5
  clear k0 k1 x0 y5
  go_upto_region 2 with fail
  have z0 : Ext wc wc.drew := (Ext.refl wc).drew
  have c0 := (j0.keep z0).cell
  have c1 := (j1.keep z0).cell
  go_cut [7, 8] (fun s7 s8 wx => ∃ N : Nat, s7 = .pointer (some ⟨N, 0, none⟩) ∧ s8 = .bool (lessM f g).2 ∧ Blk wx N (cyc8 (lessM f g).1) ∧ Ext wc wx)
  case first =>
    go_region_held3 (fun w' => Ext wc w' ∧ (∀ o, w'.cell? ⟨w.heap.size, o, none⟩ = (cyc8 f)[o]?) ∧ (∀ o, w'.cell? ⟨w.heap.size + 1, o, none⟩ = (cyc8 g)[o]?))
      ((with_reducible refine (fun hx => ⟨hx, (j0.keep hx).cell, (j1.keep hx).cell⟩ : Ext wc _ → _) ?_; repeat (first | with_reducible assumption | with_reducible exact Ext.refl _ | with_reducible refine Ext.drew ?_ | with_reducible refine Ext.alloc ?_ _ | with_reducible refine Ext.set ?_ (by first | exact Nat.le_refl _ | exact Ext.size (by assumption)) _)))
      (first
      | (go_at_call 13; ((with_reducible refine (toCyc_any f _).mono ?_); rintro e w1 ⟨rfl, x1⟩; have y1 : Ext wc w1 := (by first | with_reducible exact z0.trans x1 | with_reducible exact (z0.alloc _).trans x1 | with_reducible exact ((Ext.refl _).alloc _).drew.trans x1); (first | (with_reducible (have n1 := newZ x1)) | (with_reducible (have n1 := newZd x1)) | skip); clear x1))
      | (go_at_call 13; ((with_reducible refine (toCyc_any g _).mono ?_); rintro e w2 ⟨rfl, x2⟩; have y2 : Ext wc w2 := (by first | with_reducible exact y1.trans x2 | with_reducible exact (y1.alloc _).trans x2 | with_reducible exact ((Ext.refl _).alloc _).drew.trans x2); (first | (with_reducible (have n2 := newZ x2)) | (with_reducible (have n2 := newZd x2)) | (with_reducible (have n2 := n1.keep x2; clear n1)) | (with_reducible (have n2 := (n1.alloc _).keep x2; clear n1)) | skip); clear x2))
      | (go_at_call 25; ((with_reducible refine (iCycLess_any f g _).mono ?_); rintro e w3 ⟨rfl, x3⟩; have y3 : Ext wc w3 := (by first | with_reducible exact y2.trans x3 | with_reducible exact (y2.alloc _).trans x3 | with_reducible exact ((Ext.refl _).alloc _).drew.trans x3); (first | (with_reducible (have n3 := newZ x3)) | (with_reducible (have n3 := newZd x3)) | (with_reducible (have n3 := n2.keep x3; clear n2)) | (with_reducible (have n3 := (n2.alloc _).keep x3; clear n2)) | skip); (try (have cn3 := n3.cell; have fn3 := n3.free)); clear x3; dsimp only [tupCB])))
    all_goals (go_wp2_with fail; go_meet; refine ⟨_, rfl, rfl, ?_⟩; first | (obtain ⟨w4, e4, n4, z4⟩ := set8 (lessM f g).1 n3 rfl; rw [e4]; exact ⟨n4, z4.ext y3 (by first | exact Nat.le_refl _ | exact Ext.size (by assumption))⟩) | exact ⟨Blk.new w3 (cyc8 (lessM f g).1) _, Ext.alloc y3 _⟩)
  case rest =>
  obtain ⟨M, rfl, rfl, k7, y7⟩ := hcut
  clear z0 c0 c1 j0 j1
  have k5 := k5.keep y7
  have x7 := x5.trans y7
  clear x5 y7
  have c5 := k5.cell
  have c7 := k7.cell
  clear k5 k7
  go_wp2_with fail
  refine (eqCyc_any (lessM f g).1 _).mono ?_
  rintro e w8 ⟨rfl, x8⟩
  clear c5 c7
  go_wp2
  go_ret
  exact ⟨rfl, x7.trans x8⟩

end Go.Proofs.Ytcbbnpijijoblaa
