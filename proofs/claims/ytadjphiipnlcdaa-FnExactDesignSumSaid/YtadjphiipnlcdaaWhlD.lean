/- Wheels: copies of lists, their comparison; the exact law of DesignValid. -/
import Derived.Test.YtadjphiipnlcdaaWhlC
import Derived.OwnWalk
namespace Go.Proofs.Ytadjphiipnlcdaa
open Go.ChangeShapes Go.WideShapes Go.ChangeAt Go.RowKit
set_option linter.unusedVariables false
set_option maxRecDepth 100000


/-- the cells of n wheels -/
def flat (n : Nat) (G : Nat → Nat → Int) : List Value := (List.range (n * 9)).map fun o => .int .i64 (G (o / 9) (o % 9))
theorem flat_len (n : Nat) (G : Nat → Nat → Int) : (flat n G).length = n * 9 := by simp [flat]
theorem flat_get (n : Nat) (G : Nat → Nat → Int) {o : Nat} (h : o < n * 9) : (flat n G)[o]? = some (.int .i64 (G (o / 9) (o % 9))) := by
  simp [flat, List.getElem?_map, List.getElem?_range h]
theorem flat_congr {n : Nat} {G H : Nat → Nat → Int} (h : ∀ i, i < n → ∀ c, c < 9 → G i c = H i c) : flat n G = flat n H := by
  unfold flat
  apply List.map_congr_left
  intro o ho
  have ho' : o < n * 9 := by simpa using ho
  rw [h (o / 9) (by omega) (o % 9) (by omega)]
theorem wh9_get (F : Nat → Int) {j : Nat} (h : j < 9) : (wh9 F)[j]? = some (.int .i64 (F j)) := by
  obtain rfl | rfl | rfl | rfl | rfl | rfl | rfl | rfl | rfl : j = 0 ∨ j = 1 ∨ j = 2 ∨ j = 3 ∨ j = 4 ∨ j = 5 ∨ j = 6 ∨ j = 7 ∨ j = 8 := by omega
  all_goals rfl
theorem flat_store {n i : Nat} (hi : i < n) (G : Nat → Nat → Int) (F : Nat → Int) :
    (flat n G).take (i * 9) ++ wh9 F ++ (flat n G).drop (i * 9 + 9) = flat n (fun j => if j = i then F else G j) := by
  apply List.ext_getElem?
  intro o
  have hl : (wh9 F).length = 9 := rfl
  have h1 : ((flat n G).take (i * 9)).length = i * 9 := by rw [List.length_take, flat_len]; omega
  by_cases ho : o < n * 9
  · rw [flat_get n _ ho]
    by_cases ha : o < i * 9
    · rw [List.append_assoc, List.getElem?_append_left (by omega), List.getElem?_take, if_pos ha, flat_get n _ ho, if_neg (by omega)]
    · by_cases hb : o < i * 9 + 9
      · rw [List.append_assoc, List.getElem?_append_right (by omega), h1, List.getElem?_append_left (by omega), wh9_get F (by omega), if_pos (by omega)]
        rw [show o - i * 9 = o % 9 by omega]
      · rw [List.getElem?_append_right (by rw [List.length_append]; omega), List.length_append, h1, hl, List.getElem?_drop, show i * 9 + 9 + (o - (i * 9 + 9)) = o by omega, flat_get n _ ho, if_neg (by omega)]
  · rw [List.getElem?_eq_none (by simp [flat]; omega), List.getElem?_eq_none (by rw [flat_len]; omega)]
theorem Blk.whs {w : World} {B n : Nat} {G : Nat → Nat → Int} (h : Blk w B (flat n G)) : Whs w (some ⟨B, 0, none⟩) n G := by
  refine .inr ⟨B, 0, rfl, h.lt, fun i hi c h9 => ?_⟩
  rw [h.cell, Nat.zero_add, flat_get n G (by omega), show (i * 9 + c) / 9 = i by omega, show (i * 9 + c) % 9 = c by omega]
theorem infoWhC : (Try.prog.info? 41).map (fun i => (i.zero, i.size, i.bytes)) = some (some (whV fun _ => 0), 9, 72) := by kernel_rfl
theorem madeWheels (n : Nat) : (madeCells (wh9 fun _ => 0).toArray (n * 9)).toList = flat n (fun _ _ => 0) := by
  unfold madeCells flat
  simp only [Array.toList_map, Array.toList_range]
  apply List.map_congr_left
  intro o _
  have h9 : o % 9 < 9 := by omega
  show ((wh9 fun _ => 0).toArray)[o % 9]! = _
  generalize o % 9 = j at *
  obtain rfl | rfl | rfl | rfl | rfl | rfl | rfl | rfl | rfl : j = 0 ∨ j = 1 ∨ j = 2 ∨ j = 3 ∨ j = 4 ∨ j = 5 ∨ j = 6 ∨ j = 7 ∨ j = 8 := by omega
  all_goals rfl
theorem Blk.ofOwns9 {w : World} {b n g : Nat} {e : TypeId} {xs : List Value} (h : w.ownsRow b e 9 (.slice (some ⟨g, 0, none⟩) n n) n xs) : Blk w g xs := by
  obtain ⟨hl, h | ⟨g', cap, cur, hv, _, hg, _, _, hs, ht⟩⟩ := h
  · cases h.1
  · cases hv
    refine ⟨e, ?_⟩
    rw [hg, ← ht, List.take_of_length_le (by simp [hs])]
theorem Ext.grownNoneW {a w w' : World} (h : Ext a w) (hg : w.grownBy w' none) : Ext a w' := Below.grown h hg h.size fun k e => by cases e
theorem info_partsW {P : Program} {T : TypeId} {z : Value} {s b : Nat} (h : (P.info? T).map (fun i => (i.zero, i.size, i.bytes)) = some (some z, s, b)) : ∃ i, P.info? T = some i ∧ i.zero = some z ∧ i.size = s ∧ i.bytes = b := by
  cases hq : P.info? T with
  | none => simp [hq] at h
  | some i => simp [hq] at h; exact ⟨i, rfl, h.1, h.2.1, h.2.2⟩
theorem cells9 {w : World} {b o : Nat} {F : Nat → Int} (h : ∀ c, c < 9 → w.cell? ⟨b, o + c, none⟩ = some (.int .i64 (F c))) :
    w.cell? ⟨b, o, none⟩ = some (.int .i64 (F 0)) ∧ w.cell? ⟨b, o + 1, none⟩ = some (.int .i64 (F 1)) ∧ w.cell? ⟨b, o + 2, none⟩ = some (.int .i64 (F 2)) ∧ w.cell? ⟨b, o + 3, none⟩ = some (.int .i64 (F 3)) ∧ w.cell? ⟨b, o + 4, none⟩ = some (.int .i64 (F 4)) ∧
    w.cell? ⟨b, o + 5, none⟩ = some (.int .i64 (F 5)) ∧ w.cell? ⟨b, o + 6, none⟩ = some (.int .i64 (F 6)) ∧ w.cell? ⟨b, o + 7, none⟩ = some (.int .i64 (F 7)) ∧ w.cell? ⟨b, o + 8, none⟩ = some (.int .i64 (F 8)) :=
  ⟨h 0 (by omega), h 1 (by omega), h 2 (by omega), h 3 (by omega), h 4 (by omega), h 5 (by omega), h 6 (by omega), h 7 (by omega), h 8 (by omega)⟩
theorem infoLWh : (Try.prog.info? 45).map (·.size) = some 9 := by kernel_rfl

set_option maxHeartbeats 1000000 in
theorem toWheelS_any (a : Option Addr) (n cap : Nat) (G : Nat → Nat → Int) (w : World) (hc : n ≤ cap) (hm : n ≤ 1048576) (h : Whs w a n G) :
    Calls Try.prog 11 #[.slice a n cap] w fun e w' => ∃ B, e = .returned (.slice (some ⟨B, 0, none⟩) n n) ∧ w.heap.size ≤ B ∧ Blk w' B (flat n G) ∧ Ext w w' := by
  obtain ⟨i0, hi, hz0, hz1, hz2⟩ := info_partsW infoWhC
  go_enter Try.func11, Try.ntmps11
  go_wp2_with (at_make; refine wpList_make_full _ rfl _ _ 25 rfl 0 41 i0 (whV fun _ => 0) 9 Try.underlying25 hi hz0 hz1 .i64 .i64 n n n rfl rfl rfl rfl ?m1 ?m2 (Nat.zero_le _) ?_)
  case m1 => rw [hz2]; omega
  case m2 => unfold maxLen; omega
  intro w1 o1 y1
  have o2 : w1.ownsRow 0 41 9 (.slice (some ⟨w.heap.size, 0, none⟩) n n) n (flat n fun _ _ => 0) := by rw [← madeWheels]; exact o1
  have g1 := Blk.ofOwns9 o2
  have x1 : Ext w w1 := Ext.grownNoneW (Ext.refl w) y1
  clear o1 o2 y1 hi hz0 hz1 hz2
  go_wp2
  go_loopw [4] (fun i wr => ∃ k : Nat, k ≤ n ∧ i = .int .i64 k ∧ Blk wr w.heap.size (flat n fun j => if j < k then G j else fun _ => 0) ∧ Ext w wr) (fun i _ => n - (intOf i).toNat)
  case atStart => exact ⟨0, by omega, rfl, by simpa using g1, x1⟩
  case round =>
    obtain ⟨k, hk, rfl, r1, x2⟩ := hrel
    clear g1 x1
    have hw := h.keep x2
    by_cases hlt : k < n
    · rcases hw with hw | ⟨b, off, rfl, hb, hcell⟩
      · omega
      · have hr := row9 (hcell k hlt)
        clear hcell h
        go_wp2_with (refine wpList_load_at rfl 45 (.tmp 18) rfl b (off + k * 9) rfl (wh9 (G k)).toArray _ hr Try.underlying45 rfl infoLWh ?_)
        refine (toWheel_any (G k) _).mono ?_
        rintro e w2 ⟨rfl, x3⟩
        have r2 := r1.keep x3
        have y2 := x2.trans x3
        clear x2 x3 r1 hr
        go_wp2_with (refine wpList_store_at rfl 41 (.tmp 21) (.tmp 20) rfl w.heap.size (k * 9) (wh9 (G k)) rfl rfl _ r2 infoWh (by rw [flat_len]; show k * 9 + 9 ≤ _; omega) (by simp [Value.oneCell']) ?_)
        intro w3 r3 z3
        have e1 := flat_store hlt (fun j => if j < k then G j else fun _ => 0) (G k)
        have e2 : flat n (fun j => if j = k then G k else if j < k then G j else fun _ => 0) = flat n fun j => if j < k + 1 then G j else fun _ => 0 := flat_congr fun i hi c _ => by
          by_cases h1 : i = k
          · subst h1; simp
          · by_cases h2 : i < k
            · simp only [if_neg h1, if_pos h2, if_pos (show i < k + 1 by omega)]
            · simp only [if_neg h1, if_neg h2, if_neg (show ¬ i < k + 1 by omega)]
        have r4 : Blk w3 w.heap.size (flat n fun j => if j < k + 1 then G j else fun _ => 0) := by rw [← e2, ← e1]; simpa using r3
        have y3 := z3.ext y2 (Nat.le_refl _)
        clear e1 e2 r3 z3 r2 y2
        go_wp2
        go_roundw
        case rel => exact ⟨k + 1, by omega, by go_num, r4, y3⟩
        case measure => simp [intOf]; omega
    · have hk8 : k = n := by omega
      subst hk8
      clear h hw
      have e1 : flat k (fun j => if j < k then G j else fun _ => 0) = flat k G := flat_congr fun i hi c _ => by simp only [if_pos hi]
      rw [e1] at r1
      go_wp2
      go_ret
      exact ⟨_, rfl, Nat.le_refl _, r1, x2⟩

set_option maxHeartbeats 1000000 in
theorem eqWheelS_any (a b : Option Addr) (n c1 c2 : Nat) (G : Nat → Nat → Int) (w : World) (hc : n ≤ c1) (hc2 : n ≤ c2) (hm : n ≤ 1048576) (h1 : Whs w a n G) (h2 : Whs w b n G) :
    Calls Try.prog 13 #[.slice a n c1, .slice b n c2] w fun e w' => e = .returned (.bool true) ∧ Ext w w' := by
  go_enter Try.func13, Try.ntmps13
  go_wp2
  go_loopw [5] (fun i wr => ∃ k : Nat, k ≤ n ∧ i = .int .i64 k ∧ Ext w wr) (fun i _ => n - (intOf i).toNat)
  case atStart => exact ⟨0, by omega, rfl, Ext.refl _⟩
  case round =>
    obtain ⟨k, hk, rfl, x1⟩ := hrel
    have hw := h1.keep x1
    have hv := h2.keep x1
    clear h1 h2
    by_cases hlt : k < n
    · rcases hw with hw | ⟨p, off, rfl, hb, hcell⟩
      · omega
      · rcases hv with hv | ⟨q, off2, rfl, hb2, hcell2⟩
        · omega
        · obtain ⟨c0, c1, c2, c3, c4, c5, c6, c7, c8⟩ := cells9 (hcell k hlt)
          obtain ⟨d0, d1, d2, d3, d4, d5, d6, d7, d8⟩ := cells9 (hcell2 k hlt)
          clear hcell hcell2
          go_wp2_with fail
          go_region_with (go_at_call 28; ((with_reducible refine (eqWheel_any (G k) _).mono ?_); rintro e w2 ⟨rfl, hx⟩))
          all_goals go_wp2
          all_goals go_roundw
          all_goals first
            | exact ⟨k + 1, by omega, by go_num, by repeat (first | exact Ext.refl _ | assumption | refine Ext.drew ?_ | refine Ext.alloc ?_ _ | refine Ext.trans ?_ (by assumption))⟩
            | (simp [intOf]; omega)
    · have hk8 : k = n := by omega
      subst hk8
      clear hw hv
      go_wp2
      go_ret
      exact ⟨rfl, x1⟩

set_option maxHeartbeats 1000000 in
theorem szWheelS_any (a : Option Addr) (n cap : Nat) (w : World) (hm : n ≤ maxLen) :
    Calls Try.prog 9 #[.slice a n cap, .int .i64 1048576] w fun e w' => e = .returned (.int .i64 (if n ≤ 1048576 then 1048576 - (n : Int) else -1)) ∧ w = w' := by
  unfold maxLen at hm
  have hwr : IntKind.i64.wrap (1048576 - (n : Int)) = 1048576 - n := IntWalk.i64_in _ (by omega)
  by_cases h : n ≤ 1048576
  · rw [if_pos h]
    go_enter Try.func9, Try.ntmps9
    go_wp2
    go_ret
    exact ⟨rfl, rfl⟩
  · rw [if_neg h]
    go_enter Try.func9, Try.ntmps9
    go_wp2
    go_ret
    exact ⟨rfl, rfl⟩

set_option maxHeartbeats 1000000 in
theorem lDesignValid (a : Option Addr) (n cap : Nat) (G : Nat → Nat → Int) (w : World) (hc : n ≤ cap) (hm : cap ≤ maxLen) (h : Whs w a n G) :
    Calls Try.prog 6 #[.slice a n cap] w fun e w' => e = .returned (.bool true) ∧ Ext w w' := by
  by_cases hn : n ≤ 1048576
  · go_enter Try.func6, Try.ntmps6
    go_wp2_with fail
    refine (szWheelS_any a n cap _ (Nat.le_trans hc hm)).mono ?_
    rw [if_pos hn]
    rintro e w0 ⟨rfl, rfl⟩
    have hneg : ¬ (1048576 - (n : Int)) < 0 := by omega
    go_wp2_with fail
    refine (toWheelS_any a n cap G _ hc hn h).mono ?_
    rintro e w1 ⟨B1, rfl, hB1, r1, x1⟩
    go_wp2_with fail
    refine (sDesignValid_any _ n n G _ (Nat.le_refl _) hn r1.whs).mono ?_
    rintro e w2 ⟨rfl, x2⟩
    have h2 := (h.keep x1).keep x2
    have y2 := x1.trans x2
    clear r1 x1 x2 h
    generalize hV : validM n G = V at *
    go_wp2_with fail
    refine (toWheelS_any a n cap G _ hc hn h2).mono ?_
    rintro e w3 ⟨B2, rfl, hB2, r2, x3⟩
    have h3 := h2.keep x3
    have y3 := y2.trans x3
    clear h2 y2 x3
    go_wp2_with fail
    refine (iDesignValid_any _ n n G _ (Nat.le_refl _) hn r2.whs).mono ?_
    rw [hV]
    rintro e w4 ⟨rfl, x4⟩
    have h4 := h3.keep x4
    have r4 := r2.keep x4
    have y4 := y3.trans x4
    clear h3 r2 y3 x4
    go_wp2_with fail
    refine (toWheelS_any a n cap G _ hc hn h4).mono ?_
    rintro e w5 ⟨B3, rfl, hB3, r5, x5⟩
    have r6 := r4.keep x5
    have y5 := y4.trans x5
    clear h4 r4 y4 x5
    go_wp2_with fail
    refine (eqWheelS_any _ _ n n n G _ (Nat.le_refl _) (Nat.le_refl _) hn r6.whs r5.whs).mono ?_
    rintro e w6 ⟨rfl, x6⟩
    go_wp2
    go_ret
    exact ⟨rfl, y5.trans x6⟩
  · go_enter Try.func6, Try.ntmps6
    go_wp2_with fail
    refine (szWheelS_any a n cap _ (Nat.le_trans hc hm)).mono ?_
    rw [if_neg hn]
    rintro e w0 ⟨rfl, rfl⟩
    go_wp2
    go_ret
    exact ⟨rfl, Ext.refl _⟩

end Go.Proofs.Ytadjphiipnlcdaa
