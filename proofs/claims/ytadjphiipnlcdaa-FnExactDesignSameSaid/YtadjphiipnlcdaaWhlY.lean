/- Wheels: lists of wheels compared; DesignSame and its exact law. Written by mk_whly.py. -/
import Derived.Test.YtadjphiipnlcdaaWhlV
namespace Go.Proofs.Ytadjphiipnlcdaa
open Go.ChangeShapes Go.WideShapes Go.ChangeAt Go.RowKit
set_option linter.unusedVariables false
set_option maxRecDepth 100000


/-- two wheels are one -/
def eqF9 (F H : Nat → Int) : Bool := F 0 == H 0 && eqF8 (tl F) (tl H)
/-- two lists of wheels are one -/
def eqL (m n : Nat) (A B : Nat → Nat → Int) : Bool := decide (m = n) && (List.range m).all fun i => eqF9 (A i) (B i)
theorem eqF9_congr {F H F2 H2 : Nat → Int} (h : ∀ c, c < 9 → F c = F2 c) (k : ∀ c, c < 9 → H c = H2 c) : eqF9 F H = eqF9 F2 H2 := by
  simp only [eqF9, eqF8, tl, h 0 (by omega), h 1 (by omega), h 2 (by omega), h 3 (by omega), h 4 (by omega), h 5 (by omega), h 6 (by omega), h 7 (by omega), h 8 (by omega), k 0 (by omega), k 1 (by omega), k 2 (by omega), k 3 (by omega), k 4 (by omega), k 5 (by omega), k 6 (by omega), k 7 (by omega), k 8 (by omega)]
theorem eqL_true {m : Nat} {A B : Nat → Nat → Int} (h : ∀ i, i < m → eqF9 (A i) (B i) = true) : eqL m m A B = true := by
  simp only [eqL, decide_true, Bool.true_and, List.all_eq_true, List.mem_range]
  exact h
theorem eqL_false {m i : Nat} {A B : Nat → Nat → Int} (hi : i < m) (h : eqF9 (A i) (B i) = false) : eqL m m A B = false := by
  rw [eqL, Bool.and_eq_false_iff]
  exact .inr (by
    rw [List.all_eq_false]
    exact ⟨i, List.mem_range.2 hi, by simp [h]⟩)
theorem eqL_ne {m n : Nat} {A B : Nat → Nat → Int} (h : m ≠ n) : eqL m n A B = false := by simp [eqL, h]
theorem all_congr {p q : Nat → Bool} : ∀ (l : List Nat), (∀ i, i ∈ l → p i = q i) → l.all p = l.all q
  | [], _ => rfl
  | x :: l, h => by
    rw [List.all_cons, List.all_cons, h x (by simp), all_congr l fun i hi => h i (by simp [hi])]
theorem eqL_congr {m n : Nat} {A B A2 B2 : Nat → Nat → Int} (h : ∀ i, i < m → ∀ c, c < 9 → A i c = A2 i c) (k : ∀ i, i < n → ∀ c, c < 9 → B i c = B2 i c) : eqL m n A B = eqL m n A2 B2 := by
  by_cases e : m = n
  · subst e
    unfold eqL
    congr 1
    exact all_congr _ fun i hi => eqF9_congr (h i (List.mem_range.1 hi)) (k i (List.mem_range.1 hi))
  · rw [eqL_ne e, eqL_ne e]
theorem eqWh (F H : Nat → Int) (w : World) : (Op.equalIn 10000 41 (whV F) (whV H)).run Try.prog w = .ok (eqF9 F H) w := by
  have u3 := Try.underlying3
  have a3 := Try.isAgg3
  have z3 := Try.sizeOf3
  have u4 := Try.underlying39
  have a4 := Try.isAgg39
  have z4 := Try.sizeOf39
  have hS : Try.prog.underlying 41 = some (.struct (Try.prog.fieldsOf 41)) := by kernel_rfl
  have hp : Try.prog.stoodInHeld 41 = false := by kernel_rfl
  have ha : ∀ w, (Op.equalIn 9998 37 (.agg #[.int .i64 (F 1), .int .i64 (F 2), .int .i64 (F 3), .int .i64 (F 4), .int .i64 (F 5), .int .i64 (F 6), .int .i64 (F 7), .int .i64 (F 8)]) (.agg #[.int .i64 (H 1), .int .i64 (H 2), .int .i64 (H 3), .int .i64 (H 4), .int .i64 (H 5), .int .i64 (H 6), .int .i64 (H 7), .int .i64 (H 8)])).run Try.prog w = .ok (eqF8 (tl F) (tl H)) w := eqA 9996 (tl F) (tl H)
  rw [show (10000 : Nat) = 9999 + 1 from rfl, run_equalIn_agg w 9999 41 _ _ hS hp]
  simp only [Program.fieldsOf, Try.underlying41]
  go_simp
  unfold eqF9
  cases eqF8 (tl F) (tl H) <;> (repeat' split) <;> simp_all

set_option maxHeartbeats 2000000 in
theorem sEqual_any (a b : Option Addr) (m n c1 c2 : Nat) (A B : Nat → Nat → Int) (w : World) (hm : m ≤ 12) (hn : n ≤ 12) (hc1 : m ≤ c1) (hc2 : n ≤ c2) (h1 : Whs w a m A) (h2 : Whs w b n B) :
    Calls Try.prog 25 #[.slice a m c1, .slice b n c2] w fun e w' => e = .returned (.bool (eqL m n A B)) ∧ Ext w w' := by
  by_cases hmn : m = n
  · subst hmn
    go_enter Try.func25, Try.ntmps25
    go_wp2
    go_loopw [5] (fun i wr => ∃ k : Nat, k ≤ m ∧ i = .int .i64 (k : Int) ∧ (∀ j, j < k → eqF9 (A j) (B j) = true) ∧ Ext w wr) (fun i _ => m - (intOf i).toNat)
    case atStart => exact ⟨0, by omega, rfl, fun j hj => by omega, Ext.refl _⟩
    case round =>
      obtain ⟨k, hk, rfl, hall, x1⟩ := hrel
      have hw := h1.keep x1
      have hv := h2.keep x1
      have HA := Lib.hid hall
      clear h1 h2 hall
      by_cases hlt : k < m
      · rcases hw with hw | ⟨p, off, rfl, hb, hcell⟩
        · omega
        · rcases hv with hv | ⟨q, off2, rfl, hb2, hcell2⟩
          · omega
          · obtain ⟨c0, c1, c2, c3, c4, c5, c6, c7, c8⟩ := cells9 (hcell k hlt)
            obtain ⟨d0, d1, d2, d3, d4, d5, d6, d7, d8⟩ := cells9 (hcell2 k hlt)
            have hq := eqWh (A k) (B k)
            clear hcell hcell2
            cases he : eqF9 (A k) (B k) with
            | true =>
              rw [he] at hq
              have HE := Lib.hid he
              clear he
              go_wp2_with fail
              go_region
              all_goals go_wp2
              all_goals go_roundw
              all_goals first
                | exact ⟨k + 1, by omega, by go_num, fun j hj => by
                    by_cases h1 : j = k
                    · subst h1; exact HE.out
                    · exact HA.out j (by omega), by repeat (first | exact Ext.refl _ | assumption | refine Ext.drew ?_ | refine Ext.alloc ?_ _ | refine Ext.trans ?_ (by assumption))⟩
                | (simp [intOf]; omega)
            | false =>
              rw [he] at hq
              have HE := Lib.hid (eqL_false hlt he)
              clear he
              go_wp2_with fail
              go_region
              all_goals go_wp2
              all_goals go_ret
              all_goals exact ⟨by rw [HE.out]; rfl, by repeat (first | exact Ext.refl _ | assumption | refine Ext.drew ?_ | refine Ext.alloc ?_ _ | refine Ext.trans ?_ (by assumption))⟩
      · have hk8 : k = m := by omega
        subst hk8
        clear hw hv
        go_wp2
        go_ret
        exact ⟨by rw [eqL_true HA.out]; rfl, x1⟩
  · have hne : ¬ ((m : Int) = (n : Int)) := by omega
    have HE := Lib.hid (eqL_ne (A := A) (B := B) hmn)
    go_enter Try.func25, Try.ntmps25
    go_wp2
    go_ret
    exact ⟨by rw [HE.out]; rfl, Ext.refl _⟩

set_option maxHeartbeats 2000000 in
theorem iEqual_any (a b : Option Addr) (m n c1 c2 : Nat) (A B : Nat → Nat → Int) (w : World) (hm : m ≤ 12) (hn : n ≤ 12) (hc1 : m ≤ c1) (hc2 : n ≤ c2) (h1 : Whs w a m A) (h2 : Whs w b n B) :
    Calls Try.prog 27 #[.slice a m c1, .slice b n c2] w fun e w' => e = .returned (.bool (eqL m n A B)) ∧ Ext w w' := by
  by_cases hmn : m = n
  · subst hmn
    go_enter Try.func27, Try.ntmps27
    go_wp2
    go_loopw [13] (fun i wr => ∃ k : Nat, k ≤ m ∧ i = .int .i64 (k : Int) ∧ (∀ j, j < k → eqF9 (A j) (B j) = true) ∧ Ext w wr) (fun i _ => m - (intOf i).toNat)
    case atStart => exact ⟨0, by omega, rfl, fun j hj => by omega, Ext.refl _⟩
    case round =>
      obtain ⟨k, hk, rfl, hall, x1⟩ := hrel
      have hw := h1.keep x1
      have hv := h2.keep x1
      have HA := Lib.hid hall
      clear h1 h2 hall
      by_cases hlt : k < m
      · rcases hw with hw | ⟨p, off, rfl, hb, hcell⟩
        · omega
        · rcases hv with hv | ⟨q, off2, rfl, hb2, hcell2⟩
          · omega
          · obtain ⟨c0, c1, c2, c3, c4, c5, c6, c7, c8⟩ := cells9 (hcell k hlt)
            obtain ⟨d0, d1, d2, d3, d4, d5, d6, d7, d8⟩ := cells9 (hcell2 k hlt)
            have hq := eqWh (A k) (B k)
            clear hcell hcell2
            cases he : eqF9 (A k) (B k) with
            | true =>
              rw [he] at hq
              have HE := Lib.hid he
              clear he
              go_wp2_with fail
              go_region
              all_goals go_wp2
              all_goals go_roundw
              all_goals first
                | exact ⟨k + 1, by omega, by go_num, fun j hj => by
                    by_cases h1 : j = k
                    · subst h1; exact HE.out
                    · exact HA.out j (by omega), by repeat (first | exact Ext.refl _ | assumption | refine Ext.drew ?_ | refine Ext.alloc ?_ _ | refine Ext.trans ?_ (by assumption))⟩
                | (simp [intOf]; omega)
            | false =>
              rw [he] at hq
              have HE := Lib.hid (eqL_false hlt he)
              clear he
              go_wp2_with fail
              go_region
              all_goals go_wp2
              all_goals go_ret
              all_goals exact ⟨by rw [HE.out]; rfl, by repeat (first | exact Ext.refl _ | assumption | refine Ext.drew ?_ | refine Ext.alloc ?_ _ | refine Ext.trans ?_ (by assumption))⟩
      · have hk8 : k = m := by omega
        subst hk8
        clear hw hv
        go_wp2
        go_ret
        exact ⟨by rw [eqL_true HA.out]; rfl, x1⟩
  · have hne : ¬ ((m : Int) = (n : Int)) := by omega
    have HE := Lib.hid (eqL_ne (A := A) (B := B) hmn)
    go_enter Try.func27, Try.ntmps27
    go_wp2
    go_ret
    exact ⟨by rw [HE.out]; rfl, Ext.refl _⟩

theorem OwnM.whsR {w : World} {lo hi m : Nat} {v : Value} {R : Nat → Nat → Int} (h : OwnM w lo hi v m (fun j => R (j / 9) (j % 9))) : ∃ a cap, v = .slice a m cap ∧ m ≤ cap ∧ Whs w a m R := by
  obtain ⟨a, cap, rfl, hc, hw⟩ := h.whs
  refine ⟨a, cap, rfl, hc, Whs.congr hw fun i _ c h9 => ?_⟩
  show R ((i * 9 + c) / 9) ((i * 9 + c) % 9) = R i c
  rw [show (i * 9 + c) / 9 = i by omega, show (i * 9 + c) % 9 = c by omega]
/-- what DesignSame answers -/
def SameR (X Y : Nat → Nat → Int) (N M : Nat) (w : World) (e : Ending) (w' : World) : Prop :=
  ∃ ok1 m1 R1 ok2 m2 R2, e = .returned (.bool (ok1 && ok2 && eqL m1 m2 R1 R2)) ∧ RT (validM N X) X N ok1 m1 R1 ∧ RT (validM M Y) Y M ok2 m2 R2 ∧ Ext w w'

set_option maxHeartbeats 2000000 in
theorem sDesignSame_any (a b : Option Addr) (N M cap1 cap2 : Nat) (X Y : Nat → Nat → Int) (w : World) (hc1 : N ≤ cap1) (hc2 : M ≤ cap2) (hn : N ≤ 1048576) (hm : M ≤ 1048576) (h1 : Whs w a N X) (h2 : Whs w b M Y) :
    Calls Try.prog 10 #[.slice a N cap1, .slice b M cap2] w (SameR X Y N M w) := by
  go_enter Try.func10, Try.ntmps10
  go_wp2_with fail
  refine (sDesignTidy_any a N cap1 X _ hc1 hn h1).mono ?_
  rintro e w1 t1
  obtain ⟨v1, ok1, m1, R1, rfl, M1, T1, x1⟩ := t1.res
  clear t1
  have t1' : RT (validM N X) X N ok1 m1 R1 := T1
  have l1 := t1'.le
  have K1 := Lib.hid t1'
  have k2 := h2.keep x1
  clear T1 t1' h1 h2
  go_wp2_with fail
  refine (sDesignTidy_any b M cap2 Y _ hc2 hm k2).mono ?_
  rintro e w2 t2
  obtain ⟨v2, ok2, m2, R2, rfl, M2, T2, x2⟩ := t2.res
  clear t2
  have t2' : RT (validM M Y) Y M ok2 m2 R2 := T2
  have l2 := t2'.le
  have K2 := Lib.hid t2'
  have y2 := x1.trans x2
  have M1' := M1.keep x2
  clear T2 t2' k2 M1 x1 x2
  obtain ⟨a1, c1, rfl, n1, w1⟩ := M1'.whsR
  obtain ⟨a2, c2, rfl, n2, w2⟩ := M2.whsR
  clear M1' M2
  cases ok1 with
  | false =>
    go_wp2_with fail
    go_ret
    exact ⟨false, m1, R1, ok2, m2, R2, rfl, K1.out, K2.out, y2⟩
  | true =>
    cases ok2 with
    | false =>
      go_wp2_with fail
      go_ret
      exact ⟨true, m1, R1, false, m2, R2, rfl, K1.out, K2.out, y2⟩
    | true =>
      go_wp2_with fail
      refine (sEqual_any a1 a2 m1 m2 c1 c2 R1 R2 _ l1 l2 n1 n2 w1 w2).mono ?_
      rintro e w3 ⟨rfl, x3⟩
      go_wp2_with fail
      go_ret
      exact ⟨true, m1, R1, true, m2, R2, by simp, K1.out, K2.out, y2.trans x3⟩

set_option maxHeartbeats 2000000 in
theorem iDesignSame_any (a b : Option Addr) (N M cap1 cap2 : Nat) (X Y : Nat → Nat → Int) (w : World) (hc1 : N ≤ cap1) (hc2 : M ≤ cap2) (hn : N ≤ 1048576) (hm : M ≤ 1048576) (h1 : Whs w a N X) (h2 : Whs w b M Y) :
    Calls Try.prog 12 #[.slice a N cap1, .slice b M cap2] w (SameR X Y N M w) := by
  go_enter Try.func12, Try.ntmps12
  go_wp2_with fail
  refine (iDesignTidy_any a N cap1 X _ hc1 hn h1).mono ?_
  rintro e w1 t1
  obtain ⟨v1, ok1, m1, R1, rfl, M1, T1, x1⟩ := t1.res
  clear t1
  have t1' : RT (validM N X) X N ok1 m1 R1 := T1
  have l1 := t1'.le
  have K1 := Lib.hid t1'
  have k2 := h2.keep x1
  clear T1 t1' h1 h2
  go_wp2_with fail
  refine (iDesignTidy_any b M cap2 Y _ hc2 hm k2).mono ?_
  rintro e w2 t2
  obtain ⟨v2, ok2, m2, R2, rfl, M2, T2, x2⟩ := t2.res
  clear t2
  have t2' : RT (validM M Y) Y M ok2 m2 R2 := T2
  have l2 := t2'.le
  have K2 := Lib.hid t2'
  have y2 := x1.trans x2
  have M1' := M1.keep x2
  clear T2 t2' k2 M1 x1 x2
  obtain ⟨a1, c1, rfl, n1, w1⟩ := M1'.whsR
  obtain ⟨a2, c2, rfl, n2, w2⟩ := M2.whsR
  clear M1' M2
  cases ok1 with
  | false =>
    go_wp2_with fail
    go_ret
    exact ⟨false, m1, R1, ok2, m2, R2, rfl, K1.out, K2.out, y2⟩
  | true =>
    cases ok2 with
    | false =>
      go_wp2_with fail
      go_ret
      exact ⟨true, m1, R1, false, m2, R2, rfl, K1.out, K2.out, y2⟩
    | true =>
      go_wp2_with fail
      refine (iEqual_any a1 a2 m1 m2 c1 c2 R1 R2 _ l1 l2 n1 n2 w1 w2).mono ?_
      rintro e w3 ⟨rfl, x3⟩
      go_wp2_with fail
      go_ret
      exact ⟨true, m1, R1, true, m2, R2, by simp, K1.out, K2.out, y2.trans x3⟩

set_option maxHeartbeats 1000000 in
theorem szW2 (a : Option Addr) (n cap L : Nat) (w : World) (hm : n ≤ maxLen) (hL : L ≤ 1048576) :
    Calls Try.prog 9 #[.slice a n cap, .int .i64 (L : Int)] w fun e w' => e = .returned (.int .i64 (if n ≤ L then (L : Int) - (n : Int) else -1)) ∧ w = w' := by
  unfold maxLen at hm
  have hwr : IntKind.i64.wrap ((L : Int) - (n : Int)) = (L : Int) - n := IntWalk.i64_in _ (by omega)
  by_cases h : n ≤ L
  · rw [if_pos h]
    go_enter Try.func9, Try.ntmps9
    go_wp2
    go_ret
    exact ⟨rfl, rfl⟩
  · rw [if_neg h]
    go_enter Try.func9, Try.ntmps9
    go_wp2
    go_ret
    exact ⟨rfl, rfl⟩

set_option maxHeartbeats 4000000 in
theorem lDesignSame (a : Option Addr) (n cap : Nat) (G : Nat → Nat → Int) (b : Option Addr) (m cap2 : Nat) (H : Nat → Nat → Int) (w : World) (hc : n ≤ cap) (hm : cap ≤ maxLen) (h : Whs w a n G) (hc2 : m ≤ cap2) (hm2 : cap2 ≤ maxLen) (k : Whs w b m H) :
    Calls Try.prog 3 #[.slice a n cap, .slice b m cap2] w fun e w' => e = .returned (.bool true) ∧ Ext w w' := by
  by_cases hn : n ≤ 1048576
  · by_cases hn2 : m ≤ 1048576 - n
    · have hn3 : m ≤ 1048576 := by omega
      go_enter Try.func3, Try.ntmps3
      go_wp2_with fail
      refine (szWheelS_any a n cap _ (Nat.le_trans hc hm)).mono ?_
      rw [if_pos hn]
      rintro e w0 ⟨rfl, rfl⟩
      have hL : (1048576 - (n : Int)) = ((1048576 - n : Nat) : Int) := by omega
      rw [hL]
      have hneg : ¬ (((1048576 - n : Nat) : Int) < 0) := by omega
      go_wp2_with fail
      refine (szW2 b m cap2 (1048576 - n) _ (Nat.le_trans hc2 hm2) (by omega)).mono ?_
      rw [if_pos hn2]
      rintro e w0 ⟨rfl, rfl⟩
      have hneg2 : ¬ ((((1048576 - n : Nat) : Int) - (m : Int)) < 0) := by omega
      clear hL
      go_wp2_with fail
      refine (toWheelS_any a n cap G _ hc hn h).mono ?_
      rintro e w1 ⟨B1, rfl, hB1, r1, x1⟩
      have k1 := k.keep x1
      go_wp2_with fail
      refine (toWheelS_any b m cap2 H _ hc2 hn3 k1).mono ?_
      rintro e w2 ⟨B2, rfl, hB2, r2, x2⟩
      have r1' := r1.keep x2
      have y2 := x1.trans x2
      clear r1 k1 x1 x2 hneg hneg2
      go_wp2_with fail
      refine (sDesignSame_any _ _ n m n m G H _ (Nat.le_refl _) (Nat.le_refl _) hn hn3 r1'.whs r2.whs).mono ?_
      rintro e w3 ⟨ok1, m1, R1, ok2, m2, R2, rfl, T1, T2, x3⟩
      have K1 := Lib.hid T1
      have K2 := Lib.hid T2
      have y3 := y2.trans x3
      have h3 := h.keep y3
      have k3 := k.keep y3
      clear T1 T2 r1' r2 y2 x3
      generalize hE : (ok1 && ok2 && eqL m1 m2 R1 R2) = E
      have HE := Lib.hid hE
      clear hE
      go_wp2_with fail
      refine (toWheelS_any a n cap G _ hc hn h3).mono ?_
      rintro e w4 ⟨B4, rfl, hB4, r4, x4⟩
      have k4 := k3.keep x4
      go_wp2_with fail
      refine (toWheelS_any b m cap2 H _ hc2 hn3 k4).mono ?_
      rintro e w5 ⟨B5, rfl, hB5, r5, x5⟩
      have r4' := r4.keep x5
      have y5 := (y3.trans x4).trans x5
      clear r4 k4 x4 x5 h3 k3 y3
      go_wp2_with fail
      refine (iDesignSame_any _ _ n m n m G H _ (Nat.le_refl _) (Nat.le_refl _) hn hn3 r4'.whs r5.whs).mono ?_
      rintro e w6 ⟨ok3, m3, R3, ok4, m4, R4, rfl, T3, T4, x6⟩
      obtain ⟨rfl, rfl, e3⟩ := K1.out.one T3
      obtain ⟨rfl, rfl, e4⟩ := K2.out.one T4
      have hq : eqL m3 m4 R3 R4 = eqL m3 m4 R1 R2 := eqL_congr
        (fun i hi c h9 => by have := e3 (i * 9 + c) (by omega); rwa [show (i * 9 + c) / 9 = i by omega, show (i * 9 + c) % 9 = c by omega] at this)
        (fun i hi c h9 => by have := e4 (i * 9 + c) (by omega); rwa [show (i * 9 + c) / 9 = i by omega, show (i * 9 + c) % 9 = c by omega] at this)
      rw [hq, HE.out]
      have y6 := y5.trans x6
      have h6 := h.keep y6
      have k6 := k.keep y6
      have r6 := r4'.keep x6
      have s6 := r5.keep x6
      clear T3 T4 e3 e4 hq r4' r5 y5 x6 K1 K2
      go_wp2_with fail
      refine (toWheelS_any a n cap G _ hc hn h6).mono ?_
      rintro e w7 ⟨B7, rfl, hB7, r7, x7⟩
      have y7 := y6.trans x7
      have k7 := k6.keep x7
      have r6' := r6.keep x7
      have s7 := s6.keep x7
      clear h6 k6 y6 x7 r6 s6
      go_wp2_with fail
      refine (eqWheelS_any _ _ n n n G _ (Nat.le_refl _) (Nat.le_refl _) hn r6'.whs r7.whs).mono ?_
      rintro e w8 ⟨rfl, x8⟩
      have y8 := y7.trans x8
      have k8 := k7.keep x8
      have s8 := s7.keep x8
      clear k7 y7 x8 s7 r6' r7
      go_wp2_with fail
      refine (toWheelS_any b m cap2 H _ hc2 hn3 k8).mono ?_
      rintro e w9 ⟨B9, rfl, hB9, r9, x9⟩
      have s9 := s8.keep x9
      have y9 := y8.trans x9
      clear s8 k8 y8 x9
      go_wp2_with fail
      refine (eqWheelS_any _ _ m m m H _ (Nat.le_refl _) (Nat.le_refl _) hn3 s9.whs r9.whs).mono ?_
      rintro e w10 ⟨rfl, x10⟩
      go_wp2
      go_ret
      exact ⟨rfl, y9.trans x10⟩
    · go_enter Try.func3, Try.ntmps3
      go_wp2_with fail
      refine (szWheelS_any a n cap _ (Nat.le_trans hc hm)).mono ?_
      rw [if_pos hn]
      rintro e w0 ⟨rfl, rfl⟩
      have hL : (1048576 - (n : Int)) = ((1048576 - n : Nat) : Int) := by omega
      rw [hL]
      have hneg : ¬ (((1048576 - n : Nat) : Int) < 0) := by omega
      go_wp2_with fail
      refine (szW2 b m cap2 (1048576 - n) _ (Nat.le_trans hc2 hm2) (by omega)).mono ?_
      rw [if_neg hn2]
      rintro e w0 ⟨rfl, rfl⟩
      go_wp2
      go_ret
      exact ⟨rfl, Ext.refl _⟩
  · go_enter Try.func3, Try.ntmps3
    go_wp2_with fail
    refine (szWheelS_any a n cap _ (Nat.le_trans hc hm)).mono ?_
    rw [if_neg hn]
    rintro e w0 ⟨rfl, rfl⟩
    go_wp2
    go_ret
    exact ⟨rfl, Ext.refl _⟩

end Go.Proofs.Ytadjphiipnlcdaa
