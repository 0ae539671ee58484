/- Contracts of impl's roots (chapter 2): reduced, root, CycRoot. -/
import Derived.Test.YtedjhkineeaokaaCyc4
import Derived.Laws.IdiomCopy
import Derived.OwnWalk
namespace Go.Proofs.Ytedjhkineeaokaa
open Go.ChangeShapes Go.WideShapes Go.ChangeAt Go.RowKit
set_option linter.unusedVariables false
/-- the cells of a row of n ints -/
def nums (f : Nat → Int) (n : Nat) : List Value := (List.range n).map fun i => .int .i64 (f i)
theorem nums_len (f : Nat → Int) (n : Nat) : (nums f n).length = n := by simp [nums]
theorem nums_get (f : Nat → Int) (n : Nat) {j : Nat} (h : j < n) : (nums f n)[j]? = some (.int .i64 (f j)) := by simp [nums, h]
theorem nums_congr {f g : Nat → Int} {n : Nat} (h : ∀ i, i < n → f i = g i) : nums f n = nums g n := by
  unfold nums
  apply List.map_congr_left
  intro i hi
  rw [h i (by simpa using hi)]
theorem nums_set (f : Nat → Int) (n j : Nat) (u : Int) : (nums f n).set j (.int .i64 u) = nums (fun i => if i = j then u else f i) n := by
  apply List.ext_getElem?
  intro i
  by_cases hi : i < n
  · rw [nums_get _ _ hi, List.getElem?_set]
    by_cases h : j = i
    · subst h; simp [nums_len, hi]
    · have h' : ¬ i = j := fun e => h e.symm
      simp [h, h', nums_get f n hi]
  · rw [List.getElem?_eq_none (by simp [nums_len]; omega), List.getElem?_eq_none (by simp [nums_len]; omega)]
theorem Blk.numsAt {w : World} {G n : Nat} {f : Nat → Int} (h : Blk w G (nums f n)) {j : Nat} (hj : j < n) : w.cell? ⟨G, j, none⟩ = some (.int .i64 (f j)) := by rw [h.cell j, nums_get f n hj]
theorem Blk.numsSet {w : World} {G n : Nat} {f : Nat → Int} (h : Blk w G (nums f n)) (j : Nat) (u : Int) : Blk (w.setCell ⟨G, j, none⟩ (.int .i64 u)) G (nums (fun i => if i = j then u else f i) n) := by
  have := h.set j (.int .i64 u); rwa [nums_set] at this
theorem ExtB.onto {G R : Nat} {a b c : World} (h : ExtB G a b) (k : ExtB R b c) (hR : a.heap.size ≤ R) : ExtB G a c :=
  ⟨k.1.trans h.1, k.2.1.trans h.2.1, k.2.2.1.trans h.2.2.1, Nat.le_trans h.size k.size, fun i hi hr => (k.2.2.2.2 i (Nat.lt_of_lt_of_le hi h.size) (by omega)).trans (h.2.2.2.2 i hi hr)⟩
/-- one power is brought down -/
def redStep (q : Nat) (f : Nat → Int) : Nat → Int := fun j => if j = q + 8 then 0 else if j = q then f q - f (q + 8) else if j = q + 4 then f (q + 4) + f (q + 8) else f j
/-- d powers are brought down, of N + 8 -/
def redD (p : Nat → Int) (N : Nat) : Nat → Nat → Int
  | 0 => p
  | d + 1 => redStep (N - d - 1) (redD p N d)

set_option maxHeartbeats 2000000 in
theorem reduced_any (p : Nat → Int) (N : Nat) (hN : N ≤ 20) (G c : Nat) (hc : N + 8 ≤ c) (hcm : c ≤ maxLen) (w : World) (hb : ∀ d, d ≤ N → ∀ j, j < N + 8 → -1000000000000 ≤ redD p N d j ∧ redD p N d j ≤ 1000000000000) (hG : Blk w G (nums p (N + 8))) :
    Calls Try.prog 48 #[.slice (some ⟨G, 0, none⟩) (N + 8) c] w fun e w' => e = .returned (cycV (redD p N N)) ∧ ExtB G w w' := by
  have hlt := hG.lt
  have g0 := hG.alloc (.cells (cyc8 fun _ => 0).toArray 34)
  have r0 := Blk.new w (cyc8 fun _ => 0) 34
  have x0 : ExtB G w (w.alloc (.cells (cyc8 fun _ => 0).toArray 34)) := (ExtB.refl G w).alloc _
  go_enter Try.func48, Try.ntmps48
  go_wp2
  generalize World.alloc _ _ = W at *
  go_loopw [3] (fun i wr => ∃ d : Nat, d ≤ N ∧ i = .int .i64 ((N - d + 7 : Nat) : Int) ∧ Blk wr G (nums (redD p N d) (N + 8)) ∧ Blk wr w.heap.size (cyc8 fun _ => 0) ∧ ExtB G w wr) (fun i _ => (intOf i).toNat)
  case atStart => exact ⟨0, by omega, by go_num, g0, r0, x0⟩
  case round =>
    obtain ⟨d, hd, rfl, g1, r1, x1⟩ := hrel
    by_cases hdn : d < N
    · obtain ⟨q, hq⟩ : ∃ q, N - d = q + 1 := ⟨N - d - 1, by omega⟩
      have bd := hb d hd
      have bd' := hb (d + 1) hdn
      have step : redD p N (d + 1) = redStep q (redD p N d) := by
        have : N - d - 1 = q := by omega
        simp only [redD, this]
      rw [step] at bd'
      generalize redD p N d = F at *
      rw [hq]
      obtain ⟨k, hk⟩ : ∃ k, k = q + 8 := ⟨_, rfl⟩
      obtain ⟨m, hm⟩ : ∃ m, m = q + 4 := ⟨_, rfl⟩
      have hk7 : q + 1 + 7 = k := by omega
      rw [hk7]
      have e4 : IntKind.i64.wrap ((k : Int) - 4) = (m : Int) := by rw [hk, hm]; exact (IntWalk.i64_in _ (by omega)).trans (by omega)
      have e8 : IntKind.i64.wrap ((k : Int) - 8) = (q : Int) := by rw [hk]; exact (IntWalk.i64_in _ (by omega)).trans (by omega)
      have e1 : IntKind.i64.wrap ((k : Int) - 1) = ((q + 7 : Nat) : Int) := by rw [hk]; exact (IntWalk.i64_in _ (by omega)).trans (by omega)
      have kn : k < N + 8 := by omega
      have mn : m < N + 8 := by omega
      have qn : q < N + 8 := by omega
      have k8 : (8 : Int) ≤ (k : Int) := by omega
      have ck := g1.numsAt kn
      have cm := g1.numsAt mn
      have cq := g1.numsAt qn
      have fr := g1.free
      have a1 : IntKind.i64.wrap (F m + F k) = F m + F k := IntWalk.i64_in _ (by have := bd m mn; have := bd k kn; omega)
      have a2 : IntKind.i64.wrap (F q - F k) = F q - F k := IntWalk.i64_in _ (by have := bd q qn; have := bd k kn; omega)
      have n1 : ¬ k = m := by omega
      have n2 : ¬ q = m := by omega
      have n3 : ¬ k = q := by omega
      have Hk := Lib.hid hk
      have Hm := Lib.hid hm
      have Hq := Lib.hid hq
      have Hs := Lib.hid step
      clear hk hm hq hk7 step
      go_wp2
      go_region
      have g2 := (g1.numsSet m (F m + F k)).keepB (ExtB.refl w.heap.size _).drew (by omega)
      have r2 := (r1.other (p := ⟨G, m, none⟩) (by show G ≠ w.heap.size; omega) (.int .i64 (F m + F k))).keepB (ExtB.refl G _).drew (by omega)
      have x2 := (x1.set (p := ⟨G, m, none⟩) (.inl rfl) (.int .i64 (F m + F k))).drew
      generalize World.drew _ = W2 at *
      have dk := g2.numsAt kn
      have dq := g2.numsAt qn
      have fr2 := g2.free
      simp only [if_neg n1] at dk
      simp only [if_neg n2] at dq
      clear ck cm cq fr g1 r1 x1
      go_wp2
      go_region
      have g3 := (g2.numsSet q (F q - F k)).keepB (ExtB.refl w.heap.size _).drew (by omega)
      have r3 := (r2.other (p := ⟨G, q, none⟩) (by show G ≠ w.heap.size; omega) (.int .i64 (F q - F k))).keepB (ExtB.refl G _).drew (by omega)
      have x3 := (x2.set (p := ⟨G, q, none⟩) (.inl rfl) (.int .i64 (F q - F k))).drew
      generalize World.drew _ = W3 at *
      have dk := g3.numsAt kn
      have fr3 := g3.free
      clear dk dq fr2 g2 r2 x2
      have dk := g3.numsAt kn
      go_wp2
      have hk := Hk.out
      have hm := Hm.out
      have hq := Hq.out
      have hs := Hs.out
      clear Hk Hm Hq Hs e4 e8 e1 a1 a2
      go_roundw
      case rel =>
        refine ⟨d + 1, by omega, ?_, ?_, r3.other (by show G ≠ w.heap.size; omega) _, x3.set (.inl rfl) _⟩
        · rw [show N - (d + 1) + 7 = q + 7 by omega]; rfl
        · have g4 := g3.numsSet k 0
          rw [hs]
          rw [nums_congr (g := redStep q F)] at g4
          · exact g4
          · intro i hi
            simp only [redStep, ← hk, ← hm]
      case measure => simp [intOf]; omega
    · have hd' : d = N := by omega
      subst hd'
      rw [show d - d + 7 = 7 by omega]
      obtain ⟨W5, e5, k5, z5⟩ := set8 (redD p d d) (Blk.new wr (cyc8 fun _ => 0) 34) rfl
      have hcp : (Builtin.copy_ #[66, 66] 3 #[.slice (some ⟨wr.heap.size, 0, none⟩) 8 8, .slice (some ⟨G, 0, none⟩) (d + 8) c]).run Try.prog (wr.alloc (.cells (cyc8 fun _ => 0).toArray 34)) = .ok (goInt 8) W5 := by
        have h := run_copy_cells (P := Try.prog) (wr.alloc (.cells (cyc8 fun _ => 0).toArray 34)) 66 66 3 3 wr.heap.size 0 8 8 ⟨G, 0, none⟩ (d + 8) c (cyc8 (redD p d d)) Try.underlying66 (by kernel_rfl)
          (by show (8 : Nat) = Nat.min (d + 8) 8; exact (Nat.min_eq_right (by omega)).symm)
          (by
            intro j v hj
            have hj8 : j < 8 := by
              have := (List.getElem?_eq_some_iff.1 hj).1; simpa using this
            have ha : (⟨G, 0, none⟩ : Addr).add j = ⟨G, j, none⟩ := by unfold Addr.add; split <;> simp_all
            rw [ha, (g1.alloc _).numsAt (j := j) (by omega)]
            rw [← hj]
            obtain rfl | rfl | rfl | rfl | rfl | rfl | rfl | rfl : j = 0 ∨ j = 1 ∨ j = 2 ∨ j = 3 ∨ j = 4 ∨ j = 5 ∨ j = 6 ∨ j = 7 := by omega
            all_goals rfl)
          (by
            intro j hj
            have hj8 : j < 8 := by simpa using hj
            rw [(Blk.new wr (cyc8 fun _ => 0) 34).cell]
            obtain rfl | rfl | rfl | rfl | rfl | rfl | rfl | rfl : j = 0 ∨ j = 1 ∨ j = 2 ∨ j = 3 ∨ j = 4 ∨ j = 5 ∨ j = 6 ∨ j = 7 := by omega
            all_goals rfl)
          (fun j _ => (Blk.new wr (cyc8 fun _ => 0) 34).free _)
          (by simp [Value.oneCell'])
        simpa [World.setCells, e5] using h
      have r5 := (r1.alloc (.cells (cyc8 fun _ => 0).toArray 34)).keepB z5 (by have := r1.lt; omega)
      have x5 : ExtB G w W5 := x1.trans ((z5.ext ((Ext.refl wr).alloc _) (Nat.le_refl _)).toB G)
      have c5 := k5.cell
      clear e5
      go_wp2_with (refine store_cyc infoCyc (x := .tmp 2) (y := .tmp 41) w.heap.size (redD p d d) _ rfl rfl r5 rfl ?_)
      intro w6 k6 z6
      have x6 := x5.onto z6 (Nat.le_refl _)
      have c6 := k6.cell
      clear c5 z6 z5 hcp k5 r5
      go_wp2
      exact bodyPost_ret (v := cycV (redD p d d)) (by simp [results, Try.results48, go_sem, c6]) rfl ⟨rfl, x6⟩

/-- the powers of a root -/
def powF (t : Nat) : Nat → Int := fun i => if i = t then 1 else 0
theorem powF_bd : ∀ t, t < 24 → ∀ d, d ≤ 16 → ∀ j, j < 24 → -8 ≤ redD (powF t) 16 d j ∧ redD (powF t) 16 d j ≤ 8 := by decide +kernel
theorem powF_red : ∀ t, t < 24 → ∀ j, j < 8 → redD (powF t) 16 16 j = rootF t j := by decide +kernel

theorem infoIntC : (Try.prog.info? 3).map (fun i => (i.zero, i.size, i.bytes)) = some (some (.int .i64 0), 1, 8) := by kernel_rfl
theorem Blk.ofOwns {w : World} {b n : Nat} {e : TypeId} {g : Nat} {xs : List Value} (h : w.ownsRow b e 1 (.slice (some ⟨g, 0, none⟩) n n) n xs) : Blk w g xs := by
  obtain ⟨h0, h | ⟨g', cap, cur, h1, h2, h3, h4, h5, h6, h7⟩⟩ := h
  · cases h.1
  · cases h1
    refine ⟨e, ?_⟩
    have : cur.toList = xs := by rw [← h7, List.take_of_length_le]; simp [h6]
    rw [h3, ← this]
theorem madeNums : (madeCells #[Value.int .i64 0] 24).toList = nums (fun _ => 0) 24 := by
  first | kernel_rfl | (simp [madeCells, nums]; done)
theorem Ext.grownNone {a w w' : World} (h : Ext a w) (hg : w.grownBy w' none) : Ext a w' := Below.grown h hg h.size fun k e => by cases e
set_option maxHeartbeats 2000000 in
theorem root_any (t : Nat) (ht : t < 24) (w : World) : Calls Try.prog 42 #[.int .i64 t] w fun e w' => e = .returned (cycV (rootF t)) ∧ Ext w w' := by
  obtain ⟨i0, hi, hz0, hz1, hz2⟩ := info_parts infoIntC
  have x0 : Ext w (w.alloc (.cells (cyc8 fun _ => 0).toArray 34)) := by repeat (first | exact Ext.refl _ | assumption | refine Ext.drew ?_ | refine Ext.alloc ?_ _ | refine Ext.trans ?_ (by assumption))
  have r0 := Blk.new w (cyc8 fun _ => 0) 34
  go_enter Try.func42, Try.ntmps42
  go_wp2_with (at_make; refine wpList_make_full _ rfl _ _ 66 rfl 0 3 i0 (.int .i64 0) 1 Try.underlying66 hi hz0 hz1 .i64 .i64 24 24 24 rfl rfl rfl rfl ?m1 (by decide) (Nat.zero_le _) ?_)
  case m1 => rw [hz2]; omega
  intro w1 o1 y1
  have o2 : w1.ownsRow 0 3 1 (.slice (some ⟨w.heap.size + 1, 0, none⟩) 24 24) 24 (nums (fun _ => 0) 24) := by rw [← madeNums]; exact o1
  have g1 := Blk.ofOwns o2
  have x1 : Ext w w1 := Ext.grownNone x0 y1
  have r1 := r0.keep (Ext.grownNone (Ext.refl _) y1)
  clear r0 o1 o2 y1 x0 hi hz0 hz1 hz2
  have g1c := g1.numsAt ht
  have g1f := g1.free
  go_wp2_with fail
  have g2 : Blk _ _ (nums (powF t) (16 + 8)) := g1.numsSet t 1
  have r2 := r1.other (p := ⟨w.heap.size + 1, t, none⟩) (by show w.heap.size + 1 ≠ w.heap.size; omega) (.int .i64 1)
  have x2 := x1.set (p := ⟨w.heap.size + 1, t, none⟩) (by show w.heap.size ≤ w.heap.size + 1; omega) (.int .i64 1)
  generalize World.setCell _ _ _ = W2 at *
  refine (reduced_any (powF t) 16 (by omega) (w.heap.size + 1) 24 (by omega) (by decide) W2 (fun d hd j hj => ?_) g2).mono ?_
  · have := powF_bd t ht d hd j hj; omega
  rintro e w3 ⟨rfl, z3⟩
  have x3 := z3.ext x2 (by omega)
  have r3 := r2.keepB z3 (by omega)
  clear z3 x2 r2 g2 g1c g1f r1 x1 g1
  have hr : (cycV (redD (powF t) 16 16)) = cycV (rootF t) := by simp only [cycV, powF_red t ht _ (show 0 < 8 by omega), powF_red t ht _ (show 1 < 8 by omega), powF_red t ht _ (show 2 < 8 by omega), powF_red t ht _ (show 3 < 8 by omega), powF_red t ht _ (show 4 < 8 by omega), powF_red t ht _ (show 5 < 8 by omega), powF_red t ht _ (show 6 < 8 by omega), powF_red t ht _ (show 7 < 8 by omega)]
  rw [hr]
  clear hr
  go_wp2_with (refine store_cyc infoCyc (x := .tmp 2) (y := .tmp 9) w.heap.size (rootF t) _ rfl rfl r3 rfl ?_)
  intro w4 r4 z4
  have x4 := z4.ext x3 (by omega)
  have c4 := r4.cell
  clear z4 r3 x3
  go_wp2
  exact bodyPost_ret (v := cycV (rootF t)) (by simp [results, Try.results42, go_sem, c4]) rfl ⟨rfl, x4⟩

set_option maxHeartbeats 1000000 in
theorem iCycRoot_any (t : Int) (w : World) : Calls Try.prog 26 #[.int .i64 t] w fun e w' => e = .returned (tupCB (rootM t)) ∧ Ext w w' := by
  by_cases ht : inR 0 23 t = true
  · obtain ⟨n, hn, rfl⟩ := cycRoot_ok ht
    have H := Lib.hid (show rootM (n : Int) = (rootF n, true) from by simp [rootM, ht])
    have k0 := Blk.new w (cyc8 fun _ => 0) 34
    have x0 : Ext w (w.alloc (.cells (cyc8 fun _ => 0).toArray 34)) := by repeat (first | exact Ext.refl _ | assumption | refine Ext.drew ?_ | refine Ext.alloc ?_ _ | refine Ext.trans ?_ (by assumption))
    go_enter Try.func26, Try.ntmps26
    go_wp2_with (go_at_call 41; ((with_reducible refine (tvalid_any _ _).mono ?_); rintro e w' ⟨rfl, rfl⟩))
    refine (root_any n hn _).mono ?_
    rintro e w1 ⟨rfl, x1⟩
    have k1 := k0.keep x1
    have x2 := x0.trans x1
    clear k0 x0 x1
    go_wp2_with (refine store_cyc infoCyc (x := .tmp 2) (y := .tmp 9) w.heap.size (rootF n) _ rfl rfl k1 rfl ?_)
    intro w2 k2 z2
    have x3 := z2.ext x2 (by omega)
    have c2 := k2.cell
    clear z2 k1
    go_wp2
    exact bodyPost_ret (v := .tuple #[cycV (rootF n), .bool true]) (by simp [results, Try.results26, go_sem, c2]) rfl ⟨by rw [H.out]; rfl, x3⟩
  · have ht' : inR 0 23 t = false := by simpa using ht
    have H := Lib.hid (show rootM t = (fun _ => 0, false) from by simp [rootM, ht'])
    clear ht
    go_enter Try.func26, Try.ntmps26
    go_wp2_with (go_at_call 41; ((with_reducible refine (tvalid_any _ _).mono ?_); rintro e w' ⟨rfl, rfl⟩))
    go_returns
    exact ⟨by rw [H.out]; rfl, by repeat (first | exact Ext.refl _ | assumption | refine Ext.drew ?_ | refine Ext.alloc ?_ _ | refine Ext.trans ?_ (by assumption))⟩

end Go.Proofs.Ytedjhkineeaokaa
