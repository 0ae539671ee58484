/- Wheels: slices.Grow and slices.Concat; impl.DesignSum. -/
import Derived.Test.YtadjphiipnlcdaaWhlV
import Derived.Test.YtadjphiipnlcdaaWhlF
import Derived.Test.YtadjphiipnlcdaaWhlM
import Derived.Lib.AppendZeros
namespace Go.Proofs.Ytadjphiipnlcdaa
open Go.ChangeShapes Go.WideShapes Go.ChangeAt Go.RowKit
set_option linter.unusedVariables false
set_option maxRecDepth 100000


/-- two lists, one behind the other -/
def catF (n : Nat) (X Y : Nat → Nat → Int) : Nat → Nat → Int := fun i => if i < n then X i else Y (i - n)
theorem catF_cyc {N M : Nat} {X Y : Nat → Nat → Int} (hX : ∀ i, i < N → cycOk (tl (X i)) = true) (hY : ∀ i, i < M → cycOk (tl (Y i)) = true) : ∀ i, i < N + M → cycOk (tl (catF N X Y i)) = true := by
  intro i hi
  unfold catF
  by_cases h : i < N
  · rw [if_pos h]; exact hX i h
  · rw [if_neg h]; exact hY _ (by omega)
theorem zeroCells_len (z : Array Value) (n : Nat) : (Builtin.zeroCells z n).size = n * z.size := by simp [Builtin.zeroCells]

set_option maxHeartbeats 2000000 in
theorem grow_any (n : Nat) (hn : n ≤ 1000) (G : Nat → Nat → Int) (w : World) :
    Calls Try.prog 57 #[.slice none 0 0, .int .i64 (n : Int)] w fun e w' => ∃ v, e = .returned v ∧ OwnW w' w.heap.size v 0 G ∧ Ext w w' := by
  obtain ⟨i0, hi, hz0, hz1, hz2⟩ := info_partsW infoWhC
  have h1 : ¬ ((n : Int) < 0) := by omega
  by_cases h0 : n = 0
  · subst h0
    go_enter Try.func57, Try.ntmps57
    go_wp2
    go_ret
    exact ⟨_, rfl, World.ownsRow_nil _ _ _ _, Ext.refl _⟩
  · have h2 : (n : Int) > 0 := by omega
    have hrz : ∀ ty, (Builtin.append_ #[25, 3] ty #[.slice none 0 0, .int .i64 (n : Int)]).run Try.prog w = _ := fun ty =>
      Lib.run_append_nil_zeros w 25 3 ty 41 i0 (whV fun _ => 0) .i64 .i64 Try.underlying25 Try.underlying3 hi hz0 n (by omega) (by omega) (by omega) (by rw [hz2]; omega)
    have hge : n ≤ grownCap w n 0 41 := grownCap_ge w _ _ _
    have hle : grownCap w n 0 41 ≤ maxLen := grownCap_le_maxLen w n 0 41 (by unfold maxLen; omega)
    generalize grownCap w n 0 41 = C at hrz hge hle
    have hsz : (Builtin.zeroCells (whV fun _ => 0).cells n ++ Builtin.zeroCells (whV fun _ => 0).cells (C - n)).size = C * 9 := by
      rw [Array.size_append, zeroCells_len, zeroCells_len]
      show n * 9 + (C - n) * 9 = C * 9
      omega
    generalize (Builtin.zeroCells (whV fun _ => 0).cells n ++ Builtin.zeroCells (whV fun _ => 0).cells (C - n)) = cur at hrz hsz
    have own : OwnW (w.drew.alloc (.cells cur 41)) w.heap.size (.slice (some ⟨w.heap.size, 0, none⟩) 0 C) 0 G := World.ownsRow_made w.drew cur C (Nat.le_refl _) hle hsz
    have x0 : Ext w (w.drew.alloc (.cells cur 41)) := ((Ext.refl w).drew).alloc _
    unfold maxLen at hle
    clear hsz hi hz0 hz1 hz2
    go_enter Try.func57, Try.ntmps57
    go_wp2_with (at_builtin; refine Lib.wpList_append_run _ rfl _ _ _ _ rfl _ _ rfl rfl _ _ (hrz _) ?_)
    all_goals (go_ret; exact ⟨_, rfl, own, x0⟩)

theorem newsAt {w : World} {g n : Nat} {G : Nat → Nat → Int} (h : Whs w (some ⟨g, 0, none⟩) n G) : ∀ j u, (flat n G)[j]? = some u → w.cell? ((⟨g, 0, none⟩ : Addr).add j) = some u := news0 h (Nat.le_refl _)

set_option maxHeartbeats 4000000 in
theorem concat_any (g p q N M c1 c2 : Nat) (X Y : Nat → Nat → Int) (w : World) (hc1 : N ≤ c1) (hc2 : M ≤ c2) (hn : N ≤ 12) (hm : M ≤ 12) (h1 : Whs w (some ⟨p, 0, none⟩) N X) (h2 : Whs w (some ⟨q, 0, none⟩) M Y)
    (hg : Blk w g [.slice (some ⟨p, 0, none⟩) N c1, .slice (some ⟨q, 0, none⟩) M c2]) :
    Calls Try.prog 31 #[.slice (some ⟨g, 0, none⟩) 2 2] w fun e w' => ∃ v, e = .returned v ∧ OwnW w' w.heap.size v (N + M) (catF N X Y) ∧ Ext w w' := by
  obtain ⟨i0, hi, hz0, hz1, hz2⟩ := info_partsW infoWhC
  have k0 : w.cell? ⟨g, 0, none⟩ = some (.slice (some ⟨p, 0, none⟩) N c1) := hg.cell 0
  have k1 : w.cell? ⟨g, 1, none⟩ = some (.slice (some ⟨q, 0, none⟩) M c2) := hg.cell 1
  have hl := hg.lt
  have hn1 : ¬ ((N : Int) < 0) := by omega
  have hn2 : ¬ ((N : Int) + (M : Int) < 0) := by omega
  go_enter Try.func31, Try.ntmps31
  go_wp2
  refine wp_loop_rounds 3 ?_
  rw [rounds_succ]
  go_wp2
  rw [rounds_succ]
  go_wp2
  rw [rounds_succ]
  go_wp2_with fail
  rw [show ((N : Int) + (M : Int)) = ((N + M : Nat) : Int) by omega]
  refine (grow_any (N + M) (by omega) (fun i => X i) _).mono ?_
  rintro e w1 ⟨v1, rfl, o1, x1⟩
  have d0 : w1.cell? ⟨g, 0, none⟩ = some (.slice (some ⟨p, 0, none⟩) N c1) := (hg.keep x1).cell 0
  have N1 := newsAt (h1.keep x1)
  go_wp2
  refine wp_loop_rounds 3 ?_
  rw [rounds_succ]
  go_wp2_with (at_builtin; refine wpList_append_own _ rfl _ _ 25 rfl w.heap.size 41 i0 (whV fun _ => 0) 9 72 Try.underlying25 hi hz0 hz1 hz2 rfl (by decide) _ _ _ rfl o1 ⟨p, 0, none⟩ N c1 (flat N X) rfl (flat_len _ _) ?c1 ?c2 ?c3 ?c4 ?c5 ?_)
  case c1 => exact N1
  case c2 => exact one_flat _ _
  case c3 => unfold maxLen; omega
  case c4 => omega
  case c5 => exact x1.size
  intro v2 w2 hown2 hgrow2 _
  obtain ⟨r2, hr2, z2⟩ := grownW o1 hgrow2 x1.size
  have y2 := z2.ext (z := w) x1 hr2
  have o2 : OwnW w2 w.heap.size v2 N X := by
    first
    | exact hown2
    | (rw [Nat.zero_add] at hown2; exact hown2)
  have d1 : w2.cell? ⟨g, 1, none⟩ = some (.slice (some ⟨q, 0, none⟩) M c2) := (hg.keep y2).cell 1
  have N2 := newsAt (h2.keep y2)
  clear hown2 hgrow2 z2 o1 x1 N1
  go_wp2
  rw [rounds_succ]
  go_wp2_with (at_builtin; refine wpList_append_own _ rfl _ _ 25 rfl w.heap.size 41 i0 (whV fun _ => 0) 9 72 Try.underlying25 hi hz0 hz1 hz2 rfl (by decide) _ _ _ rfl o2 ⟨q, 0, none⟩ M c2 (flat M Y) rfl (flat_len _ _) ?c1 ?c2 ?c3 ?c4 ?c5 ?_)
  case c1 => exact N2
  case c2 => exact one_flat _ _
  case c3 => unfold maxLen; omega
  case c4 => omega
  case c5 => exact y2.size
  intro v3 w3 hown3 hgrow3 _
  obtain ⟨r3, hr3, z3⟩ := grownW o2 hgrow3 y2.size
  have y3 := z3.ext (z := w) y2 hr3
  have o3 : OwnW w3 w.heap.size v3 (N + M) (catF N X Y) := by
    have := hown3
    rw [flat_app] at this
    exact this
  clear hown3 hgrow3 z3 o2 y2 N2
  go_wp2
  rw [rounds_succ]
  go_wp2
  go_ret
  exact ⟨_, rfl, o3, y3⟩

set_option maxHeartbeats 2000000 in
theorem iDesignSum_any (p q N M c1 c2 : Nat) (X Y : Nat → Nat → Int) (w : World) (hc1 : N ≤ c1) (hc2 : M ≤ c2) (hn : N ≤ 1048576) (hm : M ≤ 1048576) (h1 : Whs w (some ⟨p, 0, none⟩) N X) (h2 : Whs w (some ⟨q, 0, none⟩) M Y) :
    Calls Try.prog 15 #[.slice (some ⟨p, 0, none⟩) N c1, .slice (some ⟨q, 0, none⟩) M c2] w (ResW (validM N X && validM M Y) (catF N X Y) (N + M) w) := by
  go_enter Try.func15, Try.ntmps15
  go_wp2_with fail
  refine (iDesignValid_any _ N c1 X _ hc1 hn h1).mono ?_
  rintro e w2 ⟨rfl, x2⟩
  have h2' := h2.keep x2
  by_cases hv : validM N X = true
  · rw [hv]
    have V1 := Lib.hid hv
    clear hv
    go_wp2_with fail
    refine (iDesignValid_any _ M c2 Y _ hc2 hm h2').mono ?_
    rintro e w3 ⟨rfl, x3⟩
    have y3 := x2.trans x3
    clear h2' x2 x3
    by_cases hv : validM M Y = true
    · rw [hv]
      have n1 := validM_le V1.out
      have n2 := validM_le hv
      have CC := Lib.hid (catF_cyc (validM_cyc V1.out) (validM_cyc hv))
      have V2 := Lib.hid (show (validM N X && validM M Y) = true by simp [V1.out, hv])
      clear hv V1
      have B := Blk.new w3 [.slice (some ⟨p, 0, none⟩) N c1, .slice (some ⟨q, 0, none⟩) M c2] 25
      have y4 : Ext w (w3.alloc (.cells #[.slice (some ⟨p, 0, none⟩) N c1, .slice (some ⟨q, 0, none⟩) M c2] 25)) := y3.alloc _
      go_wp2_with fail
      refine (concat_any w3.heap.size p q N M c1 c2 X Y _ hc1 hc2 n1 n2 (h1.keep y4) (h2.keep y4) B).mono ?_
      rintro e w5 ⟨v, rfl, o5, x5⟩
      have y5 := y4.trans x5
      clear B y4 y3 h1 h2 x5
      obtain ⟨a5, c5, rfl, hc5, _, hw5⟩ := o5.whs
      go_wp2_with fail
      refine (tidied_any a5 (N + M) c5 (catF N X Y) _ hc5 (by omega) hw5 CC.out).mono ?_
      rintro e w6 ⟨v, ok, m, R, rfl, oc, tr, x6⟩
      have oc' := (oc.mono y5.size).own
      have y6 := y5.trans x6
      clear oc y5 x6 hw5 o5
      have TRK := Lib.hid tr
      clear tr
      go_wp2
      go_ret2
      exact ⟨v, ok, m, R, rfl, oc', .inl ⟨V2.out, TRK.out⟩, y6⟩
    · have hv' : validM M Y = false := by simpa using hv
      rw [hv']
      have V2 := Lib.hid (show (validM N X && validM M Y) = false by simp [hv'])
      clear hv hv'
      go_wp2_with fail
      go_ret2
      exact ⟨_, false, 0, X, rfl, .inl ⟨rfl, rfl⟩, .inr ⟨V2.out, rfl, rfl⟩, y3⟩
  · have hv' : validM N X = false := by simpa using hv
    rw [hv']
    have V2 := Lib.hid (show (validM N X && validM M Y) = false by simp [hv'])
    clear hv hv'
    go_wp2_with fail
    go_ret2
    exact ⟨_, false, 0, X, rfl, .inl ⟨rfl, rfl⟩, .inr ⟨V2.out, rfl, rfl⟩, x2⟩

end Go.Proofs.Ytadjphiipnlcdaa
