/- Wheels: impl.changed, impl.DesignTidy. Written by mk_whlo.py. -/
import Derived.Test.YtadjphiipnlcdaaWhlM
import Derived.Test.YtadjphiipnlcdaaWhlN
namespace Go.Proofs.Ytadjphiipnlcdaa
open Go.ChangeShapes Go.WideShapes Go.ChangeAt Go.RowKit
set_option linter.unusedVariables false
set_option maxRecDepth 100000


/-- what impl's DesignTidy and its like come to, for a design X of N wheels that are changed to Y -/
def TidyTo (X Y : Nat → Nat → Int) (N : Nat) (w : World) (e : Ending) (w' : World) : Prop :=
  ∃ v ok m R, e = .returned (.tuple #[v, .bool ok]) ∧ OwnC w' w.heap.size v m R ∧ ((validM N X = true ∧ TR Y N ok m R) ∨ (validM N X = false ∧ ok = false ∧ m = 0)) ∧ Ext w w'
theorem OwnC.mono {w : World} {base b m : Nat} {v : Value} {R : Nat → Nat → Int} (h : OwnC w base v m R) (hb : b ≤ base) : OwnC w b v m R := by
  rcases h with h | ⟨g, cap, c2, h1, h2, h3, h4⟩
  · exact .inl h
  · exact .inr ⟨g, cap, c2, h1, h2, h3, h4.mono hb⟩

set_option maxHeartbeats 2000000 in
theorem changedT_any (a : Option Addr) (N cap : Nat) (X : Nat → Nat → Int) (w : World) (hc : N ≤ cap) (hn : N ≤ 1048576) (h : Whs w a N X) :
    Calls Try.prog 33 #[.slice a N cap, .func (.func 43) #[] #[]] w (TidyTo X (fun i => X i) N w) := by
  obtain ⟨i0, hi, hz0, hz1, hz2⟩ := info_partsW infoWhC
  go_enter Try.func33, Try.ntmps33
  go_wp2_with fail
  refine (iDesignValid_any a N cap X _ hc hn h).mono ?_
  rintro e w2 ⟨rfl, x2⟩
  have h2 := h.keep x2
  by_cases hv : validM N X = true
  · rw [hv]
    have V := Lib.hid hv
    have V12 := validM_le hv
    have VC := Lib.hid (validM_cyc hv)
    have VY := Lib.hid (validM_cyc hv)
    clear hv
    go_wp2_with (at_make; refine wpList_make_own _ rfl _ _ 25 rfl w.heap.size 41 i0 (whV fun _ => 0) 9 Try.underlying25 hi hz0 hz1 .i64 .i64 (N : Int) N rfl rfl rfl ?m1 ?m2 ?m3 ?_)
    case m1 => rw [hz2]; omega
    case m2 => unfold maxLen; omega
    case m3 => exact x2.size
    intro w3 hown y3
    have o3 : OwnW w3 w.heap.size (.slice (some ⟨w2.heap.size, 0, none⟩) 0 N) 0 (fun i => X i) := hown
    have x3 : Ext w w3 := Ext.grownNoneW x2 y3
    clear hown y3 h2
    go_wp2
    go_loopw [6, 17] (fun out i wr => ∃ k : Nat, k ≤ N ∧ i = .int .i64 (k : Int) ∧ OwnW wr w.heap.size out k (fun i => X i) ∧ out ≠ .slice none 0 0 ∧ Ext w wr) (fun _ i _ => N - (intOf i).toNat)
    case atStart => exact ⟨0, by omega, rfl, o3, by simp, x3⟩
    case round =>
      obtain ⟨k, hk, rfl, ho, hnn, x5⟩ := hrel
      clear o3 x3
      have hw := h.keep x5
      by_cases hlt : k < N
      · rcases hw with hw | ⟨b, off, rfl, hb, hcell⟩
        · omega
        · have hr := Lib.hid (row9 (hcell k hlt))
          clear hcell h
          go_wp2_with (refine wpList_load_at rfl 41 (.tmp 19) rfl b (off + k * 9) rfl (wh9 (X k)).toArray _ hr.out Try.underlying41 rfl infoWh ?_)
          refine (same_any (X k) _).mono ?_
          rintro e w5 ⟨rfl, x6⟩
          have x7 := ((Ext.refl wr).alloc (.cells (wh9 (X k)).toArray 41)).trans x6
          have o5 := ho.keep x7
          have y5 := x5.trans x7
          have z5 := y5.size
          clear ho x5 x6 x7
          go_wp2_with (at_builtin; refine wpList_append_own _ rfl _ _ 25 rfl w.heap.size 41 i0 (whV fun _ => 0) 9 72 Try.underlying25 hi hz0 hz1 hz2 rfl (by decide) _ _ _ rfl (World.ownsRow.alloc o5 _) ⟨w5.heap.size, 0, none⟩ 1 1 (wh9 (X k)) rfl rfl ?c1 ?c2 ?c3 ?c4 ?c5 ?_)
          case c1 => exact newsB (Blk.new w5 (wh9 (X k)) 41)
          case c2 => exact one_wh9 _
          case c3 => unfold maxLen; omega
          case c4 => omega
          case c5 => simp; omega
          · intro v' w6 hown' hgrow hnil
            have o6 : OwnW (w5.alloc (.cells (wh9 (X k)).toArray 41)) w.heap.size _ k (fun i => X i) := World.ownsRow.alloc o5 _
            have o7 : OwnW w6 w.heap.size v' (k + 1) (fun i => X i) := by
              have : OwnW w6 w.heap.size v' (k + 1) (fun i => if i < k then X i else X k) := by
                unfold OwnW
                rw [← flat_app k 1 (fun i => X i) (fun _ => X k), ← flat_one]
                exact hown'
              refine OwnW.congr this fun i hi c hc => ?_
              by_cases h1 : i < k
              · simp only [if_pos h1]
              · have h2 : i = k := by omega
                subst h2; simp only [if_neg h1]
            have hnil2 : v' ≠ .slice none 0 0 := hnil
            obtain ⟨q, hq, x8⟩ := grownW o6 hgrow (by simp; omega)
            have y8 := x8.ext (z := w) (y5.alloc _) hq
            clear o6 o5 hown' hgrow hnil x8 y5 hnn
            go_wp2
            go_roundw
            case rel => exact ⟨k + 1, by omega, by go_num, o7, hnil2, y8⟩
            case measure => simp [intOf]; omega
      · have hk8 : k = N := by omega
        subst hk8
        clear hw h
        obtain ⟨ao, co, rfl, hco, hcm, hwo⟩ := ho.whs
        go_wp2_with fail
        refine (tidied_any ao k co (fun i => X i) _ hco (by omega) hwo (VY.out)).mono ?_
        rintro e w4 ⟨v, ok, m, R, rfl, oc, tr, x6⟩
        have oc' := oc.mono x5.size
        have y6 := x5.trans x6
        clear oc x5 x6 hwo ho
        have TRK := Lib.hid tr
        clear tr
        go_wp2
        go_ret2
        exact ⟨v, ok, m, R, rfl, oc', .inl ⟨V.out, TRK.out⟩, y6⟩
  · have hv' : validM N X = false := by simpa using hv
    rw [hv']
    have V := Lib.hid hv'
    clear hv hv' h2
    go_wp2_with fail
    go_ret2
    exact ⟨_, false, 0, X, rfl, .inl ⟨rfl, rfl⟩, .inr ⟨V.out, rfl, rfl⟩, x2⟩

end Go.Proofs.Ytadjphiipnlcdaa
