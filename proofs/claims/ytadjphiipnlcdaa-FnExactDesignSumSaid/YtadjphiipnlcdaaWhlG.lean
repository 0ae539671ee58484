/- Wheels: spec.l5Done, l5Tidy, DesignTidy. -/
import Derived.Test.YtadjphiipnlcdaaWhlF
import Derived.Test.YtadjphiipnlcdaaWhlQ
import Derived.Test.YtadjphiipnlcdaaCycLaws
namespace Go.Proofs.Ytadjphiipnlcdaa
open Go.ChangeShapes Go.WideShapes Go.ChangeAt Go.RowKit
set_option linter.unusedVariables false
set_option maxRecDepth 100000


theorem eqF8_zero (F : Nat → Int) : eqF8 (tl F) (fun _ => 0) = true ↔ isZ F := by
  simp only [eqF8, tl, Bool.and_eq_true, beq_iff_eq, isZ]
  constructor
  · rintro ⟨⟨⟨⟨⟨⟨⟨h0, h1⟩, h2⟩, h3⟩, h4⟩, h5⟩, h6⟩, h7⟩ j hj
    obtain rfl | rfl | rfl | rfl | rfl | rfl | rfl | rfl : j = 0 ∨ j = 1 ∨ j = 2 ∨ j = 3 ∨ j = 4 ∨ j = 5 ∨ j = 6 ∨ j = 7 := by omega
    all_goals assumption
  · intro h
    exact ⟨⟨⟨⟨⟨⟨⟨h 0 (by omega), h 1 (by omega)⟩, h 2 (by omega)⟩, h 3 (by omega)⟩, h 4 (by omega)⟩, h 5 (by omega)⟩, h 6 (by omega)⟩, h 7 (by omega)⟩
/-- the radius is 0 -/
def zW (F : Nat → Int) : Bool := eqF8 (tl F) (fun _ => 0)
theorem zW_iff (F : Nat → Int) : zW F = true ↔ isZ F := eqF8_zero F
theorem eqWz (F : Nat → Int) (w : World) : (Op.equalIn 10000 39 (.agg #[.int .i64 (F 1), .int .i64 (F 2), .int .i64 (F 3), .int .i64 (F 4), .int .i64 (F 5), .int .i64 (F 6), .int .i64 (F 7), .int .i64 (F 8)])
    (.agg #[.int .i64 0, .int .i64 0, .int .i64 0, .int .i64 0, .int .i64 0, .int .i64 0, .int .i64 0, .int .i64 0])).run Try.prog w = .ok (zW F) w := eqC (tl F) (fun _ => 0) w
/-- what tidying hands back -/
def Tidied (X : Nat → Nat → Int) (N : Nat) (w : World) (e : Ending) (w' : World) : Prop :=
  ∃ v ok m R, e = .returned (.tuple #[v, .bool ok]) ∧ OwnW w' w.heap.size v m R ∧ TR X N ok m R ∧ Ext w w'
set_option maxHeartbeats 4000000 in
theorem l5Done_any (a : Option Addr) (n cap : Nat) (G : Nat → Nat → Int) (w : World) (hc : n ≤ cap) (hn : n ≤ 100) (h : Whs w a n G) :
    Calls Try.prog 47 #[.slice a n cap, .bool true] w fun e w' => ∃ v m H, Flt G n m H ∧ Ext w w' ∧
      ((validM m H = true ∧ e = .returned (.tuple #[v, .bool true]) ∧ OwnW w' w.heap.size v m H) ∨ (validM m H = false ∧ e = .returned (.tuple #[v, .bool false]) ∧ OwnW w' w.heap.size v 0 H)) := by
  obtain ⟨i0, hi, hz0, hz1, hz2⟩ := info_partsW infoWhC
  have hlit : OwnW (w.alloc (.cells #[] 41)) w.heap.size (.slice (some ⟨w.heap.size, 0, none⟩) 0 0) 0 (fun _ _ => 0) := World.ownsRow_lit (w := w) (base := w.heap.size) (e := 41) (size := 9) #[] 0 (Nat.le_refl _) (by decide) rfl
  have x0 : Ext w (w.alloc (.cells #[] 41)) := (Ext.refl w).alloc _
  go_enter Try.func47, Try.ntmps47
  go_wp2
  go_loopw [6, 7] (fun out i wr => ∃ (k m : Nat) (H : Nat → Nat → Int), k ≤ n ∧ i = .int .i64 (k : Int) ∧ Flt G k m H ∧ OwnW wr w.heap.size out m H ∧ Ext w wr) (fun _ i _ => n - (intOf i).toNat)
  case atStart => exact ⟨0, 0, fun _ _ => 0, by omega, rfl, Flt.zero _ _, hlit, x0⟩
  case round =>
    obtain ⟨k, m, H, hk, rfl, hF, ho, x1⟩ := hrel
    clear hlit x0
    have hml := hF.le
    have hw := h.keep x1
    have FL := Lib.hid hF
    clear hF
    by_cases hlt : k < n
    · rcases hw with hw | ⟨b, off, rfl, hb, hcell⟩
      · omega
      · obtain ⟨c0, c1, c2, c3, c4, c5, c6, c7, c8⟩ := cells8 (hcell k hlt)
        have hr := Lib.hid (row9 (hcell k hlt))
        have eqz := eqWz (G k)
        have hbld := buildCyc
        have hz := zW_iff (G k)
        clear hcell h
        by_cases hv : zW (G k) = true
        · have FL2 := Lib.hid (FL.out.skip (hz.1 hv))
          clear hz
          go_wp2_with fail
          go_roundw
          case rel => exact ⟨k + 1, m, H, by omega, by go_num, FL2.out, ho, x1⟩
          case measure => simp [intOf]; omega
        · have FL2 := Lib.hid (FL.out.take (fun z => hv (hz.2 z)))
          have hv' : zW (G k) = false := by simpa using hv
          clear hz hv
          go_wp2_with (first
            | (refine wpList_load_at rfl 41 (.tmp 25) rfl b (off + k * 9) rfl (wh9 (G k)).toArray _ hr.out Try.underlying41 rfl infoWh ?_)
            | (at_builtin; refine wpList_append_own _ rfl _ _ 25 rfl w.heap.size 41 i0 (whV fun _ => 0) 9 72 Try.underlying25 hi hz0 hz1 hz2 rfl (by decide) _ _ _ rfl (World.ownsRow.alloc ho _) ⟨wr.heap.size, 0, none⟩ 1 1 (wh9 (G k)) rfl rfl ?c1 ?c2 ?c3 ?c4 ?c5 ?_))
          case c1 => exact newsB (Blk.new wr (wh9 (G k)) 41)
          case c2 => exact one_wh9 _
          case c3 => unfold maxLen; omega
          case c4 => omega
          case c5 => simp; have := x1.size; omega
          · intro v' w4 hown' hgrow hnil
            have o4 : OwnW (wr.alloc (.cells (wh9 (G k)).toArray 41)) w.heap.size _ m H := World.ownsRow.alloc ho _
            obtain ⟨q, hq, x4⟩ := grownW o4 hgrow (by simp; have := x1.size; omega)
            have y4 := x4.ext (z := w) (x1.alloc _) hq
            have o5 : OwnW w4 w.heap.size v' (m + 1) (fun i => if i < m then H i else G k) := by
              unfold OwnW
              rw [← flat_app m 1 H (fun _ => G k), ← flat_one]
              exact hown'
            clear o4 ho hgrow hown' hnil x4 x1
            go_wp2
            go_roundw
            case rel => exact ⟨k + 1, m + 1, _, by omega, by go_num, FL2.out, o5, y4⟩
            case measure => simp [intOf]; omega
    · have hk8 : k = n := by omega
      subst hk8
      clear hw h
      obtain ⟨ao, co, rfl, hco, hcm, hwo⟩ := ho.whs
      go_wp2_with fail
      refine (sDesignValid_any ao m co H _ hco (by omega) hwo).mono ?_
      rintro e w2 ⟨rfl, x2⟩
      have y2 := x1.trans x2
      have o2 := ho.keep x2
      clear hwo ho x1 x2
      by_cases hv : validM m H = true
      · rw [hv]
        have V := Lib.hid hv
        clear hv
        go_wp2
        go_ret2
        exact ⟨_, m, H, FL.out, y2, .inl ⟨V.out, rfl, o2⟩⟩
      · have hv' : validM m H = false := by simpa using hv
        rw [hv']
        have V := Lib.hid hv'
        have L9 : OwnW (w2.alloc (.cells #[] 41)) w.heap.size (.slice (some ⟨w2.heap.size, 0, none⟩) 0 0) 0 H := World.ownsRow_lit (w := w2) (base := w.heap.size) (e := 41) (size := 9) #[] 0 y2.size (by decide) rfl
        clear hv hv'
        go_wp2
        go_ret2
        exact ⟨_, m, H, FL.out, y2.alloc _, .inr ⟨V.out, rfl, L9⟩⟩

set_option maxHeartbeats 4000000 in
theorem l5Tidy_any (a : Option Addr) (N cap : Nat) (X : Nat → Nat → Int) (w : World) (hc : N ≤ cap) (hn : N ≤ 24) (h : Whs w a N X) (hX : ∀ i, i < N → cycOk (tl (X i)) = true) :
    Calls Try.prog 29 #[.slice a N cap] w (Tidied X N w) := by
  have hlit : OwnW (w.alloc (.cells #[] 41)) w.heap.size (.slice (some ⟨w.heap.size, 0, none⟩) 0 0) 0 (fun _ _ => 0) := World.ownsRow_lit (w := w) (base := w.heap.size) (e := 41) (size := 9) #[] 0 (Nat.le_refl _) (by decide) rfl
  have x0 : Ext w (w.alloc (.cells #[] 41)) := (Ext.refl w).alloc _
  go_enter Try.func29, Try.ntmps29
  go_wp2
  go_loopw [4, 5] (fun out i wr => ∃ (k n : Nat) (G : Nat → Nat → Int), k ≤ N ∧ i = .int .i64 (k : Int) ∧ (St X k n G ∧ Asc n G ∧ okK X k ∧ n ≤ k) ∧ OwnW wr w.heap.size out n G ∧ out ≠ .slice none 0 0 ∧ Ext w wr) (fun _ i _ => N - (intOf i).toNat)
  case atStart => exact ⟨0, 0, fun _ _ => 0, by omega, rfl, ⟨St.zero _ _, fun i j hij hj => by omega, okK.zero _, by omega⟩, hlit, by simp, x0⟩
  case round =>
    obtain ⟨k, n, G, hk, rfl, ⟨hS, hA, hO, hnk⟩, ho, hnn, x1⟩ := hrel
    clear hlit x0
    have hw := h.keep x1
    have HS := Lib.hid hS
    have HA := Lib.hid hA
    have HO := Lib.hid hO
    have HG := Lib.hid (hS.cyc hO)
    clear hS hA hO
    by_cases hlt : k < N
    · rcases hw with hw | ⟨b, off, rfl, hb, hcell⟩
      · omega
      · have hr := Lib.hid (row9 (hcell k hlt))
        clear hcell h
        rcases ho.shape with ⟨rfl, _⟩ | ⟨g, cap2, rfl, hgb, hgl, hnc, hcm, _, _⟩
        · exact absurd rfl hnn
        obtain ⟨a2, c2, e2, _, _, hwh⟩ := ho.whs
        cases e2
        go_wp2_with (refine wpList_load_at rfl 41 (.tmp 19) rfl b (off + k * 9) rfl (wh9 (X k)).toArray _ hr.out Try.underlying41 rfl infoWh ?_)
        refine (l5Add_any g n cap2 G (X k) _ hnc hcm (by omega) hwh hgl HG.out (hX k hlt)).mono ?_
        rintro e w2 ⟨v, p, hv, hp, hlow, x2, hcase⟩
        have y2 := x1.trans x2
        have hsz := x1.size
        clear hr hwh ho
        have hfin : ∃ (c : Bool) (n2 : Nat) (G2 : Nat → Nat → Int), e = .returned (.tuple #[v, .bool c]) ∧ OwnW w2 w.heap.size v n2 G2 ∧ c = cycOk (accF X (k + 1) (X k 0)) ∧ St X (k + 1) n2 G2 ∧ Asc n2 G2 ∧ n2 ≤ k + 1 := by
          rcases hcase with ⟨hpn, he, rfl, ho2⟩ | ⟨hup, rfl, ho2⟩
          · exact ⟨_, n, _, rfl, ho2.mono hsz, HS.out.okPut hpn he, HS.out.put hpn he, HA.out.put _ (by simp [addW]), by omega⟩
          · have hne : ∀ i, i < n → G i 0 ≠ X k 0 := fun i hi e => by
              by_cases h1 : i < p
              · have := hlow i h1; omega
              · have h2 := hup (by omega)
                by_cases h3 : i = p
                · subst h3; omega
                · have := HA.out p i (by omega) hi; omega
            exact ⟨_, n + 1, _, rfl, ho2.mono hsz, HS.out.okIns hne, HS.out.ins hp hne, HA.out.ins hp hlow hup, by omega⟩
        clear hcase hlow x2
        obtain ⟨c, n2, G2, rfl, ho2, hc2, hS2, hA2, hn2⟩ := hfin
        have S2 := Lib.hid hS2
        have A2 := Lib.hid hA2
        have C2 := Lib.hid hc2
        clear hS2 hA2 hc2 HS HA HG
        cases c with
        | true =>
          go_wp2_with fail
          go_roundw
          case rel => exact ⟨k + 1, n2, G2, by omega, by go_num, ⟨S2.out, A2.out, HO.out.succ C2.out.symm, hn2⟩, ho2, hv, y2⟩
          case measure => simp [intOf]; omega
        | false =>
          have L9 : OwnW (w2.alloc (.cells #[] 41)) w.heap.size (.slice (some ⟨w2.heap.size, 0, none⟩) 0 0) 0 G := World.ownsRow_lit (w := w2) (base := w.heap.size) (e := 41) (size := 9) #[] 0 y2.size (by decide) rfl
          go_wp2_with fail
          go_ret2
          exact ⟨_, false, 0, G, rfl, L9, .inr ⟨rfl, rfl, .inl (okK.no hlt C2.out.symm)⟩, y2.alloc _⟩
    · have hk8 : k = N := by omega
      subst hk8
      clear hw h
      obtain ⟨ao, co, rfl, hco, hcm, hwo⟩ := ho.whs
      have hsz := x1.size
      clear ho
      go_wp2_with fail
      refine (l5Done_any ao n co G _ hco (by omega) hwo).mono ?_
      rintro e w2 ⟨v, m, H, hF, x2, hcase⟩
      have F := Lib.hid (hF.fin HS.out)
      have AA := Lib.hid (hF.asc HA.out)
      clear hF hwo
      rcases hcase with ⟨hv, rfl, o2⟩ | ⟨hv, rfl, o2⟩
      · have V := Lib.hid hv
        clear hv
        go_wp2_with fail
        go_ret2
        exact ⟨_, true, m, H, rfl, o2.mono hsz, .inl ⟨rfl, HO.out, F.out, AA.out, V.out⟩, x1.trans x2⟩
      · have V := Lib.hid hv
        clear hv
        go_wp2_with fail
        go_ret2
        exact ⟨_, false, 0, H, rfl, o2.mono hsz, .inr ⟨rfl, rfl, .inr ⟨m, H, F.out, V.out⟩⟩, x1.trans x2⟩

theorem validM_cyc {n : Nat} {G : Nat → Nat → Int} (h : validM n G = true) : ∀ i, i < n → cycOk (tl (G i)) = true := fun i hi => by
  simp only [validM, Bool.and_eq_true, decide_eq_true_eq, List.all_eq_true, List.mem_range] at h
  have := h.2 i hi
  simp only [whOk, Bool.and_eq_true] at this
  exact this.2
/-- what DesignTidy comes to, for a design X of N wheels -/
def TidyOf (X : Nat → Nat → Int) (N : Nat) (w : World) (e : Ending) (w' : World) : Prop :=
  ∃ v ok m R, e = .returned (.tuple #[v, .bool ok]) ∧ OwnW w' w.heap.size v m R ∧ ((validM N X = true ∧ TR X N ok m R) ∨ (validM N X = false ∧ ok = false ∧ m = 0)) ∧ Ext w w'
set_option maxHeartbeats 1000000 in
theorem sDesignTidy_any (a : Option Addr) (N cap : Nat) (X : Nat → Nat → Int) (w : World) (hc : N ≤ cap) (hn : N ≤ 1048576) (h : Whs w a N X) :
    Calls Try.prog 23 #[.slice a N cap] w (TidyOf X N w) := by
  go_enter Try.func23, Try.ntmps23
  go_wp2_with fail
  refine (sDesignValid_any a N cap X _ hc hn h).mono ?_
  rintro e w2 ⟨rfl, x2⟩
  have h2 := h.keep x2
  clear h
  by_cases hv : validM N X = true
  · rw [hv]
    have V := Lib.hid hv
    have V12 := validM_le hv
    have VC := Lib.hid (validM_cyc hv)
    clear hv
    go_wp2_with fail
    refine (l5Tidy_any a N cap X _ hc (by omega) h2 VC.out).mono ?_
    rintro e w3 ⟨v, ok, m, R, rfl, o3, t3, x3⟩
    clear h2
    have T := Lib.hid t3
    clear t3
    go_wp2_with fail
    go_ret2
    exact ⟨_, ok, m, R, rfl, o3.mono x2.size, .inl ⟨V.out, T.out⟩, x2.trans x3⟩
  · have hv' : validM N X = false := by simpa using hv
    rw [hv']
    have V := Lib.hid hv'
    have L9 : OwnW (w2.alloc (.cells #[] 41)) w.heap.size (.slice (some ⟨w2.heap.size, 0, none⟩) 0 0) 0 X := World.ownsRow_lit (w := w2) (base := w.heap.size) (e := 41) (size := 9) #[] 0 x2.size (by decide) rfl
    clear hv hv' h2
    go_wp2_with fail
    go_ret2
    exact ⟨_, false, 0, X, rfl, L9, .inr ⟨V.out, rfl, rfl⟩, x2.alloc _⟩

end Go.Proofs.Ytadjphiipnlcdaa
