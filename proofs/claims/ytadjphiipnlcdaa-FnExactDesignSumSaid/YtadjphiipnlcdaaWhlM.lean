/- Wheels: impl.tidied. Written by mk_whlm.py. -/
import Derived.Test.YtadjphiipnlcdaaWhlK
import Derived.Test.YtadjphiipnlcdaaWhlL
namespace Go.Proofs.Ytadjphiipnlcdaa
open Go.ChangeShapes Go.WideShapes Go.ChangeAt Go.RowKit
set_option linter.unusedVariables false
set_option maxRecDepth 100000


theorem St.okHit {X : Nat → Nat → Int} {k n p : Nat} {G : Nat → Nat → Int} (h : St X k n G) (hp : p < n) (he : G p 0 = X k 0) : cycOk (tl (addW (G p) (X k))) = cycOk (accF X (k + 1) (X k 0)) := h.okPut hp he
theorem cyc_zero {s : Int} : cycOk (tl (consF s fun _ => 0)) = true := by
  unfold cycOk tl consF; simp [inR]
theorem Fin.prm {X : Nat → Nat → Int} {k n : Nat} {G H : Nat → Nat → Int} (h : Fin X k n G) (p : Prm n G H) : Fin X k n H := by
  obtain ⟨f, h1, h2, h3⟩ := p
  obtain ⟨a, b, c⟩ := h
  refine ⟨fun i hi => ?_, fun s hs hz => ?_, fun i j hi hj e => ?_⟩
  · obtain ⟨d, e⟩ := h1 i hi
    obtain ⟨u, v, x⟩ := a _ d
    rw [e 0 (by omega)]
    exact ⟨u, fun j hj => by rw [e (j + 1) (by omega), v j hj], fun z => x ((isZ_congr e).1 z)⟩
  · obtain ⟨q, hq, e⟩ := b s hs hz
    obtain ⟨i, hi, e2⟩ := h3 q hq
    exact ⟨i, hi, by rw [(h1 i hi).2 0 (by omega), e2, e]⟩
  · rw [(h1 i hi).2 0 (by omega), (h1 j hj).2 0 (by omega)] at e
    exact h2 i j hi hj (c _ _ (h1 i hi).1 (h1 j hj).1 e)
theorem Fin.asc {X : Nat → Nat → Int} {k n : Nat} {G : Nat → Nat → Int} (h : Fin X k n G) (s : Srt n G) : Asc n G := fun i j hij hj => by
  have := s i j hij hj
  by_cases e : G i 0 = G j 0
  · have := h.2.2 i j (by omega) hj e; omega
  · omega
/-- a list of the call's own, its capacity cut perhaps -/
def OwnC (w : World) (base : Nat) (v : Value) (m : Nat) (R : Nat → Nat → Int) : Prop :=
  (v = .slice none 0 0 ∧ m = 0) ∨ ∃ g cap c2, v = .slice (some ⟨g, 0, none⟩) m c2 ∧ m ≤ c2 ∧ c2 ≤ maxLen ∧ OwnW w base (.slice (some ⟨g, 0, none⟩) m cap) m R
theorem clip_any (base g n cap : Nat) (w : World) (hc : n ≤ cap) :
    Calls Try.prog 56 #[.slice (some ⟨g, 0, none⟩) n cap] w fun e w' => e = .returned (.slice (some ⟨g, 0, none⟩) n n) ∧ w = w' := by
  have q1 : (n : Int) ≤ (cap : Int) := by omega
  go_enter Try.func56, Try.ntmps56
  go_wp2
  go_ret
  exact ⟨rfl, rfl⟩

set_option maxHeartbeats 4000000 in
theorem tidied_any (a : Option Addr) (N cap : Nat) (X : Nat → Nat → Int) (w : World) (hc : N ≤ cap) (hn : N ≤ 24) (h : Whs w a N X) (hX : ∀ i, i < N → cycOk (tl (X i)) = true) :
    Calls Try.prog 30 #[.slice a N cap] w fun e w' => ∃ v ok m R, e = .returned (.tuple #[v, .bool ok]) ∧ OwnC w' w.heap.size v m R ∧ TR X N ok m R ∧ Ext w w' := by
  obtain ⟨i0, hi, hz0, hz1, hz2⟩ := info_partsW infoWhC
  have hlit : OwnW (w.alloc (.cells #[] 41)) w.heap.size (.slice (some ⟨w.heap.size, 0, none⟩) 0 0) 0 (fun _ _ => 0) := World.ownsRow_lit (w := w) (base := w.heap.size) (e := 41) (size := 9) #[] 0 (Nat.le_refl _) (by decide) rfl
  have x0 : Ext w (w.alloc (.cells #[] 41)) := (Ext.refl w).alloc _
  go_enter Try.func30, Try.ntmps30
  go_wp2
  go_loopw [4, 11] (fun out i wr => ∃ (k n : Nat) (G : Nat → Nat → Int), k ≤ N ∧ i = .int .i64 (k : Int) ∧ (St X k n G ∧ okK X k ∧ n ≤ k) ∧ OwnW wr w.heap.size out n G ∧ out ≠ .slice none 0 0 ∧ Ext w wr) (fun _ i _ => N - (intOf i).toNat)
  case atStart => exact ⟨0, 0, fun _ _ => 0, by omega, rfl, ⟨St.zero _ _, okK.zero _, by omega⟩, hlit, by simp, x0⟩
  case round =>
    obtain ⟨k, n, G, hk, rfl, ⟨hS, hO, hnk⟩, ho, hnn, x1⟩ := hrel
    clear hlit x0
    have hw := h.keep x1
    have HS := Lib.hid hS
    have HO := Lib.hid hO
    have HG := Lib.hid (hS.cyc hO)
    clear hS hO
    rcases ho.shape with ⟨rfl, _⟩ | ⟨g, cap2, rfl, hgb, hgl, hnc, hcm, _, _⟩
    · exact absurd rfl hnn
    by_cases hlt : k < N
    · rcases hw with hw | ⟨b, off, rfl, hb, hcell⟩
      · omega
      · have hr := Lib.hid (row9 (hcell k hlt))
        have XK := Lib.hid (hX k hlt)
        clear hcell h hX
        have b0 := Blk.new wr (wh9 (X k)) 41
        have o0 := ho.keep ((Ext.refl wr).alloc (.cells (wh9 (X k)).toArray 41))
        obtain ⟨a2, c2, e2, _, _, hwh⟩ := o0.whs
        cases e2
        have w0 : Ext w (wr.alloc (.cells (wh9 (X k)).toArray 41)) := x1.alloc _
        have w0' := w0.size
        clear ho
        go_wp2_with (refine wpList_load_at rfl 41 (.tmp 13) rfl b (off + k * 9) rfl (wh9 (X k)).toArray _ hr.out Try.underlying41 rfl infoWh ?_)
        refine (idxS_any _ n cap2 G wr.heap.size (X k) _ hnc (by omega) b0 hwh).mono ?_
        rintro e w2 ⟨z, hz, rfl, x2⟩
        have b2 := b0.keep x2
        have o2 := o0.keep x2
        have y2 := w0.trans x2
        clear hwh b0 o0 x2 w0 hr x1
        rcases hz with ⟨p, hp, rfl, h1, h2⟩ | ⟨rfl, h2⟩
        · have E := Lib.hid (show G p 0 = X k 0 by simpa using h1)
          have q1 : (0 : Int) ≤ (p : Int) := Int.natCast_nonneg _
          have q2 : (p : Int) < (n : Int) := by omega
          have q3 : ¬ (p : Int) < 0 := by omega
          clear h1 h2
          obtain ⟨f0, f1, f2, f3, f4, f5, f6, f7, f8⟩ := o2.cells (k := p) (by omega)
          obtain ⟨d0, d1, d2, d3, d4, d5, d6, d7, d8⟩ : _ ∧ _ ∧ _ ∧ _ ∧ _ ∧ _ ∧ _ ∧ _ ∧ _ := cells9 (w := w2) (b := wr.heap.size) (o := 0) (F := X k) (fun c hc => by rw [Nat.zero_add, b2.cell, wh9_get _ hc])
          simp only [Nat.zero_add] at d0 d1 d2 d3 d4 d5 d6 d7 d8
          have H1 := Lib.hid (fun j (hj : j < 8) => (show -1000000000000 ≤ tl (G p) j ∧ tl (G p) j ≤ 1000000000000 by have := cycOk_bd (HG.out p hp) j hj; omega))
          have H2 := Lib.hid (fun j (hj : j < 8) => (show -1000000000000 ≤ tl (X k) j ∧ tl (X k) j ≤ 1000000000000 by have := cycOk_bd XK.out j hj; omega))
          go_wp2_with fail
          go_region_with (go_at_call 50; ((refine (plus_any (tl (G p)) (tl (X k)) _ H1.out H2.out).mono ?_); rintro e w5 ⟨rfl, hx5⟩; have o5 := o2.keep ((Ext.drew (Ext.refl _)).trans hx5); obtain ⟨f0, f1, f2, f3, f4, f5, f6, f7, f8⟩ := o5.cells (k := p) (by omega); have fz := o5.frozenAt))
          all_goals
            have y5 := y2.trans ((Ext.drew (Ext.refl _)).trans hx5)
            obtain ⟨o6, z6⟩ := o5.put8 (k := p) (by omega) (fun j => tl (G p) j + tl (X k) j)
            have hg6 : w.heap.size ≤ g := (World.ownsRow.lt o5 g rfl).1
            have y6 := z6.ext (z := w) y5 hg6
            generalize World.setCell _ _ _ = W6 at o6 z6 y6 ⊢
            clear f0 f1 f2 f3 f4 f5 f6 f7 f8 d0 d1 d2 d3 d4 d5 d6 d7 d8 fz o5 hx5 z6 y5 H1 H2 y2 o2 b2
            obtain ⟨GF, hGF, o7, hst, hok, hle⟩ : ∃ GF : Nat → Nat → Int, GF (p) = addW (G p) (X k) ∧ OwnW W6 w.heap.size (.slice (some ⟨g, 0, none⟩) (n) cap2) (n) GF ∧ St X (k + 1) (n) GF ∧ cycOk (tl (addW (G p) (X k))) = cycOk (accF X (k + 1) (X k 0)) ∧ n ≤ k + 1 := ⟨fun j => if j = p then addW (G p) (X k) else G j, by simp, OwnW.congr o6 (fun i hi c hc => by
              by_cases h1 : i = p
              · subst h1
                simp only [if_true, consF, addW]
                by_cases h2 : c = 0
                · rw [if_pos h2, if_pos h2]
                · rw [if_neg h2, if_neg h2]; show G i (c - 1 + 1) + X k (c - 1 + 1) = _; rw [show c - 1 + 1 = c by omega]
              · simp only [if_neg h1]), HS.out.put hp E.out, HS.out.okPut hp E.out, by omega⟩
            obtain ⟨f0, f1, f2, f3, f4, f5, f6, f7, f8⟩ := o7.cells (k := p) (by omega)
            rw [hGF] at f0 f1 f2 f3 f4 f5 f6 f7 f8
            have ST := Lib.hid hst
            have OK2 := Lib.hid hok
            clear hst hok hGF o6 XK HS
            generalize hA : addW (G p) (X k) = A at f0 f1 f2 f3 f4 f5 f6 f7 f8
            have OK3 := Lib.hid (show cycOk (tl A) = cycOk (accF X (k + 1) (X k 0)) by rw [← hA]; exact OK2.out)
            clear OK2
            go_wp2_with fail
            refine (valid_any (tl A) _).mono ?_
            rintro e w7 ⟨rfl, x7⟩
            have o8 := o7.keep x7
            have y8 := y6.trans x7
            clear f0 f1 f2 f3 f4 f5 f6 f7 f8 o7 y6 x7 hA
            by_cases hv : cycOk (tl A) = true
            · have V := Lib.hid (HO.out.succ (by rw [← OK3.out]; exact hv))
              go_wp2_with fail
              go_roundw
              case rel => exact ⟨k + 1, n, GF, by omega, by go_num, ⟨ST.out, V.out, hle⟩, o8, by simp, y8⟩
              case measure => simp [intOf]; omega
            · have hv' : cycOk (tl A) = false := by simpa using hv
              have V := Lib.hid (okK.no hlt (by rw [← OK3.out]; exact hv'))
              clear hv
              go_wp2_with fail
              go_ret2
              exact ⟨_, false, 0, GF, rfl, .inl ⟨rfl, rfl⟩, .inr ⟨rfl, rfl, .inl V.out⟩, y8⟩
        · have NE := Lib.hid (show ∀ i, i < n → G i 0 ≠ X k 0 from fun i hi e => by have := h2 i hi; simp [e] at this)
          clear h2
          have f0 : w2.cell? ⟨wr.heap.size, 0, none⟩ = some (.int .i64 (X k 0)) := b2.cell 0
          go_wp2_with (at_builtin; refine wpList_append_lies _ rfl _ _ 25 rfl w.heap.size 41 i0 (whV fun _ => 0) 9 72 Try.underlying25 hi hz0 hz1 hz2 rfl (by decide) _ _ _ rfl (World.ownsRow.alloc o2 _) ⟨w2.heap.size, 0, none⟩ 1 1 (wh9 (consF (X k 0) fun _ => 0)) rfl rfl ?c1 ?c2 ?c3 ?c4 ?c5 ?c6 (w2.heap.size + 1) ?c7 ?_)
          case c1 => exact newsB (Blk.new w2 (wh9 (consF (X k 0) fun _ => 0)) 41)
          case c2 => exact one_wh9 _
          case c3 => omega
          case c4 => unfold maxLen; omega
          case c5 => omega
          case c6 => simp; have := y2.size; omega
          case c7 => simp
          intro g7 cap7 w3 hown hgrow hat hlt7
          have z3 : ExtB g _ w3 := grownE hgrow
          have b3 := (b2.alloc (.cells (wh9 (consF (X k 0) fun _ => 0)).toArray 41)).keepB z3 (by omega)
          have y3 := z3.ext (z := w) (y2.alloc _) (by omega)
          have o3 : OwnW w3 w.heap.size (.slice (some ⟨g7, 0, none⟩) (n + 1) cap7) (n + 1) (fun i => if i < n then G i else consF (X k 0) fun _ => 0) := by
            unfold OwnW
            rw [← flat_app n 1 G (fun _ => consF (X k 0) fun _ => 0), ← flat_one]
            exact hown
          clear hown hgrow hat z3 b2 o2 y2 f0
          obtain ⟨G1, hG1⟩ : ∃ G1 : Nat → Nat → Int, G1 = fun i => if i < n then G i else consF (X k 0) fun _ => 0 := ⟨_, rfl⟩
          rw [← hG1] at o3
          have hn1 : G1 n = consF (X k 0) fun _ => 0 := by rw [hG1]; simp
          have HG1 := Lib.hid hG1
          clear hG1
          have q1 : (0 : Int) ≤ (n : Int) := Int.natCast_nonneg _
          have q2 : (n : Int) < (n : Int) + 1 := by omega
          obtain ⟨f0, f1, f2, f3, f4, f5, f6, f7, f8⟩ := o3.cells (k := n) (by omega)
          obtain ⟨d0, d1, d2, d3, d4, d5, d6, d7, d8⟩ : _ ∧ _ ∧ _ ∧ _ ∧ _ ∧ _ ∧ _ ∧ _ ∧ _ := cells9 (w := w3) (b := wr.heap.size) (o := 0) (F := X k) (fun c hc => by rw [Nat.zero_add, b3.cell, wh9_get _ hc])
          simp only [Nat.zero_add] at d0 d1 d2 d3 d4 d5 d6 d7 d8
          rw [hn1] at f0 f1 f2 f3 f4 f5 f6 f7 f8
          clear hn1
          have H1 := Lib.hid (fun j (hj : j < 8) => (show -1000000000000 ≤ tl (consF (X k 0) fun _ => 0) j ∧ tl (consF (X k 0) fun _ => 0) j ≤ 1000000000000 by have := cycOk_bd (cyc_zero (s := X k 0)) j hj; omega))
          have H2 := Lib.hid (fun j (hj : j < 8) => (show -1000000000000 ≤ tl (X k) j ∧ tl (X k) j ≤ 1000000000000 by have := cycOk_bd XK.out j hj; omega))
          go_wp2_with fail
          go_region_with (go_at_call 50; ((refine (plus_any (tl (consF (X k 0) fun _ => 0)) (tl (X k)) _ H1.out H2.out).mono ?_); rintro e w5 ⟨rfl, hx5⟩; have o5 := o3.keep ((Ext.drew (Ext.refl _)).trans hx5); obtain ⟨f0, f1, f2, f3, f4, f5, f6, f7, f8⟩ := o5.cells (k := n) (by omega); have fz := o5.frozenAt))
          all_goals
            have y5 := y3.trans ((Ext.drew (Ext.refl _)).trans hx5)
            obtain ⟨o6, z6⟩ := o5.put8 (k := n) (by omega) (fun j => tl (consF (X k 0) fun _ => 0) j + tl (X k) j)
            have hg6 : w.heap.size ≤ g7 := (World.ownsRow.lt o5 g7 rfl).1
            have y6 := z6.ext (z := w) y5 hg6
            generalize World.setCell _ _ _ = W6 at o6 z6 y6 ⊢
            clear f0 f1 f2 f3 f4 f5 f6 f7 f8 d0 d1 d2 d3 d4 d5 d6 d7 d8 fz o5 hx5 z6 y5 H1 H2 y3 o3 b3
            obtain ⟨GF, hGF, o7, hst, hok, hle⟩ : ∃ GF : Nat → Nat → Int, GF (n) = X k ∧ OwnW W6 w.heap.size (.slice (some ⟨g7, 0, none⟩) (n + 1) cap7) (n + 1) GF ∧ St X (k + 1) (n + 1) GF ∧ cycOk (tl (X k)) = cycOk (accF X (k + 1) (X k 0)) ∧ n + 1 ≤ k + 1 := ⟨fun j => if j < n then G j else if j = n then X k else G (j - 1), by simp, OwnW.congr o6 (fun i hi c hc => by
              rw [HG1.out]
              by_cases h1 : i = n
              · subst h1
                simp only [if_true, Nat.lt_irrefl, if_false, consF]
                by_cases h2 : c = 0
                · subst h2; simp
                · rw [if_neg h2]; show (consF (X k 0) fun _ => 0) (c - 1 + 1) + X k (c - 1 + 1) = _; unfold consF; rw [if_neg (by omega), show c - 1 + 1 = c by omega]; simp
              · simp only [if_neg h1, if_pos (show i < n by omega)]), HS.out.ins (Nat.le_refl n) NE.out, HS.out.okIns NE.out, by omega⟩
            obtain ⟨f0, f1, f2, f3, f4, f5, f6, f7, f8⟩ := o7.cells (k := n) (by omega)
            rw [hGF] at f0 f1 f2 f3 f4 f5 f6 f7 f8
            have ST := Lib.hid hst
            have OK2 := Lib.hid hok
            clear hst hok hGF o6 XK HS
            generalize hA : X k = A at f0 f1 f2 f3 f4 f5 f6 f7 f8
            have OK3 := Lib.hid (show cycOk (tl A) = cycOk (accF X (k + 1) (X k 0)) by rw [← hA]; exact OK2.out)
            clear OK2
            go_wp2_with fail
            refine (valid_any (tl A) _).mono ?_
            rintro e w7 ⟨rfl, x7⟩
            have o8 := o7.keep x7
            have y8 := y6.trans x7
            clear f0 f1 f2 f3 f4 f5 f6 f7 f8 o7 y6 x7 hA
            by_cases hv : cycOk (tl A) = true
            · have V := Lib.hid (HO.out.succ (by rw [← OK3.out]; exact hv))
              go_wp2_with fail
              go_roundw
              case rel => exact ⟨k + 1, n + 1, GF, by omega, by go_num, ⟨ST.out, V.out, hle⟩, o8, by simp, y8⟩
              case measure => simp [intOf]; omega
            · have hv' : cycOk (tl A) = false := by simpa using hv
              have V := Lib.hid (okK.no hlt (by rw [← OK3.out]; exact hv'))
              clear hv
              go_wp2_with fail
              go_ret2
              exact ⟨_, false, 0, GF, rfl, .inl ⟨rfl, rfl⟩, .inr ⟨rfl, rfl, .inl V.out⟩, y8⟩
    · have hkn : k = N := by omega
      subst hkn
      clear hw h
      have hsz := x1.size
      clear hnn hlt
      go_wp2_with fail
      refine (delete_any w.heap.size g n cap2 G _ (by omega) hsz ho).mono ?_
      rintro e w2 ⟨m, H, rfl, hF, o2, z2⟩
      have y2 := z2.ext x1 hgb
      have hml := hF.le
      have F := Lib.hid (hF.fin HS.out)
      clear hF ho z2 x1
      obtain ⟨a3, c3, e3, hmc, hmm, hwh⟩ := o2.whs
      cases e3
      go_wp2_with fail
      refine (iDesignValid_any _ m cap2 H _ hmc (by omega) hwh).mono ?_
      rintro e w3 ⟨rfl, x3⟩
      have o3 := o2.keep x3
      have y3 := y2.trans x3
      clear hwh o2 y2 x3
      by_cases hv : validM m H = true
      · rw [hv]
        have V := Lib.hid hv
        have m12 := validM_le hv
        clear hv
        go_wp2_with fail
        refine (sortFunc_any w.heap.size g m cap2 H _ m12 o3).mono ?_
        rintro e w4 ⟨rfl, R, hP, hR, o4, z4⟩
        have y4 := z4.ext y3 hgb
        have F2 := Lib.hid (F.out.prm hP)
        have A2 := Lib.hid (F2.out.asc hR)
        have V2 := Lib.hid ((F.out.valid F2.out) ▸ V.out)
        clear hP hR o3 y3 z4
        go_wp2_with fail
        refine (clip_any w.heap.size g m cap2 _ hmc).mono ?_
        rintro e w5 ⟨rfl, rfl⟩
        go_wp2_with fail
        go_ret2
        exact ⟨_, true, m, R, rfl, .inr ⟨g, cap2, m, rfl, Nat.le_refl m, by unfold maxLen; omega, o4⟩, .inl ⟨rfl, HO.out, F2.out, A2.out, V2.out⟩, y4⟩
      · have hv' : validM m H = false := by simpa using hv
        rw [hv']
        have V := Lib.hid hv'
        clear hv hv'
        go_wp2_with fail
        go_ret2
        exact ⟨_, false, 0, H, rfl, .inl ⟨rfl, rfl⟩, .inr ⟨rfl, rfl, .inr ⟨m, H, F.out, V.out⟩⟩, y3⟩

end Go.Proofs.Ytadjphiipnlcdaa
