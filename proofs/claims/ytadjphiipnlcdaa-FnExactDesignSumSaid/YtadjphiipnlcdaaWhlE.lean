/- Wheels: own lists of wheels that grow; designs drawn; the law FnDesign. -/
import Derived.Test.YtadjphiipnlcdaaWhlD
import Derived.Test.YtadjphiipnlcdaaCycN
namespace Go.Proofs.Ytadjphiipnlcdaa
open Go.ChangeShapes Go.WideShapes Go.ChangeAt Go.RowKit
set_option linter.unusedVariables false
set_option maxRecDepth 100000


/-- the slice v of n wheels is the call's own -/
def OwnW (w : World) (base : Nat) (v : Value) (n : Nat) (G : Nat → Nat → Int) : Prop := w.ownsRow base 41 9 v n (flat n G)
theorem OwnW.shape {w : World} {base n : Nat} {v : Value} {G : Nat → Nat → Int} (h : OwnW w base v n G) :
    (v = .slice none 0 0 ∧ n = 0) ∨ ∃ g cap, v = .slice (some ⟨g, 0, none⟩) n cap ∧ base ≤ g ∧ g < w.heap.size ∧ n ≤ cap ∧ cap ≤ maxLen ∧ (∀ j, j < n * 9 → w.cell? ⟨g, j, none⟩ = (flat n G)[j]?) ∧ ∀ j, w.frozen? ⟨g, j, none⟩ = false := by
  have h0 := h
  unfold OwnW at h
  rcases h.2 with ⟨rfl, hn⟩ | ⟨g, cap, cur, rfl, hb, hg, hnc, hcm, _⟩
  · exact .inl ⟨rfl, hn⟩
  · exact .inr ⟨g, cap, rfl, hb, (Array.getElem?_eq_some_iff.1 hg).1, hnc, hcm, fun j hj => h.cellAt j hj, fun j => h.frozenAt j⟩
theorem OwnW.whs {w : World} {base n : Nat} {v : Value} {G : Nat → Nat → Int} (h : OwnW w base v n G) :
    ∃ a cap, v = .slice a n cap ∧ n ≤ cap ∧ cap ≤ maxLen ∧ Whs w a n G := by
  rcases h.shape with ⟨rfl, rfl⟩ | ⟨g, cap, rfl, _, hg, h1, h2, h3, _⟩
  · exact ⟨none, 0, rfl, Nat.le_refl _, by unfold maxLen; omega, .inl rfl⟩
  · refine ⟨_, cap, rfl, h1, h2, .inr ⟨g, 0, rfl, hg, fun i hi c hc => ?_⟩⟩
    rw [Nat.zero_add, h3 _ (by omega), flat_get n G (by omega), show (i * 9 + c) / 9 = i by omega, show (i * 9 + c) % 9 = c by omega]
theorem OwnW.keep {w w' : World} {base n : Nat} {v : Value} {G : Nat → Nat → Int} (h : OwnW w base v n G) (k : Ext w w') : OwnW w' base v n G :=
  World.ownsRow.kept (row := none) h ⟨Below.os k, Below.tape k, Below.output k, k.size, fun i hi _ => Below.block k i hi⟩ (by cases hv : v.ownBlock <;> simp)
theorem OwnW.keepB {R : Nat} {w w' : World} {base n : Nat} {v : Value} {G : Nat → Nat → Int} (h : OwnW w base v n G) (k : ExtB R w w') (hR : R < base) : OwnW w' base v n G :=
  World.ownsRow.kept (row := some R) h ⟨k.1, k.2.1, k.2.2.1, k.size, fun i hi hr => k.2.2.2.2 i hi (fun e => hr (by rw [e]))⟩ (.inr fun e => by
    have := (World.ownsRow.lt h R e).1; omega)
theorem OwnW.mono {w : World} {base b n : Nat} {v : Value} {G : Nat → Nat → Int} (h : OwnW w base v n G) (hb : b ≤ base) : OwnW w b v n G := by
  refine ⟨h.1, ?_⟩
  rcases h.2 with h | ⟨g, cap, cur, rfl, h1, rest⟩
  · exact .inl h
  · exact .inr ⟨g, cap, cur, rfl, Nat.le_trans hb h1, rest⟩
theorem OwnW.congr {w : World} {base n : Nat} {v : Value} {G H : Nat → Nat → Int} (h : OwnW w base v n G) (hfg : ∀ i, i < n → ∀ c, c < 9 → G i c = H i c) : OwnW w base v n H := by
  unfold OwnW at *
  rwa [← flat_congr hfg]
/-- what an own list's growth leaves alone -/
theorem grownW {w w' : World} {base n : Nat} {v : Value} {G : Nat → Nat → Int} (h : OwnW w base v n G) (hg : w.grownBy w' v.ownBlock) (hb : base ≤ w.heap.size) : ∃ g, base ≤ g ∧ ExtB g w w' := by
  cases hv : v.ownBlock with
  | none =>
    rw [hv] at hg
    exact ⟨w.heap.size, hb, (Ext.grownNoneW (Ext.refl w) hg).toB _⟩
  | some g =>
    refine ⟨g, (World.ownsRow.lt h g hv).1, ?_⟩
    rw [hv] at hg
    have hb' := hg.block
    exact ⟨hg.os, hg.tape, hg.output, hg.size, fun k hk hne => hb' k hk (by simpa using hne)⟩
theorem flat_app (n m : Nat) (G H : Nat → Nat → Int) : flat n G ++ flat m H = flat (n + m) (fun i => if i < n then G i else H (i - n)) := by
  apply List.ext_getElem?
  intro o
  by_cases h1 : o < n * 9
  · rw [List.getElem?_append_left (by rw [flat_len]; exact h1), flat_get n G h1, flat_get (n + m) _ (by omega), if_pos (by omega)]
  · rw [List.getElem?_append_right (by rw [flat_len]; omega), flat_len]
    by_cases h2 : o < (n + m) * 9
    · rw [flat_get m H (by omega), flat_get (n + m) _ h2, if_neg (by omega), show (o - n * 9) / 9 = o / 9 - n by omega, show (o - n * 9) % 9 = o % 9 by omega]
    · rw [List.getElem?_eq_none (by rw [flat_len]; omega), List.getElem?_eq_none (by rw [flat_len]; omega)]
theorem flat_one (F : Nat → Int) : wh9 F = flat 1 fun _ => F := by
  apply List.ext_getElem?
  intro o
  by_cases h : o < 9
  · rw [wh9_get F h, flat_get 1 _ (by omega), show o % 9 = o by omega]
  · rw [List.getElem?_eq_none (by show 9 ≤ o; omega), List.getElem?_eq_none (by rw [flat_len]; omega)]
/-- a wheel out of a speed and a radius -/
def consF (x : Int) (f : Nat → Int) : Nat → Int := fun j => if j = 0 then x else f (j - 1)
theorem buildWh (x : Int) (f : Nat → Int) (w : World) : (Instr.build 41 #[(0, .int .i64 x), (1, cycV f)]).run Try.prog w = .ok (whV (consF x f)) w := run_build w 41 _ _ (by kernel_rfl)
theorem buildWh1 (x : Int) (w : World) : (Instr.build 41 #[(0, .int .i64 x)]).run Try.prog w = .ok (whV (consF x fun _ => 0)) w := run_build w 41 _ _ (by kernel_rfl)

/-- what a drawn design is -/
def DrawnD (R : Nat) (w : World) (e : Ending) (w' : World) : Prop :=
  ∃ v n G, e = .returned v ∧ OwnW w' w.heap.size v n G ∧ n ≤ 12 ∧ ExtB R w w'
set_option maxHeartbeats 4000000 in
theorem l91Design_any (p R : Nat) (w : World) (hp : p ≤ 1000) (h : RdOk w R p) : Calls Try.prog 41 #[.pointer (some ⟨R, 0, none⟩)] w (DrawnD R w) := by
  obtain ⟨i0, hi, hz0, hz1, hz2⟩ := info_partsW infoWhC
  have hlit : OwnW (w.alloc (.cells #[] 41)) w.heap.size (.slice (some ⟨w.heap.size, 0, none⟩) 0 0) 0 (fun _ _ => 0) := World.ownsRow_lit (w := w) (base := w.heap.size) (e := 41) (size := 9) #[] 0 (Nat.le_refl _) (by decide) rfl
  have hRw := h.lt
  have k0 := h.n.keep ((Ext.refl w).alloc (.cells #[] 41)) (Nat.le_refl _)
  have x0 : ExtB R w (w.alloc (.cells #[] 41)) := ((Ext.refl w).alloc _).toB R
  go_enter Try.func41, Try.ntmps41
  go_wp2_with fail
  refine (pick_N w.heap.size 4 p R _ (by omega) (by omega) (by omega) k0).mono ?_
  rintro e w1 ⟨N, n1, n2, rfl, k1, x1⟩
  have o1 := hlit.keepB x1 hRw
  have y1 := x0.trans x1
  have s1 := y1.size
  clear x0 k0 hlit x1
  obtain ⟨M, rfl⟩ : ∃ n : Nat, N = (n : Int) := ⟨N.toNat, by omega⟩
  go_wp2
  go_loopw [3, 5] (fun out i wr => ∃ (k q : Nat) (G : Nat → Nat → Int), k ≤ M ∧ i = .int .i64 (k : Int) ∧ q ≤ p + 1 + 13 * k ∧ RdN w.heap.size wr R q ∧ OwnW wr w.heap.size out k G ∧ out ≠ .slice none 0 0 ∧ ExtB R w wr) (fun _ i _ => M - (intOf i).toNat)
  case atStart => exact ⟨0, p + 1, fun _ _ => 0, by omega, rfl, by omega, k1, o1, by simp, y1⟩
  case round =>
    obtain ⟨k, q, G, hk, rfl, hq, kr, ho, hnn, yr⟩ := hrel
    clear k1 o1 y1
    by_cases hlt : k < M
    · go_wp2_with fail
      refine (pick_N w.heap.size 13 q R _ (by omega) (by omega) (by omega) kr).mono ?_
      rintro e w2 ⟨u, u1, u2, rfl, k2, x2⟩
      have o2 := ho.keepB x2 hRw
      have y2 := yr.trans x2
      clear kr ho yr x2
      have z2 := y2.size
      go_wp2_with fail
      refine (l91CycN_any w.heap.size (q + 1) R _ (by omega) z2 k2).mono ?_
      rintro e w3 ⟨f, rfl, _, ⟨q3, q31, q32, k3⟩, x3⟩
      have o3 := o2.keepB x3 hRw
      have y3 := y2.trans x3
      clear k2 o2 y2 x3
      go_wp2_with (at_builtin; refine wpList_append_own _ rfl _ _ 25 rfl w.heap.size 41 i0 (whV fun _ => 0) 9 72 Try.underlying25 hi hz0 hz1 hz2 rfl (by decide) _ _ _ rfl (World.ownsRow.alloc o3 _) ⟨w3.heap.size, 0, none⟩ 1 1 (wh9 (consF (u - 6) f)) rfl rfl ?c1 ?c2 ?c3 ?c4 ?c5 ?_)
      case c1 => exact fun j v hj => by rw [addr_add, Nat.zero_add]; exact ((Blk.new w3 (wh9 (consF (u - 6) f)) 41).cell j).trans hj
      case c2 => intro v hv; simp at hv; rcases hv with rfl | rfl | rfl | rfl | rfl | rfl | rfl | rfl | rfl <;> rfl
      case c3 => unfold maxLen; omega
      case c4 => omega
      case c5 => simp; have := y3.size; omega
      · intro v' w4 hown' hgrow hnil
        have o4 : OwnW (w3.alloc (.cells (wh9 (consF (u - 6) f)).toArray 41)) w.heap.size _ k G := World.ownsRow.alloc o3 _
        obtain ⟨g, hg, x4⟩ := grownW o4 hgrow (by simp; have := y3.size; omega)
        have z3 := y3.size
        have k4 := (k3.keep ((Ext.refl w3).alloc (.cells (wh9 (consF (u - 6) f)).toArray 41)) z3).keepB x4 hg (by omega)
        have y4 := (y3.trans ((((Ext.refl w3).alloc _).toB R))).upC x4 hg
        have o5 : OwnW w4 w.heap.size v' (k + 1) (fun i => if i < k then G i else consF (u - 6) f) := by
          unfold OwnW
          rw [← flat_app k 1 G (fun _ => consF (u - 6) f), ← flat_one]
          exact hown'
        have hn' : v' ≠ .slice none 0 0 := hnil
        clear o4 o3 hgrow hown' hnil x4 k3 y3 hnn
        go_wp2
        go_roundw
        case rel => exact ⟨k + 1, _, _, by omega, by go_num, (by omega : q3 ≤ p + 1 + 13 * (k + 1)), k4, o5, hn', y4⟩
        case measure => simp [intOf]; omega
    · have hkM : k = M := by omega
      subst hkM
      have hk3 : k ≤ 3 := by omega
      go_wp2_with fail
      refine (pick_N w.heap.size 30 q R _ (by omega) (by omega) (by omega) kr).mono ?_
      rintro e w2 ⟨u, u1, u2, rfl, k2, x2⟩
      have o2 := ho.keepB x2 hRw
      have y2 := yr.trans x2
      have z2 := y2.size
      clear kr ho yr x2
      by_cases h0 : u = 0
      · subst h0
        go_wp2_with (at_builtin; refine wpList_append_own _ rfl _ _ 25 rfl w.heap.size 41 i0 (whV fun _ => 0) 9 72 Try.underlying25 hi hz0 hz1 hz2 rfl (by decide) _ _ _ rfl (World.ownsRow.alloc o2 _) ⟨w2.heap.size, 0, none⟩ 1 1 (wh9 (consF 1001 fun _ => 0)) rfl rfl ?c1 ?c2 ?c3 ?c4 ?c5 ?_)
        case c1 => exact fun j v hj => by rw [addr_add, Nat.zero_add]; exact ((Blk.new w2 (wh9 (consF 1001 fun _ => 0)) 41).cell j).trans hj
        case c2 => intro v hv; simp at hv; rcases hv with rfl | rfl | rfl | rfl | rfl | rfl | rfl | rfl | rfl <;> rfl
        case c3 => unfold maxLen; omega
        case c4 => omega
        case c5 => simp; omega
        · intro v' w4 hown' hgrow hnil
          have o4 : OwnW (w2.alloc (.cells (wh9 (consF 1001 fun _ => 0)).toArray 41)) w.heap.size _ k G := World.ownsRow.alloc o2 _
          obtain ⟨g, hg, x4⟩ := grownW o4 hgrow (by simp; omega)
          have y4 := (y2.trans ((((Ext.refl w2).alloc _).toB R))).upC x4 hg
          have o5 : OwnW w4 w.heap.size v' (k + 1) (fun i => if i < k then G i else consF 1001 fun _ => 0) := by
            unfold OwnW
            rw [← flat_app k 1 G (fun _ => consF 1001 fun _ => 0), ← flat_one]
            exact hown'
          clear o4 o2 hgrow hown' hnil x4 k2 y2 hnn
          go_wp2
          go_ret
          exact ⟨v', _, _, rfl, o5, by omega, y4⟩
      · by_cases h1 : u = 1
        · subst h1
          clear h0
          rcases o2.shape with ⟨rfl, _⟩ | ⟨g, cap, rfl, hgb, hgl, hnc, hcm, hcell, _⟩
          · exact absurd rfl hnn
          have C := Lib.hid hcell
          clear hcell
          go_wp2_with (at_builtin; refine wpList_append_own _ rfl _ _ 25 rfl w.heap.size 41 i0 (whV fun _ => 0) 9 72 Try.underlying25 hi hz0 hz1 hz2 rfl (by decide) _ _ _ rfl o2 ⟨g, 0, none⟩ (k) cap (flat (k) G) rfl (flat_len _ _) ?c1 ?c2 ?c3 ?c4 ?c5 ?_)
          case c1 =>
            intro j v hj
            rw [addr_add, Nat.zero_add, C.out j (by have := (List.getElem?_eq_some_iff.1 hj).1; rwa [flat_len] at this), hj]
          case c2 => intro v hv; simp [flat] at hv; obtain ⟨_, _, rfl⟩ := hv; rfl
          case c3 => unfold maxLen; omega
          case c4 => omega
          case c5 => first | assumption | omega
          intro v3 w3 hown3 hgrow3 hnil3
          obtain ⟨g3, hg3, x3⟩ := grownW o2 hgrow3 z2
          have y3 := y2.upC x3 hg3
          have z3 := y3.size
          have o3 : OwnW w3 w.heap.size v3 (k + k) (fun i => if i < k then G i else G (i - k)) := by
            unfold OwnW
            rw [← flat_app k k G G]
            exact hown3
          have hn3 : v3 ≠ .slice none 0 0 := hnil3
          clear hown3 hgrow3 hnil3 x3 y2 z2 C o2 k2 hnn
          generalize (fun i => if i < k then G i else G (i - k)) = H at *
          rcases o3.shape with ⟨rfl, _⟩ | ⟨p3, cap3, rfl, hgb3, hgl3, hnc3, hcm3, hcell, _⟩
          · exact absurd rfl hn3
          have C := Lib.hid hcell
          clear hcell
          go_wp2_with (at_builtin; refine wpList_append_own _ rfl _ _ 25 rfl w.heap.size 41 i0 (whV fun _ => 0) 9 72 Try.underlying25 hi hz0 hz1 hz2 rfl (by decide) _ _ _ rfl o3 ⟨p3, 0, none⟩ (k + k) cap3 (flat (k + k) H) rfl (flat_len _ _) ?c1 ?c2 ?c3 ?c4 ?c5 ?_)
          case c1 =>
            intro j v hj
            rw [addr_add, Nat.zero_add, C.out j (by have := (List.getElem?_eq_some_iff.1 hj).1; rwa [flat_len] at this), hj]
          case c2 => intro v hv; simp [flat] at hv; obtain ⟨_, _, rfl⟩ := hv; rfl
          case c3 => unfold maxLen; omega
          case c4 => omega
          case c5 => first | assumption | omega
          intro v4 w4 hown4 hgrow4 hnil4
          obtain ⟨g4, hg4, x4⟩ := grownW o3 hgrow4 z3
          have y4 := y3.upC x4 hg4
          have o4 : OwnW w4 w.heap.size v4 ((k + k) + (k + k)) (fun i => if i < k + k then H i else H (i - (k + k))) := by
            unfold OwnW
            rw [← flat_app (k + k) (k + k) H H]
            exact hown4
          clear hown4 hgrow4 hnil4 x4 y3 z3 C o3 hn3
          go_wp2
          go_ret
          exact ⟨v4, _, _, rfl, o4, by omega, y4⟩
        · have e0 : (u == 0) = false := by simpa using h0
          have e1 : (u == 1) = false := by simpa using h1
          clear h0 h1
          go_wp2
          go_ret
          exact ⟨_, _, _, rfl, o2, by omega, y2⟩

theorem dDesignValid_any (a : Option Addr) (len cap : Nat) (w : World) (h : CodeOk w a len cap) : Calls Try.prog 22 #[.slice a len cap] w fun e w' =>
    ∃ v n G, e = .returned v ∧ OwnW w' w.heap.size v n G ∧ n ≤ 12 ∧ Ext w w' := by
  go_enter Try.func22, Try.ntmps22
  go_wp2_with fail
  refine (l6Open_any _ _ _ _ h).mono ?_
  rintro e w1 ⟨R, rfl, hR, k1, x1⟩
  go_wp2_with fail
  refine (l91Design_any 0 R _ (by omega) k1).mono ?_
  rintro e w2 ⟨v, n, G, rfl, o2, hn, x2⟩
  go_wp2_with fail
  go_ret
  exact ⟨v, n, G, rfl, o2.mono x1.size, hn, x2.ext x1 hR⟩
theorem validM_less {n m : Nat} {G : Nat → Nat → Int} (h : validM n G = true) (hm : m ≤ n) : validM m G = true := by
  simp only [validM, Bool.and_eq_true, decide_eq_true_eq, List.all_eq_true, List.mem_range] at *
  exact ⟨by omega, fun i hi => h.2 i (by omega)⟩
theorem validM_le {n : Nat} {G : Nat → Nat → Int} (h : validM n G = true) : n ≤ 12 := by
  simp only [validM, Bool.and_eq_true, decide_eq_true_eq] at h
  exact h.1

set_option maxHeartbeats 1000000 in
theorem lawDesign (a : Option Addr) (len cap : Nat) (w : World) (h : CodeOk w a len cap) :
    Calls Try.prog 7 #[.slice a len cap] w fun e w' => e = .returned (.bool true) ∧ Ext w w' := by
  have hl := h.1
  have hm := h.2.1
  unfold maxLen at hm
  by_cases hbig : 1048576 < len
  · go_enter Try.func7, Try.ntmps7
    go_wp2_with fail
    go_ret; exact ⟨rfl, Ext.refl _⟩
  · go_enter Try.func7, Try.ntmps7
    go_wp2_with fail
    refine (dDesignValid_any _ _ _ _ h).mono ?_
    rintro e w1 ⟨v, n, G, rfl, o1, hn, x1⟩
    obtain ⟨b, c, rfl, hc, hcm, h1⟩ := o1.whs
    unfold maxLen at hcm
    clear h o1
    go_wp2_with fail
    refine (iDesignValid_any b n c G _ hc (by omega) h1).mono ?_
    rintro e w2 ⟨rfl, x2⟩
    have h2 := h1.keep x2
    have y2 := x1.trans x2
    clear h1 x1 x2
    go_wp2_with fail
    refine (sDesignValid_any b n c G _ hc (by omega) h2).mono ?_
    rintro e w3 ⟨rfl, x3⟩
    have h3 := h2.keep x3
    have y3 := y2.trans x3
    clear h2 y2 x3
    by_cases hV : validM n G = true
    · rw [hV]
      by_cases h0 : n = 0
      · subst h0
        clear h3 hV
        go_wp2
        go_ret
        exact ⟨rfl, y3⟩
      · have e0 : ((n : Int) == 0) = false := by simp; omega
        have V := Lib.hid (validM_less hV (show n - 1 ≤ n by omega))
        clear hV
        go_wp2_with fail
        refine (iDesignValid_any b (n - 1) c G _ (by omega) (by omega) (h3.less (by omega))).mono ?_
        rw [V.out]
        rintro e w4 ⟨rfl, x4⟩
        clear h3
        go_wp2
        go_ret
        exact ⟨rfl, y3.trans x4⟩
    · have hV' : validM n G = false := by simpa using hV
      rw [hV']
      clear hV hV' h3
      go_wp2
      go_ret
      exact ⟨rfl, y3⟩

end Go.Proofs.Ytadjphiipnlcdaa
