/- Slices of ints in new memory: what eqIntS, markIntS, heldIntS and sameInts do with them. -/
import Derived.Test.YtbbaadnadpmfeaaDraw2
import Derived.Test.YtbbaadnadpmfeaaGcd
namespace Go.Proofs.Ytbbaadnadpmfeaa
open Go.ChangeShapes Go.WideShapes Go.ChangeAt Go.RowKit
set_option linter.unusedVariables false

/-- the cells of a slice of n ints -/
def ints (f : Nat → Int) (n : Nat) : List Value := (List.range n).map fun i => .int .i64 (f i)
theorem ints_len (f : Nat → Int) (n : Nat) : (ints f n).length = n := by simp [ints]
theorem ints_get (f : Nat → Int) (n : Nat) {j : Nat} (h : j < n) : (ints f n)[j]? = some (.int .i64 (f j)) := by simp [ints, h]
theorem ints_succ (f : Nat → Int) (n : Nat) : ints f (n + 1) = ints f n ++ [.int .i64 (f n)] := by simp [ints, List.range_succ]
theorem ints_congr {f g : Nat → Int} {n : Nat} (h : ∀ i, i < n → f i = g i) : ints f n = ints g n := by
  unfold ints
  apply List.map_congr_left
  intro i hi
  rw [h i (by simpa using hi)]
theorem ints_set (f : Nat → Int) (n j : Nat) (u : Int) : (ints f n).set j (.int .i64 u) = ints (fun i => if i = j then u else f i) n := by
  apply List.ext_getElem?
  intro i
  by_cases hi : i < n
  · rw [ints_get _ _ hi, List.getElem?_set]
    by_cases h : j = i
    · subst h; simp [ints_len, hi]
    · have h' : ¬ i = j := fun e => h e.symm
      simp [h, h', ints_get f n hi]
  · rw [List.getElem?_eq_none (by simp [ints_len]; omega), List.getElem?_eq_none (by simp [ints_len]; omega)]
/-- the slice v of n ints is the call's own -/
def Own (w : World) (base : Nat) (v : Value) (n : Nat) (f : Nat → Int) : Prop := w.ownsRow base 3 1 v n (ints f n)
theorem Own.shape {w : World} {base n : Nat} {v : Value} {f : Nat → Int} (h : Own w base v n f) :
    (v = .slice none 0 0 ∧ n = 0) ∨ ∃ g cap, v = .slice (some ⟨g, 0, none⟩) n cap ∧ base ≤ g ∧ g < w.heap.size ∧ n ≤ cap ∧ cap ≤ maxLen ∧ (∀ j, j < n → w.cell? ⟨g, j, none⟩ = some (.int .i64 (f j))) ∧ ∀ j, w.frozen? ⟨g, j, none⟩ = false := by
  have h0 := h
  unfold Own at h
  rcases h.2 with ⟨rfl, hn⟩ | ⟨g, cap, cur, rfl, hb, hg, hnc, hcm, _⟩
  · exact .inl ⟨rfl, hn⟩
  · refine .inr ⟨g, cap, rfl, hb, (Array.getElem?_eq_some_iff.1 hg).1, hnc, hcm, fun j hj => ?_, fun j => h.frozenAt j⟩
    rw [h.cellAt j (by omega), ints_get f n hj]
theorem Own.keep {w w' : World} {base n : Nat} {v : Value} {f : Nat → Int} (h : Own w base v n f) (k : Ext w w') : Own w' base v n f :=
  World.ownsRow.kept (row := none) h ⟨Below.os k, Below.tape k, Below.output k, k.size, fun i hi _ => Below.block k i hi⟩ (by cases hv : v.ownBlock <;> simp)
theorem Own.keepB {R : Nat} {w w' : World} {base n : Nat} {v : Value} {f : Nat → Int} (h : Own w base v n f) (k : ExtB R w w') (hR : v.ownBlock ≠ some R) : Own w' base v n f :=
  World.ownsRow.kept (row := some R) h ⟨k.1, k.2.1, k.2.2.1, k.size, fun i hi hr => k.2.2.2.2 i hi (fun e => hr (by rw [e]))⟩ (.inr hR)
theorem Own.mono {w : World} {base b n : Nat} {v : Value} {f : Nat → Int} (h : Own w base v n f) (hb : b ≤ base) : Own w b v n f := by
  refine ⟨h.1, ?_⟩
  rcases h.2 with h | ⟨g, cap, cur, rfl, h1, rest⟩
  · exact .inl h
  · exact .inr ⟨g, cap, cur, rfl, Nat.le_trans hb h1, rest⟩
theorem Ext.grown {a w w' : World} {e : TypeId} {sz n : Nat} {v : Value} {xs : List Value} (h : Ext a w) (hg : w.grownBy w' v.ownBlock) (ho : w.ownsRow a.heap.size e sz v n xs) : Ext a w' :=
  Below.grown h hg h.size fun k hk => (ho.lt k hk).1


set_option maxHeartbeats 400000 in
theorem eqIntS_any (w : World) (b1 b2 n : Nat) (v1 v2 : Value) (f : Nat → Int) (h1 : Own w b1 v1 n f) (h2 : Own w b2 v2 n f) :
    Calls Try.prog 14 #[v1, v2] w fun e w' => e = .returned (.bool true) ∧ Ext w w' := by
  rcases h1.shape with ⟨rfl, hn⟩ | ⟨g1, c1, rfl, _, _, n1, m1, k1, _⟩
  · subst hn
    rcases h2.shape with ⟨rfl, hn⟩ | ⟨g2, c2, rfl, _, _, n2, m2, k2, _⟩
    · go_enter Try.func14, Try.ntmps14
      go_wp2
      refine wp_loop_rounds 1 ?_; rw [rounds_succ]
      go_wp2
      go_ret; exact ⟨rfl, Ext.refl _⟩
    · clear h1 h2
      go_enter Try.func14, Try.ntmps14
      go_wp2
      refine wp_loop_rounds 1 ?_; rw [rounds_succ]
      go_wp2
      go_ret; exact ⟨rfl, Ext.refl _⟩
  · rcases h2.shape with ⟨rfl, hn⟩ | ⟨g2, c2, rfl, _, _, n2, m2, k2, _⟩
    · subst hn
      clear h1 h2
      go_enter Try.func14, Try.ntmps14
      go_wp2
      refine wp_loop_rounds 1 ?_; rw [rounds_succ]
      go_wp2
      go_ret; exact ⟨rfl, Ext.refl _⟩
    · unfold maxLen at m1
      clear h1 h2
      have K1 := Lib.hid k1
      have K2 := Lib.hid k2
      clear k1 k2
      go_enter Try.func14, Try.ntmps14
      go_wp2
      go_loopw [5] (fun i wr => ∃ k : Nat, k ≤ n ∧ i = .int .i64 k ∧ ∃ m, wr = w.drewN m) (fun i _ => n - (intOf i).toNat)
      case atStart => exact ⟨0, by omega, rfl, 0, rfl⟩
      case round =>
        obtain ⟨k, hk, rfl, m, rfl⟩ := hrel
        by_cases hkn : k < n
        · have c1 := K1.out k hkn
          have c2 := K2.out k hkn
          go_wp2
          go_quiet (fail)
          go_wp2
          go_roundw
          case rel => exact ⟨k + 1, by omega, by go_num, m + nq, rfl⟩
          case measure => simp [intOf]; omega
        · go_wp2
          go_ret; exact ⟨rfl, (Ext.refl _).drewN _⟩

set_option maxHeartbeats 400000 in
theorem sameInts_any (w : World) (b1 b2 n : Nat) (v1 v2 : Value) (f : Nat → Int) (h1 : Own w b1 v1 n f) (h2 : Own w b2 v2 n f) :
    Calls Try.prog 28 #[v1, v2] w fun e w' => e = .returned (.bool true) ∧ Ext w w' := by
  rcases h1.shape with ⟨rfl, hn⟩ | ⟨g1, c1, rfl, _, _, n1, m1, k1, _⟩
  · subst hn
    rcases h2.shape with ⟨rfl, hn⟩ | ⟨g2, c2, rfl, _, _, n2, m2, k2, _⟩
    · go_enter Try.func28, Try.ntmps28
      go_wp2
      refine wp_loop_rounds 1 ?_; rw [rounds_succ]
      go_wp2
      go_ret; exact ⟨rfl, Ext.refl _⟩
    · clear h1 h2
      go_enter Try.func28, Try.ntmps28
      go_wp2
      refine wp_loop_rounds 1 ?_; rw [rounds_succ]
      go_wp2
      go_ret; exact ⟨rfl, Ext.refl _⟩
  · rcases h2.shape with ⟨rfl, hn⟩ | ⟨g2, c2, rfl, _, _, n2, m2, k2, _⟩
    · subst hn
      clear h1 h2
      go_enter Try.func28, Try.ntmps28
      go_wp2
      refine wp_loop_rounds 1 ?_; rw [rounds_succ]
      go_wp2
      go_ret; exact ⟨rfl, Ext.refl _⟩
    · unfold maxLen at m1
      clear h1 h2
      have K1 := Lib.hid k1
      have K2 := Lib.hid k2
      clear k1 k2
      go_enter Try.func28, Try.ntmps28
      go_wp2
      go_loopw [5] (fun i wr => ∃ k : Nat, k ≤ n ∧ i = .int .i64 k ∧ ∃ m, wr = w.drewN m) (fun i _ => n - (intOf i).toNat)
      case atStart => exact ⟨0, by omega, rfl, 0, rfl⟩
      case round =>
        obtain ⟨k, hk, rfl, m, rfl⟩ := hrel
        by_cases hkn : k < n
        · have c1 := K1.out k hkn
          have c2 := K2.out k hkn
          go_wp2
          go_quiet (fail)
          go_wp2
          go_roundw
          case rel => exact ⟨k + 1, by omega, by go_num, m + nq, rfl⟩
          case measure => simp [intOf]; omega
        · go_wp2
          go_ret; exact ⟨rfl, (Ext.refl _).drewN _⟩

set_option maxHeartbeats 400000 in
theorem heldIntS_any (w : World) (b n : Nat) (v : Value) (m : Nat) (hm : m ≤ 1000000) (hn : n ≤ 1000000) (h : Own w b v n (fun i => (m : Int) + i)) :
    Calls Try.prog 16 #[v, .int .i64 m] w fun e w' => e = .returned (.int .i64 ((m : Int) + n)) ∧ w = w' := by
  rcases h.shape with ⟨rfl, hn⟩ | ⟨g, c, rfl, _, _, n1, m1, k1, _⟩
  · subst hn
    clear h
    go_enter Try.func16, Try.ntmps16
    go_wp2
    refine wp_loop_rounds 1 ?_; rw [rounds_succ]
    go_wp2
    go_ret; exact ⟨by simp, rfl⟩
  · clear h
    have K1 := Lib.hid k1
    clear k1
    go_enter Try.func16, Try.ntmps16
    go_wp2
    go_loop [1, 5] (fun q i => ∃ k : Nat, k ≤ n ∧ i = .int .i64 k ∧ q = .int .i64 ((m : Int) + k)) (fun _ i => n - (intOf i).toNat)
    case atStart => exact ⟨0, by omega, rfl, by simp⟩
    case round =>
      obtain ⟨k, hk, rfl, rfl⟩ := hrel
      by_cases hkn : k < n
      · have c1 := K1.out k hkn
        go_wp2
        go_round
        case rel => exact ⟨k + 1, by omega, by go_num, by go_num⟩
        case measure => simp [intOf]; omega
      · have hkn' : k = n := by omega
        subst hkn'
        go_wp2
        go_ret; exact ⟨rfl, rfl⟩

/-- an own slice of which one cell is written -/
theorem Own.stored {w : World} {base n g cap : Nat} {f : Nat → Int} (h : Own w base (.slice (some ⟨g, 0, none⟩) n cap) n f) (j : Nat) (u : Int) :
    Own (w.setCell ⟨g, j, none⟩ (.int .i64 u)) base (.slice (some ⟨g, 0, none⟩) n cap) n (fun i => if i = j then u else f i) ∧ ExtB g w (w.setCell ⟨g, j, none⟩ (.int .i64 u)) := by
  have := World.ownsRow.stored h j (.int .i64 u)
  rw [ints_set] at this
  exact ⟨this.1, (ExtB.refl g w).set (.inl rfl) _⟩
theorem Own.congr {w : World} {base n : Nat} {v : Value} {f g : Nat → Int} (h : Own w base v n f) (hfg : ∀ i, i < n → f i = g i) : Own w base v n g := by
  unfold Own at *
  rwa [← ints_congr hfg]
/-- what marking a slice leaves -/
def Marked (b n m : Nat) (v : Value) (w : World) (e : Ending) (w' : World) : Prop :=
  e = .returned (.int .i64 ((m : Int) + n)) ∧ Own w' b v n (fun i => (m : Int) + i) ∧ ((n = 0 ∧ w = w') ∨ ∃ g, v.ownBlock = some g ∧ ExtB g w w')
set_option maxHeartbeats 400000 in
theorem markIntS_any (w : World) (b n : Nat) (v : Value) (f : Nat → Int) (m : Nat) (hm : m ≤ 1000000) (hn : n ≤ 1000000) (h : Own w b v n f) :
    Calls Try.prog 15 #[v, .int .i64 m] w (Marked b n m v w) := by
  rcases h.shape with ⟨rfl, hn⟩ | ⟨g, c, rfl, hg1, hg2, n1, m1, k1, fz⟩
  · subst hn
    go_enter Try.func15, Try.ntmps15
    go_wp2
    refine wp_loop_rounds 1 ?_; rw [rounds_succ]
    go_wp2
    go_ret; exact ⟨by simp, h.congr (fun i hi => by omega), .inl ⟨rfl, rfl⟩⟩
  · clear k1 fz
    go_enter Try.func15, Try.ntmps15
    go_wp2
    go_loopw [1, 5] (fun q i wr => ∃ k : Nat, k ≤ n ∧ i = .int .i64 k ∧ q = .int .i64 ((m : Int) + k) ∧ Own wr b (.slice (some ⟨g, 0, none⟩) n c) n (fun i => if i < k then (m : Int) + i else f i) ∧ ExtB g w wr) (fun _ i _ => n - (intOf i).toNat)
    case atStart => exact ⟨0, by omega, rfl, by simp, h.congr (fun i hi => by simp), ExtB.refl _ _⟩
    case round =>
      obtain ⟨k, hk, rfl, rfl, ho, hx⟩ := hrel
      by_cases hkn : k < n
      · obtain ⟨o1, o2⟩ := ho.stored k ((m : Int) + k)
        have c1 : wr.cell? ⟨g, k, none⟩ = some (.int .i64 (f k)) := by
          rcases ho.shape with ⟨h1, _⟩ | ⟨g', c', h1, _, _, _, _, hc, _⟩
          · cases h1
          · cases h1; have := hc k hkn; simpa using this
        have f1 : wr.frozen? ⟨g, k, none⟩ = false := ho.frozenAt k
        go_wp2
        go_roundw
        case rel => exact ⟨k + 1, by omega, by go_num, by go_num, o1.congr (fun i hi => by
          by_cases h1 : i = k
          · subst h1; simp
          · by_cases h2 : i < k
            · rw [if_neg h1, if_pos h2, if_pos (by omega)]
            · rw [if_neg h1, if_neg h2, if_neg (by omega)]), hx.trans o2⟩
        case measure => simp [intOf]; omega
      · have hkn' : k = n := by omega
        subst hkn'
        go_wp2
        go_ret; exact ⟨rfl, ho.congr (fun i hi => by simp [hi]), .inr ⟨g, rfl, hx⟩⟩

/-- an older slice lies apart from a younger one that was written -/
theorem Own.apart {w w' w0 : World} {b n m : Nat} {v u : Value} {f h : Nat → Int} (hv : Own w b v n f) (hv0 : Own w0 b v n f) (hu : Own w w0.heap.size u m h)
    (hx : (m = 0 ∧ w = w') ∨ ∃ g, u.ownBlock = some g ∧ ExtB g w w') : Own w' b v n f := by
  rcases hx with ⟨_, rfl⟩ | ⟨g, hg, hx⟩
  · exact hv
  · refine hv.keepB hx (fun e => ?_)
    have h1 := World.ownsRow.lt hv0 g e
    have h2 := World.ownsRow.lt hu g hg
    omega
theorem Ext.marked {z w w' : World} {B m : Nat} {u : Value} {h : Nat → Int} (hz : Ext z w) (hu : Own w B u m h) (hB : z.heap.size ≤ B) (hx : (m = 0 ∧ w = w') ∨ ∃ g, u.ownBlock = some g ∧ ExtB g w w') : Ext z w' := by
  rcases hx with ⟨_, rfl⟩ | ⟨g, hg, hx⟩
  · exact hz
  · exact hx.ext hz (Nat.le_trans hB (World.ownsRow.lt hu g hg).1)

end Go.Proofs.Ytbbaadnadpmfeaa
