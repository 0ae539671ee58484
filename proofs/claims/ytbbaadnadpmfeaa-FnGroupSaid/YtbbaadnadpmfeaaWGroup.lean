/- The law on what two turns make: its walk, and the plain arithmetic behind it. -/
import Derived.Test.YtbbaadnadpmfeaaGroup
namespace Go.Proofs.Ytbbaadnadpmfeaa
open Go.ChangeShapes Go.WideShapes Go.ChangeAt Go.RowKit
set_option linter.unusedVariables false

/-- the cells of 24 bools -/
def bools (h : Nat → Bool) : List Value := (List.range 24).map fun j => .bool (h j)
theorem bools_get (h : Nat → Bool) {j : Nat} (hj : j < 24) : (bools h)[j]? = some (.bool (h j)) := by simp [bools, hj]
theorem bools_set (h : Nat → Bool) (j : Nat) (u : Bool) : (bools h).set j (.bool u) = bools (fun i => if i = j then u else h i) := by
  apply List.ext_getElem?
  intro i
  by_cases hi : i < 24
  · rw [bools_get _ hi, List.getElem?_set]
    by_cases hj : j = i
    · subst hj; simp [bools, hi]
    · have h' : ¬ i = j := fun e => hj e.symm
      simp [hj, h', bools_get h hi]
  · rw [List.getElem?_eq_none (by simp [bools]; omega), List.getElem?_eq_none (by simp [bools]; omega)]
theorem bools_congr {h k : Nat → Bool} (e : ∀ j, j < 24 → h j = k j) : bools h = bools k := by
  unfold bools
  apply List.map_congr_left
  intro i hi
  rw [e i (by simpa using hi)]
/-- which turns have been met after k of the multiples of g -/
def hasF (g k : Nat) (j : Nat) : Bool := decide (j % g = 0 ∧ j < k * g)
theorem hasF_succ {g : Nat} (hg : 1 ≤ g) (k j : Nat) : (if j = k * g then true else hasF g k j) = hasF g (k + 1) j := by
  unfold hasF
  by_cases h : j = k * g
  · subst h
    rw [if_pos rfl]
    symm
    rw [decide_eq_true_eq]
    exact ⟨Nat.mul_mod_left k g, by rw [Nat.add_mul, Nat.one_mul]; omega⟩
  · rw [if_neg h, decide_eq_decide]
    constructor
    · rintro ⟨h1, h2⟩; exact ⟨h1, by rw [Nat.add_mul]; omega⟩
    · rintro ⟨h1, h2⟩
      refine ⟨h1, ?_⟩
      rw [Nat.add_mul, Nat.one_mul] at h2
      obtain ⟨m, rfl⟩ := Nat.dvd_of_mod_eq_zero h1
      rw [Nat.mul_comm g m] at h h2 ⊢
      have h3 : ¬ k < m := fun hlt => by
        have := Nat.mul_le_mul_right g (show k + 1 ≤ m from hlt)
        rw [Nat.add_mul, Nat.one_mul] at this; omega
      have h4 : m ≠ k := fun e => h (by rw [e])
      have := Nat.mul_le_mul_right g (show m + 1 ≤ k by omega)
      rw [Nat.add_mul, Nat.one_mul] at this; omega
theorem hasF_zero (g : Nat) : hasF g 0 = fun _ => false := by funext j; simp [hasF]
theorem hasF_all {g q j : Nat} (hq : q * g = 24) (h : j % g = 0) (hj : j < 24) : hasF g q j = true := by
  unfold hasF; rw [hq]; simp [h, hj]
theorem sum_mod {g q : Nat} (hq : q * g = 24) (i k : Nat) : ((i * g + k * g) % 24) % g = 0 := by
  rw [← hq, Nat.mul_comm q g, Nat.mod_mul_right_mod, ← Nat.add_mul, Nat.mul_mod_left]
/-- how the law's loops stand -/
def HasAt (B b g q k : Nat) (v : Value) (w : World) (wr : World) : Prop :=
  Blk wr B (bools (hasF g k)) ∧ Own wr b v q (fun i => ((i * g : Nat) : Int)) ∧ Ext w wr ∧ w.heap.size ≤ B ∧ v.ownBlock ≠ some B
theorem HasAt.step {B b g q k T : Nat} {v : Value} {w wr : World} (h : HasAt B b g q k v w wr) (hg : 1 ≤ g) (hT : T = k * g) : HasAt B b g q (k + 1) v w (wr.setCell ⟨B, T, none⟩ (.bool true)) := by
  obtain ⟨h1, h2, h3, h4, h5⟩ := h
  have hx : ExtB B wr (wr.setCell ⟨B, T, none⟩ (.bool true)) := (ExtB.refl B wr).set (.inl rfl) _
  refine ⟨?_, h2.keepB hx h5, hx.ext h3 h4, h4, h5⟩
  have := h1.set T (.bool true)
  rw [bools_set] at this
  subst hT
  rwa [bools_congr (fun j _ => hasF_succ hg k j)] at this
theorem HasAt.drewN {B b g q k : Nat} {v : Value} {w wr : World} (h : HasAt B b g q k v w wr) (n : Nat) : HasAt B b g q k v w (wr.drewN n) :=
  ⟨h.1, h.2.1, h.2.2.1.drewN n, h.2.2.2⟩
theorem HasAt.cell {B b g q k : Nat} {v : Value} {w wr : World} (h : HasAt B b g q k v w wr) {j : Nat} (hj : j < 24) : wr.cell? ⟨B, j, none⟩ = some (.bool (hasF g k j)) ∧ wr.frozen? ⟨B, j, none⟩ = false :=
  ⟨by rw [h.1.cell, bools_get _ hj], h.1.free j⟩

theorem Ext.setRow {a b : World} (h : Ext a b) {g : Nat} (hg : a.heap.size ≤ g) (cs : Array Value) : Ext a (b.setRow g cs) := by
  have k : Below a.heap.size a b := h
  exact ⟨k.os, k.tape, k.output, by simpa using k.size, fun i hi => (setRow_other b g i cs (by omega)).trans (k.block i hi)⟩
theorem Blk.row {w : World} {g : Nat} {old : Array Value} {T : TypeId} (h : w.heap[g]? = some (.cells old T (0, 0))) (cs : List Value) : Blk (w.setRow g cs.toArray) g cs :=
  ⟨T, setRow_heap w g old _ T _ h⟩

theorem all24 : (#[.bool false, .bool false, .bool false, .bool false, .bool false, .bool false, .bool false, .bool false, .bool false, .bool false, .bool false, .bool false, .bool false, .bool false, .bool false, .bool false, .bool false, .bool false, .bool false, .bool false, .bool false, .bool false, .bool false, .bool false] : Array Value).all (·.oneCell') = true := by kernel_rfl
theorem build24 (w : World) : (Instr.build 37 #[]).run Try.prog w = .ok (.agg #[.bool false, .bool false, .bool false, .bool false, .bool false, .bool false, .bool false, .bool false, .bool false, .bool false, .bool false, .bool false, .bool false, .bool false, .bool false, .bool false, .bool false, .bool false, .bool false, .bool false, .bool false, .bool false, .bool false, .bool false]) w := run_build w 37 _ _ (by kernel_rfl)
set_option maxHeartbeats 1000000 in
theorem lawGroup (a : Option Addr) (len cap : Nat) (w : World) (h : CodeOk w a len cap) :
    Calls Try.prog 9 #[.slice a len cap] w fun e w' => e = .returned (.bool true) ∧ Ext w w' := by
  have hl := h.1
  have hm := h.2.1
  unfold maxLen at hm
  by_cases hbig : 1048576 < len
  · go_enter Try.func9, Try.ntmps9
    go_wp2_with fail
    go_ret; exact ⟨rfl, Ext.refl _⟩
  · go_enter Try.func9, Try.ntmps9
    go_wp2_with fail
    refine (dTurnGroup_any _ _ _ _ h).mono ?_
    rintro e w1 ⟨x, y, rfl, n1, n2, d1, d2, x1⟩
    go_wp2_with fail
    refine (iTurnGroup_any _ _ _).mono ?_
    rintro e w2 ⟨v, rfl, o2, x2⟩
    go_wp2_with fail
    refine (sTurnGroup_any _ _ _).mono ?_
    rintro e w3 ⟨u, rfl, o3, x3⟩
    have o2' := o2.keep x3
    by_cases hok : groupOk x y = true
    · have hok' : inR 0 23 x = true ∧ inR 0 23 y = true := by simpa [groupOk] using hok
      obtain ⟨a1, a2⟩ := inR_of hok'.1
      obtain ⟨b1, b2⟩ := inR_of hok'.2
      obtain ⟨g1, g2, g3, g4⟩ := groupG_bd x y
      have hN : groupN x y = 24 / groupG x y := by simp [groupN, hok]
      have hF : groupF x y = (fun i => ((i * groupG x y : Nat) : Int)) := rfl
      rw [hN, hF] at o3 o2'
      have da : x.toNat % groupG x y = 0 := Nat.mod_eq_zero_of_dvd (Nat.dvd_trans (Nat.gcd_dvd_left _ _) (Nat.gcd_dvd_left _ _))
      have db : y.toNat % groupG x y = 0 := Nat.mod_eq_zero_of_dvd (Nat.dvd_trans (Nat.gcd_dvd_left _ _) (Nat.gcd_dvd_right _ _))
      rw [hok]
      generalize groupG x y = g at *
      generalize hq : 24 / g = q at *
      have HQ := Lib.hid g3
      have DA := Lib.hid da
      have DB := Lib.hid db
      clear hok hok' hN hF da db g3 hq o2
      go_wp2_with fail
      refine (sameInts_any _ _ _ _ _ _ _ o2' o3).mono ?_
      rintro e w4 ⟨rfl, x4⟩
      have o4 := o2'.keep x4
      have x5 := ((x1.trans x2).trans x3).trans x4
      clear x1 x2 x3 x4 o2' o3
      have q1 : 1 ≤ q := by
        have := HQ.out
        by_cases h0 : q = 0
        · subst h0; omega
        · omega
      obtain ⟨X, rfl⟩ := Int.eq_ofNat_of_zero_le a1
      obtain ⟨Y, rfl⟩ := Int.eq_ofNat_of_zero_le b1
      have DA' : Hid (X % g = 0) := DA
      have DB' : Hid (Y % g = 0) := DB
      have DQ := Lib.hid (show (24 : Int) % (q : Int) = 0 from by
        rw [show (24 : Int) = ((q * g : Nat) : Int) from by have := HQ.out; omega, Int.natCast_mul]; exact Int.mul_emod_right _ _)
      clear DA DB
      obtain ⟨G, C, rfl, hG1, hG2, hC1, hC2⟩ : ∃ G C, v = .slice (some ⟨G, 0, none⟩) q C ∧ w1.heap.size ≤ G ∧ G < w4.heap.size ∧ q ≤ C ∧ C ≤ maxLen := by
        rcases o4.shape with ⟨_, h0⟩ | ⟨G, C, h1, h2, h3, h4, h5, _⟩
        · omega
        · exact ⟨G, C, h1, h2, h3, h4, h5⟩
      have hbld := build24
      go_wp2_with (refine wpList_store_row (o := ⟨none, .store 37 (.tmp 9) (.tmp 54), _, _, _, _⟩) rfl 37 (.tmp 9) (.tmp 54) rfl w4.heap.size #[.bool false, .bool false, .bool false, .bool false, .bool false, .bool false, .bool false, .bool false, .bool false, .bool false, .bool false, .bool false, .bool false, .bool false, .bool false, .bool false, .bool false, .bool false, .bool false, .bool false, .bool false, .bool false, .bool false, .bool false] rfl rfl 37 #[.bool false, .bool false, .bool false, .bool false, .bool false, .bool false, .bool false, .bool false, .bool false, .bool false, .bool false, .bool false, .bool false, .bool false, .bool false, .bool false, .bool false, .bool false, .bool false, .bool false, .bool false, .bool false, .bool false, .bool false] ?s1 ?s2 rfl all24 ?_)
      case s1 => exact (MapKept.heap_alloc _ _).1
      case s2 => kernel_rfl
      clear hbld
      have hat : HasAt w4.heap.size w1.heap.size g q 0 (.slice (some ⟨G, 0, none⟩) q C) w ((w4.alloc (.cells #[.bool false, .bool false, .bool false, .bool false, .bool false, .bool false, .bool false, .bool false, .bool false, .bool false, .bool false, .bool false, .bool false, .bool false, .bool false, .bool false, .bool false, .bool false, .bool false, .bool false, .bool false, .bool false, .bool false, .bool false] 37)).setRow w4.heap.size #[.bool false, .bool false, .bool false, .bool false, .bool false, .bool false, .bool false, .bool false, .bool false, .bool false, .bool false, .bool false, .bool false, .bool false, .bool false, .bool false, .bool false, .bool false, .bool false, .bool false, .bool false, .bool false, .bool false, .bool false]) := by
        have e4 : Ext w4 ((w4.alloc (.cells #[.bool false, .bool false, .bool false, .bool false, .bool false, .bool false, .bool false, .bool false, .bool false, .bool false, .bool false, .bool false, .bool false, .bool false, .bool false, .bool false, .bool false, .bool false, .bool false, .bool false, .bool false, .bool false, .bool false, .bool false] 37)).setRow w4.heap.size #[.bool false, .bool false, .bool false, .bool false, .bool false, .bool false, .bool false, .bool false, .bool false, .bool false, .bool false, .bool false, .bool false, .bool false, .bool false, .bool false, .bool false, .bool false, .bool false, .bool false, .bool false, .bool false, .bool false, .bool false]) := ((Ext.refl w4).alloc _).setRow (Nat.le_refl _) _
        refine ⟨?_, o4.keep e4, x5.trans e4, x5.size, fun e => ?_⟩
        · rw [hasF_zero]; exact Blk.row (MapKept.heap_alloc _ _).1 (bools fun _ => false)
        · have := (World.ownsRow.lt o4 _ e).2; omega
      generalize World.setRow _ _ _ = w6 at hat ⊢
      go_wp2
      obtain ⟨B, hB⟩ : ∃ B, w4.heap.size = B := ⟨_, rfl⟩
      rw [hB] at hat ⊢
      clear hB
      clear x5 o4
      go_loopw [10] (fun i wr => ∃ k : Nat, k ≤ q ∧ i = .int .i64 k ∧ HasAt B w1.heap.size g q k (.slice (some ⟨G, 0, none⟩) q C) w wr) (fun i _ => q - (intOf i).toNat)
      case atStart => exact ⟨0, by omega, rfl, hat⟩
      case round =>
        obtain ⟨k, hk, rfl, hA⟩ := hrel
        by_cases hkq : k < q
        · obtain ⟨T, hT⟩ : ∃ T, T = k * g := ⟨_, rfl⟩
          obtain ⟨t1, t2⟩ := (GroupAt.test HQ.out g1 hT hk).1 hkq
          have c1 : wr.cell? ⟨G, k, none⟩ = some (.int .i64 T) := by rw [hT]; exact (hA.2.1.cellAt k (by omega)).trans (ints_get _ _ hkq)
          have c2 := (hA.cell t1).1
          have f2 := (hA.cell t1).2
          have hA' := hA.step g1 hT
          clear hT hA
          go_wp2
          go_roundw
          case rel => exact ⟨k + 1, by omega, by go_num, hA'⟩
          case measure => simp [intOf]; omega
        · have hkk : k = q := by omega
          subst hkk
          go_wp2
          go_loopw [11] (fun i wr => ∃ m : Nat, m ≤ k ∧ i = .int .i64 m ∧ HasAt B w1.heap.size g k k (.slice (some ⟨G, 0, none⟩) k C) w wr) (fun i _ => k - (intOf i).toNat)
          case atStart => exact ⟨0, by omega, rfl, hA⟩
          case round =>
            obtain ⟨m, hm, rfl, hA2⟩ := hrel
            obtain ⟨wo, rfl⟩ : ∃ wo : World, wo = wr := ⟨_, rfl⟩
            by_cases hmk : m < k
            · go_wp2
              go_loopw [12] (fun i wr => ∃ r : Nat, r ≤ k ∧ i = .int .i64 r ∧ HasAt B w1.heap.size g k k (.slice (some ⟨G, 0, none⟩) k C) w wr) (fun i _ => k - (intOf i).toNat)
              case atStart => exact ⟨0, by omega, rfl, hA2⟩
              case round =>
                obtain ⟨r, hr, rfl, hA3⟩ := hrel
                by_cases hrk : r < k
                · obtain ⟨T, hT⟩ : ∃ T, T = m * g := ⟨_, rfl⟩
                  obtain ⟨U, hU⟩ : ∃ U, U = r * g := ⟨_, rfl⟩
                  obtain ⟨t1, t2⟩ := (GroupAt.test HQ.out g1 hT hm).1 hmk
                  obtain ⟨u1, u2⟩ := (GroupAt.test HQ.out g1 hU hr).1 hrk
                  have c1 : wr.cell? ⟨G, m, none⟩ = some (.int .i64 T) := by rw [hT]; exact (hA3.2.1.cellAt m (by omega)).trans (ints_get _ _ hmk)
                  have c2 : wr.cell? ⟨G, r, none⟩ = some (.int .i64 U) := by rw [hU]; exact (hA3.2.1.cellAt r (by omega)).trans (ints_get _ _ hrk)
                  have hsum : hasF g k ((T + U) % 24) = true := hasF_all HQ.out (by rw [hT, hU]; exact sum_mod HQ.out m r) (Nat.mod_lt _ (by omega))
                  have c3 : wr.cell? ⟨B, (T + U) % 24, none⟩ = some (.bool true) := by rw [(hA3.cell (Nat.mod_lt _ (by omega))).1, hsum]
                  clear hT hU hsum
                  have s1 : IntKind.i64.wrap ((T : Int) + U) = (T : Int) + U := IntWalk.i64_in _ (by omega)
                  have m1 : ((T : Int) + U).tmod 24 = ((T : Int) + U) % 24 := by rw [Int.tmod_eq_emod_of_nonneg (by omega)]
                  have m2 : (((T : Int) + U) % 24).toNat = (T + U) % 24 := by omega
                  have m3 : 0 ≤ ((T : Int) + U) % 24 := by omega
                  have m4 : ((T : Int) + U) % 24 < 24 := by omega
                  go_wp2
                  go_quiet (fail)
                  clear s1 m1 m2 m3 m4
                  go_wp2
                  go_roundw
                  case rel => exact ⟨r + 1, by omega, by go_num, hA3.drewN _⟩
                  case measure => simp [intOf]; omega
                · go_wp2
                  go_roundw
                  case rel => exact ⟨m + 1, by omega, by go_num, hA3⟩
                  case measure => simp [intOf]; omega
            · have c0 : wo.cell? ⟨B, 0, none⟩ = some (.bool true) := by rw [(hA2.cell (by omega)).1, hasF_all HQ.out (by simp) (by omega)]
              have cX : wo.cell? ⟨B, X, none⟩ = some (.bool true) := by rw [(hA2.cell (by omega)).1, hasF_all HQ.out DA'.out (by omega)]
              have cY : wo.cell? ⟨B, Y, none⟩ = some (.bool true) := by rw [(hA2.cell (by omega)).1, hasF_all HQ.out DB'.out (by omega)]
              have hz : ¬ (k : Int) = 0 := by omega
              have dq := DQ.out
              have x5 := hA2.2.2.1
              clear hA2 hA
              go_wp2
              go_ret
              exact ⟨rfl, x5⟩
    · have hok' : groupOk x y = false := by simpa using hok
      have hN : groupN x y = 0 := by simp [groupN, hok']
      rw [hN] at o3 o2'
      rw [hok']
      clear hok hok' hN
      go_wp2_with fail
      refine (sameInts_any _ _ _ _ _ _ _ o2' o3).mono ?_
      rintro e w4 ⟨rfl, x4⟩
      go_wp2_with fail
      refine (sameInts_any _ _ _ _ _ _ _ (o2'.keep x4) (o3.keep x4)).mono ?_
      rintro e w5 ⟨rfl, x5⟩
      go_wp2_with fail
      go_ret; exact ⟨rfl, (((x1.trans x2).trans x3).trans x4).trans x5⟩

end Go.Proofs.Ytbbaadnadpmfeaa
