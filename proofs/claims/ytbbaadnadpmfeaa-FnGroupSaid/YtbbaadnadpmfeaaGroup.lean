/- TurnGroup, of impl and of spec: all multiples of the common divisor, in new memory. -/
import Derived.Test.YtbbaadnadpmfeaaInts
namespace Go.Proofs.Ytbbaadnadpmfeaa
open Go.ChangeShapes Go.WideShapes Go.ChangeAt Go.RowKit
set_option linter.unusedVariables false

theorem infoInt : (Try.prog.info? 3).map (fun i => (i.zero, i.size, i.bytes)) = some (some (.int .i64 0), 1, 8) := by kernel_rfl
/-- the step of what two turns make -/
def groupG (a b : Int) : Nat := Nat.gcd (Nat.gcd a.toNat b.toNat) 24
def groupOk (a b : Int) : Bool := inR 0 23 a && inR 0 23 b
def groupN (a b : Int) : Nat := if groupOk a b then 24 / groupG a b else 0
def groupF (a b : Int) (i : Nat) : Int := (i * groupG a b : Nat)
theorem groupG_bd (a b : Int) : 1 ≤ groupG a b ∧ groupG a b ≤ 24 ∧ 24 / groupG a b * groupG a b = 24 ∧ 24 / groupG a b ≤ 24 := by
  have h := gcd24_bd (Nat.gcd a.toNat b.toNat)
  have hd : groupG a b ∣ 24 := Nat.gcd_dvd_right _ _
  refine ⟨h.1, h.2, Nat.div_mul_cancel hd, Nat.div_le_self _ _⟩
theorem groupN_le (a b : Int) : groupN a b ≤ 24 := by
  unfold groupN; split
  · exact (groupG_bd a b).2.2.2
  · omega
/-- what TurnGroup comes to -/
def Grouped (a b : Int) (w : World) (e : Ending) (w' : World) : Prop :=
  ∃ v, e = .returned (.tuple #[v, .bool (groupOk a b)]) ∧ Own w' w.heap.size v (groupN a b) (groupF a b) ∧ Ext w w'
/-- how the loop that appends stands -/
def GroupAt (g q B : Nat) (w : World) (out t : Value) (wr : World) : Prop :=
  ∃ k T : Nat, k ≤ q ∧ T = k * g ∧ t = .int .i64 T ∧ Own wr B out k (fun i => ((i * g : Nat) : Int)) ∧ B ≤ wr.heap.size ∧ Ext w wr
theorem GroupAt.test {g q k T : Nat} (hq : q * g = 24) (hg : 1 ≤ g) (hT : T = k * g) (hk : k ≤ q) : (k < q → T < 24 ∧ T + g ≤ 24) ∧ (¬ k < q → T = 24 ∧ k = q) := by
  subst hT
  constructor
  · intro h
    have : (k + 1) * g ≤ q * g := Nat.mul_le_mul_right g h
    rw [Nat.add_mul, Nat.one_mul] at this
    omega
  · intro h
    have : k = q := by omega
    subst this; exact ⟨hq, rfl⟩
theorem GroupAt.next {g q B k T : Nat} {w wr w1 : World} {out v' : Value} {o : Obj} (hk : k < q) (hT : T = k * g) (hown' : w1.ownsRow B 3 1 v' (k + 1) (ints (fun i => ((i * g : Nat) : Int)) k ++ [.int .i64 T]))
    (hgrow : (wr.alloc o).grownBy w1 out.ownBlock) (hown : Own wr B out k (fun i => ((i * g : Nat) : Int))) (hB : B ≤ wr.heap.size) (hwB : w.heap.size ≤ B) (hx : Ext w wr) (u : Int) (hu : u = ((T + g : Nat) : Int)) :
    GroupAt g q B w v' (.int .i64 u) w1 := by
  subst hu
  refine ⟨k + 1, T + g, hk, by subst hT; rw [Nat.add_mul, Nat.one_mul], rfl, ?_, ?_, ?_⟩
  · unfold Own
    rw [ints_succ, ← hT]; exact hown'
  · have h1 := hgrow.size; have h2 := ((Ext.refl wr).alloc o).size; omega
  · exact (hx.alloc o).grown hgrow ((Own.mono hown hwB).keep ((Ext.refl wr).alloc o))


set_option maxHeartbeats 1000000 in
theorem sTurnGroup_any (a b : Int) (w : World) : Calls Try.prog 12 #[.int .i64 a, .int .i64 b] w (Grouped a b w) := by
  obtain ⟨i0, hi, hz0, hz1, hz2⟩ := info_parts infoInt
  have hlit := World.ownsRow_lit (w := w) (base := w.heap.size) (e := 3) (size := 1) #[] 0 (Nat.le_refl _) (by decide) rfl
  by_cases hok : inR 0 23 a = true ∧ inR 0 23 b = true
  · obtain ⟨ha, hb⟩ := hok
    obtain ⟨a1, a2⟩ := inR_of ha
    obtain ⟨b1, b2⟩ := inR_of hb
    have hO := Lib.hid (show groupOk a b = true from by simp [groupOk, ha, hb])
    obtain ⟨g1, g2, g3, g4⟩ := groupG_bd a b
    have hN := Lib.hid (show groupN a b = 24 / groupG a b from by simp [groupN, hO.out])
    obtain ⟨x, rfl⟩ := Int.eq_ofNat_of_zero_le a1
    obtain ⟨y, rfl⟩ := Int.eq_ofNat_of_zero_le b1
    have hG := Lib.hid (show Nat.gcd (Nat.gcd 24 x) y = groupG x y from by unfold groupG; simp only [Int.toNat_natCast]; rw [Nat.gcd_comm 24 x, Nat.gcd_assoc, Nat.gcd_comm 24 y, ← Nat.gcd_assoc])
    obtain ⟨g, hg⟩ : ∃ g, groupG x y = g := ⟨_, rfl⟩
    have hF := Lib.hid (show groupF x y = (fun i => ((i * g : Nat) : Int)) from by funext i; simp only [groupF, hg])
    rw [hg] at g1 g2 g3 g4 hN hG
    obtain ⟨q, hq⟩ : ∃ q, 24 / g = q := ⟨_, rfl⟩
    rw [hq] at g3 g4 hN
    have HQ := Lib.hid g3
    clear hg hq g3
    go_enter Try.func12, Try.ntmps12
    go_wp2_with (go_at_call 29; ((with_reducible refine (l1Is_any _ _).mono ?_); rintro e w' ⟨rfl, rfl⟩))
    refine (l1Gcd_any 24 x _ (by omega) (by omega)).mono ?_
    rintro e w1 ⟨rfl, x1⟩
    go_wp2_with fail
    have hgx : Nat.gcd 24 x ≤ 24 := Nat.gcd_le_left _ (by omega)
    refine (l1Gcd_any (Nat.gcd 24 x) y _ (by omega) (by omega)).mono ?_
    rw [hG.out]
    rintro e w2 ⟨rfl, x2⟩
    have x3 : Ext w w2 := (((Ext.refl w).alloc _).trans x1).trans x2
    have o3 : Own w2 w.heap.size _ 0 (fun i => ((i * g : Nat) : Int)) := Own.keep (Own.keep (Own.congr (f := fun _ => 0) hlit (fun i hi => by omega)) x1) x2
    clear x1 x2 hlit hgx
    go_wp2
    go_loopw [6, 8] (fun out t wr => GroupAt g q w.heap.size w out t wr) (fun _ t _ => 24 - (intOf t).toNat)
    case atStart => exact ⟨0, 0, by omega, by simp, rfl, o3, x3.size, x3⟩
    case round =>
      obtain ⟨k, T, hk, hT, rfl, hown, hB, hx⟩ := hrel
      have HT := Lib.hid hT
      have ht := GroupAt.test HQ.out g1 hT hk
      clear hT
      by_cases hkq : k < q
      · obtain ⟨t1, t2⟩ := ht.1 hkq
        clear ht
        go_wp2_with (at_builtin; refine wpList_append_own _ rfl _ _ 24 rfl w.heap.size 3 i0 (.int .i64 0) 1 8 Try.underlying24 hi hz0 hz1 hz2 rfl (by decide) _ _ _ rfl (World.ownsRow.alloc hown _) ⟨wr.heap.size, 0, none⟩ 1 1 [.int .i64 T] rfl rfl ?c1 ?c2 ?c3 ?c4 ?c5 ?_)
        case c1 =>
          intro j u hj
          match j, hj with
          | 0, hj => simp at hj; subst hj; simp [Addr.add]
        case c2 => intro u hu; simp at hu; subst hu; rfl
        case c3 => unfold maxLen; omega
        case c4 => omega
        case c5 => simp; omega
        · intro v' w1 hown' hgrow _
          have R := GroupAt.next hkq HT.out hown' hgrow hown hB (Nat.le_refl _) hx ((T : Int) + g) (by omega)
          clear hown' hgrow hown
          go_wp2
          go_roundw
          case rel => exact R
          case measure => simp [intOf]; omega
      · obtain ⟨t1, t2⟩ := ht.2 hkq
        clear ht
        subst t2
        have HT2 := Lib.hid t1
        have t3 : 24 ≤ T := by omega
        clear t1
        go_wp2
        go_ret2
        exact ⟨_, by rw [hO.out]; rfl, by rw [hN.out, hF.out]; exact hown, hx⟩
  · have hO := Lib.hid (show groupOk a b = false from by simpa [groupOk] using hok)
    have hN := Lib.hid (show groupN a b = 0 from by simp [groupN, hO.out])
    by_cases ha : inR 0 23 a = true
    · have hb : inR 0 23 b = false := by simpa [ha] using hok
      clear hok
      go_enter Try.func12, Try.ntmps12
      go_wp2_with (go_at_call 29; ((with_reducible refine (l1Is_any _ _).mono ?_); rintro e w' ⟨rfl, rfl⟩))
      go_ret2
      exact ⟨_, by rw [hO.out]; rfl, by rw [hN.out]; exact Own.congr (f := fun _ => 0) hlit (fun i hi => by omega), (Ext.refl w).alloc _⟩
    · have ha' : inR 0 23 a = false := by simpa using ha
      clear hok ha
      go_enter Try.func12, Try.ntmps12
      go_wp2_with (go_at_call 29; ((with_reducible refine (l1Is_any _ _).mono ?_); rintro e w' ⟨rfl, rfl⟩))
      go_ret2
      exact ⟨_, by rw [hO.out]; rfl, by rw [hN.out]; exact Own.congr (f := fun _ => 0) hlit (fun i hi => by omega), (Ext.refl w).alloc _⟩

set_option maxHeartbeats 1000000 in
theorem iTurnGroup_any (a b : Int) (w : World) : Calls Try.prog 13 #[.int .i64 a, .int .i64 b] w (Grouped a b w) := by
  obtain ⟨i0, hi, hz0, hz1, hz2⟩ := info_parts infoInt
  have hlit := World.ownsRow_nil w w.heap.size 3 1
  by_cases hok : inR 0 23 a = true ∧ inR 0 23 b = true
  · obtain ⟨ha, hb⟩ := hok
    obtain ⟨a1, a2⟩ := inR_of ha
    obtain ⟨b1, b2⟩ := inR_of hb
    have hO := Lib.hid (show groupOk a b = true from by simp [groupOk, ha, hb])
    obtain ⟨g1, g2, g3, g4⟩ := groupG_bd a b
    have hN := Lib.hid (show groupN a b = 24 / groupG a b from by simp [groupN, hO.out])
    obtain ⟨x, rfl⟩ := Int.eq_ofNat_of_zero_le a1
    obtain ⟨y, rfl⟩ := Int.eq_ofNat_of_zero_le b1
    have hG := Lib.hid (show Nat.gcd (Nat.gcd x y) 24 = groupG x y from by unfold groupG; simp only [Int.toNat_natCast])
    obtain ⟨g, hg⟩ : ∃ g, groupG x y = g := ⟨_, rfl⟩
    have hF := Lib.hid (show groupF x y = (fun i => ((i * g : Nat) : Int)) from by funext i; simp only [groupF, hg])
    rw [hg] at g1 g2 g3 g4 hN hG
    obtain ⟨q, hq⟩ : ∃ q, 24 / g = q := ⟨_, rfl⟩
    rw [hq] at g3 g4 hN
    have HQ := Lib.hid g3
    clear hg hq g3
    go_enter Try.func13, Try.ntmps13
    go_wp2_with (go_at_call 31; ((with_reducible refine (tvalid_any _ _).mono ?_); rintro e w' ⟨rfl, rfl⟩))
    have hgx : Nat.gcd x y ≤ 24 := by
      by_cases h0 : x = 0
      · subst h0; simp; omega
      · exact Nat.le_trans (Nat.gcd_le_left _ (by omega)) (by omega)
    refine (divisor_any x y _ (by omega) (by omega)).mono ?_
    rintro e w1 ⟨rfl, x1⟩
    go_wp2_with fail
    refine (divisor_any (Nat.gcd x y) 24 _ (by omega) (by omega)).mono ?_
    rw [hG.out]
    rintro e w2 ⟨rfl, x2⟩
    have x3 : Ext w w2 := x1.trans x2
    have hq2 : (24 : Int) / (g : Int) = (q : Int) := by
      have h0 := HQ.out
      rw [show (24 : Int) = ((q * g : Nat) : Int) from by omega, Int.natCast_mul]
      exact Int.mul_ediv_cancel _ (by omega)
    clear x1 x2 hlit hgx
    go_wp2_with (at_make; refine wpList_make_own _ rfl _ _ 24 rfl w.heap.size 3 i0 (.int .i64 0) 1 Try.underlying24 hi hz0 hz1 _ _ _ q rfl rfl ?m1 ?m2 ?m3 ?m4 ?_)
    case m1 => omega
    case m2 => rw [hz2]; omega
    case m3 => unfold maxLen; omega
    case m4 => exact x3.size
    intro w4 hown4 hgrow4
    have o3 : Own w4 w.heap.size _ 0 (fun i => ((i * g : Nat) : Int)) := Own.congr (f := fun _ => 0) hown4 (fun i hi => by omega)
    have x4 : Ext w w4 := Below.grown x3 hgrow4 x3.size (fun k hk => by cases hk)
    clear hown4 hgrow4 x3 hq2
    go_wp2
    go_loopw [7, 8] (fun out t wr => GroupAt g q w.heap.size w out t wr) (fun _ t _ => 24 - (intOf t).toNat)
    case atStart => exact ⟨0, 0, by omega, by simp, rfl, o3, x4.size, x4⟩
    case round =>
      obtain ⟨k, T, hk, hT, rfl, hown, hB, hx⟩ := hrel
      have HT := Lib.hid hT
      have ht := GroupAt.test HQ.out g1 hT hk
      clear hT
      by_cases hkq : k < q
      · obtain ⟨t1, t2⟩ := ht.1 hkq
        clear ht
        go_wp2_with (at_builtin; refine wpList_append_own _ rfl _ _ 24 rfl w.heap.size 3 i0 (.int .i64 0) 1 8 Try.underlying24 hi hz0 hz1 hz2 rfl (by decide) _ _ _ rfl (World.ownsRow.alloc hown _) ⟨wr.heap.size, 0, none⟩ 1 1 [.int .i64 T] rfl rfl ?c1 ?c2 ?c3 ?c4 ?c5 ?_)
        case c1 =>
          intro j u hj
          match j, hj with
          | 0, hj => simp at hj; subst hj; simp [Addr.add]
        case c2 => intro u hu; simp at hu; subst hu; rfl
        case c3 => unfold maxLen; omega
        case c4 => omega
        case c5 => simp; omega
        · intro v' w1 hown' hgrow _
          have R := GroupAt.next hkq HT.out hown' hgrow hown hB (Nat.le_refl _) hx ((T : Int) + g) (by omega)
          clear hown' hgrow hown
          go_wp2
          go_roundw
          case rel => exact R
          case measure => simp [intOf]; omega
      · obtain ⟨t1, t2⟩ := ht.2 hkq
        clear ht
        subst t2
        have HT2 := Lib.hid t1
        have t3 : 24 ≤ T := by omega
        clear t1
        go_wp2
        go_ret2
        exact ⟨_, by rw [hO.out]; rfl, by rw [hN.out, hF.out]; exact hown, hx⟩
  · have hO := Lib.hid (show groupOk a b = false from by simpa [groupOk] using hok)
    have hN := Lib.hid (show groupN a b = 0 from by simp [groupN, hO.out])
    by_cases ha : inR 0 23 a = true
    · have hb : inR 0 23 b = false := by simpa [ha] using hok
      clear hok
      go_enter Try.func13, Try.ntmps13
      go_wp2_with (go_at_call 31; ((with_reducible refine (tvalid_any _ _).mono ?_); rintro e w' ⟨rfl, rfl⟩))
      go_ret2
      exact ⟨_, by rw [hO.out]; rfl, by rw [hN.out]; exact Own.congr (f := fun _ => 0) hlit (fun i hi => by omega), Ext.refl w⟩
    · have ha' : inR 0 23 a = false := by simpa using ha
      clear hok ha
      go_enter Try.func13, Try.ntmps13
      go_wp2_with (go_at_call 31; ((with_reducible refine (tvalid_any _ _).mono ?_); rintro e w' ⟨rfl, rfl⟩))
      go_ret2
      exact ⟨_, by rw [hO.out]; rfl, by rw [hN.out]; exact Own.congr (f := fun _ => 0) hlit (fun i hi => by omega), Ext.refl w⟩

set_option maxHeartbeats 1000000 in
theorem lTurnGroup (a b : Int) (w : World) (_ : (Lit.int .i64 a).wf = true) (_ : (Lit.int .i64 b).wf = true) :
    Calls Try.prog 4 #[.int .i64 a, .int .i64 b] w fun e w' => e = .returned (.bool true) ∧ Ext w w' := by
  have hn := groupN_le a b
  go_enter Try.func4, Try.ntmps4
  go_wp2_with fail
  refine (sTurnGroup_any _ _ _).mono ?_
  rintro e w1 ⟨v1, rfl, o1, x1⟩
  go_wp2_with fail
  refine (iTurnGroup_any _ _ _).mono ?_
  rintro e w2 ⟨v2, rfl, o2, x2⟩
  have o1' := o1.keep x2
  go_wp2_with fail
  refine (eqIntS_any _ _ _ _ _ _ _ o2 o1').mono ?_
  rintro e w3 ⟨rfl, x3⟩
  go_wp2_with fail
  refine (markIntS_any _ _ _ _ _ 1 (by omega) (by omega) (o2.keep x3)).mono ?_
  rintro e w4 ⟨rfl, o4, x4⟩
  have o1s := (o1'.keep x3).apart (o1.mono (Nat.le_refl _)) (o2.keep x3) x4
  have xs := ((x1.trans x2).trans x3).marked (o2.keep x3) x1.size x4
  go_wp2_with fail
  refine (heldIntS_any _ _ _ _ 1 (by omega) (by omega) o4).mono ?_
  rintro e w5 ⟨rfl, rfl⟩
  go_wp2_with fail
  refine (iTurnGroup_any _ _ _).mono ?_
  rintro e w6 ⟨v3, rfl, o6, x6⟩
  go_wp2_with fail
  refine (eqIntS_any _ _ _ _ _ _ _ o6 (o1s.keep x6)).mono ?_
  rintro e w7 ⟨rfl, x7⟩
  go_wp2_with fail
  refine (heldIntS_any _ _ _ _ 1 (by omega) (by omega) ((o4.keep x6).keep x7)).mono ?_
  rintro e w8 ⟨rfl, rfl⟩
  go_wp2_with fail
  go_ret; exact ⟨rfl, (xs.trans x6).trans x7⟩

end Go.Proofs.Ytbbaadnadpmfeaa
