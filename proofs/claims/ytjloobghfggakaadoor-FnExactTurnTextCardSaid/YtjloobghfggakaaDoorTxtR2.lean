/- Texts of turns: TurnRead of every text, both sides; what is drawn; the laws. -/
import Derived.Test.YtjloobghfggakaaDoorTxtR
import Derived.Test.YtjloobghfggakaaDoorDraw2
namespace Go.Proofs.YtjloobghfggakaaDoor
open Go.ChangeShapes Go.WideShapes Go.ChangeAt Go.RowKit
set_option linter.unusedVariables false

/-- what a text reads as: the first turn with this text -/
def Reads (s : ByteArray) (z : Int) (ok : Bool) : Prop :=
  (ok = true ∧ ∃ j : Nat, j < 24 ∧ z = j ∧ (txt j).toList = s.toList ∧ ∀ i, i < j → (txt i).toList ≠ s.toList) ∨ (ok = false ∧ z = 0 ∧ ∀ j, j < 24 → (txt j).toList ≠ s.toList)
theorem Reads.one {s : ByteArray} {z y : Int} {a b : Bool} (h : Reads s z a) (k : Reads s y b) : z = y ∧ a = b := by
  rcases h with ⟨rfl, j, j1, rfl, j2, j3⟩ | ⟨rfl, rfl, j3⟩ <;> rcases k with ⟨rfl, i, i1, rfl, i2, i3⟩ | ⟨rfl, rfl, i3⟩
  · refine ⟨?_, rfl⟩
    have h1 : ¬ i < j := fun h => j3 i h i2
    have h2 : ¬ j < i := fun h => i3 j h j2
    omega
  · exact absurd j2 (i3 j j1)
  · exact absurd i2 (j3 i i1)
  · exact ⟨rfl, rfl⟩

theorem iTurnRead_any (s : ByteArray) (w : World) : Calls Tryd.prog 10 #[.string s] w fun e w' => ∃ z ok, Reads s z ok ∧ e = .returned (.tuple #[.int .i64 z, .bool ok]) ∧ Ext w w' := by
  go_enter Tryd.func10, Tryd.ntmps10
  go_wp2_with fail
  refine (names_any _).mono ?_
  rintro e w1 ⟨rfl, x1⟩
  have hc : ∀ j, j < 24 → (nmL 24).toArray[j]? = some (.string (txt j)) := fun j hj => by
    rw [List.getElem?_toArray, nmL_get 24 j hj]; unfold nms; rw [if_pos hj]
  have hsz : (nmL 24).toArray.size = 24 := rfl
  have hone : (nmL 24).toArray.all (·.oneCell') = true := by simp [Value.oneCell']
  have hi : (Tryd.prog.info? 34).map (·.size) = some (nmL 24).toArray.size := by rw [hsz, infoNames]
  generalize (nmL 24).toArray = A at *
  have k1 := Blk.new w1 (nmL 0) 34
  have hA : (nmL 0).toArray = #[Value.string ⟨#[]⟩, Value.string ⟨#[]⟩, Value.string ⟨#[]⟩, Value.string ⟨#[]⟩, Value.string ⟨#[]⟩, Value.string ⟨#[]⟩, Value.string ⟨#[]⟩, Value.string ⟨#[]⟩, Value.string ⟨#[]⟩, Value.string ⟨#[]⟩, Value.string ⟨#[]⟩, Value.string ⟨#[]⟩, Value.string ⟨#[]⟩, Value.string ⟨#[]⟩, Value.string ⟨#[]⟩, Value.string ⟨#[]⟩, Value.string ⟨#[]⟩, Value.string ⟨#[]⟩, Value.string ⟨#[]⟩, Value.string ⟨#[]⟩, Value.string ⟨#[]⟩, Value.string ⟨#[]⟩, Value.string ⟨#[]⟩, Value.string ⟨#[]⟩] := by rw [nmL_zero]
  have hz0 : (nmL 0).length = 24 := nmL_len 0
  have x2 := x1.alloc (.cells (nmL 0).toArray 34)
  rw [hA] at k1 x2
  obtain ⟨T1, h1⟩ := k1
  generalize nmL 0 = L0 at *
  go_wp2_with (refine wpList_store_row rfl 34 (.tmp 4) (.tmp 6) rfl w1.heap.size A rfl rfl T1 L0.toArray h1 hi (by rw [List.size_toArray, hz0, hsz]) hone ?_)
  have h2 := setRow_heap _ w1.heap.size L0.toArray A T1 (0, 0) h1
  have x3 := ((show ExtB w1.heap.size (w1.alloc (.cells #[Value.string ⟨#[]⟩, Value.string ⟨#[]⟩, Value.string ⟨#[]⟩, Value.string ⟨#[]⟩, Value.string ⟨#[]⟩, Value.string ⟨#[]⟩, Value.string ⟨#[]⟩, Value.string ⟨#[]⟩, Value.string ⟨#[]⟩, Value.string ⟨#[]⟩, Value.string ⟨#[]⟩, Value.string ⟨#[]⟩, Value.string ⟨#[]⟩, Value.string ⟨#[]⟩, Value.string ⟨#[]⟩, Value.string ⟨#[]⟩, Value.string ⟨#[]⟩, Value.string ⟨#[]⟩, Value.string ⟨#[]⟩, Value.string ⟨#[]⟩, Value.string ⟨#[]⟩, Value.string ⟨#[]⟩, Value.string ⟨#[]⟩, Value.string ⟨#[]⟩] 34)) ((w1.alloc (.cells #[Value.string ⟨#[]⟩, Value.string ⟨#[]⟩, Value.string ⟨#[]⟩, Value.string ⟨#[]⟩, Value.string ⟨#[]⟩, Value.string ⟨#[]⟩, Value.string ⟨#[]⟩, Value.string ⟨#[]⟩, Value.string ⟨#[]⟩, Value.string ⟨#[]⟩, Value.string ⟨#[]⟩, Value.string ⟨#[]⟩, Value.string ⟨#[]⟩, Value.string ⟨#[]⟩, Value.string ⟨#[]⟩, Value.string ⟨#[]⟩, Value.string ⟨#[]⟩, Value.string ⟨#[]⟩, Value.string ⟨#[]⟩, Value.string ⟨#[]⟩, Value.string ⟨#[]⟩, Value.string ⟨#[]⟩, Value.string ⟨#[]⟩, Value.string ⟨#[]⟩] 34)).setRow w1.heap.size A) from ⟨rfl, rfl, rfl, by simp, fun k hk hne => setRow_other _ w1.heap.size k _ hne⟩)).ext x2 (Ext.size x1)
  generalize World.setRow _ _ _ = w2 at *
  clear h1 x2 hA hz0 hi hone hsz
  have hc2 : ∀ j, j < 24 → w2.cell? ⟨w1.heap.size, j, none⟩ = some (.string (txt j)) := fun j hj => by
    rw [cell_of_row w2 _ j A T1 (0, 0) h2, hc j hj]
  clear h2 hc
  refine (index_any txt w1.heap.size s w2 hc2).mono ?_
  rintro e w3 ⟨z, hz, rfl, rfl⟩
  clear hc2
  rcases hz with ⟨j, j1, rfl, j2, j3⟩ | ⟨rfl, j3⟩
  · have J2 := Lib.hid j2
    have J3 := Lib.hid j3
    clear j2 j3
    go_wp2
    go_ret2
    exact ⟨_, _, .inl ⟨rfl, j, j1, rfl, J2.out, J3.out⟩, rfl, x3⟩
  · have J3 := Lib.hid j3
    clear j3
    go_wp2
    go_ret2
    exact ⟨_, _, .inr ⟨rfl, rfl, J3.out⟩, rfl, x3⟩

set_option maxHeartbeats 1000000 in
theorem sTurnRead_any (s : ByteArray) (w : World) : Calls Tryd.prog 9 #[.string s] w fun e w' => ∃ z ok, Reads s z ok ∧ e = .returned (.tuple #[.int .i64 z, .bool ok]) ∧ Ext w w' := by
  go_enter Tryd.func9, Tryd.ntmps9
  go_wp2
  go_loopw [4] (fun i wr => ∃ k : Nat, k ≤ 24 ∧ i = .int .i64 k ∧ (∀ i, i < k → (txt i).toList ≠ s.toList) ∧ Ext w wr) (fun i _ => 24 - (intOf i).toNat)
  case atStart => exact ⟨0, by omega, rfl, by omega, Ext.refl _⟩
  case round =>
    obtain ⟨k, hk, rfl, hp, x1⟩ := hrel
    have P := Lib.hid hp
    clear hp
    by_cases hlt : k < 24
    · go_wp2_with fail
      refine (sTurnText_any _ _).mono ?_
      rw [textM_in hlt]
      rintro e w2 ⟨rfl, x2⟩
      have y2 := x1.trans x2
      clear x1 x2
      by_cases hs : (txt k).toList = s.toList
      · have hb : ((txt k).toList == s.toList) = true := by simp [hs]
        have J2 := Lib.hid hs
        clear hs
        go_wp2
        go_ret2
        exact ⟨_, _, .inl ⟨rfl, k, hlt, rfl, J2.out, P.out⟩, rfl, y2⟩
      · have hb : ((txt k).toList == s.toList) = false := by simp [hs]
        have J2 := Lib.hid hs
        clear hs
        go_wp2
        go_roundw
        case rel => exact ⟨k + 1, by omega, by go_num, fun i hi => by
          by_cases h2 : i = k
          · subst h2; exact J2.out
          · exact P.out i (by omega), y2⟩
        case measure => simp [intOf]; omega
    · have hk8 : k = 24 := by omega
      subst hk8
      go_wp2
      go_ret2
      exact ⟨_, _, .inr ⟨rfl, rfl, P.out⟩, rfl, x1⟩

end Go.Proofs.YtjloobghfggakaaDoor
