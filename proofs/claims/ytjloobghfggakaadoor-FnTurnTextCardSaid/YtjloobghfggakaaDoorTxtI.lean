/- Texts of turns: impl.TurnText of every number, and slices.Index over the 24 texts. -/
import Derived.Test.YtjloobghfggakaaDoorTxtN
import Derived.LoopTactic
import Derived.IntWalk
namespace Go.Proofs.YtjloobghfggakaaDoor
open Go.ChangeShapes Go.WideShapes Go.ChangeAt Go.RowKit
set_option linter.unusedVariables false

/-- the text of a number -/
def textM (t : Int) : ByteArray := if inR 0 23 t then txt t.toNat else ⟨#[]⟩
theorem textM_in {k : Nat} (h : k < 24) : textM (k : Int) = txt k := by
  unfold textM; rw [if_pos (inR_true (by omega) (by omega))]; rfl
theorem textM_out {t : Int} (h : inR 0 23 t = false) : textM t = ⟨#[]⟩ := by unfold textM; rw [h]; rfl
theorem run_index24 (A : Array Value) (k : Nat) (v : Value) (hk : k < 24) (hg : A[k]? = some v) (w : World) :
    (Instr.index 34 (.agg A) (.int .i64 k)).run Tryd.prog w = .ok v w := by
  have hz : (sizeOf 9).run Tryd.prog w = .ok 1 w := by kernel_rfl
  simp [Instr.index, run_underlying Tryd.underlying34, asIntOf, hk, go_sem, hz, hg]
theorem iTurnText_any (t : Int) (w : World) : Calls Tryd.prog 8 #[.int .i64 t] w fun e w' => e = .returned (.string (textM t)) ∧ Ext w w' := by
  by_cases ht : inR 0 23 t = true
  · obtain ⟨t1, t2⟩ := inR_of ht
    obtain ⟨k, rfl⟩ := Int.eq_ofNat_of_zero_le t1
    have hk : k < 24 := by omega
    rw [textM_in hk]
    go_enter Tryd.func8, Tryd.ntmps8
    go_wp2_with (first | (go_at_call 16; ((with_reducible refine (tvalid_any _ _).mono ?_); rintro e w' ⟨rfl, rfl⟩)) | fail)
    refine (names_any _).mono ?_
    rintro e w1 ⟨rfl, x1⟩
    have hg : (nmL 24).toArray[k]? = some (.string (txt k)) := by
      rw [List.getElem?_toArray, nmL_get 24 k hk]; unfold nms; rw [if_pos hk]
    have hsz : (nmL 24).toArray.size = 24 := rfl
    generalize (nmL 24).toArray = A at *
    have hI := run_index24 A k _ hk hg w1
    go_wp2
    go_ret
    exact ⟨rfl, x1⟩
  · have ht' : inR 0 23 t = false := by simpa using ht
    rw [textM_out ht']
    go_enter Tryd.func8, Tryd.ntmps8
    go_wp2_with (first | (go_at_call 16; ((with_reducible refine (tvalid_any _ _).mono ?_); rintro e w' ⟨rfl, rfl⟩)) | fail)
    go_ret
    exact ⟨rfl, Ext.refl _⟩

/-- the first place at which a text lies, or -1 -/
def Idx (tx : Nat → ByteArray) (n : Nat) (s : ByteArray) (z : Int) : Prop :=
  (∃ j : Nat, j < n ∧ z = j ∧ (tx j).toList = s.toList ∧ ∀ i, i < j → (tx i).toList ≠ s.toList) ∨ (z = -1 ∧ ∀ j, j < n → (tx j).toList ≠ s.toList)
set_option maxHeartbeats 1000000 in
theorem index_any (tx : Nat → ByteArray) (B : Nat) (s : ByteArray) (w : World) (hc : ∀ j, j < 24 → w.cell? ⟨B, j, none⟩ = some (.string (tx j))) :
    Calls Tryd.prog 18 #[.slice (some ⟨B, 0, none⟩) 24 24, .string s] w fun e w' => ∃ z, Idx tx 24 s z ∧ e = .returned (.int .i64 z) ∧ w = w' := by
  go_enter Tryd.func18, Tryd.ntmps18
  go_wp2
  go_loop [8] (fun i => ∃ k : Nat, k ≤ 24 ∧ i = .int .i64 k ∧ ∀ i, i < k → (tx i).toList ≠ s.toList) (fun i => 24 - (intOf i).toNat)
  case atStart => exact ⟨0, by omega, rfl, by omega⟩
  case round =>
    obtain ⟨k, hk, rfl, hp⟩ := hrel
    by_cases hlt : k < 24
    · have c1 := hc k hlt
      have hc' := Lib.hid hc
      have hp' := Lib.hid hp
      clear hc hp
      by_cases hs : s.toList = (tx k).toList
      · have hb : (s.toList == (tx k).toList) = true := by simp [hs]
        go_wp2
        go_ret
        exact ⟨_, .inl ⟨k, hlt, rfl, hs.symm, hp'.out⟩, rfl, rfl⟩
      · have hb : (s.toList == (tx k).toList) = false := by simp [hs]
        go_wp2
        go_round
        case rel => exact ⟨k + 1, by omega, by go_num, fun i hi => by
          by_cases h2 : i = k
          · subst h2; exact fun h => hs h.symm
          · exact hp'.out i (by omega)⟩
        case measure => simp [intOf]; omega
    · have hk8 : k = 24 := by omega
      subst hk8
      have hc' := Lib.hid hc
      have hp' := Lib.hid hp
      clear hc hp
      go_wp2
      go_ret
      exact ⟨_, .inr ⟨rfl, hp'.out⟩, rfl, rfl⟩

end Go.Proofs.YtjloobghfggakaaDoor
