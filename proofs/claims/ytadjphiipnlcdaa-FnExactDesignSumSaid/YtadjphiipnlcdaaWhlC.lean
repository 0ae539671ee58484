/- Wheels: slices.IndexFunc, slices.ContainsFunc at DesignValid's function; impl.DesignValid. -/
import Derived.Test.YtadjphiipnlcdaaWhlB
namespace Go.Proofs.Ytadjphiipnlcdaa
open Go.ChangeShapes Go.WideShapes Go.ChangeAt Go.RowKit
set_option linter.unusedVariables false
set_option maxRecDepth 100000


/-- the first wheel that a test holds of, or -1 -/
def IdxW (T : (Nat → Int) → Bool) (n : Nat) (G : Nat → Nat → Int) (z : Int) : Prop :=
  (∃ j : Nat, j < n ∧ z = j ∧ T (G j) = true ∧ ∀ i, i < j → T (G i) = false) ∨ (z = -1 ∧ ∀ j, j < n → T (G j) = false)
set_option maxHeartbeats 1000000 in
theorem idxV_any (a : Option Addr) (n cap : Nat) (G : Nat → Nat → Int) (w : World) (hc : n ≤ cap) (hm : n ≤ 1048576) (h : Whs w a n G) :
    Calls Try.prog 48 #[.slice a n cap, .func (.func 38) #[] #[]] w fun e w' => ∃ z, IdxW (fun F => !whOk F) n G z ∧ e = .returned (.int .i64 z) ∧ Ext w w' := by
  go_enter Try.func48, Try.ntmps48
  go_wp2
  go_loopw [8] (fun i wr => ∃ k : Nat, k ≤ n ∧ i = .int .i64 k ∧ (∀ i, i < k → (!whOk (G i)) = false) ∧ Ext w wr) (fun i _ => n - (intOf i).toNat)
  case atStart => exact ⟨0, by omega, rfl, by omega, Ext.refl _⟩
  case round =>
    obtain ⟨k, hk, rfl, hp, x1⟩ := hrel
    have hw := h.keep x1
    have P := Lib.hid hp
    clear hp
    by_cases hlt : k < n
    · rcases hw with hw | ⟨b, off, rfl, hb, hcell⟩
      · omega
      · have hr := row9 (hcell k hlt)
        clear hcell h
        go_wp2_with (refine wpList_load_at rfl 41 (.tmp 14) rfl b (off + k * 9) rfl (wh9 (G k)).toArray _ hr Try.underlying41 rfl infoWh ?_)
        refine (dv1_any (G k) _).mono ?_
        rintro e w2 ⟨rfl, x2⟩
        have y2 := x1.trans x2
        clear x1 x2 hr
        by_cases hv : (!whOk (G k)) = true
        · have e1 := Lib.hid hv
          go_wp2_with fail
          go_ret
          exact ⟨_, .inl ⟨k, hlt, rfl, e1.out, P.out⟩, rfl, y2⟩
        · have hv' : (!whOk (G k)) = false := by simpa using hv
          have e1 := Lib.hid hv'
          clear hv
          go_wp2_with fail
          go_roundw
          case rel => exact ⟨k + 1, by omega, by go_num, fun i hi => by
            by_cases h2 : i = k
            · subst h2; exact e1.out
            · exact P.out i (by omega), y2⟩
          case measure => simp [intOf]; omega
    · have hk8 : k = n := by omega
      subst hk8
      clear h hw
      go_wp2
      go_ret
      exact ⟨_, .inr ⟨rfl, P.out⟩, rfl, x1⟩

set_option maxHeartbeats 1000000 in
theorem hasV_any (a : Option Addr) (n cap : Nat) (G : Nat → Nat → Int) (w : World) (hc : n ≤ cap) (hm : n ≤ 12) (h : Whs w a n G) :
    Calls Try.prog 37 #[.slice a n cap, .func (.func 38) #[] #[]] w fun e w' => e = .returned (.bool (!validM n G)) ∧ Ext w w' := by
  go_enter Try.func37, Try.ntmps37
  go_wp2_with fail
  refine (idxV_any a n cap G _ hc (by omega) h).mono ?_
  rintro e w2 ⟨z, hz, rfl, x2⟩
  rcases hz with ⟨j, hj, rfl, h1, h2⟩ | ⟨rfl, h2⟩
  · have e1 := Lib.hid (validM_bad (G := G) hj (by simpa using h1))
    clear h1 h2 h
    go_wp2_with fail
    go_ret
    exact ⟨by rw [e1.out]; rfl, x2⟩
  · have e1 := Lib.hid (validM_true (G := G) hm fun i hi => by simpa using h2 i hi)
    clear h2 h
    go_wp2_with fail
    go_ret
    exact ⟨by rw [e1.out]; rfl, x2⟩

set_option maxHeartbeats 1000000 in
theorem iDesignValid_any (a : Option Addr) (n cap : Nat) (G : Nat → Nat → Int) (w : World) (hc : n ≤ cap) (hm : n ≤ 1048576) (h : Whs w a n G) :
    Calls Try.prog 21 #[.slice a n cap] w fun e w' => e = .returned (.bool (validM n G)) ∧ Ext w w' := by
  by_cases h12 : 12 < n
  · rw [validM_big h12]
    go_enter Try.func21, Try.ntmps21
    go_wp2
    go_ret
    exact ⟨rfl, Ext.refl _⟩
  · have hle : n ≤ 12 := by omega
    clear h12
    go_enter Try.func21, Try.ntmps21
    go_wp2_with fail
    refine (hasV_any a n cap G _ hc hle h).mono ?_
    rintro e w2 ⟨rfl, x2⟩
    go_wp2_with fail
    go_ret
    exact ⟨by first | rfl | (cases validM n G <;> rfl) | simp, x2⟩

end Go.Proofs.Ytadjphiipnlcdaa
