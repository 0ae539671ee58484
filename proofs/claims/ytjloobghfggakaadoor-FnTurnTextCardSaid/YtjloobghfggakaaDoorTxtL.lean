/- Texts of turns: what is drawn; the laws. -/
import Derived.Test.YtjloobghfggakaaDoorTxtR2
import Derived.Lib.Strings
namespace Go.Proofs.YtjloobghfggakaaDoor
open Go.ChangeShapes Go.WideShapes Go.ChangeAt Go.RowKit
set_option linter.unusedVariables false

theorem dTurnText_any (a : Option Addr) (len cap : Nat) (w : World) (h : CodeOk w a len cap) :
    Calls Tryd.prog 11 #[.slice a len cap] w (DrawnOne (-1) 100 w) := by
  go_enter Tryd.func11, Tryd.ntmps11
  go_wp2_with fail
  refine (l6Open_any _ _ _ _ h).mono ?_
  rintro e w1 ⟨R, rfl, hR, k1, x1⟩
  go_wp2_with fail
  refine (l91Turn_any 0 R _ (by omega) k1).mono ?_
  rintro e w2 ⟨v, v1, v2, rfl, _, x2⟩
  go_wp2_with fail
  go_ret
  exact ⟨v, rfl, v1, v2, x2.ext x1 hR⟩

theorem of6_any (p R B : Nat) (t0 t1 t2 t3 t4 t5 : ByteArray) (w : World) (hp : p ≤ 900000) (h : RdOk w R p) (hB : Blk w B [.string t0, .string t1, .string t2, .string t3, .string t4, .string t5]) (hne : B ≠ R) :
    Calls Tryd.prog 22 #[.pointer (some ⟨R, 0, none⟩), .slice (some ⟨B, 0, none⟩) 6 6] w fun e w' => ∃ s, e = .returned (.string s) ∧ ExtB R w w' := by
  go_enter Tryd.func22, Tryd.ntmps22
  go_wp2_with fail
  refine (pick_any 6 p R _ (by omega) (by omega) (by omega) h).mono ?_
  rintro e w1 ⟨v, v1, v2, rfl, k1, x1⟩
  have c := (hB.keepB x1 hne).cell
  clear hB h k1
  obtain rfl | rfl | rfl | rfl | rfl | rfl : v = 0 ∨ v = 1 ∨ v = 2 ∨ v = 3 ∨ v = 4 ∨ v = 5 := by omega
  all_goals
    go_wp2
    go_ret
    exact ⟨_, rfl, x1⟩

theorem dTurnRead_any (a : Option Addr) (len cap : Nat) (w : World) (h : CodeOk w a len cap) :
    Calls Tryd.prog 12 #[.slice a len cap] w fun e w' => ∃ s, e = .returned (.string s) ∧ Ext w w' := by
  go_enter Tryd.func12, Tryd.ntmps12
  go_wp2_with fail
  refine (l6Open_any _ _ _ _ h).mono ?_
  rintro e w1 ⟨R, rfl, hR, k1, x1⟩
  go_wp2_with fail
  refine (pick_any 5 0 R _ (by omega) (by omega) (by omega) k1).mono ?_
  rintro e w2 ⟨v, v1, v2, rfl, k2, x2⟩
  by_cases h0 : v = 0
  · subst h0
    go_wp2_with fail
    have b1 := Blk.new w2 [.string ⟨#[]⟩, .string ⟨#[49, 47, 53]⟩, .string ⟨#[50, 47, 52]⟩, .string ⟨#[50, 52, 47, 50, 52]⟩, .string ⟨#[48, 47, 49]⟩, .string ⟨#[49, 47, 50, 52, 32]⟩] 9
    have hlt := k2.lt
    refine (of6_any 1 R w2.heap.size _ _ _ _ _ _ _ (by omega) (k2.keep ((Ext.refl w2).alloc _)) b1 (by omega)).mono ?_
    rintro e w3 ⟨s, rfl, x3⟩
    have x4 : ExtB R w1 w3 := x2.trans ((((Ext.refl w2).alloc _).toB R).trans x3)
    clear b1 k1 k2 x2 x3 h
    go_wp2_with fail
    go_ret
    exact ⟨_, rfl, x4.ext x1 hR⟩
  · have hz : (v == 0) = false := by simp [h0]
    go_wp2_with fail
    refine (l91Turn_any 1 R _ (by omega) k2).mono ?_
    rintro e w3 ⟨u, u1, u2, rfl, _, x3⟩
    have x4 := (x2.trans x3).ext x1 hR
    clear x1 x2 x3 h
    go_wp2_with fail
    refine (sTurnText_any _ _).mono ?_
    rintro e w4 ⟨rfl, x5⟩
    go_wp2_with fail
    go_ret
    exact ⟨_, rfl, x4.trans x5⟩

theorem txt_ne : ∀ j : Fin 24, ∀ i : Fin 24, i.val < j.val → (txt i.val).data.toList ≠ (txt j.val).data.toList := by decide +kernel
theorem txt_full : ∀ j : Fin 24, (txt j.val).data.toList ≠ [] := by decide +kernel
theorem txt_reads (k : Nat) (h : k < 24) {z : Int} {ok : Bool} (hr : Reads (txt k) z ok) : z = k ∧ ok = true := by
  have : Reads (txt k) (k : Int) true := .inl ⟨rfl, k, h, rfl, rfl, fun i hi he => by
    rw [ByteArray.toList_eq, ByteArray.toList_eq] at he
    exact txt_ne ⟨k, h⟩ ⟨i, by omega⟩ hi he⟩
  exact hr.one this
theorem txt_nonempty (k : Nat) (h : k < 24) : ((txt k).toList == (⟨#[]⟩ : ByteArray).toList) = false := by
  rw [ByteArray.toList_eq, ByteArray.toList_eq]
  simpa using txt_full ⟨k, h⟩

theorem lTurnText (t : Int) (w : World) (_ : (Lit.int .i64 t).wf = true) : Calls Tryd.prog 3 #[.int .i64 t] w fun e w' => e = .returned (.bool true) ∧ Ext w w' := by
  go_enter Tryd.func3, Tryd.ntmps3
  go_wp2_with fail
  refine (sTurnText_any _ _).mono ?_
  rintro e w1 ⟨rfl, x1⟩
  go_wp2_with fail
  refine (iTurnText_any _ _).mono ?_
  rintro e w2 ⟨rfl, x2⟩
  go_wp2
  go_ret
  exact ⟨rfl, x1.trans x2⟩

theorem lTurnRead (s : ByteArray) (hs : s.size ≤ maxLen) (w : World) : Calls Tryd.prog 4 #[.string s] w fun e w' => e = .returned (.bool true) ∧ Ext w w' := by
  unfold maxLen at hs
  by_cases hbig : 1048576 < s.size
  · go_enter Tryd.func4, Tryd.ntmps4
    go_wp2_with fail
    go_ret; exact ⟨rfl, Ext.refl _⟩
  · go_enter Tryd.func4, Tryd.ntmps4
    go_wp2_with fail
    refine (sTurnRead_any _ _).mono ?_
    rintro e w1 ⟨z, ok, h1, rfl, x1⟩
    go_wp2_with fail
    refine (iTurnRead_any _ _).mono ?_
    rintro e w2 ⟨y, ok2, h2, rfl, x2⟩
    obtain ⟨rfl, rfl⟩ := h1.one h2
    clear h1 h2
    go_wp2
    go_ret
    exact ⟨rfl, x1.trans x2⟩

theorem lawTurnText (a : Option Addr) (len cap : Nat) (w : World) (h : CodeOk w a len cap) :
    Calls Tryd.prog 5 #[.slice a len cap] w fun e w' => e = .returned (.bool true) ∧ Ext w w' := by
  have hl := h.1
  have hm := h.2.1
  unfold maxLen at hm
  by_cases hbig : 1048576 < len
  · go_enter Tryd.func5, Tryd.ntmps5
    go_wp2_with fail
    go_ret; exact ⟨rfl, Ext.refl _⟩
  · go_enter Tryd.func5, Tryd.ntmps5
    go_wp2_with fail
    refine (dTurnText_any _ _ _ _ h).mono ?_
    rintro e w1 ⟨t, rfl, n1, n2, x1⟩
    go_wp2_with fail
    refine (iTurnText_any _ _).mono ?_
    rintro e w2 ⟨rfl, x2⟩
    go_wp2_with fail
    refine (sTurnText_any _ _).mono ?_
    rintro e w3 ⟨rfl, x3⟩
    have x4 := (x1.trans x2).trans x3
    clear x1 x2 x3 h
    by_cases ht : inR 0 23 t = true
    · obtain ⟨t1, t2⟩ := inR_of ht
      obtain ⟨k, rfl⟩ := Int.eq_ofNat_of_zero_le t1
      have hk : k < 24 := by omega
      have hne := txt_nonempty k hk
      have hne1 : ((txt k).toList == []) = false := by rw [ByteArray.toList_eq]; simpa using txt_full ⟨k, hk⟩
      have hne2 : (txt k).toList ≠ [] := by simpa using hne1
      have hrd := Lib.hid (fun z ok h => @txt_reads k hk z ok h)
      clear ht
      rw [textM_in hk]
      go_wp2_with fail
      refine (iTurnRead_any _ _).mono ?_
      rintro e w4 ⟨z, ok, hr, rfl, x5⟩
      obtain ⟨rfl, rfl⟩ := hrd.out _ _ hr
      clear hr
      go_wp2
      go_ret
      exact ⟨rfl, x4.trans x5⟩
    · have ht' : inR 0 23 t = false := by simpa using ht
      clear ht
      rw [textM_out ht']
      go_wp2
      go_ret
      exact ⟨rfl, x4⟩

theorem lawTurnRead (a : Option Addr) (len cap : Nat) (w : World) (h : CodeOk w a len cap) :
    Calls Tryd.prog 6 #[.slice a len cap] w fun e w' => e = .returned (.bool true) ∧ Ext w w' := by
  have hl := h.1
  have hm := h.2.1
  unfold maxLen at hm
  by_cases hbig : 1048576 < len
  · go_enter Tryd.func6, Tryd.ntmps6
    go_wp2_with fail
    go_ret; exact ⟨rfl, Ext.refl _⟩
  · go_enter Tryd.func6, Tryd.ntmps6
    go_wp2_with fail
    refine (dTurnRead_any _ _ _ _ h).mono ?_
    rintro e w1 ⟨s, rfl, x1⟩
    go_wp2_with fail
    refine (iTurnRead_any _ _).mono ?_
    rintro e w2 ⟨z, ok, h1, rfl, x2⟩
    go_wp2_with fail
    refine (sTurnRead_any _ _).mono ?_
    rintro e w3 ⟨y, ok2, h2, rfl, x3⟩
    obtain ⟨rfl, rfl⟩ := h1.one h2
    clear h2 h
    have x4 := (x1.trans x2).trans x3
    clear x1 x2 x3
    rcases h1 with ⟨rfl, j, j1, rfl, j2, j3⟩ | ⟨rfl, rfl, j3⟩
    · have J2 := Lib.hid j2
      clear j2 j3
      go_wp2_with fail
      refine (iTurnText_any _ _).mono ?_
      rw [textM_in j1]
      rintro e w4 ⟨rfl, x5⟩
      have hb : ((txt j).toList == s.toList) = true := by simp [J2.out]
      go_wp2
      go_ret
      exact ⟨rfl, x4.trans x5⟩
    · clear j3
      go_wp2
      go_ret
      exact ⟨rfl, x4⟩

end Go.Proofs.YtjloobghfggakaaDoor
