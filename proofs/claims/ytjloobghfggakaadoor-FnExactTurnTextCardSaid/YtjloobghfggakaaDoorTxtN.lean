/- The texts of all turns, impl.names. Written by mk_txtn.py. -/
import Derived.Test.YtjloobghfggakaaDoorTxtT
import Derived.LoopTactic
import Derived.IntWalk
namespace Go.Proofs.YtjloobghfggakaaDoor
open Go.ChangeShapes Go.WideShapes Go.ChangeAt Go.RowKit
set_option linter.unusedVariables false

/-- the j-th text, when i are laid -/
def nms (i j : Nat) : ByteArray := if j < i then txt j else ⟨#[]⟩
abbrev nmL (i : Nat) : List Value := [.string (nms i 0), .string (nms i 1), .string (nms i 2), .string (nms i 3), .string (nms i 4), .string (nms i 5), .string (nms i 6), .string (nms i 7), .string (nms i 8), .string (nms i 9), .string (nms i 10), .string (nms i 11), .string (nms i 12), .string (nms i 13), .string (nms i 14), .string (nms i 15), .string (nms i 16), .string (nms i 17), .string (nms i 18), .string (nms i 19), .string (nms i 20), .string (nms i 21), .string (nms i 22), .string (nms i 23)]
theorem nmL_len (i : Nat) : (nmL i).length = 24 := rfl
theorem nmL_get (i j : Nat) (h : j < 24) : (nmL i)[j]? = some (.string (nms i j)) := by
  obtain rfl | rfl | rfl | rfl | rfl | rfl | rfl | rfl | rfl | rfl | rfl | rfl | rfl | rfl | rfl | rfl | rfl | rfl | rfl | rfl | rfl | rfl | rfl | rfl : j = 0 ∨ j = 1 ∨ j = 2 ∨ j = 3 ∨ j = 4 ∨ j = 5 ∨ j = 6 ∨ j = 7 ∨ j = 8 ∨ j = 9 ∨ j = 10 ∨ j = 11 ∨ j = 12 ∨ j = 13 ∨ j = 14 ∨ j = 15 ∨ j = 16 ∨ j = 17 ∨ j = 18 ∨ j = 19 ∨ j = 20 ∨ j = 21 ∨ j = 22 ∨ j = 23 := by omega
  all_goals rfl
theorem nmL_set (i : Nat) (h : i < 24) : (nmL i).set i (.string (txt i)) = nmL (i + 1) := by
  apply List.ext_getElem?
  intro j
  by_cases hj : j < 24
  · rw [List.getElem?_set, nmL_get _ _ hj, nmL_get _ _ hj]
    by_cases hij : i = j
    · subst hij; rw [if_pos rfl, if_pos (by rw [nmL_len]; exact h)]; unfold nms; rw [if_pos (by omega)]
    · rw [if_neg hij]
      unfold nms
      by_cases h2 : j < i
      · rw [if_pos h2, if_pos (by omega)]
      · rw [if_neg h2, if_neg (by omega)]
  · rw [List.getElem?_eq_none (by simp; omega), List.getElem?_eq_none (by simp; omega)]
theorem Blk.new1t (w : World) (o : Obj) (xs : List Value) (T : TypeId) : Blk ((w.alloc o).alloc (.cells xs.toArray T)) (w.heap.size + 1) xs := by
  have := Blk.new (w.alloc o) xs T
  simpa using this
theorem infoNames : (Tryd.prog.info? 34).map (·.size) = some 24 := by kernel_rfl

theorem nmL_zero : nmL 0 = [Value.string ⟨#[]⟩, Value.string ⟨#[]⟩, Value.string ⟨#[]⟩, Value.string ⟨#[]⟩, Value.string ⟨#[]⟩, Value.string ⟨#[]⟩, Value.string ⟨#[]⟩, Value.string ⟨#[]⟩, Value.string ⟨#[]⟩, Value.string ⟨#[]⟩, Value.string ⟨#[]⟩, Value.string ⟨#[]⟩, Value.string ⟨#[]⟩, Value.string ⟨#[]⟩, Value.string ⟨#[]⟩, Value.string ⟨#[]⟩, Value.string ⟨#[]⟩, Value.string ⟨#[]⟩, Value.string ⟨#[]⟩, Value.string ⟨#[]⟩, Value.string ⟨#[]⟩, Value.string ⟨#[]⟩, Value.string ⟨#[]⟩, Value.string ⟨#[]⟩] := rfl
set_option maxRecDepth 100000 in
set_option maxHeartbeats 2000000 in
theorem names_gen (NM : Nat → List Value) (tx : Nat → ByteArray) (s0 : Nat → ByteArray) (hE : NM 0 = [Value.string ⟨#[]⟩, Value.string ⟨#[]⟩, Value.string ⟨#[]⟩, Value.string ⟨#[]⟩, Value.string ⟨#[]⟩, Value.string ⟨#[]⟩, Value.string ⟨#[]⟩, Value.string ⟨#[]⟩, Value.string ⟨#[]⟩, Value.string ⟨#[]⟩, Value.string ⟨#[]⟩, Value.string ⟨#[]⟩, Value.string ⟨#[]⟩, Value.string ⟨#[]⟩, Value.string ⟨#[]⟩, Value.string ⟨#[]⟩, Value.string ⟨#[]⟩, Value.string ⟨#[]⟩, Value.string ⟨#[]⟩, Value.string ⟨#[]⟩, Value.string ⟨#[]⟩, Value.string ⟨#[]⟩, Value.string ⟨#[]⟩, Value.string ⟨#[]⟩]) (hlen : ∀ i, (NM i).length = 24) (hone : (NM 24).toArray.all (·.oneCell') = true) (hset : ∀ i, i < 24 → (NM i).set i (.string (tx i)) = NM (i + 1))
    (hget : ∀ i, i < 24 → (NM i)[i]? = some (.string (s0 i)))
    (htx : ∀ k : Nat, k < 24 → ∀ w : World, Calls Tryd.prog 25 #[.int .i64 (k : Nat)] w fun e w' => e = .returned (.string (tx k)) ∧ Ext w w') (w : World) :
    Calls Tryd.prog 17 #[] w fun e w' => e = .returned (.agg (NM 24).toArray) ∧ Ext w w' := by
  go_enter Tryd.func17, Tryd.ntmps17
  have k1 := (Blk.new w (NM 0) 34).alloc (.cells (NM 0).toArray 34)
  have k2 := Blk.new1t w (.cells (NM 0).toArray 34) (NM 0) 34
  have x0 : Ext w ((w.alloc (.cells (NM 0).toArray 34)).alloc (.cells (NM 0).toArray 34)) := ((Ext.refl w).alloc _).alloc _
  have hA : (NM 0).toArray = #[Value.string ⟨#[]⟩, Value.string ⟨#[]⟩, Value.string ⟨#[]⟩, Value.string ⟨#[]⟩, Value.string ⟨#[]⟩, Value.string ⟨#[]⟩, Value.string ⟨#[]⟩, Value.string ⟨#[]⟩, Value.string ⟨#[]⟩, Value.string ⟨#[]⟩, Value.string ⟨#[]⟩, Value.string ⟨#[]⟩, Value.string ⟨#[]⟩, Value.string ⟨#[]⟩, Value.string ⟨#[]⟩, Value.string ⟨#[]⟩, Value.string ⟨#[]⟩, Value.string ⟨#[]⟩, Value.string ⟨#[]⟩, Value.string ⟨#[]⟩, Value.string ⟨#[]⟩, Value.string ⟨#[]⟩, Value.string ⟨#[]⟩, Value.string ⟨#[]⟩] := by rw [hE]
  rw [hA] at k1 k2 x0
  clear hE hA
  go_wp2
  generalize World.alloc (World.alloc _ _) _ = W at *
  go_loopw [3] (fun i wr => ∃ k : Nat, k ≤ 24 ∧ i = .int .i64 (k : Int) ∧ Blk wr w.heap.size (NM 0) ∧ Blk wr (w.heap.size + 1) (NM k) ∧ Ext w wr) (fun i _ => 24 - (intOf i).toNat)
  case atStart => exact ⟨0, by omega, by go_num, k1, k2, x0⟩
  case round =>
    obtain ⟨k, hk, rfl, r1, r2, x1⟩ := hrel
    clear k1 k2 x0
    by_cases hlt : k < 24
    · go_wp2_with fail
      refine (htx k hlt _).mono ?_
      rintro e w2 ⟨rfl, x2⟩
      have m1 := r1.keep x2
      have m2 := r2.keep x2
      have y2 := x1.trans x2
      have n2 := m2.set k (.string (tx k))
      rw [hset k hlt] at n2
      have n1 := m1.other (p := ⟨w.heap.size + 1, k, none⟩) (by show w.heap.size + 1 ≠ w.heap.size; omega) (.string (tx k))
      have y3 := ((ExtB.refl (w.heap.size + 1) w2).set (p := ⟨w.heap.size + 1, k, none⟩) (.inl rfl) (.string (tx k))).ext y2 (by omega)
      have c2 : w2.cell? ⟨w.heap.size + 1, k, none⟩ = some (.string (s0 k)) := by rw [m2.cell, hget k hlt]
      have f2 := m2.free k
      clear x2 x1 r1 r2 m1 m2 y2 hset hget htx
      generalize tx k = T at *
      go_wp2
      go_roundw
      case rel => exact ⟨k + 1, by omega, by go_num, n1, n2, y3⟩
      case measure => simp [intOf]; omega
    · have hk8 : k = 24 := by omega
      subst hk8
      obtain ⟨T1, h1⟩ := r1
      obtain ⟨T2, h2⟩ := r2
      have hi : (Tryd.prog.info? 34).map (·.size) = some (NM 24).toArray.size := by rw [infoNames, List.size_toArray, hlen]
      have hz : (NM 24).toArray.size = (NM 0).toArray.size := by rw [List.size_toArray, List.size_toArray, hlen, hlen]
      go_wp2_with (first
        | (refine wpList_load_row rfl 34 (.tmp 1) rfl (w.heap.size + 1) rfl T2 (NM 24).toArray (0, 0) _ h2 Tryd.underlying34 rfl hi ?_)
        | (refine wpList_store_row rfl 34 (.tmp 0) (.tmp 11) rfl w.heap.size (NM 24).toArray rfl rfl T1 (NM 0).toArray h1 hi hz.symm hone ?_))
      have m1 : Blk (wr.setRow w.heap.size (NM 24).toArray) w.heap.size (NM 24) := ⟨T1, setRow_heap wr w.heap.size _ _ T1 _ h1⟩
      have x3 : ExtB w.heap.size wr (wr.setRow w.heap.size (NM 24).toArray) := ⟨rfl, rfl, rfl, by simp, fun k hk hne => setRow_other wr w.heap.size k _ hne⟩
      have y3 := x3.ext x1 (Nat.le_refl _)
      obtain ⟨T3, h3⟩ := m1
      generalize wr.setRow w.heap.size (NM 24).toArray = w3 at *
      exact bodyPost_ret (v := .agg (NM 24).toArray) (results_cell_row (p := 0) (ty := 34) rfl _ w3 w.heap.size T3 (NM 24).toArray (0, 0) _ rfl h3 Tryd.underlying34 rfl hi) rfl ⟨rfl, y3⟩
theorem names_any (w : World) : Calls Tryd.prog 17 #[] w fun e w' => e = .returned (.agg (nmL 24).toArray) ∧ Ext w w' :=
  names_gen nmL txt (fun k => nms k k) nmL_zero nmL_len (by simp [Value.oneCell']) nmL_set (fun i h => nmL_get i i h) (fun k h w => text_any k h w) w

end Go.Proofs.YtjloobghfggakaaDoor
