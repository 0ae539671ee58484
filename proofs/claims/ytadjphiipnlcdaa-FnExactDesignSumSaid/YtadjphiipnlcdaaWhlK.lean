/- Wheels: slices.IndexFunc at tidied's functions; clear; slices.DeleteFunc. Written by mk_whlk.py. -/
import Derived.Test.YtadjphiipnlcdaaWhlG
namespace Go.Proofs.Ytadjphiipnlcdaa
open Go.ChangeShapes Go.WideShapes Go.ChangeAt Go.RowKit
set_option linter.unusedVariables false
set_option maxRecDepth 100000


theorem Flt.congr {G H K : Nat → Nat → Int} {k m : Nat} (h : Flt G k m H) (e : ∀ i, i < m → ∀ c, c < 9 → H i c = K i c) : Flt G k m K := by
  obtain ⟨f, h1, h2, h3⟩ := h
  exact ⟨f, fun i hi => ⟨(h1 i hi).1, (h1 i hi).2.1, fun c hc => by rw [← e i hi c hc]; exact (h1 i hi).2.2 c hc⟩, h2, h3⟩
theorem Flt.all {G : Nat → Nat → Int} {k : Nat} (h : ∀ i, i < k → ¬ isZ (G i)) : Flt G k k G := ⟨fun i => i, fun i hi => ⟨hi, h i hi, fun _ _ => rfl⟩, fun i j hij _ => hij, fun p hp _ => ⟨p, hp, rfl⟩⟩
/-- an own list's beginning is an own list -/
theorem OwnW.cut {w : World} {base g n m cap : Nat} {G : Nat → Nat → Int} (h : OwnW w base (.slice (some ⟨g, 0, none⟩) n cap) n G) (hm : m ≤ n) : OwnW w base (.slice (some ⟨g, 0, none⟩) m cap) m G := by
  obtain ⟨hl, h | ⟨g', cap', cur, hv, hb, hg, hnc, hcm, hs, ht⟩⟩ := h
  · cases h.1
  cases hv
  refine ⟨flat_len _ _, .inr ⟨g, cap, cur, rfl, hb, hg, by omega, hcm, hs, ?_⟩⟩
  apply List.ext_getElem?
  intro o
  by_cases ho : o < m * 9
  · have hcur : cur.toList[o]? = some (.int .i64 (G (o / 9) (o % 9))) := by rw [← flat_get n G (by omega), ← ht, List.getElem?_take, if_pos (by omega)]
    rw [List.getElem?_take, if_pos ho, flat_get m G ho, hcur]
  · rw [List.getElem?_eq_none (by rw [List.length_take]; omega), List.getElem?_eq_none (by rw [flat_len]; omega)]
theorem zeroValueWh (w : World) : (zeroValue 41).run Try.prog w = .ok (whV fun _ => 0) w := by kernel_rfl
theorem zeros_len (m : Nat) : (Builtin.zeroCells (whV fun _ => 0).cells m).toList.length = m * 9 := by simp [Builtin.zeroCells, Value.cells]
theorem zeros_one (m : Nat) : ∀ v ∈ (Builtin.zeroCells (whV fun _ => 0).cells m).toList, v.oneCell' = true := by
  intro v hv
  simp only [Builtin.zeroCells, Array.toList_map, List.mem_map] at hv
  obtain ⟨i, _, rfl⟩ := hv
  have h9 : i % (whV fun _ => 0).cells.size < 9 := Nat.mod_lt _ (by decide)
  generalize i % (whV fun _ => 0).cells.size = j at *
  obtain rfl | rfl | rfl | rfl | rfl | rfl | rfl | rfl | rfl : j = 0 ∨ j = 1 ∨ j = 2 ∨ j = 3 ∨ j = 4 ∨ j = 5 ∨ j = 6 ∨ j = 7 ∨ j = 8 := by omega
  all_goals rfl
/-- the end of an own list is cleared: its beginning stays -/
theorem run_clearW {w : World} {base g n cap i : Nat} {G : Nat → Nat → Int} (h : OwnW w base (.slice (some ⟨g, 0, none⟩) n cap) n G) (hi : i ≤ n) (ad : Addr) (hm : n - i = 0 ∨ ad = ⟨g, i * 9, none⟩) (c : Nat) (ty : TypeId) :
    ∃ w', (Builtin.clear_ #[25] ty #[.slice (some ad) (n - i) c]).run Try.prog w = .ok (.tuple #[]) w' ∧ OwnW w' base (.slice (some ⟨g, 0, none⟩) i cap) i G ∧ ExtB g w w' := by
  by_cases h0 : n - i = 0
  · refine ⟨w, ?_, h.cut hi, ExtB.refl g w⟩
    rw [h0]
    simp [Builtin.clear_, run_underlying Try.underlying25]
  · rcases hm with hm | rfl
    · exact absurd hm h0
    have h' := h
    obtain ⟨hl, h | ⟨g', cap', cur, hv, hb, hg, hnc, hcm, hs, ht⟩⟩ := h
    · cases h.1
    cases hv
    have hcl : cur.toList.length = cap * 9 := by rw [Array.length_toList, hs]
    have hz := zeros_len (n - i)
    have hr := run_storeCells_at (P := Try.prog) g 41 (Builtin.zeroCells (whV fun _ => 0).cells (n - i)).toList (i * 9) 0 cur w (by simpa using hg) (by rw [hz, ← Array.length_toList, hcl]; omega) (zeros_one _)
    simp only [Nat.add_zero] at hr
    refine ⟨w.setRow g (cur.toList.take (i * 9) ++ (Builtin.zeroCells (whV fun _ => 0).cells (n - i)).toList ++ cur.toList.drop (i * 9 + (Builtin.zeroCells (whV fun _ => 0).cells (n - i)).toList.length)).toArray, ?_, ?_, ⟨rfl, rfl, rfl, by simp, fun k hk hne => setRow_other w g k _ hne⟩⟩
    · obtain ⟨m, hm⟩ : ∃ m, n - i = m + 1 := ⟨n - i - 1, by omega⟩
      rw [hm] at hr ⊢
      simp only [Builtin.clear_]
      simp [run_underlying Try.underlying25]
      rw [hr]
      simp only [Result.andThen_ok, Array.length_toList]
      first | done | (simp; done) | (trace_state; rfl)
    · refine ⟨flat_len _ _, .inr ⟨g, cap, _, rfl, hb, setRow_heap w g _ _ _ _ hg, by omega, hcm, ?_, ?_⟩⟩
      · simp only [List.size_toArray, List.length_append, List.length_take, List.length_drop, hz, hcl]
        omega
      · apply List.ext_getElem?
        intro o
        by_cases ho : o < i * 9
        · have hcur : cur.toList[o]? = some (.int .i64 (G (o / 9) (o % 9))) := by rw [← flat_get n G (by omega), ← ht, List.getElem?_take, if_pos (by omega)]
          rw [List.getElem?_take, if_pos ho, flat_get i G ho, List.append_assoc, List.getElem?_append_left (by rw [List.length_take]; omega), List.getElem?_take, if_pos (by omega), hcur]
        · rw [List.getElem?_eq_none (by rw [List.length_take]; omega), List.getElem?_eq_none (by rw [flat_len]; omega)]
theorem wpList_clearW {ops : Array Oper} {rest : List Oper} {o : Oper} {a : Act} {w : World} {Q : Exit → Act → World → Prop} {base g n cap i c : Nat} {G : Nat → Nat → Int} (hgd : o.guard = none) (x : Operand)
    (ho : o.op = .call { callee := .builtin .clear, args := #[x], argTypes := #[25] }) (h : OwnW w base (.slice (some ⟨g, 0, none⟩) n cap) n G) (hi : i ≤ n) (ad : Addr) (hm : n - i = 0 ∨ ad = ⟨g, i * 9, none⟩)
    (hx : a.eval x = .slice (some ad) (n - i) c) (hk : ∀ w', OwnW w' base (.slice (some ⟨g, 0, none⟩) i cap) i G → ExtB g w w' → wpList Try.prog ops Q rest (a.put o.dst (.tuple #[])) w') : wpList Try.prog ops Q (o :: rest) a w := by
  refine wpList_plain hgd fun K hK => ?_
  obtain ⟨w', hr, h2, h3⟩ := run_clearW h hi ad hm c o.type
  unfold Oper.wp execOp
  simp only [ho, resolve, invoke, builtin, Sem.run_bind, Sem.run_pure, Result.andThen_ok, List.map_toArray, List.map_cons, List.map_nil, hx, hr]
  exact hK _ _ (hk w' h2 h3)
theorem run_storeVar_at {P : Program} (w : World) (g off : Nat) (t ty : TypeId) (cells cur : List Value) (hg : w.heap[g]? = some (.cells cur.toArray t (0, 0))) (hi : (P.info? ty).map (·.size) = some cells.length)
    (hold : off + cells.length ≤ cur.length) (h1 : ∀ v ∈ cells, v.oneCell' = true) :
    (storeVar ty ⟨g, off, none⟩ (.agg cells.toArray)).run P w = .ok () (w.setRow g (cur.take off ++ cells ++ cur.drop (off + cells.length)).toArray) := by
  have hr := run_storeCells_at (P := P) g t cells off 0 cur.toArray w hg (by simpa using hold) h1
  cases hq : P.info? ty with
  | none => simp [hq] at hi
  | some i =>
    have hs : cells.length = i.size := by simp [hq] at hi; omega
    simp only [Nat.add_zero] at hr
    simp [storeVar, sizeOf, typeInfo, hq, Value.cells, hs, hr]
theorem putW_own {w : World} {base g n cap k : Nat} {G : Nat → Nat → Int} {cur : Array Value} (h : OwnW w base (.slice (some ⟨g, 0, none⟩) n cap) n G) (hg : w.heap[g]? = some (.cells cur 41 (0, 0))) (hs : cur.size = cap * 9) (hk : k < n) (F : Nat → Int) :
    OwnW (w.setRow g (cur.toList.take (k * 9) ++ wh9 F ++ cur.toList.drop (k * 9 + 9)).toArray) base (.slice (some ⟨g, 0, none⟩) n cap) n (fun j => if j = k then F else G j) := by
  obtain ⟨hl, h | ⟨g', cap', cur', hv, hb, hg', hnc, hcm, hs', ht⟩⟩ := h
  · cases h.1
  cases hv
  rw [hg] at hg'
  cases hg'
  have hcl : cur.toList.length = cap * 9 := by rw [Array.length_toList, hs]
  have h9 : (wh9 F).length = 9 := rfl
  refine ⟨flat_len _ _, .inr ⟨g, cap, _, rfl, hb, setRow_heap w g _ _ _ _ hg, hnc, hcm, ?_, ?_⟩⟩
  · simp only [List.size_toArray, List.length_append, List.length_take, List.length_drop, h9, hcl]
    omega
  · have hcur : ∀ o, o < n * 9 → cur.toList[o]? = some (.int .i64 (G (o / 9) (o % 9))) := fun o ho => by
      rw [← flat_get n G ho, ← ht, List.getElem?_take, if_pos ho]
    have e1 : (cur.toList.take (k * 9)).length = k * 9 := by rw [List.length_take]; omega
    apply List.ext_getElem?
    intro o
    by_cases ho : o < n * 9
    · rw [List.getElem?_take, if_pos ho, flat_get n _ ho]
      by_cases ha : o < k * 9
      · rw [List.append_assoc, List.getElem?_append_left (by omega), List.getElem?_take, if_pos ha, hcur o ho, if_neg (by omega)]
      · by_cases hb2 : o < k * 9 + 9
        · rw [List.append_assoc, List.getElem?_append_right (by omega), e1, List.getElem?_append_left (by omega), wh9_get F (by omega), if_pos (by omega), show o - k * 9 = o % 9 by omega]
        · rw [List.getElem?_append_right (by rw [List.length_append]; omega), List.length_append, e1, h9, List.getElem?_drop, show k * 9 + 9 + (o - (k * 9 + 9)) = o by omega, hcur o ho, if_neg (by omega)]
    · rw [List.getElem?_eq_none (by rw [List.length_take]; omega), List.getElem?_eq_none (by rw [flat_len]; omega)]
/-- a list's wheel is stored -/
theorem wpList_putW {ops : Array Oper} {rest : List Oper} {o : Oper} {a : Act} {w : World} {Q : Exit → Act → World → Prop} {base g n cap k : Nat} {G : Nat → Nat → Int} {F : Nat → Int} (hgd : o.guard = none) (x y : Operand)
    (ho : o.op = .store 41 x y) (h : OwnW w base (.slice (some ⟨g, 0, none⟩) n cap) n G) (hk : k < n) (hx : a.eval x = .pointer (some ⟨g, k * 9, none⟩)) (hy : a.eval y = .agg (wh9 F).toArray)
    (hK : ∀ w', OwnW w' base (.slice (some ⟨g, 0, none⟩) n cap) n (fun j => if j = k then F else G j) → ExtB g w w' → wpList Try.prog ops Q rest (a.put o.dst undef) w') : wpList Try.prog ops Q (o :: rest) a w := by
  obtain ⟨hl, h | ⟨g', cap', cur, hv, hb, hg, hnc, hcm, hs, ht⟩⟩ := h
  · cases h.1
  cases hv
  have hcl : cur.toList.length = cap * 9 := by rw [Array.length_toList, hs]
  refine wpList_plain hgd fun K hKK => ?_
  have h9 : (wh9 F).length = 9 := rfl
  have hst := run_storeVar_at (P := Try.prog) w g (k * 9) 41 41 (wh9 F) cur.toList (by simpa using hg) infoWh (by rw [h9, hcl]; omega) (one_wh9 _)
  rw [h9] at hst
  unfold Oper.wp execOp
  simp only [ho, hx, hy, Instr.storeAt, Instr.sureAddr, Sem.run_bind, Sem.run_pure, Result.andThen_ok, hst]
  refine hKK _ _ (hK _ ⟨flat_len _ _, .inr ⟨g, cap, _, rfl, hb, setRow_heap w g _ _ _ _ hg, hnc, hcm, ?_, ?_⟩⟩ ⟨rfl, rfl, rfl, by simp, fun q hq hne => setRow_other w g q _ hne⟩)
  · simp only [List.size_toArray, List.length_append, List.length_take, List.length_drop, h9, hcl]
    omega
  · have hcur : ∀ o, o < n * 9 → cur.toList[o]? = some (.int .i64 (G (o / 9) (o % 9))) := fun o ho => by
      rw [← flat_get n G ho, ← ht, List.getElem?_take, if_pos ho]
    have e1 : (cur.toList.take (k * 9)).length = k * 9 := by rw [List.length_take]; omega
    apply List.ext_getElem?
    intro o
    by_cases ho : o < n * 9
    · rw [List.getElem?_take, if_pos ho, flat_get n _ ho]
      by_cases ha : o < k * 9
      · rw [List.append_assoc, List.getElem?_append_left (by omega), List.getElem?_take, if_pos ha, hcur o ho, if_neg (by omega)]
      · by_cases hb2 : o < k * 9 + 9
        · rw [List.append_assoc, List.getElem?_append_right (by omega), e1, List.getElem?_append_left (by omega), wh9_get F (by omega), if_pos (by omega), show o - k * 9 = o % 9 by omega]
        · rw [List.getElem?_append_right (by rw [List.length_append]; omega), List.length_append, e1, h9, List.getElem?_drop, show k * 9 + 9 + (o - (k * 9 + 9)) = o by omega, hcur o ho, if_neg (by omega)]
    · rw [List.getElem?_eq_none (by rw [List.length_take]; omega), List.getElem?_eq_none (by rw [flat_len]; omega)]

theorem tidied2_any (A : Nat → Int) (w : World) : Calls Try.prog 52 #[whV A] w fun e w' => e = .returned (.bool (zW A)) ∧ Ext w w' := by
  have eqz := eqWz A
  have hbld := buildCyc
  go_enter Try.func52, Try.ntmps52
  go_wp2
  go_ret
  exact ⟨rfl, by repeat (first | exact Ext.refl _ | assumption | refine Ext.drew ?_ | refine Ext.alloc ?_ _ | refine Ext.trans ?_ (by assumption))⟩

theorem tidied1_any (A F : Nat → Int) (C : Nat) (w : World) (h : Blk w C (wh9 F)) : Calls Try.prog 49 #[whV A, .pointer (some ⟨C, 0, none⟩)] w fun e w' => e = .returned (.bool (A 0 == F 0)) ∧ Ext w w' := by
  have c0 : w.cell? ⟨C, 0, none⟩ = some (.int .i64 (F 0)) := h.cell 0
  have hC := h.lt
  go_enter Try.func49, Try.ntmps49
  go_wp2
  go_ret
  exact ⟨rfl, by repeat (first | exact Ext.refl _ | assumption | refine Ext.drew ?_ | refine Ext.alloc ?_ _ | refine Ext.trans ?_ (by assumption))⟩

set_option maxHeartbeats 1000000 in
theorem idxZ_any (a : Option Addr) (n cap : Nat) (G : Nat → Nat → Int) (w : World) (hc : n ≤ cap) (hm : n ≤ 1048576) (h : Whs w a n G) :
    Calls Try.prog 48 #[.slice a n cap, .func (.func 52) #[] #[]] w fun e w' => ∃ z, IdxW (fun A => zW A) n G z ∧ e = .returned (.int .i64 z) ∧ Ext w w' := by
  go_enter Try.func48, Try.ntmps48
  go_wp2
  go_loopw [8] (fun i wr => ∃ k : Nat, k ≤ n ∧ i = .int .i64 k ∧ (∀ i, i < k → zW (G i) = false) ∧ Ext w wr) (fun i _ => n - (intOf i).toNat)
  case atStart => exact ⟨0, by omega, rfl, by omega, Ext.refl _⟩
  case round =>
    obtain ⟨k, hk, rfl, hp, x1⟩ := hrel
    have hw := h.keep x1
    have P := Lib.hid hp
    clear hp
    by_cases hlt : k < n
    · rcases hw with hw | ⟨b, off, rfl, hb, hcell⟩
      · omega
      · have hr := row9 (hcell k hlt)
        clear hcell h
        go_wp2_with (refine wpList_load_at rfl 41 (.tmp 14) rfl b (off + k * 9) rfl (wh9 (G k)).toArray _ hr Try.underlying41 rfl infoWh ?_)
        refine (tidied2_any (G k) _).mono ?_
        rintro e w2 ⟨rfl, x2⟩
        have y2 := x1.trans x2
        clear x1 x2 hr
        by_cases hv : zW (G k) = true
        · have e1 := Lib.hid hv
          go_wp2_with fail
          go_ret
          exact ⟨_, .inl ⟨k, hlt, rfl, e1.out, P.out⟩, rfl, y2⟩
        · have hv' : zW (G k) = false := by simpa using hv
          have e1 := Lib.hid hv'
          clear hv
          go_wp2_with fail
          go_roundw
          case rel => exact ⟨k + 1, by omega, by go_num, fun i hi => by
            by_cases h2 : i = k
            · subst h2; exact e1.out
            · exact P.out i (by omega), y2⟩
          case measure => simp [intOf]; omega
    · have hk8 : k = n := by omega
      subst hk8
      clear h hw
      go_wp2
      go_ret
      exact ⟨_, .inr ⟨rfl, P.out⟩, rfl, x1⟩

set_option maxHeartbeats 1000000 in
theorem idxS_any (a : Option Addr) (n cap : Nat) (G : Nat → Nat → Int) (C : Nat) (F : Nat → Int) (w : World) (hc : n ≤ cap) (hm : n ≤ 1048576) (hC : Blk w C (wh9 F)) (h : Whs w a n G) :
    Calls Try.prog 48 #[.slice a n cap, .func (.func 49) #[] #[.pointer (some ⟨C, 0, none⟩)]] w fun e w' => ∃ z, IdxW (fun A => (A 0 == F 0)) n G z ∧ e = .returned (.int .i64 z) ∧ Ext w w' := by
  go_enter Try.func48, Try.ntmps48
  go_wp2
  go_loopw [8] (fun i wr => ∃ k : Nat, k ≤ n ∧ i = .int .i64 k ∧ (∀ i, i < k → ((G i) 0 == F 0) = false) ∧ Ext w wr) (fun i _ => n - (intOf i).toNat)
  case atStart => exact ⟨0, by omega, rfl, by omega, Ext.refl _⟩
  case round =>
    obtain ⟨k, hk, rfl, hp, x1⟩ := hrel
    have hw := h.keep x1
    have P := Lib.hid hp
    clear hp
    by_cases hlt : k < n
    · rcases hw with hw | ⟨b, off, rfl, hb, hcell⟩
      · omega
      · have hr := row9 (hcell k hlt)
        have hC2 := hC.keep x1
        clear hcell h
        go_wp2_with (refine wpList_load_at rfl 41 (.tmp 14) rfl b (off + k * 9) rfl (wh9 (G k)).toArray _ hr Try.underlying41 rfl infoWh ?_)
        refine (tidied1_any (G k) F C _ hC2).mono ?_
        rintro e w2 ⟨rfl, x2⟩
        have y2 := x1.trans x2
        clear x1 x2 hr
        by_cases hv : ((G k) 0 == F 0) = true
        · have e1 := Lib.hid hv
          go_wp2_with fail
          go_ret
          exact ⟨_, .inl ⟨k, hlt, rfl, e1.out, P.out⟩, rfl, y2⟩
        · have hv' : ((G k) 0 == F 0) = false := by simpa using hv
          have e1 := Lib.hid hv'
          clear hv
          go_wp2_with fail
          go_roundw
          case rel => exact ⟨k + 1, by omega, by go_num, fun i hi => by
            by_cases h2 : i = k
            · subst h2; exact e1.out
            · exact P.out i (by omega), y2⟩
          case measure => simp [intOf]; omega
    · have hk8 : k = n := by omega
      subst hk8
      clear h hw
      go_wp2
      go_ret
      exact ⟨_, .inr ⟨rfl, P.out⟩, rfl, x1⟩

set_option maxHeartbeats 2000000 in
theorem delete_any (base g n cap : Nat) (G : Nat → Nat → Int) (w : World) (hn : n ≤ 100) (hbw : base ≤ w.heap.size) (h : OwnW w base (.slice (some ⟨g, 0, none⟩) n cap) n G) :
    Calls Try.prog 51 #[.slice (some ⟨g, 0, none⟩) n cap, .func (.func 52) #[] #[]] w fun e w' => ∃ m H,
      e = .returned (.slice (some ⟨g, 0, none⟩) m cap) ∧ Flt G n m H ∧ OwnW w' base (.slice (some ⟨g, 0, none⟩) m cap) m H ∧ ExtB g w w' := by
  obtain ⟨a0, c0, e0, hnc, hcm, hwh⟩ := h.whs
  cases e0
  have hgl := (World.ownsRow.lt h g rfl)
  go_enter Try.func51, Try.ntmps51
  go_wp2_with fail
  refine (idxZ_any _ n cap G _ hnc (by omega) hwh).mono ?_
  rintro e w1 ⟨z, hz, rfl, x1⟩
  have o1 := h.keep x1
  have y1 : ExtB g w w1 := x1.toB g
  clear hwh h
  rcases hz with ⟨j, hj, rfl, h1, h2⟩ | ⟨rfl, h2⟩
  · have F1 := Lib.hid (((Flt.all (G := G) (k := j) fun i hi hz => by have a := (zW_iff (G i)).2 hz; have b : zW (G i) = false := h2 i hi; rw [a] at b; cases b).skip ((zW_iff (G j)).1 h1)))
    clear h1 h2
    have hj1 : ((j : Int) == -1) = false := by first | (simp; done) | (simp; omega)
    go_wp2
    go_loopw [5, 6] (fun i q wr => ∃ (i' k : Nat) (K : Nat → Nat → Int), i = .int .i64 (i' : Int) ∧ q = .int .i64 (k : Int) ∧ k ≤ n ∧ i' < k ∧ Flt G k i' K ∧ (∀ p, k ≤ p → p < n → ∀ c, c < 9 → K p c = G p c) ∧ OwnW wr base (.slice (some ⟨g, 0, none⟩) n cap) n K ∧ ExtB g w wr) (fun _ q _ => n - (intOf q).toNat)
    case atStart => exact ⟨j, j + 1, G, rfl, by go_num, by omega, by omega, F1.out, fun _ _ _ _ _ => rfl, o1, y1⟩
    case round =>
      obtain ⟨i', k, K, rfl, rfl, hk, hik, hF, hT, ho, y2⟩ := hrel
      clear o1 y1 F1
      have FL := Lib.hid hF
      have TL := Lib.hid hT
      clear hF hT
      by_cases hlt : k < n
      · obtain ⟨b0, b1, b2, b3, b4, b5, b6, b7, b8⟩ : _ ∧ _ ∧ _ ∧ _ ∧ _ ∧ _ ∧ _ ∧ _ ∧ _ := cells9 (w := wr) (b := g) (o := k * 9) (F := K k) (by
          rcases ho.shape with ⟨hv, _⟩ | ⟨_, _, hv, _, _, _, _, hcell, _⟩
          · cases hv
          · cases hv
            exact fun c hc => by rw [hcell (k * 9 + c) (by omega), flat_get n K (by omega), show (k * 9 + c) / 9 = k by omega, show (k * 9 + c) % 9 = c by omega])
        have T0 := Lib.hid (TL.out k (Nat.le_refl _) hlt)
        have r0 := Blk.new wr (wh9 (K k)) 41
        go_wp2_with fail
        refine (tidied2_any (K k) _).mono ?_
        rintro e w2 ⟨rfl, x2⟩
        have x3 := ((Ext.refl wr).alloc (.cells (wh9 (K k)).toArray 41)).trans x2
        have o2 := ho.keep x3
        have r2 := r0.keep x2
        have y3 := y2.trans (x3.toB g)
        clear b0 b1 b2 b3 b4 b5 b6 b7 b8 ho r0 x2 x3 y2
        by_cases hv : zW (K k) = true
        · have FL2 := Lib.hid (FL.out.skip ((isZ_congr T0.out).1 ((zW_iff _).1 hv)))
          go_wp2_with fail
          go_roundw
          case rel => exact ⟨i', k + 1, K, rfl, by go_num, by omega, by omega, FL2.out, fun p hp => TL.out p (by omega), o2, y3⟩
          case measure => simp [intOf]; omega
        · have FL2 := Lib.hid (FL.out.take fun z => hv ((zW_iff _).2 ((isZ_congr T0.out).2 z)))
          have hv' : zW (K k) = false := by simpa using hv
          clear hv
          have rr := Lib.hid (row9 (w := w2) (b := wr.heap.size) (o := 0) (F := K k) (fun c hc => by rw [Nat.zero_add, r2.cell, wh9_get _ hc]))
          have q1 : (0 : Int) ≤ (i' : Int) := Int.natCast_nonneg _
          have q2 : (i' : Int) < (n : Int) := by omega
          go_wp2_with (first
            | (refine wpList_load_at rfl 41 (.tmp 7) rfl wr.heap.size 0 rfl (wh9 (K k)).toArray _ rr.out Try.underlying41 rfl infoWh ?_)
            | (refine wpList_putW (k := i') (F := K k) rfl (.tmp 33) (.tmp 32) rfl o2 (by omega) rfl rfl ?_))
          intro w3 o3 z3
          have y4 := y3.trans z3
          clear o2 r2 y3 z3
          go_wp2
          go_roundw
          case rel => exact ⟨i' + 1, k + 1, _, by go_num, by go_num, by omega, by omega, Flt.congr FL2.out (fun p hp c hc => by
              by_cases h1 : p < i'
              · simp only [if_pos h1, if_neg (show ¬ p = i' by omega)]
              · simp only [if_neg h1, if_pos (show p = i' by omega)]; exact (T0.out c hc).symm), fun p hp hpn c hc => by
              simp only [if_neg (show ¬ p = i' by omega)]; exact TL.out p (by omega) hpn c hc, o3, y4⟩
          case measure => simp [intOf]; omega
      · have hkn : k = n := by omega
        subst hkn
        have q1 : (0 : Int) ≤ (i' : Int) := Int.natCast_nonneg _
        have q2 : (i' : Int) ≤ (k : Int) := by omega
        have q3 : (i' : Int) ≤ (cap : Int) := by omega
        have q4 : ¬ cap = i' := by omega
        have q5 : ¬ (cap : Int) = (i' : Int) := by omega
        go_wp2_with (refine wpList_clearW rfl (.tmp 38) rfl ho (i := i') (by omega) ⟨g, i' * 9, none⟩ (.inr rfl) rfl ?_)
        intro w3 o3 z3
        have y4 := y2.trans z3
        clear ho y2 z3
        go_wp2
        go_ret
        exact ⟨i', K, rfl, FL.out, o3, y4⟩
  · have F1 := Lib.hid (Flt.all (G := G) (k := n) fun i hi hz => by have a := (zW_iff (G i)).2 hz; have b : zW (G i) = false := h2 i hi; rw [a] at b; cases b)
    clear h2
    go_wp2
    go_ret
    exact ⟨n, G, rfl, F1.out, o1, y1⟩

end Go.Proofs.Ytadjphiipnlcdaa
