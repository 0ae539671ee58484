/- Wheels: slices.insertionSortCmpFunc at the wheels' order. Written by mk_whlj.py. -/
import Derived.Test.YtadjphiipnlcdaaWhlS
import Derived.Test.YtadjphiipnlcdaaWhlK
import Derived.BigRegion
import Derived.Deep.RegionLaw
namespace Go.Proofs.Ytadjphiipnlcdaa
open Go.ChangeShapes Go.WideShapes Go.ChangeAt Go.RowKit
set_option linter.unusedVariables false
set_option maxRecDepth 100000


theorem OwnW.cellK {w : World} {base g n cap k c : Nat} {G : Nat → Nat → Int} (h : OwnW w base (.slice (some ⟨g, 0, none⟩) n cap) n G) (hk : k < n) (hc : c < 9) : w.cell? ⟨g, k * 9 + c, none⟩ = some (.int .i64 (G k c)) := by
  rcases h.shape with ⟨hv, _⟩ | ⟨_, _, hv, _, _, _, _, hcell, _⟩
  · cases hv
  · cases hv
    rw [hcell (k * 9 + c) (by omega), flat_get n G (by omega), show (k * 9 + c) / 9 = k by omega, show (k * 9 + c) % 9 = c by omega]
/-- a whole row is loaded: a step of a region that draws its order -/
theorem iteI {c A B : Prop} {i : Decidable c} (h : c) (a : A) : @ite Prop c i A B := by rw [if_pos h]; exact a
theorem wanted_plain {o : Oper} {y : Nat → Option Bool} (h : o.guard = none) : Region.wanted o y = true := by simp [Region.wanted, h]
theorem wp_load_atW {P : Program} {o : Oper} {a : Act} {w : World} {K : Act → World → Prop} {Q : Exit → Act → World → Prop} (dst : Option Tmp) (hdst : o.dst = dst) (ty : TypeId) (x : Operand) (ho : o.op = .load ty x)
    (g off : Nat) (hx : a.eval x = .pointer (some ⟨g, off, none⟩)) (cs : Array Value) (d : TypeDesc) (hc : ∀ j v, cs[j]? = some v → w.cell? ⟨g, off + j, none⟩ = some v)
    (hu : P.underlying ty = some d) (hd : (match d with | .struct _ | .array _ _ => true | _ => false) = true) (hi : (P.info? ty).map (·.size) = some cs.size)
    (h : K (a.put dst (.agg cs)) w) : Oper.wp P o a w K Q := by
  subst hdst
  unfold Oper.wp execOp
  simp only [ho, hx, Instr.loadAt, Instr.sureAddr, Sem.run_bind, Sem.run_pure, Result.andThen_ok, run_loadVar_at w g off ty cs d hc hu hd hi]
  exact h
/-- a list's wheel is stored: a step of a region that draws its order -/
theorem wp_putW {o : Oper} {a : Act} {w : World} {K : Act → World → Prop} {Q : Exit → Act → World → Prop} {base g n cap k : Nat} {G : Nat → Nat → Int} {F : Nat → Int} (hdst : o.dst = none) (x y : Operand)
    (ho : o.op = .store 41 x y) (h : OwnW w base (.slice (some ⟨g, 0, none⟩) n cap) n G) (hk : k < n) (hx : a.eval x = .pointer (some ⟨g, k * 9, none⟩)) (hy : a.eval y = .agg (wh9 F).toArray)
    (hK : ∀ w', OwnW w' base (.slice (some ⟨g, 0, none⟩) n cap) n (fun j => if j = k then F else G j) → ExtB g w w' → K (a.put none undef) w') : Oper.wp Try.prog o a w K Q := by
  have h' := h
  obtain ⟨hl, h | ⟨g', cap', cur, hv, hb, hg, hnc, hcm, hs, ht⟩⟩ := h
  · cases h.1
  cases hv
  have hcl : cur.toList.length = cap * 9 := by rw [Array.length_toList, hs]
  have h9 : (wh9 F).length = 9 := rfl
  have hst := run_storeVar_at (P := Try.prog) w g (k * 9) 41 41 (wh9 F) cur.toList (by simpa using hg) infoWh (by rw [h9, hcl]; omega) (one_wh9 _)
  rw [h9] at hst
  unfold Oper.wp execOp
  simp only [ho, hx, hy, Instr.storeAt, Instr.sureAddr, Sem.run_bind, Sem.run_pure, Result.andThen_ok, hst]
  show K (a.put o.dst undef) _
  rw [hdst]
  exact hK _ (putW_own h' hg hs hk F) ⟨rfl, rfl, rfl, by simp, fun q hq hne => setRow_other w g q _ hne⟩
/-- the operations of a region -/
def regOps (r : Nat) : Code → Array Oper
  | .region i ops _ => if i = r then ops else #[]
  | .seq a b => regOps r a ++ regOps r b
  | .cond _ a b => regOps r a ++ regOps r b
  | .block _ c | .loop c | .scope c => regOps r c
  | _ => #[]
noncomputable def swOps : Array Oper := match Try.f74.body with | some c => regOps 6 c | none => #[]
noncomputable def swOp (i : Nat) : Oper := match swOps[i]? with | some o => o | none => ⟨none, .move (.tmp 0), 0, "", #[], none⟩
theorem swap9 : ∃ o, swOps[9]? = some o ∧ o.guard = none ∧ o.dst = some 46 ∧ o.op = .load 41 (.tmp 45) := ⟨swOp 9, by kernel_rfl, by kernel_rfl, by kernel_rfl, by kernel_rfl⟩
theorem swap13 : ∃ o, swOps[13]? = some o ∧ o.guard = none ∧ o.dst = some 50 ∧ o.op = .load 41 (.tmp 49) := ⟨swOp 13, by kernel_rfl, by kernel_rfl, by kernel_rfl, by kernel_rfl⟩
theorem swap15 : ∃ o, swOps[15]? = some o ∧ o.guard = none ∧ o.dst = none ∧ o.op = .store 41 (.tmp 51) (.tmp 46) := ⟨swOp 15, by kernel_rfl, by kernel_rfl, by kernel_rfl, by kernel_rfl⟩
theorem swap17 : ∃ o, swOps[17]? = some o ∧ o.guard = none ∧ o.dst = none ∧ o.op = .store 41 (.tmp 52) (.tmp 50) := ⟨swOp 17, by kernel_rfl, by kernel_rfl, by kernel_rfl, by kernel_rfl⟩

set_option maxHeartbeats 2000000 in
theorem insertion_any (base g n cap : Nat) (G : Nat → Nat → Int) (w : World) (hn : n ≤ 12) (h : OwnW w base (.slice (some ⟨g, 0, none⟩) n cap) n G) :
    Calls Try.prog 74 #[.slice (some ⟨g, 0, none⟩) n cap, .int .i64 0, .int .i64 (n : Int), .func (.func 54) #[] #[]] w (Sorted base g n cap G w) := by
  go_enter Try.func74, Try.ntmps74
  go_wp2
  go_loopw [8] (fun i wr => ∃ (k : Nat) (H : Nat → Nat → Int), 1 ≤ k ∧ k ≤ n + 1 ∧ i = .int .i64 (k : Int) ∧ (Prm n G H ∧ (k ≤ n ∨ n = 0) ∧ Srt k H) ∧ OwnW wr base (.slice (some ⟨g, 0, none⟩) n cap) n H ∧ ExtB g w wr) (fun i _ => n + 1 - (intOf i).toNat)
  case atStart => exact ⟨1, G, by omega, by omega, rfl, ⟨Prm.refl _ _, by omega, fun p q h1 h2 => by omega⟩, h, ExtB.refl g w⟩
  case round =>
    obtain ⟨k, H, hk1, hk2, rfl, ⟨hP, hkn, hS⟩, ho, x1⟩ := hrel
    clear h
    have P := Lib.hid hP
    have S := Lib.hid hS
    have KN := Lib.hid hkn
    clear hP hS hkn
    by_cases hlt : k < n
    · go_wp2
      go_loopw [9] (fun j wq => ∃ (q : Nat) (K : Nat → Nat → Int), q ≤ k ∧ j = .int .i64 (q : Int) ∧ (Prm n G K ∧ Snk k q K) ∧ OwnW wq base (.slice (some ⟨g, 0, none⟩) n cap) n K ∧ ExtB g w wq) (fun j _ => (intOf j).toNat)
      case atStart => exact ⟨k, H, by omega, rfl, ⟨P.out, Snk.start S.out⟩, ho, x1⟩
      case round =>
        obtain ⟨j, K, hj, rfl, ⟨hP, hN⟩, hq, y1⟩ := hrel
        clear P S ho x1
        have P := Lib.hid hP
        have N := Lib.hid hN
        clear hP hN
        cases j with
        | zero =>
          go_wp2_with fail
          go_quiet (fail)
          have y2 := y1.trans (((Ext.refl wr).drewN nq).toB g)
          have o2 := hq.keep ((Ext.refl wr).drewN nq)
          generalize World.drewN wr nq = W2 at y2 o2 ⊢
          clear hq y1
          go_wp2
          go_roundw
          case rel => exact ⟨k + 1, K, by omega, by omega, by go_num, ⟨P.out, by omega, N.out.stop (by omega) (.inl rfl)⟩, o2, y2⟩
          case measure => simp [intOf]; omega
        | succ q =>
          obtain ⟨c0, c1, c2, c3, c4, c5, c6, c7, c8⟩ := hq.cells9 (k := q) (by omega)
          obtain ⟨d0, d1, d2, d3, d4, d5, d6, d7, d8⟩ := hq.cells9 (k := q + 1) (by omega)
          have hgq : g < wr.heap.size := (World.ownsRow.lt hq g rfl).2
          have i1 : (0 : Int) < (q : Int) + 1 := by omega
          have i2 : (0 : Int) ≤ (q : Int) := Int.natCast_nonneg _
          have j1 : IntKind.i64.wrap (q : Int) = (q : Int) := IntWalk.i64_in _ (by omega)
          have j2 : IntKind.i64.wrap ((q : Int) + 1 - 1) = (q : Int) := by rw [Int.add_sub_cancel]; exact j1
          have i3 : (q : Int) < (n : Int) := by omega
          have i4 : (q : Int) + 1 < (n : Int) := by omega
          have i5 : (0 : Int) ≤ (q : Int) + 1 := by omega
          go_wp2_with fail
          go_region_held3 (fun w' => w'.cell? ⟨g, q * 9, none⟩ = some (.int .i64 (K q 0)) ∧ w'.cell? ⟨g, q * 9 + 1, none⟩ = some (.int .i64 (K q 1)) ∧ w'.cell? ⟨g, q * 9 + 2, none⟩ = some (.int .i64 (K q 2)) ∧ w'.cell? ⟨g, q * 9 + 3, none⟩ = some (.int .i64 (K q 3)) ∧ w'.cell? ⟨g, q * 9 + 4, none⟩ = some (.int .i64 (K q 4)) ∧ w'.cell? ⟨g, q * 9 + 5, none⟩ = some (.int .i64 (K q 5)) ∧ w'.cell? ⟨g, q * 9 + 6, none⟩ = some (.int .i64 (K q 6)) ∧ w'.cell? ⟨g, q * 9 + 7, none⟩ = some (.int .i64 (K q 7)) ∧ w'.cell? ⟨g, q * 9 + 8, none⟩ = some (.int .i64 (K q 8)) ∧ w'.cell? ⟨g, (q + 1) * 9, none⟩ = some (.int .i64 (K (q + 1) 0)) ∧ w'.cell? ⟨g, (q + 1) * 9 + 1, none⟩ = some (.int .i64 (K (q + 1) 1)) ∧ w'.cell? ⟨g, (q + 1) * 9 + 2, none⟩ = some (.int .i64 (K (q + 1) 2)) ∧ w'.cell? ⟨g, (q + 1) * 9 + 3, none⟩ = some (.int .i64 (K (q + 1) 3)) ∧ w'.cell? ⟨g, (q + 1) * 9 + 4, none⟩ = some (.int .i64 (K (q + 1) 4)) ∧ w'.cell? ⟨g, (q + 1) * 9 + 5, none⟩ = some (.int .i64 (K (q + 1) 5)) ∧ w'.cell? ⟨g, (q + 1) * 9 + 6, none⟩ = some (.int .i64 (K (q + 1) 6)) ∧ w'.cell? ⟨g, (q + 1) * 9 + 7, none⟩ = some (.int .i64 (K (q + 1) 7)) ∧ w'.cell? ⟨g, (q + 1) * 9 + 8, none⟩ = some (.int .i64 (K (q + 1) 8)))
            (first | go_keep | (go_split_ands; refine ⟨?_, ?_, ?_, ?_, ?_, ?_, ?_, ?_, ?_, ?_, ?_, ?_, ?_, ?_, ?_, ?_, ?_, ?_⟩ <;> first | (rw [cell_of_heapW (Below.block hx5 _ hgq)]; assumption) | (rw [cell_of_heapW (Below.block ((Ext.drew (Ext.refl _)).trans hx5) _ hgq)]; assumption)))
            (first | (go_at_call 54; ((refine (cmp3_any (K (q + 1)) (K q) _).mono ?_); rintro e w5 ⟨rfl, hx5⟩)))
          have y2 : ExtB g w w5 := y1.trans (((Ext.drew (Ext.refl _)).trans hx5).toB g)
          have o5 := hq.keep ((Ext.drew (Ext.refl _)).trans hx5)
          clear c0 c1 c2 c3 c4 c5 c6 c7 c8 d0 d1 d2 d3 d4 d5 d6 d7 d8 hx5 hq y1 hgq
          by_cases hs : K (q + 1) 0 < K q 0
          · have hcm : cmpI (K (q + 1) 0) (K q 0) < 0 := (cmpI_neg _ _).2 hs
            have P2 := Lib.hid (P.out.swp (q := q) (by omega))
            have N2 := Lib.hid (N.out.step (by omega) hs)
            clear hs
            obtain ⟨o9, hE9, hG9, hD9, hO9⟩ := swap9
            obtain ⟨o13, hE13, hG13, hD13, hO13⟩ := swap13
            obtain ⟨o15, hE15, hG15, hD15, hO15⟩ := swap15
            obtain ⟨o17, hE17, hG17, hD17, hO17⟩ := swap17
            have R1 := Lib.hid (row9 (w := w5.drew) (b := g) (o := q * 9) (F := K q) (fun c hc => o5.cellK (by omega) hc))
            have R2 := Lib.hid (row9 (w := w5.drew) (b := g) (o := (q + 1) * 9) (F := K (q + 1)) (fun c hc => o5.cellK (by omega) hc))
            have o6 : OwnW w5.drew base (.slice (some ⟨g, 0, none⟩) n cap) n K := o5.keep (Ext.drew (Ext.refl _))
            go_wp2_with fail
            refine wp_region_any (by kernel_rfl) ?_
            change wpAny _ _ _ _ _ _ _ (World.drew _)
            refine wpAny_take (i := 0) (v := ?_) rfl (by kernel_rfl) (by kernel_rfl) (by kernel_rfl) (fun _ _ _ h => h) (Or.inl ⟨by rfl, ?_⟩) ?_
            rotate_left
            · (intro w9; go_simp; try with_reducible rfl)
            refine wpAny_take (i := 1) (v := ?_) rfl (by kernel_rfl) (by kernel_rfl) (by kernel_rfl) (fun _ _ _ h => h) (Or.inl ⟨by rfl, ?_⟩) ?_
            rotate_left
            · (intro w9; go_simp; try with_reducible rfl)
            refine wpAny_take (i := 2) (v := ?_) rfl (by kernel_rfl) (by kernel_rfl) (by kernel_rfl) (fun _ _ _ h => h) (Or.inl ⟨by rfl, ?_⟩) ?_
            rotate_left
            · (intro w9; go_simp; try with_reducible rfl)
            refine wpAny_take (i := 3) (v := ?_) rfl (by kernel_rfl) (by kernel_rfl) (by kernel_rfl) (fun _ _ _ h => h) (Or.inl ⟨by rfl, ?_⟩) ?_
            rotate_left
            · (intro w9; go_simp; try with_reducible rfl)
            refine wpAny_take (i := 4) (v := ?_) rfl (by kernel_rfl) (by kernel_rfl) (by kernel_rfl) (fun _ _ _ h => h) (Or.inl ⟨by rfl, ?_⟩) ?_
            rotate_left
            · (intro w9; go_simp; try with_reducible rfl)
            refine wpAny_take (i := 5) (v := ?_) rfl (by kernel_rfl) (by kernel_rfl) (by kernel_rfl) (fun _ _ _ h => h) (Or.inl ⟨by rfl, ?_⟩) ?_
            rotate_left
            · (intro w9; go_simp; try with_reducible rfl)
            refine wpAny_take (i := 6) (v := ?_) rfl (by kernel_rfl) (by kernel_rfl) (by kernel_rfl) (fun _ _ _ h => h) (Or.inl ⟨by rfl, ?_⟩) ?_
            rotate_left
            · (intro w9; go_simp; try with_reducible rfl)
            refine wpAny_take (i := 7) (v := ?_) rfl (by kernel_rfl) (by kernel_rfl) (by kernel_rfl) (fun _ _ _ h => h) (Or.inl ⟨by rfl, ?_⟩) ?_
            rotate_left
            · (intro w9; go_simp; try with_reducible rfl)
            refine wpAny_take (i := 8) (v := ?_) rfl (by kernel_rfl) (by kernel_rfl) (by kernel_rfl) (fun _ _ _ h => h) (Or.inl ⟨by rfl, ?_⟩) ?_
            rotate_left
            · (intro w9; go_simp; try with_reducible rfl)
            refine wpAny_take (i := 10) (v := ?_) rfl (by kernel_rfl) (by kernel_rfl) (by kernel_rfl) (fun _ _ _ h => h) (Or.inl ⟨by rfl, ?_⟩) ?_
            rotate_left
            · (intro w9; go_simp; try with_reducible rfl)
            refine wpAny_take (i := 11) (v := ?_) rfl (by kernel_rfl) (by kernel_rfl) (by kernel_rfl) (fun _ _ _ h => h) (Or.inl ⟨by rfl, ?_⟩) ?_
            rotate_left
            · (intro w9; go_simp; try with_reducible rfl)
            refine wpAny_take (i := 12) (v := ?_) rfl (by kernel_rfl) (by kernel_rfl) (by kernel_rfl) (fun _ _ _ h => h) (Or.inl ⟨by rfl, ?_⟩) ?_
            rotate_left
            · (intro w9; go_simp; try with_reducible rfl)
            refine wpAny_ready (rs := [9, 13]) (by kernel_rfl) (by simp) ?_
            refine AllReady.cons (o := o9) (Eq.trans (by kernel_rfl) hE9) (fun K9 hK => ?_) (AllReady.cons (o := o13) (Eq.trans (by kernel_rfl) hE13) (fun K9 hK => ?_) AllReady.nil)
            · refine iteI (wanted_plain hG9) ?_
              refine wp_load_atW (some 46) hD9 41 (.tmp 45) hO9 g (q * 9) ?h101 (wh9 (K q)).toArray _ R1.out Try.underlying41 rfl infoWh ?h102
              case h101 => go_simp
              try go_simp
              refine hK _ _ ?_
              clear hK
              refine wpAny_ready (rs := [13]) (by kernel_rfl) (by simp) ?_
              refine AllReady.cons (o := o13) (Eq.trans (by kernel_rfl) hE13) (fun K9 hK => ?_) AllReady.nil
              refine iteI (wanted_plain hG13) ?_
              refine wp_load_atW (some 50) hD13 41 (.tmp 49) hO13 g ((q + 1) * 9) ?h104 (wh9 (K (q + 1))).toArray _ R2.out Try.underlying41 rfl infoWh ?h105
              case h104 => go_simp
              try go_simp
              refine hK _ _ ?_
              clear hK
              refine wpAny_take (i := 14) (v := ?_) rfl (by kernel_rfl) (by kernel_rfl) (by kernel_rfl) (fun _ _ _ h => h) (Or.inl ⟨by rfl, ?_⟩) ?_
              rotate_left
              · (intro w9; go_simp; try with_reducible rfl)
              refine wpAny_ready (rs := [15]) (by kernel_rfl) (by simp) ?_
              refine AllReady.cons (o := o15) (Eq.trans (by kernel_rfl) hE15) (fun K9 hK => ?_) AllReady.nil
              refine iteI (wanted_plain hG15) ?_
              refine wp_putW (k := q + 1) (F := K q) hD15 (.tmp 51) (.tmp 46) hO15 o6 (by omega) ?h110 ?h112 ?h111
              case h110 => go_simp
              case h112 => go_simp
              intro w7 o7 z7
              try go_simp
              refine hK _ _ ?_
              clear hK
              refine wpAny_take (i := 16) (v := ?_) rfl (by kernel_rfl) (by kernel_rfl) (by kernel_rfl) (fun _ _ _ h => h) (Or.inl ⟨by rfl, ?_⟩) ?_
              rotate_left
              · (intro w9; go_simp; try with_reducible rfl)
              refine wpAny_ready (rs := [17]) (by kernel_rfl) (by simp) ?_
              refine AllReady.cons (o := o17) (Eq.trans (by kernel_rfl) hE17) (fun K9 hK => ?_) AllReady.nil
              refine iteI (wanted_plain hG17) ?_
              refine wp_putW (k := q) (F := K (q + 1)) hD17 (.tmp 52) (.tmp 50) hO17 o7 (by omega) ?h113 ?h115 ?h114
              case h113 => go_simp
              case h115 => go_simp
              intro w8 o8 z8
              try go_simp
              refine hK _ _ ?_
              clear hK
              refine wpAny_done (by kernel_rfl) ?_ _
              have y9 := (y2.drew.trans z7).trans z8
              have o9 : OwnW w8 base (.slice (some ⟨g, 0, none⟩) n cap) n (swp q K) := o8
              clear o6 o7 o8 z7 z8 y2 o5

              go_wp2
              go_roundw
              case rel => exact ⟨q, _, by omega, by go_num, ⟨P2.out, N2.out⟩, o9, y9⟩
              case measure => simp [intOf]
            · refine iteI (wanted_plain hG13) ?_
              refine wp_load_atW (some 50) hD13 41 (.tmp 49) hO13 g ((q + 1) * 9) ?h116 (wh9 (K (q + 1))).toArray _ R2.out Try.underlying41 rfl infoWh ?h117
              case h116 => go_simp
              try go_simp
              refine hK _ _ ?_
              clear hK
              refine wpAny_ready (rs := [9]) (by kernel_rfl) (by simp) ?_
              refine AllReady.cons (o := o9) (Eq.trans (by kernel_rfl) hE9) (fun K9 hK => ?_) AllReady.nil
              refine iteI (wanted_plain hG9) ?_
              refine wp_load_atW (some 46) hD9 41 (.tmp 45) hO9 g (q * 9) ?h119 (wh9 (K q)).toArray _ R1.out Try.underlying41 rfl infoWh ?h120
              case h119 => go_simp
              try go_simp
              refine hK _ _ ?_
              clear hK
              refine wpAny_take (i := 14) (v := ?_) rfl (by kernel_rfl) (by kernel_rfl) (by kernel_rfl) (fun _ _ _ h => h) (Or.inl ⟨by rfl, ?_⟩) ?_
              rotate_left
              · (intro w9; go_simp; try with_reducible rfl)
              refine wpAny_ready (rs := [15]) (by kernel_rfl) (by simp) ?_
              refine AllReady.cons (o := o15) (Eq.trans (by kernel_rfl) hE15) (fun K9 hK => ?_) AllReady.nil
              refine iteI (wanted_plain hG15) ?_
              refine wp_putW (k := q + 1) (F := K q) hD15 (.tmp 51) (.tmp 46) hO15 o6 (by omega) ?h125 ?h127 ?h126
              case h125 => go_simp
              case h127 => go_simp
              intro w7 o7 z7
              try go_simp
              refine hK _ _ ?_
              clear hK
              refine wpAny_take (i := 16) (v := ?_) rfl (by kernel_rfl) (by kernel_rfl) (by kernel_rfl) (fun _ _ _ h => h) (Or.inl ⟨by rfl, ?_⟩) ?_
              rotate_left
              · (intro w9; go_simp; try with_reducible rfl)
              refine wpAny_ready (rs := [17]) (by kernel_rfl) (by simp) ?_
              refine AllReady.cons (o := o17) (Eq.trans (by kernel_rfl) hE17) (fun K9 hK => ?_) AllReady.nil
              refine iteI (wanted_plain hG17) ?_
              refine wp_putW (k := q) (F := K (q + 1)) hD17 (.tmp 52) (.tmp 50) hO17 o7 (by omega) ?h128 ?h130 ?h129
              case h128 => go_simp
              case h130 => go_simp
              intro w8 o8 z8
              try go_simp
              refine hK _ _ ?_
              clear hK
              refine wpAny_done (by kernel_rfl) ?_ _
              have y9 := (y2.drew.trans z7).trans z8
              have o9 : OwnW w8 base (.slice (some ⟨g, 0, none⟩) n cap) n (swp q K) := o8
              clear o6 o7 o8 z7 z8 y2 o5

              go_wp2
              go_roundw
              case rel => exact ⟨q, _, by omega, by go_num, ⟨P2.out, N2.out⟩, o9, y9⟩
              case measure => simp [intOf]
          · have hcm : ¬ cmpI (K (q + 1) 0) (K q 0) < 0 := fun e => hs ((cmpI_neg _ _).1 e)
            have N2 := Lib.hid (N.out.stop (by omega) (.inr ⟨q, rfl, by omega⟩))
            clear hs
            go_wp2
            go_roundw
            case rel => exact ⟨k + 1, K, by omega, by omega, by go_num, ⟨P.out, by omega, N2.out⟩, o5, y2⟩
            case measure => simp [intOf]; omega
    · have S2 : Srt n H := fun p q hpq hq => S.out p q hpq (by have := KN.out; omega)
      have S3 := Lib.hid S2
      clear S2
      go_wp2
      go_end0
      exact ⟨rfl, H, P.out, S3.out, ho, x1⟩

end Go.Proofs.Ytadjphiipnlcdaa
