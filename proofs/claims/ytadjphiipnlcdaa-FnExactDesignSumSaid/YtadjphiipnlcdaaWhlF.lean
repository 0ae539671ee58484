/- Wheels: spec.l5Add. -/
import Derived.Test.YtadjphiipnlcdaaWhlP
import Derived.Deep.RegionHeld3
import Derived.Deep.AppendLies
import Derived.WalkKit
namespace Go.Proofs.Ytadjphiipnlcdaa
open Go.ChangeShapes Go.WideShapes Go.ChangeAt Go.RowKit
set_option linter.unusedVariables false
set_option maxRecDepth 100000


/-- a whole row is stored, at any place: a step of a region that draws its order -/
theorem step_store_at {P : Program} {ops : Array Oper} {o : Oper} {a : Act} {w : World} {K : Act → World → Prop} {Q : Exit → Act → World → Prop} {E : Prop} (hgd : o.guard = none) (ty : TypeId) (x y : Operand) (ho : o.op = .store ty x y)
    (g off : Nat) (cells : List Value) (hx : a.eval x = .pointer (some ⟨g, off, none⟩)) (hy : a.eval y = .agg cells.toArray) (xs : List Value) (T : TypeId) (hT : w.heap[g]? = some (.cells xs.toArray T (0, 0))) (hi : (P.info? ty).map (·.size) = some cells.length)
    (hold : off + cells.length ≤ xs.length) (h1 : ∀ v ∈ cells, v.oneCell' = true)
    (h : ∀ w', w'.heap[g]? = some (.cells (xs.take off ++ cells ++ xs.drop (off + cells.length)).toArray T (0, 0)) → ExtB g w w' → K (a.put o.dst undef) w') :
    if Region.wanted o (yielded ops a.tmps) = true then Oper.wp P o a w K Q else E := by
  have hw : Region.wanted o (yielded ops a.tmps) = true := by simp [Region.wanted, hgd]
  rw [if_pos hw]
  have hr := run_storeCells_at (P := P) g T cells off 0 xs.toArray w hT (by simpa using hold) h1
  have hs : (storeVar ty ⟨g, off, none⟩ (.agg cells.toArray)).run P w = .ok () (w.setRow g (xs.take off ++ cells ++ xs.drop (off + cells.length)).toArray) := by
    cases hq : P.info? ty with
    | none => simp [hq] at hi
    | some i =>
      have hs : cells.length = i.size := by simp [hq] at hi; omega
      simp only [Nat.add_zero] at hr
      simp [storeVar, sizeOf, typeInfo, hq, Value.cells, hs, hr]
  unfold Oper.wp execOp
  simp only [ho, hx, hy, Instr.storeAt, Instr.sureAddr, Sem.run_bind, Sem.run_pure, Result.andThen_ok, hs]
  exact h _ (setRow_heap w g _ _ T _ hT) ⟨rfl, rfl, rfl, by simp, fun k hk hne => setRow_other w g k _ hne⟩
theorem frozen_of_heapW {w w' : World} {b o : Nat} (h : w'.heap[b]? = w.heap[b]?) : w'.frozen? ⟨b, o, none⟩ = w.frozen? ⟨b, o, none⟩ := by
  simp [World.frozen?, h]
theorem OwnW.frozenAt {w : World} {base n g cap : Nat} {G : Nat → Nat → Int} (h : OwnW w base (.slice (some ⟨g, 0, none⟩) n cap) n G) (j : Nat) : w.frozen? ⟨g, j, none⟩ = false := World.ownsRow.frozenAt h j
theorem OwnW.cells {w : World} {base g n cap k : Nat} {G : Nat → Nat → Int} (h : OwnW w base (.slice (some ⟨g, 0, none⟩) n cap) n G) (hk : k < n) :
    w.cell? ⟨g, k * 9, none⟩ = some (.int .i64 (G k 0)) ∧ w.cell? ⟨g, k * 9 + 1, none⟩ = some (.int .i64 (G k 1)) ∧ w.cell? ⟨g, k * 9 + 1 + 1, none⟩ = some (.int .i64 (G k 2)) ∧ w.cell? ⟨g, k * 9 + 1 + 2, none⟩ = some (.int .i64 (G k 3)) ∧ w.cell? ⟨g, k * 9 + 1 + 3, none⟩ = some (.int .i64 (G k 4)) ∧
    w.cell? ⟨g, k * 9 + 1 + 4, none⟩ = some (.int .i64 (G k 5)) ∧ w.cell? ⟨g, k * 9 + 1 + 5, none⟩ = some (.int .i64 (G k 6)) ∧ w.cell? ⟨g, k * 9 + 1 + 6, none⟩ = some (.int .i64 (G k 7)) ∧ w.cell? ⟨g, k * 9 + 1 + 7, none⟩ = some (.int .i64 (G k 8)) :=
  cells8 (w := w) (b := g) (o := k * 9) (F := G k) (by
    rcases h.shape with ⟨hv, _⟩ | ⟨_, _, hv, _, _, _, _, hcell, _⟩
    · cases hv
    · cases hv
      exact fun c hc => by rw [hcell (k * 9 + c) (by omega), flat_get n G (by omega), show (k * 9 + c) / 9 = k by omega, show (k * 9 + c) % 9 = c by omega])
theorem flat_set {n k c : Nat} (hk : k < n) (hc : c < 9) (G : Nat → Nat → Int) (u : Int) : (flat n G).set (k * 9 + c) (.int .i64 u) = flat n (fun j => if j = k then (fun q => if q = c then u else G k q) else G j) := by
  apply List.ext_getElem?
  intro o
  by_cases ho : o < n * 9
  · rw [flat_get n _ ho, List.getElem?_set]
    by_cases h1 : k * 9 + c = o
    · rw [if_pos h1, if_pos (by rw [flat_len]; omega), if_pos (show o / 9 = k by omega), if_pos (show o % 9 = c by omega)]
    · rw [if_neg h1, flat_get n G ho]
      by_cases h2 : o / 9 = k
      · rw [if_pos h2, if_neg (show ¬ o % 9 = c by omega), h2]
      · rw [if_neg h2]
  · rw [List.getElem?_eq_none (by rw [List.length_set, flat_len]; omega), List.getElem?_eq_none (by rw [flat_len]; omega)]
/-- one cell of an own list is written -/
theorem OwnW.put {w : World} {base n g cap k c o : Nat} {G : Nat → Nat → Int} (h : OwnW w base (.slice (some ⟨g, 0, none⟩) n cap) n G) (hk : k < n) (hc : c < 9) (ho : o = k * 9 + c) (u : Int) :
    OwnW (w.setCell ⟨g, o, none⟩ (.int .i64 u)) base (.slice (some ⟨g, 0, none⟩) n cap) n (fun j => if j = k then (fun q => if q = c then u else G k q) else G j) ∧ ExtB g w (w.setCell ⟨g, o, none⟩ (.int .i64 u)) := by
  subst ho
  have := World.ownsRow.stored h (k * 9 + c) (.int .i64 u)
  rw [flat_set hk hc] at this
  exact ⟨this.1, (ExtB.refl g w).set (.inl rfl) _⟩
/-- a list's wheel gets another radius -/
theorem OwnW.put8 {w : World} {base g n cap k : Nat} {G : Nat → Nat → Int} (h : OwnW w base (.slice (some ⟨g, 0, none⟩) n cap) n G) (hk : k < n) (f : Nat → Int) :
    OwnW ((((((((w.setCell ⟨g, k * 9 + 1, none⟩ (.int .i64 (f 0))).setCell ⟨g, k * 9 + 1 + 1, none⟩ (.int .i64 (f 1))).setCell ⟨g, k * 9 + 1 + 2, none⟩ (.int .i64 (f 2))).setCell ⟨g, k * 9 + 1 + 3, none⟩ (.int .i64 (f 3))).setCell ⟨g, k * 9 + 1 + 4, none⟩ (.int .i64 (f 4))).setCell ⟨g, k * 9 + 1 + 5, none⟩ (.int .i64 (f 5))).setCell ⟨g, k * 9 + 1 + 6, none⟩ (.int .i64 (f 6))).setCell ⟨g, k * 9 + 1 + 7, none⟩ (.int .i64 (f 7))) base (.slice (some ⟨g, 0, none⟩) n cap) n (fun j => if j = k then consF (G k 0) f else G j) ∧ ExtB g w ((((((((w.setCell ⟨g, k * 9 + 1, none⟩ (.int .i64 (f 0))).setCell ⟨g, k * 9 + 1 + 1, none⟩ (.int .i64 (f 1))).setCell ⟨g, k * 9 + 1 + 2, none⟩ (.int .i64 (f 2))).setCell ⟨g, k * 9 + 1 + 3, none⟩ (.int .i64 (f 3))).setCell ⟨g, k * 9 + 1 + 4, none⟩ (.int .i64 (f 4))).setCell ⟨g, k * 9 + 1 + 5, none⟩ (.int .i64 (f 5))).setCell ⟨g, k * 9 + 1 + 6, none⟩ (.int .i64 (f 6))).setCell ⟨g, k * 9 + 1 + 7, none⟩ (.int .i64 (f 7))) := by
  obtain ⟨h0, z0⟩ := h.put hk (c := 1) (o := k * 9 + 1) (by omega) (by omega) (f 0)
  obtain ⟨h1, z1⟩ := h0.put hk (c := 2) (o := k * 9 + 1 + 1) (by omega) (by omega) (f 1)
  obtain ⟨h2, z2⟩ := h1.put hk (c := 3) (o := k * 9 + 1 + 2) (by omega) (by omega) (f 2)
  obtain ⟨h3, z3⟩ := h2.put hk (c := 4) (o := k * 9 + 1 + 3) (by omega) (by omega) (f 3)
  obtain ⟨h4, z4⟩ := h3.put hk (c := 5) (o := k * 9 + 1 + 4) (by omega) (by omega) (f 4)
  obtain ⟨h5, z5⟩ := h4.put hk (c := 6) (o := k * 9 + 1 + 5) (by omega) (by omega) (f 5)
  obtain ⟨h6, z6⟩ := h5.put hk (c := 7) (o := k * 9 + 1 + 6) (by omega) (by omega) (f 6)
  obtain ⟨h7, z7⟩ := h6.put hk (c := 8) (o := k * 9 + 1 + 7) (by omega) (by omega) (f 7)
  refine ⟨OwnW.congr h7 (fun i hi c hc => ?_), (((((((z0).trans z1).trans z2).trans z3).trans z4).trans z5).trans z6).trans z7⟩
  by_cases h1 : i = k
  · subst h1
    simp only [if_true]
    obtain rfl | rfl | rfl | rfl | rfl | rfl | rfl | rfl | rfl : c = 0 ∨ c = 1 ∨ c = 2 ∨ c = 3 ∨ c = 4 ∨ c = 5 ∨ c = 6 ∨ c = 7 ∨ c = 8 := by omega
    all_goals rfl
  · simp only [if_neg h1]
/-- a list's growth by whatever is appended: a step of a region that draws its order -/
theorem step_append_w {P : Program} {ops : Array Oper} {o : Oper} {a : Act} {w : World} {K : Act → World → Prop} {Q : Exit → Act → World → Prop} {E : Prop} (hgd : o.guard = none) (s x : Operand) (t : TypeId)
    (ho : o.op = .call { callee := .builtin .append, args := #[s, x], argTypes := #[t, t] })
    (base : Nat) (e : TypeId) (i : TypeInfo) (z : Value) (size bytes : Nat) (ht : P.underlying t = some (.slice e)) (hi : P.info? e = some i) (hz : i.zero = some z)
    (hsize : i.size = size) (hby : i.bytes = bytes) (hzs : z.cells.size = size) (hsz : 0 < size)
    (v : Value) (n : Nat) (xs : List Value) (hs : a.eval s = v) (hown : w.ownsRow base e size v n xs)
    (ad : Addr) (m c : Nat) (news : List Value) (hx : a.eval x = .slice (some ad) m c) (hl : news.length = m * size) (hnews : ∀ j u, news[j]? = some u → w.cell? (ad.add j) = some u) (h1 : ∀ u ∈ news, u.oneCell' = true)
    (h63 : n + m ≤ maxLen) (hbytes : (n + m) * bytes ≤ 140737488355328) (hbase : base ≤ w.heap.size)
    (h : ∀ v' w', w'.ownsRow base e size v' (n + m) (xs ++ news) → w.grownBy w' v.ownBlock → (v' = .slice none 0 0 ↔ v = .slice none 0 0 ∧ m = 0) → K (a.put o.dst v') w') :
    if Region.wanted o (yielded ops a.tmps) = true then Oper.wp P o a w K Q else E := by
  have hw : Region.wanted o (yielded ops a.tmps) = true := by simp [Region.wanted, hgd]
  rw [if_pos hw]
  exact wp_append_own w s x t ho base e i z size bytes ht hi hz hsize hby hzs hsz v n xs hs hown ad m c news hx hl hnews h1 h63 hbytes hbase h
theorem newsW {w : World} {g n k m : Nat} {G : Nat → Nat → Int} (h : Whs w (some ⟨g, 0, none⟩) n G) (hk : k + m ≤ n) :
    ∀ j u, (flat m fun i => G (k + i))[j]? = some u → w.cell? ((⟨g, k * 9, none⟩ : Addr).add j) = some u := by
  intro j u hj
  rw [addr_add]
  have hj9 : j < m * 9 := by have := (List.getElem?_eq_some_iff.1 hj).1; rwa [flat_len] at this
  rcases h with hw | ⟨b, off, hb, _, hcell⟩
  · omega
  · cases hb
    have := hcell (k + j / 9) (by omega) (j % 9) (by omega)
    rw [Nat.zero_add, show (k + j / 9) * 9 + j % 9 = k * 9 + j by omega] at this
    rw [this, ← hj, flat_get m _ hj9]
theorem news0 {w : World} {g n m : Nat} {G : Nat → Nat → Int} (h : Whs w (some ⟨g, 0, none⟩) n G) (hk : m ≤ n) :
    ∀ j u, (flat m G)[j]? = some u → w.cell? ((⟨g, 0, none⟩ : Addr).add j) = some u := by
  have := newsW (k := 0) h (by omega : 0 + m ≤ n)
  simpa using this
theorem newsB {w : World} {B : Nat} {xs : List Value} (h : Blk w B xs) : ∀ j u, xs[j]? = some u → w.cell? ((⟨B, 0, none⟩ : Addr).add j) = some u := by
  intro j u hj
  rw [addr_add, Nat.zero_add, h.cell, hj]
theorem one_flat (n : Nat) (G : Nat → Nat → Int) : ∀ u ∈ flat n G, u.oneCell' = true := by
  intro v hv; simp [flat] at hv; obtain ⟨_, _, rfl⟩ := hv; rfl
theorem one_wh9 (F : Nat → Int) : ∀ u ∈ wh9 F, u.oneCell' = true := by
  rw [flat_one]; exact one_flat _ _
theorem grownE {w w' : World} {g : Nat} (hg : w.grownBy w' (some g)) : ExtB g w w' := by
  have hb' := hg.block
  exact ⟨hg.os, hg.tape, hg.output, hg.size, fun k hk hne => hb' k hk (by simpa using hne)⟩

set_option maxHeartbeats 4000000 in
theorem l5Add_any (g n cap : Nat) (G : Nat → Nat → Int) (F : Nat → Int) (w : World) (hc : n ≤ cap) (hcm : cap ≤ maxLen) (hn : n ≤ 100) (h : Whs w (some ⟨g, 0, none⟩) n G) (hgw : g < w.heap.size) (hG : ∀ i, i < n → cycOk (tl (G i)) = true) (hF : cycOk (tl F) = true) :
    Calls Try.prog 46 #[.slice (some ⟨g, 0, none⟩) n cap, whV F] w fun e w' => ∃ v p, v ≠ .slice none 0 0 ∧ p ≤ n ∧ (∀ i, i < p → G i 0 < F 0) ∧ Ext w w' ∧
      ((p < n ∧ G p 0 = F 0 ∧ e = .returned (.tuple #[v, .bool (cycOk (tl (addW (G p) F)))]) ∧ OwnW w' w.heap.size v n (fun j => if j = p then addW (G p) F else G j)) ∨
       ((p < n → F 0 < G p 0) ∧ e = .returned (.tuple #[v, .bool (cycOk (tl F))]) ∧ OwnW w' w.heap.size v (n + 1) (fun j => if j < p then G j else if j = p then F else G (j - 1)))) := by
  obtain ⟨i0, hi, hz0, hz1, hz2⟩ := info_partsW infoWhC
  have b0 := Blk.new w (wh9 F) 41
  have x0 : Ext w (w.alloc (.cells (wh9 F).toArray 41)) := (Ext.refl w).alloc _
  go_enter Try.func46, Try.ntmps46
  go_wp2
  go_loopw [6] (fun i wr => ∃ k : Nat, k ≤ n ∧ i = .int .i64 k ∧ (∀ i, i < k → G i 0 < F 0) ∧ Blk wr w.heap.size (wh9 F) ∧ Ext w wr) (fun i _ => n - (intOf i).toNat)
  case atStart => exact ⟨0, by omega, rfl, by omega, b0, x0⟩
  case round =>
    obtain ⟨k, hk, rfl, hp, b1, x1⟩ := hrel
    clear b0 x0
    have hw := h.keep x1
    have P := Lib.hid hp
    clear hp
    have d0 : wr.cell? ⟨w.heap.size, 0, none⟩ = some (.int .i64 (F 0)) := b1.cell 0
    by_cases hlt : k < n
    · have c0 : wr.cell? ⟨g, k * 9, none⟩ = some (.int .i64 (G k 0)) := by
        rcases hw with hw | ⟨b, off, hb, _, hcell⟩
        · omega
        · cases hb
          have := hcell k hlt 0 (by omega)
          simpa using this
      clear hw
      by_cases hs : G k 0 < F 0
      · go_wp2_with fail
        go_quiet (fail)
        go_wp2
        go_roundw
        case rel => exact ⟨k + 1, by omega, by go_num, fun i hi => by
          by_cases h2 : i = k
          · subst h2; exact hs
          · exact P.out i (by omega), b1.keep ((Ext.refl wr).drewN _), x1.drewN _⟩
        case measure => simp [intOf]; omega
      · by_cases he : G k 0 = F 0
        · have hb : (G k 0 == F 0) = true := by simp [he]
          have HE := Lib.hid he
          clear he
          go_wp2_with fail
          go_quiet (fail)
          have b2 := b1.keep ((Ext.refl wr).drewN nq)
          have x2 := x1.drewN nq
          generalize World.drewN wr nq = W2 at b2 x2 ⊢
          have d2 : W2.cell? ⟨w.heap.size, 0, none⟩ = some (.int .i64 (F 0)) := b2.cell 0
          have c2 : W2.cell? ⟨g, k * 9, none⟩ = some (.int .i64 (G k 0)) := by
            rcases h.keep x2 with hw | ⟨b, off, hb, _, hcell⟩
            · omega
            · cases hb
              have := hcell k hlt 0 (by omega)
              simpa using this
          clear d0 c0 b1 x1
          go_wp2_with fail
          go_quiet (fail)
          have b3 := b2.keep ((Ext.refl W2).drewN nq)
          have x3 := x2.drewN nq
          generalize World.drewN W2 nq = W3 at b3 x3 ⊢
          have h3 := h.keep x3
          clear d2 c2 b2 x2 h hb hs
          have hB3 := b3.lt
          have L : (W3.alloc (.cells #[] 41)).ownsRow (w.heap.size + 1) 41 9 (.slice (some ⟨W3.heap.size, 0, none⟩) 0 0) 0 [] := World.ownsRow_lit (w := W3) (base := w.heap.size + 1) (e := 41) (size := 9) #[] 0 hB3 (by decide) rfl
          have N3 : ∀ j u, (flat n G)[j]? = some u → (W3.alloc (.cells #[] 41)).cell? ⟨g, j, none⟩ = some u := by
            intro j u hj
            rcases h3.keep ((Ext.refl W3).alloc (.cells #[] 41)) with hw | ⟨b, off, hb, _, hcell⟩
            · omega
            · cases hb
              have hj9 : j < n * 9 := by have := (List.getElem?_eq_some_iff.1 hj).1; rwa [flat_len] at this
              have := hcell (j / 9) (by omega) (j % 9) (by omega)
              rw [Nat.zero_add, show j / 9 * 9 + j % 9 = j by omega] at this
              rw [this, ← hj, flat_get n G hj9]
          have N4 := Lib.hid N3
          clear N3
          go_wp2_with (at_builtin; refine wpList_append_lies _ rfl _ _ 25 rfl (w.heap.size + 1) 41 i0 (whV fun _ => 0) 9 72 Try.underlying25 hi hz0 hz1 hz2 rfl (by decide) _ _ _ rfl L ⟨g, 0, none⟩ n cap (flat n G) rfl (flat_len _ _) ?c1 ?c2 ?c3 ?c4 ?c5 ?c6 (W3.heap.size + 1) ?c7 ?_)
          case c1 => exact fun j u hj => by rw [addr_add, Nat.zero_add]; exact N4.out j u hj
          case c2 => intro v hv; simp [flat] at hv; obtain ⟨_, _, rfl⟩ := hv; rfl
          case c3 => omega
          case c4 => unfold maxLen; omega
          case c5 => omega
          case c6 => simp; omega
          case c7 => simp
          intro g7 cap7 W4 hown hgrow hat hlt7
          have L0 : OwnW (W3.alloc (.cells #[] 41)) (w.heap.size + 1) (.slice (some ⟨W3.heap.size, 0, none⟩) 0 0) 0 (fun _ _ => 0) := L
          obtain ⟨q, hq, X4⟩ := grownW L0 hgrow (by simp; omega)
          have b4 := (b3.alloc (.cells #[] 41)).keepB X4 (by omega)
          have h4 := (h3.keep ((Ext.refl W3).alloc (.cells #[] 41))).keepB X4 (.inr fun b off e => by cases e; omega)
          have y4 := X4.ext (x3.alloc (.cells #[] 41)) (by omega)
          have hown2 : OwnW W4 (w.heap.size + 1) (.slice (some ⟨g7, 0, none⟩) n cap7) n G := by
            exact hown
          clear hown hgrow hat L L0 N4 X4 b3 h3 x3
          have hg7 : w.heap.size + 1 ≤ g7 := (World.ownsRow.lt hown2 g7 rfl).1
          obtain ⟨c0, c1, c2, c3, c4, c5, c6, c7, c8⟩ : _ ∧ _ ∧ _ ∧ _ ∧ _ ∧ _ ∧ _ ∧ _ ∧ _ := cells8 (w := W4) (b := g) (o := k * 9) (F := G k) (by
            rcases h4 with hw | ⟨b, off, hb, _, hcell⟩
            · omega
            · cases hb
              exact fun c hc => by have := hcell k hlt c hc; rwa [Nat.zero_add] at this)
          have e1 : W4.cell? ⟨w.heap.size, 1, none⟩ = some (.int .i64 (F 1)) := b4.cell 1
          have e2 : W4.cell? ⟨w.heap.size, 2, none⟩ = some (.int .i64 (F 2)) := b4.cell 2
          have e3 : W4.cell? ⟨w.heap.size, 3, none⟩ = some (.int .i64 (F 3)) := b4.cell 3
          have e4 : W4.cell? ⟨w.heap.size, 4, none⟩ = some (.int .i64 (F 4)) := b4.cell 4
          have e5 : W4.cell? ⟨w.heap.size, 5, none⟩ = some (.int .i64 (F 5)) := b4.cell 5
          have e6 : W4.cell? ⟨w.heap.size, 6, none⟩ = some (.int .i64 (F 6)) := b4.cell 6
          have e7 : W4.cell? ⟨w.heap.size, 7, none⟩ = some (.int .i64 (F 7)) := b4.cell 7
          have e8 : W4.cell? ⟨w.heap.size, 8, none⟩ = some (.int .i64 (F 8)) := b4.cell 8
          have H1 := Lib.hid (fun j (hj : j < 8) => (show -1000000000000 ≤ tl (G k) j ∧ tl (G k) j ≤ 1000000000000 by have := cycOk_bd (hG k hlt) j hj; omega))
          have H2 := Lib.hid (fun j (hj : j < 8) => (show -1000000000000 ≤ 1 * tl F j ∧ 1 * tl F j ≤ 1000000000000 by have := cycOk_bd hF j hj; omega))
          have hgl : g < W4.heap.size := by have := y4.size; omega
          have hbl : w.heap.size < W4.heap.size := b4.lt
          have hg7l : g7 < W4.heap.size := (World.ownsRow.lt hown2 g7 rfl).2
          clear hG hF hi hz0 hz1 hz2
          go_wp2_with fail
          go_region_with (go_at_call 67; ((refine (l2Sum_any (tl (G k)) (tl F) 1 _ H1.out H2.out).mono ?_); rintro e w5 ⟨rfl, hx5⟩; have o5 := hown2.keep ((Ext.drew (Ext.refl _)).trans hx5); obtain ⟨f0, f1, f2, f3, f4, f5, f6, f7, f8⟩ := o5.cells hlt; have fz := o5.frozenAt))
          all_goals
            have y5 := y4.trans ((Ext.drew (Ext.refl _)).trans hx5)
            obtain ⟨o6, z6⟩ := o5.put8 hlt (fun j => tl (G k) j + tl F j)
            have y6 := z6.ext y5 (by omega)
            generalize World.setCell _ _ _ = W6 at o6 z6 y6 ⊢
            clear f0 f1 f2 f3 f4 f5 f6 f7 f8 fz o5 hx5 z6 y5 y4 b4 h4 hown2
            have o7 : OwnW W6 (w.heap.size + 1) (.slice (some ⟨g7, 0, none⟩) n cap7) n (fun j => if j = k then addW (G k) F else G j) := OwnW.congr o6 (fun i hi c hc => by
              by_cases h1 : i = k
              · subst h1
                simp only [if_true, consF, addW]
                by_cases h2 : c = 0
                · rw [if_pos h2, if_pos h2]
                · rw [if_neg h2, if_neg h2]; show G i (c - 1 + 1) + F (c - 1 + 1) = _; rw [show c - 1 + 1 = c by omega]
              · simp only [if_neg h1])
            obtain ⟨f0, f1, f2, f3, f4, f5, f6, f7, f8⟩ := o7.cells hlt
            simp only [if_true] at f0 f1 f2 f3 f4 f5 f6 f7 f8
            clear c0 c1 c2 c3 c4 c5 c6 c7 c8 e1 e2 e3 e4 e5 e6 e7 e8 H1 H2 o6
            generalize hA : addW (G k) F = A at f0 f1 f2 f3 f4 f5 f6 f7 f8
            have HA := Lib.hid hA
            clear hA
            go_wp2_with fail
            refine (sCycValid_any (tl A) _).mono ?_
            rintro e w7 ⟨rfl, x7⟩
            rw [← HA.out]
            clear f0 f1 f2 f3 f4 f5 f6 f7 f8
            go_wp2_with fail
            go_ret2
            exact ⟨_, k, by simp, by omega, P.out, y6.trans x7, .inl ⟨hlt, HE.out, rfl, (o7.keep x7).mono (by omega)⟩⟩
        · have hb : (G k 0 == F 0) = false := by simp [he]
          have hgt : F 0 < G k 0 := by omega
          go_wp2_with fail
          go_quiet (fail)
          have b2 := b1.keep ((Ext.refl wr).drewN nq)
          have x2 := x1.drewN nq
          generalize World.drewN wr nq = W2 at b2 x2 ⊢
          have d2 : W2.cell? ⟨w.heap.size, 0, none⟩ = some (.int .i64 (F 0)) := b2.cell 0
          have c2 : W2.cell? ⟨g, k * 9, none⟩ = some (.int .i64 (G k 0)) := by
            rcases h.keep x2 with hw | ⟨b, off, hb, _, hcell⟩
            · omega
            · cases hb
              have := hcell k hlt 0 (by omega)
              simpa using this
          clear d0 c0 b1 x1
          go_wp2_with fail
          go_quiet (fail)
          have b3 := b2.keep ((Ext.refl W2).drewN nq)
          have x3 := x2.drewN nq
          generalize World.drewN W2 nq = W3 at b3 x3 ⊢
          have h3 := h.keep x3
          clear d2 c2 b2 x2 h hb hs he
          have hB3 := b3.lt
          have e0 : W3.cell? ⟨w.heap.size, 0, none⟩ = some (.int .i64 (F 0)) := b3.cell 0
          have e1 : W3.cell? ⟨w.heap.size, 1, none⟩ = some (.int .i64 (F 1)) := b3.cell 1
          have e2 : W3.cell? ⟨w.heap.size, 2, none⟩ = some (.int .i64 (F 2)) := b3.cell 2
          have e3 : W3.cell? ⟨w.heap.size, 3, none⟩ = some (.int .i64 (F 3)) := b3.cell 3
          have e4 : W3.cell? ⟨w.heap.size, 4, none⟩ = some (.int .i64 (F 4)) := b3.cell 4
          have e5 : W3.cell? ⟨w.heap.size, 5, none⟩ = some (.int .i64 (F 5)) := b3.cell 5
          have e6 : W3.cell? ⟨w.heap.size, 6, none⟩ = some (.int .i64 (F 6)) := b3.cell 6
          have e7 : W3.cell? ⟨w.heap.size, 7, none⟩ = some (.int .i64 (F 7)) := b3.cell 7
          have e8 : W3.cell? ⟨w.heap.size, 8, none⟩ = some (.int .i64 (F 8)) := b3.cell 8
          have L1 := Lib.hid (show (W3.alloc (.cells #[] 41)).drew.ownsRow (w.heap.size + 1) 41 9 (.slice (some ⟨W3.heap.size, 0, none⟩) 0 0) 0 [] from World.ownsRow_lit (w := W3) (base := w.heap.size + 1) (e := 41) (size := 9) #[] 0 hB3 (by decide) rfl)
          have L2 := Lib.hid (show ((W3.alloc (.cells #[] 41)).alloc (.cells (wh9 F).toArray 41)).drew.ownsRow (w.heap.size + 1) 41 9 (.slice (some ⟨W3.heap.size, 0, none⟩) 0 0) 0 [] from World.ownsRow.alloc L1.out (.cells (wh9 F).toArray 41))
          have L3 := Lib.hid (show ((W3.alloc (.cells (wh9 F).toArray 41)).alloc (.cells #[] 41)).drew.ownsRow (w.heap.size + 1) 41 9 (.slice (some ⟨W3.heap.size + 1, 0, none⟩) 0 0) 0 [] from by
            have := World.ownsRow_lit (w := W3.alloc (.cells (wh9 F).toArray 41)) (base := w.heap.size + 1) (e := 41) (size := 9) #[] 0 (by simp; omega) (by decide) rfl
            have e : (W3.alloc (.cells (wh9 F).toArray 41)).heap.size = W3.heap.size + 1 := by simp
            rw [e] at this
            exact this)
          have i1 : (0 : Int) ≤ (k : Int) := Int.natCast_nonneg _
          have i2 : (k : Int) ≤ (cap : Int) := by omega
          have i3 : (k : Int) ≤ (n : Int) := by omega
          have i4 : (n : Int) ≤ (cap : Int) := by omega
          have i5 : k ≤ cap := by omega
          have i6 : ¬ cap = k := by omega
          have i7 : ¬ (cap : Int) = (k : Int) := by omega
          have i8 : ¬ k = cap := by omega
          go_wp2_with fail
          go_region_held3 (fun w' => w'.cell? ⟨w.heap.size, 0, none⟩ = some (.int .i64 (F 0)) ∧ w'.cell? ⟨w.heap.size, 1, none⟩ = some (.int .i64 (F 1)) ∧ w'.cell? ⟨w.heap.size, 2, none⟩ = some (.int .i64 (F 2)) ∧ w'.cell? ⟨w.heap.size, 3, none⟩ = some (.int .i64 (F 3)) ∧ w'.cell? ⟨w.heap.size, 4, none⟩ = some (.int .i64 (F 4)) ∧ w'.cell? ⟨w.heap.size, 5, none⟩ = some (.int .i64 (F 5)) ∧ w'.cell? ⟨w.heap.size, 6, none⟩ = some (.int .i64 (F 6)) ∧ w'.cell? ⟨w.heap.size, 7, none⟩ = some (.int .i64 (F 7)) ∧ w'.cell? ⟨w.heap.size, 8, none⟩ = some (.int .i64 (F 8)))
            (first | go_keep | exact ⟨b74.cell 0, b74.cell 1, b74.cell 2, b74.cell 3, b74.cell 4, b74.cell 5, b74.cell 6, b74.cell 7, b74.cell 8⟩ | exact ⟨b71.cell 0, b71.cell 1, b71.cell 2, b71.cell 3, b71.cell 4, b71.cell 5, b71.cell 6, b71.cell 7, b71.cell 8⟩ | exact ⟨b67.cell 0, b67.cell 1, b67.cell 2, b67.cell 3, b67.cell 4, b67.cell 5, b67.cell 6, b67.cell 7, b67.cell 8⟩ | exact ⟨b64.cell 0, b64.cell 1, b64.cell 2, b64.cell 3, b64.cell 4, b64.cell 5, b64.cell 6, b64.cell 7, b64.cell 8⟩)
            (first | (go_at_call 36; ((refine (sCycValid_any (tl F) _).mono ?_); rintro e w74 ⟨rfl, x74⟩; have b74 := b71.keep x74; have o74 := o71.keep x74; have y74 := y71.trans x74)) | (refine step_append_w ?_ (.tmp 60) (.tmp 63) 25 ?_ (w.heap.size + 1) 41 i0 (whV fun _ => 0) 9 72 Try.underlying25 hi hz0 hz1 hz2 rfl (by decide) (.slice (some ⟨W3.heap.size, 0, none⟩) 0 0) (0) ([]) ?_ ?_ ⟨g, 0, none⟩ (k) (cap) (flat k G) ?_ (flat_len _ _) ?_ (one_flat _ _) ?_ ?_ ?_ ?_; (rfl); (rfl); (rfl); (exact L1.out); (rfl); (exact news0 (h3.keep (by repeat (first | exact Ext.refl _ | assumption | refine Ext.drew ?_ | refine Ext.alloc ?_ _ | refine Ext.trans ?_ (by assumption)))) hk); (unfold maxLen; omega); (omega); (first | (simp; omega) | omega); intro v64 w64 hown64 hgrow64 hnil64; have z64 : ExtB W3.heap.size _ w64 := grownE hgrow64; have h64 := (h3.keep (by repeat (first | exact Ext.refl _ | assumption | refine Ext.drew ?_ | refine Ext.alloc ?_ _ | refine Ext.trans ?_ (by assumption)))).keepB z64 (.inr fun b off e => by cases e; omega); have b64 := (b3.keep (by repeat (first | exact Ext.refl _ | assumption | refine Ext.drew ?_ | refine Ext.alloc ?_ _ | refine Ext.trans ?_ (by assumption)))).keepB z64 (by omega); have y64 := z64.ext (z := w) (x3.trans (by repeat (first | exact Ext.refl _ | assumption | refine Ext.drew ?_ | refine Ext.alloc ?_ _ | refine Ext.trans ?_ (by assumption)))) (by omega); have n64 := y64.size; have B64 := b64.lt; have o64 : OwnW w64 (w.heap.size + 1) v64 k G := (by have := hown64; rw [Nat.zero_add] at this; exact this); clear hown64 hgrow64) | (refine step_append_w ?_ (.tmp 60) (.tmp 63) 25 ?_ (w.heap.size + 1) 41 i0 (whV fun _ => 0) 9 72 Try.underlying25 hi hz0 hz1 hz2 rfl (by decide) (.slice (some ⟨W3.heap.size, 0, none⟩) 0 0) (0) ([]) ?_ ?_ ⟨g, 0, none⟩ (k) (cap) (flat k G) ?_ (flat_len _ _) ?_ (one_flat _ _) ?_ ?_ ?_ ?_; (rfl); (rfl); (rfl); (exact L2.out); (rfl); (exact news0 (h3.keep (by repeat (first | exact Ext.refl _ | assumption | refine Ext.drew ?_ | refine Ext.alloc ?_ _ | refine Ext.trans ?_ (by assumption)))) hk); (unfold maxLen; omega); (omega); (first | (simp; omega) | omega); intro v64 w64 hown64 hgrow64 hnil64; have z64 : ExtB W3.heap.size _ w64 := grownE hgrow64; have h64 := (h3.keep (by repeat (first | exact Ext.refl _ | assumption | refine Ext.drew ?_ | refine Ext.alloc ?_ _ | refine Ext.trans ?_ (by assumption)))).keepB z64 (.inr fun b off e => by cases e; omega); have b64 := (b3.keep (by repeat (first | exact Ext.refl _ | assumption | refine Ext.drew ?_ | refine Ext.alloc ?_ _ | refine Ext.trans ?_ (by assumption)))).keepB z64 (by omega); have y64 := z64.ext (z := w) (x3.trans (by repeat (first | exact Ext.refl _ | assumption | refine Ext.drew ?_ | refine Ext.alloc ?_ _ | refine Ext.trans ?_ (by assumption)))) (by omega); have n64 := y64.size; have B64 := b64.lt; have o64 : OwnW w64 (w.heap.size + 1) v64 k G := (by have := hown64; rw [Nat.zero_add] at this; exact this); have r64 : Blk w64 (W3.heap.size + 1) (wh9 F) := (Blk.keep (Blk.new1 W3 (.cells #[] 41) (wh9 F) 41) (Ext.drew (Ext.refl _))).keepB z64 (by omega); clear hown64 hgrow64) | (refine step_append_w ?_ (.tmp 60) (.tmp 63) 25 ?_ (w.heap.size + 1) 41 i0 (whV fun _ => 0) 9 72 Try.underlying25 hi hz0 hz1 hz2 rfl (by decide) (.slice (some ⟨W3.heap.size + 1, 0, none⟩) 0 0) (0) ([]) ?_ ?_ ⟨g, 0, none⟩ (k) (cap) (flat k G) ?_ (flat_len _ _) ?_ (one_flat _ _) ?_ ?_ ?_ ?_; (rfl); (rfl); (rfl); (exact L3.out); (rfl); (exact news0 (h3.keep (by repeat (first | exact Ext.refl _ | assumption | refine Ext.drew ?_ | refine Ext.alloc ?_ _ | refine Ext.trans ?_ (by assumption)))) hk); (unfold maxLen; omega); (omega); (first | (simp; omega) | omega); intro v64 w64 hown64 hgrow64 hnil64; have z64 : ExtB (W3.heap.size + 1) _ w64 := grownE hgrow64; have h64 := (h3.keep (by repeat (first | exact Ext.refl _ | assumption | refine Ext.drew ?_ | refine Ext.alloc ?_ _ | refine Ext.trans ?_ (by assumption)))).keepB z64 (.inr fun b off e => by cases e; omega); have b64 := (b3.keep (by repeat (first | exact Ext.refl _ | assumption | refine Ext.drew ?_ | refine Ext.alloc ?_ _ | refine Ext.trans ?_ (by assumption)))).keepB z64 (by omega); have y64 := z64.ext (z := w) (x3.trans (by repeat (first | exact Ext.refl _ | assumption | refine Ext.drew ?_ | refine Ext.alloc ?_ _ | refine Ext.trans ?_ (by assumption)))) (by omega); have n64 := y64.size; have B64 := b64.lt; have o64 : OwnW w64 (w.heap.size + 1) v64 k G := (by have := hown64; rw [Nat.zero_add] at this; exact this); have r64 : Blk w64 W3.heap.size (wh9 F) := (Blk.keep ((Blk.new W3 (wh9 F) 41).alloc (.cells #[] 41)) (Ext.drew (Ext.refl _))).keepB z64 (by omega); clear hown64 hgrow64) | (refine step_append_w ?_ (.tmp 64) (.tmp 66) 25 ?_ (w.heap.size + 1) 41 i0 (whV fun _ => 0) 9 72 Try.underlying25 hi hz0 hz1 hz2 rfl (by decide) (v64) (k) (flat k G) ?_ ?_ ⟨w64.heap.size, 0, none⟩ (1) (1) (wh9 F) ?_ (rfl) ?_ (one_wh9 _) ?_ ?_ ?_ ?_; (rfl); (rfl); (rfl); (first | exact o64 | exact o64.keep (by repeat (first | exact Ext.refl _ | assumption | refine Ext.drew ?_ | refine Ext.alloc ?_ _ | refine Ext.trans ?_ (by assumption)))); (rfl); (exact newsB (Blk.keep (Blk.new w64 (wh9 F) 41) (Ext.refl _))); (unfold maxLen; omega); (omega); (first | (simp; omega) | omega); intro v67 w67 hown67 hgrow67 hnil67; obtain ⟨q67, hq67, z67⟩ : ∃ q, w.heap.size + 1 ≤ q ∧ ExtB q (w64.alloc (.cells (wh9 F).toArray 41)) w67 := grownW (G := G) (n := k) (o64.keep (by repeat (first | exact Ext.refl _ | assumption | refine Ext.drew ?_ | refine Ext.alloc ?_ _ | refine Ext.trans ?_ (by assumption)))) hgrow67 (by first | (simp; omega) | omega); have h67 := (h64.keep (by repeat (first | exact Ext.refl _ | assumption | refine Ext.drew ?_ | refine Ext.alloc ?_ _ | refine Ext.trans ?_ (by assumption)))).keepB z67 (.inr fun b off e => by cases e; omega); have b67 := (b64.keep (by repeat (first | exact Ext.refl _ | assumption | refine Ext.drew ?_ | refine Ext.alloc ?_ _ | refine Ext.trans ?_ (by assumption)))).keepB z67 (by omega); have y67 := z67.ext (z := w) (y64.trans (by repeat (first | exact Ext.refl _ | assumption | refine Ext.drew ?_ | refine Ext.alloc ?_ _ | refine Ext.trans ?_ (by assumption)))) (by omega); have n67 := y67.size; have B67 := b67.lt; have o67 : OwnW w67 (w.heap.size + 1) v67 (k + 1) (fun i => if i < k then G i else F) := (by unfold OwnW; rw [← flat_app k 1 G (fun _ => F), ← flat_one]; exact hown67); clear hown67 hgrow67) | (refine step_append_w ?_ (.tmp 64) (.tmp 66) 25 ?_ (w.heap.size + 1) 41 i0 (whV fun _ => 0) 9 72 Try.underlying25 hi hz0 hz1 hz2 rfl (by decide) (v64) (k) (flat k G) ?_ ?_ ⟨w64.heap.size, 0, none⟩ (1) (1) (wh9 F) ?_ (rfl) ?_ (one_wh9 _) ?_ ?_ ?_ ?_; (rfl); (rfl); (rfl); (first | exact o64 | exact o64.keep (by repeat (first | exact Ext.refl _ | assumption | refine Ext.drew ?_ | refine Ext.alloc ?_ _ | refine Ext.trans ?_ (by assumption)))); (rfl); (exact newsB (Blk.keep (Blk.new w64 (wh9 F) 41) (Ext.drew (Ext.refl _)))); (unfold maxLen; omega); (omega); (first | (simp; omega) | omega); intro v67 w67 hown67 hgrow67 hnil67; obtain ⟨q67, hq67, z67⟩ : ∃ q, w.heap.size + 1 ≤ q ∧ ExtB q (w64.alloc (.cells (wh9 F).toArray 41)).drew w67 := grownW (G := G) (n := k) (o64.keep (by repeat (first | exact Ext.refl _ | assumption | refine Ext.drew ?_ | refine Ext.alloc ?_ _ | refine Ext.trans ?_ (by assumption)))) hgrow67 (by first | (simp; omega) | omega); have h67 := (h64.keep (by repeat (first | exact Ext.refl _ | assumption | refine Ext.drew ?_ | refine Ext.alloc ?_ _ | refine Ext.trans ?_ (by assumption)))).keepB z67 (.inr fun b off e => by cases e; omega); have b67 := (b64.keep (by repeat (first | exact Ext.refl _ | assumption | refine Ext.drew ?_ | refine Ext.alloc ?_ _ | refine Ext.trans ?_ (by assumption)))).keepB z67 (by omega); have y67 := z67.ext (z := w) (y64.trans (by repeat (first | exact Ext.refl _ | assumption | refine Ext.drew ?_ | refine Ext.alloc ?_ _ | refine Ext.trans ?_ (by assumption)))) (by omega); have n67 := y67.size; have B67 := b67.lt; have o67 : OwnW w67 (w.heap.size + 1) v67 (k + 1) (fun i => if i < k then G i else F) := (by unfold OwnW; rw [← flat_app k 1 G (fun _ => F), ← flat_one]; exact hown67); clear hown67 hgrow67) | (refine step_append_w ?_ (.tmp 64) (.tmp 66) 25 ?_ (w.heap.size + 1) 41 i0 (whV fun _ => 0) 9 72 Try.underlying25 hi hz0 hz1 hz2 rfl (by decide) (v64) (k) (flat k G) ?_ ?_ ⟨W3.heap.size + 1, 0, none⟩ (1) (1) (wh9 F) ?_ (rfl) ?_ (one_wh9 _) ?_ ?_ ?_ ?_; (rfl); (rfl); (rfl); (first | exact o64 | exact o64.keep (by repeat (first | exact Ext.refl _ | assumption | refine Ext.drew ?_ | refine Ext.alloc ?_ _ | refine Ext.trans ?_ (by assumption)))); (rfl); (exact newsB r64); (unfold maxLen; omega); (omega); (first | (simp; omega) | omega); intro v67 w67 hown67 hgrow67 hnil67; obtain ⟨q67, hq67, z67⟩ : ∃ q, w.heap.size + 1 ≤ q ∧ ExtB q w64 w67 := grownW (G := G) (n := k) (o64.keep (by repeat (first | exact Ext.refl _ | assumption | refine Ext.drew ?_ | refine Ext.alloc ?_ _ | refine Ext.trans ?_ (by assumption)))) hgrow67 (by first | (simp; omega) | omega); have h67 := (h64.keep (by repeat (first | exact Ext.refl _ | assumption | refine Ext.drew ?_ | refine Ext.alloc ?_ _ | refine Ext.trans ?_ (by assumption)))).keepB z67 (.inr fun b off e => by cases e; omega); have b67 := (b64.keep (by repeat (first | exact Ext.refl _ | assumption | refine Ext.drew ?_ | refine Ext.alloc ?_ _ | refine Ext.trans ?_ (by assumption)))).keepB z67 (by omega); have y67 := z67.ext (z := w) (y64.trans (by repeat (first | exact Ext.refl _ | assumption | refine Ext.drew ?_ | refine Ext.alloc ?_ _ | refine Ext.trans ?_ (by assumption)))) (by omega); have n67 := y67.size; have B67 := b67.lt; have o67 : OwnW w67 (w.heap.size + 1) v67 (k + 1) (fun i => if i < k then G i else F) := (by unfold OwnW; rw [← flat_app k 1 G (fun _ => F), ← flat_one]; exact hown67); clear hown67 hgrow67) | (refine step_append_w ?_ (.tmp 64) (.tmp 66) 25 ?_ (w.heap.size + 1) 41 i0 (whV fun _ => 0) 9 72 Try.underlying25 hi hz0 hz1 hz2 rfl (by decide) (v64) (k) (flat k G) ?_ ?_ ⟨W3.heap.size, 0, none⟩ (1) (1) (wh9 F) ?_ (rfl) ?_ (one_wh9 _) ?_ ?_ ?_ ?_; (rfl); (rfl); (rfl); (first | exact o64 | exact o64.keep (by repeat (first | exact Ext.refl _ | assumption | refine Ext.drew ?_ | refine Ext.alloc ?_ _ | refine Ext.trans ?_ (by assumption)))); (rfl); (exact newsB r64); (unfold maxLen; omega); (omega); (first | (simp; omega) | omega); intro v67 w67 hown67 hgrow67 hnil67; obtain ⟨q67, hq67, z67⟩ : ∃ q, w.heap.size + 1 ≤ q ∧ ExtB q w64 w67 := grownW (G := G) (n := k) (o64.keep (by repeat (first | exact Ext.refl _ | assumption | refine Ext.drew ?_ | refine Ext.alloc ?_ _ | refine Ext.trans ?_ (by assumption)))) hgrow67 (by first | (simp; omega) | omega); have h67 := (h64.keep (by repeat (first | exact Ext.refl _ | assumption | refine Ext.drew ?_ | refine Ext.alloc ?_ _ | refine Ext.trans ?_ (by assumption)))).keepB z67 (.inr fun b off e => by cases e; omega); have b67 := (b64.keep (by repeat (first | exact Ext.refl _ | assumption | refine Ext.drew ?_ | refine Ext.alloc ?_ _ | refine Ext.trans ?_ (by assumption)))).keepB z67 (by omega); have y67 := z67.ext (z := w) (y64.trans (by repeat (first | exact Ext.refl _ | assumption | refine Ext.drew ?_ | refine Ext.alloc ?_ _ | refine Ext.trans ?_ (by assumption)))) (by omega); have n67 := y67.size; have B67 := b67.lt; have o67 : OwnW w67 (w.heap.size + 1) v67 (k + 1) (fun i => if i < k then G i else F) := (by unfold OwnW; rw [← flat_app k 1 G (fun _ => F), ← flat_one]; exact hown67); clear hown67 hgrow67) | (refine step_append_w ?_ (.tmp 67) (.tmp 70) 25 ?_ (w.heap.size + 1) 41 i0 (whV fun _ => 0) 9 72 Try.underlying25 hi hz0 hz1 hz2 rfl (by decide) (v67) (k + 1) (flat (k + 1) fun i => if i < k then G i else F) ?_ ?_ ⟨g, k * 9, none⟩ (n - k) (cap - k) (flat (n - k) fun i => G (k + i)) ?_ (flat_len _ _) ?_ (one_flat _ _) ?_ ?_ ?_ ?_; (rfl); (rfl); (rfl); (exact o67); (first | rfl | (simp [Act.eval]; omega)); (exact newsW h67 (by omega)); (unfold maxLen; omega); (omega); (first | (simp; omega) | omega); intro v71 w71 hown71 hgrow71 hnil71; obtain ⟨q71, hq71, z71⟩ : ∃ q, w.heap.size + 1 ≤ q ∧ ExtB q w67 w71 := grownW o67 hgrow71 (by omega); have b71 := b67.keepB z71 (by omega); have y71 := z71.ext (z := w) y67 (by omega); have o71 : OwnW w71 (w.heap.size + 1) v71 (k + 1 + (n - k)) (fun i => if i < k + 1 then (if i < k then G i else F) else G (k + (i - (k + 1)))) := (by unfold OwnW; rw [← flat_app (k + 1) (n - k) (fun i => if i < k then G i else F) (fun i => G (k + i))]; exact hown71); clear hown71 hgrow71))
          all_goals
            have hn' : k + 1 + (n - k) = n + 1 := by omega
            rw [hn'] at o74
            have o75 : OwnW w74 w.heap.size v71 (n + 1) (fun j => if j < k then G j else if j = k then F else G (j - 1)) := OwnW.congr (o74.mono (by omega)) (fun i hi c hc => by
              by_cases h1 : i < k
              · simp only [if_pos h1, if_pos (show i < k + 1 by omega)]
              · by_cases h2 : i = k
                · subst h2; simp
                · simp only [if_neg h1, if_neg h2, if_neg (show ¬ i < k + 1 by omega), show k + (i - (k + 1)) = i - 1 by omega])
            have hnn : v71 ≠ .slice none 0 0 := fun e => by have := (hnil67.1 (hnil71.1 e).1).2; omega
            clear o74 o71 o67 o64 hnil71 hnil67 hnil64 b74 b71 b67 b64 h67 h64 L1 L2 L3 e0 e1 e2 e3 e4 e5 e6 e7 e8 b3 h3
            go_wp2
            go_ret2
            exact ⟨v71, k, hnn, by omega, P.out, y74, .inr ⟨fun _ => hgt, by rw [hF]; rfl, o75⟩⟩
    · go_wp2_with fail
      go_quiet (fail)
      have b2 := b1.keep ((Ext.refl wr).drewN nq)
      have x2 := x1.drewN nq
      generalize World.drewN wr nq = W2 at b2 x2 ⊢
      have d2 : W2.cell? ⟨w.heap.size, 0, none⟩ = some (.int .i64 (F 0)) := b2.cell 0
      clear d0 b1 x1 hw
      go_wp2_with fail
      go_quiet (fail)
      have b3 := b2.keep ((Ext.refl W2).drewN nq)
      have x3 := x2.drewN nq
      generalize World.drewN W2 nq = W3 at b3 x3 ⊢
      have h3 := h.keep x3
      clear d2 b2 x2 h
      by_cases hcap : k = cap
      · subst hcap
        have hB3 := b3.lt
        have e0 : W3.cell? ⟨w.heap.size, 0, none⟩ = some (.int .i64 (F 0)) := b3.cell 0
        have e1 : W3.cell? ⟨w.heap.size, 1, none⟩ = some (.int .i64 (F 1)) := b3.cell 1
        have e2 : W3.cell? ⟨w.heap.size, 2, none⟩ = some (.int .i64 (F 2)) := b3.cell 2
        have e3 : W3.cell? ⟨w.heap.size, 3, none⟩ = some (.int .i64 (F 3)) := b3.cell 3
        have e4 : W3.cell? ⟨w.heap.size, 4, none⟩ = some (.int .i64 (F 4)) := b3.cell 4
        have e5 : W3.cell? ⟨w.heap.size, 5, none⟩ = some (.int .i64 (F 5)) := b3.cell 5
        have e6 : W3.cell? ⟨w.heap.size, 6, none⟩ = some (.int .i64 (F 6)) := b3.cell 6
        have e7 : W3.cell? ⟨w.heap.size, 7, none⟩ = some (.int .i64 (F 7)) := b3.cell 7
        have e8 : W3.cell? ⟨w.heap.size, 8, none⟩ = some (.int .i64 (F 8)) := b3.cell 8
        have L1 := Lib.hid (show (W3.alloc (.cells #[] 41)).drew.ownsRow (w.heap.size + 1) 41 9 (.slice (some ⟨W3.heap.size, 0, none⟩) 0 0) 0 [] from World.ownsRow_lit (w := W3) (base := w.heap.size + 1) (e := 41) (size := 9) #[] 0 hB3 (by decide) rfl)
        have L2 := Lib.hid (show ((W3.alloc (.cells #[] 41)).alloc (.cells (wh9 F).toArray 41)).drew.ownsRow (w.heap.size + 1) 41 9 (.slice (some ⟨W3.heap.size, 0, none⟩) 0 0) 0 [] from World.ownsRow.alloc L1.out (.cells (wh9 F).toArray 41))
        have L3 := Lib.hid (show ((W3.alloc (.cells (wh9 F).toArray 41)).alloc (.cells #[] 41)).drew.ownsRow (w.heap.size + 1) 41 9 (.slice (some ⟨W3.heap.size + 1, 0, none⟩) 0 0) 0 [] from by
          have := World.ownsRow_lit (w := W3.alloc (.cells (wh9 F).toArray 41)) (base := w.heap.size + 1) (e := 41) (size := 9) #[] 0 (by simp; omega) (by decide) rfl
          have e : (W3.alloc (.cells (wh9 F).toArray 41)).heap.size = W3.heap.size + 1 := by simp
          rw [e] at this
          exact this)
        have i1 : (0 : Int) ≤ (k : Int) := Int.natCast_nonneg _
        have i2 : (k : Int) ≤ (k : Int) := by omega
        have i3 : (k : Int) ≤ (n : Int) := by omega
        have i4 : (n : Int) ≤ (k : Int) := by omega
        have i5 : k ≤ k := by omega

        go_wp2_with fail
        go_region_held3 (fun w' => w'.cell? ⟨w.heap.size, 0, none⟩ = some (.int .i64 (F 0)) ∧ w'.cell? ⟨w.heap.size, 1, none⟩ = some (.int .i64 (F 1)) ∧ w'.cell? ⟨w.heap.size, 2, none⟩ = some (.int .i64 (F 2)) ∧ w'.cell? ⟨w.heap.size, 3, none⟩ = some (.int .i64 (F 3)) ∧ w'.cell? ⟨w.heap.size, 4, none⟩ = some (.int .i64 (F 4)) ∧ w'.cell? ⟨w.heap.size, 5, none⟩ = some (.int .i64 (F 5)) ∧ w'.cell? ⟨w.heap.size, 6, none⟩ = some (.int .i64 (F 6)) ∧ w'.cell? ⟨w.heap.size, 7, none⟩ = some (.int .i64 (F 7)) ∧ w'.cell? ⟨w.heap.size, 8, none⟩ = some (.int .i64 (F 8)))
          (first | go_keep | exact ⟨b74.cell 0, b74.cell 1, b74.cell 2, b74.cell 3, b74.cell 4, b74.cell 5, b74.cell 6, b74.cell 7, b74.cell 8⟩ | exact ⟨b71.cell 0, b71.cell 1, b71.cell 2, b71.cell 3, b71.cell 4, b71.cell 5, b71.cell 6, b71.cell 7, b71.cell 8⟩ | exact ⟨b67.cell 0, b67.cell 1, b67.cell 2, b67.cell 3, b67.cell 4, b67.cell 5, b67.cell 6, b67.cell 7, b67.cell 8⟩ | exact ⟨b64.cell 0, b64.cell 1, b64.cell 2, b64.cell 3, b64.cell 4, b64.cell 5, b64.cell 6, b64.cell 7, b64.cell 8⟩)
          (first | (go_at_call 36; ((refine (sCycValid_any (tl F) _).mono ?_); rintro e w74 ⟨rfl, x74⟩; have b74 := b71.keep x74; have o74 := o71.keep x74; have y74 := y71.trans x74)) | (refine step_append_w ?_ (.tmp 60) (.tmp 63) 25 ?_ (w.heap.size + 1) 41 i0 (whV fun _ => 0) 9 72 Try.underlying25 hi hz0 hz1 hz2 rfl (by decide) (.slice (some ⟨W3.heap.size, 0, none⟩) 0 0) (0) ([]) ?_ ?_ ⟨g, 0, none⟩ (k) (k) (flat k G) ?_ (flat_len _ _) ?_ (one_flat _ _) ?_ ?_ ?_ ?_; (rfl); (rfl); (rfl); (exact L1.out); (rfl); (exact news0 (h3.keep (by repeat (first | exact Ext.refl _ | assumption | refine Ext.drew ?_ | refine Ext.alloc ?_ _ | refine Ext.trans ?_ (by assumption)))) hk); (unfold maxLen; omega); (omega); (first | (simp; omega) | omega); intro v64 w64 hown64 hgrow64 hnil64; have z64 : ExtB W3.heap.size _ w64 := grownE hgrow64; have h64 := (h3.keep (by repeat (first | exact Ext.refl _ | assumption | refine Ext.drew ?_ | refine Ext.alloc ?_ _ | refine Ext.trans ?_ (by assumption)))).keepB z64 (.inr fun b off e => by cases e; omega); have b64 := (b3.keep (by repeat (first | exact Ext.refl _ | assumption | refine Ext.drew ?_ | refine Ext.alloc ?_ _ | refine Ext.trans ?_ (by assumption)))).keepB z64 (by omega); have y64 := z64.ext (z := w) (x3.trans (by repeat (first | exact Ext.refl _ | assumption | refine Ext.drew ?_ | refine Ext.alloc ?_ _ | refine Ext.trans ?_ (by assumption)))) (by omega); have n64 := y64.size; have B64 := b64.lt; have o64 : OwnW w64 (w.heap.size + 1) v64 k G := (by have := hown64; rw [Nat.zero_add] at this; exact this); clear hown64 hgrow64) | (refine step_append_w ?_ (.tmp 60) (.tmp 63) 25 ?_ (w.heap.size + 1) 41 i0 (whV fun _ => 0) 9 72 Try.underlying25 hi hz0 hz1 hz2 rfl (by decide) (.slice (some ⟨W3.heap.size, 0, none⟩) 0 0) (0) ([]) ?_ ?_ ⟨g, 0, none⟩ (k) (k) (flat k G) ?_ (flat_len _ _) ?_ (one_flat _ _) ?_ ?_ ?_ ?_; (rfl); (rfl); (rfl); (exact L2.out); (rfl); (exact news0 (h3.keep (by repeat (first | exact Ext.refl _ | assumption | refine Ext.drew ?_ | refine Ext.alloc ?_ _ | refine Ext.trans ?_ (by assumption)))) hk); (unfold maxLen; omega); (omega); (first | (simp; omega) | omega); intro v64 w64 hown64 hgrow64 hnil64; have z64 : ExtB W3.heap.size _ w64 := grownE hgrow64; have h64 := (h3.keep (by repeat (first | exact Ext.refl _ | assumption | refine Ext.drew ?_ | refine Ext.alloc ?_ _ | refine Ext.trans ?_ (by assumption)))).keepB z64 (.inr fun b off e => by cases e; omega); have b64 := (b3.keep (by repeat (first | exact Ext.refl _ | assumption | refine Ext.drew ?_ | refine Ext.alloc ?_ _ | refine Ext.trans ?_ (by assumption)))).keepB z64 (by omega); have y64 := z64.ext (z := w) (x3.trans (by repeat (first | exact Ext.refl _ | assumption | refine Ext.drew ?_ | refine Ext.alloc ?_ _ | refine Ext.trans ?_ (by assumption)))) (by omega); have n64 := y64.size; have B64 := b64.lt; have o64 : OwnW w64 (w.heap.size + 1) v64 k G := (by have := hown64; rw [Nat.zero_add] at this; exact this); have r64 : Blk w64 (W3.heap.size + 1) (wh9 F) := (Blk.keep (Blk.new1 W3 (.cells #[] 41) (wh9 F) 41) (Ext.drew (Ext.refl _))).keepB z64 (by omega); clear hown64 hgrow64) | (refine step_append_w ?_ (.tmp 60) (.tmp 63) 25 ?_ (w.heap.size + 1) 41 i0 (whV fun _ => 0) 9 72 Try.underlying25 hi hz0 hz1 hz2 rfl (by decide) (.slice (some ⟨W3.heap.size + 1, 0, none⟩) 0 0) (0) ([]) ?_ ?_ ⟨g, 0, none⟩ (k) (k) (flat k G) ?_ (flat_len _ _) ?_ (one_flat _ _) ?_ ?_ ?_ ?_; (rfl); (rfl); (rfl); (exact L3.out); (rfl); (exact news0 (h3.keep (by repeat (first | exact Ext.refl _ | assumption | refine Ext.drew ?_ | refine Ext.alloc ?_ _ | refine Ext.trans ?_ (by assumption)))) hk); (unfold maxLen; omega); (omega); (first | (simp; omega) | omega); intro v64 w64 hown64 hgrow64 hnil64; have z64 : ExtB (W3.heap.size + 1) _ w64 := grownE hgrow64; have h64 := (h3.keep (by repeat (first | exact Ext.refl _ | assumption | refine Ext.drew ?_ | refine Ext.alloc ?_ _ | refine Ext.trans ?_ (by assumption)))).keepB z64 (.inr fun b off e => by cases e; omega); have b64 := (b3.keep (by repeat (first | exact Ext.refl _ | assumption | refine Ext.drew ?_ | refine Ext.alloc ?_ _ | refine Ext.trans ?_ (by assumption)))).keepB z64 (by omega); have y64 := z64.ext (z := w) (x3.trans (by repeat (first | exact Ext.refl _ | assumption | refine Ext.drew ?_ | refine Ext.alloc ?_ _ | refine Ext.trans ?_ (by assumption)))) (by omega); have n64 := y64.size; have B64 := b64.lt; have o64 : OwnW w64 (w.heap.size + 1) v64 k G := (by have := hown64; rw [Nat.zero_add] at this; exact this); have r64 : Blk w64 W3.heap.size (wh9 F) := (Blk.keep ((Blk.new W3 (wh9 F) 41).alloc (.cells #[] 41)) (Ext.drew (Ext.refl _))).keepB z64 (by omega); clear hown64 hgrow64) | (refine step_append_w ?_ (.tmp 64) (.tmp 66) 25 ?_ (w.heap.size + 1) 41 i0 (whV fun _ => 0) 9 72 Try.underlying25 hi hz0 hz1 hz2 rfl (by decide) (v64) (k) (flat k G) ?_ ?_ ⟨w64.heap.size, 0, none⟩ (1) (1) (wh9 F) ?_ (rfl) ?_ (one_wh9 _) ?_ ?_ ?_ ?_; (rfl); (rfl); (rfl); (first | exact o64 | exact o64.keep (by repeat (first | exact Ext.refl _ | assumption | refine Ext.drew ?_ | refine Ext.alloc ?_ _ | refine Ext.trans ?_ (by assumption)))); (rfl); (exact newsB (Blk.keep (Blk.new w64 (wh9 F) 41) (Ext.refl _))); (unfold maxLen; omega); (omega); (first | (simp; omega) | omega); intro v67 w67 hown67 hgrow67 hnil67; obtain ⟨q67, hq67, z67⟩ : ∃ q, w.heap.size + 1 ≤ q ∧ ExtB q (w64.alloc (.cells (wh9 F).toArray 41)) w67 := grownW (G := G) (n := k) (o64.keep (by repeat (first | exact Ext.refl _ | assumption | refine Ext.drew ?_ | refine Ext.alloc ?_ _ | refine Ext.trans ?_ (by assumption)))) hgrow67 (by first | (simp; omega) | omega); have h67 := (h64.keep (by repeat (first | exact Ext.refl _ | assumption | refine Ext.drew ?_ | refine Ext.alloc ?_ _ | refine Ext.trans ?_ (by assumption)))).keepB z67 (.inr fun b off e => by cases e; omega); have b67 := (b64.keep (by repeat (first | exact Ext.refl _ | assumption | refine Ext.drew ?_ | refine Ext.alloc ?_ _ | refine Ext.trans ?_ (by assumption)))).keepB z67 (by omega); have y67 := z67.ext (z := w) (y64.trans (by repeat (first | exact Ext.refl _ | assumption | refine Ext.drew ?_ | refine Ext.alloc ?_ _ | refine Ext.trans ?_ (by assumption)))) (by omega); have n67 := y67.size; have B67 := b67.lt; have o67 : OwnW w67 (w.heap.size + 1) v67 (k + 1) (fun i => if i < k then G i else F) := (by unfold OwnW; rw [← flat_app k 1 G (fun _ => F), ← flat_one]; exact hown67); clear hown67 hgrow67) | (refine step_append_w ?_ (.tmp 64) (.tmp 66) 25 ?_ (w.heap.size + 1) 41 i0 (whV fun _ => 0) 9 72 Try.underlying25 hi hz0 hz1 hz2 rfl (by decide) (v64) (k) (flat k G) ?_ ?_ ⟨w64.heap.size, 0, none⟩ (1) (1) (wh9 F) ?_ (rfl) ?_ (one_wh9 _) ?_ ?_ ?_ ?_; (rfl); (rfl); (rfl); (first | exact o64 | exact o64.keep (by repeat (first | exact Ext.refl _ | assumption | refine Ext.drew ?_ | refine Ext.alloc ?_ _ | refine Ext.trans ?_ (by assumption)))); (rfl); (exact newsB (Blk.keep (Blk.new w64 (wh9 F) 41) (Ext.drew (Ext.refl _)))); (unfold maxLen; omega); (omega); (first | (simp; omega) | omega); intro v67 w67 hown67 hgrow67 hnil67; obtain ⟨q67, hq67, z67⟩ : ∃ q, w.heap.size + 1 ≤ q ∧ ExtB q (w64.alloc (.cells (wh9 F).toArray 41)).drew w67 := grownW (G := G) (n := k) (o64.keep (by repeat (first | exact Ext.refl _ | assumption | refine Ext.drew ?_ | refine Ext.alloc ?_ _ | refine Ext.trans ?_ (by assumption)))) hgrow67 (by first | (simp; omega) | omega); have h67 := (h64.keep (by repeat (first | exact Ext.refl _ | assumption | refine Ext.drew ?_ | refine Ext.alloc ?_ _ | refine Ext.trans ?_ (by assumption)))).keepB z67 (.inr fun b off e => by cases e; omega); have b67 := (b64.keep (by repeat (first | exact Ext.refl _ | assumption | refine Ext.drew ?_ | refine Ext.alloc ?_ _ | refine Ext.trans ?_ (by assumption)))).keepB z67 (by omega); have y67 := z67.ext (z := w) (y64.trans (by repeat (first | exact Ext.refl _ | assumption | refine Ext.drew ?_ | refine Ext.alloc ?_ _ | refine Ext.trans ?_ (by assumption)))) (by omega); have n67 := y67.size; have B67 := b67.lt; have o67 : OwnW w67 (w.heap.size + 1) v67 (k + 1) (fun i => if i < k then G i else F) := (by unfold OwnW; rw [← flat_app k 1 G (fun _ => F), ← flat_one]; exact hown67); clear hown67 hgrow67) | (refine step_append_w ?_ (.tmp 64) (.tmp 66) 25 ?_ (w.heap.size + 1) 41 i0 (whV fun _ => 0) 9 72 Try.underlying25 hi hz0 hz1 hz2 rfl (by decide) (v64) (k) (flat k G) ?_ ?_ ⟨W3.heap.size + 1, 0, none⟩ (1) (1) (wh9 F) ?_ (rfl) ?_ (one_wh9 _) ?_ ?_ ?_ ?_; (rfl); (rfl); (rfl); (first | exact o64 | exact o64.keep (by repeat (first | exact Ext.refl _ | assumption | refine Ext.drew ?_ | refine Ext.alloc ?_ _ | refine Ext.trans ?_ (by assumption)))); (rfl); (exact newsB r64); (unfold maxLen; omega); (omega); (first | (simp; omega) | omega); intro v67 w67 hown67 hgrow67 hnil67; obtain ⟨q67, hq67, z67⟩ : ∃ q, w.heap.size + 1 ≤ q ∧ ExtB q w64 w67 := grownW (G := G) (n := k) (o64.keep (by repeat (first | exact Ext.refl _ | assumption | refine Ext.drew ?_ | refine Ext.alloc ?_ _ | refine Ext.trans ?_ (by assumption)))) hgrow67 (by first | (simp; omega) | omega); have h67 := (h64.keep (by repeat (first | exact Ext.refl _ | assumption | refine Ext.drew ?_ | refine Ext.alloc ?_ _ | refine Ext.trans ?_ (by assumption)))).keepB z67 (.inr fun b off e => by cases e; omega); have b67 := (b64.keep (by repeat (first | exact Ext.refl _ | assumption | refine Ext.drew ?_ | refine Ext.alloc ?_ _ | refine Ext.trans ?_ (by assumption)))).keepB z67 (by omega); have y67 := z67.ext (z := w) (y64.trans (by repeat (first | exact Ext.refl _ | assumption | refine Ext.drew ?_ | refine Ext.alloc ?_ _ | refine Ext.trans ?_ (by assumption)))) (by omega); have n67 := y67.size; have B67 := b67.lt; have o67 : OwnW w67 (w.heap.size + 1) v67 (k + 1) (fun i => if i < k then G i else F) := (by unfold OwnW; rw [← flat_app k 1 G (fun _ => F), ← flat_one]; exact hown67); clear hown67 hgrow67) | (refine step_append_w ?_ (.tmp 64) (.tmp 66) 25 ?_ (w.heap.size + 1) 41 i0 (whV fun _ => 0) 9 72 Try.underlying25 hi hz0 hz1 hz2 rfl (by decide) (v64) (k) (flat k G) ?_ ?_ ⟨W3.heap.size, 0, none⟩ (1) (1) (wh9 F) ?_ (rfl) ?_ (one_wh9 _) ?_ ?_ ?_ ?_; (rfl); (rfl); (rfl); (first | exact o64 | exact o64.keep (by repeat (first | exact Ext.refl _ | assumption | refine Ext.drew ?_ | refine Ext.alloc ?_ _ | refine Ext.trans ?_ (by assumption)))); (rfl); (exact newsB r64); (unfold maxLen; omega); (omega); (first | (simp; omega) | omega); intro v67 w67 hown67 hgrow67 hnil67; obtain ⟨q67, hq67, z67⟩ : ∃ q, w.heap.size + 1 ≤ q ∧ ExtB q w64 w67 := grownW (G := G) (n := k) (o64.keep (by repeat (first | exact Ext.refl _ | assumption | refine Ext.drew ?_ | refine Ext.alloc ?_ _ | refine Ext.trans ?_ (by assumption)))) hgrow67 (by first | (simp; omega) | omega); have h67 := (h64.keep (by repeat (first | exact Ext.refl _ | assumption | refine Ext.drew ?_ | refine Ext.alloc ?_ _ | refine Ext.trans ?_ (by assumption)))).keepB z67 (.inr fun b off e => by cases e; omega); have b67 := (b64.keep (by repeat (first | exact Ext.refl _ | assumption | refine Ext.drew ?_ | refine Ext.alloc ?_ _ | refine Ext.trans ?_ (by assumption)))).keepB z67 (by omega); have y67 := z67.ext (z := w) (y64.trans (by repeat (first | exact Ext.refl _ | assumption | refine Ext.drew ?_ | refine Ext.alloc ?_ _ | refine Ext.trans ?_ (by assumption)))) (by omega); have n67 := y67.size; have B67 := b67.lt; have o67 : OwnW w67 (w.heap.size + 1) v67 (k + 1) (fun i => if i < k then G i else F) := (by unfold OwnW; rw [← flat_app k 1 G (fun _ => F), ← flat_one]; exact hown67); clear hown67 hgrow67) | (refine step_append_w ?_ (.tmp 67) (.tmp 70) 25 ?_ (w.heap.size + 1) 41 i0 (whV fun _ => 0) 9 72 Try.underlying25 hi hz0 hz1 hz2 rfl (by decide) (v67) (k + 1) (flat (k + 1) fun i => if i < k then G i else F) ?_ ?_ ⟨g, 0, none⟩ (n - k) (0) (flat (n - k) fun i => G (k + i)) ?_ (flat_len _ _) ?_ (one_flat _ _) ?_ ?_ ?_ ?_; (rfl); (rfl); (rfl); (exact o67); (first | rfl | (simp [Act.eval]; omega)); (intro j u hj; have := (List.getElem?_eq_some_iff.1 hj).1; rw [flat_len] at this; omega); (unfold maxLen; omega); (omega); (first | (simp; omega) | omega); intro v71 w71 hown71 hgrow71 hnil71; obtain ⟨q71, hq71, z71⟩ : ∃ q, w.heap.size + 1 ≤ q ∧ ExtB q w67 w71 := grownW o67 hgrow71 (by omega); have b71 := b67.keepB z71 (by omega); have y71 := z71.ext (z := w) y67 (by omega); have o71 : OwnW w71 (w.heap.size + 1) v71 (k + 1 + (n - k)) (fun i => if i < k + 1 then (if i < k then G i else F) else G (k + (i - (k + 1)))) := (by unfold OwnW; rw [← flat_app (k + 1) (n - k) (fun i => if i < k then G i else F) (fun i => G (k + i))]; exact hown71); clear hown71 hgrow71))
        all_goals
          have hn' : k + 1 + (n - k) = n + 1 := by omega
          rw [hn'] at o74
          have o75 : OwnW w74 w.heap.size v71 (n + 1) (fun j => if j < k then G j else if j = k then F else G (j - 1)) := OwnW.congr (o74.mono (by omega)) (fun i hi c hc => by
            by_cases h1 : i < k
            · simp only [if_pos h1, if_pos (show i < k + 1 by omega)]
            · by_cases h2 : i = k
              · subst h2; simp
              · simp only [if_neg h1, if_neg h2, if_neg (show ¬ i < k + 1 by omega), show k + (i - (k + 1)) = i - 1 by omega])
          have hnn : v71 ≠ .slice none 0 0 := fun e => by have := (hnil67.1 (hnil71.1 e).1).2; omega
          clear o74 o71 o67 o64 hnil71 hnil67 hnil64 b74 b71 b67 b64 h67 h64 L1 L2 L3 e0 e1 e2 e3 e4 e5 e6 e7 e8 b3 h3
          go_wp2
          go_ret2
          exact ⟨v71, k, hnn, by omega, P.out, y74, .inr ⟨fun h => absurd h hlt, by rw [hF]; rfl, o75⟩⟩
      · have hB3 := b3.lt
        have e0 : W3.cell? ⟨w.heap.size, 0, none⟩ = some (.int .i64 (F 0)) := b3.cell 0
        have e1 : W3.cell? ⟨w.heap.size, 1, none⟩ = some (.int .i64 (F 1)) := b3.cell 1
        have e2 : W3.cell? ⟨w.heap.size, 2, none⟩ = some (.int .i64 (F 2)) := b3.cell 2
        have e3 : W3.cell? ⟨w.heap.size, 3, none⟩ = some (.int .i64 (F 3)) := b3.cell 3
        have e4 : W3.cell? ⟨w.heap.size, 4, none⟩ = some (.int .i64 (F 4)) := b3.cell 4
        have e5 : W3.cell? ⟨w.heap.size, 5, none⟩ = some (.int .i64 (F 5)) := b3.cell 5
        have e6 : W3.cell? ⟨w.heap.size, 6, none⟩ = some (.int .i64 (F 6)) := b3.cell 6
        have e7 : W3.cell? ⟨w.heap.size, 7, none⟩ = some (.int .i64 (F 7)) := b3.cell 7
        have e8 : W3.cell? ⟨w.heap.size, 8, none⟩ = some (.int .i64 (F 8)) := b3.cell 8
        have L1 := Lib.hid (show (W3.alloc (.cells #[] 41)).drew.ownsRow (w.heap.size + 1) 41 9 (.slice (some ⟨W3.heap.size, 0, none⟩) 0 0) 0 [] from World.ownsRow_lit (w := W3) (base := w.heap.size + 1) (e := 41) (size := 9) #[] 0 hB3 (by decide) rfl)
        have L2 := Lib.hid (show ((W3.alloc (.cells #[] 41)).alloc (.cells (wh9 F).toArray 41)).drew.ownsRow (w.heap.size + 1) 41 9 (.slice (some ⟨W3.heap.size, 0, none⟩) 0 0) 0 [] from World.ownsRow.alloc L1.out (.cells (wh9 F).toArray 41))
        have L3 := Lib.hid (show ((W3.alloc (.cells (wh9 F).toArray 41)).alloc (.cells #[] 41)).drew.ownsRow (w.heap.size + 1) 41 9 (.slice (some ⟨W3.heap.size + 1, 0, none⟩) 0 0) 0 [] from by
          have := World.ownsRow_lit (w := W3.alloc (.cells (wh9 F).toArray 41)) (base := w.heap.size + 1) (e := 41) (size := 9) #[] 0 (by simp; omega) (by decide) rfl
          have e : (W3.alloc (.cells (wh9 F).toArray 41)).heap.size = W3.heap.size + 1 := by simp
          rw [e] at this
          exact this)
        have i1 : (0 : Int) ≤ (k : Int) := Int.natCast_nonneg _
        have i2 : (k : Int) ≤ (cap : Int) := by omega
        have i3 : (k : Int) ≤ (n : Int) := by omega
        have i4 : (n : Int) ≤ (cap : Int) := by omega
        have i5 : k ≤ cap := by omega
        have i6 : ¬ cap = k := by omega
        have i7 : ¬ (cap : Int) = (k : Int) := by omega
        have i8 : ¬ k = cap := by omega
        go_wp2_with fail
        go_region_held3 (fun w' => w'.cell? ⟨w.heap.size, 0, none⟩ = some (.int .i64 (F 0)) ∧ w'.cell? ⟨w.heap.size, 1, none⟩ = some (.int .i64 (F 1)) ∧ w'.cell? ⟨w.heap.size, 2, none⟩ = some (.int .i64 (F 2)) ∧ w'.cell? ⟨w.heap.size, 3, none⟩ = some (.int .i64 (F 3)) ∧ w'.cell? ⟨w.heap.size, 4, none⟩ = some (.int .i64 (F 4)) ∧ w'.cell? ⟨w.heap.size, 5, none⟩ = some (.int .i64 (F 5)) ∧ w'.cell? ⟨w.heap.size, 6, none⟩ = some (.int .i64 (F 6)) ∧ w'.cell? ⟨w.heap.size, 7, none⟩ = some (.int .i64 (F 7)) ∧ w'.cell? ⟨w.heap.size, 8, none⟩ = some (.int .i64 (F 8)))
          (first | go_keep | exact ⟨b74.cell 0, b74.cell 1, b74.cell 2, b74.cell 3, b74.cell 4, b74.cell 5, b74.cell 6, b74.cell 7, b74.cell 8⟩ | exact ⟨b71.cell 0, b71.cell 1, b71.cell 2, b71.cell 3, b71.cell 4, b71.cell 5, b71.cell 6, b71.cell 7, b71.cell 8⟩ | exact ⟨b67.cell 0, b67.cell 1, b67.cell 2, b67.cell 3, b67.cell 4, b67.cell 5, b67.cell 6, b67.cell 7, b67.cell 8⟩ | exact ⟨b64.cell 0, b64.cell 1, b64.cell 2, b64.cell 3, b64.cell 4, b64.cell 5, b64.cell 6, b64.cell 7, b64.cell 8⟩)
          (first | (go_at_call 36; ((refine (sCycValid_any (tl F) _).mono ?_); rintro e w74 ⟨rfl, x74⟩; have b74 := b71.keep x74; have o74 := o71.keep x74; have y74 := y71.trans x74)) | (refine step_append_w ?_ (.tmp 60) (.tmp 63) 25 ?_ (w.heap.size + 1) 41 i0 (whV fun _ => 0) 9 72 Try.underlying25 hi hz0 hz1 hz2 rfl (by decide) (.slice (some ⟨W3.heap.size, 0, none⟩) 0 0) (0) ([]) ?_ ?_ ⟨g, 0, none⟩ (k) (cap) (flat k G) ?_ (flat_len _ _) ?_ (one_flat _ _) ?_ ?_ ?_ ?_; (rfl); (rfl); (rfl); (exact L1.out); (rfl); (exact news0 (h3.keep (by repeat (first | exact Ext.refl _ | assumption | refine Ext.drew ?_ | refine Ext.alloc ?_ _ | refine Ext.trans ?_ (by assumption)))) hk); (unfold maxLen; omega); (omega); (first | (simp; omega) | omega); intro v64 w64 hown64 hgrow64 hnil64; have z64 : ExtB W3.heap.size _ w64 := grownE hgrow64; have h64 := (h3.keep (by repeat (first | exact Ext.refl _ | assumption | refine Ext.drew ?_ | refine Ext.alloc ?_ _ | refine Ext.trans ?_ (by assumption)))).keepB z64 (.inr fun b off e => by cases e; omega); have b64 := (b3.keep (by repeat (first | exact Ext.refl _ | assumption | refine Ext.drew ?_ | refine Ext.alloc ?_ _ | refine Ext.trans ?_ (by assumption)))).keepB z64 (by omega); have y64 := z64.ext (z := w) (x3.trans (by repeat (first | exact Ext.refl _ | assumption | refine Ext.drew ?_ | refine Ext.alloc ?_ _ | refine Ext.trans ?_ (by assumption)))) (by omega); have n64 := y64.size; have B64 := b64.lt; have o64 : OwnW w64 (w.heap.size + 1) v64 k G := (by have := hown64; rw [Nat.zero_add] at this; exact this); clear hown64 hgrow64) | (refine step_append_w ?_ (.tmp 60) (.tmp 63) 25 ?_ (w.heap.size + 1) 41 i0 (whV fun _ => 0) 9 72 Try.underlying25 hi hz0 hz1 hz2 rfl (by decide) (.slice (some ⟨W3.heap.size, 0, none⟩) 0 0) (0) ([]) ?_ ?_ ⟨g, 0, none⟩ (k) (cap) (flat k G) ?_ (flat_len _ _) ?_ (one_flat _ _) ?_ ?_ ?_ ?_; (rfl); (rfl); (rfl); (exact L2.out); (rfl); (exact news0 (h3.keep (by repeat (first | exact Ext.refl _ | assumption | refine Ext.drew ?_ | refine Ext.alloc ?_ _ | refine Ext.trans ?_ (by assumption)))) hk); (unfold maxLen; omega); (omega); (first | (simp; omega) | omega); intro v64 w64 hown64 hgrow64 hnil64; have z64 : ExtB W3.heap.size _ w64 := grownE hgrow64; have h64 := (h3.keep (by repeat (first | exact Ext.refl _ | assumption | refine Ext.drew ?_ | refine Ext.alloc ?_ _ | refine Ext.trans ?_ (by assumption)))).keepB z64 (.inr fun b off e => by cases e; omega); have b64 := (b3.keep (by repeat (first | exact Ext.refl _ | assumption | refine Ext.drew ?_ | refine Ext.alloc ?_ _ | refine Ext.trans ?_ (by assumption)))).keepB z64 (by omega); have y64 := z64.ext (z := w) (x3.trans (by repeat (first | exact Ext.refl _ | assumption | refine Ext.drew ?_ | refine Ext.alloc ?_ _ | refine Ext.trans ?_ (by assumption)))) (by omega); have n64 := y64.size; have B64 := b64.lt; have o64 : OwnW w64 (w.heap.size + 1) v64 k G := (by have := hown64; rw [Nat.zero_add] at this; exact this); have r64 : Blk w64 (W3.heap.size + 1) (wh9 F) := (Blk.keep (Blk.new1 W3 (.cells #[] 41) (wh9 F) 41) (Ext.drew (Ext.refl _))).keepB z64 (by omega); clear hown64 hgrow64) | (refine step_append_w ?_ (.tmp 60) (.tmp 63) 25 ?_ (w.heap.size + 1) 41 i0 (whV fun _ => 0) 9 72 Try.underlying25 hi hz0 hz1 hz2 rfl (by decide) (.slice (some ⟨W3.heap.size + 1, 0, none⟩) 0 0) (0) ([]) ?_ ?_ ⟨g, 0, none⟩ (k) (cap) (flat k G) ?_ (flat_len _ _) ?_ (one_flat _ _) ?_ ?_ ?_ ?_; (rfl); (rfl); (rfl); (exact L3.out); (rfl); (exact news0 (h3.keep (by repeat (first | exact Ext.refl _ | assumption | refine Ext.drew ?_ | refine Ext.alloc ?_ _ | refine Ext.trans ?_ (by assumption)))) hk); (unfold maxLen; omega); (omega); (first | (simp; omega) | omega); intro v64 w64 hown64 hgrow64 hnil64; have z64 : ExtB (W3.heap.size + 1) _ w64 := grownE hgrow64; have h64 := (h3.keep (by repeat (first | exact Ext.refl _ | assumption | refine Ext.drew ?_ | refine Ext.alloc ?_ _ | refine Ext.trans ?_ (by assumption)))).keepB z64 (.inr fun b off e => by cases e; omega); have b64 := (b3.keep (by repeat (first | exact Ext.refl _ | assumption | refine Ext.drew ?_ | refine Ext.alloc ?_ _ | refine Ext.trans ?_ (by assumption)))).keepB z64 (by omega); have y64 := z64.ext (z := w) (x3.trans (by repeat (first | exact Ext.refl _ | assumption | refine Ext.drew ?_ | refine Ext.alloc ?_ _ | refine Ext.trans ?_ (by assumption)))) (by omega); have n64 := y64.size; have B64 := b64.lt; have o64 : OwnW w64 (w.heap.size + 1) v64 k G := (by have := hown64; rw [Nat.zero_add] at this; exact this); have r64 : Blk w64 W3.heap.size (wh9 F) := (Blk.keep ((Blk.new W3 (wh9 F) 41).alloc (.cells #[] 41)) (Ext.drew (Ext.refl _))).keepB z64 (by omega); clear hown64 hgrow64) | (refine step_append_w ?_ (.tmp 64) (.tmp 66) 25 ?_ (w.heap.size + 1) 41 i0 (whV fun _ => 0) 9 72 Try.underlying25 hi hz0 hz1 hz2 rfl (by decide) (v64) (k) (flat k G) ?_ ?_ ⟨w64.heap.size, 0, none⟩ (1) (1) (wh9 F) ?_ (rfl) ?_ (one_wh9 _) ?_ ?_ ?_ ?_; (rfl); (rfl); (rfl); (first | exact o64 | exact o64.keep (by repeat (first | exact Ext.refl _ | assumption | refine Ext.drew ?_ | refine Ext.alloc ?_ _ | refine Ext.trans ?_ (by assumption)))); (rfl); (exact newsB (Blk.keep (Blk.new w64 (wh9 F) 41) (Ext.refl _))); (unfold maxLen; omega); (omega); (first | (simp; omega) | omega); intro v67 w67 hown67 hgrow67 hnil67; obtain ⟨q67, hq67, z67⟩ : ∃ q, w.heap.size + 1 ≤ q ∧ ExtB q (w64.alloc (.cells (wh9 F).toArray 41)) w67 := grownW (G := G) (n := k) (o64.keep (by repeat (first | exact Ext.refl _ | assumption | refine Ext.drew ?_ | refine Ext.alloc ?_ _ | refine Ext.trans ?_ (by assumption)))) hgrow67 (by first | (simp; omega) | omega); have h67 := (h64.keep (by repeat (first | exact Ext.refl _ | assumption | refine Ext.drew ?_ | refine Ext.alloc ?_ _ | refine Ext.trans ?_ (by assumption)))).keepB z67 (.inr fun b off e => by cases e; omega); have b67 := (b64.keep (by repeat (first | exact Ext.refl _ | assumption | refine Ext.drew ?_ | refine Ext.alloc ?_ _ | refine Ext.trans ?_ (by assumption)))).keepB z67 (by omega); have y67 := z67.ext (z := w) (y64.trans (by repeat (first | exact Ext.refl _ | assumption | refine Ext.drew ?_ | refine Ext.alloc ?_ _ | refine Ext.trans ?_ (by assumption)))) (by omega); have n67 := y67.size; have B67 := b67.lt; have o67 : OwnW w67 (w.heap.size + 1) v67 (k + 1) (fun i => if i < k then G i else F) := (by unfold OwnW; rw [← flat_app k 1 G (fun _ => F), ← flat_one]; exact hown67); clear hown67 hgrow67) | (refine step_append_w ?_ (.tmp 64) (.tmp 66) 25 ?_ (w.heap.size + 1) 41 i0 (whV fun _ => 0) 9 72 Try.underlying25 hi hz0 hz1 hz2 rfl (by decide) (v64) (k) (flat k G) ?_ ?_ ⟨w64.heap.size, 0, none⟩ (1) (1) (wh9 F) ?_ (rfl) ?_ (one_wh9 _) ?_ ?_ ?_ ?_; (rfl); (rfl); (rfl); (first | exact o64 | exact o64.keep (by repeat (first | exact Ext.refl _ | assumption | refine Ext.drew ?_ | refine Ext.alloc ?_ _ | refine Ext.trans ?_ (by assumption)))); (rfl); (exact newsB (Blk.keep (Blk.new w64 (wh9 F) 41) (Ext.drew (Ext.refl _)))); (unfold maxLen; omega); (omega); (first | (simp; omega) | omega); intro v67 w67 hown67 hgrow67 hnil67; obtain ⟨q67, hq67, z67⟩ : ∃ q, w.heap.size + 1 ≤ q ∧ ExtB q (w64.alloc (.cells (wh9 F).toArray 41)).drew w67 := grownW (G := G) (n := k) (o64.keep (by repeat (first | exact Ext.refl _ | assumption | refine Ext.drew ?_ | refine Ext.alloc ?_ _ | refine Ext.trans ?_ (by assumption)))) hgrow67 (by first | (simp; omega) | omega); have h67 := (h64.keep (by repeat (first | exact Ext.refl _ | assumption | refine Ext.drew ?_ | refine Ext.alloc ?_ _ | refine Ext.trans ?_ (by assumption)))).keepB z67 (.inr fun b off e => by cases e; omega); have b67 := (b64.keep (by repeat (first | exact Ext.refl _ | assumption | refine Ext.drew ?_ | refine Ext.alloc ?_ _ | refine Ext.trans ?_ (by assumption)))).keepB z67 (by omega); have y67 := z67.ext (z := w) (y64.trans (by repeat (first | exact Ext.refl _ | assumption | refine Ext.drew ?_ | refine Ext.alloc ?_ _ | refine Ext.trans ?_ (by assumption)))) (by omega); have n67 := y67.size; have B67 := b67.lt; have o67 : OwnW w67 (w.heap.size + 1) v67 (k + 1) (fun i => if i < k then G i else F) := (by unfold OwnW; rw [← flat_app k 1 G (fun _ => F), ← flat_one]; exact hown67); clear hown67 hgrow67) | (refine step_append_w ?_ (.tmp 64) (.tmp 66) 25 ?_ (w.heap.size + 1) 41 i0 (whV fun _ => 0) 9 72 Try.underlying25 hi hz0 hz1 hz2 rfl (by decide) (v64) (k) (flat k G) ?_ ?_ ⟨W3.heap.size + 1, 0, none⟩ (1) (1) (wh9 F) ?_ (rfl) ?_ (one_wh9 _) ?_ ?_ ?_ ?_; (rfl); (rfl); (rfl); (first | exact o64 | exact o64.keep (by repeat (first | exact Ext.refl _ | assumption | refine Ext.drew ?_ | refine Ext.alloc ?_ _ | refine Ext.trans ?_ (by assumption)))); (rfl); (exact newsB r64); (unfold maxLen; omega); (omega); (first | (simp; omega) | omega); intro v67 w67 hown67 hgrow67 hnil67; obtain ⟨q67, hq67, z67⟩ : ∃ q, w.heap.size + 1 ≤ q ∧ ExtB q w64 w67 := grownW (G := G) (n := k) (o64.keep (by repeat (first | exact Ext.refl _ | assumption | refine Ext.drew ?_ | refine Ext.alloc ?_ _ | refine Ext.trans ?_ (by assumption)))) hgrow67 (by first | (simp; omega) | omega); have h67 := (h64.keep (by repeat (first | exact Ext.refl _ | assumption | refine Ext.drew ?_ | refine Ext.alloc ?_ _ | refine Ext.trans ?_ (by assumption)))).keepB z67 (.inr fun b off e => by cases e; omega); have b67 := (b64.keep (by repeat (first | exact Ext.refl _ | assumption | refine Ext.drew ?_ | refine Ext.alloc ?_ _ | refine Ext.trans ?_ (by assumption)))).keepB z67 (by omega); have y67 := z67.ext (z := w) (y64.trans (by repeat (first | exact Ext.refl _ | assumption | refine Ext.drew ?_ | refine Ext.alloc ?_ _ | refine Ext.trans ?_ (by assumption)))) (by omega); have n67 := y67.size; have B67 := b67.lt; have o67 : OwnW w67 (w.heap.size + 1) v67 (k + 1) (fun i => if i < k then G i else F) := (by unfold OwnW; rw [← flat_app k 1 G (fun _ => F), ← flat_one]; exact hown67); clear hown67 hgrow67) | (refine step_append_w ?_ (.tmp 64) (.tmp 66) 25 ?_ (w.heap.size + 1) 41 i0 (whV fun _ => 0) 9 72 Try.underlying25 hi hz0 hz1 hz2 rfl (by decide) (v64) (k) (flat k G) ?_ ?_ ⟨W3.heap.size, 0, none⟩ (1) (1) (wh9 F) ?_ (rfl) ?_ (one_wh9 _) ?_ ?_ ?_ ?_; (rfl); (rfl); (rfl); (first | exact o64 | exact o64.keep (by repeat (first | exact Ext.refl _ | assumption | refine Ext.drew ?_ | refine Ext.alloc ?_ _ | refine Ext.trans ?_ (by assumption)))); (rfl); (exact newsB r64); (unfold maxLen; omega); (omega); (first | (simp; omega) | omega); intro v67 w67 hown67 hgrow67 hnil67; obtain ⟨q67, hq67, z67⟩ : ∃ q, w.heap.size + 1 ≤ q ∧ ExtB q w64 w67 := grownW (G := G) (n := k) (o64.keep (by repeat (first | exact Ext.refl _ | assumption | refine Ext.drew ?_ | refine Ext.alloc ?_ _ | refine Ext.trans ?_ (by assumption)))) hgrow67 (by first | (simp; omega) | omega); have h67 := (h64.keep (by repeat (first | exact Ext.refl _ | assumption | refine Ext.drew ?_ | refine Ext.alloc ?_ _ | refine Ext.trans ?_ (by assumption)))).keepB z67 (.inr fun b off e => by cases e; omega); have b67 := (b64.keep (by repeat (first | exact Ext.refl _ | assumption | refine Ext.drew ?_ | refine Ext.alloc ?_ _ | refine Ext.trans ?_ (by assumption)))).keepB z67 (by omega); have y67 := z67.ext (z := w) (y64.trans (by repeat (first | exact Ext.refl _ | assumption | refine Ext.drew ?_ | refine Ext.alloc ?_ _ | refine Ext.trans ?_ (by assumption)))) (by omega); have n67 := y67.size; have B67 := b67.lt; have o67 : OwnW w67 (w.heap.size + 1) v67 (k + 1) (fun i => if i < k then G i else F) := (by unfold OwnW; rw [← flat_app k 1 G (fun _ => F), ← flat_one]; exact hown67); clear hown67 hgrow67) | (refine step_append_w ?_ (.tmp 67) (.tmp 70) 25 ?_ (w.heap.size + 1) 41 i0 (whV fun _ => 0) 9 72 Try.underlying25 hi hz0 hz1 hz2 rfl (by decide) (v67) (k + 1) (flat (k + 1) fun i => if i < k then G i else F) ?_ ?_ ⟨g, k * 9, none⟩ (n - k) (cap - k) (flat (n - k) fun i => G (k + i)) ?_ (flat_len _ _) ?_ (one_flat _ _) ?_ ?_ ?_ ?_; (rfl); (rfl); (rfl); (exact o67); (first | rfl | (simp [Act.eval]; omega)); (exact newsW h67 (by omega)); (unfold maxLen; omega); (omega); (first | (simp; omega) | omega); intro v71 w71 hown71 hgrow71 hnil71; obtain ⟨q71, hq71, z71⟩ : ∃ q, w.heap.size + 1 ≤ q ∧ ExtB q w67 w71 := grownW o67 hgrow71 (by omega); have b71 := b67.keepB z71 (by omega); have y71 := z71.ext (z := w) y67 (by omega); have o71 : OwnW w71 (w.heap.size + 1) v71 (k + 1 + (n - k)) (fun i => if i < k + 1 then (if i < k then G i else F) else G (k + (i - (k + 1)))) := (by unfold OwnW; rw [← flat_app (k + 1) (n - k) (fun i => if i < k then G i else F) (fun i => G (k + i))]; exact hown71); clear hown71 hgrow71))
        all_goals
          have hn' : k + 1 + (n - k) = n + 1 := by omega
          rw [hn'] at o74
          have o75 : OwnW w74 w.heap.size v71 (n + 1) (fun j => if j < k then G j else if j = k then F else G (j - 1)) := OwnW.congr (o74.mono (by omega)) (fun i hi c hc => by
            by_cases h1 : i < k
            · simp only [if_pos h1, if_pos (show i < k + 1 by omega)]
            · by_cases h2 : i = k
              · subst h2; simp
              · simp only [if_neg h1, if_neg h2, if_neg (show ¬ i < k + 1 by omega), show k + (i - (k + 1)) = i - 1 by omega])
          have hnn : v71 ≠ .slice none 0 0 := fun e => by have := (hnil67.1 (hnil71.1 e).1).2; omega
          clear o74 o71 o67 o64 hnil71 hnil67 hnil64 b74 b71 b67 b64 h67 h64 L1 L2 L3 e0 e1 e2 e3 e4 e5 e6 e7 e8 b3 h3
          go_wp2
          go_ret2
          exact ⟨v71, k, hnn, by omega, P.out, y74, .inr ⟨fun h => absurd h hlt, by rw [hF]; rfl, o75⟩⟩

end Go.Proofs.Ytadjphiipnlcdaa
