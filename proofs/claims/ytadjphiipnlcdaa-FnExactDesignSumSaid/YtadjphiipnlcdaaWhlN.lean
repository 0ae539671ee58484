/- Wheels: the functions that change a wheel. -/
import Derived.Test.YtadjphiipnlcdaaWhlD
namespace Go.Proofs.Ytadjphiipnlcdaa
open Go.ChangeShapes Go.WideShapes Go.ChangeAt Go.RowKit
set_option linter.unusedVariables false
set_option maxRecDepth 100000


set_option maxHeartbeats 1000000 in
theorem same_any (A : Nat → Int) (w : World) : Calls Try.prog 43 #[whV A] w fun e w' => e = .returned (whV A) ∧ Ext w w' := by
  have k1 := (Blk.new w (wh9 A) 41).alloc (.cells (wh9 fun _ => 0).toArray 41)
  have k2 := Blk.new1 w (.cells (wh9 A).toArray 41) (wh9 fun _ => 0) 41
  have x0 : Ext w ((w.alloc (.cells (wh9 A).toArray 41)).alloc (.cells (wh9 fun _ => 0).toArray 41)) := by repeat (first | exact Ext.refl _ | assumption | refine Ext.drew ?_ | refine Ext.alloc ?_ _ | refine Ext.trans ?_ (by assumption))
  have hr := row9 (w := (w.alloc (.cells (wh9 A).toArray 41)).alloc (.cells (wh9 fun _ => 0).toArray 41)) (b := w.heap.size) (o := 0) (F := A) (fun c hc => by rw [Nat.zero_add, k1.cell, wh9_get _ hc])
  go_enter Try.func43, Try.ntmps43
  go_wp2_with (first
    | (refine wpList_load_at rfl 41 (.tmp 1) rfl w.heap.size 0 rfl (wh9 A).toArray _ hr Try.underlying41 rfl infoWh ?_)
    | (refine wpList_store_at rfl 41 (.tmp 2) (.tmp 3) rfl (w.heap.size + 1) 0 (wh9 A) rfl rfl _ k2 infoWh (by simp) (by simp [Value.oneCell']) ?_))
  intro w3 y3 z3
  have x3 := z3.ext x0 (by omega)
  have c3 := y3.cell
  clear hr k1 k2 x0 z3
  go_wp2
  exact bodyPost_ret (v := whV A) (by simp [results, Try.results43, go_sem, c3]) rfl ⟨rfl, x3⟩

end Go.Proofs.Ytadjphiipnlcdaa
