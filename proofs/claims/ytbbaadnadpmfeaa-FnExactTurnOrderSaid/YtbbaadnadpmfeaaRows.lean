/-
  No cell of these rows narrows 'for every input' (looked for: loops, veiled, ifaces, maps, wideKeys, modest, calm, conditions, laid).
  DERIVED. THE GIVEN ROWS OF THIS SEAT. 7 by the template 'for every input the law returns true; each argument reads behind the call as it read before'; 0 by the template 'total and deterministic' (their statements: YtbbaadnadpmfeaaTotals.lean).
  GIVEN WITH THE SEED: the statements are not yours to turn. If you find one false, say at which input.
  Laid BY PROGRAM, IN A SANDBOX (cutbox-rows.mjs): the forced cells as the released guide's own fill.sh prints them over the translation 24be50cf2e11cc7a… (all of the seat's roots in one cut). By AI agents, Wed Nov 11 2026. No macro, syntax, notation, axiom, sorry.
-/
import Derived.Test.YtbbaadnadpmfeaaChecked
import GoSem.Claim
import GoSem.ClaimJoined
import GoSem.ClaimMapViews
import Derived.JoinedTies
import Derived.KernelRfl
namespace Go.Proofs.Ytbbaadnadpmfeaa
/- THE CELL 'sum', in the pinned program and in every row, IS THE sha256 OF THE DUMP (.gsa) THAT YtbbaadnadpmfeaaProg.lean LOADS. Nothing in Lean hashes anything: it is a label: what it is worth is what the hold of that sum in a sandbox is worth. -/
noncomputable def Try.pinned : Pinned := { name := "ytbbaadnadpmfeaa", sum := "24be50cf2e11cc7a2f3820f68b6bf1be97cc6ced6f664ec5d5a9312a7ba09685", checked := Try.checked }
namespace Rows
def none {H : Type} : Left H := { results := [], args := [] }

/-- 'laws.FnExactTurnOrder': WHATEVER THE INPUT: true; the input reads as it did. -/
def fnExactTurnOrderSpec : ChangeSpec := { name := "fnExactTurnOrder", fn := fun _ => fun
  | [d] => { results := [.lit (.bool true)], args := [d] }
  | _ => none }
def fnExactTurnOrderRow : OpenClaim := { program := "ytbbaadnadpmfeaa", sum := "24be50cf2e11cc7a2f3820f68b6bf1be97cc6ced6f664ec5d5a9312a7ba09685", func := "loop.example/turningwheels/laws.FnExactTurnOrder", spec := "fnExactTurnOrder", apart := false }
def FnExactTurnOrderSaid : Prop := fnExactTurnOrderRow.holds Try.pinned (OpenSpec.ofChange fnExactTurnOrderSpec)

/-- ITS FALSE NEIGHBOUR: 'it returns false'. Refute it at one input. -/
def fnExactTurnOrderWrong : ChangeSpec := { name := "fnExactTurnOrder", fn := fun _ => fun
  | [d] => { results := [.lit (.bool false)], args := [d] }
  | _ => none }
def FnExactTurnOrderWrongFalsely : Prop := fnExactTurnOrderRow.holds Try.pinned (OpenSpec.ofChange fnExactTurnOrderWrong)

/-- 'laws.FnExactTurnGroup': WHATEVER THE INPUT: true; the input reads as it did. -/
def fnExactTurnGroupSpec : ChangeSpec := { name := "fnExactTurnGroup", fn := fun _ => fun
  | [d1, d2] => { results := [.lit (.bool true)], args := [d1, d2] }
  | _ => none }
def fnExactTurnGroupRow : OpenClaim := { program := "ytbbaadnadpmfeaa", sum := "24be50cf2e11cc7a2f3820f68b6bf1be97cc6ced6f664ec5d5a9312a7ba09685", func := "loop.example/turningwheels/laws.FnExactTurnGroup", spec := "fnExactTurnGroup", apart := false }
def FnExactTurnGroupSaid : Prop := fnExactTurnGroupRow.holds Try.pinned (OpenSpec.ofChange fnExactTurnGroupSpec)

/-- ITS FALSE NEIGHBOUR: 'it returns false'. Refute it at one input. -/
def fnExactTurnGroupWrong : ChangeSpec := { name := "fnExactTurnGroup", fn := fun _ => fun
  | [d1, d2] => { results := [.lit (.bool false)], args := [d1, d2] }
  | _ => none }
def FnExactTurnGroupWrongFalsely : Prop := fnExactTurnGroupRow.holds Try.pinned (OpenSpec.ofChange fnExactTurnGroupWrong)

/-- 'laws.FnTurnOf': WHATEVER THE INPUT: true; the input reads as it did. -/
def fnTurnOfSpec : ChangeSpec := { name := "fnTurnOf", fn := fun _ => fun
  | [d] => { results := [.lit (.bool true)], args := [d] }
  | _ => none }
def fnTurnOfRow : OpenClaim := { program := "ytbbaadnadpmfeaa", sum := "24be50cf2e11cc7a2f3820f68b6bf1be97cc6ced6f664ec5d5a9312a7ba09685", func := "loop.example/turningwheels/laws.FnTurnOf", spec := "fnTurnOf", apart := false }
def FnTurnOfSaid : Prop := fnTurnOfRow.holds Try.pinned (OpenSpec.ofChange fnTurnOfSpec)

/-- ITS FALSE NEIGHBOUR: 'it returns false'. Refute it at one input. -/
def fnTurnOfWrong : ChangeSpec := { name := "fnTurnOf", fn := fun _ => fun
  | [d] => { results := [.lit (.bool false)], args := [d] }
  | _ => none }
def FnTurnOfWrongFalsely : Prop := fnTurnOfRow.holds Try.pinned (OpenSpec.ofChange fnTurnOfWrong)

/-- 'laws.FnTurnAdd': WHATEVER THE INPUT: true; the input reads as it did. -/
def fnTurnAddSpec : ChangeSpec := { name := "fnTurnAdd", fn := fun _ => fun
  | [d] => { results := [.lit (.bool true)], args := [d] }
  | _ => none }
def fnTurnAddRow : OpenClaim := { program := "ytbbaadnadpmfeaa", sum := "24be50cf2e11cc7a2f3820f68b6bf1be97cc6ced6f664ec5d5a9312a7ba09685", func := "loop.example/turningwheels/laws.FnTurnAdd", spec := "fnTurnAdd", apart := false }
def FnTurnAddSaid : Prop := fnTurnAddRow.holds Try.pinned (OpenSpec.ofChange fnTurnAddSpec)

/-- ITS FALSE NEIGHBOUR: 'it returns false'. Refute it at one input. -/
def fnTurnAddWrong : ChangeSpec := { name := "fnTurnAdd", fn := fun _ => fun
  | [d] => { results := [.lit (.bool false)], args := [d] }
  | _ => none }
def FnTurnAddWrongFalsely : Prop := fnTurnAddRow.holds Try.pinned (OpenSpec.ofChange fnTurnAddWrong)

/-- 'laws.FnTurnTimes': WHATEVER THE INPUT: true; the input reads as it did. -/
def fnTurnTimesSpec : ChangeSpec := { name := "fnTurnTimes", fn := fun _ => fun
  | [d] => { results := [.lit (.bool true)], args := [d] }
  | _ => none }
def fnTurnTimesRow : OpenClaim := { program := "ytbbaadnadpmfeaa", sum := "24be50cf2e11cc7a2f3820f68b6bf1be97cc6ced6f664ec5d5a9312a7ba09685", func := "loop.example/turningwheels/laws.FnTurnTimes", spec := "fnTurnTimes", apart := false }
def FnTurnTimesSaid : Prop := fnTurnTimesRow.holds Try.pinned (OpenSpec.ofChange fnTurnTimesSpec)

/-- ITS FALSE NEIGHBOUR: 'it returns false'. Refute it at one input. -/
def fnTurnTimesWrong : ChangeSpec := { name := "fnTurnTimes", fn := fun _ => fun
  | [d] => { results := [.lit (.bool false)], args := [d] }
  | _ => none }
def FnTurnTimesWrongFalsely : Prop := fnTurnTimesRow.holds Try.pinned (OpenSpec.ofChange fnTurnTimesWrong)

/-- 'laws.FnOrder': WHATEVER THE INPUT: true; the input reads as it did. -/
def fnOrderSpec : ChangeSpec := { name := "fnOrder", fn := fun _ => fun
  | [d] => { results := [.lit (.bool true)], args := [d] }
  | _ => none }
def fnOrderRow : OpenClaim := { program := "ytbbaadnadpmfeaa", sum := "24be50cf2e11cc7a2f3820f68b6bf1be97cc6ced6f664ec5d5a9312a7ba09685", func := "loop.example/turningwheels/laws.FnOrder", spec := "fnOrder", apart := false }
def FnOrderSaid : Prop := fnOrderRow.holds Try.pinned (OpenSpec.ofChange fnOrderSpec)

/-- ITS FALSE NEIGHBOUR: 'it returns false'. Refute it at one input. -/
def fnOrderWrong : ChangeSpec := { name := "fnOrder", fn := fun _ => fun
  | [d] => { results := [.lit (.bool false)], args := [d] }
  | _ => none }
def FnOrderWrongFalsely : Prop := fnOrderRow.holds Try.pinned (OpenSpec.ofChange fnOrderWrong)

/-- 'laws.FnGroup': WHATEVER THE INPUT: true; the input reads as it did. -/
def fnGroupSpec : ChangeSpec := { name := "fnGroup", fn := fun _ => fun
  | [d] => { results := [.lit (.bool true)], args := [d] }
  | _ => none }
def fnGroupRow : OpenClaim := { program := "ytbbaadnadpmfeaa", sum := "24be50cf2e11cc7a2f3820f68b6bf1be97cc6ced6f664ec5d5a9312a7ba09685", func := "loop.example/turningwheels/laws.FnGroup", spec := "fnGroup", apart := false }
def FnGroupSaid : Prop := fnGroupRow.holds Try.pinned (OpenSpec.ofChange fnGroupSpec)

/-- ITS FALSE NEIGHBOUR: 'it returns false'. Refute it at one input. -/
def fnGroupWrong : ChangeSpec := { name := "fnGroup", fn := fun _ => fun
  | [d] => { results := [.lit (.bool false)], args := [d] }
  | _ => none }
def FnGroupWrongFalsely : Prop := fnGroupRow.holds Try.pinned (OpenSpec.ofChange fnGroupWrong)

/- THE SECOND FORM. 'bulk': how many values and letters a reading holds, each counted each time it is reached (what is shared counts as often as it is met; a slice's spare places count too). A statement '..UptoSaid' is the law's where the arguments, and the package variables that the reading takes, are together of bulk at most 1048576: NARROWER than '..Said'. Prove '..Said' where nothing that the law and all that it calls make is longer than what came in: it says more and counts as full. Else prove '..UptoSaid'. A law counts once. -/
mutual
def uptoBulk {H : Type} : DataW H → Nat
  | .lit (.string bytes) => bytes.length + 1
  | .lit _ => 1
  | .nil => 1
  | .ptr d => uptoBulk d + 1
  | .slice elems spare => uptoBulkAll elems + uptoBulkAll spare + 1
  | .agg parts => uptoBulkAll parts + 1
  | .iface _ d => uptoBulk d + 1
  | .map entries => uptoBulkEntries entries + 1
  | .held _ => 1
def uptoBulkAll {H : Type} : List (DataW H) → Nat
  | [] => 0
  | d :: r => uptoBulk d + uptoBulkAll r
def uptoBulkEntries {H : Type} : List (Lit × DataW H) → Nat
  | [] => 0
  | x :: r => uptoBulkEntry x + uptoBulkEntries r
def uptoBulkEntry {H : Type} : Lit × DataW H → Nat
  | (.string bytes, d) => bytes.length + uptoBulk d + 1
  | (_, d) => uptoBulk d + 1
 end
def uptoSmall : (H : Type) → List (DataW H) → Bool := fun _ ds => decide (uptoBulkAll ds ≤ 1048576)
def OpenSpec.upto (s : _root_.Go.ChangeSpec) : _root_.Go.OpenSpec := { _root_.Go.OpenSpec.ofChange s with cond := some uptoSmall }

/-- 'laws.FnExactTurnOrder', WHERE WHAT IT READS IS OF BULK AT MOST 1048576: true; the input reads as it did. -/
def fnExactTurnOrderUptoRow : OpenClaim := { program := "ytbbaadnadpmfeaa", sum := "24be50cf2e11cc7a2f3820f68b6bf1be97cc6ced6f664ec5d5a9312a7ba09685", func := "loop.example/turningwheels/laws.FnExactTurnOrder", spec := "fnExactTurnOrder", apart := false, narrowed := true }
def FnExactTurnOrderUptoSaid : Prop := fnExactTurnOrderUptoRow.holds Try.pinned (OpenSpec.upto fnExactTurnOrderSpec)

/-- 'laws.FnExactTurnGroup', WHERE WHAT IT READS IS OF BULK AT MOST 1048576: true; the input reads as it did. -/
def fnExactTurnGroupUptoRow : OpenClaim := { program := "ytbbaadnadpmfeaa", sum := "24be50cf2e11cc7a2f3820f68b6bf1be97cc6ced6f664ec5d5a9312a7ba09685", func := "loop.example/turningwheels/laws.FnExactTurnGroup", spec := "fnExactTurnGroup", apart := false, narrowed := true }
def FnExactTurnGroupUptoSaid : Prop := fnExactTurnGroupUptoRow.holds Try.pinned (OpenSpec.upto fnExactTurnGroupSpec)

/-- 'laws.FnTurnOf', WHERE WHAT IT READS IS OF BULK AT MOST 1048576: true; the input reads as it did. -/
def fnTurnOfUptoRow : OpenClaim := { program := "ytbbaadnadpmfeaa", sum := "24be50cf2e11cc7a2f3820f68b6bf1be97cc6ced6f664ec5d5a9312a7ba09685", func := "loop.example/turningwheels/laws.FnTurnOf", spec := "fnTurnOf", apart := false, narrowed := true }
def FnTurnOfUptoSaid : Prop := fnTurnOfUptoRow.holds Try.pinned (OpenSpec.upto fnTurnOfSpec)

/-- 'laws.FnTurnAdd', WHERE WHAT IT READS IS OF BULK AT MOST 1048576: true; the input reads as it did. -/
def fnTurnAddUptoRow : OpenClaim := { program := "ytbbaadnadpmfeaa", sum := "24be50cf2e11cc7a2f3820f68b6bf1be97cc6ced6f664ec5d5a9312a7ba09685", func := "loop.example/turningwheels/laws.FnTurnAdd", spec := "fnTurnAdd", apart := false, narrowed := true }
def FnTurnAddUptoSaid : Prop := fnTurnAddUptoRow.holds Try.pinned (OpenSpec.upto fnTurnAddSpec)

/-- 'laws.FnTurnTimes', WHERE WHAT IT READS IS OF BULK AT MOST 1048576: true; the input reads as it did. -/
def fnTurnTimesUptoRow : OpenClaim := { program := "ytbbaadnadpmfeaa", sum := "24be50cf2e11cc7a2f3820f68b6bf1be97cc6ced6f664ec5d5a9312a7ba09685", func := "loop.example/turningwheels/laws.FnTurnTimes", spec := "fnTurnTimes", apart := false, narrowed := true }
def FnTurnTimesUptoSaid : Prop := fnTurnTimesUptoRow.holds Try.pinned (OpenSpec.upto fnTurnTimesSpec)

/-- 'laws.FnOrder', WHERE WHAT IT READS IS OF BULK AT MOST 1048576: true; the input reads as it did. -/
def fnOrderUptoRow : OpenClaim := { program := "ytbbaadnadpmfeaa", sum := "24be50cf2e11cc7a2f3820f68b6bf1be97cc6ced6f664ec5d5a9312a7ba09685", func := "loop.example/turningwheels/laws.FnOrder", spec := "fnOrder", apart := false, narrowed := true }
def FnOrderUptoSaid : Prop := fnOrderUptoRow.holds Try.pinned (OpenSpec.upto fnOrderSpec)

/-- 'laws.FnGroup', WHERE WHAT IT READS IS OF BULK AT MOST 1048576: true; the input reads as it did. -/
def fnGroupUptoRow : OpenClaim := { program := "ytbbaadnadpmfeaa", sum := "24be50cf2e11cc7a2f3820f68b6bf1be97cc6ced6f664ec5d5a9312a7ba09685", func := "loop.example/turningwheels/laws.FnGroup", spec := "fnGroup", apart := false, narrowed := true }
def FnGroupUptoSaid : Prop := fnGroupUptoRow.holds Try.pinned (OpenSpec.upto fnGroupSpec)

end Rows
end Go.Proofs.Ytbbaadnadpmfeaa
