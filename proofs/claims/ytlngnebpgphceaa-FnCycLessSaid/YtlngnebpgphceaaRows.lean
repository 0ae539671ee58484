/-
  No cell of these rows narrows 'for every input' (looked for: loops, veiled, ifaces, maps, wideKeys, modest, calm, conditions, laid).
  DERIVED. THE GIVEN ROWS OF THIS SEAT. 4 by the template 'for every input the law returns true; each argument reads behind the call as it read before'; 0 by the template 'total and deterministic' (their statements: YtlngnebpgphceaaTotals.lean).
  GIVEN WITH THE SEED: the statements are not yours to turn. If you find one false, say at which input.
  Laid BY PROGRAM, IN A SANDBOX (cutbox-rows.mjs): the forced cells as the released guide's own fill.sh prints them over the translation f1e85039e66a183e… (all of the seat's roots in one cut). By AI agents, Wed Nov 11 2026. No macro, syntax, notation, axiom, sorry.
-/
import Derived.Test.YtlngnebpgphceaaChecked
import GoSem.Claim
import GoSem.ClaimJoined
import GoSem.ClaimMapViews
import Derived.JoinedTies
import Derived.KernelRfl
namespace Go.Proofs.Ytlngnebpgphceaa
/- THE CELL 'sum', in the pinned program and in every row, IS THE sha256 OF THE DUMP (.gsa) THAT YtlngnebpgphceaaProg.lean LOADS. Nothing in Lean hashes anything: it is a label: what it is worth is what the hold of that sum in a sandbox is worth. -/
noncomputable def Try.pinned : Pinned := { name := "ytlngnebpgphceaa", sum := "f1e85039e66a183e894d3b3cf4d3539064a2ef1acb2b16044bc02d97aae2ec6b", checked := Try.checked }
namespace Rows
def none {H : Type} : Left H := { results := [], args := [] }

/-- 'laws.FnCyc': WHATEVER THE INPUT: true; the input reads as it did. -/
def fnCycSpec : ChangeSpec := { name := "fnCyc", fn := fun _ => fun
  | [d] => { results := [.lit (.bool true)], args := [d] }
  | _ => none }
def fnCycRow : OpenClaim := { program := "ytlngnebpgphceaa", sum := "f1e85039e66a183e894d3b3cf4d3539064a2ef1acb2b16044bc02d97aae2ec6b", func := "loop.example/turningwheels/laws.FnCyc", spec := "fnCyc", apart := false }
def FnCycSaid : Prop := fnCycRow.holds Try.pinned (OpenSpec.ofChange fnCycSpec)

/-- ITS FALSE NEIGHBOUR: 'it returns false'. Refute it at one input. -/
def fnCycWrong : ChangeSpec := { name := "fnCyc", fn := fun _ => fun
  | [d] => { results := [.lit (.bool false)], args := [d] }
  | _ => none }
def FnCycWrongFalsely : Prop := fnCycRow.holds Try.pinned (OpenSpec.ofChange fnCycWrong)

/-- 'laws.FnScale': WHATEVER THE INPUT: true; the input reads as it did. -/
def fnScaleSpec : ChangeSpec := { name := "fnScale", fn := fun _ => fun
  | [d] => { results := [.lit (.bool true)], args := [d] }
  | _ => none }
def fnScaleRow : OpenClaim := { program := "ytlngnebpgphceaa", sum := "f1e85039e66a183e894d3b3cf4d3539064a2ef1acb2b16044bc02d97aae2ec6b", func := "loop.example/turningwheels/laws.FnScale", spec := "fnScale", apart := false }
def FnScaleSaid : Prop := fnScaleRow.holds Try.pinned (OpenSpec.ofChange fnScaleSpec)

/-- ITS FALSE NEIGHBOUR: 'it returns false'. Refute it at one input. -/
def fnScaleWrong : ChangeSpec := { name := "fnScale", fn := fun _ => fun
  | [d] => { results := [.lit (.bool false)], args := [d] }
  | _ => none }
def FnScaleWrongFalsely : Prop := fnScaleRow.holds Try.pinned (OpenSpec.ofChange fnScaleWrong)

/-- 'laws.FnCycAdd': WHATEVER THE INPUT: true; the input reads as it did. -/
def fnCycAddSpec : ChangeSpec := { name := "fnCycAdd", fn := fun _ => fun
  | [d] => { results := [.lit (.bool true)], args := [d] }
  | _ => none }
def fnCycAddRow : OpenClaim := { program := "ytlngnebpgphceaa", sum := "f1e85039e66a183e894d3b3cf4d3539064a2ef1acb2b16044bc02d97aae2ec6b", func := "loop.example/turningwheels/laws.FnCycAdd", spec := "fnCycAdd", apart := false }
def FnCycAddSaid : Prop := fnCycAddRow.holds Try.pinned (OpenSpec.ofChange fnCycAddSpec)

/-- ITS FALSE NEIGHBOUR: 'it returns false'. Refute it at one input. -/
def fnCycAddWrong : ChangeSpec := { name := "fnCycAdd", fn := fun _ => fun
  | [d] => { results := [.lit (.bool false)], args := [d] }
  | _ => none }
def FnCycAddWrongFalsely : Prop := fnCycAddRow.holds Try.pinned (OpenSpec.ofChange fnCycAddWrong)

/-- 'laws.FnCycLess': WHATEVER THE INPUT: true; the input reads as it did. -/
def fnCycLessSpec : ChangeSpec := { name := "fnCycLess", fn := fun _ => fun
  | [d] => { results := [.lit (.bool true)], args := [d] }
  | _ => none }
def fnCycLessRow : OpenClaim := { program := "ytlngnebpgphceaa", sum := "f1e85039e66a183e894d3b3cf4d3539064a2ef1acb2b16044bc02d97aae2ec6b", func := "loop.example/turningwheels/laws.FnCycLess", spec := "fnCycLess", apart := false }
def FnCycLessSaid : Prop := fnCycLessRow.holds Try.pinned (OpenSpec.ofChange fnCycLessSpec)

/-- ITS FALSE NEIGHBOUR: 'it returns false'. Refute it at one input. -/
def fnCycLessWrong : ChangeSpec := { name := "fnCycLess", fn := fun _ => fun
  | [d] => { results := [.lit (.bool false)], args := [d] }
  | _ => none }
def FnCycLessWrongFalsely : Prop := fnCycLessRow.holds Try.pinned (OpenSpec.ofChange fnCycLessWrong)

/- THE SECOND FORM. 'bulk': how many values and letters a reading holds, each counted each time it is reached (what is shared counts as often as it is met; a slice's spare places count too). A statement '..UptoSaid' is the law's where the arguments, and the package variables that the reading takes, are together of bulk at most 1048576: NARROWER than '..Said'. Prove '..Said' where nothing that the law and all that it calls make is longer than what came in: it says more and counts as full. Else prove '..UptoSaid'. A law counts once. -/
mutual
def uptoBulk {H : Type} : DataW H → Nat
  | .lit (.string bytes) => bytes.length + 1
  | .lit _ => 1
  | .nil => 1
  | .ptr d => uptoBulk d + 1
  | .slice elems spare => uptoBulkAll elems + uptoBulkAll spare + 1
  | .agg parts => uptoBulkAll parts + 1
  | .iface _ d => uptoBulk d + 1
  | .map entries => uptoBulkEntries entries + 1
  | .held _ => 1
def uptoBulkAll {H : Type} : List (DataW H) → Nat
  | [] => 0
  | d :: r => uptoBulk d + uptoBulkAll r
def uptoBulkEntries {H : Type} : List (Lit × DataW H) → Nat
  | [] => 0
  | x :: r => uptoBulkEntry x + uptoBulkEntries r
def uptoBulkEntry {H : Type} : Lit × DataW H → Nat
  | (.string bytes, d) => bytes.length + uptoBulk d + 1
  | (_, d) => uptoBulk d + 1
 end
def uptoSmall : (H : Type) → List (DataW H) → Bool := fun _ ds => decide (uptoBulkAll ds ≤ 1048576)
def OpenSpec.upto (s : _root_.Go.ChangeSpec) : _root_.Go.OpenSpec := { _root_.Go.OpenSpec.ofChange s with cond := some uptoSmall }

/-- 'laws.FnCyc', WHERE WHAT IT READS IS OF BULK AT MOST 1048576: true; the input reads as it did. -/
def fnCycUptoRow : OpenClaim := { program := "ytlngnebpgphceaa", sum := "f1e85039e66a183e894d3b3cf4d3539064a2ef1acb2b16044bc02d97aae2ec6b", func := "loop.example/turningwheels/laws.FnCyc", spec := "fnCyc", apart := false, narrowed := true }
def FnCycUptoSaid : Prop := fnCycUptoRow.holds Try.pinned (OpenSpec.upto fnCycSpec)

/-- 'laws.FnScale', WHERE WHAT IT READS IS OF BULK AT MOST 1048576: true; the input reads as it did. -/
def fnScaleUptoRow : OpenClaim := { program := "ytlngnebpgphceaa", sum := "f1e85039e66a183e894d3b3cf4d3539064a2ef1acb2b16044bc02d97aae2ec6b", func := "loop.example/turningwheels/laws.FnScale", spec := "fnScale", apart := false, narrowed := true }
def FnScaleUptoSaid : Prop := fnScaleUptoRow.holds Try.pinned (OpenSpec.upto fnScaleSpec)

/-- 'laws.FnCycAdd', WHERE WHAT IT READS IS OF BULK AT MOST 1048576: true; the input reads as it did. -/
def fnCycAddUptoRow : OpenClaim := { program := "ytlngnebpgphceaa", sum := "f1e85039e66a183e894d3b3cf4d3539064a2ef1acb2b16044bc02d97aae2ec6b", func := "loop.example/turningwheels/laws.FnCycAdd", spec := "fnCycAdd", apart := false, narrowed := true }
def FnCycAddUptoSaid : Prop := fnCycAddUptoRow.holds Try.pinned (OpenSpec.upto fnCycAddSpec)

/-- 'laws.FnCycLess', WHERE WHAT IT READS IS OF BULK AT MOST 1048576: true; the input reads as it did. -/
def fnCycLessUptoRow : OpenClaim := { program := "ytlngnebpgphceaa", sum := "f1e85039e66a183e894d3b3cf4d3539064a2ef1acb2b16044bc02d97aae2ec6b", func := "loop.example/turningwheels/laws.FnCycLess", spec := "fnCycLess", apart := false, narrowed := true }
def FnCycLessUptoSaid : Prop := fnCycLessUptoRow.holds Try.pinned (OpenSpec.upto fnCycLessSpec)

end Rows
end Go.Proofs.Ytlngnebpgphceaa
