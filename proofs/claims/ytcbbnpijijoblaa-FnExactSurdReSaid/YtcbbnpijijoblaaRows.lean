/-
  No cell of these rows narrows 'for every input' (looked for: loops, veiled, ifaces, maps, wideKeys, modest, calm, conditions, laid).
  DERIVED. THE GIVEN ROWS OF THIS SEAT. 9 by the template 'for every input the law returns true; each argument reads behind the call as it read before'; 0 by the template 'total and deterministic' (their statements: YtcbbnpijijoblaaTotals.lean).
  GIVEN WITH THE SEED: the statements are not yours to turn. If you find one false, say at which input.
  Laid BY PROGRAM, IN A SANDBOX (cutbox-rows.mjs): the forced cells as the released guide's own fill.sh prints them over the translation a372d791eb13c57b… (all of the seat's roots in one cut). By AI agents, Wed Nov 11 2026. No macro, syntax, notation, axiom, sorry.
-/
import Derived.Test.YtcbbnpijijoblaaChecked
import GoSem.Claim
import GoSem.ClaimJoined
import GoSem.ClaimMapViews
import Derived.JoinedTies
import Derived.KernelRfl
namespace Go.Proofs.Ytcbbnpijijoblaa
/- THE CELL 'sum', in the pinned program and in every row, IS THE sha256 OF THE DUMP (.gsa) THAT YtcbbnpijijoblaaProg.lean LOADS. Nothing in Lean hashes anything: it is a label: what it is worth is what the hold of that sum in a sandbox is worth. -/
noncomputable def Try.pinned : Pinned := { name := "ytcbbnpijijoblaa", sum := "a372d791eb13c57b6697d0c54ec7b86b3a46e88db2d41d6b3291d034e187b3c3", checked := Try.checked }
namespace Rows
def none {H : Type} : Left H := { results := [], args := [] }

/-- 'laws.FnExactCycValid': WHATEVER THE INPUT: true; the input reads as it did. -/
def fnExactCycValidSpec : ChangeSpec := { name := "fnExactCycValid", fn := fun _ => fun
  | [d] => { results := [.lit (.bool true)], args := [d] }
  | _ => none }
def fnExactCycValidRow : OpenClaim := { program := "ytcbbnpijijoblaa", sum := "a372d791eb13c57b6697d0c54ec7b86b3a46e88db2d41d6b3291d034e187b3c3", func := "loop.example/turningwheels/laws.FnExactCycValid", spec := "fnExactCycValid", apart := false }
def FnExactCycValidSaid : Prop := fnExactCycValidRow.holds Try.pinned (OpenSpec.ofChange fnExactCycValidSpec)

/-- ITS FALSE NEIGHBOUR: 'it returns false'. Refute it at one input. -/
def fnExactCycValidWrong : ChangeSpec := { name := "fnExactCycValid", fn := fun _ => fun
  | [d] => { results := [.lit (.bool false)], args := [d] }
  | _ => none }
def FnExactCycValidWrongFalsely : Prop := fnExactCycValidRow.holds Try.pinned (OpenSpec.ofChange fnExactCycValidWrong)

/-- 'laws.FnExactCycGauss': WHATEVER THE INPUT: true; the input reads as it did. -/
def fnExactCycGaussSpec : ChangeSpec := { name := "fnExactCycGauss", fn := fun _ => fun
  | [d1, d2] => { results := [.lit (.bool true)], args := [d1, d2] }
  | _ => none }
def fnExactCycGaussRow : OpenClaim := { program := "ytcbbnpijijoblaa", sum := "a372d791eb13c57b6697d0c54ec7b86b3a46e88db2d41d6b3291d034e187b3c3", func := "loop.example/turningwheels/laws.FnExactCycGauss", spec := "fnExactCycGauss", apart := false }
def FnExactCycGaussSaid : Prop := fnExactCycGaussRow.holds Try.pinned (OpenSpec.ofChange fnExactCycGaussSpec)

/-- ITS FALSE NEIGHBOUR: 'it returns false'. Refute it at one input. -/
def fnExactCycGaussWrong : ChangeSpec := { name := "fnExactCycGauss", fn := fun _ => fun
  | [d1, d2] => { results := [.lit (.bool false)], args := [d1, d2] }
  | _ => none }
def FnExactCycGaussWrongFalsely : Prop := fnExactCycGaussRow.holds Try.pinned (OpenSpec.ofChange fnExactCycGaussWrong)

/-- 'laws.FnExactCycRoot': WHATEVER THE INPUT: true; the input reads as it did. -/
def fnExactCycRootSpec : ChangeSpec := { name := "fnExactCycRoot", fn := fun _ => fun
  | [d] => { results := [.lit (.bool true)], args := [d] }
  | _ => none }
def fnExactCycRootRow : OpenClaim := { program := "ytcbbnpijijoblaa", sum := "a372d791eb13c57b6697d0c54ec7b86b3a46e88db2d41d6b3291d034e187b3c3", func := "loop.example/turningwheels/laws.FnExactCycRoot", spec := "fnExactCycRoot", apart := false }
def FnExactCycRootSaid : Prop := fnExactCycRootRow.holds Try.pinned (OpenSpec.ofChange fnExactCycRootSpec)

/-- ITS FALSE NEIGHBOUR: 'it returns false'. Refute it at one input. -/
def fnExactCycRootWrong : ChangeSpec := { name := "fnExactCycRoot", fn := fun _ => fun
  | [d] => { results := [.lit (.bool false)], args := [d] }
  | _ => none }
def FnExactCycRootWrongFalsely : Prop := fnExactCycRootRow.holds Try.pinned (OpenSpec.ofChange fnExactCycRootWrong)

/-- 'laws.FnExactCycAdd': WHATEVER THE INPUT: true; the input reads as it did. -/
def fnExactCycAddSpec : ChangeSpec := { name := "fnExactCycAdd", fn := fun _ => fun
  | [d1, d2] => { results := [.lit (.bool true)], args := [d1, d2] }
  | _ => none }
def fnExactCycAddRow : OpenClaim := { program := "ytcbbnpijijoblaa", sum := "a372d791eb13c57b6697d0c54ec7b86b3a46e88db2d41d6b3291d034e187b3c3", func := "loop.example/turningwheels/laws.FnExactCycAdd", spec := "fnExactCycAdd", apart := false }
def FnExactCycAddSaid : Prop := fnExactCycAddRow.holds Try.pinned (OpenSpec.ofChange fnExactCycAddSpec)

/-- ITS FALSE NEIGHBOUR: 'it returns false'. Refute it at one input. -/
def fnExactCycAddWrong : ChangeSpec := { name := "fnExactCycAdd", fn := fun _ => fun
  | [d1, d2] => { results := [.lit (.bool false)], args := [d1, d2] }
  | _ => none }
def FnExactCycAddWrongFalsely : Prop := fnExactCycAddRow.holds Try.pinned (OpenSpec.ofChange fnExactCycAddWrong)

/-- 'laws.FnExactCycScale': WHATEVER THE INPUT: true; the input reads as it did. -/
def fnExactCycScaleSpec : ChangeSpec := { name := "fnExactCycScale", fn := fun _ => fun
  | [d1, d2] => { results := [.lit (.bool true)], args := [d1, d2] }
  | _ => none }
def fnExactCycScaleRow : OpenClaim := { program := "ytcbbnpijijoblaa", sum := "a372d791eb13c57b6697d0c54ec7b86b3a46e88db2d41d6b3291d034e187b3c3", func := "loop.example/turningwheels/laws.FnExactCycScale", spec := "fnExactCycScale", apart := false }
def FnExactCycScaleSaid : Prop := fnExactCycScaleRow.holds Try.pinned (OpenSpec.ofChange fnExactCycScaleSpec)

/-- ITS FALSE NEIGHBOUR: 'it returns false'. Refute it at one input. -/
def fnExactCycScaleWrong : ChangeSpec := { name := "fnExactCycScale", fn := fun _ => fun
  | [d1, d2] => { results := [.lit (.bool false)], args := [d1, d2] }
  | _ => none }
def FnExactCycScaleWrongFalsely : Prop := fnExactCycScaleRow.holds Try.pinned (OpenSpec.ofChange fnExactCycScaleWrong)

/-- 'laws.FnExactCycLess': WHATEVER THE INPUT: true; the input reads as it did. -/
def fnExactCycLessSpec : ChangeSpec := { name := "fnExactCycLess", fn := fun _ => fun
  | [d1, d2] => { results := [.lit (.bool true)], args := [d1, d2] }
  | _ => none }
def fnExactCycLessRow : OpenClaim := { program := "ytcbbnpijijoblaa", sum := "a372d791eb13c57b6697d0c54ec7b86b3a46e88db2d41d6b3291d034e187b3c3", func := "loop.example/turningwheels/laws.FnExactCycLess", spec := "fnExactCycLess", apart := false }
def FnExactCycLessSaid : Prop := fnExactCycLessRow.holds Try.pinned (OpenSpec.ofChange fnExactCycLessSpec)

/-- ITS FALSE NEIGHBOUR: 'it returns false'. Refute it at one input. -/
def fnExactCycLessWrong : ChangeSpec := { name := "fnExactCycLess", fn := fun _ => fun
  | [d1, d2] => { results := [.lit (.bool false)], args := [d1, d2] }
  | _ => none }
def FnExactCycLessWrongFalsely : Prop := fnExactCycLessRow.holds Try.pinned (OpenSpec.ofChange fnExactCycLessWrong)

/-- 'laws.FnExactSurdAdd': WHATEVER THE INPUT: true; the input reads as it did. -/
def fnExactSurdAddSpec : ChangeSpec := { name := "fnExactSurdAdd", fn := fun _ => fun
  | [d1, d2] => { results := [.lit (.bool true)], args := [d1, d2] }
  | _ => none }
def fnExactSurdAddRow : OpenClaim := { program := "ytcbbnpijijoblaa", sum := "a372d791eb13c57b6697d0c54ec7b86b3a46e88db2d41d6b3291d034e187b3c3", func := "loop.example/turningwheels/laws.FnExactSurdAdd", spec := "fnExactSurdAdd", apart := false }
def FnExactSurdAddSaid : Prop := fnExactSurdAddRow.holds Try.pinned (OpenSpec.ofChange fnExactSurdAddSpec)

/-- ITS FALSE NEIGHBOUR: 'it returns false'. Refute it at one input. -/
def fnExactSurdAddWrong : ChangeSpec := { name := "fnExactSurdAdd", fn := fun _ => fun
  | [d1, d2] => { results := [.lit (.bool false)], args := [d1, d2] }
  | _ => none }
def FnExactSurdAddWrongFalsely : Prop := fnExactSurdAddRow.holds Try.pinned (OpenSpec.ofChange fnExactSurdAddWrong)

/-- 'laws.FnExactSurdIm': WHATEVER THE INPUT: true; the input reads as it did. -/
def fnExactSurdImSpec : ChangeSpec := { name := "fnExactSurdIm", fn := fun _ => fun
  | [d] => { results := [.lit (.bool true)], args := [d] }
  | _ => none }
def fnExactSurdImRow : OpenClaim := { program := "ytcbbnpijijoblaa", sum := "a372d791eb13c57b6697d0c54ec7b86b3a46e88db2d41d6b3291d034e187b3c3", func := "loop.example/turningwheels/laws.FnExactSurdIm", spec := "fnExactSurdIm", recurses := true, apart := false }
def FnExactSurdImSaid : Prop := fnExactSurdImRow.holds Try.pinned (OpenSpec.ofChange fnExactSurdImSpec)

/-- ITS FALSE NEIGHBOUR: 'it returns false'. Refute it at one input. -/
def fnExactSurdImWrong : ChangeSpec := { name := "fnExactSurdIm", fn := fun _ => fun
  | [d] => { results := [.lit (.bool false)], args := [d] }
  | _ => none }
def FnExactSurdImWrongFalsely : Prop := fnExactSurdImRow.holds Try.pinned (OpenSpec.ofChange fnExactSurdImWrong)

/-- 'laws.FnExactSurdRe': WHATEVER THE INPUT: true; the input reads as it did. -/
def fnExactSurdReSpec : ChangeSpec := { name := "fnExactSurdRe", fn := fun _ => fun
  | [d] => { results := [.lit (.bool true)], args := [d] }
  | _ => none }
def fnExactSurdReRow : OpenClaim := { program := "ytcbbnpijijoblaa", sum := "a372d791eb13c57b6697d0c54ec7b86b3a46e88db2d41d6b3291d034e187b3c3", func := "loop.example/turningwheels/laws.FnExactSurdRe", spec := "fnExactSurdRe", recurses := true, apart := false }
def FnExactSurdReSaid : Prop := fnExactSurdReRow.holds Try.pinned (OpenSpec.ofChange fnExactSurdReSpec)

/-- ITS FALSE NEIGHBOUR: 'it returns false'. Refute it at one input. -/
def fnExactSurdReWrong : ChangeSpec := { name := "fnExactSurdRe", fn := fun _ => fun
  | [d] => { results := [.lit (.bool false)], args := [d] }
  | _ => none }
def FnExactSurdReWrongFalsely : Prop := fnExactSurdReRow.holds Try.pinned (OpenSpec.ofChange fnExactSurdReWrong)

/- THE SECOND FORM. 'bulk': how many values and letters a reading holds, each counted each time it is reached (what is shared counts as often as it is met; a slice's spare places count too). A statement '..UptoSaid' is the law's where the arguments, and the package variables that the reading takes, are together of bulk at most 1048576: NARROWER than '..Said'. Prove '..Said' where nothing that the law and all that it calls make is longer than what came in: it says more and counts as full. Else prove '..UptoSaid'. A law counts once. -/
mutual
def uptoBulk {H : Type} : DataW H → Nat
  | .lit (.string bytes) => bytes.length + 1
  | .lit _ => 1
  | .nil => 1
  | .ptr d => uptoBulk d + 1
  | .slice elems spare => uptoBulkAll elems + uptoBulkAll spare + 1
  | .agg parts => uptoBulkAll parts + 1
  | .iface _ d => uptoBulk d + 1
  | .map entries => uptoBulkEntries entries + 1
  | .held _ => 1
def uptoBulkAll {H : Type} : List (DataW H) → Nat
  | [] => 0
  | d :: r => uptoBulk d + uptoBulkAll r
def uptoBulkEntries {H : Type} : List (Lit × DataW H) → Nat
  | [] => 0
  | x :: r => uptoBulkEntry x + uptoBulkEntries r
def uptoBulkEntry {H : Type} : Lit × DataW H → Nat
  | (.string bytes, d) => bytes.length + uptoBulk d + 1
  | (_, d) => uptoBulk d + 1
 end
def uptoSmall : (H : Type) → List (DataW H) → Bool := fun _ ds => decide (uptoBulkAll ds ≤ 1048576)
def OpenSpec.upto (s : _root_.Go.ChangeSpec) : _root_.Go.OpenSpec := { _root_.Go.OpenSpec.ofChange s with cond := some uptoSmall }

/-- 'laws.FnExactCycValid', WHERE WHAT IT READS IS OF BULK AT MOST 1048576: true; the input reads as it did. -/
def fnExactCycValidUptoRow : OpenClaim := { program := "ytcbbnpijijoblaa", sum := "a372d791eb13c57b6697d0c54ec7b86b3a46e88db2d41d6b3291d034e187b3c3", func := "loop.example/turningwheels/laws.FnExactCycValid", spec := "fnExactCycValid", apart := false, narrowed := true }
def FnExactCycValidUptoSaid : Prop := fnExactCycValidUptoRow.holds Try.pinned (OpenSpec.upto fnExactCycValidSpec)

/-- 'laws.FnExactCycGauss', WHERE WHAT IT READS IS OF BULK AT MOST 1048576: true; the input reads as it did. -/
def fnExactCycGaussUptoRow : OpenClaim := { program := "ytcbbnpijijoblaa", sum := "a372d791eb13c57b6697d0c54ec7b86b3a46e88db2d41d6b3291d034e187b3c3", func := "loop.example/turningwheels/laws.FnExactCycGauss", spec := "fnExactCycGauss", apart := false, narrowed := true }
def FnExactCycGaussUptoSaid : Prop := fnExactCycGaussUptoRow.holds Try.pinned (OpenSpec.upto fnExactCycGaussSpec)

/-- 'laws.FnExactCycRoot', WHERE WHAT IT READS IS OF BULK AT MOST 1048576: true; the input reads as it did. -/
def fnExactCycRootUptoRow : OpenClaim := { program := "ytcbbnpijijoblaa", sum := "a372d791eb13c57b6697d0c54ec7b86b3a46e88db2d41d6b3291d034e187b3c3", func := "loop.example/turningwheels/laws.FnExactCycRoot", spec := "fnExactCycRoot", apart := false, narrowed := true }
def FnExactCycRootUptoSaid : Prop := fnExactCycRootUptoRow.holds Try.pinned (OpenSpec.upto fnExactCycRootSpec)

/-- 'laws.FnExactCycAdd', WHERE WHAT IT READS IS OF BULK AT MOST 1048576: true; the input reads as it did. -/
def fnExactCycAddUptoRow : OpenClaim := { program := "ytcbbnpijijoblaa", sum := "a372d791eb13c57b6697d0c54ec7b86b3a46e88db2d41d6b3291d034e187b3c3", func := "loop.example/turningwheels/laws.FnExactCycAdd", spec := "fnExactCycAdd", apart := false, narrowed := true }
def FnExactCycAddUptoSaid : Prop := fnExactCycAddUptoRow.holds Try.pinned (OpenSpec.upto fnExactCycAddSpec)

/-- 'laws.FnExactCycScale', WHERE WHAT IT READS IS OF BULK AT MOST 1048576: true; the input reads as it did. -/
def fnExactCycScaleUptoRow : OpenClaim := { program := "ytcbbnpijijoblaa", sum := "a372d791eb13c57b6697d0c54ec7b86b3a46e88db2d41d6b3291d034e187b3c3", func := "loop.example/turningwheels/laws.FnExactCycScale", spec := "fnExactCycScale", apart := false, narrowed := true }
def FnExactCycScaleUptoSaid : Prop := fnExactCycScaleUptoRow.holds Try.pinned (OpenSpec.upto fnExactCycScaleSpec)

/-- 'laws.FnExactCycLess', WHERE WHAT IT READS IS OF BULK AT MOST 1048576: true; the input reads as it did. -/
def fnExactCycLessUptoRow : OpenClaim := { program := "ytcbbnpijijoblaa", sum := "a372d791eb13c57b6697d0c54ec7b86b3a46e88db2d41d6b3291d034e187b3c3", func := "loop.example/turningwheels/laws.FnExactCycLess", spec := "fnExactCycLess", apart := false, narrowed := true }
def FnExactCycLessUptoSaid : Prop := fnExactCycLessUptoRow.holds Try.pinned (OpenSpec.upto fnExactCycLessSpec)

/-- 'laws.FnExactSurdAdd', WHERE WHAT IT READS IS OF BULK AT MOST 1048576: true; the input reads as it did. -/
def fnExactSurdAddUptoRow : OpenClaim := { program := "ytcbbnpijijoblaa", sum := "a372d791eb13c57b6697d0c54ec7b86b3a46e88db2d41d6b3291d034e187b3c3", func := "loop.example/turningwheels/laws.FnExactSurdAdd", spec := "fnExactSurdAdd", apart := false, narrowed := true }
def FnExactSurdAddUptoSaid : Prop := fnExactSurdAddUptoRow.holds Try.pinned (OpenSpec.upto fnExactSurdAddSpec)

/-- 'laws.FnExactSurdIm', WHERE WHAT IT READS IS OF BULK AT MOST 1048576: true; the input reads as it did. -/
def fnExactSurdImUptoRow : OpenClaim := { program := "ytcbbnpijijoblaa", sum := "a372d791eb13c57b6697d0c54ec7b86b3a46e88db2d41d6b3291d034e187b3c3", func := "loop.example/turningwheels/laws.FnExactSurdIm", spec := "fnExactSurdIm", recurses := true, apart := false, narrowed := true }
def FnExactSurdImUptoSaid : Prop := fnExactSurdImUptoRow.holds Try.pinned (OpenSpec.upto fnExactSurdImSpec)

/-- 'laws.FnExactSurdRe', WHERE WHAT IT READS IS OF BULK AT MOST 1048576: true; the input reads as it did. -/
def fnExactSurdReUptoRow : OpenClaim := { program := "ytcbbnpijijoblaa", sum := "a372d791eb13c57b6697d0c54ec7b86b3a46e88db2d41d6b3291d034e187b3c3", func := "loop.example/turningwheels/laws.FnExactSurdRe", spec := "fnExactSurdRe", recurses := true, apart := false, narrowed := true }
def FnExactSurdReUptoSaid : Prop := fnExactSurdReUptoRow.holds Try.pinned (OpenSpec.upto fnExactSurdReSpec)

end Rows
end Go.Proofs.Ytcbbnpijijoblaa
