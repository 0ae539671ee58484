/-
  No cell of these rows narrows 'for every input' (looked for: loops, veiled, ifaces, maps, wideKeys, modest, calm, conditions, laid).
  DERIVED. THE GIVEN ROWS OF THIS SEAT. 8 by the template 'for every input the law returns true; each argument reads behind the call as it read before'; 0 by the template 'total and deterministic' (their statements: YthgmgjjjgllbjaaTotals.lean).
  GIVEN WITH THE SEED: the statements are not yours to turn. If you find one false, say at which input.
  Laid BY PROGRAM, IN A SANDBOX (cutbox-rows.mjs): the forced cells as the released guide's own fill.sh prints them over the translation 2db259f7a97d4913… (all of the seat's roots in one cut). By AI agents, Wed Nov 11 2026. No macro, syntax, notation, axiom, sorry.
-/
import Derived.Test.YthgmgjjjgllbjaaChecked
import GoSem.Claim
import GoSem.ClaimJoined
import GoSem.ClaimMapViews
import Derived.JoinedTies
import Derived.KernelRfl
namespace Go.Proofs.Ythgmgjjjgllbjaa
/- THE CELL 'sum', in the pinned program and in every row, IS THE sha256 OF THE DUMP (.gsa) THAT YthgmgjjjgllbjaaProg.lean LOADS. Nothing in Lean hashes anything: it is a label: what it is worth is what the hold of that sum in a sandbox is worth. -/
noncomputable def Try.pinned : Pinned := { name := "ythgmgjjjgllbjaa", sum := "2db259f7a97d49133888c21820f1d7a99e73e8a63e281765117167e959372815", checked := Try.checked }
namespace Rows
def none {H : Type} : Left H := { results := [], args := [] }

/-- 'laws.FnExactSurdSign': WHATEVER THE INPUT: true; the input reads as it did. -/
def fnExactSurdSignSpec : ChangeSpec := { name := "fnExactSurdSign", fn := fun _ => fun
  | [d] => { results := [.lit (.bool true)], args := [d] }
  | _ => none }
def fnExactSurdSignRow : OpenClaim := { program := "ythgmgjjjgllbjaa", sum := "2db259f7a97d49133888c21820f1d7a99e73e8a63e281765117167e959372815", func := "loop.example/turningwheels/laws.FnExactSurdSign", spec := "fnExactSurdSign", apart := false }
def FnExactSurdSignSaid : Prop := fnExactSurdSignRow.holds Try.pinned (OpenSpec.ofChange fnExactSurdSignSpec)

/-- ITS FALSE NEIGHBOUR: 'it returns false'. Refute it at one input. -/
def fnExactSurdSignWrong : ChangeSpec := { name := "fnExactSurdSign", fn := fun _ => fun
  | [d] => { results := [.lit (.bool false)], args := [d] }
  | _ => none }
def FnExactSurdSignWrongFalsely : Prop := fnExactSurdSignRow.holds Try.pinned (OpenSpec.ofChange fnExactSurdSignWrong)

/-- 'laws.FnExactSurdCompare': WHATEVER THE INPUT: true; the input reads as it did. -/
def fnExactSurdCompareSpec : ChangeSpec := { name := "fnExactSurdCompare", fn := fun _ => fun
  | [d1, d2] => { results := [.lit (.bool true)], args := [d1, d2] }
  | _ => none }
def fnExactSurdCompareRow : OpenClaim := { program := "ythgmgjjjgllbjaa", sum := "2db259f7a97d49133888c21820f1d7a99e73e8a63e281765117167e959372815", func := "loop.example/turningwheels/laws.FnExactSurdCompare", spec := "fnExactSurdCompare", apart := false }
def FnExactSurdCompareSaid : Prop := fnExactSurdCompareRow.holds Try.pinned (OpenSpec.ofChange fnExactSurdCompareSpec)

/-- ITS FALSE NEIGHBOUR: 'it returns false'. Refute it at one input. -/
def fnExactSurdCompareWrong : ChangeSpec := { name := "fnExactSurdCompare", fn := fun _ => fun
  | [d1, d2] => { results := [.lit (.bool false)], args := [d1, d2] }
  | _ => none }
def FnExactSurdCompareWrongFalsely : Prop := fnExactSurdCompareRow.holds Try.pinned (OpenSpec.ofChange fnExactSurdCompareWrong)

/-- 'laws.FnSurd': WHATEVER THE INPUT: true; the input reads as it did. -/
def fnSurdSpec : ChangeSpec := { name := "fnSurd", fn := fun _ => fun
  | [d] => { results := [.lit (.bool true)], args := [d] }
  | _ => none }
def fnSurdRow : OpenClaim := { program := "ythgmgjjjgllbjaa", sum := "2db259f7a97d49133888c21820f1d7a99e73e8a63e281765117167e959372815", func := "loop.example/turningwheels/laws.FnSurd", spec := "fnSurd", apart := false }
def FnSurdSaid : Prop := fnSurdRow.holds Try.pinned (OpenSpec.ofChange fnSurdSpec)

/-- ITS FALSE NEIGHBOUR: 'it returns false'. Refute it at one input. -/
def fnSurdWrong : ChangeSpec := { name := "fnSurd", fn := fun _ => fun
  | [d] => { results := [.lit (.bool false)], args := [d] }
  | _ => none }
def FnSurdWrongFalsely : Prop := fnSurdRow.holds Try.pinned (OpenSpec.ofChange fnSurdWrong)

/-- 'laws.FnSurdAdd': WHATEVER THE INPUT: true; the input reads as it did. -/
def fnSurdAddSpec : ChangeSpec := { name := "fnSurdAdd", fn := fun _ => fun
  | [d] => { results := [.lit (.bool true)], args := [d] }
  | _ => none }
def fnSurdAddRow : OpenClaim := { program := "ythgmgjjjgllbjaa", sum := "2db259f7a97d49133888c21820f1d7a99e73e8a63e281765117167e959372815", func := "loop.example/turningwheels/laws.FnSurdAdd", spec := "fnSurdAdd", apart := false }
def FnSurdAddSaid : Prop := fnSurdAddRow.holds Try.pinned (OpenSpec.ofChange fnSurdAddSpec)

/-- ITS FALSE NEIGHBOUR: 'it returns false'. Refute it at one input. -/
def fnSurdAddWrong : ChangeSpec := { name := "fnSurdAdd", fn := fun _ => fun
  | [d] => { results := [.lit (.bool false)], args := [d] }
  | _ => none }
def FnSurdAddWrongFalsely : Prop := fnSurdAddRow.holds Try.pinned (OpenSpec.ofChange fnSurdAddWrong)

/-- 'laws.FnCompare': WHATEVER THE INPUT: true; the input reads as it did. -/
def fnCompareSpec : ChangeSpec := { name := "fnCompare", fn := fun _ => fun
  | [d] => { results := [.lit (.bool true)], args := [d] }
  | _ => none }
def fnCompareRow : OpenClaim := { program := "ythgmgjjjgllbjaa", sum := "2db259f7a97d49133888c21820f1d7a99e73e8a63e281765117167e959372815", func := "loop.example/turningwheels/laws.FnCompare", spec := "fnCompare", apart := false }
def FnCompareSaid : Prop := fnCompareRow.holds Try.pinned (OpenSpec.ofChange fnCompareSpec)

/-- ITS FALSE NEIGHBOUR: 'it returns false'. Refute it at one input. -/
def fnCompareWrong : ChangeSpec := { name := "fnCompare", fn := fun _ => fun
  | [d] => { results := [.lit (.bool false)], args := [d] }
  | _ => none }
def FnCompareWrongFalsely : Prop := fnCompareRow.holds Try.pinned (OpenSpec.ofChange fnCompareWrong)

/-- 'laws.FnSign': WHATEVER THE INPUT: true; the input reads as it did. -/
def fnSignSpec : ChangeSpec := { name := "fnSign", fn := fun _ => fun
  | [d] => { results := [.lit (.bool true)], args := [d] }
  | _ => none }
def fnSignRow : OpenClaim := { program := "ythgmgjjjgllbjaa", sum := "2db259f7a97d49133888c21820f1d7a99e73e8a63e281765117167e959372815", func := "loop.example/turningwheels/laws.FnSign", spec := "fnSign", apart := false }
def FnSignSaid : Prop := fnSignRow.holds Try.pinned (OpenSpec.ofChange fnSignSpec)

/-- ITS FALSE NEIGHBOUR: 'it returns false'. Refute it at one input. -/
def fnSignWrong : ChangeSpec := { name := "fnSign", fn := fun _ => fun
  | [d] => { results := [.lit (.bool false)], args := [d] }
  | _ => none }
def FnSignWrongFalsely : Prop := fnSignRow.holds Try.pinned (OpenSpec.ofChange fnSignWrong)

/-- 'laws.FnExactSurdWhole': WHATEVER THE INPUT: true; the input reads as it did. -/
def fnExactSurdWholeSpec : ChangeSpec := { name := "fnExactSurdWhole", fn := fun _ => fun
  | [d] => { results := [.lit (.bool true)], args := [d] }
  | _ => none }
def fnExactSurdWholeRow : OpenClaim := { program := "ythgmgjjjgllbjaa", sum := "2db259f7a97d49133888c21820f1d7a99e73e8a63e281765117167e959372815", func := "loop.example/turningwheels/laws.FnExactSurdWhole", spec := "fnExactSurdWhole", inPlace := ["math.sqrt", "math.archFloor", "math.Float64bits", "math.Float64frombits", "math.archTrunc"], unfollowed := true, recurses := true, apart := false }
def FnExactSurdWholeSaid : Prop := fnExactSurdWholeRow.holds Try.pinned (OpenSpec.ofChange fnExactSurdWholeSpec)

/-- ITS FALSE NEIGHBOUR: 'it returns false'. Refute it at one input. -/
def fnExactSurdWholeWrong : ChangeSpec := { name := "fnExactSurdWhole", fn := fun _ => fun
  | [d] => { results := [.lit (.bool false)], args := [d] }
  | _ => none }
def FnExactSurdWholeWrongFalsely : Prop := fnExactSurdWholeRow.holds Try.pinned (OpenSpec.ofChange fnExactSurdWholeWrong)

/-- 'laws.FnWhole': WHATEVER THE INPUT: true; the input reads as it did. -/
def fnWholeSpec : ChangeSpec := { name := "fnWhole", fn := fun _ => fun
  | [d] => { results := [.lit (.bool true)], args := [d] }
  | _ => none }
def fnWholeRow : OpenClaim := { program := "ythgmgjjjgllbjaa", sum := "2db259f7a97d49133888c21820f1d7a99e73e8a63e281765117167e959372815", func := "loop.example/turningwheels/laws.FnWhole", spec := "fnWhole", inPlace := ["math.sqrt", "math.archFloor", "math.Float64bits", "math.Float64frombits", "math.archTrunc"], unfollowed := true, recurses := true, apart := false }
def FnWholeSaid : Prop := fnWholeRow.holds Try.pinned (OpenSpec.ofChange fnWholeSpec)

/-- ITS FALSE NEIGHBOUR: 'it returns false'. Refute it at one input. -/
def fnWholeWrong : ChangeSpec := { name := "fnWhole", fn := fun _ => fun
  | [d] => { results := [.lit (.bool false)], args := [d] }
  | _ => none }
def FnWholeWrongFalsely : Prop := fnWholeRow.holds Try.pinned (OpenSpec.ofChange fnWholeWrong)

/- THE SECOND FORM. 'bulk': how many values and letters a reading holds, each counted each time it is reached (what is shared counts as often as it is met; a slice's spare places count too). A statement '..UptoSaid' is the law's where the arguments, and the package variables that the reading takes, are together of bulk at most 1048576: NARROWER than '..Said'. Prove '..Said' where nothing that the law and all that it calls make is longer than what came in: it says more and counts as full. Else prove '..UptoSaid'. A law counts once. -/
mutual
def uptoBulk {H : Type} : DataW H → Nat
  | .lit (.string bytes) => bytes.length + 1
  | .lit _ => 1
  | .nil => 1
  | .ptr d => uptoBulk d + 1
  | .slice elems spare => uptoBulkAll elems + uptoBulkAll spare + 1
  | .agg parts => uptoBulkAll parts + 1
  | .iface _ d => uptoBulk d + 1
  | .map entries => uptoBulkEntries entries + 1
  | .held _ => 1
def uptoBulkAll {H : Type} : List (DataW H) → Nat
  | [] => 0
  | d :: r => uptoBulk d + uptoBulkAll r
def uptoBulkEntries {H : Type} : List (Lit × DataW H) → Nat
  | [] => 0
  | x :: r => uptoBulkEntry x + uptoBulkEntries r
def uptoBulkEntry {H : Type} : Lit × DataW H → Nat
  | (.string bytes, d) => bytes.length + uptoBulk d + 1
  | (_, d) => uptoBulk d + 1
 end
def uptoSmall : (H : Type) → List (DataW H) → Bool := fun _ ds => decide (uptoBulkAll ds ≤ 1048576)
def OpenSpec.upto (s : _root_.Go.ChangeSpec) : _root_.Go.OpenSpec := { _root_.Go.OpenSpec.ofChange s with cond := some uptoSmall }

/-- 'laws.FnExactSurdSign', WHERE WHAT IT READS IS OF BULK AT MOST 1048576: true; the input reads as it did. -/
def fnExactSurdSignUptoRow : OpenClaim := { program := "ythgmgjjjgllbjaa", sum := "2db259f7a97d49133888c21820f1d7a99e73e8a63e281765117167e959372815", func := "loop.example/turningwheels/laws.FnExactSurdSign", spec := "fnExactSurdSign", apart := false, narrowed := true }
def FnExactSurdSignUptoSaid : Prop := fnExactSurdSignUptoRow.holds Try.pinned (OpenSpec.upto fnExactSurdSignSpec)

/-- 'laws.FnExactSurdCompare', WHERE WHAT IT READS IS OF BULK AT MOST 1048576: true; the input reads as it did. -/
def fnExactSurdCompareUptoRow : OpenClaim := { program := "ythgmgjjjgllbjaa", sum := "2db259f7a97d49133888c21820f1d7a99e73e8a63e281765117167e959372815", func := "loop.example/turningwheels/laws.FnExactSurdCompare", spec := "fnExactSurdCompare", apart := false, narrowed := true }
def FnExactSurdCompareUptoSaid : Prop := fnExactSurdCompareUptoRow.holds Try.pinned (OpenSpec.upto fnExactSurdCompareSpec)

/-- 'laws.FnSurd', WHERE WHAT IT READS IS OF BULK AT MOST 1048576: true; the input reads as it did. -/
def fnSurdUptoRow : OpenClaim := { program := "ythgmgjjjgllbjaa", sum := "2db259f7a97d49133888c21820f1d7a99e73e8a63e281765117167e959372815", func := "loop.example/turningwheels/laws.FnSurd", spec := "fnSurd", apart := false, narrowed := true }
def FnSurdUptoSaid : Prop := fnSurdUptoRow.holds Try.pinned (OpenSpec.upto fnSurdSpec)

/-- 'laws.FnSurdAdd', WHERE WHAT IT READS IS OF BULK AT MOST 1048576: true; the input reads as it did. -/
def fnSurdAddUptoRow : OpenClaim := { program := "ythgmgjjjgllbjaa", sum := "2db259f7a97d49133888c21820f1d7a99e73e8a63e281765117167e959372815", func := "loop.example/turningwheels/laws.FnSurdAdd", spec := "fnSurdAdd", apart := false, narrowed := true }
def FnSurdAddUptoSaid : Prop := fnSurdAddUptoRow.holds Try.pinned (OpenSpec.upto fnSurdAddSpec)

/-- 'laws.FnCompare', WHERE WHAT IT READS IS OF BULK AT MOST 1048576: true; the input reads as it did. -/
def fnCompareUptoRow : OpenClaim := { program := "ythgmgjjjgllbjaa", sum := "2db259f7a97d49133888c21820f1d7a99e73e8a63e281765117167e959372815", func := "loop.example/turningwheels/laws.FnCompare", spec := "fnCompare", apart := false, narrowed := true }
def FnCompareUptoSaid : Prop := fnCompareUptoRow.holds Try.pinned (OpenSpec.upto fnCompareSpec)

/-- 'laws.FnSign', WHERE WHAT IT READS IS OF BULK AT MOST 1048576: true; the input reads as it did. -/
def fnSignUptoRow : OpenClaim := { program := "ythgmgjjjgllbjaa", sum := "2db259f7a97d49133888c21820f1d7a99e73e8a63e281765117167e959372815", func := "loop.example/turningwheels/laws.FnSign", spec := "fnSign", apart := false, narrowed := true }
def FnSignUptoSaid : Prop := fnSignUptoRow.holds Try.pinned (OpenSpec.upto fnSignSpec)

/-- 'laws.FnExactSurdWhole', WHERE WHAT IT READS IS OF BULK AT MOST 1048576: true; the input reads as it did. -/
def fnExactSurdWholeUptoRow : OpenClaim := { program := "ythgmgjjjgllbjaa", sum := "2db259f7a97d49133888c21820f1d7a99e73e8a63e281765117167e959372815", func := "loop.example/turningwheels/laws.FnExactSurdWhole", spec := "fnExactSurdWhole", inPlace := ["math.sqrt", "math.archFloor", "math.Float64bits", "math.Float64frombits", "math.archTrunc"], unfollowed := true, recurses := true, apart := false, narrowed := true }
def FnExactSurdWholeUptoSaid : Prop := fnExactSurdWholeUptoRow.holds Try.pinned (OpenSpec.upto fnExactSurdWholeSpec)

/-- 'laws.FnWhole', WHERE WHAT IT READS IS OF BULK AT MOST 1048576: true; the input reads as it did. -/
def fnWholeUptoRow : OpenClaim := { program := "ythgmgjjjgllbjaa", sum := "2db259f7a97d49133888c21820f1d7a99e73e8a63e281765117167e959372815", func := "loop.example/turningwheels/laws.FnWhole", spec := "fnWhole", inPlace := ["math.sqrt", "math.archFloor", "math.Float64bits", "math.Float64frombits", "math.archTrunc"], unfollowed := true, recurses := true, apart := false, narrowed := true }
def FnWholeUptoSaid : Prop := fnWholeUptoRow.holds Try.pinned (OpenSpec.upto fnWholeSpec)

end Rows
end Go.Proofs.Ythgmgjjjgllbjaa
