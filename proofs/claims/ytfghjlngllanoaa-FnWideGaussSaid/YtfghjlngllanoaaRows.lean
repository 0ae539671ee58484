/-
  No cell of these rows narrows 'for every input' (looked for: loops, veiled, ifaces, maps, wideKeys, modest, calm, conditions, laid).
  DERIVED. THE GIVEN ROWS OF THIS SEAT. 5 by the template 'for every input the law returns true; each argument reads behind the call as it read before'; 0 by the template 'total and deterministic' (their statements: YtfghjlngllanoaaTotals.lean).
  GIVEN WITH THE SEED: the statements are not yours to turn. If you find one false, say at which input.
  Laid BY PROGRAM, IN A SANDBOX (cutbox-rows.mjs): the forced cells as the released guide's own fill.sh prints them over the translation 176dcb083b301c06… (all of the seat's roots in one cut). By AI agents, Wed Nov 11 2026. No macro, syntax, notation, axiom, sorry.
-/
import Derived.Test.YtfghjlngllanoaaChecked
import GoSem.Claim
import GoSem.ClaimJoined
import GoSem.ClaimMapViews
import Derived.JoinedTies
import Derived.KernelRfl
namespace Go.Proofs.Ytfghjlngllanoaa
/- THE CELL 'sum', in the pinned program and in every row, IS THE sha256 OF THE DUMP (.gsa) THAT YtfghjlngllanoaaProg.lean LOADS. Nothing in Lean hashes anything: it is a label: what it is worth is what the hold of that sum in a sandbox is worth. -/
noncomputable def Try.pinned : Pinned := { name := "ytfghjlngllanoaa", sum := "176dcb083b301c06c422fe8088a9482d16f74288893aafb9c28fa6087efce693", checked := Try.checked }
namespace Rows
def none {H : Type} : Left H := { results := [], args := [] }

/-- 'laws.FnWideGauss': WHATEVER THE INPUT: true; the input reads as it did. -/
def fnWideGaussSpec : ChangeSpec := { name := "fnWideGauss", fn := fun _ => fun
  | [d] => { results := [.lit (.bool true)], args := [d] }
  | _ => none }
def fnWideGaussRow : OpenClaim := { program := "ytfghjlngllanoaa", sum := "176dcb083b301c06c422fe8088a9482d16f74288893aafb9c28fa6087efce693", func := "loop.example/turningwheels/laws.FnWideGauss", spec := "fnWideGauss", inPlace := ["math.Float64bits", "math.Float64frombits", "math.archTrunc"], unfollowed := true, recurses := true, apart := false }
def FnWideGaussSaid : Prop := fnWideGaussRow.holds Try.pinned (OpenSpec.ofChange fnWideGaussSpec)

/-- ITS FALSE NEIGHBOUR: 'it returns false'. Refute it at one input. -/
def fnWideGaussWrong : ChangeSpec := { name := "fnWideGauss", fn := fun _ => fun
  | [d] => { results := [.lit (.bool false)], args := [d] }
  | _ => none }
def FnWideGaussWrongFalsely : Prop := fnWideGaussRow.holds Try.pinned (OpenSpec.ofChange fnWideGaussWrong)

/-- 'laws.FnSinglePoint': WHATEVER THE INPUT: true; the input reads as it did. -/
def fnSinglePointSpec : ChangeSpec := { name := "fnSinglePoint", fn := fun _ => fun
  | [d] => { results := [.lit (.bool true)], args := [d] }
  | _ => none }
def fnSinglePointRow : OpenClaim := { program := "ytfghjlngllanoaa", sum := "176dcb083b301c06c422fe8088a9482d16f74288893aafb9c28fa6087efce693", func := "loop.example/turningwheels/laws.FnSinglePoint", spec := "fnSinglePoint", inPlace := ["math.Float64bits", "math.Float64frombits"], unfollowed := true, recurses := true, apart := false }
def FnSinglePointSaid : Prop := fnSinglePointRow.holds Try.pinned (OpenSpec.ofChange fnSinglePointSpec)

/-- ITS FALSE NEIGHBOUR: 'it returns false'. Refute it at one input. -/
def fnSinglePointWrong : ChangeSpec := { name := "fnSinglePoint", fn := fun _ => fun
  | [d] => { results := [.lit (.bool false)], args := [d] }
  | _ => none }
def FnSinglePointWrongFalsely : Prop := fnSinglePointRow.holds Try.pinned (OpenSpec.ofChange fnSinglePointWrong)

/-- 'laws.FnFit': WHATEVER THE INPUT: true; the input reads as it did. -/
def fnFitSpec : ChangeSpec := { name := "fnFit", fn := fun _ => fun
  | [d] => { results := [.lit (.bool true)], args := [d] }
  | _ => none }
def fnFitRow : OpenClaim := { program := "ytfghjlngllanoaa", sum := "176dcb083b301c06c422fe8088a9482d16f74288893aafb9c28fa6087efce693", func := "loop.example/turningwheels/laws.FnFit", spec := "fnFit", unfollowed := true, recurses := true, apart := false }
def FnFitSaid : Prop := fnFitRow.holds Try.pinned (OpenSpec.ofChange fnFitSpec)

/-- ITS FALSE NEIGHBOUR: 'it returns false'. Refute it at one input. -/
def fnFitWrong : ChangeSpec := { name := "fnFit", fn := fun _ => fun
  | [d] => { results := [.lit (.bool false)], args := [d] }
  | _ => none }
def FnFitWrongFalsely : Prop := fnFitRow.holds Try.pinned (OpenSpec.ofChange fnFitWrong)

/-- 'laws.FnWidePoint': WHATEVER THE INPUT: true; the input reads as it did. -/
def fnWidePointSpec : ChangeSpec := { name := "fnWidePoint", fn := fun _ => fun
  | [d] => { results := [.lit (.bool true)], args := [d] }
  | _ => none }
def fnWidePointRow : OpenClaim := { program := "ytfghjlngllanoaa", sum := "176dcb083b301c06c422fe8088a9482d16f74288893aafb9c28fa6087efce693", func := "loop.example/turningwheels/laws.FnWidePoint", spec := "fnWidePoint", unfollowed := true, recurses := true, apart := false }
def FnWidePointSaid : Prop := fnWidePointRow.holds Try.pinned (OpenSpec.ofChange fnWidePointSpec)

/-- ITS FALSE NEIGHBOUR: 'it returns false'. Refute it at one input. -/
def fnWidePointWrong : ChangeSpec := { name := "fnWidePoint", fn := fun _ => fun
  | [d] => { results := [.lit (.bool false)], args := [d] }
  | _ => none }
def FnWidePointWrongFalsely : Prop := fnWidePointRow.holds Try.pinned (OpenSpec.ofChange fnWidePointWrong)

/-- 'laws.FnNear': WHATEVER THE INPUT: true; the input reads as it did. -/
def fnNearSpec : ChangeSpec := { name := "fnNear", fn := fun _ => fun
  | [d] => { results := [.lit (.bool true)], args := [d] }
  | _ => none }
def fnNearRow : OpenClaim := { program := "ytfghjlngllanoaa", sum := "176dcb083b301c06c422fe8088a9482d16f74288893aafb9c28fa6087efce693", func := "loop.example/turningwheels/laws.FnNear", spec := "fnNear", inPlace := ["math.Float64bits", "math.Float64frombits"], apart := false }
def FnNearSaid : Prop := fnNearRow.holds Try.pinned (OpenSpec.ofChange fnNearSpec)

/-- ITS FALSE NEIGHBOUR: 'it returns false'. Refute it at one input. -/
def fnNearWrong : ChangeSpec := { name := "fnNear", fn := fun _ => fun
  | [d] => { results := [.lit (.bool false)], args := [d] }
  | _ => none }
def FnNearWrongFalsely : Prop := fnNearRow.holds Try.pinned (OpenSpec.ofChange fnNearWrong)

/- THE SECOND FORM. 'bulk': how many values and letters a reading holds, each counted each time it is reached (what is shared counts as often as it is met; a slice's spare places count too). A statement '..UptoSaid' is the law's where the arguments, and the package variables that the reading takes, are together of bulk at most 1048576: NARROWER than '..Said'. Prove '..Said' where nothing that the law and all that it calls make is longer than what came in: it says more and counts as full. Else prove '..UptoSaid'. A law counts once. -/
mutual
def uptoBulk {H : Type} : DataW H → Nat
  | .lit (.string bytes) => bytes.length + 1
  | .lit _ => 1
  | .nil => 1
  | .ptr d => uptoBulk d + 1
  | .slice elems spare => uptoBulkAll elems + uptoBulkAll spare + 1
  | .agg parts => uptoBulkAll parts + 1
  | .iface _ d => uptoBulk d + 1
  | .map entries => uptoBulkEntries entries + 1
  | .held _ => 1
def uptoBulkAll {H : Type} : List (DataW H) → Nat
  | [] => 0
  | d :: r => uptoBulk d + uptoBulkAll r
def uptoBulkEntries {H : Type} : List (Lit × DataW H) → Nat
  | [] => 0
  | x :: r => uptoBulkEntry x + uptoBulkEntries r
def uptoBulkEntry {H : Type} : Lit × DataW H → Nat
  | (.string bytes, d) => bytes.length + uptoBulk d + 1
  | (_, d) => uptoBulk d + 1
 end
def uptoSmall : (H : Type) → List (DataW H) → Bool := fun _ ds => decide (uptoBulkAll ds ≤ 1048576)
def OpenSpec.upto (s : _root_.Go.ChangeSpec) : _root_.Go.OpenSpec := { _root_.Go.OpenSpec.ofChange s with cond := some uptoSmall }

/-- 'laws.FnWideGauss', WHERE WHAT IT READS IS OF BULK AT MOST 1048576: true; the input reads as it did. -/
def fnWideGaussUptoRow : OpenClaim := { program := "ytfghjlngllanoaa", sum := "176dcb083b301c06c422fe8088a9482d16f74288893aafb9c28fa6087efce693", func := "loop.example/turningwheels/laws.FnWideGauss", spec := "fnWideGauss", inPlace := ["math.Float64bits", "math.Float64frombits", "math.archTrunc"], unfollowed := true, recurses := true, apart := false, narrowed := true }
def FnWideGaussUptoSaid : Prop := fnWideGaussUptoRow.holds Try.pinned (OpenSpec.upto fnWideGaussSpec)

/-- 'laws.FnSinglePoint', WHERE WHAT IT READS IS OF BULK AT MOST 1048576: true; the input reads as it did. -/
def fnSinglePointUptoRow : OpenClaim := { program := "ytfghjlngllanoaa", sum := "176dcb083b301c06c422fe8088a9482d16f74288893aafb9c28fa6087efce693", func := "loop.example/turningwheels/laws.FnSinglePoint", spec := "fnSinglePoint", inPlace := ["math.Float64bits", "math.Float64frombits"], unfollowed := true, recurses := true, apart := false, narrowed := true }
def FnSinglePointUptoSaid : Prop := fnSinglePointUptoRow.holds Try.pinned (OpenSpec.upto fnSinglePointSpec)

/-- 'laws.FnFit', WHERE WHAT IT READS IS OF BULK AT MOST 1048576: true; the input reads as it did. -/
def fnFitUptoRow : OpenClaim := { program := "ytfghjlngllanoaa", sum := "176dcb083b301c06c422fe8088a9482d16f74288893aafb9c28fa6087efce693", func := "loop.example/turningwheels/laws.FnFit", spec := "fnFit", unfollowed := true, recurses := true, apart := false, narrowed := true }
def FnFitUptoSaid : Prop := fnFitUptoRow.holds Try.pinned (OpenSpec.upto fnFitSpec)

/-- 'laws.FnWidePoint', WHERE WHAT IT READS IS OF BULK AT MOST 1048576: true; the input reads as it did. -/
def fnWidePointUptoRow : OpenClaim := { program := "ytfghjlngllanoaa", sum := "176dcb083b301c06c422fe8088a9482d16f74288893aafb9c28fa6087efce693", func := "loop.example/turningwheels/laws.FnWidePoint", spec := "fnWidePoint", unfollowed := true, recurses := true, apart := false, narrowed := true }
def FnWidePointUptoSaid : Prop := fnWidePointUptoRow.holds Try.pinned (OpenSpec.upto fnWidePointSpec)

/-- 'laws.FnNear', WHERE WHAT IT READS IS OF BULK AT MOST 1048576: true; the input reads as it did. -/
def fnNearUptoRow : OpenClaim := { program := "ytfghjlngllanoaa", sum := "176dcb083b301c06c422fe8088a9482d16f74288893aafb9c28fa6087efce693", func := "loop.example/turningwheels/laws.FnNear", spec := "fnNear", inPlace := ["math.Float64bits", "math.Float64frombits"], apart := false, narrowed := true }
def FnNearUptoSaid : Prop := fnNearUptoRow.holds Try.pinned (OpenSpec.upto fnNearSpec)

end Rows
end Go.Proofs.Ytfghjlngllanoaa
