/-
  No cell of these rows narrows 'for every input' (looked for: loops, veiled, ifaces, maps, wideKeys, modest, calm, conditions, laid).
  DERIVED. THE GIVEN ROWS OF THIS SEAT. 7 by the template 'for every input the law returns true; each argument reads behind the call as it read before'; 0 by the template 'total and deterministic' (their statements: YtedjhkineeaokaaTotals.lean).
  GIVEN WITH THE SEED: the statements are not yours to turn. If you find one false, say at which input.
  Laid BY PROGRAM, IN A SANDBOX (cutbox-rows.mjs): the forced cells as the released guide's own fill.sh prints them over the translation 8400986e85d32448… (all of the seat's roots in one cut). By AI agents, Wed Nov 11 2026. No macro, syntax, notation, axiom, sorry.
-/
import Derived.Test.YtedjhkineeaokaaChecked
import GoSem.Claim
import GoSem.ClaimJoined
import GoSem.ClaimMapViews
import Derived.JoinedTies
import Derived.KernelRfl
namespace Go.Proofs.Ytedjhkineeaokaa
/- THE CELL 'sum', in the pinned program and in every row, IS THE sha256 OF THE DUMP (.gsa) THAT YtedjhkineeaokaaProg.lean LOADS. Nothing in Lean hashes anything: it is a label: what it is worth is what the hold of that sum in a sandbox is worth. -/
noncomputable def Try.pinned : Pinned := { name := "ytedjhkineeaokaa", sum := "8400986e85d32448f1f1b40c696e5f504128592ca0627988db4e6c509b774a41", checked := Try.checked }
namespace Rows
def none {H : Type} : Left H := { results := [], args := [] }

/-- 'laws.FnExactSingleRoot': WHATEVER THE INPUT: true; the input reads as it did. -/
def fnExactSingleRootSpec : ChangeSpec := { name := "fnExactSingleRoot", fn := fun _ => fun
  | [d] => { results := [.lit (.bool true)], args := [d] }
  | _ => none }
def fnExactSingleRootRow : OpenClaim := { program := "ytedjhkineeaokaa", sum := "8400986e85d32448f1f1b40c696e5f504128592ca0627988db4e6c509b774a41", func := "loop.example/turningwheels/laws.FnExactSingleRoot", spec := "fnExactSingleRoot", apart := false }
def FnExactSingleRootSaid : Prop := fnExactSingleRootRow.holds Try.pinned (OpenSpec.ofChange fnExactSingleRootSpec)

/-- ITS FALSE NEIGHBOUR: 'it returns false'. Refute it at one input. -/
def fnExactSingleRootWrong : ChangeSpec := { name := "fnExactSingleRoot", fn := fun _ => fun
  | [d] => { results := [.lit (.bool false)], args := [d] }
  | _ => none }
def FnExactSingleRootWrongFalsely : Prop := fnExactSingleRootRow.holds Try.pinned (OpenSpec.ofChange fnExactSingleRootWrong)

/-- 'laws.FnExactWideRoot': WHATEVER THE INPUT: true; the input reads as it did. -/
def fnExactWideRootSpec : ChangeSpec := { name := "fnExactWideRoot", fn := fun _ => fun
  | [d] => { results := [.lit (.bool true)], args := [d] }
  | _ => none }
def fnExactWideRootRow : OpenClaim := { program := "ytedjhkineeaokaa", sum := "8400986e85d32448f1f1b40c696e5f504128592ca0627988db4e6c509b774a41", func := "loop.example/turningwheels/laws.FnExactWideRoot", spec := "fnExactWideRoot", apart := false }
def FnExactWideRootSaid : Prop := fnExactWideRootRow.holds Try.pinned (OpenSpec.ofChange fnExactWideRootSpec)

/-- ITS FALSE NEIGHBOUR: 'it returns false'. Refute it at one input. -/
def fnExactWideRootWrong : ChangeSpec := { name := "fnExactWideRoot", fn := fun _ => fun
  | [d] => { results := [.lit (.bool false)], args := [d] }
  | _ => none }
def FnExactWideRootWrongFalsely : Prop := fnExactWideRootRow.holds Try.pinned (OpenSpec.ofChange fnExactWideRootWrong)

/-- 'laws.FnExactWidePoint': WHATEVER THE INPUT: true; the input reads as it did. -/
def fnExactWidePointSpec : ChangeSpec := { name := "fnExactWidePoint", fn := fun _ => fun
  | [d] => { results := [.lit (.bool true)], args := [d] }
  | _ => none }
def fnExactWidePointRow : OpenClaim := { program := "ytedjhkineeaokaa", sum := "8400986e85d32448f1f1b40c696e5f504128592ca0627988db4e6c509b774a41", func := "loop.example/turningwheels/laws.FnExactWidePoint", spec := "fnExactWidePoint", unfollowed := true, recurses := true, apart := false }
def FnExactWidePointSaid : Prop := fnExactWidePointRow.holds Try.pinned (OpenSpec.ofChange fnExactWidePointSpec)

/-- ITS FALSE NEIGHBOUR: 'it returns false'. Refute it at one input. -/
def fnExactWidePointWrong : ChangeSpec := { name := "fnExactWidePoint", fn := fun _ => fun
  | [d] => { results := [.lit (.bool false)], args := [d] }
  | _ => none }
def FnExactWidePointWrongFalsely : Prop := fnExactWidePointRow.holds Try.pinned (OpenSpec.ofChange fnExactWidePointWrong)

/-- 'laws.FnExactSinglePoint': WHATEVER THE INPUT: true; the input reads as it did. -/
def fnExactSinglePointSpec : ChangeSpec := { name := "fnExactSinglePoint", fn := fun _ => fun
  | [d] => { results := [.lit (.bool true)], args := [d] }
  | _ => none }
def fnExactSinglePointRow : OpenClaim := { program := "ytedjhkineeaokaa", sum := "8400986e85d32448f1f1b40c696e5f504128592ca0627988db4e6c509b774a41", func := "loop.example/turningwheels/laws.FnExactSinglePoint", spec := "fnExactSinglePoint", unfollowed := true, recurses := true, apart := false }
def FnExactSinglePointSaid : Prop := fnExactSinglePointRow.holds Try.pinned (OpenSpec.ofChange fnExactSinglePointSpec)

/-- ITS FALSE NEIGHBOUR: 'it returns false'. Refute it at one input. -/
def fnExactSinglePointWrong : ChangeSpec := { name := "fnExactSinglePoint", fn := fun _ => fun
  | [d] => { results := [.lit (.bool false)], args := [d] }
  | _ => none }
def FnExactSinglePointWrongFalsely : Prop := fnExactSinglePointRow.holds Try.pinned (OpenSpec.ofChange fnExactSinglePointWrong)

/-- 'laws.FnExactPointsFit': WHATEVER THE INPUT: true; the input reads as it did. -/
def fnExactPointsFitSpec : ChangeSpec := { name := "fnExactPointsFit", fn := fun _ => fun
  | [d] => { results := [.lit (.bool true)], args := [d] }
  | _ => none }
def fnExactPointsFitRow : OpenClaim := { program := "ytedjhkineeaokaa", sum := "8400986e85d32448f1f1b40c696e5f504128592ca0627988db4e6c509b774a41", func := "loop.example/turningwheels/laws.FnExactPointsFit", spec := "fnExactPointsFit", unfollowed := true, recurses := true, apart := false }
def FnExactPointsFitSaid : Prop := fnExactPointsFitRow.holds Try.pinned (OpenSpec.ofChange fnExactPointsFitSpec)

/-- ITS FALSE NEIGHBOUR: 'it returns false'. Refute it at one input. -/
def fnExactPointsFitWrong : ChangeSpec := { name := "fnExactPointsFit", fn := fun _ => fun
  | [d] => { results := [.lit (.bool false)], args := [d] }
  | _ => none }
def FnExactPointsFitWrongFalsely : Prop := fnExactPointsFitRow.holds Try.pinned (OpenSpec.ofChange fnExactPointsFitWrong)

/-- 'laws.FnSingleRoot': WHATEVER THE INPUT: true; the input reads as it did. -/
def fnSingleRootSpec : ChangeSpec := { name := "fnSingleRoot", fn := fun _ => fun
  | [d] => { results := [.lit (.bool true)], args := [d] }
  | _ => none }
def fnSingleRootRow : OpenClaim := { program := "ytedjhkineeaokaa", sum := "8400986e85d32448f1f1b40c696e5f504128592ca0627988db4e6c509b774a41", func := "loop.example/turningwheels/laws.FnSingleRoot", spec := "fnSingleRoot", apart := false }
def FnSingleRootSaid : Prop := fnSingleRootRow.holds Try.pinned (OpenSpec.ofChange fnSingleRootSpec)

/-- ITS FALSE NEIGHBOUR: 'it returns false'. Refute it at one input. -/
def fnSingleRootWrong : ChangeSpec := { name := "fnSingleRoot", fn := fun _ => fun
  | [d] => { results := [.lit (.bool false)], args := [d] }
  | _ => none }
def FnSingleRootWrongFalsely : Prop := fnSingleRootRow.holds Try.pinned (OpenSpec.ofChange fnSingleRootWrong)

/-- 'laws.FnWideRoot': WHATEVER THE INPUT: true; the input reads as it did. -/
def fnWideRootSpec : ChangeSpec := { name := "fnWideRoot", fn := fun _ => fun
  | [d] => { results := [.lit (.bool true)], args := [d] }
  | _ => none }
def fnWideRootRow : OpenClaim := { program := "ytedjhkineeaokaa", sum := "8400986e85d32448f1f1b40c696e5f504128592ca0627988db4e6c509b774a41", func := "loop.example/turningwheels/laws.FnWideRoot", spec := "fnWideRoot", unfollowed := true, recurses := true, apart := false }
def FnWideRootSaid : Prop := fnWideRootRow.holds Try.pinned (OpenSpec.ofChange fnWideRootSpec)

/-- ITS FALSE NEIGHBOUR: 'it returns false'. Refute it at one input. -/
def fnWideRootWrong : ChangeSpec := { name := "fnWideRoot", fn := fun _ => fun
  | [d] => { results := [.lit (.bool false)], args := [d] }
  | _ => none }
def FnWideRootWrongFalsely : Prop := fnWideRootRow.holds Try.pinned (OpenSpec.ofChange fnWideRootWrong)

/- THE SECOND FORM. 'bulk': how many values and letters a reading holds, each counted each time it is reached (what is shared counts as often as it is met; a slice's spare places count too). A statement '..UptoSaid' is the law's where the arguments, and the package variables that the reading takes, are together of bulk at most 1048576: NARROWER than '..Said'. Prove '..Said' where nothing that the law and all that it calls make is longer than what came in: it says more and counts as full. Else prove '..UptoSaid'. A law counts once. -/
mutual
def uptoBulk {H : Type} : DataW H → Nat
  | .lit (.string bytes) => bytes.length + 1
  | .lit _ => 1
  | .nil => 1
  | .ptr d => uptoBulk d + 1
  | .slice elems spare => uptoBulkAll elems + uptoBulkAll spare + 1
  | .agg parts => uptoBulkAll parts + 1
  | .iface _ d => uptoBulk d + 1
  | .map entries => uptoBulkEntries entries + 1
  | .held _ => 1
def uptoBulkAll {H : Type} : List (DataW H) → Nat
  | [] => 0
  | d :: r => uptoBulk d + uptoBulkAll r
def uptoBulkEntries {H : Type} : List (Lit × DataW H) → Nat
  | [] => 0
  | x :: r => uptoBulkEntry x + uptoBulkEntries r
def uptoBulkEntry {H : Type} : Lit × DataW H → Nat
  | (.string bytes, d) => bytes.length + uptoBulk d + 1
  | (_, d) => uptoBulk d + 1
 end
def uptoSmall : (H : Type) → List (DataW H) → Bool := fun _ ds => decide (uptoBulkAll ds ≤ 1048576)
def OpenSpec.upto (s : _root_.Go.ChangeSpec) : _root_.Go.OpenSpec := { _root_.Go.OpenSpec.ofChange s with cond := some uptoSmall }

/-- 'laws.FnExactSingleRoot', WHERE WHAT IT READS IS OF BULK AT MOST 1048576: true; the input reads as it did. -/
def fnExactSingleRootUptoRow : OpenClaim := { program := "ytedjhkineeaokaa", sum := "8400986e85d32448f1f1b40c696e5f504128592ca0627988db4e6c509b774a41", func := "loop.example/turningwheels/laws.FnExactSingleRoot", spec := "fnExactSingleRoot", apart := false, narrowed := true }
def FnExactSingleRootUptoSaid : Prop := fnExactSingleRootUptoRow.holds Try.pinned (OpenSpec.upto fnExactSingleRootSpec)

/-- 'laws.FnExactWideRoot', WHERE WHAT IT READS IS OF BULK AT MOST 1048576: true; the input reads as it did. -/
def fnExactWideRootUptoRow : OpenClaim := { program := "ytedjhkineeaokaa", sum := "8400986e85d32448f1f1b40c696e5f504128592ca0627988db4e6c509b774a41", func := "loop.example/turningwheels/laws.FnExactWideRoot", spec := "fnExactWideRoot", apart := false, narrowed := true }
def FnExactWideRootUptoSaid : Prop := fnExactWideRootUptoRow.holds Try.pinned (OpenSpec.upto fnExactWideRootSpec)

/-- 'laws.FnExactWidePoint', WHERE WHAT IT READS IS OF BULK AT MOST 1048576: true; the input reads as it did. -/
def fnExactWidePointUptoRow : OpenClaim := { program := "ytedjhkineeaokaa", sum := "8400986e85d32448f1f1b40c696e5f504128592ca0627988db4e6c509b774a41", func := "loop.example/turningwheels/laws.FnExactWidePoint", spec := "fnExactWidePoint", unfollowed := true, recurses := true, apart := false, narrowed := true }
def FnExactWidePointUptoSaid : Prop := fnExactWidePointUptoRow.holds Try.pinned (OpenSpec.upto fnExactWidePointSpec)

/-- 'laws.FnExactSinglePoint', WHERE WHAT IT READS IS OF BULK AT MOST 1048576: true; the input reads as it did. -/
def fnExactSinglePointUptoRow : OpenClaim := { program := "ytedjhkineeaokaa", sum := "8400986e85d32448f1f1b40c696e5f504128592ca0627988db4e6c509b774a41", func := "loop.example/turningwheels/laws.FnExactSinglePoint", spec := "fnExactSinglePoint", unfollowed := true, recurses := true, apart := false, narrowed := true }
def FnExactSinglePointUptoSaid : Prop := fnExactSinglePointUptoRow.holds Try.pinned (OpenSpec.upto fnExactSinglePointSpec)

/-- 'laws.FnExactPointsFit', WHERE WHAT IT READS IS OF BULK AT MOST 1048576: true; the input reads as it did. -/
def fnExactPointsFitUptoRow : OpenClaim := { program := "ytedjhkineeaokaa", sum := "8400986e85d32448f1f1b40c696e5f504128592ca0627988db4e6c509b774a41", func := "loop.example/turningwheels/laws.FnExactPointsFit", spec := "fnExactPointsFit", unfollowed := true, recurses := true, apart := false, narrowed := true }
def FnExactPointsFitUptoSaid : Prop := fnExactPointsFitUptoRow.holds Try.pinned (OpenSpec.upto fnExactPointsFitSpec)

/-- 'laws.FnSingleRoot', WHERE WHAT IT READS IS OF BULK AT MOST 1048576: true; the input reads as it did. -/
def fnSingleRootUptoRow : OpenClaim := { program := "ytedjhkineeaokaa", sum := "8400986e85d32448f1f1b40c696e5f504128592ca0627988db4e6c509b774a41", func := "loop.example/turningwheels/laws.FnSingleRoot", spec := "fnSingleRoot", apart := false, narrowed := true }
def FnSingleRootUptoSaid : Prop := fnSingleRootUptoRow.holds Try.pinned (OpenSpec.upto fnSingleRootSpec)

/-- 'laws.FnWideRoot', WHERE WHAT IT READS IS OF BULK AT MOST 1048576: true; the input reads as it did. -/
def fnWideRootUptoRow : OpenClaim := { program := "ytedjhkineeaokaa", sum := "8400986e85d32448f1f1b40c696e5f504128592ca0627988db4e6c509b774a41", func := "loop.example/turningwheels/laws.FnWideRoot", spec := "fnWideRoot", unfollowed := true, recurses := true, apart := false, narrowed := true }
def FnWideRootUptoSaid : Prop := fnWideRootUptoRow.holds Try.pinned (OpenSpec.upto fnWideRootSpec)

end Rows
end Go.Proofs.Ytedjhkineeaokaa
