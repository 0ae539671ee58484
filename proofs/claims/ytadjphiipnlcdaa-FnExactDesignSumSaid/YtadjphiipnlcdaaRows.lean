/-
  No cell of these rows narrows 'for every input' (looked for: loops, veiled, ifaces, maps, wideKeys, modest, calm, conditions, laid).
  DERIVED. THE GIVEN ROWS OF THIS SEAT. 6 by the template 'for every input the law returns true; each argument reads behind the call as it read before'; 0 by the template 'total and deterministic' (their statements: YtadjphiipnlcdaaTotals.lean).
  GIVEN WITH THE SEED: the statements are not yours to turn. If you find one false, say at which input.
  Laid BY PROGRAM, IN A SANDBOX (cutbox-rows.mjs): the forced cells as the released guide's own fill.sh prints them over the translation e6ad8846b4f14be8… (all of the seat's roots in one cut). By AI agents, Wed Nov 11 2026. No macro, syntax, notation, axiom, sorry.
-/
import Derived.Test.YtadjphiipnlcdaaChecked
import GoSem.Claim
import GoSem.ClaimJoined
import GoSem.ClaimMapViews
import Derived.JoinedTies
import Derived.KernelRfl
namespace Go.Proofs.Ytadjphiipnlcdaa
/- THE CELL 'sum', in the pinned program and in every row, IS THE sha256 OF THE DUMP (.gsa) THAT YtadjphiipnlcdaaProg.lean LOADS. Nothing in Lean hashes anything: it is a label: what it is worth is what the hold of that sum in a sandbox is worth. -/
noncomputable def Try.pinned : Pinned := { name := "ytadjphiipnlcdaa", sum := "e6ad8846b4f14be803a3b70d14e19332c01154eeaa880d732ab33a985bb4f3f4", checked := Try.checked }
namespace Rows
def none {H : Type} : Left H := { results := [], args := [] }

/-- 'laws.FnExactDesignSame': WHATEVER THE INPUT: true; the input reads as it did. -/
def fnExactDesignSameSpec : ChangeSpec := { name := "fnExactDesignSame", fn := fun _ => fun
  | [d1, d2] => { results := [.lit (.bool true)], args := [d1, d2] }
  | _ => none }
def fnExactDesignSameRow : OpenClaim := { program := "ytadjphiipnlcdaa", sum := "e6ad8846b4f14be803a3b70d14e19332c01154eeaa880d732ab33a985bb4f3f4", func := "loop.example/turningwheels/laws.FnExactDesignSame", spec := "fnExactDesignSame", unfollowed := true, recurses := true, apart := false }
def FnExactDesignSameSaid : Prop := fnExactDesignSameRow.holds Try.pinned (OpenSpec.ofChange fnExactDesignSameSpec)

/-- ITS FALSE NEIGHBOUR: 'it returns false'. Refute it at one input. -/
def fnExactDesignSameWrong : ChangeSpec := { name := "fnExactDesignSame", fn := fun _ => fun
  | [d1, d2] => { results := [.lit (.bool false)], args := [d1, d2] }
  | _ => none }
def FnExactDesignSameWrongFalsely : Prop := fnExactDesignSameRow.holds Try.pinned (OpenSpec.ofChange fnExactDesignSameWrong)

/-- 'laws.FnExactDesignSum': WHATEVER THE INPUT: true; the input reads as it did. -/
def fnExactDesignSumSpec : ChangeSpec := { name := "fnExactDesignSum", fn := fun _ => fun
  | [d1, d2] => { results := [.lit (.bool true)], args := [d1, d2] }
  | _ => none }
def fnExactDesignSumRow : OpenClaim := { program := "ytadjphiipnlcdaa", sum := "e6ad8846b4f14be803a3b70d14e19332c01154eeaa880d732ab33a985bb4f3f4", func := "loop.example/turningwheels/laws.FnExactDesignSum", spec := "fnExactDesignSum", unfollowed := true, recurses := true, apart := false }
def FnExactDesignSumSaid : Prop := fnExactDesignSumRow.holds Try.pinned (OpenSpec.ofChange fnExactDesignSumSpec)

/-- ITS FALSE NEIGHBOUR: 'it returns false'. Refute it at one input. -/
def fnExactDesignSumWrong : ChangeSpec := { name := "fnExactDesignSum", fn := fun _ => fun
  | [d1, d2] => { results := [.lit (.bool false)], args := [d1, d2] }
  | _ => none }
def FnExactDesignSumWrongFalsely : Prop := fnExactDesignSumRow.holds Try.pinned (OpenSpec.ofChange fnExactDesignSumWrong)

/-- 'laws.FnExactDesignBack': WHATEVER THE INPUT: true; the input reads as it did. -/
def fnExactDesignBackSpec : ChangeSpec := { name := "fnExactDesignBack", fn := fun _ => fun
  | [d] => { results := [.lit (.bool true)], args := [d] }
  | _ => none }
def fnExactDesignBackRow : OpenClaim := { program := "ytadjphiipnlcdaa", sum := "e6ad8846b4f14be803a3b70d14e19332c01154eeaa880d732ab33a985bb4f3f4", func := "loop.example/turningwheels/laws.FnExactDesignBack", spec := "fnExactDesignBack", unfollowed := true, recurses := true, apart := false }
def FnExactDesignBackSaid : Prop := fnExactDesignBackRow.holds Try.pinned (OpenSpec.ofChange fnExactDesignBackSpec)

/-- ITS FALSE NEIGHBOUR: 'it returns false'. Refute it at one input. -/
def fnExactDesignBackWrong : ChangeSpec := { name := "fnExactDesignBack", fn := fun _ => fun
  | [d] => { results := [.lit (.bool false)], args := [d] }
  | _ => none }
def FnExactDesignBackWrongFalsely : Prop := fnExactDesignBackRow.holds Try.pinned (OpenSpec.ofChange fnExactDesignBackWrong)

/-- 'laws.FnExactDesignValid': WHATEVER THE INPUT: true; the input reads as it did. -/
def fnExactDesignValidSpec : ChangeSpec := { name := "fnExactDesignValid", fn := fun _ => fun
  | [d] => { results := [.lit (.bool true)], args := [d] }
  | _ => none }
def fnExactDesignValidRow : OpenClaim := { program := "ytadjphiipnlcdaa", sum := "e6ad8846b4f14be803a3b70d14e19332c01154eeaa880d732ab33a985bb4f3f4", func := "loop.example/turningwheels/laws.FnExactDesignValid", spec := "fnExactDesignValid", unfollowed := true, recurses := true, apart := false }
def FnExactDesignValidSaid : Prop := fnExactDesignValidRow.holds Try.pinned (OpenSpec.ofChange fnExactDesignValidSpec)

/-- ITS FALSE NEIGHBOUR: 'it returns false'. Refute it at one input. -/
def fnExactDesignValidWrong : ChangeSpec := { name := "fnExactDesignValid", fn := fun _ => fun
  | [d] => { results := [.lit (.bool false)], args := [d] }
  | _ => none }
def FnExactDesignValidWrongFalsely : Prop := fnExactDesignValidRow.holds Try.pinned (OpenSpec.ofChange fnExactDesignValidWrong)

/-- 'laws.FnDesign': WHATEVER THE INPUT: true; the input reads as it did. -/
def fnDesignSpec : ChangeSpec := { name := "fnDesign", fn := fun _ => fun
  | [d] => { results := [.lit (.bool true)], args := [d] }
  | _ => none }
def fnDesignRow : OpenClaim := { program := "ytadjphiipnlcdaa", sum := "e6ad8846b4f14be803a3b70d14e19332c01154eeaa880d732ab33a985bb4f3f4", func := "loop.example/turningwheels/laws.FnDesign", spec := "fnDesign", unfollowed := true, recurses := true, apart := false }
def FnDesignSaid : Prop := fnDesignRow.holds Try.pinned (OpenSpec.ofChange fnDesignSpec)

/-- ITS FALSE NEIGHBOUR: 'it returns false'. Refute it at one input. -/
def fnDesignWrong : ChangeSpec := { name := "fnDesign", fn := fun _ => fun
  | [d] => { results := [.lit (.bool false)], args := [d] }
  | _ => none }
def FnDesignWrongFalsely : Prop := fnDesignRow.holds Try.pinned (OpenSpec.ofChange fnDesignWrong)

/-- 'laws.FnExactDesignTidy': WHATEVER THE INPUT: true; the input reads as it did. -/
def fnExactDesignTidySpec : ChangeSpec := { name := "fnExactDesignTidy", fn := fun _ => fun
  | [d] => { results := [.lit (.bool true)], args := [d] }
  | _ => none }
def fnExactDesignTidyRow : OpenClaim := { program := "ytadjphiipnlcdaa", sum := "e6ad8846b4f14be803a3b70d14e19332c01154eeaa880d732ab33a985bb4f3f4", func := "loop.example/turningwheels/laws.FnExactDesignTidy", spec := "fnExactDesignTidy", unfollowed := true, recurses := true, apart := false }
def FnExactDesignTidySaid : Prop := fnExactDesignTidyRow.holds Try.pinned (OpenSpec.ofChange fnExactDesignTidySpec)

/-- ITS FALSE NEIGHBOUR: 'it returns false'. Refute it at one input. -/
def fnExactDesignTidyWrong : ChangeSpec := { name := "fnExactDesignTidy", fn := fun _ => fun
  | [d] => { results := [.lit (.bool false)], args := [d] }
  | _ => none }
def FnExactDesignTidyWrongFalsely : Prop := fnExactDesignTidyRow.holds Try.pinned (OpenSpec.ofChange fnExactDesignTidyWrong)

/- THE SECOND FORM. 'bulk': how many values and letters a reading holds, each counted each time it is reached (what is shared counts as often as it is met; a slice's spare places count too). A statement '..UptoSaid' is the law's where the arguments, and the package variables that the reading takes, are together of bulk at most 1048576: NARROWER than '..Said'. Prove '..Said' where nothing that the law and all that it calls make is longer than what came in: it says more and counts as full. Else prove '..UptoSaid'. A law counts once. -/
mutual
def uptoBulk {H : Type} : DataW H → Nat
  | .lit (.string bytes) => bytes.length + 1
  | .lit _ => 1
  | .nil => 1
  | .ptr d => uptoBulk d + 1
  | .slice elems spare => uptoBulkAll elems + uptoBulkAll spare + 1
  | .agg parts => uptoBulkAll parts + 1
  | .iface _ d => uptoBulk d + 1
  | .map entries => uptoBulkEntries entries + 1
  | .held _ => 1
def uptoBulkAll {H : Type} : List (DataW H) → Nat
  | [] => 0
  | d :: r => uptoBulk d + uptoBulkAll r
def uptoBulkEntries {H : Type} : List (Lit × DataW H) → Nat
  | [] => 0
  | x :: r => uptoBulkEntry x + uptoBulkEntries r
def uptoBulkEntry {H : Type} : Lit × DataW H → Nat
  | (.string bytes, d) => bytes.length + uptoBulk d + 1
  | (_, d) => uptoBulk d + 1
 end
def uptoSmall : (H : Type) → List (DataW H) → Bool := fun _ ds => decide (uptoBulkAll ds ≤ 1048576)
def OpenSpec.upto (s : _root_.Go.ChangeSpec) : _root_.Go.OpenSpec := { _root_.Go.OpenSpec.ofChange s with cond := some uptoSmall }

/-- 'laws.FnExactDesignSame', WHERE WHAT IT READS IS OF BULK AT MOST 1048576: true; the input reads as it did. -/
def fnExactDesignSameUptoRow : OpenClaim := { program := "ytadjphiipnlcdaa", sum := "e6ad8846b4f14be803a3b70d14e19332c01154eeaa880d732ab33a985bb4f3f4", func := "loop.example/turningwheels/laws.FnExactDesignSame", spec := "fnExactDesignSame", unfollowed := true, recurses := true, apart := false, narrowed := true }
def FnExactDesignSameUptoSaid : Prop := fnExactDesignSameUptoRow.holds Try.pinned (OpenSpec.upto fnExactDesignSameSpec)

/-- 'laws.FnExactDesignSum', WHERE WHAT IT READS IS OF BULK AT MOST 1048576: true; the input reads as it did. -/
def fnExactDesignSumUptoRow : OpenClaim := { program := "ytadjphiipnlcdaa", sum := "e6ad8846b4f14be803a3b70d14e19332c01154eeaa880d732ab33a985bb4f3f4", func := "loop.example/turningwheels/laws.FnExactDesignSum", spec := "fnExactDesignSum", unfollowed := true, recurses := true, apart := false, narrowed := true }
def FnExactDesignSumUptoSaid : Prop := fnExactDesignSumUptoRow.holds Try.pinned (OpenSpec.upto fnExactDesignSumSpec)

/-- 'laws.FnExactDesignBack', WHERE WHAT IT READS IS OF BULK AT MOST 1048576: true; the input reads as it did. -/
def fnExactDesignBackUptoRow : OpenClaim := { program := "ytadjphiipnlcdaa", sum := "e6ad8846b4f14be803a3b70d14e19332c01154eeaa880d732ab33a985bb4f3f4", func := "loop.example/turningwheels/laws.FnExactDesignBack", spec := "fnExactDesignBack", unfollowed := true, recurses := true, apart := false, narrowed := true }
def FnExactDesignBackUptoSaid : Prop := fnExactDesignBackUptoRow.holds Try.pinned (OpenSpec.upto fnExactDesignBackSpec)

/-- 'laws.FnExactDesignValid', WHERE WHAT IT READS IS OF BULK AT MOST 1048576: true; the input reads as it did. -/
def fnExactDesignValidUptoRow : OpenClaim := { program := "ytadjphiipnlcdaa", sum := "e6ad8846b4f14be803a3b70d14e19332c01154eeaa880d732ab33a985bb4f3f4", func := "loop.example/turningwheels/laws.FnExactDesignValid", spec := "fnExactDesignValid", unfollowed := true, recurses := true, apart := false, narrowed := true }
def FnExactDesignValidUptoSaid : Prop := fnExactDesignValidUptoRow.holds Try.pinned (OpenSpec.upto fnExactDesignValidSpec)

/-- 'laws.FnDesign', WHERE WHAT IT READS IS OF BULK AT MOST 1048576: true; the input reads as it did. -/
def fnDesignUptoRow : OpenClaim := { program := "ytadjphiipnlcdaa", sum := "e6ad8846b4f14be803a3b70d14e19332c01154eeaa880d732ab33a985bb4f3f4", func := "loop.example/turningwheels/laws.FnDesign", spec := "fnDesign", unfollowed := true, recurses := true, apart := false, narrowed := true }
def FnDesignUptoSaid : Prop := fnDesignUptoRow.holds Try.pinned (OpenSpec.upto fnDesignSpec)

/-- 'laws.FnExactDesignTidy', WHERE WHAT IT READS IS OF BULK AT MOST 1048576: true; the input reads as it did. -/
def fnExactDesignTidyUptoRow : OpenClaim := { program := "ytadjphiipnlcdaa", sum := "e6ad8846b4f14be803a3b70d14e19332c01154eeaa880d732ab33a985bb4f3f4", func := "loop.example/turningwheels/laws.FnExactDesignTidy", spec := "fnExactDesignTidy", unfollowed := true, recurses := true, apart := false, narrowed := true }
def FnExactDesignTidyUptoSaid : Prop := fnExactDesignTidyUptoRow.holds Try.pinned (OpenSpec.upto fnExactDesignTidySpec)

end Rows
end Go.Proofs.Ytadjphiipnlcdaa
