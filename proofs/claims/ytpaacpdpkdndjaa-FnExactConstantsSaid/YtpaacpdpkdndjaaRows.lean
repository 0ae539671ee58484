/-
  No cell of these rows narrows 'for every input' (looked for: loops, veiled, ifaces, maps, wideKeys, modest, calm, conditions, laid).
  DERIVED. THE GIVEN ROWS OF THIS SEAT. 5 by the template 'for every input the law returns true; each argument reads behind the call as it read before'; 0 by the template 'total and deterministic' (their statements: YtpaacpdpkdndjaaTotals.lean).
  GIVEN WITH THE SEED: the statements are not yours to turn. If you find one false, say at which input.
  Laid BY PROGRAM, IN A SANDBOX (cutbox-rows.mjs): the forced cells as the released guide's own fill.sh prints them over the translation 6496bf0b1fc3e393… (all of the seat's roots in one cut). By AI agents, Wed Nov 11 2026. No macro, syntax, notation, axiom, sorry.
-/
import Derived.Test.YtpaacpdpkdndjaaChecked
import GoSem.Claim
import GoSem.ClaimJoined
import GoSem.ClaimMapViews
import Derived.JoinedTies
import Derived.KernelRfl
namespace Go.Proofs.Ytpaacpdpkdndjaa
/- THE CELL 'sum', in the pinned program and in every row, IS THE sha256 OF THE DUMP (.gsa) THAT YtpaacpdpkdndjaaProg.lean LOADS. Nothing in Lean hashes anything: it is a label: what it is worth is what the hold of that sum in a sandbox is worth. -/
noncomputable def Try.pinned : Pinned := { name := "ytpaacpdpkdndjaa", sum := "6496bf0b1fc3e39398a11a91d9944538ed673bfaf07c64170cafb3b52dd86f62", checked := Try.checked }
namespace Rows
def none {H : Type} : Left H := { results := [], args := [] }

/-- 'laws.FnExactConstants': WHATEVER THE INPUT: true; the input reads as it did. -/
def fnExactConstantsSpec : ChangeSpec := { name := "fnExactConstants", fn := fun _ => fun
  | [] => { results := [.lit (.bool true)], args := [] }
  | _ => none }
def fnExactConstantsRow : OpenClaim := { program := "ytpaacpdpkdndjaa", sum := "6496bf0b1fc3e39398a11a91d9944538ed673bfaf07c64170cafb3b52dd86f62", func := "loop.example/turningwheels/laws.FnExactConstants", spec := "fnExactConstants", apart := false }
def FnExactConstantsSaid : Prop := fnExactConstantsRow.holds Try.pinned (OpenSpec.ofChange fnExactConstantsSpec)

/-- ITS FALSE NEIGHBOUR: 'it returns false'. Refute it at one input. -/
def fnExactConstantsWrong : ChangeSpec := { name := "fnExactConstants", fn := fun _ => fun
  | [] => { results := [.lit (.bool false)], args := [] }
  | _ => none }
def FnExactConstantsWrongFalsely : Prop := fnExactConstantsRow.holds Try.pinned (OpenSpec.ofChange fnExactConstantsWrong)

/-- 'laws.FnExactSurdValid': WHATEVER THE INPUT: true; the input reads as it did. -/
def fnExactSurdValidSpec : ChangeSpec := { name := "fnExactSurdValid", fn := fun _ => fun
  | [d] => { results := [.lit (.bool true)], args := [d] }
  | _ => none }
def fnExactSurdValidRow : OpenClaim := { program := "ytpaacpdpkdndjaa", sum := "6496bf0b1fc3e39398a11a91d9944538ed673bfaf07c64170cafb3b52dd86f62", func := "loop.example/turningwheels/laws.FnExactSurdValid", spec := "fnExactSurdValid", apart := false }
def FnExactSurdValidSaid : Prop := fnExactSurdValidRow.holds Try.pinned (OpenSpec.ofChange fnExactSurdValidSpec)

/-- ITS FALSE NEIGHBOUR: 'it returns false'. Refute it at one input. -/
def fnExactSurdValidWrong : ChangeSpec := { name := "fnExactSurdValid", fn := fun _ => fun
  | [d] => { results := [.lit (.bool false)], args := [d] }
  | _ => none }
def FnExactSurdValidWrongFalsely : Prop := fnExactSurdValidRow.holds Try.pinned (OpenSpec.ofChange fnExactSurdValidWrong)

/-- 'laws.FnExactTurnOf': WHATEVER THE INPUT: true; the input reads as it did. -/
def fnExactTurnOfSpec : ChangeSpec := { name := "fnExactTurnOf", fn := fun _ => fun
  | [d1, d2] => { results := [.lit (.bool true)], args := [d1, d2] }
  | _ => none }
def fnExactTurnOfRow : OpenClaim := { program := "ytpaacpdpkdndjaa", sum := "6496bf0b1fc3e39398a11a91d9944538ed673bfaf07c64170cafb3b52dd86f62", func := "loop.example/turningwheels/laws.FnExactTurnOf", spec := "fnExactTurnOf", apart := false }
def FnExactTurnOfSaid : Prop := fnExactTurnOfRow.holds Try.pinned (OpenSpec.ofChange fnExactTurnOfSpec)

/-- ITS FALSE NEIGHBOUR: 'it returns false'. Refute it at one input. -/
def fnExactTurnOfWrong : ChangeSpec := { name := "fnExactTurnOf", fn := fun _ => fun
  | [d1, d2] => { results := [.lit (.bool false)], args := [d1, d2] }
  | _ => none }
def FnExactTurnOfWrongFalsely : Prop := fnExactTurnOfRow.holds Try.pinned (OpenSpec.ofChange fnExactTurnOfWrong)

/-- 'laws.FnExactTurnAdd': WHATEVER THE INPUT: true; the input reads as it did. -/
def fnExactTurnAddSpec : ChangeSpec := { name := "fnExactTurnAdd", fn := fun _ => fun
  | [d1, d2] => { results := [.lit (.bool true)], args := [d1, d2] }
  | _ => none }
def fnExactTurnAddRow : OpenClaim := { program := "ytpaacpdpkdndjaa", sum := "6496bf0b1fc3e39398a11a91d9944538ed673bfaf07c64170cafb3b52dd86f62", func := "loop.example/turningwheels/laws.FnExactTurnAdd", spec := "fnExactTurnAdd", apart := false }
def FnExactTurnAddSaid : Prop := fnExactTurnAddRow.holds Try.pinned (OpenSpec.ofChange fnExactTurnAddSpec)

/-- ITS FALSE NEIGHBOUR: 'it returns false'. Refute it at one input. -/
def fnExactTurnAddWrong : ChangeSpec := { name := "fnExactTurnAdd", fn := fun _ => fun
  | [d1, d2] => { results := [.lit (.bool false)], args := [d1, d2] }
  | _ => none }
def FnExactTurnAddWrongFalsely : Prop := fnExactTurnAddRow.holds Try.pinned (OpenSpec.ofChange fnExactTurnAddWrong)

/-- 'laws.FnExactTurnTimes': WHATEVER THE INPUT: true; the input reads as it did. -/
def fnExactTurnTimesSpec : ChangeSpec := { name := "fnExactTurnTimes", fn := fun _ => fun
  | [d1, d2] => { results := [.lit (.bool true)], args := [d1, d2] }
  | _ => none }
def fnExactTurnTimesRow : OpenClaim := { program := "ytpaacpdpkdndjaa", sum := "6496bf0b1fc3e39398a11a91d9944538ed673bfaf07c64170cafb3b52dd86f62", func := "loop.example/turningwheels/laws.FnExactTurnTimes", spec := "fnExactTurnTimes", apart := false }
def FnExactTurnTimesSaid : Prop := fnExactTurnTimesRow.holds Try.pinned (OpenSpec.ofChange fnExactTurnTimesSpec)

/-- ITS FALSE NEIGHBOUR: 'it returns false'. Refute it at one input. -/
def fnExactTurnTimesWrong : ChangeSpec := { name := "fnExactTurnTimes", fn := fun _ => fun
  | [d1, d2] => { results := [.lit (.bool false)], args := [d1, d2] }
  | _ => none }
def FnExactTurnTimesWrongFalsely : Prop := fnExactTurnTimesRow.holds Try.pinned (OpenSpec.ofChange fnExactTurnTimesWrong)

/- THE SECOND FORM. 'bulk': how many values and letters a reading holds, each counted each time it is reached (what is shared counts as often as it is met; a slice's spare places count too). A statement '..UptoSaid' is the law's where the arguments, and the package variables that the reading takes, are together of bulk at most 1048576: NARROWER than '..Said'. Prove '..Said' where nothing that the law and all that it calls make is longer than what came in: it says more and counts as full. Else prove '..UptoSaid'. A law counts once. -/
mutual
def uptoBulk {H : Type} : DataW H → Nat
  | .lit (.string bytes) => bytes.length + 1
  | .lit _ => 1
  | .nil => 1
  | .ptr d => uptoBulk d + 1
  | .slice elems spare => uptoBulkAll elems + uptoBulkAll spare + 1
  | .agg parts => uptoBulkAll parts + 1
  | .iface _ d => uptoBulk d + 1
  | .map entries => uptoBulkEntries entries + 1
  | .held _ => 1
def uptoBulkAll {H : Type} : List (DataW H) → Nat
  | [] => 0
  | d :: r => uptoBulk d + uptoBulkAll r
def uptoBulkEntries {H : Type} : List (Lit × DataW H) → Nat
  | [] => 0
  | x :: r => uptoBulkEntry x + uptoBulkEntries r
def uptoBulkEntry {H : Type} : Lit × DataW H → Nat
  | (.string bytes, d) => bytes.length + uptoBulk d + 1
  | (_, d) => uptoBulk d + 1
 end
def uptoSmall : (H : Type) → List (DataW H) → Bool := fun _ ds => decide (uptoBulkAll ds ≤ 1048576)
def OpenSpec.upto (s : _root_.Go.ChangeSpec) : _root_.Go.OpenSpec := { _root_.Go.OpenSpec.ofChange s with cond := some uptoSmall }

/-- 'laws.FnExactConstants', WHERE WHAT IT READS IS OF BULK AT MOST 1048576: true; the input reads as it did. -/
def fnExactConstantsUptoRow : OpenClaim := { program := "ytpaacpdpkdndjaa", sum := "6496bf0b1fc3e39398a11a91d9944538ed673bfaf07c64170cafb3b52dd86f62", func := "loop.example/turningwheels/laws.FnExactConstants", spec := "fnExactConstants", apart := false, narrowed := true }
def FnExactConstantsUptoSaid : Prop := fnExactConstantsUptoRow.holds Try.pinned (OpenSpec.upto fnExactConstantsSpec)

/-- 'laws.FnExactSurdValid', WHERE WHAT IT READS IS OF BULK AT MOST 1048576: true; the input reads as it did. -/
def fnExactSurdValidUptoRow : OpenClaim := { program := "ytpaacpdpkdndjaa", sum := "6496bf0b1fc3e39398a11a91d9944538ed673bfaf07c64170cafb3b52dd86f62", func := "loop.example/turningwheels/laws.FnExactSurdValid", spec := "fnExactSurdValid", apart := false, narrowed := true }
def FnExactSurdValidUptoSaid : Prop := fnExactSurdValidUptoRow.holds Try.pinned (OpenSpec.upto fnExactSurdValidSpec)

/-- 'laws.FnExactTurnOf', WHERE WHAT IT READS IS OF BULK AT MOST 1048576: true; the input reads as it did. -/
def fnExactTurnOfUptoRow : OpenClaim := { program := "ytpaacpdpkdndjaa", sum := "6496bf0b1fc3e39398a11a91d9944538ed673bfaf07c64170cafb3b52dd86f62", func := "loop.example/turningwheels/laws.FnExactTurnOf", spec := "fnExactTurnOf", apart := false, narrowed := true }
def FnExactTurnOfUptoSaid : Prop := fnExactTurnOfUptoRow.holds Try.pinned (OpenSpec.upto fnExactTurnOfSpec)

/-- 'laws.FnExactTurnAdd', WHERE WHAT IT READS IS OF BULK AT MOST 1048576: true; the input reads as it did. -/
def fnExactTurnAddUptoRow : OpenClaim := { program := "ytpaacpdpkdndjaa", sum := "6496bf0b1fc3e39398a11a91d9944538ed673bfaf07c64170cafb3b52dd86f62", func := "loop.example/turningwheels/laws.FnExactTurnAdd", spec := "fnExactTurnAdd", apart := false, narrowed := true }
def FnExactTurnAddUptoSaid : Prop := fnExactTurnAddUptoRow.holds Try.pinned (OpenSpec.upto fnExactTurnAddSpec)

/-- 'laws.FnExactTurnTimes', WHERE WHAT IT READS IS OF BULK AT MOST 1048576: true; the input reads as it did. -/
def fnExactTurnTimesUptoRow : OpenClaim := { program := "ytpaacpdpkdndjaa", sum := "6496bf0b1fc3e39398a11a91d9944538ed673bfaf07c64170cafb3b52dd86f62", func := "loop.example/turningwheels/laws.FnExactTurnTimes", spec := "fnExactTurnTimes", apart := false, narrowed := true }
def FnExactTurnTimesUptoSaid : Prop := fnExactTurnTimesUptoRow.holds Try.pinned (OpenSpec.upto fnExactTurnTimesSpec)

end Rows
end Go.Proofs.Ytpaacpdpkdndjaa
