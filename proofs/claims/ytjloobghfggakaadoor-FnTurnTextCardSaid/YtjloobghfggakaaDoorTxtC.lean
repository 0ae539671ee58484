/- Texts of turns, impl: (turn).text, what they share. Written by mk_txtt.py. -/
import Derived.Test.YtjloobghfggakaaDoorTxt
import Derived.Test.YtjloobghfggakaaDoorGcd
import Derived.Deep.QuietTactic
import Derived.BigQuiet
import Derived.Deep.RegionWith
namespace Go.Proofs.YtjloobghfggakaaDoor
open Go.ChangeShapes Go.WideShapes Go.ChangeAt Go.RowKit
set_option linter.unusedVariables false

def slash : ByteArray := ⟨#[47]⟩
theorem itoaW_any (z : Int) (n : Nat) (h1 : 1 ≤ n) (h2 : n ≤ 24) (hz : z = (n : Int)) (w : World) : Calls Tryd.prog 27 #[.int .i64 z] w fun e w' => e = .returned (.string (dec n)) ∧ w = w' := by
  subst hz; exact itoa_any n h1 h2 w

end Go.Proofs.YtjloobghfggakaaDoor
