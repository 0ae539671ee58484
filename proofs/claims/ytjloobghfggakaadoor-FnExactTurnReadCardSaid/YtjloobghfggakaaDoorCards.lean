/-
  DERIVED. GIVEN WITH THE SEED: THE CARDS: each row of YtjloobghfggakaaDoorRows.lean that lists a variable, with what it lists TIED to the program's text (the seventh form; the later family's looks); each row that meets fmt, with fmt's text TOLD by the authors' own Lean function (tested against real Go, not proved from fmt's source: count such statements apart). THE CARD IS WHAT COUNTS. Prove the row's statement (the work); the ties are given (YtjloobghfggakaaDoorTie.lean); close each card by the builder's one call (the guide's Derived/Test/ToyasCard.lean, 'card_holds'). Laid BY PROGRAM, IN A SANDBOX (cutbox-door.mjs). By AI agents, Wed Nov 11 2026. No macro, syntax, notation, axiom, sorry.
-/
import Derived.Test.YtjloobghfggakaaDoorRows
import GoSem.ClaimSeven
namespace Go.Proofs.YtjloobghfggakaaDoor
namespace Rows

/-- THE TIED CARD OF 'laws.FnExactTurnText'. -/
def fnExactTurnTextCard : Claim7 := { stood := { row := fnExactTurnTextRow, standIns := [], harness := (true, "9bd50911994f0aa9f0a89ffe702f2400ed3046a853c2b834fdb836bae96b682a"), looks := false }, kinds := [], alts := [], laidByText := true, laidKinds := [.data, .data, .data], laidTests := true, laidLooks := .later }
def FnExactTurnTextCardSaid : Prop := Claim7.holds Tryd.pinned (.plain (OpenSpec.ofChange fnExactTurnTextSpec)) fnExactTurnTextCard

/-- THE TIED CARD OF 'laws.FnExactTurnRead'. -/
def fnExactTurnReadCard : Claim7 := { stood := { row := fnExactTurnReadRow, standIns := [], harness := (true, "9bd50911994f0aa9f0a89ffe702f2400ed3046a853c2b834fdb836bae96b682a"), looks := false }, kinds := [], alts := [], laidByText := true, laidKinds := [.data, .data, .data], laidTests := true, laidLooks := .later }
def FnExactTurnReadCardSaid : Prop := Claim7.holds Tryd.pinned (.plain (OpenSpec.ofChange fnExactTurnReadSpec)) fnExactTurnReadCard

/-- THE TIED CARD OF 'laws.FnTurnText'. -/
def fnTurnTextCard : Claim7 := { stood := { row := fnTurnTextRow, standIns := [], harness := (true, "9bd50911994f0aa9f0a89ffe702f2400ed3046a853c2b834fdb836bae96b682a"), looks := false }, kinds := [], alts := [], laidByText := true, laidKinds := [.data, .data, .data], laidTests := true, laidLooks := .later }
def FnTurnTextCardSaid : Prop := Claim7.holds Tryd.pinned (.plain (OpenSpec.ofChange fnTurnTextSpec)) fnTurnTextCard

/-- THE TIED CARD OF 'laws.FnTurnRead'. -/
def fnTurnReadCard : Claim7 := { stood := { row := fnTurnReadRow, standIns := [], harness := (true, "9bd50911994f0aa9f0a89ffe702f2400ed3046a853c2b834fdb836bae96b682a"), looks := false }, kinds := [], alts := [], laidByText := true, laidKinds := [.data, .data, .data], laidTests := true, laidLooks := .later }
def FnTurnReadCardSaid : Prop := Claim7.holds Tryd.pinned (.plain (OpenSpec.ofChange fnTurnReadSpec)) fnTurnReadCard

/-- THE SECOND FORM's CARD OF 'laws.FnExactTurnText'. -/
def fnExactTurnTextUptoCard : Claim7 := { stood := { row := fnExactTurnTextUptoRow, standIns := [], harness := (true, "9bd50911994f0aa9f0a89ffe702f2400ed3046a853c2b834fdb836bae96b682a"), looks := false }, kinds := [], alts := [], laidByText := true, laidKinds := [.data, .data, .data], laidTests := true, laidLooks := .later }
def FnExactTurnTextUptoCardSaid : Prop := Claim7.holds Tryd.pinned (.plain (OpenSpec.upto fnExactTurnTextSpec)) fnExactTurnTextUptoCard

/-- THE SECOND FORM's CARD OF 'laws.FnExactTurnRead'. -/
def fnExactTurnReadUptoCard : Claim7 := { stood := { row := fnExactTurnReadUptoRow, standIns := [], harness := (true, "9bd50911994f0aa9f0a89ffe702f2400ed3046a853c2b834fdb836bae96b682a"), looks := false }, kinds := [], alts := [], laidByText := true, laidKinds := [.data, .data, .data], laidTests := true, laidLooks := .later }
def FnExactTurnReadUptoCardSaid : Prop := Claim7.holds Tryd.pinned (.plain (OpenSpec.upto fnExactTurnReadSpec)) fnExactTurnReadUptoCard

/-- THE SECOND FORM's CARD OF 'laws.FnTurnText'. -/
def fnTurnTextUptoCard : Claim7 := { stood := { row := fnTurnTextUptoRow, standIns := [], harness := (true, "9bd50911994f0aa9f0a89ffe702f2400ed3046a853c2b834fdb836bae96b682a"), looks := false }, kinds := [], alts := [], laidByText := true, laidKinds := [.data, .data, .data], laidTests := true, laidLooks := .later }
def FnTurnTextUptoCardSaid : Prop := Claim7.holds Tryd.pinned (.plain (OpenSpec.upto fnTurnTextSpec)) fnTurnTextUptoCard

/-- THE SECOND FORM's CARD OF 'laws.FnTurnRead'. -/
def fnTurnReadUptoCard : Claim7 := { stood := { row := fnTurnReadUptoRow, standIns := [], harness := (true, "9bd50911994f0aa9f0a89ffe702f2400ed3046a853c2b834fdb836bae96b682a"), looks := false }, kinds := [], alts := [], laidByText := true, laidKinds := [.data, .data, .data], laidTests := true, laidLooks := .later }
def FnTurnReadUptoCardSaid : Prop := Claim7.holds Tryd.pinned (.plain (OpenSpec.upto fnTurnReadSpec)) fnTurnReadUptoCard
end Rows
end Go.Proofs.YtjloobghfggakaaDoor
