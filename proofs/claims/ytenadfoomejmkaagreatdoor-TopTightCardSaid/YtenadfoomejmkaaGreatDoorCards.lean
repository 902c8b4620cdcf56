/-
  DERIVED. GIVEN WITH THE SEED: THE CARDS: each row of YtenadfoomejmkaaGreatDoorRows.lean that lists a variable, with what it lists TIED to the program's text (the seventh form; the later family's looks); each row that meets fmt, with fmt's text TOLD by the authors' own Lean function (tested against real Go, not proved from fmt's source: count such statements apart). THE CARD IS WHAT COUNTS. Prove the row's statement (the work); the ties are given (YtenadfoomejmkaaGreatDoorTie.lean); close each card by the builder's one call (the guide's Derived/Test/ToyasCard.lean, 'card_holds'). Laid BY PROGRAM, IN A SANDBOX (cutbox-door.mjs). By AI agents, Wed Nov 11 2026. No macro, syntax, notation, axiom, sorry.
-/
import Derived.Test.YtenadfoomejmkaaGreatDoorRows
import GoSem.ClaimSeven
namespace Go.Proofs.YtenadfoomejmkaaGreatDoor
namespace Rows

/-- THE TIED CARD OF 'portholetop.TopCodes'. -/
def topCodesCard : Claim7 := { stood := { row := topCodesRow, standIns := [], harness := (true, "8e904c394213cf602149d2c398468f8646aae550ee68222e435103110711038d"), looks := false }, kinds := [], alts := [], laidByText := true, laidKinds := [.data, .widerDeep], laidTests := true, laidLooks := .later }
def TopCodesCardSaid : Prop := Claim7.holds Tryz.pinned (.plain (OpenSpec.ofChange topCodesSpec)) topCodesCard

/-- THE TIED CARD OF 'portholetop.TopFaults'. -/
def topFaultsCard : Claim7 := { stood := { row := topFaultsRow, standIns := [], harness := (true, "8e904c394213cf602149d2c398468f8646aae550ee68222e435103110711038d"), looks := false }, kinds := [], alts := [], laidByText := true, laidKinds := [.data, .widerDeep], laidTests := true, laidLooks := .later }
def TopFaultsCardSaid : Prop := Claim7.holds Tryz.pinned (.plain (OpenSpec.ofChange topFaultsSpec)) topFaultsCard

/-- THE TIED CARD OF 'portholetop.TopTight'. -/
def topTightCard : Claim7 := { stood := { row := topTightRow, standIns := [], harness := (true, "8e904c394213cf602149d2c398468f8646aae550ee68222e435103110711038d"), looks := false }, kinds := [], alts := [], laidByText := true, laidKinds := [.data, .widerDeep], laidTests := true, laidLooks := .later }
def TopTightCardSaid : Prop := Claim7.holds Tryz.pinned (.plain (OpenSpec.ofChange topTightSpec)) topTightCard

/-- THE TIED CARD OF 'portholetop.TopQueues'. -/
def topQueuesCard : Claim7 := { stood := { row := topQueuesRow, standIns := [], harness := (true, "8e904c394213cf602149d2c398468f8646aae550ee68222e435103110711038d"), looks := false }, kinds := [], alts := [], laidByText := true, laidKinds := [.data, .widerDeep], laidTests := true, laidLooks := .later }
def TopQueuesCardSaid : Prop := Claim7.holds Tryz.pinned (.plain (OpenSpec.ofChange topQueuesSpec)) topQueuesCard

/-- THE SECOND FORM's CARD OF 'portholetop.TopCodes'. -/
def topCodesUptoCard : Claim7 := { stood := { row := topCodesUptoRow, standIns := [], harness := (true, "8e904c394213cf602149d2c398468f8646aae550ee68222e435103110711038d"), looks := false }, kinds := [], alts := [], laidByText := true, laidKinds := [.data, .widerDeep], laidTests := true, laidLooks := .later }
def TopCodesUptoCardSaid : Prop := Claim7.holds Tryz.pinned (.plain (OpenSpec.upto topCodesSpec)) topCodesUptoCard

/-- THE SECOND FORM's CARD OF 'portholetop.TopFaults'. -/
def topFaultsUptoCard : Claim7 := { stood := { row := topFaultsUptoRow, standIns := [], harness := (true, "8e904c394213cf602149d2c398468f8646aae550ee68222e435103110711038d"), looks := false }, kinds := [], alts := [], laidByText := true, laidKinds := [.data, .widerDeep], laidTests := true, laidLooks := .later }
def TopFaultsUptoCardSaid : Prop := Claim7.holds Tryz.pinned (.plain (OpenSpec.upto topFaultsSpec)) topFaultsUptoCard

/-- THE SECOND FORM's CARD OF 'portholetop.TopTight'. -/
def topTightUptoCard : Claim7 := { stood := { row := topTightUptoRow, standIns := [], harness := (true, "8e904c394213cf602149d2c398468f8646aae550ee68222e435103110711038d"), looks := false }, kinds := [], alts := [], laidByText := true, laidKinds := [.data, .widerDeep], laidTests := true, laidLooks := .later }
def TopTightUptoCardSaid : Prop := Claim7.holds Tryz.pinned (.plain (OpenSpec.upto topTightSpec)) topTightUptoCard

/-- THE SECOND FORM's CARD OF 'portholetop.TopQueues'. -/
def topQueuesUptoCard : Claim7 := { stood := { row := topQueuesUptoRow, standIns := [], harness := (true, "8e904c394213cf602149d2c398468f8646aae550ee68222e435103110711038d"), looks := false }, kinds := [], alts := [], laidByText := true, laidKinds := [.data, .widerDeep], laidTests := true, laidLooks := .later }
def TopQueuesUptoCardSaid : Prop := Claim7.holds Tryz.pinned (.plain (OpenSpec.upto topQueuesSpec)) topQueuesUptoCard
end Rows
end Go.Proofs.YtenadfoomejmkaaGreatDoor
