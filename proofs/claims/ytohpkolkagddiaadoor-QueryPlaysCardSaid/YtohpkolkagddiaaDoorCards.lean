/-
  DERIVED. GIVEN WITH THE SEED: THE CARDS: each row of YtohpkolkagddiaaDoorRows.lean that lists a variable, with what it lists TIED to the program's text (the seventh form; the later family's looks); each row that meets fmt, with fmt's text TOLD by the authors' own Lean function (tested against real Go, not proved from fmt's source: count such statements apart). THE CARD IS WHAT COUNTS. Prove the row's statement (the work); the ties are given (YtohpkolkagddiaaDoorTie.lean); close each card by the builder's one call (the guide's Derived/Test/ToyasCard.lean, 'card_holds'). Laid BY PROGRAM, IN A SANDBOX (cutbox-door.mjs). By AI agents, Wed Nov 11 2026. No macro, syntax, notation, axiom, sorry.
-/
import Derived.Test.YtohpkolkagddiaaDoorRows
import GoSem.ClaimSeven
namespace Go.Proofs.YtohpkolkagddiaaDoor
namespace Rows

/-- THE TIED CARD OF 'marginalialaw22.QueryPlain'. -/
def queryPlainCard : Claim7 := { stood := { row := queryPlainRow, standIns := [], harness := (true, "5572ca8754e20a73bcdf62f306012d5951d90c2a6ae4461d199a2d3fa97f1726"), looks := true }, kinds := [], alts := [], laidByText := true, laidKinds := [.data], laidTests := true, laidLooks := .later }
def QueryPlainCardSaid : Prop := Claim7.holds Tryd.pinned (.plain (OpenSpec.ofChange queryPlainSpec)) queryPlainCard

/-- THE TIED CARD OF 'marginalialaw22.QueryAnew'. -/
def queryAnewCard : Claim7 := { stood := { row := queryAnewRow, standIns := [], harness := (true, "5572ca8754e20a73bcdf62f306012d5951d90c2a6ae4461d199a2d3fa97f1726"), looks := true }, kinds := [], alts := [], laidByText := true, laidKinds := [.data], laidTests := true, laidLooks := .later }
def QueryAnewCardSaid : Prop := Claim7.holds Tryd.pinned (.plain (OpenSpec.ofChange queryAnewSpec)) queryAnewCard

/-- THE TIED CARD OF 'marginalialaw22.QueryTwice'. -/
def queryTwiceCard : Claim7 := { stood := { row := queryTwiceRow, standIns := [], harness := (true, "5572ca8754e20a73bcdf62f306012d5951d90c2a6ae4461d199a2d3fa97f1726"), looks := true }, kinds := [], alts := [], laidByText := true, laidKinds := [.data], laidTests := true, laidLooks := .later }
def QueryTwiceCardSaid : Prop := Claim7.holds Tryd.pinned (.plain (OpenSpec.ofChange queryTwiceSpec)) queryTwiceCard

/-- THE TIED CARD OF 'marginalialaw22.QueryOnly'. -/
def queryOnlyCard : Claim7 := { stood := { row := queryOnlyRow, standIns := [], harness := (true, "5572ca8754e20a73bcdf62f306012d5951d90c2a6ae4461d199a2d3fa97f1726"), looks := true }, kinds := [], alts := [], laidByText := true, laidKinds := [.data], laidTests := true, laidLooks := .later }
def QueryOnlyCardSaid : Prop := Claim7.holds Tryd.pinned (.plain (OpenSpec.ofChange queryOnlySpec)) queryOnlyCard

/-- THE TIED CARD OF 'marginalialaw22.QueryPlays'. -/
def queryPlaysCard : Claim7 := { stood := { row := queryPlaysRow, standIns := [], harness := (true, "5572ca8754e20a73bcdf62f306012d5951d90c2a6ae4461d199a2d3fa97f1726"), looks := true }, kinds := [], alts := [], laidByText := true, laidKinds := [.data], laidTests := true, laidLooks := .later }
def QueryPlaysCardSaid : Prop := Claim7.holds Tryd.pinned (.plain (OpenSpec.ofChange queryPlaysSpec)) queryPlaysCard

/-- THE TIED CARD OF 'marginalialaw22.QueryNobody'. -/
def queryNobodyCard : Claim7 := { stood := { row := queryNobodyRow, standIns := [], harness := (true, "5572ca8754e20a73bcdf62f306012d5951d90c2a6ae4461d199a2d3fa97f1726"), looks := true }, kinds := [], alts := [], laidByText := true, laidKinds := [.data], laidTests := true, laidLooks := .later }
def QueryNobodyCardSaid : Prop := Claim7.holds Tryd.pinned (.plain (OpenSpec.ofChange queryNobodySpec)) queryNobodyCard

/-- THE TIED CARD OF 'marginalialaw22.QueryParts'. -/
def queryPartsCard : Claim7 := { stood := { row := queryPartsRow, standIns := [], harness := (true, "5572ca8754e20a73bcdf62f306012d5951d90c2a6ae4461d199a2d3fa97f1726"), looks := true }, kinds := [], alts := [], laidByText := true, laidKinds := [.data], laidTests := true, laidLooks := .later }
def QueryPartsCardSaid : Prop := Claim7.holds Tryd.pinned (.plain (OpenSpec.ofChange queryPartsSpec)) queryPartsCard

/-- THE SECOND FORM's CARD OF 'marginalialaw22.QueryPlain'. -/
def queryPlainUptoCard : Claim7 := { stood := { row := queryPlainUptoRow, standIns := [], harness := (true, "5572ca8754e20a73bcdf62f306012d5951d90c2a6ae4461d199a2d3fa97f1726"), looks := true }, kinds := [], alts := [], laidByText := true, laidKinds := [.data], laidTests := true, laidLooks := .later }
def QueryPlainUptoCardSaid : Prop := Claim7.holds Tryd.pinned (.plain (OpenSpec.upto queryPlainSpec)) queryPlainUptoCard

/-- THE SECOND FORM's CARD OF 'marginalialaw22.QueryAnew'. -/
def queryAnewUptoCard : Claim7 := { stood := { row := queryAnewUptoRow, standIns := [], harness := (true, "5572ca8754e20a73bcdf62f306012d5951d90c2a6ae4461d199a2d3fa97f1726"), looks := true }, kinds := [], alts := [], laidByText := true, laidKinds := [.data], laidTests := true, laidLooks := .later }
def QueryAnewUptoCardSaid : Prop := Claim7.holds Tryd.pinned (.plain (OpenSpec.upto queryAnewSpec)) queryAnewUptoCard

/-- THE SECOND FORM's CARD OF 'marginalialaw22.QueryTwice'. -/
def queryTwiceUptoCard : Claim7 := { stood := { row := queryTwiceUptoRow, standIns := [], harness := (true, "5572ca8754e20a73bcdf62f306012d5951d90c2a6ae4461d199a2d3fa97f1726"), looks := true }, kinds := [], alts := [], laidByText := true, laidKinds := [.data], laidTests := true, laidLooks := .later }
def QueryTwiceUptoCardSaid : Prop := Claim7.holds Tryd.pinned (.plain (OpenSpec.upto queryTwiceSpec)) queryTwiceUptoCard

/-- THE SECOND FORM's CARD OF 'marginalialaw22.QueryOnly'. -/
def queryOnlyUptoCard : Claim7 := { stood := { row := queryOnlyUptoRow, standIns := [], harness := (true, "5572ca8754e20a73bcdf62f306012d5951d90c2a6ae4461d199a2d3fa97f1726"), looks := true }, kinds := [], alts := [], laidByText := true, laidKinds := [.data], laidTests := true, laidLooks := .later }
def QueryOnlyUptoCardSaid : Prop := Claim7.holds Tryd.pinned (.plain (OpenSpec.upto queryOnlySpec)) queryOnlyUptoCard

/-- THE SECOND FORM's CARD OF 'marginalialaw22.QueryPlays'. -/
def queryPlaysUptoCard : Claim7 := { stood := { row := queryPlaysUptoRow, standIns := [], harness := (true, "5572ca8754e20a73bcdf62f306012d5951d90c2a6ae4461d199a2d3fa97f1726"), looks := true }, kinds := [], alts := [], laidByText := true, laidKinds := [.data], laidTests := true, laidLooks := .later }
def QueryPlaysUptoCardSaid : Prop := Claim7.holds Tryd.pinned (.plain (OpenSpec.upto queryPlaysSpec)) queryPlaysUptoCard

/-- THE SECOND FORM's CARD OF 'marginalialaw22.QueryNobody'. -/
def queryNobodyUptoCard : Claim7 := { stood := { row := queryNobodyUptoRow, standIns := [], harness := (true, "5572ca8754e20a73bcdf62f306012d5951d90c2a6ae4461d199a2d3fa97f1726"), looks := true }, kinds := [], alts := [], laidByText := true, laidKinds := [.data], laidTests := true, laidLooks := .later }
def QueryNobodyUptoCardSaid : Prop := Claim7.holds Tryd.pinned (.plain (OpenSpec.upto queryNobodySpec)) queryNobodyUptoCard

/-- THE SECOND FORM's CARD OF 'marginalialaw22.QueryParts'. -/
def queryPartsUptoCard : Claim7 := { stood := { row := queryPartsUptoRow, standIns := [], harness := (true, "5572ca8754e20a73bcdf62f306012d5951d90c2a6ae4461d199a2d3fa97f1726"), looks := true }, kinds := [], alts := [], laidByText := true, laidKinds := [.data], laidTests := true, laidLooks := .later }
def QueryPartsUptoCardSaid : Prop := Claim7.holds Tryd.pinned (.plain (OpenSpec.upto queryPartsSpec)) queryPartsUptoCard
end Rows
end Go.Proofs.YtohpkolkagddiaaDoor
