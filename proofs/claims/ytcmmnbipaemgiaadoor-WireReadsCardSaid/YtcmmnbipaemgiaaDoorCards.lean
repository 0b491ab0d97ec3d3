/-
  DERIVED. GIVEN WITH THE SEED: THE CARDS: each row of YtcmmnbipaemgiaaDoorRows.lean that lists a variable, with what it lists TIED to the program's text (the seventh form; the later family's looks); each row that meets fmt, with fmt's text TOLD by the authors' own Lean function (tested against real Go, not proved from fmt's source: count such statements apart). THE CARD IS WHAT COUNTS. Prove the row's statement (the work); the ties are given (YtcmmnbipaemgiaaDoorTie.lean); close each card by the builder's one call (the guide's Derived/Test/ToyasCard.lean, 'card_holds'). Laid BY PROGRAM, IN A SANDBOX (cutbox-door.mjs). By AI agents, Wed Nov 11 2026. No macro, syntax, notation, axiom, sorry.
-/
import Derived.Test.YtcmmnbipaemgiaaDoorRows
import GoSem.ClaimSeven
namespace Go.Proofs.YtcmmnbipaemgiaaDoor
namespace Rows

/-- THE TIED CARD OF 'marginalialaw30.WireWrites'. -/
def wireWritesCard : Claim7 := { stood := { row := wireWritesRow, standIns := [], harness := (true, "bb96c9d655bba1db50e2641b5c1daeeff0d8acdd2e4ceb258f770910b00e8571"), looks := true }, kinds := [], alts := [], laidByText := true, laidKinds := [.data, .data, .data], laidTests := true, laidLooks := .later }
def WireWritesCardSaid : Prop := Claim7.holds Tryd.pinned (.plain (OpenSpec.ofChange wireWritesSpec)) wireWritesCard

/-- THE TIED CARD OF 'marginalialaw30.WireReads'. -/
def wireReadsCard : Claim7 := { stood := { row := wireReadsRow, standIns := [], harness := (true, "bb96c9d655bba1db50e2641b5c1daeeff0d8acdd2e4ceb258f770910b00e8571"), looks := true }, kinds := [], alts := [], laidByText := true, laidKinds := [.data, .data, .data], laidTests := true, laidLooks := .later }
def WireReadsCardSaid : Prop := Claim7.holds Tryd.pinned (.plain (OpenSpec.ofChange wireReadsSpec)) wireReadsCard

/-- THE TIED CARD OF 'marginalialaw30.WireNobody'. -/
def wireNobodyCard : Claim7 := { stood := { row := wireNobodyRow, standIns := [], harness := (true, "bb96c9d655bba1db50e2641b5c1daeeff0d8acdd2e4ceb258f770910b00e8571"), looks := true }, kinds := [], alts := [], laidByText := true, laidKinds := [.data, .data, .data], laidTests := true, laidLooks := .later }
def WireNobodyCardSaid : Prop := Claim7.holds Tryd.pinned (.plain (OpenSpec.ofChange wireNobodySpec)) wireNobodyCard

/-- THE TIED CARD OF 'marginalialaw30.WireBack'. -/
def wireBackCard : Claim7 := { stood := { row := wireBackRow, standIns := [], harness := (true, "bb96c9d655bba1db50e2641b5c1daeeff0d8acdd2e4ceb258f770910b00e8571"), looks := true }, kinds := [], alts := [], laidByText := true, laidKinds := [.data, .data, .data], laidTests := true, laidLooks := .later }
def WireBackCardSaid : Prop := Claim7.holds Tryd.pinned (.plain (OpenSpec.ofChange wireBackSpec)) wireBackCard

/-- THE TIED CARD OF 'marginalialaw30.WireText'. -/
def wireTextCard : Claim7 := { stood := { row := wireTextRow, standIns := [], harness := (true, "bb96c9d655bba1db50e2641b5c1daeeff0d8acdd2e4ceb258f770910b00e8571"), looks := true }, kinds := [], alts := [], laidByText := true, laidKinds := [.data, .data, .data], laidTests := true, laidLooks := .later }
def WireTextCardSaid : Prop := Claim7.holds Tryd.pinned (.plain (OpenSpec.ofChange wireTextSpec)) wireTextCard

/-- THE TIED CARD OF 'marginalialaw30.WireFeeds'. -/
def wireFeedsCard : Claim7 := { stood := { row := wireFeedsRow, standIns := [], harness := (true, "bb96c9d655bba1db50e2641b5c1daeeff0d8acdd2e4ceb258f770910b00e8571"), looks := true }, kinds := [], alts := [], laidByText := true, laidKinds := [.data, .data, .data], laidTests := true, laidLooks := .later }
def WireFeedsCardSaid : Prop := Claim7.holds Tryd.pinned (.plain (OpenSpec.ofChange wireFeedsSpec)) wireFeedsCard

/-- THE TIED CARD OF 'marginalialaw30.WirePieces'. -/
def wirePiecesCard : Claim7 := { stood := { row := wirePiecesRow, standIns := [], harness := (true, "bb96c9d655bba1db50e2641b5c1daeeff0d8acdd2e4ceb258f770910b00e8571"), looks := true }, kinds := [], alts := [], laidByText := true, laidKinds := [.data, .data, .data], laidTests := true, laidLooks := .later }
def WirePiecesCardSaid : Prop := Claim7.holds Tryd.pinned (.plain (OpenSpec.ofChange wirePiecesSpec)) wirePiecesCard

/-- THE TIED CARD OF 'marginalialaw30.WireMaps'. -/
def wireMapsCard : Claim7 := { stood := { row := wireMapsRow, standIns := [], harness := (true, "bb96c9d655bba1db50e2641b5c1daeeff0d8acdd2e4ceb258f770910b00e8571"), looks := true }, kinds := [], alts := [], laidByText := true, laidKinds := [.data, .data, .data], laidTests := true, laidLooks := .later }
def WireMapsCardSaid : Prop := Claim7.holds Tryd.pinned (.plain (OpenSpec.ofChange wireMapsSpec)) wireMapsCard

/-- THE TIED CARD OF 'marginalialaw30.WirePut'. -/
def wirePutCard : Claim7 := { stood := { row := wirePutRow, standIns := [], harness := (true, "bb96c9d655bba1db50e2641b5c1daeeff0d8acdd2e4ceb258f770910b00e8571"), looks := true }, kinds := [], alts := [], laidByText := true, laidKinds := [.data, .data, .data], laidTests := true, laidLooks := .later }
def WirePutCardSaid : Prop := Claim7.holds Tryd.pinned (.plain (OpenSpec.ofChange wirePutSpec)) wirePutCard

/-- THE SECOND FORM's CARD OF 'marginalialaw30.WireWrites'. -/
def wireWritesUptoCard : Claim7 := { stood := { row := wireWritesUptoRow, standIns := [], harness := (true, "bb96c9d655bba1db50e2641b5c1daeeff0d8acdd2e4ceb258f770910b00e8571"), looks := true }, kinds := [], alts := [], laidByText := true, laidKinds := [.data, .data, .data], laidTests := true, laidLooks := .later }
def WireWritesUptoCardSaid : Prop := Claim7.holds Tryd.pinned (.plain (OpenSpec.upto wireWritesSpec)) wireWritesUptoCard

/-- THE SECOND FORM's CARD OF 'marginalialaw30.WireReads'. -/
def wireReadsUptoCard : Claim7 := { stood := { row := wireReadsUptoRow, standIns := [], harness := (true, "bb96c9d655bba1db50e2641b5c1daeeff0d8acdd2e4ceb258f770910b00e8571"), looks := true }, kinds := [], alts := [], laidByText := true, laidKinds := [.data, .data, .data], laidTests := true, laidLooks := .later }
def WireReadsUptoCardSaid : Prop := Claim7.holds Tryd.pinned (.plain (OpenSpec.upto wireReadsSpec)) wireReadsUptoCard

/-- THE SECOND FORM's CARD OF 'marginalialaw30.WireNobody'. -/
def wireNobodyUptoCard : Claim7 := { stood := { row := wireNobodyUptoRow, standIns := [], harness := (true, "bb96c9d655bba1db50e2641b5c1daeeff0d8acdd2e4ceb258f770910b00e8571"), looks := true }, kinds := [], alts := [], laidByText := true, laidKinds := [.data, .data, .data], laidTests := true, laidLooks := .later }
def WireNobodyUptoCardSaid : Prop := Claim7.holds Tryd.pinned (.plain (OpenSpec.upto wireNobodySpec)) wireNobodyUptoCard

/-- THE SECOND FORM's CARD OF 'marginalialaw30.WireBack'. -/
def wireBackUptoCard : Claim7 := { stood := { row := wireBackUptoRow, standIns := [], harness := (true, "bb96c9d655bba1db50e2641b5c1daeeff0d8acdd2e4ceb258f770910b00e8571"), looks := true }, kinds := [], alts := [], laidByText := true, laidKinds := [.data, .data, .data], laidTests := true, laidLooks := .later }
def WireBackUptoCardSaid : Prop := Claim7.holds Tryd.pinned (.plain (OpenSpec.upto wireBackSpec)) wireBackUptoCard

/-- THE SECOND FORM's CARD OF 'marginalialaw30.WireText'. -/
def wireTextUptoCard : Claim7 := { stood := { row := wireTextUptoRow, standIns := [], harness := (true, "bb96c9d655bba1db50e2641b5c1daeeff0d8acdd2e4ceb258f770910b00e8571"), looks := true }, kinds := [], alts := [], laidByText := true, laidKinds := [.data, .data, .data], laidTests := true, laidLooks := .later }
def WireTextUptoCardSaid : Prop := Claim7.holds Tryd.pinned (.plain (OpenSpec.upto wireTextSpec)) wireTextUptoCard

/-- THE SECOND FORM's CARD OF 'marginalialaw30.WireFeeds'. -/
def wireFeedsUptoCard : Claim7 := { stood := { row := wireFeedsUptoRow, standIns := [], harness := (true, "bb96c9d655bba1db50e2641b5c1daeeff0d8acdd2e4ceb258f770910b00e8571"), looks := true }, kinds := [], alts := [], laidByText := true, laidKinds := [.data, .data, .data], laidTests := true, laidLooks := .later }
def WireFeedsUptoCardSaid : Prop := Claim7.holds Tryd.pinned (.plain (OpenSpec.upto wireFeedsSpec)) wireFeedsUptoCard

/-- THE SECOND FORM's CARD OF 'marginalialaw30.WirePieces'. -/
def wirePiecesUptoCard : Claim7 := { stood := { row := wirePiecesUptoRow, standIns := [], harness := (true, "bb96c9d655bba1db50e2641b5c1daeeff0d8acdd2e4ceb258f770910b00e8571"), looks := true }, kinds := [], alts := [], laidByText := true, laidKinds := [.data, .data, .data], laidTests := true, laidLooks := .later }
def WirePiecesUptoCardSaid : Prop := Claim7.holds Tryd.pinned (.plain (OpenSpec.upto wirePiecesSpec)) wirePiecesUptoCard

/-- THE SECOND FORM's CARD OF 'marginalialaw30.WireMaps'. -/
def wireMapsUptoCard : Claim7 := { stood := { row := wireMapsUptoRow, standIns := [], harness := (true, "bb96c9d655bba1db50e2641b5c1daeeff0d8acdd2e4ceb258f770910b00e8571"), looks := true }, kinds := [], alts := [], laidByText := true, laidKinds := [.data, .data, .data], laidTests := true, laidLooks := .later }
def WireMapsUptoCardSaid : Prop := Claim7.holds Tryd.pinned (.plain (OpenSpec.upto wireMapsSpec)) wireMapsUptoCard

/-- THE SECOND FORM's CARD OF 'marginalialaw30.WirePut'. -/
def wirePutUptoCard : Claim7 := { stood := { row := wirePutUptoRow, standIns := [], harness := (true, "bb96c9d655bba1db50e2641b5c1daeeff0d8acdd2e4ceb258f770910b00e8571"), looks := true }, kinds := [], alts := [], laidByText := true, laidKinds := [.data, .data, .data], laidTests := true, laidLooks := .later }
def WirePutUptoCardSaid : Prop := Claim7.holds Tryd.pinned (.plain (OpenSpec.upto wirePutSpec)) wirePutUptoCard
end Rows
end Go.Proofs.YtcmmnbipaemgiaaDoor
