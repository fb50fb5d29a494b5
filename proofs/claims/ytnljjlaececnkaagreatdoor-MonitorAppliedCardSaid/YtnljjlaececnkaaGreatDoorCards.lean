/-
  DERIVED. GIVEN WITH THE SEED: THE CARDS: each row of YtnljjlaececnkaaGreatDoorRows.lean that lists a variable, with what it lists TIED to the program's text (the seventh form; the later family's looks); each row that meets fmt, with fmt's text TOLD by the authors' own Lean function (tested against real Go, not proved from fmt's source: count such statements apart). THE CARD IS WHAT COUNTS. Prove the row's statement (the work); the ties are given (YtnljjlaececnkaaGreatDoorTie.lean); close each card by the builder's one call (the guide's Derived/Test/ToyasCard.lean, 'card_holds'). Laid BY PROGRAM, IN A SANDBOX (cutbox-door.mjs). By AI agents, Wed Nov 11 2026. No macro, syntax, notation, axiom, sorry.
-/
import Derived.Test.YtnljjlaececnkaaGreatDoorRows
import GoSem.ClaimSeven
namespace Go.Proofs.YtnljjlaececnkaaGreatDoor
namespace Rows

/-- THE TIED CARD OF 'culvertlaw08.WordsComments'. -/
def wordsCommentsCard : Claim7 := { stood := { row := wordsCommentsRow, standIns := [], harness := (true, "11f230a8d8e2c1745f747872d237d21740fd6a16d7af62534ef2deb61fc91356"), looks := true }, kinds := [], alts := [], laidByText := true, laidKinds := [.data, .data, .data, .sentinel, .sentinel], laidTests := true, laidLooks := .later }
def WordsCommentsCardSaid : Prop := Claim7.holds Tryz.pinned (.plain (OpenSpec.ofChange wordsCommentsSpec)) wordsCommentsCard

/-- THE TIED CARD OF 'culvertlaw08.WordsCuts'. -/
def wordsCutsCard : Claim7 := { stood := { row := wordsCutsRow, standIns := [], harness := (true, "11f230a8d8e2c1745f747872d237d21740fd6a16d7af62534ef2deb61fc91356"), looks := true }, kinds := [], alts := [], laidByText := true, laidKinds := [.data, .data, .data, .data, .sentinel, .sentinel, .pinned], laidTests := true, laidLooks := .later }
def WordsCutsCardSaid : Prop := Claim7.holds Tryz.pinned (.plain (OpenSpec.ofChange wordsCutsSpec)) wordsCutsCard

/-- THE TIED CARD OF 'culvertlaw08.WordsLines'. -/
def wordsLinesCard : Claim7 := { stood := { row := wordsLinesRow, standIns := [], harness := (true, "11f230a8d8e2c1745f747872d237d21740fd6a16d7af62534ef2deb61fc91356"), looks := true }, kinds := [], alts := [], laidByText := true, laidKinds := [.data, .data, .data, .data, .sentinel, .sentinel, .pinned], laidTests := true, laidLooks := .later }
def WordsLinesCardSaid : Prop := Claim7.holds Tryz.pinned (.plain (OpenSpec.ofChange wordsLinesSpec)) wordsLinesCard

/-- THE TIED CARD OF 'culvertlaw02.AddrTexts'. -/
def addrTextsCard : Claim7 := { stood := { row := addrTextsRow, standIns := [], harness := (true, "11f230a8d8e2c1745f747872d237d21740fd6a16d7af62534ef2deb61fc91356"), looks := true }, kinds := [], alts := [], laidByText := true, laidKinds := [.data, .data, .data, .data, .sentinel, .sentinel, .pinned], laidTests := true, laidLooks := .later }
def AddrTextsCardSaid : Prop := Claim7.holds Tryz.pinned (.plain (OpenSpec.ofChange addrTextsSpec)) addrTextsCard

/-- THE TIED CARD OF 'culvertlaw02.AddrMost'. -/
def addrMostCard : Claim7 := { stood := { row := addrMostRow, standIns := [], harness := (true, "11f230a8d8e2c1745f747872d237d21740fd6a16d7af62534ef2deb61fc91356"), looks := true }, kinds := [], alts := [], laidByText := true, laidKinds := [.data, .data, .data, .data, .sentinel, .sentinel, .pinned], laidTests := true, laidLooks := .later }
def AddrMostCardSaid : Prop := Claim7.holds Tryz.pinned (.plain (OpenSpec.ofChange addrMostSpec)) addrMostCard

/-- THE TIED CARD OF 'culvertlaw02.AddrTree'. -/
def addrTreeCard : Claim7 := { stood := { row := addrTreeRow, standIns := [], harness := (true, "11f230a8d8e2c1745f747872d237d21740fd6a16d7af62534ef2deb61fc91356"), looks := true }, kinds := [], alts := [], laidByText := true, laidKinds := [.data, .data, .data, .data, .sentinel, .sentinel, .pinned], laidTests := true, laidLooks := .later }
def AddrTreeCardSaid : Prop := Claim7.holds Tryz.pinned (.plain (OpenSpec.ofChange addrTreeSpec)) addrTreeCard

/-- THE TIED CARD OF 'culvertlaw02.AddrOrder'. -/
def addrOrderCard : Claim7 := { stood := { row := addrOrderRow, standIns := [], harness := (true, "11f230a8d8e2c1745f747872d237d21740fd6a16d7af62534ef2deb61fc91356"), looks := true }, kinds := [], alts := [], laidByText := true, laidKinds := [.data, .data, .data, .data, .sentinel, .sentinel, .pinned], laidTests := true, laidLooks := .later }
def AddrOrderCardSaid : Prop := Claim7.holds Tryz.pinned (.plain (OpenSpec.ofChange addrOrderSpec)) addrOrderCard

/-- THE TIED CARD OF 'culvertlaw08.WordsJoins'. -/
def wordsJoinsCard : Claim7 := { stood := { row := wordsJoinsRow, standIns := [], harness := (true, "11f230a8d8e2c1745f747872d237d21740fd6a16d7af62534ef2deb61fc91356"), looks := true }, kinds := [], alts := [], laidByText := true, laidKinds := [.data, .data, .data, .data, .sentinel, .sentinel, .pinned], laidTests := true, laidLooks := .later }
def WordsJoinsCardSaid : Prop := Claim7.holds Tryz.pinned (.plain (OpenSpec.ofChange wordsJoinsSpec)) wordsJoinsCard

/-- THE TIED CARD OF 'culvertlaw08.WordsBack'. -/
def wordsBackCard : Claim7 := { stood := { row := wordsBackRow, standIns := [], harness := (true, "11f230a8d8e2c1745f747872d237d21740fd6a16d7af62534ef2deb61fc91356"), looks := true }, kinds := [], alts := [], laidByText := true, laidKinds := [.data, .data, .data, .data, .sentinel, .sentinel, .pinned], laidTests := true, laidLooks := .later }
def WordsBackCardSaid : Prop := Claim7.holds Tryz.pinned (.plain (OpenSpec.ofChange wordsBackSpec)) wordsBackCard

/-- THE TIED CARD OF 'culvertlaw02.AddrFirst'. -/
def addrFirstCard : Claim7 := { stood := { row := addrFirstRow, standIns := [], harness := (true, "11f230a8d8e2c1745f747872d237d21740fd6a16d7af62534ef2deb61fc91356"), looks := true }, kinds := [], alts := [], laidByText := true, laidKinds := [.data, .data, .data, .data, .sentinel, .sentinel, .pinned], laidTests := true, laidLooks := .later }
def AddrFirstCardSaid : Prop := Claim7.holds Tryz.pinned (.plain (OpenSpec.ofChange addrFirstSpec)) addrFirstCard

/-- THE TIED CARD OF 'culvertlaw02.AddrBack'. -/
def addrBackCard : Claim7 := { stood := { row := addrBackRow, standIns := [], harness := (true, "11f230a8d8e2c1745f747872d237d21740fd6a16d7af62534ef2deb61fc91356"), looks := true }, kinds := [], alts := [], laidByText := true, laidKinds := [.data, .data, .data, .data, .sentinel, .sentinel, .pinned], laidTests := true, laidLooks := .later }
def AddrBackCardSaid : Prop := Claim7.holds Tryz.pinned (.plain (OpenSpec.ofChange addrBackSpec)) addrBackCard

/-- THE TIED CARD OF 'culvertlaw02.AddrPrefixes'. -/
def addrPrefixesCard : Claim7 := { stood := { row := addrPrefixesRow, standIns := [], harness := (true, "11f230a8d8e2c1745f747872d237d21740fd6a16d7af62534ef2deb61fc91356"), looks := true }, kinds := [], alts := [], laidByText := true, laidKinds := [.data, .data, .data, .data, .sentinel, .sentinel, .pinned], laidTests := true, laidLooks := .later }
def AddrPrefixesCardSaid : Prop := Claim7.holds Tryz.pinned (.plain (OpenSpec.ofChange addrPrefixesSpec)) addrPrefixesCard

/-- THE TIED CARD OF 'culvertlaw22.MonitorBack'. -/
def monitorBackCard : Claim7 := { stood := { row := monitorBackRow, standIns := [], harness := (true, "11f230a8d8e2c1745f747872d237d21740fd6a16d7af62534ef2deb61fc91356"), looks := true }, kinds := [], alts := [], laidByText := true, laidKinds := [.data, .data, .data, .data, .sentinel, .sentinel, .pinned], laidTests := true, laidLooks := .later }
def MonitorBackCardSaid : Prop := Claim7.holds Tryz.pinned (.plain (OpenSpec.ofChange monitorBackSpec)) monitorBackCard

/-- THE TIED CARD OF 'culvertlaw22.MonitorChanges'. -/
def monitorChangesCard : Claim7 := { stood := { row := monitorChangesRow, standIns := [], harness := (true, "11f230a8d8e2c1745f747872d237d21740fd6a16d7af62534ef2deb61fc91356"), looks := true }, kinds := [], alts := [], laidByText := true, laidKinds := [.data, .data, .data, .data, .sentinel, .sentinel, .pinned], laidTests := true, laidLooks := .later }
def MonitorChangesCardSaid : Prop := Claim7.holds Tryz.pinned (.plain (OpenSpec.ofChange monitorChangesSpec)) monitorChangesCard

/-- THE TIED CARD OF 'culvertlaw22.MonitorAll'. -/
def monitorAllCard : Claim7 := { stood := { row := monitorAllRow, standIns := [], harness := (true, "11f230a8d8e2c1745f747872d237d21740fd6a16d7af62534ef2deb61fc91356"), looks := true }, kinds := [], alts := [], laidByText := true, laidKinds := [.data, .data, .data, .data, .sentinel, .sentinel, .pinned], laidTests := true, laidLooks := .later }
def MonitorAllCardSaid : Prop := Claim7.holds Tryz.pinned (.plain (OpenSpec.ofChange monitorAllSpec)) monitorAllCard

/-- THE TIED CARD OF 'culvertlaw22.MonitorApplied'. -/
def monitorAppliedCard : Claim7 := { stood := { row := monitorAppliedRow, standIns := [], harness := (true, "11f230a8d8e2c1745f747872d237d21740fd6a16d7af62534ef2deb61fc91356"), looks := true }, kinds := [], alts := [], laidByText := true, laidKinds := [.data, .data, .data, .data, .sentinel, .sentinel, .pinned], laidTests := true, laidLooks := .later }
def MonitorAppliedCardSaid : Prop := Claim7.holds Tryz.pinned (.plain (OpenSpec.ofChange monitorAppliedSpec)) monitorAppliedCard

/-- THE TIED CARD OF 'culvertlaw09.ConfChecks'. -/
def confChecksCard : Claim7 := { stood := { row := confChecksRow, standIns := [], harness := (true, "11f230a8d8e2c1745f747872d237d21740fd6a16d7af62534ef2deb61fc91356"), looks := true }, kinds := [], alts := [], laidByText := true, laidKinds := [.data, .data, .data, .data, .sentinel, .sentinel, .pinned], laidTests := true, laidLooks := .later }
def ConfChecksCardSaid : Prop := Claim7.holds Tryz.pinned (.plain (OpenSpec.ofChange confChecksSpec)) confChecksCard

/-- THE SECOND FORM's CARD OF 'culvertlaw08.WordsComments'. -/
def wordsCommentsUptoCard : Claim7 := { stood := { row := wordsCommentsUptoRow, standIns := [], harness := (true, "11f230a8d8e2c1745f747872d237d21740fd6a16d7af62534ef2deb61fc91356"), looks := true }, kinds := [], alts := [], laidByText := true, laidKinds := [.data, .data, .data, .sentinel, .sentinel], laidTests := true, laidLooks := .later }
def WordsCommentsUptoCardSaid : Prop := Claim7.holds Tryz.pinned (.plain (OpenSpec.upto wordsCommentsSpec)) wordsCommentsUptoCard

/-- THE SECOND FORM's CARD OF 'culvertlaw08.WordsCuts'. -/
def wordsCutsUptoCard : Claim7 := { stood := { row := wordsCutsUptoRow, standIns := [], harness := (true, "11f230a8d8e2c1745f747872d237d21740fd6a16d7af62534ef2deb61fc91356"), looks := true }, kinds := [], alts := [], laidByText := true, laidKinds := [.data, .data, .data, .data, .sentinel, .sentinel, .pinned], laidTests := true, laidLooks := .later }
def WordsCutsUptoCardSaid : Prop := Claim7.holds Tryz.pinned (.plain (OpenSpec.upto wordsCutsSpec)) wordsCutsUptoCard

/-- THE SECOND FORM's CARD OF 'culvertlaw08.WordsLines'. -/
def wordsLinesUptoCard : Claim7 := { stood := { row := wordsLinesUptoRow, standIns := [], harness := (true, "11f230a8d8e2c1745f747872d237d21740fd6a16d7af62534ef2deb61fc91356"), looks := true }, kinds := [], alts := [], laidByText := true, laidKinds := [.data, .data, .data, .data, .sentinel, .sentinel, .pinned], laidTests := true, laidLooks := .later }
def WordsLinesUptoCardSaid : Prop := Claim7.holds Tryz.pinned (.plain (OpenSpec.upto wordsLinesSpec)) wordsLinesUptoCard

/-- THE SECOND FORM's CARD OF 'culvertlaw02.AddrTexts'. -/
def addrTextsUptoCard : Claim7 := { stood := { row := addrTextsUptoRow, standIns := [], harness := (true, "11f230a8d8e2c1745f747872d237d21740fd6a16d7af62534ef2deb61fc91356"), looks := true }, kinds := [], alts := [], laidByText := true, laidKinds := [.data, .data, .data, .data, .sentinel, .sentinel, .pinned], laidTests := true, laidLooks := .later }
def AddrTextsUptoCardSaid : Prop := Claim7.holds Tryz.pinned (.plain (OpenSpec.upto addrTextsSpec)) addrTextsUptoCard

/-- THE SECOND FORM's CARD OF 'culvertlaw02.AddrMost'. -/
def addrMostUptoCard : Claim7 := { stood := { row := addrMostUptoRow, standIns := [], harness := (true, "11f230a8d8e2c1745f747872d237d21740fd6a16d7af62534ef2deb61fc91356"), looks := true }, kinds := [], alts := [], laidByText := true, laidKinds := [.data, .data, .data, .data, .sentinel, .sentinel, .pinned], laidTests := true, laidLooks := .later }
def AddrMostUptoCardSaid : Prop := Claim7.holds Tryz.pinned (.plain (OpenSpec.upto addrMostSpec)) addrMostUptoCard

/-- THE SECOND FORM's CARD OF 'culvertlaw02.AddrTree'. -/
def addrTreeUptoCard : Claim7 := { stood := { row := addrTreeUptoRow, standIns := [], harness := (true, "11f230a8d8e2c1745f747872d237d21740fd6a16d7af62534ef2deb61fc91356"), looks := true }, kinds := [], alts := [], laidByText := true, laidKinds := [.data, .data, .data, .data, .sentinel, .sentinel, .pinned], laidTests := true, laidLooks := .later }
def AddrTreeUptoCardSaid : Prop := Claim7.holds Tryz.pinned (.plain (OpenSpec.upto addrTreeSpec)) addrTreeUptoCard

/-- THE SECOND FORM's CARD OF 'culvertlaw02.AddrOrder'. -/
def addrOrderUptoCard : Claim7 := { stood := { row := addrOrderUptoRow, standIns := [], harness := (true, "11f230a8d8e2c1745f747872d237d21740fd6a16d7af62534ef2deb61fc91356"), looks := true }, kinds := [], alts := [], laidByText := true, laidKinds := [.data, .data, .data, .data, .sentinel, .sentinel, .pinned], laidTests := true, laidLooks := .later }
def AddrOrderUptoCardSaid : Prop := Claim7.holds Tryz.pinned (.plain (OpenSpec.upto addrOrderSpec)) addrOrderUptoCard

/-- THE SECOND FORM's CARD OF 'culvertlaw08.WordsJoins'. -/
def wordsJoinsUptoCard : Claim7 := { stood := { row := wordsJoinsUptoRow, standIns := [], harness := (true, "11f230a8d8e2c1745f747872d237d21740fd6a16d7af62534ef2deb61fc91356"), looks := true }, kinds := [], alts := [], laidByText := true, laidKinds := [.data, .data, .data, .data, .sentinel, .sentinel, .pinned], laidTests := true, laidLooks := .later }
def WordsJoinsUptoCardSaid : Prop := Claim7.holds Tryz.pinned (.plain (OpenSpec.upto wordsJoinsSpec)) wordsJoinsUptoCard

/-- THE SECOND FORM's CARD OF 'culvertlaw08.WordsBack'. -/
def wordsBackUptoCard : Claim7 := { stood := { row := wordsBackUptoRow, standIns := [], harness := (true, "11f230a8d8e2c1745f747872d237d21740fd6a16d7af62534ef2deb61fc91356"), looks := true }, kinds := [], alts := [], laidByText := true, laidKinds := [.data, .data, .data, .data, .sentinel, .sentinel, .pinned], laidTests := true, laidLooks := .later }
def WordsBackUptoCardSaid : Prop := Claim7.holds Tryz.pinned (.plain (OpenSpec.upto wordsBackSpec)) wordsBackUptoCard

/-- THE SECOND FORM's CARD OF 'culvertlaw02.AddrFirst'. -/
def addrFirstUptoCard : Claim7 := { stood := { row := addrFirstUptoRow, standIns := [], harness := (true, "11f230a8d8e2c1745f747872d237d21740fd6a16d7af62534ef2deb61fc91356"), looks := true }, kinds := [], alts := [], laidByText := true, laidKinds := [.data, .data, .data, .data, .sentinel, .sentinel, .pinned], laidTests := true, laidLooks := .later }
def AddrFirstUptoCardSaid : Prop := Claim7.holds Tryz.pinned (.plain (OpenSpec.upto addrFirstSpec)) addrFirstUptoCard

/-- THE SECOND FORM's CARD OF 'culvertlaw02.AddrBack'. -/
def addrBackUptoCard : Claim7 := { stood := { row := addrBackUptoRow, standIns := [], harness := (true, "11f230a8d8e2c1745f747872d237d21740fd6a16d7af62534ef2deb61fc91356"), looks := true }, kinds := [], alts := [], laidByText := true, laidKinds := [.data, .data, .data, .data, .sentinel, .sentinel, .pinned], laidTests := true, laidLooks := .later }
def AddrBackUptoCardSaid : Prop := Claim7.holds Tryz.pinned (.plain (OpenSpec.upto addrBackSpec)) addrBackUptoCard

/-- THE SECOND FORM's CARD OF 'culvertlaw02.AddrPrefixes'. -/
def addrPrefixesUptoCard : Claim7 := { stood := { row := addrPrefixesUptoRow, standIns := [], harness := (true, "11f230a8d8e2c1745f747872d237d21740fd6a16d7af62534ef2deb61fc91356"), looks := true }, kinds := [], alts := [], laidByText := true, laidKinds := [.data, .data, .data, .data, .sentinel, .sentinel, .pinned], laidTests := true, laidLooks := .later }
def AddrPrefixesUptoCardSaid : Prop := Claim7.holds Tryz.pinned (.plain (OpenSpec.upto addrPrefixesSpec)) addrPrefixesUptoCard

/-- THE SECOND FORM's CARD OF 'culvertlaw22.MonitorBack'. -/
def monitorBackUptoCard : Claim7 := { stood := { row := monitorBackUptoRow, standIns := [], harness := (true, "11f230a8d8e2c1745f747872d237d21740fd6a16d7af62534ef2deb61fc91356"), looks := true }, kinds := [], alts := [], laidByText := true, laidKinds := [.data, .data, .data, .data, .sentinel, .sentinel, .pinned], laidTests := true, laidLooks := .later }
def MonitorBackUptoCardSaid : Prop := Claim7.holds Tryz.pinned (.plain (OpenSpec.upto monitorBackSpec)) monitorBackUptoCard

/-- THE SECOND FORM's CARD OF 'culvertlaw22.MonitorChanges'. -/
def monitorChangesUptoCard : Claim7 := { stood := { row := monitorChangesUptoRow, standIns := [], harness := (true, "11f230a8d8e2c1745f747872d237d21740fd6a16d7af62534ef2deb61fc91356"), looks := true }, kinds := [], alts := [], laidByText := true, laidKinds := [.data, .data, .data, .data, .sentinel, .sentinel, .pinned], laidTests := true, laidLooks := .later }
def MonitorChangesUptoCardSaid : Prop := Claim7.holds Tryz.pinned (.plain (OpenSpec.upto monitorChangesSpec)) monitorChangesUptoCard

/-- THE SECOND FORM's CARD OF 'culvertlaw22.MonitorAll'. -/
def monitorAllUptoCard : Claim7 := { stood := { row := monitorAllUptoRow, standIns := [], harness := (true, "11f230a8d8e2c1745f747872d237d21740fd6a16d7af62534ef2deb61fc91356"), looks := true }, kinds := [], alts := [], laidByText := true, laidKinds := [.data, .data, .data, .data, .sentinel, .sentinel, .pinned], laidTests := true, laidLooks := .later }
def MonitorAllUptoCardSaid : Prop := Claim7.holds Tryz.pinned (.plain (OpenSpec.upto monitorAllSpec)) monitorAllUptoCard

/-- THE SECOND FORM's CARD OF 'culvertlaw22.MonitorApplied'. -/
def monitorAppliedUptoCard : Claim7 := { stood := { row := monitorAppliedUptoRow, standIns := [], harness := (true, "11f230a8d8e2c1745f747872d237d21740fd6a16d7af62534ef2deb61fc91356"), looks := true }, kinds := [], alts := [], laidByText := true, laidKinds := [.data, .data, .data, .data, .sentinel, .sentinel, .pinned], laidTests := true, laidLooks := .later }
def MonitorAppliedUptoCardSaid : Prop := Claim7.holds Tryz.pinned (.plain (OpenSpec.upto monitorAppliedSpec)) monitorAppliedUptoCard

/-- THE SECOND FORM's CARD OF 'culvertlaw09.ConfChecks'. -/
def confChecksUptoCard : Claim7 := { stood := { row := confChecksUptoRow, standIns := [], harness := (true, "11f230a8d8e2c1745f747872d237d21740fd6a16d7af62534ef2deb61fc91356"), looks := true }, kinds := [], alts := [], laidByText := true, laidKinds := [.data, .data, .data, .data, .sentinel, .sentinel, .pinned], laidTests := true, laidLooks := .later }
def ConfChecksUptoCardSaid : Prop := Claim7.holds Tryz.pinned (.plain (OpenSpec.upto confChecksSpec)) confChecksUptoCard
end Rows
end Go.Proofs.YtnljjlaececnkaaGreatDoor
