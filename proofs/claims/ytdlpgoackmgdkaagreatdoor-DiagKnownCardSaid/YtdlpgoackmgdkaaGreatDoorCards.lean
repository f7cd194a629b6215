/-
  DERIVED. GIVEN WITH THE SEED: THE CARDS: each row of YtdlpgoackmgdkaaGreatDoorRows.lean that lists a variable, with what it lists TIED to the program's text (the seventh form; the later family's looks); each row that meets fmt, with fmt's text TOLD by the authors' own Lean function (tested against real Go, not proved from fmt's source: count such statements apart). THE CARD IS WHAT COUNTS. Prove the row's statement (the work); the ties are given (YtdlpgoackmgdkaaGreatDoorTie.lean); close each card by the builder's one call (the guide's Derived/Test/ToyasCard.lean, 'card_holds'). Laid BY PROGRAM, IN A SANDBOX (cutbox-door.mjs). By AI agents, Wed Nov 11 2026. No macro, syntax, notation, axiom, sorry.
-/
import Derived.Test.YtdlpgoackmgdkaaGreatDoorRows
import GoSem.ClaimSeven
namespace Go.Proofs.YtdlpgoackmgdkaaGreatDoor
namespace Rows

/-- THE TIED CARD OF 'tappetlaw30.ArsSends'. -/
def arsSendsCard : Claim7 := { stood := { row := arsSendsRow, standIns := [], harness := (true, "61499fe426948a25313ac4fa1b51242872b78b0cc831f6a92536d4c303604bf6"), looks := true }, kinds := [], alts := [], laidByText := true, laidKinds := [.data, .data, .data, .data, .sentinel, .sentinel, .pinned], laidTests := true, laidLooks := .later }
def ArsSendsCardSaid : Prop := Claim7.holds Tryz.pinned (.plain (OpenSpec.ofChange arsSendsSpec)) arsSendsCard

/-- THE TIED CARD OF 'tappetlaw30.ArsDue'. -/
def arsDueCard : Claim7 := { stood := { row := arsDueRow, standIns := [], harness := (true, "61499fe426948a25313ac4fa1b51242872b78b0cc831f6a92536d4c303604bf6"), looks := true }, kinds := [], alts := [], laidByText := true, laidKinds := [.data, .data, .data, .data, .sentinel, .sentinel, .pinned], laidTests := true, laidLooks := .later }
def ArsDueCardSaid : Prop := Claim7.holds Tryz.pinned (.plain (OpenSpec.ofChange arsDueSpec)) arsDueCard

/-- THE TIED CARD OF 'tappetlaw29.DiagKnown'. -/
def diagKnownCard : Claim7 := { stood := { row := diagKnownRow, standIns := [], harness := (true, "61499fe426948a25313ac4fa1b51242872b78b0cc831f6a92536d4c303604bf6"), looks := true }, kinds := [], alts := [], laidByText := true, laidKinds := [.data, .data, .data, .data, .sentinel, .sentinel, .pinned], laidTests := true, laidLooks := .later }
def DiagKnownCardSaid : Prop := Claim7.holds Tryz.pinned (.plain (OpenSpec.ofChange diagKnownSpec)) diagKnownCard

/-- THE TIED CARD OF 'tappetlaw29.DiagRuns'. -/
def diagRunsCard : Claim7 := { stood := { row := diagRunsRow, standIns := [], harness := (true, "61499fe426948a25313ac4fa1b51242872b78b0cc831f6a92536d4c303604bf6"), looks := true }, kinds := [], alts := [], laidByText := true, laidKinds := [.data, .data, .data, .data, .sentinel, .sentinel, .pinned], laidTests := true, laidLooks := .later }
def DiagRunsCardSaid : Prop := Claim7.holds Tryz.pinned (.plain (OpenSpec.ofChange diagRunsSpec)) diagRunsCard

/-- THE TIED CARD OF 'tappetlaw29.DiagReads'. -/
def diagReadsCard : Claim7 := { stood := { row := diagReadsRow, standIns := [], harness := (true, "61499fe426948a25313ac4fa1b51242872b78b0cc831f6a92536d4c303604bf6"), looks := true }, kinds := [], alts := [], laidByText := true, laidKinds := [.data, .data, .data, .data, .sentinel, .sentinel, .pinned], laidTests := true, laidLooks := .later }
def DiagReadsCardSaid : Prop := Claim7.holds Tryz.pinned (.plain (OpenSpec.ofChange diagReadsSpec)) diagReadsCard

/-- THE TIED CARD OF 'tappetlaw30.ArsKnown'. -/
def arsKnownCard : Claim7 := { stood := { row := arsKnownRow, standIns := [], harness := (true, "61499fe426948a25313ac4fa1b51242872b78b0cc831f6a92536d4c303604bf6"), looks := true }, kinds := [], alts := [], laidByText := true, laidKinds := [.data, .data, .data, .data, .sentinel, .sentinel, .pinned], laidTests := true, laidLooks := .later }
def ArsKnownCardSaid : Prop := Claim7.holds Tryz.pinned (.plain (OpenSpec.ofChange arsKnownSpec)) arsKnownCard

/-- THE TIED CARD OF 'tappetlaw30.ArsTexts'. -/
def arsTextsCard : Claim7 := { stood := { row := arsTextsRow, standIns := [], harness := (true, "61499fe426948a25313ac4fa1b51242872b78b0cc831f6a92536d4c303604bf6"), looks := true }, kinds := [], alts := [], laidByText := true, laidKinds := [.data, .data, .data, .data, .sentinel, .sentinel, .pinned], laidTests := true, laidLooks := .later }
def ArsTextsCardSaid : Prop := Claim7.holds Tryz.pinned (.plain (OpenSpec.ofChange arsTextsSpec)) arsTextsCard

/-- THE TIED CARD OF 'tappetlaw29.DiagKeeps'. -/
def diagKeepsCard : Claim7 := { stood := { row := diagKeepsRow, standIns := [], harness := (true, "61499fe426948a25313ac4fa1b51242872b78b0cc831f6a92536d4c303604bf6"), looks := true }, kinds := [], alts := [], laidByText := true, laidKinds := [.data, .data, .data, .data, .sentinel, .sentinel, .pinned], laidTests := true, laidLooks := .later }
def DiagKeepsCardSaid : Prop := Claim7.holds Tryz.pinned (.plain (OpenSpec.ofChange diagKeepsSpec)) diagKeepsCard

/-- THE TIED CARD OF 'tappetlaw29.DiagOthers'. -/
def diagOthersCard : Claim7 := { stood := { row := diagOthersRow, standIns := [], harness := (true, "61499fe426948a25313ac4fa1b51242872b78b0cc831f6a92536d4c303604bf6"), looks := true }, kinds := [], alts := [], laidByText := true, laidKinds := [.data, .data, .data, .data, .sentinel, .sentinel, .pinned], laidTests := true, laidLooks := .later }
def DiagOthersCardSaid : Prop := Claim7.holds Tryz.pinned (.plain (OpenSpec.ofChange diagOthersSpec)) diagOthersCard

/-- THE TIED CARD OF 'tappetlaw30.ArsBack'. -/
def arsBackCard : Claim7 := { stood := { row := arsBackRow, standIns := [], harness := (true, "61499fe426948a25313ac4fa1b51242872b78b0cc831f6a92536d4c303604bf6"), looks := true }, kinds := [], alts := [], laidByText := true, laidKinds := [.data, .data, .data, .data, .sentinel, .sentinel, .pinned], laidTests := true, laidLooks := .later }
def ArsBackCardSaid : Prop := Claim7.holds Tryz.pinned (.plain (OpenSpec.ofChange arsBackSpec)) arsBackCard

/-- THE TIED CARD OF 'tappetlaw30.ArsOrder'. -/
def arsOrderCard : Claim7 := { stood := { row := arsOrderRow, standIns := [], harness := (true, "61499fe426948a25313ac4fa1b51242872b78b0cc831f6a92536d4c303604bf6"), looks := true }, kinds := [], alts := [], laidByText := true, laidKinds := [.data, .data, .data, .data, .sentinel, .sentinel, .pinned], laidTests := true, laidLooks := .later }
def ArsOrderCardSaid : Prop := Claim7.holds Tryz.pinned (.plain (OpenSpec.ofChange arsOrderSpec)) arsOrderCard

/-- THE SECOND FORM's CARD OF 'tappetlaw30.ArsSends'. -/
def arsSendsUptoCard : Claim7 := { stood := { row := arsSendsUptoRow, standIns := [], harness := (true, "61499fe426948a25313ac4fa1b51242872b78b0cc831f6a92536d4c303604bf6"), looks := true }, kinds := [], alts := [], laidByText := true, laidKinds := [.data, .data, .data, .data, .sentinel, .sentinel, .pinned], laidTests := true, laidLooks := .later }
def ArsSendsUptoCardSaid : Prop := Claim7.holds Tryz.pinned (.plain (OpenSpec.upto arsSendsSpec)) arsSendsUptoCard

/-- THE SECOND FORM's CARD OF 'tappetlaw30.ArsDue'. -/
def arsDueUptoCard : Claim7 := { stood := { row := arsDueUptoRow, standIns := [], harness := (true, "61499fe426948a25313ac4fa1b51242872b78b0cc831f6a92536d4c303604bf6"), looks := true }, kinds := [], alts := [], laidByText := true, laidKinds := [.data, .data, .data, .data, .sentinel, .sentinel, .pinned], laidTests := true, laidLooks := .later }
def ArsDueUptoCardSaid : Prop := Claim7.holds Tryz.pinned (.plain (OpenSpec.upto arsDueSpec)) arsDueUptoCard

/-- THE SECOND FORM's CARD OF 'tappetlaw29.DiagKnown'. -/
def diagKnownUptoCard : Claim7 := { stood := { row := diagKnownUptoRow, standIns := [], harness := (true, "61499fe426948a25313ac4fa1b51242872b78b0cc831f6a92536d4c303604bf6"), looks := true }, kinds := [], alts := [], laidByText := true, laidKinds := [.data, .data, .data, .data, .sentinel, .sentinel, .pinned], laidTests := true, laidLooks := .later }
def DiagKnownUptoCardSaid : Prop := Claim7.holds Tryz.pinned (.plain (OpenSpec.upto diagKnownSpec)) diagKnownUptoCard

/-- THE SECOND FORM's CARD OF 'tappetlaw29.DiagRuns'. -/
def diagRunsUptoCard : Claim7 := { stood := { row := diagRunsUptoRow, standIns := [], harness := (true, "61499fe426948a25313ac4fa1b51242872b78b0cc831f6a92536d4c303604bf6"), looks := true }, kinds := [], alts := [], laidByText := true, laidKinds := [.data, .data, .data, .data, .sentinel, .sentinel, .pinned], laidTests := true, laidLooks := .later }
def DiagRunsUptoCardSaid : Prop := Claim7.holds Tryz.pinned (.plain (OpenSpec.upto diagRunsSpec)) diagRunsUptoCard

/-- THE SECOND FORM's CARD OF 'tappetlaw29.DiagReads'. -/
def diagReadsUptoCard : Claim7 := { stood := { row := diagReadsUptoRow, standIns := [], harness := (true, "61499fe426948a25313ac4fa1b51242872b78b0cc831f6a92536d4c303604bf6"), looks := true }, kinds := [], alts := [], laidByText := true, laidKinds := [.data, .data, .data, .data, .sentinel, .sentinel, .pinned], laidTests := true, laidLooks := .later }
def DiagReadsUptoCardSaid : Prop := Claim7.holds Tryz.pinned (.plain (OpenSpec.upto diagReadsSpec)) diagReadsUptoCard

/-- THE SECOND FORM's CARD OF 'tappetlaw30.ArsKnown'. -/
def arsKnownUptoCard : Claim7 := { stood := { row := arsKnownUptoRow, standIns := [], harness := (true, "61499fe426948a25313ac4fa1b51242872b78b0cc831f6a92536d4c303604bf6"), looks := true }, kinds := [], alts := [], laidByText := true, laidKinds := [.data, .data, .data, .data, .sentinel, .sentinel, .pinned], laidTests := true, laidLooks := .later }
def ArsKnownUptoCardSaid : Prop := Claim7.holds Tryz.pinned (.plain (OpenSpec.upto arsKnownSpec)) arsKnownUptoCard

/-- THE SECOND FORM's CARD OF 'tappetlaw30.ArsTexts'. -/
def arsTextsUptoCard : Claim7 := { stood := { row := arsTextsUptoRow, standIns := [], harness := (true, "61499fe426948a25313ac4fa1b51242872b78b0cc831f6a92536d4c303604bf6"), looks := true }, kinds := [], alts := [], laidByText := true, laidKinds := [.data, .data, .data, .data, .sentinel, .sentinel, .pinned], laidTests := true, laidLooks := .later }
def ArsTextsUptoCardSaid : Prop := Claim7.holds Tryz.pinned (.plain (OpenSpec.upto arsTextsSpec)) arsTextsUptoCard

/-- THE SECOND FORM's CARD OF 'tappetlaw29.DiagKeeps'. -/
def diagKeepsUptoCard : Claim7 := { stood := { row := diagKeepsUptoRow, standIns := [], harness := (true, "61499fe426948a25313ac4fa1b51242872b78b0cc831f6a92536d4c303604bf6"), looks := true }, kinds := [], alts := [], laidByText := true, laidKinds := [.data, .data, .data, .data, .sentinel, .sentinel, .pinned], laidTests := true, laidLooks := .later }
def DiagKeepsUptoCardSaid : Prop := Claim7.holds Tryz.pinned (.plain (OpenSpec.upto diagKeepsSpec)) diagKeepsUptoCard

/-- THE SECOND FORM's CARD OF 'tappetlaw29.DiagOthers'. -/
def diagOthersUptoCard : Claim7 := { stood := { row := diagOthersUptoRow, standIns := [], harness := (true, "61499fe426948a25313ac4fa1b51242872b78b0cc831f6a92536d4c303604bf6"), looks := true }, kinds := [], alts := [], laidByText := true, laidKinds := [.data, .data, .data, .data, .sentinel, .sentinel, .pinned], laidTests := true, laidLooks := .later }
def DiagOthersUptoCardSaid : Prop := Claim7.holds Tryz.pinned (.plain (OpenSpec.upto diagOthersSpec)) diagOthersUptoCard

/-- THE SECOND FORM's CARD OF 'tappetlaw30.ArsBack'. -/
def arsBackUptoCard : Claim7 := { stood := { row := arsBackUptoRow, standIns := [], harness := (true, "61499fe426948a25313ac4fa1b51242872b78b0cc831f6a92536d4c303604bf6"), looks := true }, kinds := [], alts := [], laidByText := true, laidKinds := [.data, .data, .data, .data, .sentinel, .sentinel, .pinned], laidTests := true, laidLooks := .later }
def ArsBackUptoCardSaid : Prop := Claim7.holds Tryz.pinned (.plain (OpenSpec.upto arsBackSpec)) arsBackUptoCard

/-- THE SECOND FORM's CARD OF 'tappetlaw30.ArsOrder'. -/
def arsOrderUptoCard : Claim7 := { stood := { row := arsOrderUptoRow, standIns := [], harness := (true, "61499fe426948a25313ac4fa1b51242872b78b0cc831f6a92536d4c303604bf6"), looks := true }, kinds := [], alts := [], laidByText := true, laidKinds := [.data, .data, .data, .data, .sentinel, .sentinel, .pinned], laidTests := true, laidLooks := .later }
def ArsOrderUptoCardSaid : Prop := Claim7.holds Tryz.pinned (.plain (OpenSpec.upto arsOrderSpec)) arsOrderUptoCard
end Rows
end Go.Proofs.YtdlpgoackmgdkaaGreatDoor
