/-
  DERIVED. GIVEN WITH THE SEED: THE CARDS: each row of YtgjffaoggjlamaaGreatDoorRows.lean that lists a variable, with what it lists TIED to the program's text (the seventh form; the later family's looks); each row that meets fmt, with fmt's text TOLD by the authors' own Lean function (tested against real Go, not proved from fmt's source: count such statements apart). THE CARD IS WHAT COUNTS. Prove the row's statement (the work); the ties are given (YtgjffaoggjlamaaGreatDoorTie.lean); close each card by the builder's one call (the guide's Derived/Test/ToyasCard.lean, 'card_holds'). Laid BY PROGRAM, IN A SANDBOX (cutbox-door.mjs). By AI agents, Wed Nov 11 2026. No macro, syntax, notation, axiom, sorry.
-/
import Derived.Test.YtgjffaoggjlamaaGreatDoorRows
import GoSem.ClaimSeven
namespace Go.Proofs.YtgjffaoggjlamaaGreatDoor
namespace Rows

/-- THE TIED CARD OF 'buttresslaw16.EvidenceHonest'. -/
def evidenceHonestCard : Claim7 := { stood := { row := evidenceHonestRow, standIns := [], harness := (true, "72087f2b6518ba3ca8f5a6e732784f24e9910f740a98764daa57a58567a5505c"), looks := true }, kinds := [], alts := [], laidByText := true, laidKinds := [.data, .data, .data, .data], laidTests := true, laidLooks := .later }
def EvidenceHonestCardSaid : Prop := Claim7.holds Tryz.pinned (.plain (OpenSpec.ofChange evidenceHonestSpec)) evidenceHonestCard

/-- THE TIED CARD OF 'buttresslaw15.RootBack'. -/
def rootBackCard : Claim7 := { stood := { row := rootBackRow, standIns := [], harness := (true, "72087f2b6518ba3ca8f5a6e732784f24e9910f740a98764daa57a58567a5505c"), looks := true }, kinds := [], alts := [], laidByText := true, laidKinds := [.data, .data, .data, .data], laidTests := true, laidLooks := .later }
def RootBackCardSaid : Prop := Claim7.holds Tryz.pinned (.plain (OpenSpec.ofChange rootBackSpec)) rootBackCard

/-- THE TIED CARD OF 'buttresslaw15.RootTexts'. -/
def rootTextsCard : Claim7 := { stood := { row := rootTextsRow, standIns := [], harness := (true, "72087f2b6518ba3ca8f5a6e732784f24e9910f740a98764daa57a58567a5505c"), looks := true }, kinds := [], alts := [], laidByText := true, laidKinds := [.data, .data, .data, .data], laidTests := true, laidLooks := .later }
def RootTextsCardSaid : Prop := Claim7.holds Tryz.pinned (.plain (OpenSpec.ofChange rootTextsSpec)) rootTextsCard

/-- THE TIED CARD OF 'buttresslaw10.GrantOwn'. -/
def grantOwnCard : Claim7 := { stood := { row := grantOwnRow, standIns := [], harness := (true, "72087f2b6518ba3ca8f5a6e732784f24e9910f740a98764daa57a58567a5505c"), looks := true }, kinds := [], alts := [], laidByText := true, laidKinds := [.data, .data, .data, .data], laidTests := true, laidLooks := .later }
def GrantOwnCardSaid : Prop := Claim7.holds Tryz.pinned (.plain (OpenSpec.ofChange grantOwnSpec)) grantOwnCard

/-- THE TIED CARD OF 'buttresslaw10.GrantEach'. -/
def grantEachCard : Claim7 := { stood := { row := grantEachRow, standIns := [], harness := (true, "72087f2b6518ba3ca8f5a6e732784f24e9910f740a98764daa57a58567a5505c"), looks := true }, kinds := [], alts := [], laidByText := true, laidKinds := [.data, .data, .data, .data], laidTests := true, laidLooks := .later }
def GrantEachCardSaid : Prop := Claim7.holds Tryz.pinned (.plain (OpenSpec.ofChange grantEachSpec)) grantEachCard

/-- THE TIED CARD OF 'buttresslaw16.EvidenceBack'. -/
def evidenceBackCard : Claim7 := { stood := { row := evidenceBackRow, standIns := [], harness := (true, "72087f2b6518ba3ca8f5a6e732784f24e9910f740a98764daa57a58567a5505c"), looks := true }, kinds := [], alts := [], laidByText := true, laidKinds := [.data, .data, .data, .data], laidTests := true, laidLooks := .later }
def EvidenceBackCardSaid : Prop := Claim7.holds Tryz.pinned (.plain (OpenSpec.ofChange evidenceBackSpec)) evidenceBackCard

/-- THE TIED CARD OF 'buttresslaw08.RecordBack'. -/
def recordBackCard : Claim7 := { stood := { row := recordBackRow, standIns := [], harness := (true, "72087f2b6518ba3ca8f5a6e732784f24e9910f740a98764daa57a58567a5505c"), looks := true }, kinds := [], alts := [], laidByText := true, laidKinds := [.data, .data, .data, .data], laidTests := true, laidLooks := .later }
def RecordBackCardSaid : Prop := Claim7.holds Tryz.pinned (.plain (OpenSpec.ofChange recordBackSpec)) recordBackCard

/-- THE TIED CARD OF 'buttresslaw29.BreakerTells'. -/
def breakerTellsCard : Claim7 := { stood := { row := breakerTellsRow, standIns := [], harness := (true, "72087f2b6518ba3ca8f5a6e732784f24e9910f740a98764daa57a58567a5505c"), looks := true }, kinds := [], alts := [], laidByText := true, laidKinds := [.data, .data, .data, .data], laidTests := true, laidLooks := .later }
def BreakerTellsCardSaid : Prop := Claim7.holds Tryz.pinned (.plain (OpenSpec.ofChange breakerTellsSpec)) breakerTellsCard

/-- THE TIED CARD OF 'buttresslaw29.BreakerHonest'. -/
def breakerHonestCard : Claim7 := { stood := { row := breakerHonestRow, standIns := [], harness := (true, "72087f2b6518ba3ca8f5a6e732784f24e9910f740a98764daa57a58567a5505c"), looks := true }, kinds := [], alts := [], laidByText := true, laidKinds := [.data, .data, .data, .data], laidTests := true, laidLooks := .later }
def BreakerHonestCardSaid : Prop := Claim7.holds Tryz.pinned (.plain (OpenSpec.ofChange breakerHonestSpec)) breakerHonestCard

/-- THE TIED CARD OF 'buttresslaw29.BreakerTwo'. -/
def breakerTwoCard : Claim7 := { stood := { row := breakerTwoRow, standIns := [], harness := (true, "72087f2b6518ba3ca8f5a6e732784f24e9910f740a98764daa57a58567a5505c"), looks := true }, kinds := [], alts := [], laidByText := true, laidKinds := [.data, .data, .data, .data], laidTests := true, laidLooks := .later }
def BreakerTwoCardSaid : Prop := Claim7.holds Tryz.pinned (.plain (OpenSpec.ofChange breakerTwoSpec)) breakerTwoCard

/-- THE TIED CARD OF 'buttresslaw29.BreakerEnds'. -/
def breakerEndsCard : Claim7 := { stood := { row := breakerEndsRow, standIns := [], harness := (true, "72087f2b6518ba3ca8f5a6e732784f24e9910f740a98764daa57a58567a5505c"), looks := true }, kinds := [], alts := [], laidByText := true, laidKinds := [.data, .data, .data, .data], laidTests := true, laidLooks := .later }
def BreakerEndsCardSaid : Prop := Claim7.holds Tryz.pinned (.plain (OpenSpec.ofChange breakerEndsSpec)) breakerEndsCard

/-- THE SECOND FORM's CARD OF 'buttresslaw16.EvidenceHonest'. -/
def evidenceHonestUptoCard : Claim7 := { stood := { row := evidenceHonestUptoRow, standIns := [], harness := (true, "72087f2b6518ba3ca8f5a6e732784f24e9910f740a98764daa57a58567a5505c"), looks := true }, kinds := [], alts := [], laidByText := true, laidKinds := [.data, .data, .data, .data], laidTests := true, laidLooks := .later }
def EvidenceHonestUptoCardSaid : Prop := Claim7.holds Tryz.pinned (.plain (OpenSpec.upto evidenceHonestSpec)) evidenceHonestUptoCard

/-- THE SECOND FORM's CARD OF 'buttresslaw15.RootBack'. -/
def rootBackUptoCard : Claim7 := { stood := { row := rootBackUptoRow, standIns := [], harness := (true, "72087f2b6518ba3ca8f5a6e732784f24e9910f740a98764daa57a58567a5505c"), looks := true }, kinds := [], alts := [], laidByText := true, laidKinds := [.data, .data, .data, .data], laidTests := true, laidLooks := .later }
def RootBackUptoCardSaid : Prop := Claim7.holds Tryz.pinned (.plain (OpenSpec.upto rootBackSpec)) rootBackUptoCard

/-- THE SECOND FORM's CARD OF 'buttresslaw15.RootTexts'. -/
def rootTextsUptoCard : Claim7 := { stood := { row := rootTextsUptoRow, standIns := [], harness := (true, "72087f2b6518ba3ca8f5a6e732784f24e9910f740a98764daa57a58567a5505c"), looks := true }, kinds := [], alts := [], laidByText := true, laidKinds := [.data, .data, .data, .data], laidTests := true, laidLooks := .later }
def RootTextsUptoCardSaid : Prop := Claim7.holds Tryz.pinned (.plain (OpenSpec.upto rootTextsSpec)) rootTextsUptoCard

/-- THE SECOND FORM's CARD OF 'buttresslaw10.GrantOwn'. -/
def grantOwnUptoCard : Claim7 := { stood := { row := grantOwnUptoRow, standIns := [], harness := (true, "72087f2b6518ba3ca8f5a6e732784f24e9910f740a98764daa57a58567a5505c"), looks := true }, kinds := [], alts := [], laidByText := true, laidKinds := [.data, .data, .data, .data], laidTests := true, laidLooks := .later }
def GrantOwnUptoCardSaid : Prop := Claim7.holds Tryz.pinned (.plain (OpenSpec.upto grantOwnSpec)) grantOwnUptoCard

/-- THE SECOND FORM's CARD OF 'buttresslaw10.GrantEach'. -/
def grantEachUptoCard : Claim7 := { stood := { row := grantEachUptoRow, standIns := [], harness := (true, "72087f2b6518ba3ca8f5a6e732784f24e9910f740a98764daa57a58567a5505c"), looks := true }, kinds := [], alts := [], laidByText := true, laidKinds := [.data, .data, .data, .data], laidTests := true, laidLooks := .later }
def GrantEachUptoCardSaid : Prop := Claim7.holds Tryz.pinned (.plain (OpenSpec.upto grantEachSpec)) grantEachUptoCard

/-- THE SECOND FORM's CARD OF 'buttresslaw16.EvidenceBack'. -/
def evidenceBackUptoCard : Claim7 := { stood := { row := evidenceBackUptoRow, standIns := [], harness := (true, "72087f2b6518ba3ca8f5a6e732784f24e9910f740a98764daa57a58567a5505c"), looks := true }, kinds := [], alts := [], laidByText := true, laidKinds := [.data, .data, .data, .data], laidTests := true, laidLooks := .later }
def EvidenceBackUptoCardSaid : Prop := Claim7.holds Tryz.pinned (.plain (OpenSpec.upto evidenceBackSpec)) evidenceBackUptoCard

/-- THE SECOND FORM's CARD OF 'buttresslaw08.RecordBack'. -/
def recordBackUptoCard : Claim7 := { stood := { row := recordBackUptoRow, standIns := [], harness := (true, "72087f2b6518ba3ca8f5a6e732784f24e9910f740a98764daa57a58567a5505c"), looks := true }, kinds := [], alts := [], laidByText := true, laidKinds := [.data, .data, .data, .data], laidTests := true, laidLooks := .later }
def RecordBackUptoCardSaid : Prop := Claim7.holds Tryz.pinned (.plain (OpenSpec.upto recordBackSpec)) recordBackUptoCard

/-- THE SECOND FORM's CARD OF 'buttresslaw29.BreakerTells'. -/
def breakerTellsUptoCard : Claim7 := { stood := { row := breakerTellsUptoRow, standIns := [], harness := (true, "72087f2b6518ba3ca8f5a6e732784f24e9910f740a98764daa57a58567a5505c"), looks := true }, kinds := [], alts := [], laidByText := true, laidKinds := [.data, .data, .data, .data], laidTests := true, laidLooks := .later }
def BreakerTellsUptoCardSaid : Prop := Claim7.holds Tryz.pinned (.plain (OpenSpec.upto breakerTellsSpec)) breakerTellsUptoCard

/-- THE SECOND FORM's CARD OF 'buttresslaw29.BreakerHonest'. -/
def breakerHonestUptoCard : Claim7 := { stood := { row := breakerHonestUptoRow, standIns := [], harness := (true, "72087f2b6518ba3ca8f5a6e732784f24e9910f740a98764daa57a58567a5505c"), looks := true }, kinds := [], alts := [], laidByText := true, laidKinds := [.data, .data, .data, .data], laidTests := true, laidLooks := .later }
def BreakerHonestUptoCardSaid : Prop := Claim7.holds Tryz.pinned (.plain (OpenSpec.upto breakerHonestSpec)) breakerHonestUptoCard

/-- THE SECOND FORM's CARD OF 'buttresslaw29.BreakerTwo'. -/
def breakerTwoUptoCard : Claim7 := { stood := { row := breakerTwoUptoRow, standIns := [], harness := (true, "72087f2b6518ba3ca8f5a6e732784f24e9910f740a98764daa57a58567a5505c"), looks := true }, kinds := [], alts := [], laidByText := true, laidKinds := [.data, .data, .data, .data], laidTests := true, laidLooks := .later }
def BreakerTwoUptoCardSaid : Prop := Claim7.holds Tryz.pinned (.plain (OpenSpec.upto breakerTwoSpec)) breakerTwoUptoCard

/-- THE SECOND FORM's CARD OF 'buttresslaw29.BreakerEnds'. -/
def breakerEndsUptoCard : Claim7 := { stood := { row := breakerEndsUptoRow, standIns := [], harness := (true, "72087f2b6518ba3ca8f5a6e732784f24e9910f740a98764daa57a58567a5505c"), looks := true }, kinds := [], alts := [], laidByText := true, laidKinds := [.data, .data, .data, .data], laidTests := true, laidLooks := .later }
def BreakerEndsUptoCardSaid : Prop := Claim7.holds Tryz.pinned (.plain (OpenSpec.upto breakerEndsSpec)) breakerEndsUptoCard
end Rows
end Go.Proofs.YtgjffaoggjlamaaGreatDoor
