/-
  DERIVED. GIVEN WITH THE SEED: THE CARDS: each row of YtnopjabcdloepaaGreatDoorRows.lean that lists a variable, with what it lists TIED to the program's text (the seventh form; the later family's looks); each row that meets fmt, with fmt's text TOLD by the authors' own Lean function (tested against real Go, not proved from fmt's source: count such statements apart). THE CARD IS WHAT COUNTS. Prove the row's statement (the work); the ties are given (YtnopjabcdloepaaGreatDoorTie.lean); close each card by the builder's one call (the guide's Derived/Test/ToyasCard.lean, 'card_holds'). Laid BY PROGRAM, IN A SANDBOX (cutbox-door.mjs). By AI agents, Wed Nov 11 2026. No macro, syntax, notation, axiom, sorry.
-/
import Derived.Test.YtnopjabcdloepaaGreatDoorRows
import GoSem.ClaimSeven
namespace Go.Proofs.YtnopjabcdloepaaGreatDoor
namespace Rows

/-- THE TIED CARD OF 'buttresslaw15.RootGets'. -/
def rootGetsCard : Claim7 := { stood := { row := rootGetsRow, standIns := [], harness := (true, "3b6ded8c326ffae4bd1903d9d2d419bc4a5454305edc1a23bf4cc2aef8267a35"), looks := true }, kinds := [], alts := [], laidByText := true, laidKinds := [.data, .data, .data, .data], laidTests := true, laidLooks := .later }
def RootGetsCardSaid : Prop := Claim7.holds Tryz.pinned (.plain (OpenSpec.ofChange rootGetsSpec)) rootGetsCard

/-- THE TIED CARD OF 'buttresslaw15.RootPuts'. -/
def rootPutsCard : Claim7 := { stood := { row := rootPutsRow, standIns := [], harness := (true, "3b6ded8c326ffae4bd1903d9d2d419bc4a5454305edc1a23bf4cc2aef8267a35"), looks := true }, kinds := [], alts := [], laidByText := true, laidKinds := [.data, .data, .data, .data], laidTests := true, laidLooks := .later }
def RootPutsCardSaid : Prop := Claim7.holds Tryz.pinned (.plain (OpenSpec.ofChange rootPutsSpec)) rootPutsCard

/-- THE TIED CARD OF 'buttresslaw10.GrantOwn'. -/
def grantOwnCard : Claim7 := { stood := { row := grantOwnRow, standIns := [], harness := (true, "3b6ded8c326ffae4bd1903d9d2d419bc4a5454305edc1a23bf4cc2aef8267a35"), looks := true }, kinds := [], alts := [], laidByText := true, laidKinds := [.data, .data, .data, .data], laidTests := true, laidLooks := .later }
def GrantOwnCardSaid : Prop := Claim7.holds Tryz.pinned (.plain (OpenSpec.ofChange grantOwnSpec)) grantOwnCard

/-- THE TIED CARD OF 'buttresslaw10.GrantFinds'. -/
def grantFindsCard : Claim7 := { stood := { row := grantFindsRow, standIns := [], harness := (true, "3b6ded8c326ffae4bd1903d9d2d419bc4a5454305edc1a23bf4cc2aef8267a35"), looks := true }, kinds := [], alts := [], laidByText := true, laidKinds := [.data, .data, .data, .data], laidTests := true, laidLooks := .later }
def GrantFindsCardSaid : Prop := Claim7.holds Tryz.pinned (.plain (OpenSpec.ofChange grantFindsSpec)) grantFindsCard

/-- THE TIED CARD OF 'buttresslaw10.GrantEach'. -/
def grantEachCard : Claim7 := { stood := { row := grantEachRow, standIns := [], harness := (true, "3b6ded8c326ffae4bd1903d9d2d419bc4a5454305edc1a23bf4cc2aef8267a35"), looks := true }, kinds := [], alts := [], laidByText := true, laidKinds := [.data, .data, .data, .data], laidTests := true, laidLooks := .later }
def GrantEachCardSaid : Prop := Claim7.holds Tryz.pinned (.plain (OpenSpec.ofChange grantEachSpec)) grantEachCard

/-- THE TIED CARD OF 'buttresslaw16.EvidenceGets'. -/
def evidenceGetsCard : Claim7 := { stood := { row := evidenceGetsRow, standIns := [], harness := (true, "3b6ded8c326ffae4bd1903d9d2d419bc4a5454305edc1a23bf4cc2aef8267a35"), looks := true }, kinds := [], alts := [], laidByText := true, laidKinds := [.data, .data, .data, .data], laidTests := true, laidLooks := .later }
def EvidenceGetsCardSaid : Prop := Claim7.holds Tryz.pinned (.plain (OpenSpec.ofChange evidenceGetsSpec)) evidenceGetsCard

/-- THE TIED CARD OF 'buttresslaw08.RecordBack'. -/
def recordBackCard : Claim7 := { stood := { row := recordBackRow, standIns := [], harness := (true, "3b6ded8c326ffae4bd1903d9d2d419bc4a5454305edc1a23bf4cc2aef8267a35"), looks := true }, kinds := [], alts := [], laidByText := true, laidKinds := [.data, .data, .data, .data], laidTests := true, laidLooks := .later }
def RecordBackCardSaid : Prop := Claim7.holds Tryz.pinned (.plain (OpenSpec.ofChange recordBackSpec)) recordBackCard

/-- THE TIED CARD OF 'buttresslaw29.BreakerForged'. -/
def breakerForgedCard : Claim7 := { stood := { row := breakerForgedRow, standIns := [], harness := (true, "3b6ded8c326ffae4bd1903d9d2d419bc4a5454305edc1a23bf4cc2aef8267a35"), looks := true }, kinds := [], alts := [], laidByText := true, laidKinds := [.data, .data, .data, .data], laidTests := true, laidLooks := .later }
def BreakerForgedCardSaid : Prop := Claim7.holds Tryz.pinned (.plain (OpenSpec.ofChange breakerForgedSpec)) breakerForgedCard

/-- THE TIED CARD OF 'buttresslaw29.BreakerClash'. -/
def breakerClashCard : Claim7 := { stood := { row := breakerClashRow, standIns := [], harness := (true, "3b6ded8c326ffae4bd1903d9d2d419bc4a5454305edc1a23bf4cc2aef8267a35"), looks := true }, kinds := [], alts := [], laidByText := true, laidKinds := [.data, .data, .data, .data], laidTests := true, laidLooks := .later }
def BreakerClashCardSaid : Prop := Claim7.holds Tryz.pinned (.plain (OpenSpec.ofChange breakerClashSpec)) breakerClashCard

/-- THE TIED CARD OF 'buttresslaw29.BreakerTells'. -/
def breakerTellsCard : Claim7 := { stood := { row := breakerTellsRow, standIns := [], harness := (true, "3b6ded8c326ffae4bd1903d9d2d419bc4a5454305edc1a23bf4cc2aef8267a35"), looks := true }, kinds := [], alts := [], laidByText := true, laidKinds := [.data, .data, .data, .data], laidTests := true, laidLooks := .later }
def BreakerTellsCardSaid : Prop := Claim7.holds Tryz.pinned (.plain (OpenSpec.ofChange breakerTellsSpec)) breakerTellsCard

/-- THE TIED CARD OF 'buttresslaw29.BreakerHonest'. -/
def breakerHonestCard : Claim7 := { stood := { row := breakerHonestRow, standIns := [], harness := (true, "3b6ded8c326ffae4bd1903d9d2d419bc4a5454305edc1a23bf4cc2aef8267a35"), looks := true }, kinds := [], alts := [], laidByText := true, laidKinds := [.data, .data, .data, .data], laidTests := true, laidLooks := .later }
def BreakerHonestCardSaid : Prop := Claim7.holds Tryz.pinned (.plain (OpenSpec.ofChange breakerHonestSpec)) breakerHonestCard

/-- THE TIED CARD OF 'buttresslaw29.BreakerEnds'. -/
def breakerEndsCard : Claim7 := { stood := { row := breakerEndsRow, standIns := [], harness := (true, "3b6ded8c326ffae4bd1903d9d2d419bc4a5454305edc1a23bf4cc2aef8267a35"), looks := true }, kinds := [], alts := [], laidByText := true, laidKinds := [.data, .data, .data, .data], laidTests := true, laidLooks := .later }
def BreakerEndsCardSaid : Prop := Claim7.holds Tryz.pinned (.plain (OpenSpec.ofChange breakerEndsSpec)) breakerEndsCard

/-- THE SECOND FORM's CARD OF 'buttresslaw15.RootGets'. -/
def rootGetsUptoCard : Claim7 := { stood := { row := rootGetsUptoRow, standIns := [], harness := (true, "3b6ded8c326ffae4bd1903d9d2d419bc4a5454305edc1a23bf4cc2aef8267a35"), looks := true }, kinds := [], alts := [], laidByText := true, laidKinds := [.data, .data, .data, .data], laidTests := true, laidLooks := .later }
def RootGetsUptoCardSaid : Prop := Claim7.holds Tryz.pinned (.plain (OpenSpec.upto rootGetsSpec)) rootGetsUptoCard

/-- THE SECOND FORM's CARD OF 'buttresslaw15.RootPuts'. -/
def rootPutsUptoCard : Claim7 := { stood := { row := rootPutsUptoRow, standIns := [], harness := (true, "3b6ded8c326ffae4bd1903d9d2d419bc4a5454305edc1a23bf4cc2aef8267a35"), looks := true }, kinds := [], alts := [], laidByText := true, laidKinds := [.data, .data, .data, .data], laidTests := true, laidLooks := .later }
def RootPutsUptoCardSaid : Prop := Claim7.holds Tryz.pinned (.plain (OpenSpec.upto rootPutsSpec)) rootPutsUptoCard

/-- THE SECOND FORM's CARD OF 'buttresslaw10.GrantOwn'. -/
def grantOwnUptoCard : Claim7 := { stood := { row := grantOwnUptoRow, standIns := [], harness := (true, "3b6ded8c326ffae4bd1903d9d2d419bc4a5454305edc1a23bf4cc2aef8267a35"), looks := true }, kinds := [], alts := [], laidByText := true, laidKinds := [.data, .data, .data, .data], laidTests := true, laidLooks := .later }
def GrantOwnUptoCardSaid : Prop := Claim7.holds Tryz.pinned (.plain (OpenSpec.upto grantOwnSpec)) grantOwnUptoCard

/-- THE SECOND FORM's CARD OF 'buttresslaw10.GrantFinds'. -/
def grantFindsUptoCard : Claim7 := { stood := { row := grantFindsUptoRow, standIns := [], harness := (true, "3b6ded8c326ffae4bd1903d9d2d419bc4a5454305edc1a23bf4cc2aef8267a35"), looks := true }, kinds := [], alts := [], laidByText := true, laidKinds := [.data, .data, .data, .data], laidTests := true, laidLooks := .later }
def GrantFindsUptoCardSaid : Prop := Claim7.holds Tryz.pinned (.plain (OpenSpec.upto grantFindsSpec)) grantFindsUptoCard

/-- THE SECOND FORM's CARD OF 'buttresslaw10.GrantEach'. -/
def grantEachUptoCard : Claim7 := { stood := { row := grantEachUptoRow, standIns := [], harness := (true, "3b6ded8c326ffae4bd1903d9d2d419bc4a5454305edc1a23bf4cc2aef8267a35"), looks := true }, kinds := [], alts := [], laidByText := true, laidKinds := [.data, .data, .data, .data], laidTests := true, laidLooks := .later }
def GrantEachUptoCardSaid : Prop := Claim7.holds Tryz.pinned (.plain (OpenSpec.upto grantEachSpec)) grantEachUptoCard

/-- THE SECOND FORM's CARD OF 'buttresslaw16.EvidenceGets'. -/
def evidenceGetsUptoCard : Claim7 := { stood := { row := evidenceGetsUptoRow, standIns := [], harness := (true, "3b6ded8c326ffae4bd1903d9d2d419bc4a5454305edc1a23bf4cc2aef8267a35"), looks := true }, kinds := [], alts := [], laidByText := true, laidKinds := [.data, .data, .data, .data], laidTests := true, laidLooks := .later }
def EvidenceGetsUptoCardSaid : Prop := Claim7.holds Tryz.pinned (.plain (OpenSpec.upto evidenceGetsSpec)) evidenceGetsUptoCard

/-- THE SECOND FORM's CARD OF 'buttresslaw08.RecordBack'. -/
def recordBackUptoCard : Claim7 := { stood := { row := recordBackUptoRow, standIns := [], harness := (true, "3b6ded8c326ffae4bd1903d9d2d419bc4a5454305edc1a23bf4cc2aef8267a35"), looks := true }, kinds := [], alts := [], laidByText := true, laidKinds := [.data, .data, .data, .data], laidTests := true, laidLooks := .later }
def RecordBackUptoCardSaid : Prop := Claim7.holds Tryz.pinned (.plain (OpenSpec.upto recordBackSpec)) recordBackUptoCard

/-- THE SECOND FORM's CARD OF 'buttresslaw29.BreakerForged'. -/
def breakerForgedUptoCard : Claim7 := { stood := { row := breakerForgedUptoRow, standIns := [], harness := (true, "3b6ded8c326ffae4bd1903d9d2d419bc4a5454305edc1a23bf4cc2aef8267a35"), looks := true }, kinds := [], alts := [], laidByText := true, laidKinds := [.data, .data, .data, .data], laidTests := true, laidLooks := .later }
def BreakerForgedUptoCardSaid : Prop := Claim7.holds Tryz.pinned (.plain (OpenSpec.upto breakerForgedSpec)) breakerForgedUptoCard

/-- THE SECOND FORM's CARD OF 'buttresslaw29.BreakerClash'. -/
def breakerClashUptoCard : Claim7 := { stood := { row := breakerClashUptoRow, standIns := [], harness := (true, "3b6ded8c326ffae4bd1903d9d2d419bc4a5454305edc1a23bf4cc2aef8267a35"), looks := true }, kinds := [], alts := [], laidByText := true, laidKinds := [.data, .data, .data, .data], laidTests := true, laidLooks := .later }
def BreakerClashUptoCardSaid : Prop := Claim7.holds Tryz.pinned (.plain (OpenSpec.upto breakerClashSpec)) breakerClashUptoCard

/-- THE SECOND FORM's CARD OF 'buttresslaw29.BreakerTells'. -/
def breakerTellsUptoCard : Claim7 := { stood := { row := breakerTellsUptoRow, standIns := [], harness := (true, "3b6ded8c326ffae4bd1903d9d2d419bc4a5454305edc1a23bf4cc2aef8267a35"), looks := true }, kinds := [], alts := [], laidByText := true, laidKinds := [.data, .data, .data, .data], laidTests := true, laidLooks := .later }
def BreakerTellsUptoCardSaid : Prop := Claim7.holds Tryz.pinned (.plain (OpenSpec.upto breakerTellsSpec)) breakerTellsUptoCard

/-- THE SECOND FORM's CARD OF 'buttresslaw29.BreakerHonest'. -/
def breakerHonestUptoCard : Claim7 := { stood := { row := breakerHonestUptoRow, standIns := [], harness := (true, "3b6ded8c326ffae4bd1903d9d2d419bc4a5454305edc1a23bf4cc2aef8267a35"), looks := true }, kinds := [], alts := [], laidByText := true, laidKinds := [.data, .data, .data, .data], laidTests := true, laidLooks := .later }
def BreakerHonestUptoCardSaid : Prop := Claim7.holds Tryz.pinned (.plain (OpenSpec.upto breakerHonestSpec)) breakerHonestUptoCard

/-- THE SECOND FORM's CARD OF 'buttresslaw29.BreakerEnds'. -/
def breakerEndsUptoCard : Claim7 := { stood := { row := breakerEndsUptoRow, standIns := [], harness := (true, "3b6ded8c326ffae4bd1903d9d2d419bc4a5454305edc1a23bf4cc2aef8267a35"), looks := true }, kinds := [], alts := [], laidByText := true, laidKinds := [.data, .data, .data, .data], laidTests := true, laidLooks := .later }
def BreakerEndsUptoCardSaid : Prop := Claim7.holds Tryz.pinned (.plain (OpenSpec.upto breakerEndsSpec)) breakerEndsUptoCard
end Rows
end Go.Proofs.YtnopjabcdloepaaGreatDoor
