/-
  DERIVED. GIVEN WITH THE SEED: THE CARDS: each row of YtpaldgajkhmhbaaDoorRows.lean that lists a variable, with what it lists TIED to the program's text (the seventh form; the later family's looks); each row that meets fmt, with fmt's text TOLD by the authors' own Lean function (tested against real Go, not proved from fmt's source: count such statements apart). THE CARD IS WHAT COUNTS. Prove the row's statement (the work); the ties are given (YtpaldgajkhmhbaaDoorTie.lean); close each card by the builder's one call (the guide's Derived/Test/ToyasCard.lean, 'card_holds'). Laid BY PROGRAM, IN A SANDBOX (cutbox-door.mjs). By AI agents, Wed Nov 11 2026. No macro, syntax, notation, axiom, sorry.
-/
import Derived.Test.YtpaldgajkhmhbaaDoorRows
import GoSem.ClaimSeven
namespace Go.Proofs.YtpaldgajkhmhbaaDoor
namespace Rows

/-- THE TIED CARD OF 'buttresslaw04.EdwardsGets'. -/
def edwardsGetsCard : Claim7 := { stood := { row := edwardsGetsRow, standIns := [], harness := (true, "6e129b5b755843fca1c9938d877822f84d8e150055241bfa7f0a4cfcf7dc7d77"), looks := false }, kinds := [], alts := [], laidByText := true, laidKinds := [.data, .data], laidTests := true, laidLooks := .later }
def EdwardsGetsCardSaid : Prop := Claim7.holds Tryd.pinned (.plain (OpenSpec.ofChange edwardsGetsSpec)) edwardsGetsCard

/-- THE TIED CARD OF 'buttresslaw04.EdwardsOn'. -/
def edwardsOnCard : Claim7 := { stood := { row := edwardsOnRow, standIns := [], harness := (true, "6e129b5b755843fca1c9938d877822f84d8e150055241bfa7f0a4cfcf7dc7d77"), looks := false }, kinds := [], alts := [], laidByText := true, laidKinds := [.data, .data], laidTests := true, laidLooks := .later }
def EdwardsOnCardSaid : Prop := Claim7.holds Tryd.pinned (.plain (OpenSpec.ofChange edwardsOnSpec)) edwardsOnCard

/-- THE TIED CARD OF 'buttresslaw04.EdwardsCurve'. -/
def edwardsCurveCard : Claim7 := { stood := { row := edwardsCurveRow, standIns := [], harness := (true, "6e129b5b755843fca1c9938d877822f84d8e150055241bfa7f0a4cfcf7dc7d77"), looks := false }, kinds := [], alts := [], laidByText := true, laidKinds := [.data, .data], laidTests := true, laidLooks := .later }
def EdwardsCurveCardSaid : Prop := Claim7.holds Tryd.pinned (.plain (OpenSpec.ofChange edwardsCurveSpec)) edwardsCurveCard

/-- THE TIED CARD OF 'buttresslaw04.EdwardsAdds'. -/
def edwardsAddsCard : Claim7 := { stood := { row := edwardsAddsRow, standIns := [], harness := (true, "6e129b5b755843fca1c9938d877822f84d8e150055241bfa7f0a4cfcf7dc7d77"), looks := false }, kinds := [], alts := [], laidByText := true, laidKinds := [.data, .data], laidTests := true, laidLooks := .later }
def EdwardsAddsCardSaid : Prop := Claim7.holds Tryd.pinned (.plain (OpenSpec.ofChange edwardsAddsSpec)) edwardsAddsCard

/-- THE TIED CARD OF 'buttresslaw04.EdwardsGroup'. -/
def edwardsGroupCard : Claim7 := { stood := { row := edwardsGroupRow, standIns := [], harness := (true, "6e129b5b755843fca1c9938d877822f84d8e150055241bfa7f0a4cfcf7dc7d77"), looks := false }, kinds := [], alts := [], laidByText := true, laidKinds := [.data, .data], laidTests := true, laidLooks := .later }
def EdwardsGroupCardSaid : Prop := Claim7.holds Tryd.pinned (.plain (OpenSpec.ofChange edwardsGroupSpec)) edwardsGroupCard

/-- THE TIED CARD OF 'buttresslaw04.EdwardsMul'. -/
def edwardsMulCard : Claim7 := { stood := { row := edwardsMulRow, standIns := [], harness := (true, "6e129b5b755843fca1c9938d877822f84d8e150055241bfa7f0a4cfcf7dc7d77"), looks := false }, kinds := [], alts := [], laidByText := true, laidKinds := [.data, .data], laidTests := true, laidLooks := .later }
def EdwardsMulCardSaid : Prop := Claim7.holds Tryd.pinned (.plain (OpenSpec.ofChange edwardsMulSpec)) edwardsMulCard

/-- THE TIED CARD OF 'buttresslaw04.EdwardsNumbers'. -/
def edwardsNumbersCard : Claim7 := { stood := { row := edwardsNumbersRow, standIns := [], harness := (true, "6e129b5b755843fca1c9938d877822f84d8e150055241bfa7f0a4cfcf7dc7d77"), looks := false }, kinds := [], alts := [], laidByText := true, laidKinds := [.data, .data], laidTests := true, laidLooks := .later }
def EdwardsNumbersCardSaid : Prop := Claim7.holds Tryd.pinned (.plain (OpenSpec.ofChange edwardsNumbersSpec)) edwardsNumbersCard

/-- THE TIED CARD OF 'buttresslaw04.EdwardsOften'. -/
def edwardsOftenCard : Claim7 := { stood := { row := edwardsOftenRow, standIns := [], harness := (true, "6e129b5b755843fca1c9938d877822f84d8e150055241bfa7f0a4cfcf7dc7d77"), looks := false }, kinds := [], alts := [], laidByText := true, laidKinds := [.data, .data], laidTests := true, laidLooks := .later }
def EdwardsOftenCardSaid : Prop := Claim7.holds Tryd.pinned (.plain (OpenSpec.ofChange edwardsOftenSpec)) edwardsOftenCard

/-- THE SECOND FORM's CARD OF 'buttresslaw04.EdwardsGets'. -/
def edwardsGetsUptoCard : Claim7 := { stood := { row := edwardsGetsUptoRow, standIns := [], harness := (true, "6e129b5b755843fca1c9938d877822f84d8e150055241bfa7f0a4cfcf7dc7d77"), looks := false }, kinds := [], alts := [], laidByText := true, laidKinds := [.data, .data], laidTests := true, laidLooks := .later }
def EdwardsGetsUptoCardSaid : Prop := Claim7.holds Tryd.pinned (.plain (OpenSpec.upto edwardsGetsSpec)) edwardsGetsUptoCard

/-- THE SECOND FORM's CARD OF 'buttresslaw04.EdwardsOn'. -/
def edwardsOnUptoCard : Claim7 := { stood := { row := edwardsOnUptoRow, standIns := [], harness := (true, "6e129b5b755843fca1c9938d877822f84d8e150055241bfa7f0a4cfcf7dc7d77"), looks := false }, kinds := [], alts := [], laidByText := true, laidKinds := [.data, .data], laidTests := true, laidLooks := .later }
def EdwardsOnUptoCardSaid : Prop := Claim7.holds Tryd.pinned (.plain (OpenSpec.upto edwardsOnSpec)) edwardsOnUptoCard

/-- THE SECOND FORM's CARD OF 'buttresslaw04.EdwardsCurve'. -/
def edwardsCurveUptoCard : Claim7 := { stood := { row := edwardsCurveUptoRow, standIns := [], harness := (true, "6e129b5b755843fca1c9938d877822f84d8e150055241bfa7f0a4cfcf7dc7d77"), looks := false }, kinds := [], alts := [], laidByText := true, laidKinds := [.data, .data], laidTests := true, laidLooks := .later }
def EdwardsCurveUptoCardSaid : Prop := Claim7.holds Tryd.pinned (.plain (OpenSpec.upto edwardsCurveSpec)) edwardsCurveUptoCard

/-- THE SECOND FORM's CARD OF 'buttresslaw04.EdwardsAdds'. -/
def edwardsAddsUptoCard : Claim7 := { stood := { row := edwardsAddsUptoRow, standIns := [], harness := (true, "6e129b5b755843fca1c9938d877822f84d8e150055241bfa7f0a4cfcf7dc7d77"), looks := false }, kinds := [], alts := [], laidByText := true, laidKinds := [.data, .data], laidTests := true, laidLooks := .later }
def EdwardsAddsUptoCardSaid : Prop := Claim7.holds Tryd.pinned (.plain (OpenSpec.upto edwardsAddsSpec)) edwardsAddsUptoCard

/-- THE SECOND FORM's CARD OF 'buttresslaw04.EdwardsGroup'. -/
def edwardsGroupUptoCard : Claim7 := { stood := { row := edwardsGroupUptoRow, standIns := [], harness := (true, "6e129b5b755843fca1c9938d877822f84d8e150055241bfa7f0a4cfcf7dc7d77"), looks := false }, kinds := [], alts := [], laidByText := true, laidKinds := [.data, .data], laidTests := true, laidLooks := .later }
def EdwardsGroupUptoCardSaid : Prop := Claim7.holds Tryd.pinned (.plain (OpenSpec.upto edwardsGroupSpec)) edwardsGroupUptoCard

/-- THE SECOND FORM's CARD OF 'buttresslaw04.EdwardsMul'. -/
def edwardsMulUptoCard : Claim7 := { stood := { row := edwardsMulUptoRow, standIns := [], harness := (true, "6e129b5b755843fca1c9938d877822f84d8e150055241bfa7f0a4cfcf7dc7d77"), looks := false }, kinds := [], alts := [], laidByText := true, laidKinds := [.data, .data], laidTests := true, laidLooks := .later }
def EdwardsMulUptoCardSaid : Prop := Claim7.holds Tryd.pinned (.plain (OpenSpec.upto edwardsMulSpec)) edwardsMulUptoCard

/-- THE SECOND FORM's CARD OF 'buttresslaw04.EdwardsNumbers'. -/
def edwardsNumbersUptoCard : Claim7 := { stood := { row := edwardsNumbersUptoRow, standIns := [], harness := (true, "6e129b5b755843fca1c9938d877822f84d8e150055241bfa7f0a4cfcf7dc7d77"), looks := false }, kinds := [], alts := [], laidByText := true, laidKinds := [.data, .data], laidTests := true, laidLooks := .later }
def EdwardsNumbersUptoCardSaid : Prop := Claim7.holds Tryd.pinned (.plain (OpenSpec.upto edwardsNumbersSpec)) edwardsNumbersUptoCard

/-- THE SECOND FORM's CARD OF 'buttresslaw04.EdwardsOften'. -/
def edwardsOftenUptoCard : Claim7 := { stood := { row := edwardsOftenUptoRow, standIns := [], harness := (true, "6e129b5b755843fca1c9938d877822f84d8e150055241bfa7f0a4cfcf7dc7d77"), looks := false }, kinds := [], alts := [], laidByText := true, laidKinds := [.data, .data], laidTests := true, laidLooks := .later }
def EdwardsOftenUptoCardSaid : Prop := Claim7.holds Tryd.pinned (.plain (OpenSpec.upto edwardsOftenSpec)) edwardsOftenUptoCard
end Rows
end Go.Proofs.YtpaldgajkhmhbaaDoor
