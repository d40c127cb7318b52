/-
  DERIVED. GIVEN WITH THE SEED: THE CARDS: each row of YtigcobcpfmnhoaaDoorRows.lean that lists a variable, with what it lists TIED to the program's text (the seventh form; the later family's looks); each row that meets fmt, with fmt's text TOLD by the authors' own Lean function (tested against real Go, not proved from fmt's source: count such statements apart). THE CARD IS WHAT COUNTS. Prove the row's statement (the work); the ties are given (YtigcobcpfmnhoaaDoorTie.lean); close each card by the builder's one call (the guide's Derived/Test/ToyasCard.lean, 'card_holds'). Laid BY PROGRAM, IN A SANDBOX (cutbox-door.mjs). By AI agents, Wed Nov 11 2026. No macro, syntax, notation, axiom, sorry.
-/
import Derived.Test.YtigcobcpfmnhoaaDoorRows
import GoSem.ClaimSeven
namespace Go.Proofs.YtigcobcpfmnhoaaDoor
namespace Rows

/-- THE TIED CARD OF 'buttresslaw04.EdwardsOften'. -/
def edwardsOftenCard : Claim7 := { stood := { row := edwardsOftenRow, standIns := [], harness := (true, "a06a5f42cf0c09f176d34a59e5acbcd267f18f753cd36d94d019ae18e5601fbf"), looks := false }, kinds := [], alts := [], laidByText := true, laidKinds := [.data, .data], laidTests := true, laidLooks := .later }
def EdwardsOftenCardSaid : Prop := Claim7.holds Tryd.pinned (.plain (OpenSpec.ofChange edwardsOftenSpec)) edwardsOftenCard

/-- THE TIED CARD OF 'buttresslaw05.SignBack'. -/
def signBackCard : Claim7 := { stood := { row := signBackRow, standIns := [], harness := (true, "a06a5f42cf0c09f176d34a59e5acbcd267f18f753cd36d94d019ae18e5601fbf"), looks := false }, kinds := [], alts := [], laidByText := true, laidKinds := [.data, .data, .data, .data], laidTests := true, laidLooks := .later }
def SignBackCardSaid : Prop := Claim7.holds Tryd.pinned (.plain (OpenSpec.ofChange signBackSpec)) signBackCard

/-- THE TIED CARD OF 'buttresslaw05.SignParts'. -/
def signPartsCard : Claim7 := { stood := { row := signPartsRow, standIns := [], harness := (true, "a06a5f42cf0c09f176d34a59e5acbcd267f18f753cd36d94d019ae18e5601fbf"), looks := false }, kinds := [], alts := [], laidByText := true, laidKinds := [.data, .data, .data, .data], laidTests := true, laidLooks := .later }
def SignPartsCardSaid : Prop := Claim7.holds Tryd.pinned (.plain (OpenSpec.ofChange signPartsSpec)) signPartsCard

/-- THE TIED CARD OF 'buttresslaw05.SignNone'. -/
def signNoneCard : Claim7 := { stood := { row := signNoneRow, standIns := [], harness := (true, "a06a5f42cf0c09f176d34a59e5acbcd267f18f753cd36d94d019ae18e5601fbf"), looks := false }, kinds := [], alts := [], laidByText := true, laidKinds := [.data, .data, .data, .data], laidTests := true, laidLooks := .later }
def SignNoneCardSaid : Prop := Claim7.holds Tryd.pinned (.plain (OpenSpec.ofChange signNoneSpec)) signNoneCard

/-- THE SECOND FORM's CARD OF 'buttresslaw04.EdwardsOften'. -/
def edwardsOftenUptoCard : Claim7 := { stood := { row := edwardsOftenUptoRow, standIns := [], harness := (true, "a06a5f42cf0c09f176d34a59e5acbcd267f18f753cd36d94d019ae18e5601fbf"), looks := false }, kinds := [], alts := [], laidByText := true, laidKinds := [.data, .data], laidTests := true, laidLooks := .later }
def EdwardsOftenUptoCardSaid : Prop := Claim7.holds Tryd.pinned (.plain (OpenSpec.upto edwardsOftenSpec)) edwardsOftenUptoCard

/-- THE SECOND FORM's CARD OF 'buttresslaw05.SignBack'. -/
def signBackUptoCard : Claim7 := { stood := { row := signBackUptoRow, standIns := [], harness := (true, "a06a5f42cf0c09f176d34a59e5acbcd267f18f753cd36d94d019ae18e5601fbf"), looks := false }, kinds := [], alts := [], laidByText := true, laidKinds := [.data, .data, .data, .data], laidTests := true, laidLooks := .later }
def SignBackUptoCardSaid : Prop := Claim7.holds Tryd.pinned (.plain (OpenSpec.upto signBackSpec)) signBackUptoCard

/-- THE SECOND FORM's CARD OF 'buttresslaw05.SignParts'. -/
def signPartsUptoCard : Claim7 := { stood := { row := signPartsUptoRow, standIns := [], harness := (true, "a06a5f42cf0c09f176d34a59e5acbcd267f18f753cd36d94d019ae18e5601fbf"), looks := false }, kinds := [], alts := [], laidByText := true, laidKinds := [.data, .data, .data, .data], laidTests := true, laidLooks := .later }
def SignPartsUptoCardSaid : Prop := Claim7.holds Tryd.pinned (.plain (OpenSpec.upto signPartsSpec)) signPartsUptoCard

/-- THE SECOND FORM's CARD OF 'buttresslaw05.SignNone'. -/
def signNoneUptoCard : Claim7 := { stood := { row := signNoneUptoRow, standIns := [], harness := (true, "a06a5f42cf0c09f176d34a59e5acbcd267f18f753cd36d94d019ae18e5601fbf"), looks := false }, kinds := [], alts := [], laidByText := true, laidKinds := [.data, .data, .data, .data], laidTests := true, laidLooks := .later }
def SignNoneUptoCardSaid : Prop := Claim7.holds Tryd.pinned (.plain (OpenSpec.upto signNoneSpec)) signNoneUptoCard
end Rows
end Go.Proofs.YtigcobcpfmnhoaaDoor
