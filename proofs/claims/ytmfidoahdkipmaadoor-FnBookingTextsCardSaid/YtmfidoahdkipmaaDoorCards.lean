/-
  DERIVED. GIVEN WITH THE SEED: THE CARDS: each row of YtmfidoahdkipmaaDoorRows.lean that lists a variable, with what it lists TIED to the program's text (the seventh form; the later family's looks); each row that meets fmt, with fmt's text TOLD by the authors' own Lean function (tested against real Go, not proved from fmt's source: count such statements apart). THE CARD IS WHAT COUNTS. Prove the row's statement (the work); the ties are given (YtmfidoahdkipmaaDoorTie.lean); close each card by the builder's one call (the guide's Derived/Test/ToyasCard.lean, 'card_holds'). Laid BY PROGRAM, IN A SANDBOX (cutbox-door.mjs). By AI agents, Wed Nov 11 2026. No macro, syntax, notation, axiom, sorry.
-/
import Derived.Test.YtmfidoahdkipmaaDoorRows
import GoSem.ClaimSeven
namespace Go.Proofs.YtmfidoahdkipmaaDoor
namespace Rows

/-- THE TIED CARD OF 'laws.FnExactBookingText'. -/
def fnExactBookingTextCard : Claim7 := { stood := { row := fnExactBookingTextRow, standIns := [], harness := (true, "02a43458191d755385095ed6c1e0580d2b5a68af1567321df85616689516f830"), looks := true }, kinds := [], alts := [], laidByText := true, laidKinds := [.data, .data, .data], laidTests := true, laidLooks := .later }
def FnExactBookingTextCardSaid : Prop := Claim7.holds Tryd.pinned (.plain (OpenSpec.ofChange fnExactBookingTextSpec)) fnExactBookingTextCard

/-- THE TIED CARD OF 'laws.FnExactReadBooking'. -/
def fnExactReadBookingCard : Claim7 := { stood := { row := fnExactReadBookingRow, standIns := [], harness := (true, "02a43458191d755385095ed6c1e0580d2b5a68af1567321df85616689516f830"), looks := true }, kinds := [], alts := [], laidByText := true, laidKinds := [.data, .data, .data, .data, .sentinel, .sentinel, .pinned], laidTests := true, laidLooks := .later }
def FnExactReadBookingCardSaid : Prop := Claim7.holds Tryd.pinned (.plain (OpenSpec.ofChange fnExactReadBookingSpec)) fnExactReadBookingCard

/-- THE TIED CARD OF 'laws.FnBookingTexts'. -/
def fnBookingTextsCard : Claim7 := { stood := { row := fnBookingTextsRow, standIns := [], harness := (true, "02a43458191d755385095ed6c1e0580d2b5a68af1567321df85616689516f830"), looks := true }, kinds := [], alts := [], laidByText := true, laidKinds := [.data, .data, .data, .data, .sentinel, .sentinel, .pinned], laidTests := true, laidLooks := .later }
def FnBookingTextsCardSaid : Prop := Claim7.holds Tryd.pinned (.plain (OpenSpec.ofChange fnBookingTextsSpec)) fnBookingTextsCard

/-- THE SECOND FORM's CARD OF 'laws.FnExactBookingText'. -/
def fnExactBookingTextUptoCard : Claim7 := { stood := { row := fnExactBookingTextUptoRow, standIns := [], harness := (true, "02a43458191d755385095ed6c1e0580d2b5a68af1567321df85616689516f830"), looks := true }, kinds := [], alts := [], laidByText := true, laidKinds := [.data, .data, .data], laidTests := true, laidLooks := .later }
def FnExactBookingTextUptoCardSaid : Prop := Claim7.holds Tryd.pinned (.plain (OpenSpec.upto fnExactBookingTextSpec)) fnExactBookingTextUptoCard

/-- THE SECOND FORM's CARD OF 'laws.FnExactReadBooking'. -/
def fnExactReadBookingUptoCard : Claim7 := { stood := { row := fnExactReadBookingUptoRow, standIns := [], harness := (true, "02a43458191d755385095ed6c1e0580d2b5a68af1567321df85616689516f830"), looks := true }, kinds := [], alts := [], laidByText := true, laidKinds := [.data, .data, .data, .data, .sentinel, .sentinel, .pinned], laidTests := true, laidLooks := .later }
def FnExactReadBookingUptoCardSaid : Prop := Claim7.holds Tryd.pinned (.plain (OpenSpec.upto fnExactReadBookingSpec)) fnExactReadBookingUptoCard

/-- THE SECOND FORM's CARD OF 'laws.FnBookingTexts'. -/
def fnBookingTextsUptoCard : Claim7 := { stood := { row := fnBookingTextsUptoRow, standIns := [], harness := (true, "02a43458191d755385095ed6c1e0580d2b5a68af1567321df85616689516f830"), looks := true }, kinds := [], alts := [], laidByText := true, laidKinds := [.data, .data, .data, .data, .sentinel, .sentinel, .pinned], laidTests := true, laidLooks := .later }
def FnBookingTextsUptoCardSaid : Prop := Claim7.holds Tryd.pinned (.plain (OpenSpec.upto fnBookingTextsSpec)) fnBookingTextsUptoCard
end Rows
end Go.Proofs.YtmfidoahdkipmaaDoor
