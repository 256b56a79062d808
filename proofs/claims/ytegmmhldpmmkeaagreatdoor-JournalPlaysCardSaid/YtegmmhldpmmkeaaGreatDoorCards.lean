/-
  DERIVED. GIVEN WITH THE SEED: THE CARDS: each row of YtegmmhldpmmkeaaGreatDoorRows.lean that lists a variable, with what it lists TIED to the program's text (the seventh form; the later family's looks); each row that meets fmt, with fmt's text TOLD by the authors' own Lean function (tested against real Go, not proved from fmt's source: count such statements apart). THE CARD IS WHAT COUNTS. Prove the row's statement (the work); the ties are given (YtegmmhldpmmkeaaGreatDoorTie.lean); close each card by the builder's one call (the guide's Derived/Test/ToyasCard.lean, 'card_holds'). Laid BY PROGRAM, IN A SANDBOX (cutbox-door.mjs). By AI agents, Wed Nov 11 2026. No macro, syntax, notation, axiom, sorry.
-/
import Derived.Test.YtegmmhldpmmkeaaGreatDoorRows
import GoSem.ClaimSeven
namespace Go.Proofs.YtegmmhldpmmkeaaGreatDoor
namespace Rows

/-- THE TIED CARD OF 'sumpterlaw16.JournalKeeps'. -/
def journalKeepsCard : Claim7 := { stood := { row := journalKeepsRow, standIns := [], harness := (true, "b0f721212aa02b558a67ec386bdab2bbd66c6337a865699be994da40f448a551"), looks := true }, kinds := [], alts := [], laidByText := true, laidKinds := [.data, .data, .data, .data, .data, .pinned], laidTests := true, laidLooks := .later }
def JournalKeepsCardSaid : Prop := Claim7.holds Tryz.pinned (.plain (OpenSpec.ofChange journalKeepsSpec)) journalKeepsCard

/-- THE TIED CARD OF 'sumpterlaw16.JournalCompacts'. -/
def journalCompactsCard : Claim7 := { stood := { row := journalCompactsRow, standIns := [], harness := (true, "b0f721212aa02b558a67ec386bdab2bbd66c6337a865699be994da40f448a551"), looks := true }, kinds := [], alts := [], laidByText := true, laidKinds := [.data, .data, .data, .data, .data, .pinned], laidTests := true, laidLooks := .later }
def JournalCompactsCardSaid : Prop := Claim7.holds Tryz.pinned (.plain (OpenSpec.ofChange journalCompactsSpec)) journalCompactsCard

/-- THE TIED CARD OF 'sumpterlaw16.JournalPlays'. -/
def journalPlaysCard : Claim7 := { stood := { row := journalPlaysRow, standIns := [], harness := (true, "b0f721212aa02b558a67ec386bdab2bbd66c6337a865699be994da40f448a551"), looks := true }, kinds := [], alts := [], laidByText := true, laidKinds := [.data, .data, .data, .data, .data, .pinned], laidTests := true, laidLooks := .later }
def JournalPlaysCardSaid : Prop := Claim7.holds Tryz.pinned (.plain (OpenSpec.ofChange journalPlaysSpec)) journalPlaysCard

/-- THE TIED CARD OF 'sumpterlaw16.JournalOpens'. -/
def journalOpensCard : Claim7 := { stood := { row := journalOpensRow, standIns := [], harness := (true, "b0f721212aa02b558a67ec386bdab2bbd66c6337a865699be994da40f448a551"), looks := true }, kinds := [], alts := [], laidByText := true, laidKinds := [.data, .data, .data, .data, .data, .pinned], laidTests := true, laidLooks := .later }
def JournalOpensCardSaid : Prop := Claim7.holds Tryz.pinned (.plain (OpenSpec.ofChange journalOpensSpec)) journalOpensCard

/-- THE TIED CARD OF 'sumpterlaw16.JournalForks'. -/
def journalForksCard : Claim7 := { stood := { row := journalForksRow, standIns := [], harness := (true, "b0f721212aa02b558a67ec386bdab2bbd66c6337a865699be994da40f448a551"), looks := true }, kinds := [], alts := [], laidByText := true, laidKinds := [.data, .data, .data, .data, .data, .pinned], laidTests := true, laidLooks := .later }
def JournalForksCardSaid : Prop := Claim7.holds Tryz.pinned (.plain (OpenSpec.ofChange journalForksSpec)) journalForksCard

/-- THE SECOND FORM's CARD OF 'sumpterlaw16.JournalKeeps'. -/
def journalKeepsUptoCard : Claim7 := { stood := { row := journalKeepsUptoRow, standIns := [], harness := (true, "b0f721212aa02b558a67ec386bdab2bbd66c6337a865699be994da40f448a551"), looks := true }, kinds := [], alts := [], laidByText := true, laidKinds := [.data, .data, .data, .data, .data, .pinned], laidTests := true, laidLooks := .later }
def JournalKeepsUptoCardSaid : Prop := Claim7.holds Tryz.pinned (.plain (OpenSpec.upto journalKeepsSpec)) journalKeepsUptoCard

/-- THE SECOND FORM's CARD OF 'sumpterlaw16.JournalCompacts'. -/
def journalCompactsUptoCard : Claim7 := { stood := { row := journalCompactsUptoRow, standIns := [], harness := (true, "b0f721212aa02b558a67ec386bdab2bbd66c6337a865699be994da40f448a551"), looks := true }, kinds := [], alts := [], laidByText := true, laidKinds := [.data, .data, .data, .data, .data, .pinned], laidTests := true, laidLooks := .later }
def JournalCompactsUptoCardSaid : Prop := Claim7.holds Tryz.pinned (.plain (OpenSpec.upto journalCompactsSpec)) journalCompactsUptoCard

/-- THE SECOND FORM's CARD OF 'sumpterlaw16.JournalPlays'. -/
def journalPlaysUptoCard : Claim7 := { stood := { row := journalPlaysUptoRow, standIns := [], harness := (true, "b0f721212aa02b558a67ec386bdab2bbd66c6337a865699be994da40f448a551"), looks := true }, kinds := [], alts := [], laidByText := true, laidKinds := [.data, .data, .data, .data, .data, .pinned], laidTests := true, laidLooks := .later }
def JournalPlaysUptoCardSaid : Prop := Claim7.holds Tryz.pinned (.plain (OpenSpec.upto journalPlaysSpec)) journalPlaysUptoCard

/-- THE SECOND FORM's CARD OF 'sumpterlaw16.JournalOpens'. -/
def journalOpensUptoCard : Claim7 := { stood := { row := journalOpensUptoRow, standIns := [], harness := (true, "b0f721212aa02b558a67ec386bdab2bbd66c6337a865699be994da40f448a551"), looks := true }, kinds := [], alts := [], laidByText := true, laidKinds := [.data, .data, .data, .data, .data, .pinned], laidTests := true, laidLooks := .later }
def JournalOpensUptoCardSaid : Prop := Claim7.holds Tryz.pinned (.plain (OpenSpec.upto journalOpensSpec)) journalOpensUptoCard

/-- THE SECOND FORM's CARD OF 'sumpterlaw16.JournalForks'. -/
def journalForksUptoCard : Claim7 := { stood := { row := journalForksUptoRow, standIns := [], harness := (true, "b0f721212aa02b558a67ec386bdab2bbd66c6337a865699be994da40f448a551"), looks := true }, kinds := [], alts := [], laidByText := true, laidKinds := [.data, .data, .data, .data, .data, .pinned], laidTests := true, laidLooks := .later }
def JournalForksUptoCardSaid : Prop := Claim7.holds Tryz.pinned (.plain (OpenSpec.upto journalForksSpec)) journalForksUptoCard
end Rows
end Go.Proofs.YtegmmhldpmmkeaaGreatDoor
