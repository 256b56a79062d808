/-
  DERIVED. GIVEN WITH THE SEED: THE CARDS: each row of YtmdfajhlofhmcaaGreatDoorRows.lean that lists a variable, with what it lists TIED to the program's text (the seventh form; the later family's looks); each row that meets fmt, with fmt's text TOLD by the authors' own Lean function (tested against real Go, not proved from fmt's source: count such statements apart). THE CARD IS WHAT COUNTS. Prove the row's statement (the work); the ties are given (YtmdfajhlofhmcaaGreatDoorTie.lean); close each card by the builder's one call (the guide's Derived/Test/ToyasCard.lean, 'card_holds'). Laid BY PROGRAM, IN A SANDBOX (cutbox-door.mjs). By AI agents, Wed Nov 11 2026. No macro, syntax, notation, axiom, sorry.
-/
import Derived.Test.YtmdfajhlofhmcaaGreatDoorRows
import GoSem.ClaimSeven
namespace Go.Proofs.YtmdfajhlofhmcaaGreatDoor
namespace Rows

/-- THE TIED CARD OF 'sumpterlaw14.DiskSafe'. -/
def diskSafeCard : Claim7 := { stood := { row := diskSafeRow, standIns := [], harness := (true, "f2d833302ea1a32156bec99728fdbde1e3fa419e3a8a92e02c9a6d4f85fd22bd"), looks := true }, kinds := [], alts := [], laidByText := true, laidKinds := [.data, .pinned], laidTests := true, laidLooks := .later }
def DiskSafeCardSaid : Prop := Claim7.holds Tryz.pinned (.plain (OpenSpec.ofChange diskSafeSpec)) diskSafeCard

/-- THE TIED CARD OF 'sumpterlaw14.DiskPlays'. -/
def diskPlaysCard : Claim7 := { stood := { row := diskPlaysRow, standIns := [], harness := (true, "f2d833302ea1a32156bec99728fdbde1e3fa419e3a8a92e02c9a6d4f85fd22bd"), looks := true }, kinds := [], alts := [], laidByText := true, laidKinds := [.data, .pinned], laidTests := true, laidLooks := .later }
def DiskPlaysCardSaid : Prop := Claim7.holds Tryz.pinned (.plain (OpenSpec.ofChange diskPlaysSpec)) diskPlaysCard

/-- THE TIED CARD OF 'sumpterlaw14.DiskForks'. -/
def diskForksCard : Claim7 := { stood := { row := diskForksRow, standIns := [], harness := (true, "f2d833302ea1a32156bec99728fdbde1e3fa419e3a8a92e02c9a6d4f85fd22bd"), looks := true }, kinds := [], alts := [], laidByText := true, laidKinds := [.data, .pinned], laidTests := true, laidLooks := .later }
def DiskForksCardSaid : Prop := Claim7.holds Tryz.pinned (.plain (OpenSpec.ofChange diskForksSpec)) diskForksCard

/-- THE TIED CARD OF 'sumpterlaw14.DiskTrees'. -/
def diskTreesCard : Claim7 := { stood := { row := diskTreesRow, standIns := [], harness := (true, "f2d833302ea1a32156bec99728fdbde1e3fa419e3a8a92e02c9a6d4f85fd22bd"), looks := true }, kinds := [], alts := [], laidByText := true, laidKinds := [.data, .pinned], laidTests := true, laidLooks := .later }
def DiskTreesCardSaid : Prop := Claim7.holds Tryz.pinned (.plain (OpenSpec.ofChange diskTreesSpec)) diskTreesCard

/-- THE TIED CARD OF 'sumpterlaw14.DiskWrong'. -/
def diskWrongCard : Claim7 := { stood := { row := diskWrongRow, standIns := [], harness := (true, "f2d833302ea1a32156bec99728fdbde1e3fa419e3a8a92e02c9a6d4f85fd22bd"), looks := true }, kinds := [], alts := [], laidByText := true, laidKinds := [.data, .pinned], laidTests := true, laidLooks := .later }
def DiskWrongCardSaid : Prop := Claim7.holds Tryz.pinned (.plain (OpenSpec.ofChange diskWrongSpec)) diskWrongCard

/-- THE SECOND FORM's CARD OF 'sumpterlaw14.DiskSafe'. -/
def diskSafeUptoCard : Claim7 := { stood := { row := diskSafeUptoRow, standIns := [], harness := (true, "f2d833302ea1a32156bec99728fdbde1e3fa419e3a8a92e02c9a6d4f85fd22bd"), looks := true }, kinds := [], alts := [], laidByText := true, laidKinds := [.data, .pinned], laidTests := true, laidLooks := .later }
def DiskSafeUptoCardSaid : Prop := Claim7.holds Tryz.pinned (.plain (OpenSpec.upto diskSafeSpec)) diskSafeUptoCard

/-- THE SECOND FORM's CARD OF 'sumpterlaw14.DiskPlays'. -/
def diskPlaysUptoCard : Claim7 := { stood := { row := diskPlaysUptoRow, standIns := [], harness := (true, "f2d833302ea1a32156bec99728fdbde1e3fa419e3a8a92e02c9a6d4f85fd22bd"), looks := true }, kinds := [], alts := [], laidByText := true, laidKinds := [.data, .pinned], laidTests := true, laidLooks := .later }
def DiskPlaysUptoCardSaid : Prop := Claim7.holds Tryz.pinned (.plain (OpenSpec.upto diskPlaysSpec)) diskPlaysUptoCard

/-- THE SECOND FORM's CARD OF 'sumpterlaw14.DiskForks'. -/
def diskForksUptoCard : Claim7 := { stood := { row := diskForksUptoRow, standIns := [], harness := (true, "f2d833302ea1a32156bec99728fdbde1e3fa419e3a8a92e02c9a6d4f85fd22bd"), looks := true }, kinds := [], alts := [], laidByText := true, laidKinds := [.data, .pinned], laidTests := true, laidLooks := .later }
def DiskForksUptoCardSaid : Prop := Claim7.holds Tryz.pinned (.plain (OpenSpec.upto diskForksSpec)) diskForksUptoCard

/-- THE SECOND FORM's CARD OF 'sumpterlaw14.DiskTrees'. -/
def diskTreesUptoCard : Claim7 := { stood := { row := diskTreesUptoRow, standIns := [], harness := (true, "f2d833302ea1a32156bec99728fdbde1e3fa419e3a8a92e02c9a6d4f85fd22bd"), looks := true }, kinds := [], alts := [], laidByText := true, laidKinds := [.data, .pinned], laidTests := true, laidLooks := .later }
def DiskTreesUptoCardSaid : Prop := Claim7.holds Tryz.pinned (.plain (OpenSpec.upto diskTreesSpec)) diskTreesUptoCard

/-- THE SECOND FORM's CARD OF 'sumpterlaw14.DiskWrong'. -/
def diskWrongUptoCard : Claim7 := { stood := { row := diskWrongUptoRow, standIns := [], harness := (true, "f2d833302ea1a32156bec99728fdbde1e3fa419e3a8a92e02c9a6d4f85fd22bd"), looks := true }, kinds := [], alts := [], laidByText := true, laidKinds := [.data, .pinned], laidTests := true, laidLooks := .later }
def DiskWrongUptoCardSaid : Prop := Claim7.holds Tryz.pinned (.plain (OpenSpec.upto diskWrongSpec)) diskWrongUptoCard
end Rows
end Go.Proofs.YtmdfajhlofhmcaaGreatDoor
