/-
  DERIVED. GIVEN WITH THE SEED: THE CARDS: each row of YtpfccegjkhaidaaGreatDoorRows.lean that lists a variable, with what it lists TIED to the program's text (the seventh form; the later family's looks); each row that meets fmt, with fmt's text TOLD by the authors' own Lean function (tested against real Go, not proved from fmt's source: count such statements apart). THE CARD IS WHAT COUNTS. Prove the row's statement (the work); the ties are given (YtpfccegjkhaidaaGreatDoorTie.lean); close each card by the builder's one call (the guide's Derived/Test/ToyasCard.lean, 'card_holds'). Laid BY PROGRAM, IN A SANDBOX (cutbox-door.mjs). By AI agents, Wed Nov 11 2026. No macro, syntax, notation, axiom, sorry.
-/
import Derived.Test.YtpfccegjkhaidaaGreatDoorRows
import GoSem.ClaimSeven
namespace Go.Proofs.YtpfccegjkhaidaaGreatDoor
namespace Rows

/-- THE TIED CARD OF 'sumpterlaw09.MergeWants'. -/
def mergeWantsCard : Claim7 := { stood := { row := mergeWantsRow, standIns := [], harness := (true, "e74953d459c6306ff35ee7b63607ca8423c23e18ac817c019177394ba3a25ce6"), looks := false }, kinds := [], alts := [], laidByText := true, laidKinds := [.data, .pinned], laidTests := true, laidLooks := .later }
def MergeWantsCardSaid : Prop := Claim7.holds Tryz.pinned (.plain (OpenSpec.ofChange mergeWantsSpec)) mergeWantsCard

/-- THE TIED CARD OF 'sumpterlaw09.MergeReaches'. -/
def mergeReachesCard : Claim7 := { stood := { row := mergeReachesRow, standIns := [], harness := (true, "e74953d459c6306ff35ee7b63607ca8423c23e18ac817c019177394ba3a25ce6"), looks := false }, kinds := [], alts := [], laidByText := true, laidKinds := [.data, .pinned], laidTests := true, laidLooks := .later }
def MergeReachesCardSaid : Prop := Claim7.holds Tryz.pinned (.plain (OpenSpec.ofChange mergeReachesSpec)) mergeReachesCard

/-- THE TIED CARD OF 'sumpterlaw09.MergeAgain'. -/
def mergeAgainCard : Claim7 := { stood := { row := mergeAgainRow, standIns := [], harness := (true, "e74953d459c6306ff35ee7b63607ca8423c23e18ac817c019177394ba3a25ce6"), looks := false }, kinds := [], alts := [], laidByText := true, laidKinds := [.data, .pinned], laidTests := true, laidLooks := .later }
def MergeAgainCardSaid : Prop := Claim7.holds Tryz.pinned (.plain (OpenSpec.ofChange mergeAgainSpec)) mergeAgainCard

/-- THE TIED CARD OF 'sumpterlaw09.MergeDeletes'. -/
def mergeDeletesCard : Claim7 := { stood := { row := mergeDeletesRow, standIns := [], harness := (true, "e74953d459c6306ff35ee7b63607ca8423c23e18ac817c019177394ba3a25ce6"), looks := false }, kinds := [], alts := [], laidByText := true, laidKinds := [.data, .pinned], laidTests := true, laidLooks := .later }
def MergeDeletesCardSaid : Prop := Claim7.holds Tryz.pinned (.plain (OpenSpec.ofChange mergeDeletesSpec)) mergeDeletesCard

/-- THE SECOND FORM's CARD OF 'sumpterlaw09.MergeWants'. -/
def mergeWantsUptoCard : Claim7 := { stood := { row := mergeWantsUptoRow, standIns := [], harness := (true, "e74953d459c6306ff35ee7b63607ca8423c23e18ac817c019177394ba3a25ce6"), looks := false }, kinds := [], alts := [], laidByText := true, laidKinds := [.data, .pinned], laidTests := true, laidLooks := .later }
def MergeWantsUptoCardSaid : Prop := Claim7.holds Tryz.pinned (.plain (OpenSpec.upto mergeWantsSpec)) mergeWantsUptoCard

/-- THE SECOND FORM's CARD OF 'sumpterlaw09.MergeReaches'. -/
def mergeReachesUptoCard : Claim7 := { stood := { row := mergeReachesUptoRow, standIns := [], harness := (true, "e74953d459c6306ff35ee7b63607ca8423c23e18ac817c019177394ba3a25ce6"), looks := false }, kinds := [], alts := [], laidByText := true, laidKinds := [.data, .pinned], laidTests := true, laidLooks := .later }
def MergeReachesUptoCardSaid : Prop := Claim7.holds Tryz.pinned (.plain (OpenSpec.upto mergeReachesSpec)) mergeReachesUptoCard

/-- THE SECOND FORM's CARD OF 'sumpterlaw09.MergeAgain'. -/
def mergeAgainUptoCard : Claim7 := { stood := { row := mergeAgainUptoRow, standIns := [], harness := (true, "e74953d459c6306ff35ee7b63607ca8423c23e18ac817c019177394ba3a25ce6"), looks := false }, kinds := [], alts := [], laidByText := true, laidKinds := [.data, .pinned], laidTests := true, laidLooks := .later }
def MergeAgainUptoCardSaid : Prop := Claim7.holds Tryz.pinned (.plain (OpenSpec.upto mergeAgainSpec)) mergeAgainUptoCard

/-- THE SECOND FORM's CARD OF 'sumpterlaw09.MergeDeletes'. -/
def mergeDeletesUptoCard : Claim7 := { stood := { row := mergeDeletesUptoRow, standIns := [], harness := (true, "e74953d459c6306ff35ee7b63607ca8423c23e18ac817c019177394ba3a25ce6"), looks := false }, kinds := [], alts := [], laidByText := true, laidKinds := [.data, .pinned], laidTests := true, laidLooks := .later }
def MergeDeletesUptoCardSaid : Prop := Claim7.holds Tryz.pinned (.plain (OpenSpec.upto mergeDeletesSpec)) mergeDeletesUptoCard
end Rows
end Go.Proofs.YtpfccegjkhaidaaGreatDoor
