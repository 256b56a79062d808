/-
  Top164
-/
import Derived.Test.YtegmmhldpmmkeaaGreatDoorSmTop164b
set_option linter.unusedVariables false
set_option linter.unusedSimpArgs false
namespace Go.Proofs.YtegmmhldpmmkeaaGreatDoor.journalPlays
open Go.ChangeShapes Go.WideShapes Go.ChangeAt Go.RowKit
theorem cardHolds : Rows.JournalPlaysCardSaid :=
  Claim7.holds_tied_plain_at .later [] [.data, .data, .data, .data, .data, .pinned] true (true, "b0f721212aa02b558a67ec386bdab2bbd66c6337a865699be994da40f448a551") true over (fun _ h => by cases h) (by kernel_rfl) (fun _ h => by cases h) journalPlays_row_tie rfl ⟨rfl, rfl⟩ (by kernel_rfl) rfl
    (fun f fn hf UE => by
      obtain rfl : f = 5 := Option.some.inj ((show Tryz.prog.funcNamed "sumpter/sumpterlaw16.JournalPlays" = some 5 by kernel_rfl).symm.trans hf) |>.symm
      obtain rfl : fn = Tryz.f5 := (Option.some.inj (Tryz.func5.symm.trans UE)).symm
      exact ⟨by kernel_rfl, fun j t ht => by
        rw [Tryz.params5] at ht
        have hm : t ∈ [62, 22] := by simpa using Array.mem_of_getElem? ht
        have gO : ([62, 22].all fun u => !Tryz.prog.wantsStandIn u) = true := by kernel_rfl
        exact (show Tryz.prog.wantsStandIn t = false by simpa using List.all_eq_true.1 gO t hm)⟩)
    (by kernel_rfl)
end Go.Proofs.YtegmmhldpmmkeaaGreatDoor.journalPlays
namespace Go.Proofs.YtegmmhldpmmkeaaGreatDoor
/-- The statement. -/
theorem journalPlaysHolds : Rows.JournalPlaysCardSaid := journalPlays.cardHolds
#print axioms journalPlaysHolds
end Go.Proofs.YtegmmhldpmmkeaaGreatDoor
