/-
  Top162
-/
import Derived.Test.YtegmmhldpmmkeaaGreatDoorSmTop162b
set_option linter.unusedVariables false
set_option linter.unusedSimpArgs false
namespace Go.Proofs.YtegmmhldpmmkeaaGreatDoor.journalCompacts
open Go.ChangeShapes Go.WideShapes Go.ChangeAt Go.RowKit
theorem cardHolds : Rows.JournalCompactsCardSaid :=
  Claim7.holds_tied_plain_at .later [] [.data, .data, .data, .data, .data, .pinned] true (true, "b0f721212aa02b558a67ec386bdab2bbd66c6337a865699be994da40f448a551") true over (fun _ h => by cases h) (by kernel_rfl) (fun _ h => by cases h) journalCompacts_row_tie rfl ⟨rfl, rfl⟩ (by kernel_rfl) rfl
    (fun f fn hf hfn => by
      obtain rfl : f = 4 := Option.some.inj ((show Tryz.prog.funcNamed "sumpter/sumpterlaw16.JournalCompacts" = some 4 by kernel_rfl).symm.trans hf) |>.symm
      obtain rfl : fn = Tryz.f4 := (Option.some.inj (Tryz.func4.symm.trans hfn)).symm
      exact ⟨by kernel_rfl, fun j t ht => by
        rw [Tryz.params4] at ht
        have hm : t ∈ [22, 5] := by simpa using Array.mem_of_getElem? ht
        have hall : ([22, 5].all fun u => !Tryz.prog.wantsStandIn u) = true := by kernel_rfl
        exact (show Tryz.prog.wantsStandIn t = false by simpa using List.all_eq_true.1 hall t hm)⟩)
    (by kernel_rfl)
end Go.Proofs.YtegmmhldpmmkeaaGreatDoor.journalCompacts
namespace Go.Proofs.YtegmmhldpmmkeaaGreatDoor
/-- The statement. -/
theorem journalCompactsHolds : Rows.JournalCompactsCardSaid := journalCompacts.cardHolds
#print axioms journalCompactsHolds
end Go.Proofs.YtegmmhldpmmkeaaGreatDoor
