/-
  Top163
-/
import Derived.Test.YtegmmhldpmmkeaaGreatDoorSmTop163b
set_option linter.unusedVariables false
namespace Go.Proofs.YtegmmhldpmmkeaaGreatDoor.journalOpens
open Go.ChangeShapes Go.WideShapes Go.ChangeAt Go.RowKit
theorem cardHolds : Rows.JournalOpensCardSaid :=
  Claim7.holds_tied_plain_at .later [] [.data,.data,.data,.data,.data,.pinned] true (true,"b0f721212aa02b558a67ec386bdab2bbd66c6337a865699be994da40f448a551") true over (fun _ h=>by cases h) (by kernel_rfl) (fun _ h=>by cases h) journalOpens_row_tie rfl ⟨rfl,rfl⟩ (by kernel_rfl) rfl
    (fun f fn hf UE=>by
      obtain rfl : f = 6:=Option.some.inj ((show Tryz.prog.funcNamed "sumpter/sumpterlaw16.JournalOpens" = some 6 by kernel_rfl).symm.trans hf) |>.symm
      obtain rfl : fn = Tryz.f6:=(Option.some.inj (Tryz.func6.symm.trans UE)).symm
      exact ⟨by kernel_rfl,fun j t ht=>by
        rw [Tryz.params6] at ht
        have hm : t ∈ [68,38]:=by simpa using Array.mem_of_getElem? ht
        have gO : ([68,38].all fun u=>!Tryz.prog.wantsStandIn u) = true:=by kernel_rfl
        exact (show Tryz.prog.wantsStandIn t = false by simpa using List.all_eq_true.1 gO t hm)⟩)
    (by kernel_rfl)
end Go.Proofs.YtegmmhldpmmkeaaGreatDoor.journalOpens
namespace Go.Proofs.YtegmmhldpmmkeaaGreatDoor
theorem journalOpensHolds : Rows.JournalOpensCardSaid:=journalOpens.cardHolds
#print axioms journalOpensHolds
end Go.Proofs.YtegmmhldpmmkeaaGreatDoor
