/-
  Top163b
-/
import Derived.Test.YtegmmhldpmmkeaaGreatDoorSmTop163a
set_option linter.unusedVariables false
namespace Go.Proofs.YtegmmhldpmmkeaaGreatDoor.journalOpens
open Go.ChangeShapes Go.WideShapes Go.ChangeAt Go.RowKit
theorem j1 : (Rows.journalOpensRow.inPlace == Tryz.prog.inPlace 6) = true:=by kernel_rfl
theorem j2 : (Rows.journalOpensRow.unfollowed == Tryz.prog.unfollowed 6) = true:=by kernel_rfl
theorem j3 : (Rows.journalOpensRow.recurses == Tryz.prog.recurses 6) = true:=by kernel_rfl
theorem j4 : (Rows.journalOpensRow.named == Tryz.prog.varsNamed 6) = true:=by kernel_rfl
theorem closed : joinedFacts Tryz.prog 6 Tryz.f6 Rows.journalOpensSpec Rows.journalOpensRow = true:=by
  unfold joinedFacts
  rw [j1,j2,j3,j4]
  kernel_rfl
theorem over : Rows.journalOpensRow.holds Tryz.pinned (OpenSpec.ofChange Rows.journalOpensSpec) :=
  OpenClaim.holds_of_wide 6 Tryz.f6 rfl rfl rfl rfl rfl rfl rfl ⟨rfl,rfl,rfl,rfl,rfl⟩ rfl rfl rfl rfl rfl (by kernel_rfl) Tryz.func6 closed
    (of_decide_eq_true (by kernel_rfl)) (by unfold Func.isWrapper;first | (rw [if_pos (by decide +kernel)];kernel_rfl) | (rw [if_neg (by decide +kernel)];exact ⟨rfl,rfl⟩))
    (fun os started H enc _=>lifted os started H enc)
end Go.Proofs.YtegmmhldpmmkeaaGreatDoor.journalOpens
