/-
  A layer of one's own: texts D26,D27,D28,D29,D30.
-/
import Derived.Test.YtmdfajhlofhmcaaDoorSmDH
import Derived.Test.YtmdfajhlofhmcaaDoorSmLJ
set_option linter.unusedVariables false
set_option linter.unusedSimpArgs false
set_option maxRecDepth 10000
set_option maxHeartbeats 1000000
namespace Sm
open Go
-- BASE rkU
attribute [local irreducible] csem rsem dsem seqK blockK normK finK DK RK JK BR G3 resK Spec Tok Fr CV GA

end Sm

set_option linter.unusedVariables false
set_option linter.unusedSimpArgs false
set_option maxRecDepth 10000
set_option maxHeartbeats 1000000
namespace Sm
open Go
-- BASE rkU
attribute [local irreducible] csem rsem dsem seqK blockK normK finK DK RK JK BR G3 resK Spec Tok Fr CV GA

end Sm

set_option linter.unusedVariables false
set_option linter.unusedSimpArgs false
set_option maxRecDepth 10000
set_option maxHeartbeats 1000000
namespace Sm
open Go
-- BASE rkU
attribute [local irreducible] csem rsem dsem seqK blockK normK finK DK RK JK BR G3 resK Spec Tok Fr CV GA

end Sm

set_option linter.unusedVariables false
set_option linter.unusedSimpArgs false
set_option maxRecDepth 10000
set_option maxHeartbeats 1000000
namespace Sm
open Go
-- BASE rkU
attribute [local irreducible] csem rsem dsem seqK blockK normK finK DK RK JK BR G3 resK Spec Tok Fr CV GA

end Sm

set_option linter.unusedVariables false
set_option linter.unusedSimpArgs false
set_option maxRecDepth 10000
set_option maxHeartbeats 1000000
namespace Sm
open Go
-- BASE rkU
/-- Files as an object of one's own, or none. -/
def FR (H X : Heap) (v : HV) (f : List Fl) : Prop := (v = .sl .full 2 [] ∧ f = []) ∨ ∃ b c zs, v = .v (.slice (some ⟨b, 0, none⟩) f.length c) ∧ X b = some (.obj ((f.map rfV).flatMap HV.cells ++ zs)) ∧ f.length ≤ c ∧ c ≤ maxLen ∧ H b = none
theorem FR.one {H X : Heap} {v : HV} {f : List Fl} (h : FR H X v f) : v.one = true ∧ v.el = true ∧ v.ncells = 1 ∧ v.cells = [v] := by
  rcases h with ⟨rfl, _⟩ | ⟨b, c, zs, rfl, _⟩ <;> exact ⟨rfl, rfl, rfl, rfl⟩
theorem FR.obj {H X : Heap} {v : HV} {f : List Fl} (h : FR H X v f) (hf : 0 < f.length) : ∃ b c zs, v = .v (.slice (some ⟨b, 0, none⟩) f.length c) ∧ X b = some (.obj ((f.map rfV).flatMap HV.cells ++ zs)) ∧ f.length ≤ c ∧ c ≤ maxLen ∧ H b = none := by
  rcases h with ⟨_, rfl⟩ | h
  · cases hf
  · exact h
attribute [local irreducible] csem rsem dsem seqK blockK normK finK DK RK JK BR G3 resK Spec Tok Fr CV GA

end Sm
