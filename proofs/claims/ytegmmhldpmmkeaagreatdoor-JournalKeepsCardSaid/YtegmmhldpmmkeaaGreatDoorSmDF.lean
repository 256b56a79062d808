/-
  D33
-/
import Derived.Test.YtegmmhldpmmkeaaGreatDoorSmDE
import Derived.Test.YtegmmhldpmmkeaaGreatDoorSmTC
import Derived.Test.YtegmmhldpmmkeaaGreatDoorSmLI
set_option linter.unusedVariables false
set_option linter.unusedSimpArgs false
set_option maxRecDepth 10000
set_option maxHeartbeats 2000000
namespace Sm
open Go
def YB (X : Heap) (v : HV) : Prop := v = .v (.slice none 0 0) ∨ v = .sl .full 1 [] ∨ ∃ a n c cs, v = .v (.slice (some ⟨a, 0, none⟩) n c) ∧ X a = some (.obj cs) ∧ n ≤ cs.length ∧ n ≤ maxLen ∧ ∀ k, k < n → ∃ y, cs[k]? = some (U y)
attribute [local irreducible] csem rsem dsem seqK blockK normK finK DK RK JK BR G3 resK Spec Tok Fr CV GA YB
end Sm
