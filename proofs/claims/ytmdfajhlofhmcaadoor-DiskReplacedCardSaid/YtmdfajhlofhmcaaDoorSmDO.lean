/-
  A layer of one's own: texts D39.
-/
import Derived.Test.YtmdfajhlofhmcaaDoorSmDM
set_option linter.unusedVariables false
set_option linter.unusedSimpArgs false
set_option maxRecDepth 10000
set_option maxHeartbeats 2000000
namespace Sm
open Go
-- BASE smU
def GvK (Q : HV → Heap → Prop) : HV → Heap → Prop := fun r X => Q r X ∨ (∃ r', Weak r r' ∧ Q r' X) ∨ ∃ b cs r', X b = some (.obj cs) ∧ FW b cs r r' ∧ Q r' (X.upd b none)
def GvN (Q : HV → Heap → Prop) : Nat → HV → Heap → Prop
  | 0 => Q
  | n + 1 => GvK (GvN Q n)
attribute [local irreducible] csem rsem dsem seqK blockK normK finK DK RK JK BR G3 resK Spec Tok Fr CV GA YB w1 w2 w3 w4 w5 w6 g1 g2

end Sm
