/-
  D33,D34,D35,D36,D37,D38
-/
import Derived.Test.YtegmmhldpmmkeaaGreatDoorSmDE
import Derived.Test.YtegmmhldpmmkeaaGreatDoorSmTC
import Derived.Test.YtegmmhldpmmkeaaGreatDoorSmLI
import Derived.Test.YtegmmhldpmmkeaaGreatDoorSmDA
set_option linter.unusedVariables false
set_option linter.unusedSimpArgs false
set_option maxRecDepth 10000
set_option maxHeartbeats 2000000
namespace Sm
open Go
def YB (X : Heap) (v : HV) : Prop := v = .v (.slice none 0 0) ∨ v = .sl .full 1 [] ∨ ∃ a n c cs, v = .v (.slice (some ⟨a, 0, none⟩) n c) ∧ X a = some (.obj cs) ∧ n ≤ cs.length ∧ n ≤ maxLen ∧ ∀ k, k < n → ∃ y, cs[k]? = some (U y)
attribute [local irreducible] csem rsem dsem seqK blockK normK finK DK RK JK BR G3 resK Spec Tok Fr CV GA YB
end Sm
namespace Sm
open Go
structure DS (H X : Heap) (b : Nat) (h : Hd) (d : Dk) : Prop where
 kd : KD X b h d
 fr : Fr [] H X
 nw : ∀ a ∈ h.bs b, H a = none
def w1 : Dk := ((newD 100).put [116] false).1
def w2 : Dk := (w1.append [116] [97, 98]).1
def w3 : Dk := (w2.sync [116]).1
def w4 : Dk := (w3.rename [116] [97]).1
def w5 : Dk := w4.crash 1 []
def g1 : Dk := w4.syncDirs.1
def g2 : Dk := g1.crash 0 []
def w6 : Dk := (w5.put [120, 47, 121] false).1
theorem a1 : ((newD 100).put [116] false).2 = 0 := by decide
theorem a2 : (w1.append [116] [97, 98]).2 = 0 := by decide
theorem a3 : (w2.sync [116]).2 = 0 := by decide
theorem a4 : (w3.rename [116] [97]).2 = 0 := by decide
theorem a5 : w5.read [116] = ([97, 98], 0) := by decide
theorem a6 : g2.read [97] = ([97, 98], 0) := by decide
theorem a7 : (w5.put [120, 47, 121] false).2 = 8 := by decide
theorem a8 : w6.list.length = 1 := by decide
attribute [local irreducible] csem rsem dsem seqK blockK normK finK DK RK JK BR G3 resK Spec Tok Fr CV GA YB w1 w2 w3 w4 w5 w6 g1 g2
end Sm
namespace Sm
open Go
def okA (l : List Ak) : Prop := ∀ a ∈ l, a.n ≤ 9223372036854775807
attribute [local irreducible] csem rsem dsem seqK blockK normK finK DK RK JK BR G3 resK Spec Tok Fr CV GA YB w1 w2 w3 w4 w5 w6 g1 g2
end Sm
namespace Sm
open Go
attribute [local irreducible] csem rsem dsem seqK blockK normK finK DK RK JK BR G3 resK Spec Tok Fr CV GA YB w1 w2 w3 w4 w5 w6 g1 g2
end Sm
namespace Sm
open Go
structure Sv (d e : Dk) : Prop where
 su : e.sure = d.sure
 lo : e.loose = d.loose
 f : e.f = d.f
 dn : e.down = d.down
 op : d.ops ≤ e.ops
def EA (X : Heap) (b : Nat) (h : Hd) (l : List Eo) : Prop := ∀ x ∈ l, CB X x.v x.e.data ∧ ∀ a ∈ fvb x.v, a ∉ h.bs b
attribute [local irreducible] csem rsem dsem seqK blockK normK finK DK RK JK BR G3 resK Spec Tok Fr CV GA YB w1 w2 w3 w4 w5 w6 g1 g2
end Sm
namespace Sm
open Go
end Sm
