/-
  D42,D43
-/
import Derived.Test.YtegmmhldpmmkeaaGreatDoorSmDG
set_option linter.unusedVariables false
set_option linter.unusedSimpArgs false
set_option maxHeartbeats 2000000
namespace Sm
open Go
def zz : List UInt8 := [122, 122]
structure Quie (d : Dk) : Prop where
 fa : d.fails = -1
 wr : d.wrong = -1
 dn : d.down = false
structure Zs (d : Dk) (n m t i : Nat) (x : Fl) : Prop where
 wf : d.WF n m
 tr : d.Tr
 cl : Quie d
 rm : d.room = 100000
 tt : tot d.f ≤ t
 nm : ∃ y, getN d.now zz = some y ∧ y.dir = false ∧ y.id = i
 fx : d.f[i]? = some x
end Sm
