/-
  A layer of one's own: texts Sk.
-/
import Derived.Shelf.SlIter.Collect
import Derived.Test.YtmdfajhlofhmcaaGreatDoorProg
namespace Go.Proofs.YtmdfajhlofhmcaaGreatDoor
open Go.Shelf Go.Proofs
/-- Which function of ours each of the sort's is. -/
def keysERen : Ren where
  f := fun x => match x with
    | 10 => 118
    | n => n
  t := fun x => match x with
    | 33 => 118
    | 23 => 74
    | 0 => 0
    | 4 => 4
    | 26 => 9
    | 3 => 87
    | n => n
  g := fun n => n
theorem keysE : SlLaysZ.n10 Tryz.prog keysERen where
  mixed := rfl
  f10 := ⟨"maps.Keys[sumpter/disk.names,string,sumpter/disk.node]$1", of_decide_eq_true rfl, Tryz.func118.trans (congrArg some rfl)⟩
  t0 := Tryz.underlying0
  a0 := Tryz.isAgg0
  z0 := Tryz.sizeOf0
  v0 := Tryz.zeroValue0
  t4 := Tryz.underlying4
  a4 := Tryz.isAgg4
  z4 := Tryz.sizeOf4
  v4 := Tryz.zeroValue4
  t23 := Tryz.underlying74
  a23 := Tryz.isAgg74
  z23 := Tryz.sizeOf74
  v23 := Tryz.zeroValue74
  t26 := Tryz.underlying9
  a26 := Tryz.isAgg9
  z26 := Tryz.sizeOf9
  v26 := Tryz.zeroValue9
  t33 := Tryz.underlying118
  a33 := Tryz.isAgg118
  z33 := Tryz.sizeOf118
  v33 := Tryz.zeroValue118
end Go.Proofs.YtmdfajhlofhmcaaGreatDoor
