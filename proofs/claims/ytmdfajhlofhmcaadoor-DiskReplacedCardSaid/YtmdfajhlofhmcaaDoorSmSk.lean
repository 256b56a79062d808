/-
  A layer of one's own: texts Sk.
-/
import Derived.Shelf.SlIter.Collect
import Derived.Test.YtmdfajhlofhmcaaDoorProg
set_option maxRecDepth 100000
namespace Go.Proofs.YtmdfajhlofhmcaaDoor
open Go.Shelf Go.Proofs
/-- Which function of ours each of the sort's is. -/
def keysERen : Ren where
  f := fun x => match x with
    | 10 => 54
    | n => n
  t := fun x => match x with
    | 33 => 87
    | 23 => 42
    | 0 => 0
    | 4 => 4
    | 26 => 9
    | 3 => 60
    | n => n
  g := fun n => n
theorem keysE : SlLaysZ.n10 Tryd.prog keysERen where
  mixed := rfl
  f10 := ⟨"maps.Keys[sumpter/disk.names,string,sumpter/disk.node]$1", of_decide_eq_true rfl, Tryd.func54.trans (congrArg some rfl)⟩
  t0 := Tryd.underlying0
  a0 := Tryd.isAgg0
  z0 := Tryd.sizeOf0
  v0 := Tryd.zeroValue0
  t4 := Tryd.underlying4
  a4 := Tryd.isAgg4
  z4 := Tryd.sizeOf4
  v4 := Tryd.zeroValue4
  t23 := Tryd.underlying42
  a23 := Tryd.isAgg42
  z23 := Tryd.sizeOf42
  v23 := Tryd.zeroValue42
  t26 := Tryd.underlying9
  a26 := Tryd.isAgg9
  z26 := Tryd.sizeOf9
  v26 := Tryd.zeroValue9
  t33 := Tryd.underlying87
  a33 := Tryd.isAgg87
  z33 := Tryd.sizeOf87
  v33 := Tryd.zeroValue87
end Go.Proofs.YtmdfajhlofhmcaaDoor
