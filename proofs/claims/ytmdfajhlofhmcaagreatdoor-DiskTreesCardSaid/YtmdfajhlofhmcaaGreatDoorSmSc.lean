/-
  A layer of one's own: texts Sc.
-/
import Derived.Shelf.SlIter.Collect
import Derived.Test.YtmdfajhlofhmcaaGreatDoorProg
set_option maxRecDepth 100000
namespace Go.Proofs.YtmdfajhlofhmcaaGreatDoor
open Go.Shelf Go.Proofs
/-- Which function of ours each of the sort's is. -/
def colERen : Ren where
  f := fun x => match x with
    | 8 => 99
    | 11 => 117
    | n => n
  t := fun x => match x with
    | 26 => 9
    | 28 => 138
    | 24 => 88
    | 0 => 0
    | 33 => 118
    | 4 => 4
    | n => n
  g := fun n => n
theorem colE : SlLaysZ.n8 Tryz.prog colERen where
  mixed := rfl
  f8 := ⟨"slices.Collect[string]", of_decide_eq_true rfl, Tryz.func99.trans (congrArg some rfl)⟩
  f11 := ⟨"slices.AppendSeq[[]string,string]", of_decide_eq_true rfl, Tryz.func117.trans (congrArg some rfl)⟩
  t0 := Tryz.underlying0
  a0 := Tryz.isAgg0
  z0 := Tryz.sizeOf0
  v0 := Tryz.zeroValue0
  t24 := Tryz.underlying88
  a24 := Tryz.isAgg88
  z24 := Tryz.sizeOf88
  v24 := Tryz.zeroValue88
  t26 := Tryz.underlying9
  a26 := Tryz.isAgg9
  z26 := Tryz.sizeOf9
  v26 := Tryz.zeroValue9
  t28 := Tryz.underlying138
  a28 := Tryz.isAgg138
  z28 := Tryz.sizeOf138
  v28 := Tryz.zeroValue138
  i26 := Eq.refl _
end Go.Proofs.YtmdfajhlofhmcaaGreatDoor
