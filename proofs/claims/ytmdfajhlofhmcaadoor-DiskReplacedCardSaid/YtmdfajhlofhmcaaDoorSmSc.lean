/-
  A layer of one's own: texts Sc.
-/
import Derived.Shelf.SlIter.Collect
import Derived.Test.YtmdfajhlofhmcaaDoorProg
set_option maxRecDepth 100000
namespace Go.Proofs.YtmdfajhlofhmcaaDoor
open Go.Shelf Go.Proofs
/-- Which function of ours each of the sort's is. -/
def colERen : Ren where
  f := fun x => match x with
    | 8 => 43
    | 11 => 53
    | n => n
  t := fun x => match x with
    | 26 => 9
    | 28 => 80
    | 24 => 65
    | 0 => 0
    | 33 => 87
    | 4 => 4
    | n => n
  g := fun n => n
theorem colE : SlLaysZ.n8 Tryd.prog colERen where
  mixed := rfl
  f8 := ⟨"slices.Collect[string]", of_decide_eq_true rfl, Tryd.func43.trans (congrArg some rfl)⟩
  f11 := ⟨"slices.AppendSeq[[]string,string]", of_decide_eq_true rfl, Tryd.func53.trans (congrArg some rfl)⟩
  t0 := Tryd.underlying0
  a0 := Tryd.isAgg0
  z0 := Tryd.sizeOf0
  v0 := Tryd.zeroValue0
  t24 := Tryd.underlying65
  a24 := Tryd.isAgg65
  z24 := Tryd.sizeOf65
  v24 := Tryd.zeroValue65
  t26 := Tryd.underlying9
  a26 := Tryd.isAgg9
  z26 := Tryd.sizeOf9
  v26 := Tryd.zeroValue9
  t28 := Tryd.underlying80
  a28 := Tryd.isAgg80
  z28 := Tryd.sizeOf80
  v28 := Tryd.zeroValue80
  i26 := Eq.refl _
end Go.Proofs.YtmdfajhlofhmcaaDoor
