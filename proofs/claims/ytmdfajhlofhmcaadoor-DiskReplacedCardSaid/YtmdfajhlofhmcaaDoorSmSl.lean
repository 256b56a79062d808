/-
  A layer of one's own: texts Sl.
-/
import Derived.Shelf.SlSortCmp.NoneTotal
import Derived.Test.YtmdfajhlofhmcaaDoorProg
set_option maxRecDepth 100000
namespace Go.Proofs.YtmdfajhlofhmcaaDoor
open Go.Shelf Go.Proofs
/-- Which function of ours each of the sort's is. -/
def sortERen : Ren where
  f := fun x => match x with
    | 6 => 45
    | 15 => 56
    | 14 => 55
    | 28 => 69
    | 29 => 70
    | 20 => 61
    | 21 => 62
    | 22 => 63
    | 23 => 64
    | 24 => 65
    | 25 => 66
    | 26 => 67
    | 27 => 68
    | 46 => 75
    | 47 => 76
    | 48 => 77
    | 49 => 78
    | 50 => 79
    | 57 => 85
    | n => n
  t := fun x => match x with
    | 22 => 65
    | 24 => 9
    | 25 => 84
    | 3 => 3
    | 39 => 93
    | 0 => 0
    | 53 => 106
    | 55 => 108
    | 4 => 4
    | 46 => 99
    | 45 => 98
    | 50 => 103
    | 5 => 5
    | 9 => 9
    | 66 => 111
    | 70 => 75
    | 76 => 119
    | 77 => 120
    | n => n
  g := fun n => n
theorem sortE : SlLaysF.n6 Tryd.prog sortERen where
  mixed := rfl
  f6 := ⟨"slices.SortFunc[[]string,string]", of_decide_eq_true rfl, Tryd.func45.trans (congrArg some rfl)⟩
  f14 := ⟨"slices.pdqsortCmpFunc[string]", of_decide_eq_true rfl, Tryd.func55.trans (congrArg some rfl)⟩
  f15 := Tryd.func56.trans (congrArg some rfl)
  f20 := ⟨"slices.insertionSortCmpFunc[string]", of_decide_eq_true rfl, Tryd.func61.trans (congrArg some rfl)⟩
  f21 := ⟨"slices.heapSortCmpFunc[string]", of_decide_eq_true rfl, Tryd.func62.trans (congrArg some rfl)⟩
  f22 := ⟨"slices.breakPatternsCmpFunc[string]", of_decide_eq_true rfl, Tryd.func63.trans (congrArg some rfl)⟩
  f23 := ⟨"slices.choosePivotCmpFunc[string]", of_decide_eq_true rfl, Tryd.func64.trans (congrArg some rfl)⟩
  f24 := ⟨"slices.reverseRangeCmpFunc[string]", of_decide_eq_true rfl, Tryd.func65.trans (congrArg some rfl)⟩
  f25 := ⟨"slices.partialInsertionSortCmpFunc[string]", of_decide_eq_true rfl, Tryd.func66.trans (congrArg some rfl)⟩
  f26 := ⟨"slices.partitionEqualCmpFunc[string]", of_decide_eq_true rfl, Tryd.func67.trans (congrArg some rfl)⟩
  f27 := ⟨"slices.partitionCmpFunc[string]", of_decide_eq_true rfl, Tryd.func68.trans (congrArg some rfl)⟩
  f28 := Tryd.func69.trans (congrArg some rfl)
  f29 := Tryd.func70.trans (congrArg some rfl)
  f46 := ⟨"slices.siftDownCmpFunc[string]", of_decide_eq_true rfl, Tryd.func75.trans (congrArg some rfl)⟩
  f47 := Tryd.func76.trans (congrArg some rfl)
  f48 := Tryd.func77.trans (congrArg some rfl)
  f49 := ⟨"slices.medianAdjacentCmpFunc[string]", of_decide_eq_true rfl, Tryd.func78.trans (congrArg some rfl)⟩
  f50 := ⟨"slices.medianCmpFunc[string]", of_decide_eq_true rfl, Tryd.func79.trans (congrArg some rfl)⟩
  f57 := ⟨"slices.order2CmpFunc[string]", of_decide_eq_true rfl, Tryd.func85.trans (congrArg some rfl)⟩
  t0 := Tryd.underlying0
  a0 := Tryd.isAgg0
  z0 := Tryd.sizeOf0
  v0 := Tryd.zeroValue0
  t3 := Tryd.underlying3
  a3 := Tryd.isAgg3
  z3 := Tryd.sizeOf3
  v3 := Tryd.zeroValue3
  t4 := Tryd.underlying4
  a4 := Tryd.isAgg4
  z4 := Tryd.sizeOf4
  v4 := Tryd.zeroValue4
  t5 := Tryd.underlying5
  a5 := Tryd.isAgg5
  z5 := Tryd.sizeOf5
  v5 := Tryd.zeroValue5
  t9 := Tryd.underlying9
  a9 := Tryd.isAgg9
  z9 := Tryd.sizeOf9
  v9 := Tryd.zeroValue9
  t22 := Tryd.underlying65
  a22 := Tryd.isAgg65
  z22 := Tryd.sizeOf65
  v22 := Tryd.zeroValue65
  a24 := Tryd.isAgg9
  z24 := Tryd.sizeOf9
  t25 := Tryd.underlying84
  a25 := Tryd.isAgg84
  z25 := Tryd.sizeOf84
  v25 := Tryd.zeroValue84
  t39 := Tryd.underlying93
  a39 := Tryd.isAgg93
  z39 := Tryd.sizeOf93
  v39 := Tryd.zeroValue93
  t45 := Tryd.underlying98
  a45 := Tryd.isAgg98
  z45 := Tryd.sizeOf98
  v45 := Tryd.zeroValue98
  t46 := Tryd.underlying99
  a46 := Tryd.isAgg99
  z46 := Tryd.sizeOf99
  v46 := Tryd.zeroValue99
  t50 := Tryd.underlying103
  a50 := Tryd.isAgg103
  z50 := Tryd.sizeOf103
  v50 := Tryd.zeroValue103
  t53 := Tryd.underlying106
  a53 := Tryd.isAgg106
  z53 := Tryd.sizeOf106
  v53 := Tryd.zeroValue106
  t55 := Tryd.underlying108
  a55 := Tryd.isAgg108
  z55 := Tryd.sizeOf108
  v55 := Tryd.zeroValue108
  t66 := Tryd.underlying111
  a66 := Tryd.isAgg111
  z66 := Tryd.sizeOf111
  v66 := Tryd.zeroValue111
  t70 := Tryd.underlying75
  a70 := Tryd.isAgg75
  z70 := Tryd.sizeOf75
  v70 := Tryd.zeroValue75
  t76 := Tryd.underlying119
  a76 := Tryd.isAgg119
  z76 := Tryd.sizeOf119
  v76 := Tryd.zeroValue119
  t77 := Tryd.underlying120
  a77 := Tryd.isAgg120
  z77 := Tryd.sizeOf120
  v77 := Tryd.zeroValue120
end Go.Proofs.YtmdfajhlofhmcaaDoor
