/-
  A layer of one's own: texts Sl.
-/
import Derived.Shelf.SlSortCmp.NoneTotal
import Derived.Test.YtpfccegjkhaidaaGreatDoorProg
namespace Go.Proofs.YtpfccegjkhaidaaGreatDoor
open Go.Shelf Go.Proofs
/-- Which function of ours each of the sort's is. -/
def sortERen : Ren where
  f := fun x => match x with
    | 6 => 29
    | 15 => 65
    | 14 => 64
    | 28 => 94
    | 29 => 95
    | 20 => 86
    | 21 => 87
    | 22 => 88
    | 23 => 89
    | 24 => 90
    | 25 => 91
    | 26 => 92
    | 27 => 93
    | 46 => 110
    | 47 => 111
    | 48 => 112
    | 49 => 113
    | 50 => 114
    | 57 => 121
    | n => n
  t := fun x => match x with
    | 22 => 22
    | 24 => 49
    | 25 => 67
    | 3 => 3
    | 39 => 91
    | 0 => 0
    | 53 => 115
    | 55 => 117
    | 4 => 4
    | 46 => 108
    | 45 => 107
    | 50 => 112
    | 5 => 5
    | 9 => 9
    | 66 => 123
    | 70 => 127
    | 76 => 131
    | 77 => 132
    | n => n
  g := fun n => n
theorem sortE : SlLaysF0.n6 Tryz.prog sortERen where
  mixed := rfl
  f6 := ⟨"slices.SortFunc[[]sumpter/api.Entry,sumpter/api.Entry]", of_decide_eq_true rfl, Tryz.func29.trans (congrArg some rfl)⟩
  f14 := ⟨"slices.pdqsortCmpFunc[sumpter/api.Entry]", of_decide_eq_true rfl, Tryz.func64.trans (congrArg some rfl)⟩
  f15 := Tryz.func65.trans (congrArg some rfl)
  f20 := ⟨"slices.insertionSortCmpFunc[sumpter/api.Entry]", of_decide_eq_true rfl, Tryz.func86.trans (congrArg some rfl)⟩
  f21 := ⟨"slices.heapSortCmpFunc[sumpter/api.Entry]", of_decide_eq_true rfl, Tryz.func87.trans (congrArg some rfl)⟩
  f22 := ⟨"slices.breakPatternsCmpFunc[sumpter/api.Entry]", of_decide_eq_true rfl, Tryz.func88.trans (congrArg some rfl)⟩
  f23 := ⟨"slices.choosePivotCmpFunc[sumpter/api.Entry]", of_decide_eq_true rfl, Tryz.func89.trans (congrArg some rfl)⟩
  f24 := ⟨"slices.reverseRangeCmpFunc[sumpter/api.Entry]", of_decide_eq_true rfl, Tryz.func90.trans (congrArg some rfl)⟩
  f25 := ⟨"slices.partialInsertionSortCmpFunc[sumpter/api.Entry]", of_decide_eq_true rfl, Tryz.func91.trans (congrArg some rfl)⟩
  f26 := ⟨"slices.partitionEqualCmpFunc[sumpter/api.Entry]", of_decide_eq_true rfl, Tryz.func92.trans (congrArg some rfl)⟩
  f27 := ⟨"slices.partitionCmpFunc[sumpter/api.Entry]", of_decide_eq_true rfl, Tryz.func93.trans (congrArg some rfl)⟩
  f28 := Tryz.func94.trans (congrArg some rfl)
  f29 := Tryz.func95.trans (congrArg some rfl)
  f46 := ⟨"slices.siftDownCmpFunc[sumpter/api.Entry]", of_decide_eq_true rfl, Tryz.func110.trans (congrArg some rfl)⟩
  f47 := Tryz.func111.trans (congrArg some rfl)
  f48 := Tryz.func112.trans (congrArg some rfl)
  f49 := ⟨"slices.medianAdjacentCmpFunc[sumpter/api.Entry]", of_decide_eq_true rfl, Tryz.func113.trans (congrArg some rfl)⟩
  f50 := ⟨"slices.medianCmpFunc[sumpter/api.Entry]", of_decide_eq_true rfl, Tryz.func114.trans (congrArg some rfl)⟩
  f57 := ⟨"slices.order2CmpFunc[sumpter/api.Entry]", of_decide_eq_true rfl, Tryz.func121.trans (congrArg some rfl)⟩
  t0 := Tryz.underlying0
  a0 := Tryz.isAgg0
  z0 := Tryz.sizeOf0
  v0 := Tryz.zeroValue0
  t3 := Tryz.underlying3
  a3 := Tryz.isAgg3
  z3 := Tryz.sizeOf3
  v3 := Tryz.zeroValue3
  t4 := Tryz.underlying4
  a4 := Tryz.isAgg4
  z4 := Tryz.sizeOf4
  v4 := Tryz.zeroValue4
  t5 := Tryz.underlying5
  a5 := Tryz.isAgg5
  z5 := Tryz.sizeOf5
  v5 := Tryz.zeroValue5
  t9 := Tryz.underlying9
  a9 := Tryz.isAgg9
  z9 := Tryz.sizeOf9
  v9 := Tryz.zeroValue9
  t22 := Tryz.underlying22
  a22 := Tryz.isAgg22
  z22 := Tryz.sizeOf22
  v22 := Tryz.zeroValue22
  t25 := Tryz.underlying67
  a25 := Tryz.isAgg67
  z25 := Tryz.sizeOf67
  v25 := Tryz.zeroValue67
  t39 := Tryz.underlying91
  a39 := Tryz.isAgg91
  z39 := Tryz.sizeOf91
  v39 := Tryz.zeroValue91
  t45 := Tryz.underlying107
  a45 := Tryz.isAgg107
  z45 := Tryz.sizeOf107
  v45 := Tryz.zeroValue107
  t46 := Tryz.underlying108
  a46 := Tryz.isAgg108
  z46 := Tryz.sizeOf108
  v46 := Tryz.zeroValue108
  t50 := Tryz.underlying112
  a50 := Tryz.isAgg112
  z50 := Tryz.sizeOf112
  v50 := Tryz.zeroValue112
  t53 := Tryz.underlying115
  a53 := Tryz.isAgg115
  z53 := Tryz.sizeOf115
  v53 := Tryz.zeroValue115
  t55 := Tryz.underlying117
  a55 := Tryz.isAgg117
  z55 := Tryz.sizeOf117
  v55 := Tryz.zeroValue117
  t66 := Tryz.underlying123
  a66 := Tryz.isAgg123
  z66 := Tryz.sizeOf123
  v66 := Tryz.zeroValue123
  t70 := Tryz.underlying127
  a70 := Tryz.isAgg127
  z70 := Tryz.sizeOf127
  v70 := Tryz.zeroValue127
  t76 := Tryz.underlying131
  a76 := Tryz.isAgg131
  z76 := Tryz.sizeOf131
  v76 := Tryz.zeroValue131
  t77 := Tryz.underlying132
  a77 := Tryz.isAgg132
  z77 := Tryz.sizeOf132
  v77 := Tryz.zeroValue132
end Go.Proofs.YtpfccegjkhaidaaGreatDoor
