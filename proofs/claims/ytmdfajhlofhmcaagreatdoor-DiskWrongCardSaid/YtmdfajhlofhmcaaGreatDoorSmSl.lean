/-
  A layer of one's own: texts Sl.
-/
import Derived.Shelf.SlSortCmp.NoneTotal
import Derived.Test.YtmdfajhlofhmcaaGreatDoorProg
namespace Go.Proofs.YtmdfajhlofhmcaaGreatDoor
open Go.Shelf Go.Proofs
/-- Which function of ours each of the sort's is. -/
def sortERen : Ren where
  f := fun x => match x with
    | 6 => 101
    | 15 => 120
    | 14 => 119
    | 28 => 135
    | 29 => 136
    | 20 => 127
    | 21 => 128
    | 22 => 129
    | 23 => 130
    | 24 => 131
    | 25 => 132
    | 26 => 133
    | 27 => 134
    | 46 => 142
    | 47 => 143
    | 48 => 144
    | 49 => 145
    | 50 => 146
    | 57 => 151
    | n => n
  t := fun x => match x with
    | 22 => 88
    | 24 => 9
    | 25 => 141
    | 3 => 3
    | 39 => 154
    | 0 => 0
    | 53 => 167
    | 55 => 169
    | 4 => 4
    | 46 => 160
    | 45 => 159
    | 50 => 164
    | 5 => 5
    | 9 => 9
    | 66 => 173
    | 70 => 143
    | 76 => 180
    | 77 => 181
    | n => n
  g := fun n => n
theorem sortE : SlLaysF.n6 Tryz.prog sortERen where
  mixed := rfl
  f6 := ⟨"slices.SortFunc[[]string,string]", of_decide_eq_true rfl, Tryz.func101.trans (congrArg some rfl)⟩
  f14 := ⟨"slices.pdqsortCmpFunc[string]", of_decide_eq_true rfl, Tryz.func119.trans (congrArg some rfl)⟩
  f15 := Tryz.func120.trans (congrArg some rfl)
  f20 := ⟨"slices.insertionSortCmpFunc[string]", of_decide_eq_true rfl, Tryz.func127.trans (congrArg some rfl)⟩
  f21 := ⟨"slices.heapSortCmpFunc[string]", of_decide_eq_true rfl, Tryz.func128.trans (congrArg some rfl)⟩
  f22 := ⟨"slices.breakPatternsCmpFunc[string]", of_decide_eq_true rfl, Tryz.func129.trans (congrArg some rfl)⟩
  f23 := ⟨"slices.choosePivotCmpFunc[string]", of_decide_eq_true rfl, Tryz.func130.trans (congrArg some rfl)⟩
  f24 := ⟨"slices.reverseRangeCmpFunc[string]", of_decide_eq_true rfl, Tryz.func131.trans (congrArg some rfl)⟩
  f25 := ⟨"slices.partialInsertionSortCmpFunc[string]", of_decide_eq_true rfl, Tryz.func132.trans (congrArg some rfl)⟩
  f26 := ⟨"slices.partitionEqualCmpFunc[string]", of_decide_eq_true rfl, Tryz.func133.trans (congrArg some rfl)⟩
  f27 := ⟨"slices.partitionCmpFunc[string]", of_decide_eq_true rfl, Tryz.func134.trans (congrArg some rfl)⟩
  f28 := Tryz.func135.trans (congrArg some rfl)
  f29 := Tryz.func136.trans (congrArg some rfl)
  f46 := ⟨"slices.siftDownCmpFunc[string]", of_decide_eq_true rfl, Tryz.func142.trans (congrArg some rfl)⟩
  f47 := Tryz.func143.trans (congrArg some rfl)
  f48 := Tryz.func144.trans (congrArg some rfl)
  f49 := ⟨"slices.medianAdjacentCmpFunc[string]", of_decide_eq_true rfl, Tryz.func145.trans (congrArg some rfl)⟩
  f50 := ⟨"slices.medianCmpFunc[string]", of_decide_eq_true rfl, Tryz.func146.trans (congrArg some rfl)⟩
  f57 := ⟨"slices.order2CmpFunc[string]", of_decide_eq_true rfl, Tryz.func151.trans (congrArg some rfl)⟩
  t0 := Tryz.underlying0
  a0 := Tryz.isAgg0
  z0 := Tryz.sizeOf0
  v0 := Tryz.zeroValue0
  t3 := Tryz.underlying3
  a3 := Tryz.isAgg3
  z3 := Tryz.sizeOf3
  v3 := Tryz.zeroValue3
  t4 := Tryz.underlying4
  a4 := Tryz.isAgg4
  z4 := Tryz.sizeOf4
  v4 := Tryz.zeroValue4
  t5 := Tryz.underlying5
  a5 := Tryz.isAgg5
  z5 := Tryz.sizeOf5
  v5 := Tryz.zeroValue5
  t9 := Tryz.underlying9
  a9 := Tryz.isAgg9
  z9 := Tryz.sizeOf9
  v9 := Tryz.zeroValue9
  t22 := Tryz.underlying88
  a22 := Tryz.isAgg88
  z22 := Tryz.sizeOf88
  v22 := Tryz.zeroValue88
  a24 := Tryz.isAgg9
  z24 := Tryz.sizeOf9
  t25 := Tryz.underlying141
  a25 := Tryz.isAgg141
  z25 := Tryz.sizeOf141
  v25 := Tryz.zeroValue141
  t39 := Tryz.underlying154
  a39 := Tryz.isAgg154
  z39 := Tryz.sizeOf154
  v39 := Tryz.zeroValue154
  t45 := Tryz.underlying159
  a45 := Tryz.isAgg159
  z45 := Tryz.sizeOf159
  v45 := Tryz.zeroValue159
  t46 := Tryz.underlying160
  a46 := Tryz.isAgg160
  z46 := Tryz.sizeOf160
  v46 := Tryz.zeroValue160
  t50 := Tryz.underlying164
  a50 := Tryz.isAgg164
  z50 := Tryz.sizeOf164
  v50 := Tryz.zeroValue164
  t53 := Tryz.underlying167
  a53 := Tryz.isAgg167
  z53 := Tryz.sizeOf167
  v53 := Tryz.zeroValue167
  t55 := Tryz.underlying169
  a55 := Tryz.isAgg169
  z55 := Tryz.sizeOf169
  v55 := Tryz.zeroValue169
  t66 := Tryz.underlying173
  a66 := Tryz.isAgg173
  z66 := Tryz.sizeOf173
  v66 := Tryz.zeroValue173
  t70 := Tryz.underlying143
  a70 := Tryz.isAgg143
  z70 := Tryz.sizeOf143
  v70 := Tryz.zeroValue143
  t76 := Tryz.underlying180
  a76 := Tryz.isAgg180
  z76 := Tryz.sizeOf180
  v76 := Tryz.zeroValue180
  t77 := Tryz.underlying181
  a77 := Tryz.isAgg181
  z77 := Tryz.sizeOf181
  v77 := Tryz.zeroValue181
end Go.Proofs.YtmdfajhlofhmcaaGreatDoor
