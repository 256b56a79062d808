/-
  Sl
-/
import Derived.Shelf.SlSortCmp.NoneTotal
import Derived.Test.YtegmmhldpmmkeaaGreatDoorProg
set_option maxRecDepth 100000
namespace Go.Proofs.YtegmmhldpmmkeaaGreatDoor
open Go.Shelf Go.Proofs
def MJ:Ren where
 f:=fun x=>match x with
   | 6=>104
   | 15=>156
   | 14=>155
   | 28=>203
   | 29=>204
   | 20=>195
   | 21=>196
   | 22=>197
   | 23=>198
   | 24=>199
   | 25=>200
   | 26=>201
   | 27=>202
   | 46=>231
   | 47=>232
   | 48=>233
   | 49=>234
   | 50=>235
   | 57=>256
   | n=>n
 t:=fun x=>match x with
   | 22=>110
   | 24=>9
   | 25=>171
   | 3=>3
   | 39=>47
   | 0=>0
   | 53=>83
   | 55=>264
   | 4=>4
   | 46=>256
   | 45=>255
   | 50=>260
   | 5=>5
   | 9=>9
   | 66=>287
   | 70=>209
   | 76=>307
   | 77=>308
   | n=>n
 g:=fun n=>n
theorem Uu:SlLaysF.n6 Tryz.prog MJ where
 mixed:=rfl
 f6:=⟨"slices.SortFunc[[]string,string]",of_decide_eq_true rfl,Tryz.func104.trans (congrArg some rfl)⟩
 f14:=⟨"slices.pdqsortCmpFunc[string]",of_decide_eq_true rfl,Tryz.func155.trans (congrArg some rfl)⟩
 f15:=Tryz.func156.trans (congrArg some rfl)
 f20:=⟨"slices.insertionSortCmpFunc[string]",of_decide_eq_true rfl,Tryz.func195.trans (congrArg some rfl)⟩
 f21:=⟨"slices.heapSortCmpFunc[string]",of_decide_eq_true rfl,Tryz.func196.trans (congrArg some rfl)⟩
 f22:=⟨"slices.breakPatternsCmpFunc[string]",of_decide_eq_true rfl,Tryz.func197.trans (congrArg some rfl)⟩
 f23:=⟨"slices.choosePivotCmpFunc[string]",of_decide_eq_true rfl,Tryz.func198.trans (congrArg some rfl)⟩
 f24:=⟨"slices.reverseRangeCmpFunc[string]",of_decide_eq_true rfl,Tryz.func199.trans (congrArg some rfl)⟩
 f25:=⟨"slices.partialInsertionSortCmpFunc[string]",of_decide_eq_true rfl,Tryz.func200.trans (congrArg some rfl)⟩
 f26:=⟨"slices.partitionEqualCmpFunc[string]",of_decide_eq_true rfl,Tryz.func201.trans (congrArg some rfl)⟩
 f27:=⟨"slices.partitionCmpFunc[string]",of_decide_eq_true rfl,Tryz.func202.trans (congrArg some rfl)⟩
 f28:=Tryz.func203.trans (congrArg some rfl)
 f29:=Tryz.func204.trans (congrArg some rfl)
 f46:=⟨"slices.siftDownCmpFunc[string]",of_decide_eq_true rfl,Tryz.func231.trans (congrArg some rfl)⟩
 f47:=Tryz.func232.trans (congrArg some rfl)
 f48:=Tryz.func233.trans (congrArg some rfl)
 f49:=⟨"slices.medianAdjacentCmpFunc[string]",of_decide_eq_true rfl,Tryz.func234.trans (congrArg some rfl)⟩
 f50:=⟨"slices.medianCmpFunc[string]",of_decide_eq_true rfl,Tryz.func235.trans (congrArg some rfl)⟩
 f57:=⟨"slices.order2CmpFunc[string]",of_decide_eq_true rfl,Tryz.func256.trans (congrArg some rfl)⟩
 t0:=Tryz.underlying0
 a0:=Tryz.isAgg0
 z0:=Tryz.sizeOf0
 v0:=Tryz.zeroValue0
 t3:=Tryz.underlying3
 a3:=Tryz.isAgg3
 z3:=Tryz.sizeOf3
 v3:=Tryz.zeroValue3
 t4:=Tryz.underlying4
 a4:=Tryz.isAgg4
 z4:=Tryz.sizeOf4
 v4:=Tryz.zeroValue4
 t5:=Tryz.underlying5
 a5:=Tryz.isAgg5
 z5:=Tryz.sizeOf5
 v5:=Tryz.zeroValue5
 t9:=Tryz.underlying9
 a9:=Tryz.isAgg9
 z9:=Tryz.sizeOf9
 v9:=Tryz.zeroValue9
 t22:=Tryz.underlying110
 a22:=Tryz.isAgg110
 z22:=Tryz.sizeOf110
 v22:=Tryz.zeroValue110
 a24:=Tryz.isAgg9
 z24:=Tryz.sizeOf9
 t25:=Tryz.underlying171
 a25:=Tryz.isAgg171
 z25:=Tryz.sizeOf171
 v25:=Tryz.zeroValue171
 t39:=Tryz.underlying47
 a39:=Tryz.isAgg47
 z39:=Tryz.sizeOf47
 v39:=Tryz.zeroValue47
 t45:=Tryz.underlying255
 a45:=Tryz.isAgg255
 z45:=Tryz.sizeOf255
 v45:=Tryz.zeroValue255
 t46:=Tryz.underlying256
 a46:=Tryz.isAgg256
 z46:=Tryz.sizeOf256
 v46:=Tryz.zeroValue256
 t50:=Tryz.underlying260
 a50:=Tryz.isAgg260
 z50:=Tryz.sizeOf260
 v50:=Tryz.zeroValue260
 t53:=Tryz.underlying83
 a53:=Tryz.isAgg83
 z53:=Tryz.sizeOf83
 v53:=Tryz.zeroValue83
 t55:=Tryz.underlying264
 a55:=Tryz.isAgg264
 z55:=Tryz.sizeOf264
 v55:=Tryz.zeroValue264
 t66:=Tryz.underlying287
 a66:=Tryz.isAgg287
 z66:=Tryz.sizeOf287
 v66:=Tryz.zeroValue287
 t70:=Tryz.underlying209
 a70:=Tryz.isAgg209
 z70:=Tryz.sizeOf209
 v70:=Tryz.zeroValue209
 t76:=Tryz.underlying307
 a76:=Tryz.isAgg307
 z76:=Tryz.sizeOf307
 v76:=Tryz.zeroValue307
 t77:=Tryz.underlying308
 a77:=Tryz.isAgg308
 z77:=Tryz.sizeOf308
 v77:=Tryz.zeroValue308
end Go.Proofs.YtegmmhldpmmkeaaGreatDoor
