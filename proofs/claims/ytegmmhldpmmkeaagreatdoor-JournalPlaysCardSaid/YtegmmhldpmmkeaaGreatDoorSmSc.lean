/-
  Sc
-/
import Derived.Shelf.SlIter.Collect
import Derived.Test.YtegmmhldpmmkeaaGreatDoorProg
set_option maxRecDepth 100000
namespace Go.Proofs.YtegmmhldpmmkeaaGreatDoor
open Go.Shelf Go.Proofs
def Afm:Ren where
 f:=fun x=>match x with
   | 8=>102
   | 11=>153
   | n=>n
 t:=fun x=>match x with
   | 26=>9
   | 28=>168
   | 24=>110
   | 0=>0
   | 33=>175
   | 4=>4
   | n=>n
 g:=fun n=>n
theorem AcE:SlLaysZ.n8 Tryz.prog Afm where
 mixed:=rfl
 f8:=⟨"slices.Collect[string]",of_decide_eq_true rfl,Tryz.func102.trans (congrArg some rfl)⟩
 f11:=⟨"slices.AppendSeq[[]string,string]",of_decide_eq_true rfl,Tryz.func153.trans (congrArg some rfl)⟩
 t0:=Tryz.underlying0
 a0:=Tryz.isAgg0
 z0:=Tryz.sizeOf0
 v0:=Tryz.zeroValue0
 t24:=Tryz.underlying110
 a24:=Tryz.isAgg110
 z24:=Tryz.sizeOf110
 v24:=Tryz.zeroValue110
 t26:=Tryz.underlying9
 a26:=Tryz.isAgg9
 z26:=Tryz.sizeOf9
 v26:=Tryz.zeroValue9
 t28:=Tryz.underlying168
 a28:=Tryz.isAgg168
 z28:=Tryz.sizeOf168
 v28:=Tryz.zeroValue168
 i26:=Eq.refl _
end Go.Proofs.YtegmmhldpmmkeaaGreatDoor
