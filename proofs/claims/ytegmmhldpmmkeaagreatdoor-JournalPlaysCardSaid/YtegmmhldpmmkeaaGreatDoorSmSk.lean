/-
  Sk
-/
import Derived.Shelf.SlIter.Collect
import Derived.Test.YtegmmhldpmmkeaaGreatDoorProg
set_option maxRecDepth 100000
namespace Go.Proofs.YtegmmhldpmmkeaaGreatDoor
open Go.Shelf Go.Proofs
def MI:Ren where
 f:=fun x=>match x with
   | 10=>154
   | n=>n
 t:=fun x=>match x with
   | 33=>175
   | 23=>91
   | 0=>0
   | 4=>4
   | 26=>9
   | 3=>109
   | n=>n
 g:=fun n=>n
theorem Ut:SlLaysZ.n10 Tryz.prog MI where
 mixed:=rfl
 f10:=⟨"maps.Keys[sumpter/disk.names,string,sumpter/disk.node]$1",of_decide_eq_true rfl,Tryz.func154.trans (congrArg some rfl)⟩
 t0:=Tryz.underlying0
 a0:=Tryz.isAgg0
 z0:=Tryz.sizeOf0
 v0:=Tryz.zeroValue0
 t4:=Tryz.underlying4
 a4:=Tryz.isAgg4
 z4:=Tryz.sizeOf4
 v4:=Tryz.zeroValue4
 t23:=Tryz.underlying91
 a23:=Tryz.isAgg91
 z23:=Tryz.sizeOf91
 v23:=Tryz.zeroValue91
 t26:=Tryz.underlying9
 a26:=Tryz.isAgg9
 z26:=Tryz.sizeOf9
 v26:=Tryz.zeroValue9
 t33:=Tryz.underlying175
 a33:=Tryz.isAgg175
 z33:=Tryz.sizeOf175
 v33:=Tryz.zeroValue175
end Go.Proofs.YtegmmhldpmmkeaaGreatDoor
