/-
  Si
-/
import Derived.Shelf.Strconv.Itoa3
import Derived.KernelRfl
import Derived.Test.YtegmmhldpmmkeaaGreatDoorProg
set_option maxRecDepth 100000
namespace Go.Proofs.YtegmmhldpmmkeaaGreatDoor
open Go.Shelf Go.Proofs
def Pg:Ren where
 f:=fun x=>match x with
   | 171=>88
   | 243=>141
   | 246=>181
   | 283=>219
   | 284=>220
   | 285=>221
   | 286=>222
   | 129=>204
   | 317=>251
   | 318=>252
   | 319=>253
   | 320=>254
   | 337=>265
   | 338=>266
   | n=>n
 t:=fun x=>match x with
   | 3=>3
   | 9=>9
   | 2=>2
   | 4=>4
   | 171=>273
   | 0=>0
   | 53=>264
   | 37=>38
   | 5=>5
   | 173=>275
   | 212=>304
   | 51=>83
   | 20=>20
   | 213=>305
   | 46=>47
   | 232=>34
   | 233=>318
   | n=>n
 g:=fun x=>match x with
   | 17=>0
   | 18=>3
   | 19=>4
   | n=>n
theorem Adr:LaysM.n171 Tryz.prog Pg where
 mixed:=rfl
 f129:=Tryz.func204.trans (congrArg some rfl)
 f171:=Tryz.func88.trans (congrArg some rfl)
 f243:=Tryz.func141.trans (congrArg some rfl)
 f246:=Tryz.func181.trans (congrArg some rfl)
 f283:=Tryz.func219.trans (congrArg some rfl)
 f284:=Tryz.func220.trans (congrArg some rfl)
 f285:=Tryz.func221.trans (congrArg some rfl)
 f286:=Tryz.func222.trans (congrArg some rfl)
 f317:=Tryz.func251.trans (congrArg some rfl)
 f318:=Tryz.func252.trans (congrArg some rfl)
 f319:=Tryz.func253.trans (congrArg some rfl)
 f320:=Tryz.func254.trans (congrArg some rfl)
 f337:=Tryz.func265.trans (congrArg some rfl)
 f338:=Tryz.func266.trans (congrArg some rfl)
 t0:=Tryz.underlying0
 a0:=Tryz.isAgg0
 z0:=Tryz.sizeOf0
 v0:=Tryz.zeroValue0
 t2:=Tryz.underlying2
 a2:=Tryz.isAgg2
 z2:=Tryz.sizeOf2
 v2:=Tryz.zeroValue2
 t3:=Tryz.underlying3
 a3:=Tryz.isAgg3
 z3:=Tryz.sizeOf3
 v3:=Tryz.zeroValue3
 t4:=Tryz.underlying4
 a4:=Tryz.isAgg4
 z4:=Tryz.sizeOf4
 v4:=Tryz.zeroValue4
 t5:=Tryz.underlying5
 a5:=Tryz.isAgg5
 z5:=Tryz.sizeOf5
 v5:=Tryz.zeroValue5
 t9:=Tryz.underlying9
 a9:=Tryz.isAgg9
 z9:=Tryz.sizeOf9
 v9:=Tryz.zeroValue9
 t20:=Tryz.underlying20
 a20:=Tryz.isAgg20
 z20:=Tryz.sizeOf20
 v20:=Tryz.zeroValue20
 t37:=Tryz.underlying38
 a37:=Tryz.isAgg38
 z37:=Tryz.sizeOf38
 v37:=Tryz.zeroValue38
 t46:=Tryz.underlying47
 a46:=Tryz.isAgg47
 z46:=Tryz.sizeOf47
 v46:=Tryz.zeroValue47
 t51:=Tryz.underlying83
 a51:=Tryz.isAgg83
 z51:=Tryz.sizeOf83
 v51:=Tryz.zeroValue83
 t53:=Tryz.underlying264
 a53:=Tryz.isAgg264
 z53:=Tryz.sizeOf264
 v53:=Tryz.zeroValue264
 t171:=Tryz.underlying273
 a171:=Tryz.isAgg273
 z171:=Tryz.sizeOf273
 v171:=Tryz.zeroValue273
 t173:=Tryz.underlying275
 a173:=Tryz.isAgg275
 z173:=Tryz.sizeOf275
 v173:=Tryz.zeroValue275
 t212:=Tryz.underlying304
 a212:=Tryz.isAgg304
 z212:=Tryz.sizeOf304
 v212:=Tryz.zeroValue304
 t213:=Tryz.underlying305
 a213:=Tryz.isAgg305
 z213:=Tryz.sizeOf305
 t232:=Tryz.underlying34
 a232:=Tryz.isAgg34
 z232:=Tryz.sizeOf34
 v232:=Tryz.zeroValue34
 t233:=Tryz.underlying318
 a233:=Tryz.isAgg318
 z233:=Tryz.sizeOf318
 v233:=Tryz.zeroValue318
 g17:=by kernel_rfl
 g18:=by kernel_rfl
 g19:=by kernel_rfl
 i0:=Eq.refl _
 i2:=Eq.refl _
 i3:=Eq.refl _
 i4:=Eq.refl _
 i5:=Eq.refl _
 i9:=Eq.refl _
 i20:=Eq.refl _
 i37:=Eq.refl _
 i46:=Eq.refl _
 i51:=Eq.refl _
 i53:=Eq.refl _
 i173:=Eq.refl _
 i171:=by kernel_rfl
 i212:=by kernel_rfl
 i232:=by kernel_rfl
 i233:=by kernel_rfl
 m17:=by kernel_rfl
 m18:=by kernel_rfl
 m19:=by kernel_rfl
end Go.Proofs.YtegmmhldpmmkeaaGreatDoor
