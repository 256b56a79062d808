/-
  It
-/
import Derived.Test.YtegmmhldpmmkeaaGreatDoorSmJJ
import Derived.Lib.ItoaNum
set_option linter.unusedVariables false
namespace Sm
open Go
def Adu(P:Program)(nn:Nat):Prop:=∀(i:Nat),i < 100→∀w,Calls P nn #[.int .i64 i] w fun e w'=>e = .returned (.string ⟨(Lib.decDigits i).toArray⟩)∧w'=w
theorem VF:∀i:Fin 100,Lib.decDigits i.1=yX i.1:=by decide +kernel
theorem Od{code:Nat→SF}(L:ai code)(hs:∀nn,L.ν nn=some 428→Adu L.P nn)(n:Nat)(hn:n < 100)(H:ab)(K:HV→ab→Prop)(hk:∀X,Fr [] H X→K (S (yX n)) X):Spec L.P L.ν 428 [I n] H K:=by
 intro nn Qb w Kk us ao hr;obtain⟨u1,us1,rfl,r1,hr⟩:=hr;simp only[aC] at hr;subst hr;have r1':u1 = .int .i64 (n:Int):=r1;subst r1';refine(hs nn Qb.1 n hn w).mono ?_;rintro e w' ⟨rfl,rfl⟩;have e1:=VF ⟨n,hn⟩;refine⟨_,S (yX n),H,Kk,rfl,?_,ao,Ext.refl _ _ _,hk H (Fr.refl _ _)⟩;show Value.string _=_;rw[←e1]
end Sm
