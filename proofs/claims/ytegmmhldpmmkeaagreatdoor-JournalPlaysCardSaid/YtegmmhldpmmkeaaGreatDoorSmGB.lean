/-
  G4,G5
-/
import Derived.Test.YtegmmhldpmmkeaaGreatDoorSmLF
import Derived.Deep.Slices
import Derived.ChangeSame
import Derived.Carry
import Derived.WalkKit
import Derived.ProofKit
import Derived.OpenShut
set_option linter.unusedVariables false
namespace Sm
open Go Go.ChangeShapes Go.WideShapes
theorem Qr{H:Type}{enc:TypeId×Value→H}{P:Program}{f:Func}{s:ChangeSpec}{apart fresh handsOn again:Bool}{W W':World}{args:Array Value}{v:Value}{ds gs:List (DataW H)}{before pa pv:List MemPlace}
   (hW:DataW.Whole enc P f.params.toList s.vars apart W args.toList ds gs before)
   (rB:∀(b:Nat) (sp:Nat→Bool) (hd:Bool),DataW.TrodAll enc P W' b sp hd f.resultTypes.toList (v.resultList f.resultTypes.size) (s.fn H (ds++gs)).results [])
   (dD:∀sp:Nat→Bool,(∀p∈before,sp p.block=true)→DataW.TrodAll enc P W' 0 sp true f.params.toList args.toList (s.fn H (ds++gs)).args pa)
   (Qt:∀sp:Nat→Bool,(∀p∈before,sp p.block=true)→DataW.TrodVars enc P W' sp s.vars (s.fn H (ds++gs)).vars pv)
   (Js:before=pa++pv) (hk:W.keptBut W' (·∈before)) (Ju:∀a:Addr,a.block < W.heap.size→W'.frozen? a=W.frozen? a)
   (mo:∀(j:Nat) (t:TypeId) (r:Value),f.resultTypes[j]? = some t→(v.resultList f.resultTypes.size)[j]? = some r→Value.okWide P W' .any 0 t r) :
   s.post enc P f apart fresh handsOn again W args v W':=by
 have bN:=fun p hp=>hW.lt p hp;have hold:∀p∈before,(fun b=>decide (b < W.heap.size)) p.block=true:=fun p hp=>decide_eq_true (bN p hp);have UC:∀p,p∈pa++pv→p∈before:=fun p hp=>Js▸hp;refine⟨ds,gs,before,[],pa,pv,hW,rB _ _ _,dD _ hold,Qt _ hold,World.keptBut_mono (fun p hp=>⟨hp,.inr (List.mem_append.mp (Js▸hp))⟩) hk,fun _=>?_⟩;obtain⟨_,_,_,_,_,hz,hn⟩:=hW;refine⟨mo,_,_,([]++pa)++pv,⟨[]++pa,pv,trodAll_append (dD _ (fun _ _=>rfl)) (rB _ _ _),Qt _ (fun _ _=>rfl),rfl,fun b off hp=>?_,fun ha=>?_⟩,fun p hp _=>Js▸(by simpa using hp)⟩
 · have hb:=UC _ (by simpa using hp)
   rw[Ju _ (bN _ hb)];exact hz b off hb
 · have:=hn ha;rw[Js] at this;simpa using this
def KL:ab:=fun _=>none
theorem Bw(ν:Nat→Option Nat)(w:World)(K:Nat→Nat)(hK:∀b,w.heap.size≤b→K b=0)(ht:yj ν K w):dS ν w K KL:=
 ⟨fun b r h=>(by cases h),fun b hb=>hK b hb,ht⟩
theorem KM{w w':World}(h1:w'.os=w.os)(h2:w'.output=w.output)(h:∀i,i < w.heap.size→w'.heap[i]? = w.heap[i]?):w.keptBut w' (fun _=>False):=by
 refine⟨h1,h2,fun i hi=>?_⟩;rw[h i hi];split;{rename_i c t fr c' t' fr' e1 e2;rw[e1] at e2;cases e2;exact⟨rfl,rfl,rfl,fun _ _=>rfl⟩};{rename_i es cl es' cl' e1 e2;rw[e1] at e2;cases e2;exact .inr ⟨rfl,rfl⟩};{rfl}
structure Old (w w':World):Prop where
 kept:w.keptBut w' (fun _=>False)
 fz:∀a:Addr,a.block < w.heap.size→w'.frozen? a=w.frozen? a
 size:w.heap.size≤w'.heap.size
theorem Ext.HS{w w':World}{K K':Nat→Nat}{H':ab}{φ:Prop}(h:Ext φ w K KL w' K' H'):Old w w':=
 ⟨KM h.os h.output fun i hi=>(h.same i hi rfl).1,fun a hl=>by rw[World.frozen?,World.frozen?,(h.same a.block hl rfl).1],h.size⟩
theorem AaG{P:Program}{ν:Nat→Option Nat}{g n:Nat}{args:List HV}{us:List Value}{w:World}{K:Nat→Nat}(hn:pK ν n g)(hK:∀b,w.heap.size≤b→K b=0)(ht:yj ν K w)(hS:Spec P ν g args KL fun r _=>r=B true)(hr:aC ν K w args us) :
   Calls P n us.toArray w fun e w'=>e = .returned (.bool true)∧Old w w'∧RowKit.Below w.heap.size w w':=by
 refine(hS n hn w K us (Bw ν w K hK ht) hr).mono fun e w' ⟨u,h,H',K',e1,e2,e3,e4,e5⟩=>?_;subst e5;have:u = .bool true:=by simpa[rep] using e2
 subst this;exact⟨e1,e4.HS,⟨e4.os,e4.tape,e4.output,e4.size,fun k hk=>(e4.same k hk rfl).1⟩⟩
end Sm
