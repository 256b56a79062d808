/-
  Cl
-/
import Derived.Test.YtegmmhldpmmkeaaGreatDoorSmDC
import Derived.Shelf.SlIter.Collect
set_option linter.unusedVariables false
set_option linter.unusedSimpArgs false
namespace Sm
open Go Go.Proofs Go.Maps Go.RowKit Go.WideShapes
open Go.WideElems (Fit rd rg)
def Qa(P:Program)(n m:Nat):Prop:=∃kt:TypeId,P.underlying kt=some .string∧∀(R:Value→Option (DataW Unit×List MemPlace)) (w:World) (Bm b nn:Nat) (D0:DataW Unit),
 Bm < w.heap.size→w.cell? ⟨Bm,0,none⟩=some (.map (some b))→w.ownsMap P kt R b nn D0→Maps.size D0≤1048576 →
 Calls P n #[.func (.func m) #[] #[.pointer (some ⟨Bm,0,none⟩)]] w fun e w'=>∃(v:Value) (ss:List (List UInt8)),e = .returned v∧ss.Perm (strKeys D0)∧w'.ownsRow w.heap.size kt 1 v ss.length (ss.map encStr)∧Below w.heap.size w w'
theorem CS{ν:Nat→Option Nat}{K:Nat→Nat}{w:World}{α:Type}{key:α→List UInt8}{val:α→HV}:∀{l:List α} {st:List Nat} {us:List MapEntry},st.length=l.length→fh ν K w (sK key val l st) us →
   us.map (·.key)=l.map (fun a => .string ⟨(key a).toArray⟩)∧us.map (·.born)=st
 | [],[],us,_,h=>by simp[fh] at h;subst h;exact⟨rfl,rfl⟩
 | [],_::_,_,h,_=>by cases h
 | _::_,[],_,h,_=>by cases h
 | a::l,s::st,us,hl,h=>by
   obtain⟨u,dr,rfl,h1,h2⟩:=h;obtain⟨h3,h4⟩:=CS (by simpa using hl) h2
   exact⟨by simp only[List.map_cons,h3],by simp only[List.map_cons,h4]⟩
theorem wF{code:Nat→SF}(L:ai code){gk:Nat}(hs:∀nn,L.ν nn=some 90→∀mm,L.ν mm=some gk→Qa L.P nn mm)(c b:Nat)(l:List Nm)(H:ab)(K:HV→ab→Prop)(hc:H c=some (.obj [.v (.map (some b))]))(hM:PM H b l)(B2:l.length≤1048576)(z7:∀n∈l,n.path.length≤1048576)
   (hk:∀v ss X,ss.Perm (l.map Nm.path)→TS H X v ss→Fr [] H X→K v X):Spec L.P L.ν 90 [.fn gk [ptr c]] H K:=by
 intro nn Qb w Kk us ao hr;obtain⟨u1,L6,rfl,r1,hr⟩:=hr;simp only[aC] at hr;subst hr;simp only[rep] at r1;obtain⟨mm,L7,g1,rfl,g3⟩:=r1;obtain⟨u2,us2,rfl,r2,g4⟩:=g3;simp only[aC] at g4;subst g4;have r2':u2 = .pointer (some ⟨c,0,none⟩):=r2;subst r2';obtain⟨kt,Nr,Ac9⟩:=hs nn Qb.1 mm g1.1;obtain⟨vs,T,v1,v2,v3,v4⟩:=ao.res c _ hc;have Ada:=ao.lt hc;have dW:w.cell? ⟨c,0,none⟩=some (.map (some b)):=by
   obtain⟨u,dr,e1,e2,e3⟩:=v3;have uJ:u = .map (some b):=e2;subst uJ;have h0:vs.toList[0]? = some (.map (some b)):=by
     have:=congrArg (fun l:List Value=>l[0]?) e1;simpa[List.getElem?_take] using this
   simp only[World.cell?,v1,Option.isSome_none,Bool.false_eq_true,if_false];rw[←Array.getElem?_toList];exact h0
 obtain⟨m,hp,⟨⟨st,clk,ob,hl,rI,bN⟩,nd⟩⟩:=hM;obtain⟨es,m1,m2,m3⟩:=ao.res b _ ob;obtain⟨k1,k2⟩:=CS hl m3
 let R:Value→Option (DataW Unit×List MemPlace):=fun _=>some (.nil,[])
 have hlen:es.toList.length=m.length:=by have:=congrArg List.length k1;simpa using this
 have Jv:∀x∈m,x.path.length≤maxLen:=fun x hx=>by
   have:=z7 x (hp.mem_iff.mp hx);have e:maxLen=9223372036854775807:=by decide
   omega
 have P2:∀x∈es.toList,∃a∈m,x.key = .string ⟨a.path.toArray⟩:=fun x hx=>by
   have:x.key∈es.toList.map (·.key):=List.mem_map_of_mem hx
   rw[k1] at this;obtain⟨a,ha,he⟩:=List.mem_map.mp this;exact⟨a,ha,he.symm⟩
 have Adb:∀(p:List UInt8),p.length≤maxLen→keyOf L.P kt (.string ⟨p.toArray⟩)=some (.string p):=fun p h=>by
   simp only[keyOf,Nr,mapKey];rw[if_pos (by simpa[ByteArray.size] using h)]
 have Aar:∀x∈es.toList,∀a∈m,x.key = .string ⟨a.path.toArray⟩→rd (H:=Unit) L.P kt R x=some (.string a.path,.nil):=fun x _ a ha he=>by
   unfold rd;rw[he,Adb _ (Jv a ha)];rfl
 have pM:Fit L.P kt R es clk:=by
   refine⟨?_,⟨fun x hx=>?_,?_,?_⟩,fun x hx=>?_⟩
   · rw[←Array.length_toList,hlen,hp.length_eq];have e:maxLen=9223372036854775807:=by decide
     omega
   · have:x.born∈es.toList.map (·.born):=List.mem_map_of_mem hx
     rw[k2] at this;exact bN _ this
   · rw[k2];exact rI
   · rw[k1];have:=nd;rw[List.Nodup,List.pairwise_map] at this ⊢;refine this.imp fun eJ he=>eJ ?_;simpa using he
   · obtain⟨a,ha,he⟩:=P2 x hx;exact⟨_,Aar x hx a ha he⟩
 have Adc:w.ownsMap L.P kt R b es.size (.map ((es.toList.map (rg L.P kt R)).foldr DataW.insert [])):=⟨es,clk,m1,pM,Nat.le_refl _,rfl⟩;have hrg:es.toList.map (fun x=>strOf (rg (H:=Unit) L.P kt R x).1)=m.map Nm.path:=by
   have e1:es.toList.map (fun x=>strOf (rg (H:=Unit) L.P kt R x).1)=es.toList.map (fun x=>match x.key with | .string s=>s.data.toList | _=>[]):=by
     refine List.map_congr_left fun x hx=>?_;obtain⟨a,ha,he⟩:=P2 x hx;unfold rg;rw[Aar x hx a ha he,he];simp[strOf]
   rw[e1];have:=congrArg (List.map (fun k:Value=>match k with | .string s=>s.data.toList | _=>[])) k1
   rw[List.map_map,List.map_map] at this;refine this.trans ?_;refine List.map_congr_left fun a _=>?_;simp
 have vc:(strKeys (.map ((es.toList.map (rg (H:=Unit) L.P kt R)).foldr DataW.insert []))).Perm (l.map Nm.path):=by
   show ((List.foldr DataW.insert [] _).map fun p=>strOf p.1).Perm _;refine((sorted_perm _).map _).trans ?_;rw[List.map_map];have e:(fun p:Lit×DataW Unit=>strOf p.1)∘rg L.P kt R=fun x=>strOf (rg (H:=Unit) L.P kt R x).1:=rfl;rw[e,hrg];exact hp.map _
 have qI:Maps.size (.map ((es.toList.map (rg (H:=Unit) L.P kt R)).foldr DataW.insert []))≤1048576:=by
   show (List.foldr DataW.insert [] _).length≤_;rw[(sorted_perm _).length_eq,List.length_map,hlen,hp.length_eq];exact B2
 refine(Ac9 R w c b es.size _ Ada dW Adc qI).mono ?_;rintro e w' ⟨v,ss,rfl,hss,UT,nM⟩;have Aas:=hss.trans vc;have hblk:∀a r,H a=some r→w'.heap[a]? = w.heap[a]? := fun a r ha=>nM.block a (ao.lt ha);have hg:Grow w Kk w' Kk:=⟨fun _=>Nat.le_refl _,fun a j hj=>by
   have Ma:a < w.heap.size:=by
     rcases Nat.lt_or_ge a w.heap.size with h | h;{exact h};{rw[ao.fresh a h] at hj;omega}
   simp only[World.cell?,nM.block a Ma],fun a ha=>by
   have Ma:a < w.heap.size:=by
     rcases Nat.lt_or_ge a w.heap.size with h | h;{exact h};{rw[ao.fresh a h] at ha;omega}
   exact cS (nM.block a Ma)⟩
 have hq:¬quiet L.ν:=fun h=>h nn Qb.1;rcases UT.2 with⟨rfl,h0⟩ | ⟨g,cap,cur,rfl,hgb,hgh,HW,A5,hc3,hc4⟩;{have so:ss=[]:=List.eq_nil_of_length_eq_zero h0;subst so;exact⟨_,.v (.slice none 0 0),H,Kk,rfl,by simp[rep],⟨fun a r ha=>(ao.res a r ha).move hg (hblk a r ha) rfl,fun a ha=>ao.fresh a (Nat.le_trans nM.size ha),ao.qD.grow hg⟩,⟨nM.os,nM.tape,nM.output,nM.size,fun h=>absurd h hq,hg,fun a ha hh=>⟨nM.block a ha,rfl,hh⟩⟩,hk _ [] H Aas (.inl ⟨rfl,rfl⟩) (Fr.refl _ _)⟩}
 · have hHg:=ao.c9 hgb;have hX:(H.bt g (some (.obj (ss.map S)))) g=some (.obj (ss.map S)):=ab.aB _ _ _;refine⟨_,.v (.slice (some ⟨g,0,none⟩) ss.length cap),H.bt g (some (.obj (ss.map S))),Kk,rfl,by simp[rep],⟨fun a r ha=>?_,fun a ha=>ao.fresh a (Nat.le_trans nM.size ha),ao.qD.grow hg⟩,⟨nM.os,nM.tape,nM.output,nM.size,fun h=>absurd h hq,hg,fun a ha hh=>⟨nM.block a ha,rfl,?_⟩⟩,hk _ ss _ Aas (.inr ⟨g,cap,[],rfl,by rw[List.append_nil];exact hX,HW,A5,hHg⟩) (Fr.new hHg)⟩
   · by_cases wG:a=g
     · subst wG;rw[hX] at ha;cases ha;refine⟨cur,_,hgh,ao.fresh _ hgb,?_,?_⟩;{rw[sL,List.length_map];simpa using hc4};{rw[List.all_eq_true];intro x hx;obtain⟨y,_,rfl⟩:=List.mem_map.mp hx;rfl}
     · rw[ab.cK _ _ wG] at ha;exact(ao.res a r ha).move hg (hblk a r ha) rfl
   · have wG:a≠g:=by rintro rfl;omega
     rw[ab.cK _ _ wG];exact hh
end Sm
