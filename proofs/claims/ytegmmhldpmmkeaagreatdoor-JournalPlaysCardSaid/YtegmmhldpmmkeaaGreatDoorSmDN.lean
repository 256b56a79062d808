/-
  D42,D43,D39,D44
-/
import Derived.Test.YtegmmhldpmmkeaaGreatDoorSmDF
set_option linter.unusedVariables false
set_option linter.unusedSimpArgs false
set_option maxHeartbeats 2000000
namespace Sm
open Go
def zz:List UInt8:=[122,122]
structure AaD (d:Dk):Prop where
 fa:d.aD = -1
 wr:d.aE = -1
 dn:d.down=false
structure Zs (d:Dk) (n m t i:Nat) (x:Fl):Prop where
 wf:d.WF n m
 tr:d.Tr
 cl:AaD d
 rm:d.room=100000
 tt:tot d.f≤t
 nm:∃y,bG d.now zz=some y∧y.dir=false∧y.id=i
 fx:d.f[i]? = some x
theorem Zs.file{d:Dk}{n m t i:Nat}{x:Fl}(h:Zs d n m t i x):bZ d.now zz=0∧mc d.now zz=i∧d.f.getD i default=x∧i < d.f.length:=by
 obtain⟨y,h1,h2,h3⟩:=h.nm;refine⟨by unfold bZ;rw[h1];simp[h2],by unfold mc;rw[h1];exact h3,by simp[h.fx],?_⟩
 exact(List.getElem?_eq_some_iff.mp h.fx).1
end Sm
set_option maxRecDepth 10000
namespace Sm
open Go
def GvK(Q:HV→ab→Prop):HV→ab→Prop:=fun r X=>Q r X∨(∃r',an r r'∧Q r' X)∨∃b cs r',X b=some (.obj cs)∧FW b cs r r'∧Q r' (X.bt b none)
def Wc(Q:HV→ab→Prop):Nat→HV→ab→Prop
 | 0=>Q
 | n+1=>GvK (Wc Q n)
theorem Spec.Qm{P:Program}{ν:Nat→Option Nat}{g:Nat}{args:List HV}{H:ab}{Q:HV→ab→Prop}:∀n,Spec P ν g args H (Wc Q n)→Spec P ν g args H Q
 | 0,h=>h
 | n+1,h=>Spec.Qm n (Spec.dB h)
theorem kh.AaA{b:Nat}{cs:List HV}:∀{x y z u:List HV},kh b cs x y→kh b cs z u→kh b cs (x++z) (y++u)
 | [],[],_,_,_,h=>h
 | x::a,y::b,_,_,h,k=>⟨h.1,kh.AaA h.2 k⟩
 | [],_::_,_,_,h,_=>h.elim
 | _::_,[],_,_,h,_=>h.elim
theorem wT{H:ab}{Q:HV→ab→Prop}:∀(im:List Eo) (pre:List HV) (X:ab),(∀y∈pre,y.el=true∧y.aN=3)→EB H X im→ED im→Fr [] H X →
   (∀X',Fr [] H X'→Q (.sl .no 3 (pre++(im.map Eo.e).map dX)) X')→Wc Q im.length (.sl .no 3 (pre++im.map iH)) X
 | [],pre,X,hp,he,hd,hf,hk=>hk X hf
 | x::im,pre,X,hp,he,hd,hf,hk=>by
   have hd2:=List.pairwise_cons.mp hd;have hx:=he x (by simp)
   have Vd:EB H X im:=fun y hy=>he y (by simp[hy])
   have Qn:∀y∈pre++[dX x.e],y.el=true∧y.aN=3:=fun y hy=>by
     rcases List.mem_append.mp hy with hy | hy;{exact hp y hy};{rw[List.mem_singleton] at hy;subst hy;exact⟨rfl,rfl⟩}
   have gG:∀X',Fr [] H X'→Q (.sl .no 3 ((pre++[dX x.e])++(im.map Eo.e).map dX)) X':=fun X' h=>by
     rw[List.append_assoc];exact hk X' h
   have yI:∀y∈im.map iH,y.el=true∧y.aN=3:=fun y hy=>by
     obtain⟨z,hz,rfl⟩:=List.mem_map.mp hy;refine⟨?_,rfl⟩;have:=(Vd z hz).1.one;show ([S z.e.path,B z.e.dir,z.v].all HV.one)=true;simp only[List.all_cons,this.1];rfl
   have gO:∀y∈pre++dX x.e::im.map iH,y.el=true∧y.aN=3:=fun y hy=>by
     rcases List.mem_append.mp hy with hy | hy;{exact hp y hy};{rcases List.mem_cons.mp hy with rfl | hy;{exact⟨rfl,rfl⟩};{exact yI y hy}}
   have AaB:pre++dX x.e::im.map iH=(pre++[dX x.e])++im.map iH:=by simp
   show GvK (Wc Q im.length) _ X;have yJ:an x.v (.sl .no 1 (x.e.data.map U))→GvK (Wc Q im.length) (.sl .no 3 (pre++iH x::im.map iH)) X:=fun hw=>by
     refine .inr (.inl ⟨.sl .no 3 (pre++dX x.e::im.map iH),?_,?_⟩);{refine an.els (bo.app (bo.refl _) (show bo (iH x::im.map iH) (dX x.e::im.map iH) from⟨show an (.ag [S x.e.path,B x.e.dir,x.v]) (.ag [S x.e.path,B x.e.dir,.sl .no 1 (x.e.data.map U)]) from an.ag ⟨an.refl _,an.refl _,hw,T_⟩ rfl,bo.refl _⟩)) ?_ fun y hy=>(gO y hy).2;rw[List.all_eq_true];exact fun y hy=>(gO y hy).1};{rw[AaB];exact wT im _ X Qn Vd hd2.2 hf gG}
   rcases hx.1 with⟨hv,hl⟩ | ⟨hv,hl⟩ | ⟨a,c,zs,hv,h1,h2,h3,h4⟩;{rw[List.map_cons];exact yJ (by rw[hv,hl];exact an.dO 1)};{rw[List.map_cons];exact yJ (by rw[hv,hl];exact an.drop _ _ _)}
   · have NZ:=hx.2 a (by rw[hv];simp[eI])
     refine .inr (.inr ⟨a,_,.sl .no 3 (pre++dX x.e::im.map iH),h1,?_,?_⟩)
     · refine FW.sl (kh.AaA (kh.refl _ _ _) (show kh a _ (iH x::im.map iH) (dX x.e::im.map iH) from⟨FW.ag (xs:=cO x) (ys:=[S x.e.path,B x.e.dir,.sl .no 1 (x.e.data.map U)]) ⟨FW.refl _ _ _,FW.refl _ _ _,?_,T_⟩ rfl,kh.refl _ _ _⟩)) ?_ fun y hy=>(gO y hy).2
       · rw[hv];refine FW.slice (sz:=1) (es:=x.e.data.map U) ?_ ?_ (by simp) h2 h3 ?_ ?_
         · rw[oh,List.take_append_of_le_length (by simp),List.take_of_length_le (by simp)]
         · simp
         · rw[List.all_eq_true];intro y hy;obtain⟨z,_,rfl⟩:=List.mem_map.mp hy;rfl
         · intro y hy;obtain⟨z,_,rfl⟩:=List.mem_map.mp hy;rfl
       · rw[List.all_eq_true];exact fun y hy=>(gO y hy).1
     · rw[AaB];refine wT im _ _ Qn (fun y hy=>⟨(Vd y hy).1.fr (bs:=[a]) (Fr.set (by simp)) fun z hz hm=>?_,(Vd y hy).2⟩) hd2.2 (Fr.dB hf NZ) gG
       rw[List.mem_singleton] at hm;subst hm;exact hd2.1 y hy z (by rw[hv];simp[eI]) hz
attribute [local irreducible] aH aj aX bk aA aL bn DK RK JK BR G3 bh Spec Tok Fr CV GA YB w1 w2 w3 w4 w5 w6 g1 g2
theorem yK(L:ai code)(C:Cl L)(b:Nat)(h:Hd)(d:Dk)(n m:Nat)(hw:d.WF n m)(hn:n < 1048576)(hm:m≤140737488355328)(H:ab)(hD:KD H b h d)(K)(hk:∀X,Fr [] H X→K (.sl .no 3 (d.list.map dX)) X):Spec L.P L.ν 312 [ptr b] H K:=by
 refine Spec.Qm d.list.length ?_;refine od L C b h d n m hw hn hm H hD _ fun im X hM hE ZJ hf=>?_;have hl:d.list.length=im.length:=by rw[←hM,List.length_map]
 rw[hl];have:=wT (Q:=K) im [] X (by simp) hE ZJ hf (by rw[hM];exact hk)
 simpa using this
end Sm
namespace Sm
open Go
theorem FW.tu{b:Nat}{cs xs ys:List HV}(h:kh b cs xs ys):FW b cs (.tu xs) (.tu ys):=fun ν K w u f hr=>by
 simp only[Sm.rep] at hr ⊢;obtain⟨us,e,h3⟩:=hr;exact⟨us,e,h.rep f h3⟩
structure Zd (d:Dk):Prop where
 wf:d.WF 52 4000
 tr:d.Tr
 cl:AaD d
 rm:d.room=100000
 tt:tot d.f≤4000
 zz:(∃i x,Zs d 52 4000 4000 i x)∨bG d.now zz=none
attribute [local irreducible] aH aj aX bk aA aL bn DK RK JK BR G3 bh Spec Tok Fr CV GA YB w1 w2 w3 w4 w5 w6 g1 g2
theorem yL(L:ai code)(b:Nat)(h:Hd)(d:Dk)(p:List UInt8)(n m:Nat)(hw:d.WF n m)(hm:m≤140737488355328)(H:ab)(hD:KD H b h d)(K)(hk:∀X,Fr [] H X→K (.tu [.sl .no 1 ((d.read p).1.map U),I (d.read p).2]) X):Spec L.P L.ν 300 [ptr b,S p] H K:=by
 refine Spec.dB ?_;refine Be L b h d p n m hw hm H hD _ fun v X hC f hn=>?_;rcases hC with⟨rfl,hl⟩ | ⟨rfl,hl⟩ | ⟨a,c,zs,rfl,h1,h2,h3,h4⟩;{rw[hl] at hk;exact .inr (.inl ⟨_,an.tu (show bo [.v (.slice none 0 0),I (d.read p).2] [.sl .no 1 (([]:List UInt8).map U),I (d.read p).2] from⟨an.dO 1,an.refl _,T_⟩),hk X f⟩)};{rw[hl] at hk;exact .inr (.inl ⟨_,an.tu (show bo [.sl .full 1 [],I (d.read p).2] [.sl .no 1 (([]:List UInt8).map U),I (d.read p).2] from⟨an.drop _ _ _,an.refl _,T_⟩),hk X f⟩)}
 · refine .inr (.inr ⟨a,_,.tu [.sl .no 1 ((d.read p).1.map U),I (d.read p).2],h1,FW.tu ⟨FW.slice (sz:=1) (es:=(d.read p).1.map U) ?_ ?_ (by simp) h2 h3 ?_ ?_,FW.refl _ _ _,T_⟩,hk _ (Fr.dB f (hn a (by simp[eI])))⟩)
   · rw[oh,List.take_append_of_le_length (by simp),List.take_of_length_le (by simp)]
   · simp
   · rw[List.all_eq_true];intro y hy;obtain⟨z,_,rfl⟩:=List.mem_map.mp hy;rfl
   · intro y hy;obtain⟨z,_,rfl⟩:=List.mem_map.mp hy;rfl
end Sm
