/-
  D26,D27,D28,D29,D30,D31,D32
-/
import Derived.Test.YtegmmhldpmmkeaaGreatDoorSmDD
import Derived.Test.YtegmmhldpmmkeaaGreatDoorSmLJ
set_option linter.unusedVariables false
set_option linter.unusedSimpArgs false
set_option maxRecDepth 10000
set_option maxHeartbeats 1000000
namespace Sm
open Go
theorem idZ(l:List Nm)(p:List UInt8):(yD (bG l p)).id=mc l p:=by
 unfold mc yD;cases bG l p<;>rfl
theorem wO{d:Dk}{n m:Nat}(hw:d.WF n m){p:List UInt8}(h:bZ d.now p=0):mc d.now p < d.f.length:=by
 unfold bZ at h;unfold mc;cases hg:bG d.now p with
 | none=>rw[hg] at h;cases h
 | some x =>
   rw[hg] at h;cases hd:x.dir;{exact(hw.ei x (dN hg).1).2.1 hd};{simp[hd] at h}
attribute [local irreducible] aH aj aX bk aA aL bn DK RK JK BR G3 bh Spec Tok Fr CV GA
theorem Bp(L:ai code)(d:Dk)(n m:Nat)(hw:d.WF n m)(hn:n < 1048000)(qM:n*m≤1152921504606846976):aU L 347 [ec d] (I d.used):=by
 intro H K hk;have hlen:=hw.eT;rw[wP] at hk;have mo:=hw.ei;refine ah L DM rfl ?_;refine K_ aY ?_;refine gj L d n m hw hn H _ fun X1 f1=>?_;generalize d.now=l at *;refine J_ aY ?_;refine aV (ak L) (fun(q:Nat)=>[(1,.lp 0 0),(3,.h (I ((l.take q).map (uK d.f)).sum)),(4,.h (.sl .no 3 (l.map du))),(5,.h (I q))]) (fun _=>[(0,[I d.room,.sl .no 3 (d.sure.map du),.sl .no 2 (d.loose.map pX),.sl .no 2 (d.f.map fP),B d.down,I d.ops,I d.aD,B d.done,I d.aE])])
   (fun q X=>q≤l.length∧X=X1) (fun q=>l.length - q) 0 ?_ ⟨by simp,rfl⟩ ?_
 · exact E_
 rintro k X ⟨gF,rfl⟩;refine J_ aY ?_;(refine ct aY ?_ ?_<;>intro h2)
 · have ja:k < l.length:=by simpa using h2
   have oz:((l.take (k+1)).map (uK d.f)).sum=((l.take k).map (uK d.f)).sum+uK d.f l[k]:=by
     rw[List.take_succ_eq_append_getElem ja,List.map_append,List.sum_append];simp
   have lL:((l.take k).map (uK d.f)).sum+uK d.f l[k]≤1152921504606846976:=by
     rw[←oz];refine Nat.le_trans (wQ _ m fun x _=>Bq hw x) (Nat.le_trans (Nat.mul_le_mul_right m ?_) qM);rw[List.length_take];omega
   have NT:=(mo _ (List.getElem_mem ja)).2.1;have B2:l.length=l.length:=rfl;obtain⟨x,hx⟩:∃x,x=l[k]:=⟨_,rfl⟩;have OQ:(l.map du)[k]? = some (du x):=by rw[hx];exact gZ ja
   rw[←hx] at oz lL NT;have OQ:(l.map du)[k]? = some (du x):=by rw[hx];exact gZ ja
   generalize ((l.take k).map (uK d.f)).sum=s at *;refine J_ aY ?_;rw[←hx];cases c1:x.dir
   case true =>
     have hz:uK d.f x=0:=by simp[uK,c1]
     try simp only[Bool.not_true]
     refine J_ aY ?_;refine dG (k+1) (by omega) ⟨by omega,rfl⟩ ?_
     rw[oz,hz,Nat.add_zero];exact E_
   have bN:=NT c1;have hz:uK d.f x=d.f[x.id].b.length:=by simp[uK,c1,bN]
   rw[hz] at lL;rw[hz] at oz
   try simp only[Bool.not_false]
   have Ad7:∀{k':Nat} (h:k' < l.length),l[k']=l[k']:=fun _=>rfl;subst hx;refine J_ aY ?_;refine dG (k+1) (by omega) ⟨by omega,rfl⟩ ?_
   rw[oz];exact E_
 have ja:k=l.length:=by
   have:¬k < l.length:=by simpa using h2
   omega
 subst ja;rw[List.take_length];refine J_ aY ?_;exact aa (hk X f1)
theorem wR(L:ai code)(d:Dk)(p b:List UInt8)(hp:p.length≤1048576)(n m:Nat)(hw:d.WF n m)(hn:n < 1048000)(qM:n*m≤1152921504606846976)(hm:m+b.length≤140737488355328):aU L 321 [ec d,S p,.sl .no 1 (b.map U)] (.tu [ec (d.append p b).1,I (d.append p b).2]):=by
 intro H K hk;unfold Dk.append Dk.jv at hk;have gA:=hw.fl;have NR:=hw.len;refine ah L DN rfl ?_;refine K_ aY ?_;refine gl L d p hp H _ fun X1 f1=>?_;cases c1:d.asked p != 0
 case true =>
   rw[if_pos (by simpa using c1)] at hk
   repeat (refine gk (And.intro aY c1) ?_)
   exact aa (hk X1 f1)
 rw[if_neg (by simpa using c1)] at hk
 repeat (refine gk (And.intro aY c1) ?_)
 (apply af;rfl);refine iq L d p n m hw hn X1 _ fun X2 f2=>?_;have AQ:=f1.trans f2;have hid:=idZ d.now p;cases c2:bZ d.now p != 0
 case true =>
   rw[if_pos (by simpa using c2)] at hk
   repeat (refine gk (And.intro aY c2) ?_)
   exact aa (hk X2 AQ)
 have bN:=wO hw (p:=p) (by simpa using c2)
 rw[if_neg (by simpa using c2)] at hk
 rw[←hid] at hk bN;generalize yD (bG d.now p)=x at *;rw[getD_at bN] at hk;dsimp only at hk;have da:=hw.sz _ (List.getElem_mem bN);have hrm:=hw.rm;have HX:=CW hw
 repeat (refine gk (And.intro aY c2) ?_)
 (apply af;rfl);refine Bp L d n m hw hn qM X2 _ fun X3 f3=>?_;have Jz:=AQ.trans f3;refine J_ aY ?_;cases c3:decide (d.room - (d.used:Int) < (b.length:Int))
 case true =>
   rw[if_pos (by simpa using c3),if_pos (by simpa using c3)] at hk
   refine J_ aY ?_;exact aa (hk X3 Jz)
 rw[if_neg (by simpa using c3)] at hk
 refine J_ aY ?_;apply KA;rfl;rfl;(focus omega);refine K_ aY ?_;refine pY L d x.id ⟨d.f[x.id].b++b,d.f[x.id].safe⟩ bN (by omega) X3 _ fun X4 f4=>?_
 refine K_ aY ?_;refine eF L d _ n m hw hn X4 _ fun X5 f5=>?_;refine J_ aY ?_;exact aa (hk X5 ((Jz.trans f4).trans f5))
theorem vp(L:ai code)(d:Dk)(p:List UInt8)(k:Int)(hp:p.length≤1048576)(n m:Nat)(hw:d.WF n m)(hn:n < 1048000)(hm:m≤140737488355328):aU L 322 [ec d,S p,I k] (.tu [ec (d.cut p k).1,I (d.cut p k).2]):=by
 intro H K hk;unfold Dk.cut Dk.jv at hk;have gA:=hw.fl;have NR:=hw.len;refine ah L DO rfl ?_;refine K_ aY ?_;refine gl L d p hp H _ fun X1 f1=>?_;cases c1:d.asked p != 0
 case true =>
   rw[if_pos (by simpa using c1)] at hk
   repeat (refine gk (And.intro aY c1) ?_)
   exact aa (hk X1 f1)
 rw[if_neg (by simpa using c1)] at hk
 repeat (refine gk (And.intro aY c1) ?_)
 (apply af;rfl);refine iq L d p n m hw hn X1 _ fun X2 f2=>?_;have AQ:=f1.trans f2;have hid:=idZ d.now p;cases c2:bZ d.now p != 0
 case true =>
   rw[if_pos (by simpa using c2)] at hk
   repeat (refine gk (And.intro aY c2) ?_)
   exact aa (hk X2 AQ)
 have bN:=wO hw (p:=p) (by simpa using c2)
 rw[if_neg (by simpa using c2)] at hk
 rw[←hid] at hk bN;generalize yD (bG d.now p)=x at *;rw[getD_at bN] at hk;dsimp only at hk;have da:=hw.sz _ (List.getElem_mem bN)
 repeat (refine gk (And.intro aY c2) ?_)
 cases c3:decide (k < 0)
 case true =>
   have hc:k < 0∨k > (d.f[x.id].b.length:Int):=.inl (by simpa using c3)
   rw[if_pos (by rw[if_pos hc];decide),if_pos hc] at hk
   refine J_ aY ?_;exact aa (hk X2 AQ)
 refine J_ aY ?_;cases c4:decide ((d.f[x.id].b.length:Int) < k)
 case true =>
   have hc:k < 0∨k > (d.f[x.id].b.length:Int):=.inr (by simpa using c4)
   rw[if_pos (by rw[if_pos hc];decide),if_pos hc] at hk
   refine J_ aY ?_;exact aa (hk X2 AQ)
 have UY:0≤k∧k≤d.f[x.id].b.length:=by simp at c3 c4;omega
 have hc:¬(k < 0∨k > (d.f[x.id].b.length:Int)):=by omega
 rw[if_neg (by rw[if_neg hc];decide)] at hk
 obtain⟨j,rfl⟩:∃j:Nat,k=j:=⟨k.toNat,by omega⟩
 rw[Int.toNat_natCast] at hk;have hmn:min (j:Int) (d.f[x.id].safe:Int)=((min j d.f[x.id].safe:Nat):Int):=by omega
 refine J_ aY ?_;rw[hmn];refine K_ aY ?_;refine pY L d x.id ⟨d.f[x.id].b.take j,min j d.f[x.id].safe⟩ bN (by omega) X2 _ fun X4 f4=>?_
 refine K_ aY ?_;refine eF L d _ n m hw hn X4 _ fun X5 f5=>?_;refine J_ aY ?_;exact aa (hk X5 ((AQ.trans f4).trans f5))
theorem ta(L:ai code)(d:Dk)(p:List UInt8)(hp:p.length≤1048576)(n m:Nat)(hw:d.WF n m)(hn:n < 1048000)(hm:m≤140737488355328):aU L 323 [ec d,S p] (.tu [ec (d.sync p).1,I (d.sync p).2]):=by
 intro H K hk;unfold Dk.sync Dk.jv at hk;have gA:=hw.fl;have NR:=hw.len;refine ah L DP rfl ?_;refine K_ aY ?_;refine gl L d p hp H _ fun X1 f1=>?_;cases c1:d.asked p != 0
 case true =>
   rw[if_pos (by simpa using c1)] at hk
   repeat (refine gk (And.intro aY c1) ?_)
   exact aa (hk X1 f1)
 rw[if_neg (by simpa using c1)] at hk
 repeat (refine gk (And.intro aY c1) ?_)
 (apply af;rfl);refine iq L d p n m hw hn X1 _ fun X2 f2=>?_;have AQ:=f1.trans f2;have hid:=idZ d.now p;cases c2:bZ d.now p != 0
 case true =>
   rw[if_pos (by simpa using c2)] at hk
   repeat (refine gk (And.intro aY c2) ?_)
   exact aa (hk X2 AQ)
 have bN:=wO hw (p:=p) (by simpa using c2)
 rw[if_neg (by simpa using c2)] at hk
 rw[←hid] at hk bN;generalize yD (bG d.now p)=x at *;rw[getD_at bN] at hk;dsimp only at hk;have da:=hw.sz _ (List.getElem_mem bN);rw[if_neg (by decide)] at hk
 repeat (refine gk (And.intro aY c2) ?_)
 (apply af;rfl);refine pY L d x.id ⟨d.f[x.id].b,d.f[x.id].b.length⟩ bN (by omega) X2 _ fun X4 f4=>?_
 refine K_ aY ?_;refine eF L d _ n m hw hn X4 _ fun X5 f5=>?_;refine J_ aY ?_;exact aa (hk X5 ((AQ.trans f4).trans f5))
end Sm
namespace Sm
open Go
attribute [local irreducible] aH aj aX bk aA aL bn DK RK JK BR G3 bh Spec Tok Fr CV GA
theorem nP(L:ai code)(d:Dk)(p:List UInt8)(hp:p.length≤1048576)(n m:Nat)(hw:d.WF n m)(hn:n < 1048000):aU L 325 [ec d,S p] (.tu [ec (d.remove p).1,I (d.remove p).2]):=by
 intro H K hk;unfold Dk.remove at hk;have NR:=hw.len;have Va:=hw.eT;have mo:=hw.ei;refine ah L DQ rfl ?_;refine K_ aY ?_;refine gl L d p hp H _ fun X1 f1=>?_;cases c1:d.asked p != 0
 case true =>
   rw[if_pos (by simpa using c1)] at hk
   repeat (refine gk (And.intro aY c1) ?_)
   exact aa (hk X1 f1)
 rw[if_neg (by simpa using c1)] at hk
 repeat (refine gk (And.intro aY c1) ?_)
 (apply af;rfl);refine eE L d p n m hw hn X1 _ fun X2 f2=>?_;have AQ:=f1.trans f2;cases c2:bG d.now p with
 | none =>
   rw[c2] at hk;simp only[yD,Option.getD,Option.isSome] at hk ⊢;refine J_ aY ?_;exact aa (hk X2 AQ)
 | some x =>
   rw[c2] at hk;simp only[yD,Option.getD,Option.isSome] at hk ⊢;refine K_ aY ?_;refine gj L d n m hw hn X2 _ fun X3 f3=>?_;have Jz:=AQ.trans f3;generalize d.now=l at *;refine J_ aY ?_;refine aV (ak L) (fun(q:Nat)=>[(1,.h (S p)),(2,.lp 0 0),(4,.lp 1 0),(5,.h (I 0)),(7,.lp 2 0),(9,.h (.sl .no 3 (l.map du))),(10,.h (I q))]) (fun _=>[(0,[I d.room,.sl .no 3 (d.sure.map du),.sl .no 2 (d.loose.map pX),.sl .no 2 (d.f.map fP),B d.down,I d.ops,I d.aD,B d.done,I d.aE]),(1,[I 0,.v (.slice none 0 0),.v (.slice none 0 0),.v (.slice none 0 0),B false,I 0,I 0,B false,I 0]),(2,[S x.path,B x.dir,I x.id])])
     (fun q X=>q≤l.length∧X=X3∧∀y∈l.take q,(fJ y.path==p)=false) (fun q=>l.length - q) 0 ?_ ⟨by simp,rfl,by simp⟩ ?_
   · exact E_
   rintro k X ⟨gF,rfl,gO⟩;refine J_ aY ?_;(refine ct aY ?_ ?_<;>intro h2)
   · have ja:k < l.length:=by simpa using h2
     have hs:=List.take_succ_eq_append_getElem ja;have Jv:=mi (mo _ (List.getElem_mem ja)).2.2;refine K_ aY ?_;refine oK L l[k].path (by omega) _ _ ?_
     refine J_ aY ?_;cases c3:fJ l[k].path==p
     case true =>
       have jJ:l.any (fun n=>fJ n.path==p)=true:=List.any_eq_true.mpr ⟨_,List.getElem_mem ja,c3⟩;rw[jJ,if_pos rfl] at hk;refine J_ aY ?_;exact aa (hk X Jz)
     refine J_ aY ?_;refine dG (k+1) (by omega) ⟨by omega,rfl,fun y hy=>?_⟩ ?_
     · rw[hs] at hy;rcases List.mem_append.mp hy with hy | hy;{exact gO y hy};{rw[List.mem_singleton] at hy;subst hy;exact c3}
     · exact E_
   have ja:k=l.length:=by
     have:¬k < l.length:=by simpa using h2
     omega
   subst ja;rw[List.take_length] at gO;have jJ:l.any (fun n=>fJ n.path==p)=false:=by
     rw[List.any_eq_false];intro y hy;rw[gO y hy];decide
   rw[jJ,if_neg (by decide)] at hk
   refine K_ aY ?_;refine eM (eP:=[ec d,.sl .no 3 ((di.rm x).gone.map du),.sl .no 3 ((di.rm x).cN.map du)]) (show bo [ec d,.sl .full 3 [du x],.v (.slice none 0 0)] _ from⟨an.refl _,an.drop _ _ _,an.dO 3,T_⟩) ?_;refine gC L d (.rm x) (by omega) X _ fun X4 f4=>?_
   refine K_ aY ?_;refine eF L d _ n m hw hn X4 _ fun X5 f5=>?_;refine J_ aY ?_;exact aa (hk X5 ((Jz.trans f4).trans f5))
theorem mw(L:ai code)(d:Dk)(n m:Nat)(hw:d.WF n m)(hn:n < 1048000):aU L 327 [ec d] (.tu [ec d.aM.1,I d.aM.2]):=by
 intro H K hk;unfold Dk.aM at hk;refine ah L DT rfl ?_;refine J_ aY ?_;(refine ct aY ?_ ?_<;>intro c1);{rw[if_pos c1] at hk;refine J_ aY ?_;exact aa (hk H (Fr.refl _ _))};rw[if_neg (by simp[c1])] at hk
 refine K_ aY ?_;refine gj L d n m hw hn H _ fun X1 f1=>?_;refine K_ aY ?_;refine eM (eP:=[ec d,ec { d with sure:=d.now,loose:=[] }]) (show bo [ec d,.ag [I d.room,.sl .no 3 (d.now.map du),.v (.slice none 0 0),.sl .no 2 (d.f.map fP),B d.down,I d.ops,I d.aD,B d.done,I d.aE]] _ from⟨an.refl _,QH (d:={ d with sure:=d.now,loose:=[] }) (an.refl _) (an.dO 2) (an.refl _),T_⟩) ?_;refine eF L d _ n m hw hn X1 _ fun X5 f5=>?_;refine J_ aY ?_;exact aa (hk X5 (f1.trans f5))
theorem Br(L:ai code)(d:Dk)(k:Int)(t:Bool):aU L 328 [ec d,I k,B t] (.tu [ec (d.fail k t).1,I (d.fail k t).2]):=by
 intro H K hk;unfold Dk.fail at hk;refine ah L DU rfl ?_;refine J_ aY ?_;(refine ct aY ?_ ?_<;>intro c1);{rw[if_pos c1] at hk;refine J_ aY ?_;exact aa (hk H (Fr.refl _ _))};rw[if_neg (by simp[c1])] at hk
 refine J_ aY ?_;cases c2:decide (k < 0)
 case true =>
   rw[if_pos (by simpa using c2)] at hk
   refine J_ aY ?_;exact aa (hk H (Fr.refl _ _))
 rw[if_neg (by simpa using c2)] at hk
 refine J_ aY ?_;exact aa (hk H (Fr.refl _ _))
theorem yG(L:ai code)(d:Dk)(k:Int):aU L 319 [ec d,I k] (.tu [ec (d.fault k).1,I (d.fault k).2]):=by
 intro H K hk;unfold Dk.fault at hk;refine ah L DV rfl ?_;refine J_ aY ?_;(refine ct aY ?_ ?_<;>intro c1);{rw[if_pos c1] at hk;refine J_ aY ?_;exact aa (hk H (Fr.refl _ _))};rw[if_neg (by simp[c1])] at hk
 refine J_ aY ?_;cases c2:decide (k < 0)
 case true =>
   rw[if_pos (by simpa using c2)] at hk
   refine J_ aY ?_;exact aa (hk H (Fr.refl _ _))
 rw[if_neg (by simpa using c2)] at hk
 refine J_ aY ?_;exact aa (hk H (Fr.refl _ _))
theorem Ii(L:ai code)(k:Int):aU L 295 [I k] (ec (eD k)):=by
 intro H K hk;refine ah L DX rfl ?_;refine J_ aY ?_;exact b7 (QH (d:=eD k) (an.dO 3) (an.dO 2) (an.dO 2)) (hk H (Fr.refl _ _))
end Sm
namespace Sm
open Go
attribute [local irreducible] aH aj aX bk aA aL bn DK RK JK BR G3 bh Spec Tok Fr CV GA
theorem px(L:ai code)(d:Dk)(a b:List UInt8)(ha:a.length≤1048576)(hb:b.length≤1048576)(n m:Nat)(hw:d.WF n m)(hn:n < 1048000):aU L 326 [ec d,S a,S b] (.tu [ec (d.rename a b).1,I (d.rename a b).2]):=by
 intro H K hk;unfold Dk.rename at hk;have NR:=hw.len;refine ah L DY rfl ?_;refine K_ aY ?_;refine gl L d a ha H _ fun X1 f1=>?_;cases c1:d.asked a==0
 case false =>
   have ZK:(d.asked a != 0)=true:=by rw[bne,c1];rfl
   rw[if_pos (by simpa using ZK)] at hk
   repeat (refine gk (And.intro aY (And.intro c1 ZK)) ?_)
   exact aa (hk X1 f1)
 have e1:d.asked a=0:=by simpa using c1
 rw[if_neg (by simp[e1])] at hk
 rw[e1];refine K_ aY ?_;refine mu L b hb X1 _ fun X2 f2=>?_;have AQ:=f1.trans f2;refine J_ aY ?_;cases c2:dq b != 0
 case true =>
   rw[if_pos (by simpa using c2)] at hk
   refine J_ aY ?_;exact aa (hk X2 AQ)
 rw[if_neg (by simpa using c2)] at hk
 refine K_ aY ?_;refine iq L d a n m hw hn X2 _ fun X3 f3=>?_;have Jz:=AQ.trans f3;cases c3:bZ d.now a==0
 case false =>
   have c3n:(bZ d.now a != 0)=true:=by rw[bne,c3];rfl
   rw[if_pos (by simpa using c3n)] at hk
   repeat (refine gk (And.intro aY (And.intro c3 c3n)) ?_)
   (apply af;rfl);refine eE L d b n m hw hn X3 _ fun X4 f4=>?_
   repeat (refine gk (And.intro aY (And.intro c3 c3n)) ?_)
   exact aa (hk X4 (Jz.trans f4))
 have e3:bZ d.now a=0:=by simpa using c3
 rw[if_neg (by simp[e3])] at hk
 rw[e3];have hga:(bG d.now a).isSome=true:=by
   unfold bZ at e3;cases hg:bG d.now a with
   | none=>rw[hg] at e3;cases e3
   | some x=>rfl
 obtain⟨x,hx⟩:=Option.isSome_iff_exists.mp hga;have uM:yD (bG d.now a)=x:=by rw[hx];rfl
 rw[uM];rw[hx] at hk;refine K_ aY ?_;refine s7 L d b hb n m hw hn X3 _ fun X4 f4=>?_;have f04:=Jz.trans f4;cases c4:iG d.now b==0
 case false =>
   have c4n:(iG d.now b != 0)=true:=by rw[bne,c4];rfl
   rw[if_pos (by simpa using c4n)] at hk
   refine K_ aY ?_;refine eE L d b n m hw hn X4 _ fun X5 f5=>?_
   repeat (refine gk (And.intro aY (And.intro c4 c4n)) ?_)
   exact aa (hk X5 (f04.trans f5))
 have e4:iG d.now b=0:=by simpa using c4
 rw[if_neg (by simp[e4])] at hk
 rw[e4];refine K_ aY ?_;refine eE L d b n m hw hn X4 _ fun X5 f5=>?_;have f05:=f04.trans f5;cases hy:bG d.now b with
 | none =>
   rw[hy] at hk;rw[if_neg (by simp)] at hk
   simp only[yD,Option.getD,Option.isSome];refine K_ aY ?_;refine eM (eP:=[ec d,.sl .no 3 ((di.mv x none b).gone.map du),.sl .no 3 ((di.mv x none b).cN.map du)]) (show bo [ec d,.sl .full 3 [du x],.sl .full 3 [du ⟨b,false,x.id⟩]] _ from⟨an.refl _,an.drop _ _ _,an.drop _ _ _,T_⟩) ?_;refine gC L d (.mv x none b) (by omega) X5 _ fun X6 f6=>?_
   refine K_ aY ?_;refine eF L d _ n m hw hn X6 _ fun X7 f7=>?_;refine J_ aY ?_;exact aa (hk X7 ((f05.trans f6).trans f7))
 | some y =>
   rw[hy] at hk;simp only[yD,Option.getD,Option.isSome];have e5:(some y).any (·.dir)=y.dir:=rfl
   rw[e5] at hk;refine J_ aY ?_;(refine ct aY ?_ ?_<;>intro c5);{rw[if_pos c5] at hk;refine J_ aY ?_;exact aa (hk X5 f05)};rw[if_neg (by simp[c5])] at hk
   refine J_ aY ?_;refine eU (ys:=[du y]) (GA.full H X5 3 [du x]) f05 rfl rfl (by simp) fun v1 X6 g6 f6=>?_
   refine K_ aY ?_;refine eM (eP:=[ec d,.sl .no 3 ((di.mv x (some y) b).gone.map du),.sl .no 3 ((di.mv x (some y) b).cN.map du)]) (show bo [ec d,v1,.sl .full 3 [du ⟨b,false,x.id⟩]] _ from⟨an.refl _,g6.Bi,an.drop _ _ _,T_⟩) ?_;refine gC L d (.mv x (some y) b) (by omega) X6 _ fun X7 f7=>?_
   refine K_ aY ?_;refine eF L d _ n m hw hn X7 _ fun X8 f8=>?_;refine J_ aY ?_;exact aa (hk X8 ((f6.trans f7).trans f8))
theorem tc(L:ai code)(d:Dk)(p:List UInt8)(n m:Nat)(hw:d.WF n m)(hn:n < 1048000):aU L 345 [ec d,S p] (.tu [S (d.read p).1,I (d.read p).2]):=by
 intro H K hk;unfold Dk.read at hk;refine ah L DZ rfl ?_;refine J_ aY ?_;(refine ct aY ?_ ?_<;>intro c1);{rw[if_pos c1] at hk;refine J_ aY ?_;exact aa (hk H (Fr.refl _ _))};rw[if_neg (by simp[c1])] at hk
 refine K_ aY ?_;refine iq L d p n m hw hn H _ fun X2 f2=>?_;have hid:=idZ d.now p;cases c2:bZ d.now p != 0
 case true =>
   rw[if_pos (by simpa using c2)] at hk
   repeat (refine gk (And.intro aY c2) ?_)
   exact aa (hk X2 f2)
 have bN:=wO hw (p:=p) (by simpa using c2)
 rw[if_neg (by simpa using c2)] at hk
 rw[←hid] at hk bN;generalize yD (bG d.now p)=x at *;rw[getD_at bN] at hk
 repeat (refine gk (And.intro aY c2) ?_)
 exact aa (hk X2 f2)
end Sm
namespace Sm
open Go
attribute [local irreducible] aH aj aX bk aA aL bn DK RK JK BR G3 bh Spec Tok Fr CV GA
theorem og(L:ai code)(d:Dk)(n m:Nat)(hw:d.WF n m)(hn:n < 1048000)(hm:m≤140737488355328):aU L 346 [ec d] (.sl .no 3 (d.list.map dX)):=by
 intro H K hk;rw[rM] at hk;have Va:=hw.eT;have mo:=hw.ei;refine ah L D1 rfl ?_;refine J_ aY ?_;(refine ct aY ?_ ?_<;>intro c1);{rw[if_pos c1] at hk;refine J_ aY ?_;exact b7 (an.dO 3) (hk H (Fr.refl _ _))};rw[if_neg (by simp[c1])] at hk
 refine K_ aY ?_;refine gj L d n m hw hn H _ fun X1 f1=>?_;generalize d.now=l at *;refine J_ aY ?_;refine aV (ak L) (fun(q:Nat×HV)=>[(1,.lp 0 0),(3,.h q.2),(4,.h (.sl .no 3 (l.map du))),(5,.h (I q.1))]) (fun _=>[(0,[I d.room,.sl .no 3 (d.sure.map du),.sl .no 2 (d.loose.map pX),.sl .no 2 (d.f.map fP),B d.down,I d.ops,I d.aD,B d.done,I d.aE])])
   (fun q X=>q.1≤l.length∧Fr [] H X∧∃us,GA H X 3 q.2 us∧us.length=q.1∧bo us (((l.take q.1).map (nH d.f)).map dX)) (fun q=>l.length - q.1) (0,_) ?_ ⟨by simp,f1,[],GA.nil _ _ _,rfl,T_⟩ ?_
 · exact E_
 rintro⟨k,v⟩ X ⟨gF,hf,us,hg,HX,Sb⟩;dsimp only at gF hf hg HX Sb ⊢;refine J_ aY ?_;(refine ct aY ?_ ?_<;>intro h2)
 · have ja:k < l.length:=by simpa using h2
   have hs:=List.take_succ_eq_append_getElem ja;have NT:=(mo _ (List.getElem_mem ja)).2.1;have PW:((l.take (k+1)).map (nH d.f)).map dX=((l.take k).map (nH d.f)).map dX++[dX (nH d.f l[k])]:=by rw[hs,List.map_append,List.map_append];rfl
   refine J_ aY ?_;cases c2:l[k].dir
   case true =>
     have he:nH d.f l[k]=⟨l[k].path,true,[]⟩:=by simp[nH,c2]
     try simp only[Bool.not_true]
     refine J_ aY ?_;refine eU (ys:=[.ag [S l[k].path,B true,.v (.slice none 0 0)]]) hg hf rfl rfl (by simp only[List.length_cons,List.length_nil];omega) fun v1 X2 g2 f2=>?_
     refine J_ aY ?_;refine dG (k+1,v1) (by simp only;omega) ⟨by simp only;omega,f2,_,g2,by simp[HX],?_⟩ ?_
     · simp only[PW];refine Sb.app ?_;rw[he];exact⟨an.ag ⟨an.refl _,an.refl _,an.dO 1,T_⟩ rfl,T_⟩
     · exact E_
   have bN:=NT c2;have he:nH d.f l[k]=⟨l[k].path,false,d.f[l[k].id].b⟩:=by simp[nH,c2,bN]
   have da:=hw.sz _ (List.getElem_mem bN)
   try simp only[Bool.not_false]
   refine J_ aY ?_;apply Qk;rfl;(focus omega);refine J_ aY ?_;refine eU (ys:=[.ag [S l[k].path,B false,.sl .no 1 (d.f[l[k].id].b.map U)]]) hg hf rfl rfl (by simp only[List.length_cons,List.length_nil];omega) fun v1 X2 g2 f2=>?_
   refine J_ aY ?_;refine dG (k+1,v1) (by simp only;omega) ⟨by simp only;omega,f2,_,g2,by simp[HX],?_⟩ ?_
   · simp only[PW];refine Sb.app ?_;rw[he];exact⟨an.refl _,T_⟩
   · exact E_
 have ja:k=l.length:=by
   have:¬k < l.length:=by simpa using h2
   omega
 subst ja;rw[List.take_length] at Sb;refine J_ aY ?_;refine b7 (hg.Bi.trans (an.els Sb ?_ ?_)) (hk X hf);{rw[List.all_eq_true];intro x hx;obtain⟨y,_,rfl⟩:=List.mem_map.mp hx;rfl};{intro x hx;obtain⟨y,_,rfl⟩:=List.mem_map.mp hx;rfl}
end Sm
namespace Sm
open Go
theorem KC{f:List Fl}{i:Nat}(h:i < f.length)(zs:List HV):cP true 2 (0+(i:Int).toNat*2) ((f.map fP).flatMap HV.cells++zs)=some (.ag [S f[i].b,I f[i].safe]):=by
 have hl:f=f.take i++f[i]::f.drop (i+1):=by rw[←List.drop_eq_getElem_cons h,List.take_append_drop]
 have h1:((f.map fP).flatMap HV.cells++zs)=((f.take i).map fP).flatMap HV.cells++(S f[i].b::I f[i].safe::(((f.drop (i+1)).map fP).flatMap HV.cells++zs)):=by
   conv=>lhs;rw[hl]
   simp only[List.map_append,List.map_cons,List.flatMap_append,List.flatMap_cons,List.append_assoc];rfl
 have h2:(((f.take i).map fP).flatMap HV.cells).length=i*2:=oe _ i (by rw[List.length_take];omega)
 have h3:0+(i:Int).toNat*2=(((f.take i).map fP).flatMap HV.cells).length:=by rw[h2];simp
 rw[h1,h3];unfold cP;rw[if_pos (by simp),List.drop_left]
 rfl
def FR(H X:ab)(v:HV)(f:List Fl):Prop:=(v = .sl .full 2 []∧f=[])∨∃b c zs,v = .v (.slice (some ⟨b,0,none⟩) f.length c)∧X b=some (.obj ((f.map fP).flatMap HV.cells++zs))∧f.length≤c∧c≤maxLen∧H b=none
theorem FR.one{H X:ab}{v:HV}{f:List Fl}(h:FR H X v f):v.one=true∧v.el=true∧v.aN=1∧v.cells=[v]:=by
 rcases h with⟨rfl,_⟩ | ⟨b,c,zs,rfl,_⟩<;>exact⟨rfl,rfl,rfl,rfl⟩
theorem FR.obj{H X:ab}{v:HV}{f:List Fl}(h:FR H X v f)(hf:0 < f.length):∃b c zs,v = .v (.slice (some ⟨b,0,none⟩) f.length c)∧X b=some (.obj ((f.map fP).flatMap HV.cells++zs))∧f.length≤c∧c≤maxLen∧H b=none:=by
 rcases h with⟨_,rfl⟩ | h;{cases hf};{exact h}
theorem NU{d:Dk}{n m:Nat}(h:d.WF n m)(k:Nat):({ d with loose:=d.loose.take k }:Dk).WF n m:=by
 have hk:(d.loose.take k).length≤d.loose.length:=by rw[List.length_take];omega
 have:=h.len;exact⟨h.sn,gM k h.ch,by show d.sure.length+(d.loose.take k).length≤n;omega,h.fl,h.op,h.ids,fun c hc=>h.sG c (List.mem_of_mem_take hc),h.sz,h.rm,h.fa,h.wr⟩
theorem NV{S':aJ}{sl:List (Nat×EV)}{bx:List (Nat×List HV)}{H0 H:ab}{K:Env→ab→Prop}{os:List aF}{d bytes:Nat}{x y:bj}{f:List Fl}(hf:Fr [] H0 H)(hx:(M sl bx).hv x=some (.sl .full 2 []))(hy:(M sl bx).hv y=some (.sl .no 2 (f.map fP)))(hl:f.length*bytes≤140737488355328)
   (hk:∀v X,FR H0 X v f→Fr [] H0 X→aj S' os (M ((d,.h v)::sl) bx) X K):aj S' (⟨some d,.app 2 bytes x y,none⟩::os) (M sl bx) H K:=by
 by_cases h0:f=[]
 · subst h0;rw[bf];refine .inr ?_;simp only[hx,hy,nW,mW,if_true,List.map_nil,List.length_nil];refine⟨trivial,fun _=>?_,fun h=>absurd rfl h⟩;rw[cu,dp];exact hk _ _ (.inl ⟨rfl,rfl⟩) hf
 · have hlen:f.length≠0:=fun h=>h0 (List.eq_nil_of_length_eq_zero h);refine Bo hx hy (m:=f.length) (ys:=(f.map fP).flatMap HV.cells) (by simp only[mW,if_true,List.length_map]) hlen hl fun b c zs X h1 h2 h3 h4 h5 h6 h7=>?_
   exact hk _ _ (.inr ⟨b,c,zs,rfl,h6,h2,h3,hf.bM h1⟩) (hf.trans h7)
attribute [local irreducible] aH aj aX bk aA aL bn DK RK JK BR G3 bh Spec Tok Fr CV GA
theorem qS(L:ai code)(d:Dk)(count:Int)(dw:List UInt8)(n m:Nat)(hw:d.WF n m)(hn:n < 1048000)(hm:m≤140737488355328)(Jy:dw.length≤1048576):aU L 318 [ec d,I count,.sl .no 1 (dw.map U)] (ec (d.ky count dw)):=by
 intro H K hk;unfold Dk.ky at hk;have UY:(max 0 (min count (d.loose.length:Int))).toNat≤d.loose.length:=by omega
 have wE:max 0 (min count (d.loose.length:Int))=((max 0 (min count (d.loose.length:Int))).toNat:Int):=by omega
 generalize u9:(max 0 (min count (d.loose.length:Int))).toNat=k at hk UY wE;dsimp only at hk;have AU:=NU hw k;have gA:=hw.fl;refine ah L D5 rfl ?_;refine J_ aY ?_;apply wK (k:=k);rfl;rfl;(focus exact wE);(focus (simp;exact UY));rw[←List.map_take];refine K_ aY ?_;refine gj L { d with loose:=d.loose.take k } n m AU hn H _ fun X1 f1=>?_;have rA:({ d with loose:=d.loose.take k }:Dk).now=br d.sure (d.loose.take k):=rfl;have mo:=AU.ei;have Va:=AU.eT;rw[rA] at mo Va ⊢;generalize br d.sure (d.loose.take k)=l at *;refine J_ aY ?_;refine NV f1 rfl rfl (by omega) fun fv X2 hF2 f2=>?_
 have gu:=hF2.one;refine J_ aY ?_;apply bS;rfl;(focus exact gu.2.2.1);(focus exact gu.2.1);rfl;rfl;rfl;(focus (rw[gu.2.2.2]));have e0:bu [I d.room,HV.sl .no 3 (l.map du),.v (.slice none 0 0),.sl .no 2 (d.f.map fP),B d.down,I d.ops,I d.aD,B d.done,I d.aE] (0+3) [fv]=[I d.room,HV.sl .no 3 (l.map du),.v (.slice none 0 0),fv,B d.down,I d.ops,I d.aD,B d.done,I d.aE]:=rfl;rw[e0];refine J_ aY ?_;refine aV (ak L) (fun(q:Nat×List Fl×List UInt8)=>[(2,.h (.sl .no 1 (q.2.2.map U))),(3,.lp 0 0),(6,.lp 1 0),(7,.h (I q.1))]) (fun q=>[(0,[I d.room,.sl .no 3 (l.map du),.v (.slice none 0 0),fv,B d.down,I d.ops,I d.aD,B d.done,I d.aE]),(1,[I 0,.v (.slice none 0 0),.v (.slice none 0 0),.v (.slice none 0 0),B false,I 0,I 0,B false,I 0])])
   (fun q X=>q.1≤l.length∧Fr [] H X∧FR H X fv q.2.1∧cy (l.drop q.1) q.2.1 q.2.2=cy l d.f dw∧q.2.1.length=d.f.length∧(∀x∈q.2.1,x.b.length≤m∧x.safe≤x.b.length)∧q.2.2.length≤1048576) (fun q=>l.length - q.1) (0,d.f,dw) ?_ ⟨by simp,f2,hF2,rfl,rfl,hw.sz,Jy⟩ ?_
 · exact E_
 rintro⟨j,f,kp⟩ X ⟨hj,Dq,hF,lX,Ij,da,Ds⟩;dsimp only at hj Dq hF lX Ij da Ds ⊢;refine J_ aY ?_;(refine ct aY ?_ ?_<;>intro OV)
 rotate_left
 · have Dt:j=l.length:=by
     have:¬j < l.length:=by simpa using OV
     omega
   subst Dt;rw[List.drop_length,cy] at lX;rw[←lX] at hk;rcases hF with⟨rfl,rfl⟩ | ⟨fb,c,zs,rfl,k1,k2,k3,k4⟩;{refine J_ aY ?_;exact b7 (QH (d:={ d with sure:=l,loose:=[],f:=[],down:=false,aD:=-1,aE:=-1,done:=false }) (an.refl _) (an.dO 2) (an.drop _ _ _)) (hk X Dq)};have hlf:=oe f _ rfl;have hfw:FW fb ((f.map fP).flatMap HV.cells++zs) (.v (.slice (some ⟨fb,0,none⟩) f.length c)) (.sl .no 2 (f.map fP)):=by
     refine FW.slice ?_ ?_ (by simp) k2 k3 ?_ ?_
     · rw[List.take_append_of_le_length (by omega),List.take_of_length_le (by omega)]
     · rw[List.length_append];omega
     · rw[List.all_eq_true];intro x hx;obtain⟨y,_,rfl⟩:=List.mem_map.mp hx;rfl
     · intro x hx;obtain⟨y,_,rfl⟩:=List.mem_map.mp hx;rfl
   have hvw:kh fb ((f.map fP).flatMap HV.cells++zs) [I d.room,HV.sl .no 3 (l.map du),.v (.slice none 0 0),.v (.slice (some ⟨fb,0,none⟩) f.length c),B d.down,I d.ops,I d.aD,B d.done,I d.aE]
     [I d.room,HV.sl .no 3 (l.map du),.v (.slice none 0 0),.sl .no 2 (f.map fP),B d.down,I d.ops,I d.aD,B d.done,I d.aE]:=
     ⟨FW.refl _ _ _,FW.refl _ _ _,FW.refl _ _ _,hfw,FW.refl _ _ _,FW.refl _ _ _,FW.refl _ _ _,FW.refl _ _ _,FW.refl _ _ _,T_⟩
   refine tf (VZ (V9 (Wb (U2 (Qj (k:=0) rfl k1 hvw rfl) ?_))));have rN:Fr [] H (X.bt fb none):=Fr.dB Dq k4;refine J_ aY ?_;exact b7 (QH (d:={ d with sure:=l,loose:=[],f:=f,down:=false,aD:=-1,aE:=-1,done:=false }) (an.refl _) (an.dO 2) (an.refl _)) (hk _ rN)
 have Dt:j < l.length:=by simpa using OV
 have hid:=(mo _ (List.getElem_mem Dt)).2.1;rw[List.drop_eq_getElem_cons Dt,cy] at lX;refine J_ aY ?_;(refine ct aY ?_ ?_<;>intro c2)
 · rw[if_pos c2] at lX;refine J_ aY ?_;refine dG (j+1,f,kp) (by simp only;omega) ⟨by simp only;omega,Dq,hF,lX,Ij,da,Ds⟩ ?_
   exact E_
 rw[if_neg (by simp[c2])] at lX
 have hi:=hid c2;change l[j].id < d.f.length at hi;rw[←Ij] at hi;obtain⟨fb,c,zs,rfl,k1,k2,k3,k4⟩:=hF.obj (by omega)
 rw[getD_at hi] at lX;have U8:=da _ (List.getElem_mem hi);have hlr:=KC hi zs;dsimp only at lX;refine J_ aY ?_;apply dj;rfl;rfl;(focus omega);apply bz;rfl;(focus exact k1);(focus exact hlr);refine J_ aY ?_;have Kr:(decide ((0:Int) < (f[l[j].id].b.length:Int) - (f[l[j].id].safe:Int))=false)∨(decide ((0:Int) < (f[l[j].id].b.length:Int) - (f[l[j].id].safe:Int))=true∧kp=[]) ∨
     (decide ((0:Int) < (f[l[j].id].b.length:Int) - (f[l[j].id].safe:Int))=true∧∃k0 Du s,kp=k0::Du∧s=f[l[j].id].safe+k0.toNat % (f[l[j].id].b.length - f[l[j].id].safe+1)):=by
   cases hd:decide ((0:Int) < (f[l[j].id].b.length:Int) - (f[l[j].id].safe:Int));{exact .inl rfl}
   · cases kp with
     | nil=>exact .inr (.inl ⟨rfl,rfl⟩)
     | cons k0 ks=>exact .inr (.inr ⟨rfl,k0,ks,_,rfl,rfl⟩)
 rcases Kr with hd | ⟨hd,pU⟩ | ⟨hd,k0,Du,s,u9,Ny⟩
 · rw[if_neg (by simp at hd;omega)] at lX
   rw[hd];refine J_ aY ?_;apply dj;rfl;rfl;(focus omega);apply bU;rfl;rfl;rfl;rfl;(focus exact k1);(focus (rw[List.length_append,oe _ _ rfl];omega));intro Y y1 y2;have e6:bu ((f.map fP).flatMap HV.cells++zs) (0+(l[j].id:Int).toNat*2) (HV.ag [S (f[l[j].id].b.take f[l[j].id].safe),I (f[l[j].id].safe:Nat)]).cells=((f.set l[j].id ⟨f[l[j].id].b.take f[l[j].id].safe,f[l[j].id].safe⟩).map fP).flatMap HV.cells++zs:=by
     rw[Nat.zero_add];exact oL (g:=fP) (k:=2) (fun _=>rfl) hi ⟨f[l[j].id].b.take f[l[j].id].safe,f[l[j].id].safe⟩ zs
   have y3:Y fb=some (.obj (bu ((f.map fP).flatMap HV.cells++zs) (0+(l[j].id:Int).toNat*2) (HV.ag [S (f[l[j].id].b.take f[l[j].id].safe),I (f[l[j].id].safe:Nat)]).cells)):=y1;rw[e6] at y3;have tg:(f.set l[j].id ⟨f[l[j].id].b.take f[l[j].id].safe,f[l[j].id].safe⟩).length=f.length:=by simp
   refine J_ aY ?_;refine dG (j+1,f.set l[j].id ⟨f[l[j].id].b.take f[l[j].id].safe,f[l[j].id].safe⟩,kp) (by simp only;omega) ⟨by simp only;omega,Dq.own k4 y2,.inr ⟨fb,c,zs,by simp only[tg],y3,by simp only[tg];exact k2,k3,k4⟩,lX,by simp only[tg];exact Ij,fun y hy=>?_,Ds⟩ ?_
   · rcases List.mem_or_eq_of_mem_set hy with hy | rfl;{exact da y hy};{simp only[List.length_take];omega}
   exact E_
 · subst pU;rw[if_neg (by simp)] at lX
   rw[hd];refine J_ aY ?_;apply dj;rfl;rfl;(focus omega);apply bU;rfl;rfl;rfl;rfl;(focus exact k1);(focus (rw[List.length_append,oe _ _ rfl];omega));intro Y y1 y2;have e6:bu ((f.map fP).flatMap HV.cells++zs) (0+(l[j].id:Int).toNat*2) (HV.ag [S (f[l[j].id].b.take f[l[j].id].safe),I (f[l[j].id].safe:Nat)]).cells=((f.set l[j].id ⟨f[l[j].id].b.take f[l[j].id].safe,f[l[j].id].safe⟩).map fP).flatMap HV.cells++zs:=by
     rw[Nat.zero_add];exact oL (g:=fP) (k:=2) (fun _=>rfl) hi ⟨f[l[j].id].b.take f[l[j].id].safe,f[l[j].id].safe⟩ zs
   have y3:Y fb=some (.obj (bu ((f.map fP).flatMap HV.cells++zs) (0+(l[j].id:Int).toNat*2) (HV.ag [S (f[l[j].id].b.take f[l[j].id].safe),I (f[l[j].id].safe:Nat)]).cells)):=y1;rw[e6] at y3;have tg:(f.set l[j].id ⟨f[l[j].id].b.take f[l[j].id].safe,f[l[j].id].safe⟩).length=f.length:=by simp
   refine J_ aY ?_;refine dG (j+1,f.set l[j].id ⟨f[l[j].id].b.take f[l[j].id].safe,f[l[j].id].safe⟩,[]) (by simp only;omega) ⟨by simp only;omega,Dq.own k4 y2,.inr ⟨fb,c,zs,by simp only[tg],y3,by simp only[tg];exact k2,k3,k4⟩,lX,by simp only[tg];exact Ij,fun y hy=>?_,Ds⟩ ?_
   · rcases List.mem_or_eq_of_mem_set hy with hy | rfl;{exact da y hy};{simp only[List.length_take];omega}
   exact E_
 · subst u9;have U':f[l[j].id].safe < f[l[j].id].b.length:=by simp at hd;omega
   rw[if_pos ⟨U',by simp⟩] at lX
   simp only[List.headD_cons,List.tail_cons] at lX;rw[←Ny] at lX;rw[hd];have r8:=k0.toNat_lt;have bN:=Nat.mod_lt k0.toNat (show f[l[j].id].b.length - f[l[j].id].safe+1 > 0 by omega)
   have hs:s≤f[l[j].id].b.length:=by omega
   refine J_ aY ?_;(refine ct aY ?_ ?_<;>intro hq)
   rotate_left
   · simp at hq
   have hg0:((k0::Du).map U)[0]? = some (U k0):=rfl;refine J_ aY ?_;have yB:=Int.emod_nonneg (k0.toNat:Int) (show (f[l[j].id].b.length:Int) - (f[l[j].id].safe:Int)+1≠0 by omega)
   have lL:=Int.emod_lt_of_pos (k0.toNat:Int) (show (f[l[j].id].b.length:Int) - (f[l[j].id].safe:Int)+1 > 0 by omega)
   have Np:(f[l[j].id].safe:Int)+(k0.toNat:Int) % ((f[l[j].id].b.length:Int) - (f[l[j].id].safe:Int)+1)=(s:Int):=by
     rw[Ny];have e:(f[l[j].id].b.length:Int) - (f[l[j].id].safe:Int)+1=((f[l[j].id].b.length - f[l[j].id].safe+1:Nat):Int):=by omega
     rw[e,←Int.natCast_emod,←Int.natCast_add]
   rw[Np,eb (by omega) (by omega)]
   apply wL (k:=1);rfl;rfl;rfl;(focus simp);rw[List.map_cons,List.drop_succ_cons,List.drop_zero];refine J_ aY ?_;apply dj;rfl;rfl;(focus omega);apply bU;rfl;rfl;rfl;rfl;(focus exact k1);(focus (rw[List.length_append,oe _ _ rfl];omega));intro Y y1 y2;have e6:bu ((f.map fP).flatMap HV.cells++zs) (0+(l[j].id:Int).toNat*2) (HV.ag [S (f[l[j].id].b.take s),I (s:Nat)]).cells=((f.set l[j].id ⟨f[l[j].id].b.take s,s⟩).map fP).flatMap HV.cells++zs:=by
     rw[Nat.zero_add];exact oL (g:=fP) (k:=2) (fun _=>rfl) hi ⟨f[l[j].id].b.take s,s⟩ zs
   have y3:Y fb=some (.obj (bu ((f.map fP).flatMap HV.cells++zs) (0+(l[j].id:Int).toNat*2) (HV.ag [S (f[l[j].id].b.take s),I (s:Nat)]).cells)):=y1;rw[e6] at y3;have tg:(f.set l[j].id ⟨f[l[j].id].b.take s,s⟩).length=f.length:=by simp
   refine J_ aY ?_;refine dG (j+1,f.set l[j].id ⟨f[l[j].id].b.take s,s⟩,Du) (by simp only;omega) ⟨by simp only;omega,Dq.own k4 y2,.inr ⟨fb,c,zs,by simp only[tg],y3,by simp only[tg];exact k2,k3,k4⟩,lX,by simp only[tg];exact Ij,fun y hy=>?_,by have h9:=Ds;simp only[List.length_cons] at h9 ⊢;omega⟩ ?_
   · rcases List.mem_or_eq_of_mem_set hy with hy | rfl;{exact da y hy};{simp only[List.length_take];omega}
   exact E_
end Sm
set_option maxHeartbeats 2000000
namespace Sm
open Go
structure Ak where
 kind:UInt8
 p:List UInt8
 q:List UInt8
 b:List UInt8
 n:Int
 done:Bool
 deriving Inhabited
def NW(a:Ak):HV:=.ag [U a.kind,S a.p,S a.q,.sl .no 1 (a.b.map U),I a.n,B a.done]
theorem jR:(∀d:Dk,ec d = .ag [I d.room,.sl .no 3 (d.sure.map du),.sl .no 2 (d.loose.map pX),.sl .no 2 (d.f.map fP),B d.down,I d.ops,I d.aD,B d.done,I d.aE])∧(∀a:Ak,NW a = .ag [U a.kind,S a.p,S a.q,.sl .no 1 (a.b.map U),I a.n,B a.done])∧(∀e:ry,dX e = .ag [S e.path,B e.dir,.sl .no 1 (e.data.map U)]):=⟨fun _=>rfl,fun _=>rfl,fun _=>rfl⟩
def D6(d:Dk)(a:Ak):Nat→Dk×Int
 | 0=>d.put a.p false
 | 1=>d.append a.p a.b
 | 2=>d.cut a.p a.n
 | 3=>d.sync a.p
 | 4=>d.put a.p true
 | 5=>d.remove a.p
 | 6=>d.rename a.p a.q
 | 7=>d.aM
 | 8=>d.fail a.n a.done
 | 9=>d.fault a.n
 | _=>(d.ky a.n a.b,0)
def Ng(d:Dk)(a:Ak):Dk×Int:=D6 d a (a.kind.toNat % 12)
theorem Vb{S':aJ}{sl:List (Nat×EV)}{bx:List (Nat×List HV)}{H:ab}{K:Env→ab→Prop}{os:List aF}{d:Nat}{x:bj}{k:UInt8}(hx:(M sl bx).hv x=some (U k))
   (h:aj S' os (M ((d,.h (U (k+1)))::sl) bx) H K):aj S' (⟨some d,.int .add x (.c (.int .u8 1)),none⟩::os) (M sl bx) H K:=by
 refine aG rfl ?_ h;have AK:(M sl bx).hv x=some (.v (.int .u8 (k.toNat:Int))):=hx;have hy:(M sl bx).hv (.c (.int .u8 1))=some (.v (.int .u8 1)):=rfl;simp only[aw.ev,AK,hy,ic];have e:IntKind.u8.wrap ((k.toNat:Int)+1)=((k+1).toNat:Int):=by
   rw[UInt8.toNat_add];show ((k.toNat:Int)+1) % 256=_;have:(1:UInt8).toNat=1:=rfl;rw[this];omega
 rw[if_pos T_,Option.map_some,e]
theorem Own.tail{H Y Z:ab}{bs rz cs:List Nat}(h:Own H Y bs rz)(hf:Fr cs Y Z)(hn:∀a∈cs,H a=none):Own H Z bs rz:=
 ⟨Fr.sQ fun a r ha hr=>hf.get (fun hm=>by rw[hn a hm] at hr;cases hr) (h.get ha hr),h.nw⟩
theorem NX{l:List UInt8}{i:Nat}(h:i < l.length)(zs:List HV):cP false 1 (0+(i:Int).toNat*1) (l.map U++zs)=some (U l[i]):=by
 rw[show 0+(i:Int).toNat*1=i by simp]
 exact mZ (by rw[List.getElem?_append_left (by simpa using h)];simp[h])
theorem KE{l:List UInt8}{i:Nat}(h:i < l.length)(zs:List HV)(k:UInt8):bu (l.map U++zs) (0+(i:Int).toNat*1) (U k).cells=(l.set i k).map U++zs:=by
 have:=oL (g:=U) (k:=1) (fun _=>rfl) h k zs;rw[oh,oh] at this;rw[show 0+(i:Int).toNat*1=i*1 by simp];exact this
theorem Ql{H:ab}{v:HV}{l:List UInt8}(h:CB H v l):BV H v l:=by
 rcases h with⟨rfl,rfl⟩ | ⟨rfl,rfl⟩ | ⟨a,c,zs,rfl,h,_⟩;{exact .inr (.inl ⟨rfl,rfl⟩)};{exact .inl ⟨.full,rfl⟩};{exact .inr (.inr ⟨a,c,zs,rfl,h⟩)}
theorem CB.own{H X:ab}{bs rz:List Nat}{v:HV}{l:List UInt8}(h:CB H v l)(o:Own H X bs rz)(hb:∀a∈eI v,a∉bs):CB X v l:=by
 rcases h with h | h | ⟨a,c,zs,rfl,h,h2⟩;{exact .inl h};{exact .inr (.inl h)};{exact .inr (.inr ⟨a,c,zs,rfl,o.get (hb a (by simp[eI])) h,h2⟩)}
theorem CB.apart{H X:ab}{bs rz:List Nat}{v:HV}{l:List UInt8}(h:CB H v l)(o:Own H X bs rz)(hb:∀a∈eI v,a∉bs):∀a∈eI v,a∉rz:=fun a ha=>by
 obtain⟨cs,hc⟩:=h.held a ha;exact o.apart (hb a ha) hc
attribute [local irreducible] aH aj aX bk aA aL bn DK RK JK BR G3 bh Spec Tok Fr CV GA
theorem NY(L:ai code)(C:Cl L)(b:Nat)(h:Hd)(d:Dk)(a:Ak)(n m:Nat)(hw:d.WF n m)(hn:n < 1048000)(qM:n*m≤1152921504606846976)(hm:m+a.b.length≤140737488355328)(hp:a.p.length≤1048576)(hq:a.q.length≤1048576)(nM:a.b.length≤1048576)(H:ab)(hD:KD H b h d)
   (K) (hk:∀Y h',KD Y b h' (Ng d a).1→Own H Y (h.bs b) (h'.bs b)→K (.tu [ec (Ng d a).1,B true]) Y):Spec L.P L.ν 296 [ptr b,ec d,NW a] H K:=by
 unfold Ng at hk;refine ah L D7 rfl ?_;refine J_ jR ?_;have hj:a.kind.toNat % 12=0∨a.kind.toNat % 12=1∨a.kind.toNat % 12=2∨a.kind.toNat % 12=3∨a.kind.toNat % 12=4∨a.kind.toNat % 12=5∨a.kind.toNat % 12=6∨a.kind.toNat % 12=7∨a.kind.toNat % 12=8∨a.kind.toNat % 12=9∨a.kind.toNat % 12=10∨a.kind.toNat % 12=11:=by omega
 rcases hj with hj | hj | hj | hj | hj | hj | hj | hj | hj | hj | hj | hj
 · have hi:(a.kind.toNat:Int).tmod 12=0:=by rw[Int.tmod_eq_emod_of_nonneg (by omega)];omega
   rw[hi];rw[hj] at hk;dsimp only[D6] at hk
   repeat (first | (refine gk jR ?_) | (simp only[Int.reduceBEq]))
   (apply af;rfl);refine lg L b h d a.p n m hw (by omega) hp H hD _ fun Y h' hY oY=>?_
   refine K_ jR ?_;refine oM L d a.p hp n m hw (by omega) Y _ fun Y2 f2=>?_
   refine J_ jR ?_;exact aa (hk Y2 h' (hY.dt f2) (oY.trans (Own.of _ f2)))
 · have hi:(a.kind.toNat:Int).tmod 12=1:=by rw[Int.tmod_eq_emod_of_nonneg (by omega)];omega
   rw[hi];rw[hj] at hk;dsimp only[D6] at hk
   repeat (first | (refine gk jR ?_) | (simp only[Int.reduceBEq]))
   refine A9 (v:=.sl .full 1 []) (l:=[]) (ys:=a.b) rfl (.inr (.inl ⟨rfl,rfl⟩)) rfl (.inl ⟨.no,rfl⟩) (by simp;omega) fun v X hC f1 hvn=>?_
   have f1':Fr [] H X:=f1;rw[List.nil_append] at hC;have Qd:=hD.dt f1';have Aaz:∀c∈eI v,H c=none:=fun c hc=>(hvn c hc).elim (fun h=>by simp[eI] at h) id
   have hva:∀c∈eI v,c∉h.bs b:=fun c hc=>hD.new (Aaz c hc);refine K_ jR ?_;refine kV L b h d a.p v a.b n m hw (by omega) qM hm hp X Qd (Ql hC) hva _ fun Y h' hY oY=>?_
   have oY2:=(Own.of (h.bs b) f1').trans oY;refine J_ jR ?_;refine aV (ak L) (fun(q:Nat)=>[(0,.h (ptr b)),(4,.lp 0 0),(5,.lp 1 0),(6,.lp 2 0),(8,.h (I (d.append a.p a.b).2)),(9,.h (I 0)),(10,.h v),(11,.h (I q))]) (fun _=>[(0,[I d.room,.sl .no 3 (d.sure.map du),.sl .no 2 (d.loose.map pX),.sl .no 2 (d.f.map fP),B d.down,I d.ops,I d.aD,B d.done,I d.aE]),(1,[U a.kind,S a.p,S a.q,.sl .no 1 (a.b.map U),I a.n,B a.done]),(2,[I 0,.v (.slice none 0 0),.v (.slice none 0 0),.v (.slice none 0 0),B false,I 0,I 0,B false,I 0])])
     (fun q Z=>q≤a.b.length∧Fr (eI v) Y Z∧∃l',l'.length=a.b.length∧CB Z v l') (fun q=>a.b.length - q) 0 ?_ ⟨by simp,Fr.refl _ _,a.b,rfl,?_⟩ ?_
   · exact E_
   · exact hC.own oY hva
   rintro q Z ⟨KF,hfZ,l',sB,hCZ⟩;refine oN ?_;refine J_ jR ?_;refine J' rfl (Ql hCZ) ?_;refine J_ jR ?_;(refine ct jR ?_ ?_<;>intro hqc)
   · have ni:q < l'.length:=by simpa using hqc
     rcases hCZ with⟨rfl,rfl⟩ | ⟨rfl,rfl⟩ | ⟨c0,c1,zs,rfl,k1,k2,k3,k4⟩;{cases ni};{cases ni};refine J_ jR ?_;apply dj;rfl;rfl;(focus omega);apply bz;rfl;(focus exact k1);(focus exact NX ni zs);apply Vb;rfl;apply dj;rfl;rfl;(focus omega);apply bU;rfl;rfl;rfl;rfl;(focus exact k1);(focus (rw[List.length_append,List.length_map];omega));intro Z2 z2 g2;rw[KE ni zs] at z2;have hls:(l'.set q (l'[q]+1)).length=l'.length:=by simp
     refine J_ jR ?_;refine dG (q+1) (by omega) ⟨by omega,hfZ.trans (by simpa[eI] using g2),l'.set q (l'[q]+1),by rw[hls];exact sB,.inr (.inr ⟨c0,c1,zs,by rw[hls],z2,by rw[hls];exact k2,k3,by rw[hls];exact k4⟩)⟩ ?_
     exact E_
   have ZM:KD Z b h' (d.append a.p a.b).1:=hY.fr hfZ fun x hx hm=>hC.apart oY hva x hm hx;have oZ:=oY2.tail hfZ Aaz;refine K_ jR ?_;refine wR L d a.p a.b hp n m hw (by omega) qM hm Z _ fun Y2 f2=>?_
   refine J_ jR ?_;exact aa (hk Y2 h' (ZM.dt f2) (oZ.trans (Own.of _ f2)))
 · have hi:(a.kind.toNat:Int).tmod 12=2:=by rw[Int.tmod_eq_emod_of_nonneg (by omega)];omega
   rw[hi];rw[hj] at hk;dsimp only[D6] at hk
   repeat (first | (refine gk jR ?_) | (simp only[Int.reduceBEq]))
   (apply af;rfl);refine pS L b h d a.p a.n n m hw (by omega) hp H hD _ fun Y h' hY oY=>?_
   refine K_ jR ?_;refine vp L d a.p a.n hp n m hw (by omega) (by omega) Y _ fun Y2 f2=>?_
   refine J_ jR ?_;exact aa (hk Y2 h' (hY.dt f2) (oY.trans (Own.of _ f2)))
 · have hi:(a.kind.toNat:Int).tmod 12=3:=by rw[Int.tmod_eq_emod_of_nonneg (by omega)];omega
   rw[hi];rw[hj] at hk;dsimp only[D6] at hk
   repeat (first | (refine gk jR ?_) | (simp only[Int.reduceBEq]))
   (apply af;rfl);refine kW L b h d a.p n m hw (by omega) hp H hD _ fun Y h' hY oY=>?_
   refine K_ jR ?_;refine ta L d a.p hp n m hw (by omega) (by omega) Y _ fun Y2 f2=>?_
   refine J_ jR ?_;exact aa (hk Y2 h' (hY.dt f2) (oY.trans (Own.of _ f2)))
 · have hi:(a.kind.toNat:Int).tmod 12=4:=by rw[Int.tmod_eq_emod_of_nonneg (by omega)];omega
   rw[hi];rw[hj] at hk;dsimp only[D6] at hk
   repeat (first | (refine gk jR ?_) | (simp only[Int.reduceBEq]))
   (apply af;rfl);refine yH L b h d a.p n m hw (by omega) hp H hD _ fun Y h' hY oY=>?_
   refine K_ jR ?_;refine yF L d a.p hp n m hw (by omega) Y _ fun Y2 f2=>?_
   refine J_ jR ?_;exact aa (hk Y2 h' (hY.dt f2) (oY.trans (Own.of _ f2)))
 · have hi:(a.kind.toNat:Int).tmod 12=5:=by rw[Int.tmod_eq_emod_of_nonneg (by omega)];omega
   rw[hi];rw[hj] at hk;dsimp only[D6] at hk
   repeat (first | (refine gk jR ?_) | (simp only[Int.reduceBEq]))
   (apply af;rfl);refine kX L b h d a.p n m hw (by omega) hp H hD _ fun Y h' hY oY=>?_
   refine K_ jR ?_;refine nP L d a.p hp n m hw (by omega) Y _ fun Y2 f2=>?_
   refine J_ jR ?_;exact aa (hk Y2 h' (hY.dt f2) (oY.trans (Own.of _ f2)))
 · have hi:(a.kind.toNat:Int).tmod 12=6:=by rw[Int.tmod_eq_emod_of_nonneg (by omega)];omega
   rw[hi];rw[hj] at hk;dsimp only[D6] at hk
   repeat (first | (refine gk jR ?_) | (simp only[Int.reduceBEq]))
   (apply af;rfl);refine nO L b h d a.p a.q n m hw (by omega) hp hq H hD _ fun Y h' hY oY=>?_
   refine K_ jR ?_;refine px L d a.p a.q hp hq n m hw (by omega) Y _ fun Y2 f2=>?_
   refine J_ jR ?_;exact aa (hk Y2 h' (hY.dt f2) (oY.trans (Own.of _ f2)))
 · have hi:(a.kind.toNat:Int).tmod 12=7:=by rw[Int.tmod_eq_emod_of_nonneg (by omega)];omega
   rw[hi];rw[hj] at hk;dsimp only[D6] at hk
   repeat (first | (refine gk jR ?_) | (simp only[Int.reduceBEq]))
   (apply af;rfl);refine jz L b h d n m hw (by omega) H hD _ fun Y h' hY oY=>?_
   refine K_ jR ?_;refine mw L d n m hw (by omega) Y _ fun Y2 f2=>?_
   refine J_ jR ?_;exact aa (hk Y2 h' (hY.dt f2) (oY.trans (Own.of _ f2)))
 · have hi:(a.kind.toNat:Int).tmod 12=8:=by rw[Int.tmod_eq_emod_of_nonneg (by omega)];omega
   rw[hi];rw[hj] at hk;dsimp only[D6] at hk
   repeat (first | (refine gk jR ?_) | (simp only[Int.reduceBEq]))
   (apply af;rfl);refine Bd L b h d a.n a.done H hD _ fun Y hY oY=>?_;refine K_ jR ?_;refine Br L d a.n a.done Y _ fun Y2 f2=>?_;refine J_ jR ?_;exact aa (hk Y2 h (hY.dt f2) (oY.trans (Own.of _ f2)))
 · have hi:(a.kind.toNat:Int).tmod 12=9:=by rw[Int.tmod_eq_emod_of_nonneg (by omega)];omega
   rw[hi];rw[hj] at hk;dsimp only[D6] at hk
   repeat (first | (refine gk jR ?_) | (simp only[Int.reduceBEq]))
   (apply af;rfl);refine yy L b h d a.n H hD _ fun Y hY oY=>?_;refine K_ jR ?_;refine yG L d a.n Y _ fun Y2 f2=>?_;refine J_ jR ?_;exact aa (hk Y2 h (hY.dt f2) (oY.trans (Own.of _ f2)))
 · have hi:(a.kind.toNat:Int).tmod 12=10:=by rw[Int.tmod_eq_emod_of_nonneg (by omega)];omega
   rw[hi];rw[hj] at hk;dsimp only[D6] at hk
   repeat (first | (refine gk jR ?_) | (simp only[Int.reduceBEq]))
   (apply af;rfl);refine mr L C b h d a.n a.b n m hw (by omega) (by omega) (by omega) H hD _ fun Y h' hY oY=>?_
   refine K_ jR ?_;refine qS L d a.n a.b n m hw (by omega) (by omega) nM Y _ fun Y2 f2=>?_
   refine J_ jR ?_;exact aa (hk Y2 h' (hY.dt f2) (oY.trans (Own.of _ f2)))
 · have hi:(a.kind.toNat:Int).tmod 12=11:=by rw[Int.tmod_eq_emod_of_nonneg (by omega)];omega
   rw[hi];rw[hj] at hk;dsimp only[D6] at hk
   repeat (first | (refine gk jR ?_) | (simp only[Int.reduceBEq]))
   (apply af;rfl);refine mr L C b h d a.n a.b n m hw (by omega) (by omega) (by omega) H hD _ fun Y h' hY oY=>?_
   refine K_ jR ?_;refine qS L d a.n a.b n m hw (by omega) (by omega) nM Y _ fun Y2 f2=>?_
   refine J_ jR ?_;exact aa (hk Y2 h' (hY.dt f2) (oY.trans (Own.of _ f2)))
end Sm
namespace Sm
open Go
attribute [local irreducible] aH aj aX bk aA aL bn DK RK JK BR G3 bh Spec Tok Fr CV GA
end Sm
