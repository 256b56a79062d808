/-
  J1,J2,J3,J4,J5,J6,J7,J8
-/
import Derived.Test.YtegmmhldpmmkeaaGreatDoorSmLJ
import Derived.Test.YtegmmhldpmmkeaaGreatDoorSmDN
import Derived.Test.YtegmmhldpmmkeaaGreatDoorSmLf
set_option linter.unusedVariables false
set_option linter.unusedSimpArgs false
set_option maxRecDepth 10000
set_option maxHeartbeats 2000000
namespace Sm
open Go
def dP(n:Int):Int:=if n < 0 then 0 else if n < 64 then 1 else if n < 16384 then 2 else if n < 1073741824 then 4 else if n < 4611686018427387904 then 8 else 0
def cR(n:Int)(w:Nat):Bool:=decide (0≤n)&&decide (n < 2 ^ (8*w - 2))
attribute [local irreducible] aH aj aX bk aA aL bn DK RK JK BR G3 bh Spec Tok Fr CV
theorem kE(L:ai code)(n:Int)(w:Nat)(hw:w=1∨w=2∨w=4∨w=8)(hn:n≤9223372036854775807):aU L 473 [I n,I w] (B (cR n w)):=by
 intro H K hk;refine ah L El rfl ?_;have eZ:∀{X:ab} {b:Bool},Fr [] H X→b=cR n w→bh (some [.v (.bool b)]) X K:=fun hf e=>by subst e;exact aa (hk _ hf)
 rcases hw with rfl | rfl | rfl | rfl
 all_goals
   refine H_ ?_;cases c1:decide (0≤n)
   case false =>
     refine H_ ?_;exact eZ (Fr.refl _ _) (by simp only[cR,c1,Bool.false_and])
   have h0:0≤n:=of_decide_eq_true c1;have hu:IntKind.u64.wrap n=n:=IntWalk.u64_in n ⟨h0,by omega⟩
   refine H_ ?_;refine eZ (Fr.refl _ _) ?_;rw[hu];simp only[cR,c1,Bool.true_and];rfl
theorem yZ(n:Int)(w:Nat):cR n w=true↔0≤n∧n < 2 ^ (8*w - 2):=by simp[cR]
theorem wZ{n:Int}:(cR n 1=true→dP n=1)∧(cR n 1=false→cR n 2=true→dP n=2)∧(cR n 1=false→cR n 2=false→cR n 4=true→dP n=4) ∧
   (cR n 1=false→cR n 2=false→cR n 4=false→cR n 8=true→dP n=8)∧(cR n 1=false→cR n 2=false→cR n 4=false→cR n 8=false→dP n=0):=by
 have e1:cR n 1=(decide (0≤n)&&decide (n < 64)):=rfl;have e2:cR n 2=(decide (0≤n)&&decide (n < 16384)):=rfl;have e4:cR n 4=(decide (0≤n)&&decide (n < 1073741824)):=rfl;have e8:cR n 8=(decide (0≤n)&&decide (n < 4611686018427387904)):=rfl;rw[e1,e2,e4,e8];simp only[Bool.and_eq_true,decide_eq_true_eq,Bool.and_eq_false_iff,decide_eq_false_iff_not];unfold dP;refine⟨?_,?_,?_,?_,?_⟩<;>intros<;>repeat (first | rfl | omega | split)
theorem qV(L:ai code):aU L 472 [] (.ag [I 1,I 2,I 4,I 8]):=by
 intro H K hk;refine ah L Em rfl ?_;refine H_ ?_;refine gi rfl ⟨by decide,by simp[HV.aN],?_⟩
 refine H_ ?_;exact aa (hk H (Fr.refl _ _))
theorem zc(L:ai code)(n:Int)(hn:n≤9223372036854775807):aU L 455 [I n] (I (dP n)):=by
 intro H K hk;have eZ:∀{X:ab} {r:Int},Fr [] H X→r=dP n→bh (some [I r]) X K:=fun hf e=>by subst e;exact aa (hk _ hf)
 obtain⟨g1,g2,g3,g4,g5⟩:=wZ (n:=n);refine ah L En rfl ?_;refine D_ ?_;refine qV L H _ fun X1 f1=>?_;refine H_ ?_;refine aV (ak L) (fun(q:Nat)=>[(0,.h (I n)),(5,.h (.ag [I 1,I 2,I 4,I 8])),(6,.h (I q))]) (fun _=>[]) (fun q X=>Fr [] H X∧q≤4∧(1≤q→cR n 1=false)∧(2≤q→cR n 2=false)∧(3≤q→cR n 4=false)∧(4≤q→cR n 8=false)) (fun q=>4 - q) 0 ?_ ⟨f1,by omega,by omega,by omega,by omega,by omega⟩ ?_
 · exact E_
 rintro q X ⟨fX,hq,b1,b2,b3,b4⟩;obtain rfl | rfl | rfl | rfl | rfl:q=0∨q=1∨q=2∨q=3∨q=4:=by omega
 · refine H_ ?_;refine gi rfl ⟨by decide,by decide,I 1,rfl,?_⟩
   refine D_ ?_;refine kE L n 1 (by simp) hn X _ fun X2 f2=>?_
   cases c:cR n 1
   case true =>
     refine H_ ?_;exact eZ (fX.trans f2) (g1  c).symm
   refine H_ ?_;refine dG 1 (by omega) ⟨fX.trans f2,by omega,fun _=>rfl,by omega,by omega,by omega⟩ ?_
   exact E_
 · refine H_ ?_;refine gi rfl ⟨by decide,by decide,I 2,rfl,?_⟩
   refine D_ ?_;refine kE L n 2 (by simp) hn X _ fun X2 f2=>?_
   cases c:cR n 2
   case true =>
     refine H_ ?_;exact eZ (fX.trans f2) (g2 (b1 (by omega)) c).symm
   refine H_ ?_;refine dG 2 (by omega) ⟨fX.trans f2,by omega,fun _=>b1 (by omega),fun _=>rfl,by omega,by omega⟩ ?_
   exact E_
 · refine H_ ?_;refine gi rfl ⟨by decide,by decide,I 4,rfl,?_⟩
   refine D_ ?_;refine kE L n 4 (by simp) hn X _ fun X2 f2=>?_
   cases c:cR n 4
   case true =>
     refine H_ ?_;exact eZ (fX.trans f2) (g3 (b1 (by omega)) (b2 (by omega)) c).symm
   refine H_ ?_;refine dG 3 (by omega) ⟨fX.trans f2,by omega,fun _=>b1 (by omega),fun _=>b2 (by omega),fun _=>rfl,by omega⟩ ?_
   exact E_
 · refine H_ ?_;refine gi rfl ⟨by decide,by decide,I 8,rfl,?_⟩
   refine D_ ?_;refine kE L n 8 (by simp) hn X _ fun X2 f2=>?_
   cases c:cR n 8
   case true =>
     refine H_ ?_;exact eZ (fX.trans f2) (g4 (b1 (by omega)) (b2 (by omega)) (b3 (by omega)) c).symm
   refine H_ ?_;refine dG 4 (by omega) ⟨fX.trans f2,by omega,fun _=>b1 (by omega),fun _=>b2 (by omega),fun _=>b3 (by omega),fun _=>rfl⟩ ?_
   exact E_
 · refine H_ ?_;exact eZ fX (g5 (b1 (by omega)) (b2 (by omega)) (b3 (by omega)) (b4 (by omega))).symm
end Sm
namespace Sm
open Go
def dC:Nat→Nat→List UInt8
 | 0,_=>[]
 | k+1,n=>dC k (n / 256)++[UInt8.ofNat (n % 256)]
theorem kH:∀(k n:Nat),(dC k n).length=k
 | 0,_=>rfl
 | k+1,n=>by rw[dC,List.length_append,kH];rfl
def pd(w:Nat):Int:=if w=1 then 0 else if w=2 then 1 else if w=4 then 2 else 3
def jK(w:Nat):UInt8:=if w=1 then 0 else if w=2 then 64 else if w=4 then 128 else 192
def zu(w:Nat):List UInt8→List UInt8
 | []=>[]
 | c::cs=>(c ||| jK w)::cs
def gI(w n:Nat):List UInt8:=zu w (dC w n)
def cT(n:Int):List UInt8:=gI (dP n).toNat n.toNat
theorem tz(w n:Nat):(gI w n).length=w:=by
 have:=kH w n;unfold gI;cases h:dC w n with
 | nil=>rw[h] at this;exact this
 | cons c cs=>rw[h] at this;exact this
theorem FW.VO{b n sz:Nat}{cs es:List HV}(kQ:cs.take (n*sz)=es.flatMap HV.cells)(hle:n*sz≤cs.length)(hn:es.length=n)(hm:n≤maxLen)(eB:es.all HV.el=true)(da:∀e∈es,e.aN=sz) :
   FW b cs (.v (.slice (some ⟨b,0,none⟩) n n)) (.sl .full sz es):=by
 rintro ν K w u ⟨us,f1,f2,f3,f4⟩ hr;simp only[rep] at hr;subst hr hn;have h1:=cB (es.length*sz) f2;rw[kQ] at h1;obtain⟨aR,g1,g2⟩:=BL es eB h1;have hl:=aK f2;simp only[rep];refine⟨_,es.length,aR,rfl,Nat.le_refl _,hm,rfl,eB,da,g1,.inr ⟨b,0,rfl,by omega,?_⟩⟩
 rw[g2];exact bl f1 _
theorem mD:∀l:List UInt8,(l.map U).flatMap HV.cells=l.map U
 | []=>rfl
 | b::l=>by rw[List.map_cons,List.flatMap_cons,mD l];rfl
theorem Ld(m:Nat)(x:HV):(List.replicate m [x]).flatten=List.replicate m x:=by
 induction m with
 | zero=>rfl
 | succ m ih=>rw[List.replicate_succ,List.flatten_cons,ih,List.replicate_succ];rfl
theorem Ol(l:List UInt8):(l.map U).all HV.el=true:=by rw[List.all_eq_true];intro y hy;obtain⟨z,_,rfl⟩:=List.mem_map.mp hy;rfl
theorem Om(l:List UInt8):∀e∈l.map U,e.aN=1:=by intro y hy;obtain⟨z,_,rfl⟩:=List.mem_map.mp hy;rfl
theorem FW.bytes{b:Nat}{l:List UInt8}(hm:l.length≤maxLen):FW b (l.map U) (.v (.slice (some ⟨b,0,none⟩) l.length l.length)) (.sl .full 1 (l.map U)):=
 FW.VO (by rw[mD,List.take_of_length_le (by simp)]) (by simp) (by simp) hm (Ol l) (Om l)
theorem AaW(a b:UInt8):IntKind.u8.wrap ((BitVec.ofInt 8 (a.toNat:Int) ||| BitVec.ofInt 8 (b.toNat:Int)).toNat:Int)=((a ||| b).toNat:Int):=by
 have ha:BitVec.ofInt 8 (a.toNat:Int)=a.toBitVec:=by apply BitVec.eq_of_toNat_eq;rw[BitVec.ofInt_natCast];simp
 have hb:BitVec.ofInt 8 (b.toNat:Int)=b.toBitVec:=by apply BitVec.eq_of_toNat_eq;rw[BitVec.ofInt_natCast];simp
 rw[ha,hb];have:(a.toBitVec ||| b.toBitVec).toNat=(a ||| b).toNat:=by rw[←UInt8.toBitVec_or];rfl
 rw[this];exact IntWalk.u8_in _ ⟨by omega,by have:=(a ||| b).toNat_lt;omega⟩
attribute [local irreducible] aH aj aX bk aA aL bn DK RK JK BR G3 bh Spec Tok Fr CV
theorem IH(L:ai code)(w:Nat)(hw:w=1∨w=2∨w=4∨w=8):aU L 490 [I w] (I (pd w)):=by
 intro H K hk;refine ah L E5 rfl ?_;refine D_ ?_;refine qV L H _ fun X1 f1=>?_;refine H_ ?_;refine aV (ak L) (fun(q:Nat)=>[(0,.h (I w)),(5,.h (.ag [I 1,I 2,I 4,I 8])),(6,.h (I q))]) (fun _=>[]) (fun q X=>Fr [] H X∧(q:Int)≤pd w) (fun q=>4 - q) 0 ?_ ⟨f1,by rcases hw with rfl | rfl | rfl | rfl<;>decide⟩ ?_
 · exact E_
 rintro q X ⟨fX,hq⟩;have hq4:q≤3:=by rcases hw with rfl | rfl | rfl | rfl<;>(simp[pd] at hq;omega)
 have eZ:∀{r:Int},r=pd w→bh (some [I r]) X K:=fun e=>by subst e;exact aa (hk _ fX)
 obtain rfl | rfl | rfl | rfl:q=0∨q=1∨q=2∨q=3:=by omega
 all_goals (rcases hw with rfl | rfl | rfl | rfl<;>first | (exfalso;revert hq;decide) | skip)
 all_goals
   refine H_ ?_;refine gi rfl ⟨by decide,by decide,_,rfl,?_⟩
   refine H_ ?_
   first
     | exact eZ rfl
     | (refine dG 1 (by omega) ⟨fX,by decide⟩ ?_;exact E_)
     | (refine dG 2 (by omega) ⟨fX,by decide⟩ ?_;exact E_)
     | (refine dG 3 (by omega) ⟨fX,by decide⟩ ?_;exact E_)
theorem BM(L:ai code)(n:Int)(w:Nat)(hw:w=1∨w=2∨w=4∨w=8)(hf:cR n w=true)(hn:n≤9223372036854775807):aU L 478 [I n,I w] (.tu [.sl .full 1 ((gI w n.toNat).map U),I 0]):=by
 intro H K hk;have h0:0≤n:=((yZ n w).mp hf).1;obtain⟨n,rfl⟩:∃m:Nat,n=m:=⟨n.toNat,by omega⟩
 rw[Int.toNat_natCast] at hk;have hw8:w≤8∧1≤w:=by omega
 refine Spec.dB ?_;refine ah L E6 rfl ?_;refine D_ ?_;refine IH L w hw H _ fun X1 f1=>?_;have hh:0≤pd w∧pd w≤3:=by rcases hw with rfl | rfl | rfl | rfl<;>decide
 refine H_ ?_;rw[decide_eq_false (show ¬pd w < 0 by omega)]
 refine D_ ?_;refine kE L n w hw hn X1 _ fun X2 f2=>?_;rw[hf];refine H_ ?_;refine Lc rfl ⟨by omega,by omega,by omega⟩ rfl fun b X hb hX fX=>?_
 refine H_ ?_;have hXb:X b=some (.obj (List.replicate w (U 0)++([]:List UInt8).map U)):=by
   rw[hX,Ld,Int.toNat_natCast,List.map_nil,List.append_nil];rfl
 refine aV (ak L) (fun(q:Nat×Nat×List UInt8)=>[(0,.h (I q.2.1)),(1,.h (I w)),(6,.h (I (pd w))),(7,.h (.v (.slice (some ⟨b,0,none⟩) w w))),(8,.h (I ((q.1:Int) - 1)))]) (fun _=>[])
   (fun q X=>X b=some (.obj (List.replicate q.1 (U 0)++q.2.2.map U))∧Fr [] H X∧q.1+q.2.2.length=w∧dC q.1 q.2.1++q.2.2=dC w n∧q.2.1≤9223372036854775807) (fun q=>q.1) (w,n,[]) ?_ ⟨hXb,(f1.trans f2).trans fX,by simp,by simp,show n≤9223372036854775807 by omega⟩ ?_
 · exact E_
 rintro⟨m,nc,rest⟩ Y ⟨hY,fY,hl,jf,CO⟩;simp only at hY hl jf CO ⊢;refine H_ ?_;(refine ct T_ ?_ ?_<;>intro h)
 · have Kh:1≤m:=by
     have:(0:Int)≤(m:Int) - 1:=by simpa using h
     omega
   obtain⟨i,rfl⟩:∃i,m=i+1:=⟨m - 1,by omega⟩
   refine H_ ?_;rw[show ((i+1:Nat):Int) - 1=(i:Int) by omega,show IntKind.u8.wrap (nc:Int)=((UInt8.ofNat (nc % 256)).toNat:Int) by rw[IntKind.wrap_u8];simp]
   apply dj;rfl;rfl;(focus omega);refine H_ ?_;have Lt:List.replicate (i+1) (U 0)++rest.map U=List.replicate i (U 0)++U 0::rest.map U:=by rw[List.replicate_succ',List.append_assoc];rfl
   rw[Lt] at hY;apply bU;rfl;rfl;rfl;rfl;(focus exact hY);(focus (simp));intro Z hZ fZ;rw[show (0+(i:Int).toNat*1)=i by omega] at hZ
   simp only[HV.cells] at hZ;rw[jA (by simp)] at hZ
   refine H_ ?_;have hbH:H b=none:=(f1.trans f2).bM hb;have e8:(nc:Int).fdiv (2 ^ min (Int.toNat 8) IntKind.i64.bits)=((nc / 256:Nat):Int):=by
     have:(2:Int) ^ min (Int.toNat 8) IntKind.i64.bits=256:=by decide
     rw[this,Int.fdiv_eq_ediv_of_nonneg _ (by omega)];omega
   have AaX:dC i (nc / 256)++UInt8.ofNat (nc % 256)::rest=dC w n:=by rw[←jf,dC,List.append_assoc];rfl
   refine dG (i,nc / 256,UInt8.ofNat (nc % 256)::rest) (by omega) ⟨hZ,fY.own hbH fZ,by simp only[List.length_cons];omega,AaX,by simp only;omega⟩ ?_
   (refine bw ?_ ?_ ?_<;>(repeat refine bE e8 ?_)<;>exact bA)
 · have Ox:m=0:=by
     have:¬(0:Int)≤(m:Int) - 1:=by simpa using h
     omega
   subst Ox;rw[dC,List.nil_append] at jf;rw[List.replicate_zero,List.nil_append,jf] at hY;have hbH:H b=none:=(f1.trans f2).bM hb;obtain⟨c,cs,hc⟩:∃c cs,dC w n=c::cs:=by
     have:=kH w n;cases h2:dC w n with
     | nil=>rw[h2] at this;simp at this;omega
     | cons c cs=>exact⟨c,cs,rfl⟩
   rw[hc,List.map_cons] at hY;refine H_ ?_;apply dj;rfl;rfl;(focus omega);refine H_ ?_;have e9:IntKind.u8.wrap (IntKind.i64.wrap (pd w*2 ^ min (Int.toNat 6) IntKind.i64.bits))=((jK w).toNat:Int):=by rcases hw with rfl | rfl | rfl | rfl<;>decide
   have e10:=AaW c (jK w);rw[e9,show IntKind.u8.bits=8 from rfl,e10];apply dj;rfl;rfl;(focus omega);refine H_ ?_;apply bU;rfl;rfl;rfl;rfl;(focus exact hY);(focus (simp));intro Z hZ fZ;have hZ2:Z b=some (.obj ((gI w n).map U)):=by rw[hZ];simp only[gI,hc,zu,List.map_cons];rfl
   refine H_ ?_;have yf:=tz w n;refine aa (.inr (.inr ⟨b,_,.tu [.sl .full 1 ((gI w n).map U),I 0],hZ2,FW.tu ⟨?_,FW.refl _ _ _,T_⟩,hk _ ((fY.own hbH fZ).dB hbH)⟩));have h5:=FW.bytes (b:=b) (l:=gI w n) (by rw[yf];simp only[maxLen];omega)
   rw[yf] at h5;exact h5
theorem Lu(n:Int)(h:dP n≠0):∃w:Nat,dP n=w∧(w=1∨w=2∨w=4∨w=8)∧cR n w=true:=by
 obtain⟨g1,g2,g3,g4,g5⟩:=wZ (n:=n);cases c1:cR n 1
 case true=>exact⟨1,g1 c1,by simp,c1⟩
 cases c2:cR n 2
 case true=>exact⟨2,g2 c1 c2,by simp,c2⟩
 cases c4:cR n 4
 case true=>exact⟨4,g3 c1 c2 c4,by simp,c4⟩
 cases c8:cR n 8
 case true=>exact⟨8,g4 c1 c2 c4 c8,by simp,c8⟩
 exact absurd (g5 c1 c2 c4 c8) h
theorem Ix(L:ai code)(n:Int)(h0:0≤n)(hn:n < 4611686018427387904):aU L 464 [I n] (.tu [.sl .full 1 ((cT n).map U),I 0]):=by
 intro H K hk;have eJ:dP n≠0:=by unfold dP;repeat (first | omega | split)
 obtain⟨w,hw,hw4,hf⟩:=Lu n eJ;refine ah L E7 rfl ?_;refine D_ ?_;refine zc L n (by omega) H _ fun X1 f1=>?_
 have VP:(dP n==0)=false:=by simpa using eJ
 refine H_ ?_;rw[VP];refine D_ ?_;rw[hw];refine BM L n w hw4 hf (by omega) X1 _ fun X2 f2=>?_
 have e:gI w n.toNat=cT n:=by unfold cT;rw[hw,Int.toNat_natCast]
 rw[e];refine H_ ?_;exact aa (hk _ (f1.trans f2))
end Sm
namespace Sm
open Go
def dY:Nat→List UInt8→Nat
 | n,[]=>n
 | n,b::l=>dY (n*256+b.toNat) l
theorem mL:∀(l r:List UInt8) (n:Nat),dY n (l++r)=dY (dY n l) r
 | [],r,n=>rfl
 | b::l,r,n=>by rw[List.cons_append,dY,mL l r,dY]
theorem ph:∀(l:List UInt8) (n:Nat),dY n l < (n+1)*256 ^ l.length
 | [],n=>by simp[dY]
 | b::l,n=>by
   have h:=ph l (n*256+b.toNat);have hb:=b.toNat_lt;rw[dY,List.length_cons,Nat.pow_succ'];refine Nat.lt_of_lt_of_le h ?_;rw[←Nat.mul_assoc];exact Nat.mul_le_mul_right _ (by omega)
def iN(c:UInt8):Nat:=2 ^ (c.toNat / 64)
theorem kJ(c:UInt8):iN c=1∨iN c=2∨iN c=4∨iN c=8:=by
 have h:=c.toNat_lt;have:c.toNat / 64=0∨c.toNat / 64=1∨c.toNat / 64=2∨c.toNat / 64=3:=by omega
 unfold iN;rcases this with h | h | h | h<;>rw[h]<;>simp
def cG:List UInt8→Int×Int×Int
 | []=>(0,0,3)
 | c::r=>if r.length+1 < iN c then (0,0,3) else (((dY (c.toNat % 64) (r.take (iN c - 1)):Nat):Int),((iN c:Nat):Int),0)
def ar(l:List UInt8):Int×Int×Int:=if (cG l).2.2=0∧dP (cG l).1 < (cG l).2.1 then (0,0,4) else cG l
theorem VV(n:Nat)(c:UInt8)(h:n < 18014398509481984):IntKind.i64.wrap ((BitVec.ofInt 64 ((n*256:Nat):Int) ||| BitVec.ofInt 64 (c.toNat:Int)).toNat:Int)=((n*256+c.toNat:Nat):Int):=by
 have hc:=c.toNat_lt;rw[BitVec.ofInt_natCast,BitVec.ofInt_natCast,BitVec.toNat_or,BitVec.toNat_ofNat,BitVec.toNat_ofNat,Nat.mod_eq_of_lt (by omega),Nat.mod_eq_of_lt (by omega)]
 have:=Nat.two_pow_add_eq_or_of_lt (i:=8) (b:=c.toNat) hc n;rw[Nat.mul_comm n 256,show (256:Nat)=2 ^ 8 from rfl,←this];exact eb (by omega) (by omega)
theorem Aa1(c:UInt8):IntKind.u8.wrap ((BitVec.ofInt 8 (c.toNat:Int) &&& BitVec.ofInt 8 63).toNat:Int)=((c.toNat % 64:Nat):Int):=by
 have hc:=c.toNat_lt;rw[BitVec.ofInt_natCast,BitVec.toNat_and,BitVec.toNat_ofNat,Nat.mod_eq_of_lt (by omega),show (BitVec.ofInt 8 63).toNat=2 ^ 6 - 1 by decide,Nat.and_two_pow_sub_one_eq_mod]
 exact IntWalk.u8_in _ ⟨by omega,by omega⟩
theorem Aa2{S':aJ}{sl:List (Nat×EV)}{bx:List (Nat×List HV)}{H:ab}{K:Env→ab→Prop}{os:List aF}{d:Nat}{x y:bj}{k k':IntKind}{a b v:Int}
   (hx:(M sl bx).hv x=some (.v (.int k a))) (hy:(M sl bx).hv y=some (.v (.int k' b))) (hb:0≤b) (hv:k.wrap (a*2 ^ (min b.toNat k.bits))=v) (h:aj S' os (M ((d,.h (.v (.int k v)))::sl) bx) H K) :
   aj S' (⟨some d,.int .shl x y,none⟩::os) (M sl bx) H K:=
 aG rfl (by simp only[aw.ev,hx,hy,ic];rw[if_pos hb,hv];rfl) h
theorem iL{S':aJ}{sl:List (Nat×EV)}{bx:List (Nat×List HV)}{H:ab}{K:Env→ab→Prop}{os:List aF}{d sz:Nat}{x:bj}{lo hi:Option bj}{tk:Tk}{es:List HV}{l h:Nat}
   (hx:(M sl bx).hv x=some (.sl tk sz es)) (h1:iE (M sl bx) 0 lo=some (l:Int)) (h2:iE (M sl bx) es.length hi=some (h:Int)) (hlh:l≤h) (VI:h≤es.length)
   (hk:∀fC,aj S' os (M ((d,.h (.sl fC sz ((es.drop l).take (h - l))))::sl) bx) H K) :
   aj S' (⟨some d,.gy sz x lo hi none,none⟩::os) (M sl bx) H K:=
 aG rfl (by simp only[aw.ev,hx,h1,h2];rw[if_pos ⟨trivial,by omega,by omega,by omega⟩]) (by have:=hk (if (h:Int)=es.length∧(l:Int)=0 then tk else .no);simpa using this)
theorem VX(v:Nat)(c:UInt8)(h:v < 18014398509481984):IntKind.i64.wrap ((BitVec.ofInt IntKind.i64.bits (IntKind.i64.wrap ((v:Int)*2 ^ min (Int.toNat 8) IntKind.i64.bits)) ||| BitVec.ofInt IntKind.i64.bits (IntKind.i64.wrap (c.toNat:Int))).toNat:Int)=((v*256+c.toNat:Nat):Int):=by
 have hc:=c.toNat_lt;have e:(2:Int) ^ min (Int.toNat 8) IntKind.i64.bits=256:=by decide
 rw[e,eb (n:=(v:Int)*256) (by omega) (by omega),eb (n:=(c.toNat:Int)) (by omega) (by omega)]
 exact VV v c h
attribute [local irreducible] aH aj aX bk aA aL bn DK RK JK BR G3 bh Spec Tok Fr CV
theorem IP(L:ai code)(tk:Tk)(l:List UInt8)(hl:l.length≤1048576):aU L 454 [.sl tk 1 (l.map U)] (.tu [I (cG l).1,I (cG l).2.1,I (cG l).2.2]):=by
 intro H K hk;cases l with
 | nil =>
   rw[List.map_nil];refine ah L xr rfl ?_;refine H_ ?_;exact aa (hk H (Fr.refl _ _))
 | cons c r =>
   rw[List.length_cons] at hl;rw[List.map_cons];have hw:=kJ c;have hc:=c.toNat_lt;have e1:(((r.length+1:Nat):Int)==0)=false:=by simp;omega
   refine ah L xr rfl ?_;refine H_ ?_;rw[e1];refine H_ ?_;have e2:(c.toNat:Int).fdiv (2 ^ min (Int.toNat 6) IntKind.u8.bits)=((c.toNat / 64:Nat):Int):=by
     have:(2:Int) ^ min (Int.toNat 6) IntKind.u8.bits=64:=by decide
     rw[this,Int.fdiv_eq_ediv_of_nonneg _ (by omega)];omega
   have e3:IntKind.i64.wrap (1*2 ^ min ((c.toNat / 64:Nat):Int).toNat IntKind.i64.bits)=((iN c:Nat):Int):=by
     have:c.toNat / 64=0∨c.toNat / 64=1∨c.toNat / 64=2∨c.toNat / 64=3:=by omega
     unfold iN;rcases this with h | h | h | h<;>rw[h]<;>decide
   rw[e2];apply Aa2;rfl;rfl;(focus omega);(focus exact e3);refine H_ ?_;cases c2:decide (((r.length+1:Nat):Int) < ((iN c:Nat):Int))
   case true =>
     have bN:r.length+1 < iN c:=by have:=of_decide_eq_true c2;omega
     have e:cG (c::r)=(0,0,3):=by rw[cG,if_pos bN]
     rw[e] at hk;refine H_ ?_;exact aa (hk H (Fr.refl _ _))
   have xZ:iN c≤r.length+1:=by have:=of_decide_eq_false c2;omega
   have e:cG (c::r)=(((dY (c.toNat % 64) (r.take (iN c - 1)):Nat):Int),((iN c:Nat):Int),0):=by rw[cG,if_neg (by omega)]
   rw[e] at hk;refine H_ ?_;rw[show IntKind.u8.bits=8 from rfl,Aa1,eb (n:=((c.toNat % 64:Nat):Int)) (by omega) (by omega)]
   have AU:1≤iN c:=by omega
   apply iL (l:=1) (h:=iN c);rfl;rfl;rfl;(focus omega);(focus (simp;omega));intro yA;have e4:((U c::r.map U).drop 1).take (iN c - 1)=(r.take (iN c - 1)).map U:=by rw[List.drop_succ_cons,List.drop_zero,List.map_take]
   rw[e4];generalize hm:r.take (iN c - 1)=m at *;have hml:m.length=iN c - 1:=by rw[←hm,List.length_take];omega
   have hm7:m.length≤7:=by omega
   refine H_ ?_;refine aV (ak L) (fun(q:Nat)=>[(2,.h (I (dY (c.toNat % 64) (m.take q):Nat))),(5,.h (I (iN c:Nat))),(27,.h (.sl yA 1 (m.map U))),(28,.h (I m.length)),(29,.h (I q))]) (fun _=>[]) (fun q X=>X=H∧q≤m.length) (fun q=>m.length - q) 0 ?_ ⟨rfl,by omega⟩ ?_
   · have e5:dY (c.toNat % 64) (m.take 0)=c.toNat % 64:=by rw[List.take_zero];rfl
     (refine bw ?_ ?_ ?_<;>(repeat refine bE e5 ?_)<;>exact bA)
   rintro q X ⟨rfl,hq⟩;have ZW:=ph (m.take q) (c.toNat % 64);have VG:(m.take q).length=q:=by rw[List.length_take];omega
   rw[VG] at ZW;refine H_ ?_;(refine ct T_ ?_ ?_<;>intro h)
   · have ni:q < m.length:=by have:=of_decide_eq_true h;omega
     refine H_ ?_;have hv:dY (c.toNat % 64) (m.take (q+1))=dY (c.toNat % 64) (m.take q)*256+m[q].toNat:=by rw[List.take_succ_eq_append_getElem ni,mL];rfl
     have hb:dY (c.toNat % 64) (m.take q) < 18014398509481984:=by
       refine Nat.lt_of_lt_of_le ZW ?_;have h1:(256:Nat) ^ q≤256 ^ 6:=Nat.pow_le_pow_right (by omega) (by omega)
       have h2:=Nat.mul_le_mul (show c.toNat % 64+1≤64 by omega) h1
       exact h2
     have e6:=VX _ m[q] hb;rw[←hv] at e6;refine dG (q+1) (by omega) ⟨rfl,ni⟩ ?_
     (refine bw ?_ ?_ ?_<;>(repeat refine bE e6 ?_)<;>exact bA)
   · have kF:q=m.length:=by have:=of_decide_eq_false h;omega
     subst kF;rw[List.take_length];refine H_ ?_;exact aa (hk _ (Fr.refl _ _))
theorem nR(L:ai code)(tk:Tk)(l:List UInt8)(hl:l.length≤1048576):aU L 442 [.sl tk 1 (l.map U)] (.tu [I (ar l).1,I (ar l).2.1,I (ar l).2.2]):=by
 intro H K hk;refine ah L FJ rfl ?_;refine D_ ?_;refine IP L tk l hl H _ fun X f=>?_;have hb:(cG l).1≤9223372036854775807:=by
   cases l with
   | nil=>decide
   | cons c r =>
     rw[cG];split
     · decide
     · have h:=ph (r.take (iN c - 1)) (c.toNat % 64);have hw:=kJ c;have h1:(256:Nat) ^ (r.take (iN c - 1)).length≤256 ^ 7:=Nat.pow_le_pow_right (by omega) (by rw[List.length_take];omega)
       have h2:=Nat.mul_le_mul (show c.toNat % 64+1≤64 by omega) h1
       have h3:64*256 ^ 7=4611686018427387904:=by decide
       show ((dY (c.toNat % 64) (r.take (iN c - 1)):Nat):Int)≤_;omega
 unfold ar at hk;refine H_ ?_;cases c1:((cG l).2.2==0)
 case false =>
   have h0:¬((cG l).2.2=0∧dP (cG l).1 < (cG l).2.1):=fun h=>by simp[h.1] at c1
   rw[if_neg h0] at hk;refine H_ ?_;exact aa (hk _ f)
 have h0:(cG l).2.2=0:=by simpa using c1
 refine D_ ?_;refine zc L _ hb X _ fun X2 f2=>?_;refine H_ ?_;cases c2:decide (dP (cG l).1 < (cG l).2.1)
 case false =>
   rw[if_neg (fun h=>of_decide_eq_false c2 h.2)] at hk;refine H_ ?_;exact aa (hk _ (f.trans f2))
 rw[if_pos ⟨h0,of_decide_eq_true c2⟩] at hk;refine H_ ?_;exact aa (hk _ (f.trans f2))
end Sm
namespace Sm
open Go
def OB(H0 X:ab)(v:HV)(l:List UInt8):Prop:=(v = .v (.slice none 0 0)∧l=[])∨v = .sl .full 1 (l.map U)∨∃b c zs,v = .v (.slice (some ⟨b,0,none⟩) l.length c)∧H0 b=none∧X b=some (.obj (l.map U++zs))∧l.length+zs.length=c∧c≤maxLen
theorem OB.nil(H0 X:ab):OB H0 X (.v (.slice none 0 0)) []:=.inl ⟨rfl,rfl⟩
theorem iK(r:List UInt8)(tk:Tk)(H:ab):mW H 1 (.sl tk 1 (r.map U))=some (r.length,r.map U):=by
 simp only[mW,if_true,mD,List.length_map]
theorem Li(s:List UInt8)(H:ab):mW H 1 (S s)=some (s.length,s.map U):=by
 show (if (1:Nat)=1 then some ((⟨s.toArray⟩:ByteArray).size,bP ⟨s.toArray⟩) else none)=_
 rw[if_pos rfl];rfl
theorem w9{H0 X:ab}{v:HV}{l:List UInt8}(h:OB H0 X v l):mW X 1 v=some (l.length,l.map U):=by
 rcases h with⟨rfl,rfl⟩ | rfl | ⟨b,c,zs,rfl,_,hX,hc,_⟩;{rfl};{exact iK l _ _};{simp only[mW,hX];rw[if_pos (by simp),List.drop_zero,Nat.mul_one,List.take_left' (by simp)]}
def vt:HV→Prop
 | .sl _ _ _=>False
 | _=>True
theorem fH{S':aJ}{sl:List (Nat×EV)}{bx:List (Nat×List HV)}{H0 H:ab}{K:Env→ab→Prop}{os:List aF}{d:Nat}{x y:bj}{v w:HV}{l r:List UInt8}
   (hG:OB H0 H v l) (hf:Fr [] H0 H) (hx:(M sl bx).hv x=some v) (hy:(M sl bx).hv y=some w) (hr:mW H 1 w=some (r.length,r.map U)) (hl:l.length+r.length≤140737488355328)
   (h:∀v' X,OB H0 X v' (l++r)→Fr [] H0 X→(vt v∨r≠[]→vt v')→aj S' os (M ((d,.h v')::sl) bx) X K) :
   aj S' (⟨some d,.app 1 1 x y,none⟩::os) (M sl bx) H K:=by
 rw[bf];simp only[aw.step,hx,hy];refine .inr ?_;have fin:∀v' X,OB H0 X v' (l++r)→Fr [] H0 X→(vt v∨r≠[]→vt v')→rK S' os K (some d) (.h v') (M sl bx) X:=fun v' X g1 g2 g3=>by rw[cu,dp];exact h v' X g1 g2 g3
 have new:∀(c0:Nat) (cs:List HV),cs=(l++r).map U→iC H 1 1 (l.length+r.length) cs fun a X=>rK S' os K (some d) (.h a) (M sl bx) X:=fun c0 cs kQ=>⟨by omega,fun b c zs hb h1 h2 h3 h4=>by
   subst kQ;refine fin _ _ (.inr (.inr ⟨b,c,zs,by rw[List.length_append],?_,ab.aB _ _ _,by rw[List.length_append,h3];omega,h2⟩)) (hf.trans (Fr.new hb)) (fun _=>trivial)
   exact hf.bM hb⟩
 unfold nW;rw[hr];simp only;rcases hG with⟨rfl,rfl⟩ | rfl | ⟨b,c,zs,rfl,hb,hX,hc,hm⟩
 · refine⟨fun h0=>?_,fun h0=>by have:=new 0 _ rfl;rw[List.length_nil,Nat.zero_add] at this;exact this⟩
   have:r=[]:=List.eq_nil_of_length_eq_zero h0;subst this;exact fin _ _ (OB.nil _ _) hf (fun _=>trivial)
 · refine⟨rfl,fun h0=>?_,fun h0=>?_⟩;{have:r=[]:=List.eq_nil_of_length_eq_zero h0;subst this;exact fin _ _ (.inr (.inl (by rw[List.append_nil]))) hf (fun h=>h.elim id fun h=>absurd rfl h)};{have:=new 0 _ rfl;rw[List.length_map,mD,←List.map_append];exact this}
 · refine⟨_,hX,by omega,by simp;omega,fun gm=>?_,fun gm=>?_⟩
   · have e:bu (l.map U++zs) (0+l.length*1) (r.map U)=(l++r).map U++zs.drop r.length:=by
       rw[Nat.zero_add,Nat.mul_one,List.map_append];have h2:=gD (A:=l.map U) (X:=zs.take r.length) (Y:=r.map U) (Z:=zs.drop r.length) (i:=l.length) (by simp) (by simp;omega)
       rw[List.append_assoc,List.take_append_drop] at h2;exact h2
     refine fin _ _ (.inr (.inr ⟨b,c,zs.drop r.length,by rw[List.length_append],hb,by rw[ab.aB,e],by rw[List.length_append,List.length_drop];omega,hm⟩)) ?_ ?_
     · exact hf.own hb (Fr.set (by simp))
     · exact fun _=>trivial
   · have e:((l.map U++zs).drop 0).take (l.length*1)++r.map U=(l++r).map U:=by
       rw[List.drop_zero,Nat.mul_one,List.take_left' (by simp),List.map_append]
     exact new 0 _ e
theorem OB.dB{H X:ab}{v:HV}{l:List UInt8}(h:OB H X v l)(f:Fr [] H X){Q:HV→ab→Prop}(hk:∀Y,Fr [] H Y→Q (.sl .no 1 (l.map U)) Y) :
   Q v X∨(∃r',an v r'∧Q r' X)∨∃b cs r',X b=some (.obj cs)∧FW b cs v r'∧Q r' (X.bt b none):=by
 rcases h with⟨rfl,rfl⟩ | rfl | ⟨b,c,zs,rfl,hb,hX,hc,hm⟩;{exact .inr (.inl ⟨_,an.dO 1,hk X f⟩)};{exact .inr (.inl ⟨_,an.drop _ _ _,hk X f⟩)}
 · refine .inr (.inr ⟨b,_,.sl .no 1 (l.map U),hX,FW.slice ?_ ?_ (by simp) (by omega) hm (Ol l) (Om l),hk _ (f.dB hb)⟩)
   · rw[mD,Nat.mul_one,List.take_left' (by simp)]
   · simp
theorem OB.AaT{H X:ab}{v:HV}{l:List UInt8}{z:HV}(h:OB H X v l)(f:Fr [] H X){Q:HV→ab→Prop}(hk:∀Y,Fr [] H Y→Q (.tu [.sl .no 1 (l.map U),z]) Y) :
   Q (.tu [v,z]) X∨(∃r',an (.tu [v,z]) r'∧Q r' X)∨∃b cs r',X b=some (.obj cs)∧FW b cs (.tu [v,z]) r'∧Q r' (X.bt b none):=by
 rcases h with⟨rfl,rfl⟩ | rfl | ⟨b,c,zs,rfl,hb,hX,hc,hm⟩;{exact .inr (.inl ⟨_,an.tu (show bo [.v (.slice none 0 0),z] [.sl .no 1 (([]:List UInt8).map U),z] from⟨an.dO 1,an.refl _,T_⟩),hk X f⟩)};{exact .inr (.inl ⟨_,an.tu (show bo [.sl .full 1 (l.map U),z] [.sl .no 1 (l.map U),z] from⟨an.drop _ _ _,an.refl _,T_⟩),hk X f⟩)}
 · refine .inr (.inr ⟨b,_,.tu [.sl .no 1 (l.map U),z],hX,FW.tu ⟨FW.slice ?_ ?_ (by simp) (by omega) hm (Ol l) (Om l),FW.refl _ _ _,T_⟩,hk _ (f.dB hb)⟩)
   · rw[mD,Nat.mul_one,List.take_left' (by simp)]
   · simp
theorem eO:∀(k n:Nat),dC (k+1) n=UInt8.ofNat (n / 256 ^ k % 256)::dC k n
 | 0,n=>by simp[dC]
 | k+1,n=>by
   rw[dC,eO k (n / 256),List.cons_append,Nat.div_div_eq_div_mul,←Nat.pow_succ',show dC (k+1) n=dC k (n / 256)++[UInt8.ofNat (n % 256)] from rfl]
theorem OB.obj{H X:ab}{v:HV}{l:List UInt8}(h:OB H X v l)(h2:vt v)(hl:l≠[]):∃b c zs,v = .v (.slice (some ⟨b,0,none⟩) l.length c)∧H b=none∧X b=some (.obj (l.map U++zs))∧l.length+zs.length=c∧c≤maxLen:=by
 rcases h with⟨_,rfl⟩ | rfl | h;{exact absurd rfl hl};{exact h2.elim};{exact h}
theorem OB.up{H H1 X:ab}{v:HV}{l:List UInt8}(h:OB H1 X v l)(f:Fr [] H H1):OB H X v l:=by
 rcases h with h | h | ⟨b,c,zs,h1,hb,h2⟩;{exact .inl h};{exact .inr (.inl h)};{exact .inr (.inr ⟨b,c,zs,h1,f.bM hb,h2⟩)}
theorem OB.fr{H X Y:ab}{v:HV}{l:List UInt8}(h:OB H X v l)(f:Fr [] X Y):OB H Y v l:=by
 rcases h with h | h | ⟨b,c,zs,h1,hb,h2,h3⟩;{exact .inl h};{exact .inr (.inl h)};{exact .inr (.inr ⟨b,c,zs,h1,hb,f.get (by simp) h2,h3⟩)}
end Sm
set_option linter.unnecessarySimpa false
namespace Sm
open Go
theorem xB{c:UInt8}(h:c.toNat < 64)(w:Nat)(hw:w=1∨w=2∨w=4∨w=8):IntKind.u8.wrap ((c.toNat:Int)+((jK w).toNat:Int))=((c ||| jK w).toNat:Int):=by
 have e:∀k:Nat,k < 4→c.toNat ||| 64*k=64*k+c.toNat:=fun k hk=>by
   have:=Nat.two_pow_add_eq_or_of_lt (i:=6) (b:=c.toNat) h k;rw[Nat.or_comm];exact this.symm
 have e2:(c ||| jK w).toNat=c.toNat+(jK w).toNat:=by
   rw[UInt8.toNat_or];rcases hw with rfl | rfl | rfl | rfl;{have:=e 0 (by omega);simpa[jK] using this};{have:=e 1 (by omega);rw[show (jK 2).toNat=64*1 from rfl,this];omega};{have:=e 2 (by omega);rw[show (jK 4).toNat=64*2 from rfl,this];omega};{have:=e 3 (by omega);rw[show (jK 8).toNat=64*3 from rfl,this];omega}
 rw[e2];have:=(c ||| jK w).toNat_lt;rw[e2] at this;exact(IntWalk.u8_in _ ⟨by omega,by omega⟩).trans (by omega)
theorem xC(n:Nat)(h:n≤9223372036854775807):IntKind.u8.wrap (IntKind.i64.wrap ((BitVec.ofInt IntKind.i64.bits (n:Int) &&& BitVec.ofInt IntKind.i64.bits 255).toNat:Int))=((UInt8.ofNat (n % 256)).toNat:Int):=by
 rw[show IntKind.i64.bits=64 from rfl,BitVec.ofInt_natCast,BitVec.toNat_and,BitVec.toNat_ofNat,Nat.mod_eq_of_lt (by omega),show (BitVec.ofInt 64 255).toNat=2 ^ 8 - 1 by decide,Nat.and_two_pow_sub_one_eq_mod]
 rw[eb (by omega) (by omega),IntKind.wrap_u8]
 simp
theorem nB(n i:Nat)(hi:i≤7):(n:Int).fdiv (2 ^ (min (8*(i:Int)).toNat IntKind.i64.bits))=((n / 256 ^ i:Nat):Int):=by
 have e1:min (8*(i:Int)).toNat IntKind.i64.bits=8*i:=by show min (8*(i:Int)).toNat 64=8*i;omega
 have e2:(2:Int) ^ (8*i)=((256 ^ i:Nat):Int):=by rw[show (256:Nat)=2 ^ 8 from rfl,←Nat.pow_mul,Int.natCast_pow];rfl
 rw[e1,e2,Int.fdiv_eq_ediv_of_nonneg _ (Int.natCast_nonneg _),Int.natCast_ediv]
attribute [local irreducible] aH aj aX bk aA aL bn DK RK JK BR G3 bh Spec Tok Fr CV
theorem gq(L:ai code)(n:Int)(w:Nat)(hw:w=1∨w=2∨w=4∨w=8)(hn:n≤9223372036854775807):aU L 493 [I n,I w] (B (cR n w)):=by
 intro H K hk;have eZ:∀{b:Bool},b=cR n w→bh (some [.v (.bool b)]) H K:=fun e=>by subst e;exact aa (hk _ (Fr.refl _ _))
 refine ah L F3 rfl ?_;rcases hw with rfl | rfl | rfl | rfl
 all_goals
   refine H_ ?_;cases c1:decide (0≤n)
   case false =>
     refine H_ ?_;exact eZ (by simp only[cR,c1,Bool.false_and])
   refine H_ ?_
 · exact eZ (by simp only[cR,c1,Bool.true_and];rfl)
 · exact eZ (by simp only[cR,c1,Bool.true_and];rfl)
 · exact eZ (by simp only[cR,c1,Bool.true_and];rfl)
 · refine eZ ?_;simp only[cR,c1,Bool.true_and];rw[decide_eq_decide];show n≤4611686018427387903↔n < 4611686018427387904;omega
theorem ql(L:ai code)(n:Int)(hn:n≤9223372036854775807):aU L 484 [I n] (I (dP n)):=by
 intro H K hk;have eZ:∀{X:ab} {r:Int},Fr [] H X→r=dP n→bh (some [I r]) X K:=fun hf e=>by subst e;exact aa (hk _ hf)
 obtain⟨g1,g2,g3,g4,g5⟩:=wZ (n:=n);refine ah L F4 rfl ?_;refine H_ ?_;refine aV (ak L) (fun(q:Nat)=>[(0,.h (I n)),(3,.h (I (2 ^ q:Nat)))]) (fun _=>[]) (fun q X=>Fr [] H X∧q≤4∧(1≤q→cR n 1=false)∧(2≤q→cR n 2=false)∧(3≤q→cR n 4=false)∧(4≤q→cR n 8=false)) (fun q=>4 - q) 0 ?_ ⟨Fr.refl _ _,by omega,by omega,by omega,by omega,by omega⟩ ?_
 · exact E_
 rintro q X ⟨fX,hq,b1,b2,b3,b4⟩;obtain rfl | rfl | rfl | rfl | rfl:q=0∨q=1∨q=2∨q=3∨q=4:=by omega
 · rw[show ((2 ^ 0:Nat):Int)=((1:Nat):Int) from rfl];refine D_ ?_;refine gq L n 1 (by simp) hn X _ fun X2 f2=>?_
   cases c:cR n 1
   case true =>
     refine H_ ?_;exact eZ (fX.trans f2) (g1  c).symm
   refine H_ ?_;refine dG 1 (by omega) ⟨fX.trans f2,by omega,fun _=>rfl,by omega,by omega,by omega⟩ ?_
   exact E_
 · rw[show ((2 ^ 1:Nat):Int)=((2:Nat):Int) from rfl];refine D_ ?_;refine gq L n 2 (by simp) hn X _ fun X2 f2=>?_
   cases c:cR n 2
   case true =>
     refine H_ ?_;exact eZ (fX.trans f2) (g2 (b1 (by omega)) c).symm
   refine H_ ?_;refine dG 2 (by omega) ⟨fX.trans f2,by omega,fun _=>b1 (by omega),fun _=>rfl,by omega,by omega⟩ ?_
   exact E_
 · rw[show ((2 ^ 2:Nat):Int)=((4:Nat):Int) from rfl];refine D_ ?_;refine gq L n 4 (by simp) hn X _ fun X2 f2=>?_
   cases c:cR n 4
   case true =>
     refine H_ ?_;exact eZ (fX.trans f2) (g3 (b1 (by omega)) (b2 (by omega)) c).symm
   refine H_ ?_;refine dG 3 (by omega) ⟨fX.trans f2,by omega,fun _=>b1 (by omega),fun _=>b2 (by omega),fun _=>rfl,by omega⟩ ?_
   exact E_
 · rw[show ((2 ^ 3:Nat):Int)=((8:Nat):Int) from rfl];refine D_ ?_;refine gq L n 8 (by simp) hn X _ fun X2 f2=>?_
   cases c:cR n 8
   case true =>
     refine H_ ?_;exact eZ (fX.trans f2) (g4 (b1 (by omega)) (b2 (by omega)) (b3 (by omega)) c).symm
   refine H_ ?_;refine dG 4 (by omega) ⟨fX.trans f2,by omega,fun _=>b1 (by omega),fun _=>b2 (by omega),fun _=>b3 (by omega),fun _=>rfl⟩ ?_
   exact E_
 · rw[show ((2 ^ 4:Nat):Int)=((16:Nat):Int) from rfl];refine H_ ?_;exact eZ fX (g5 (b1 (by omega)) (b2 (by omega)) (b3 (by omega)) (b4 (by omega))).symm
theorem lD(L:ai code)(w:Nat)(hw:w=1∨w=2∨w=4∨w=8):aU L 495 [I w] (U (jK w)):=by
 intro H K hk;have eZ:∀{b:Int},b=((jK w).toNat:Int)→bh (some [.v (.int .u8 b)]) H K:=fun e=>by subst e;exact aa (hk _ (Fr.refl _ _))
 refine ah L F5 rfl ?_;rcases hw with rfl | rfl | rfl | rfl
 all_goals
   refine H_ ?_;exact eZ rfl
theorem xD(L:ai code)(n:Int)(w:Nat)(hw:w=1∨w=2∨w=4∨w=8)(hf:cR n w=true)(hn:n≤9223372036854775807)(H:ab)(K:HV→ab→Prop)(hk:∀v X,OB H X v (gI w n.toNat)→Fr [] H X→K (.tu [v,I 0]) X):Spec L.P L.ν 491 [I n,I w] H K:=by
 have h0:=(yZ n w).mp hf;obtain⟨n,rfl⟩:∃m:Nat,n=m:=⟨n.toNat,by omega⟩
 rw[Int.toNat_natCast] at hk;have hw8:w≤8∧1≤w:=by omega
 have nU:∀c cs,dC w n=c::cs→c.toNat < 64:=fun c cs hc=>by
   obtain⟨k,rfl⟩:∃k,w=k+1:=⟨w - 1,by omega⟩
   rw[eO] at hc;have h1:c=UInt8.ofNat (n / 256 ^ k % 256):=(List.cons.inj hc).1.symm;have h2:n / 256 ^ k < 64:=by
     rw[Nat.div_lt_iff_lt_mul (Nat.pow_pos (by omega))]
     have h3:=h0.2;rcases hw with h | h | h | h<;>(obtain rfl:k=_:=Nat.succ.inj h;simp at h3 ⊢;omega)
   generalize n / 256 ^ k=m at h1 h2;rw[h1,UInt8.toNat_ofNat'];omega
 refine ah L F6 rfl ?_;rcases hw with rfl | rfl | rfl | rfl
 · refine D_ ?_;refine gq L n 1 (by simp) hn H _ fun X1 f1=>?_
   rw[hf];refine H_ ?_;refine aV (ak L) (fun(q:Nat×HV×List UInt8)=>[(0,.h (I n)),(1,.h (I (1:Nat))),(6,.h q.2.1),(7,.h (I ((q.1:Int) - 1)))]) (fun _=>[])
     (fun q X=>OB H X q.2.1 q.2.2∧vt q.2.1∧Fr [] H X∧q.1≤8∧q.2.2.length+q.1≤8∧q.2.2++dC q.1 n=dC 1 n) (fun q=>q.1) (1,.v (.slice none 0 0),[]) ?_ ⟨OB.nil _ _,T_,f1,by decide,by decide,rfl⟩ ?_
   · exact E_
   rintro⟨m,v,out⟩ Y ⟨hO,yb,fY,V6,Lz,jf⟩;simp only at hO yb V6 Lz jf ⊢;refine H_ ?_;(refine ct T_ ?_ ?_<;>intro h)
   · have Kh:1≤m:=by
       have:(0:Int)≤(m:Int) - 1:=by simpa using h
       omega
     obtain⟨i,rfl⟩:∃i,m=i+1:=⟨m - 1,by omega⟩
     rw[show ((i+1:Nat):Int) - 1=(i:Int) by omega]
     refine H_ ?_;rw[nB n i (by omega),xC (n / 256 ^ i) (by have:=Nat.div_le_self n (256 ^ i);omega)]
     refine fH (r:=[UInt8.ofNat (n / 256 ^ i % 256)]) hO fY rfl rfl rfl (by simp;omega) fun v2 Z lO fZ F7=>?_
     refine H_ ?_;refine dG (i,v2,out++[UInt8.ofNat (n / 256 ^ i % 256)]) (by simp) ⟨lO,F7 (.inl yb),fZ,by simp only;omega,by simp;omega,by rw[←jf,eO,List.append_assoc];rfl⟩ ?_
     exact E_
   · have Ox:m=0:=by
       have:¬(0:Int)≤(m:Int) - 1:=by simpa using h
       omega
     subst Ox;rw[show dC 0 n=[] from rfl,List.append_nil] at jf;obtain⟨c,cs,hc⟩:∃c cs,dC 1 n=c::cs:=⟨_,_,eO _ n⟩;rw[jf,hc] at hO;have B7:=nU c cs hc;obtain⟨b,cp,zs,rfl,hb,hY,V7,uM⟩:=hO.obj yb (by simp)
     rw[List.map_cons,List.cons_append] at hY;refine H_ ?_;apply dj;rfl;rfl;(focus (simp));refine D_ ?_;refine lD L 1 (by simp) Y _ fun Y2 f2=>?_
     have rT:=f2.get (by simp) hY
     refine H_ ?_;rw[xB B7 1 (by simp)]
     apply dj;rfl;rfl;(focus (simp));refine H_ ?_;apply bU;rfl;rfl;rfl;rfl;(focus exact rT);(focus (simp));intro Z hZ fZ;have e5:(c ||| jK 1)::cs=gI 1 n:=by rw[gI,hc];rfl
     have Lm:OB H Z (.v (.slice (some ⟨b,0,none⟩) (c::cs).length cp)) (gI 1 n):=by
       rw[←e5];exact .inr (.inr ⟨b,cp,zs,rfl,hb,hZ,V7,uM⟩)
     refine H_ ?_;exact aa (hk _ _ Lm ((fY.trans f2).own hb fZ))
 · refine D_ ?_;refine gq L n 2 (by simp) hn H _ fun X1 f1=>?_
   rw[hf];refine H_ ?_;refine aV (ak L) (fun(q:Nat×HV×List UInt8)=>[(0,.h (I n)),(1,.h (I (2:Nat))),(6,.h q.2.1),(7,.h (I ((q.1:Int) - 1)))]) (fun _=>[])
     (fun q X=>OB H X q.2.1 q.2.2∧vt q.2.1∧Fr [] H X∧q.1≤8∧q.2.2.length+q.1≤8∧q.2.2++dC q.1 n=dC 2 n) (fun q=>q.1) (2,.v (.slice none 0 0),[]) ?_ ⟨OB.nil _ _,T_,f1,by decide,by decide,rfl⟩ ?_
   · exact E_
   rintro⟨m,v,out⟩ Y ⟨hO,yb,fY,V6,Lz,jf⟩;simp only at hO yb V6 Lz jf ⊢;refine H_ ?_;(refine ct T_ ?_ ?_<;>intro h)
   · have Kh:1≤m:=by
       have:(0:Int)≤(m:Int) - 1:=by simpa using h
       omega
     obtain⟨i,rfl⟩:∃i,m=i+1:=⟨m - 1,by omega⟩
     rw[show ((i+1:Nat):Int) - 1=(i:Int) by omega]
     refine H_ ?_;rw[nB n i (by omega),xC (n / 256 ^ i) (by have:=Nat.div_le_self n (256 ^ i);omega)]
     refine fH (r:=[UInt8.ofNat (n / 256 ^ i % 256)]) hO fY rfl rfl rfl (by simp;omega) fun v2 Z lO fZ F7=>?_
     refine H_ ?_;refine dG (i,v2,out++[UInt8.ofNat (n / 256 ^ i % 256)]) (by simp) ⟨lO,F7 (.inl yb),fZ,by simp only;omega,by simp;omega,by rw[←jf,eO,List.append_assoc];rfl⟩ ?_
     exact E_
   · have Ox:m=0:=by
       have:¬(0:Int)≤(m:Int) - 1:=by simpa using h
       omega
     subst Ox;rw[show dC 0 n=[] from rfl,List.append_nil] at jf;obtain⟨c,cs,hc⟩:∃c cs,dC 2 n=c::cs:=⟨_,_,eO _ n⟩;rw[jf,hc] at hO;have B7:=nU c cs hc;obtain⟨b,cp,zs,rfl,hb,hY,V7,uM⟩:=hO.obj yb (by simp)
     rw[List.map_cons,List.cons_append] at hY;refine H_ ?_;apply dj;rfl;rfl;(focus (simp));refine D_ ?_;refine lD L 2 (by simp) Y _ fun Y2 f2=>?_
     have rT:=f2.get (by simp) hY
     refine H_ ?_;rw[xB B7 2 (by simp)]
     apply dj;rfl;rfl;(focus (simp));refine H_ ?_;apply bU;rfl;rfl;rfl;rfl;(focus exact rT);(focus (simp));intro Z hZ fZ;have e5:(c ||| jK 2)::cs=gI 2 n:=by rw[gI,hc];rfl
     have Lm:OB H Z (.v (.slice (some ⟨b,0,none⟩) (c::cs).length cp)) (gI 2 n):=by
       rw[←e5];exact .inr (.inr ⟨b,cp,zs,rfl,hb,hZ,V7,uM⟩)
     refine H_ ?_;exact aa (hk _ _ Lm ((fY.trans f2).own hb fZ))
 · refine D_ ?_;refine gq L n 4 (by simp) hn H _ fun X1 f1=>?_
   rw[hf];refine H_ ?_;refine aV (ak L) (fun(q:Nat×HV×List UInt8)=>[(0,.h (I n)),(1,.h (I (4:Nat))),(6,.h q.2.1),(7,.h (I ((q.1:Int) - 1)))]) (fun _=>[])
     (fun q X=>OB H X q.2.1 q.2.2∧vt q.2.1∧Fr [] H X∧q.1≤8∧q.2.2.length+q.1≤8∧q.2.2++dC q.1 n=dC 4 n) (fun q=>q.1) (4,.v (.slice none 0 0),[]) ?_ ⟨OB.nil _ _,T_,f1,by decide,by decide,rfl⟩ ?_
   · exact E_
   rintro⟨m,v,out⟩ Y ⟨hO,yb,fY,V6,Lz,jf⟩;simp only at hO yb V6 Lz jf ⊢;refine H_ ?_;(refine ct T_ ?_ ?_<;>intro h)
   · have Kh:1≤m:=by
       have:(0:Int)≤(m:Int) - 1:=by simpa using h
       omega
     obtain⟨i,rfl⟩:∃i,m=i+1:=⟨m - 1,by omega⟩
     rw[show ((i+1:Nat):Int) - 1=(i:Int) by omega]
     refine H_ ?_;rw[nB n i (by omega),xC (n / 256 ^ i) (by have:=Nat.div_le_self n (256 ^ i);omega)]
     refine fH (r:=[UInt8.ofNat (n / 256 ^ i % 256)]) hO fY rfl rfl rfl (by simp;omega) fun v2 Z lO fZ F7=>?_
     refine H_ ?_;refine dG (i,v2,out++[UInt8.ofNat (n / 256 ^ i % 256)]) (by simp) ⟨lO,F7 (.inl yb),fZ,by simp only;omega,by simp;omega,by rw[←jf,eO,List.append_assoc];rfl⟩ ?_
     exact E_
   · have Ox:m=0:=by
       have:¬(0:Int)≤(m:Int) - 1:=by simpa using h
       omega
     subst Ox;rw[show dC 0 n=[] from rfl,List.append_nil] at jf;obtain⟨c,cs,hc⟩:∃c cs,dC 4 n=c::cs:=⟨_,_,eO _ n⟩;rw[jf,hc] at hO;have B7:=nU c cs hc;obtain⟨b,cp,zs,rfl,hb,hY,V7,uM⟩:=hO.obj yb (by simp)
     rw[List.map_cons,List.cons_append] at hY;refine H_ ?_;apply dj;rfl;rfl;(focus (simp));refine D_ ?_;refine lD L 4 (by simp) Y _ fun Y2 f2=>?_
     have rT:=f2.get (by simp) hY
     refine H_ ?_;rw[xB B7 4 (by simp)]
     apply dj;rfl;rfl;(focus (simp));refine H_ ?_;apply bU;rfl;rfl;rfl;rfl;(focus exact rT);(focus (simp));intro Z hZ fZ;have e5:(c ||| jK 4)::cs=gI 4 n:=by rw[gI,hc];rfl
     have Lm:OB H Z (.v (.slice (some ⟨b,0,none⟩) (c::cs).length cp)) (gI 4 n):=by
       rw[←e5];exact .inr (.inr ⟨b,cp,zs,rfl,hb,hZ,V7,uM⟩)
     refine H_ ?_;exact aa (hk _ _ Lm ((fY.trans f2).own hb fZ))
 · refine D_ ?_;refine gq L n 8 (by simp) hn H _ fun X1 f1=>?_
   rw[hf];refine H_ ?_;refine aV (ak L) (fun(q:Nat×HV×List UInt8)=>[(0,.h (I n)),(1,.h (I (8:Nat))),(6,.h q.2.1),(7,.h (I ((q.1:Int) - 1)))]) (fun _=>[])
     (fun q X=>OB H X q.2.1 q.2.2∧vt q.2.1∧Fr [] H X∧q.1≤8∧q.2.2.length+q.1≤8∧q.2.2++dC q.1 n=dC 8 n) (fun q=>q.1) (8,.v (.slice none 0 0),[]) ?_ ⟨OB.nil _ _,T_,f1,by decide,by decide,rfl⟩ ?_
   · exact E_
   rintro⟨m,v,out⟩ Y ⟨hO,yb,fY,V6,Lz,jf⟩;simp only at hO yb V6 Lz jf ⊢;refine H_ ?_;(refine ct T_ ?_ ?_<;>intro h)
   · have Kh:1≤m:=by
       have:(0:Int)≤(m:Int) - 1:=by simpa using h
       omega
     obtain⟨i,rfl⟩:∃i,m=i+1:=⟨m - 1,by omega⟩
     rw[show ((i+1:Nat):Int) - 1=(i:Int) by omega]
     refine H_ ?_;rw[nB n i (by omega),xC (n / 256 ^ i) (by have:=Nat.div_le_self n (256 ^ i);omega)]
     refine fH (r:=[UInt8.ofNat (n / 256 ^ i % 256)]) hO fY rfl rfl rfl (by simp;omega) fun v2 Z lO fZ F7=>?_
     refine H_ ?_;refine dG (i,v2,out++[UInt8.ofNat (n / 256 ^ i % 256)]) (by simp) ⟨lO,F7 (.inl yb),fZ,by simp only;omega,by simp;omega,by rw[←jf,eO,List.append_assoc];rfl⟩ ?_
     exact E_
   · have Ox:m=0:=by
       have:¬(0:Int)≤(m:Int) - 1:=by simpa using h
       omega
     subst Ox;rw[show dC 0 n=[] from rfl,List.append_nil] at jf;obtain⟨c,cs,hc⟩:∃c cs,dC 8 n=c::cs:=⟨_,_,eO _ n⟩;rw[jf,hc] at hO;have B7:=nU c cs hc;obtain⟨b,cp,zs,rfl,hb,hY,V7,uM⟩:=hO.obj yb (by simp)
     rw[List.map_cons,List.cons_append] at hY;refine H_ ?_;apply dj;rfl;rfl;(focus (simp));refine D_ ?_;refine lD L 8 (by simp) Y _ fun Y2 f2=>?_
     have rT:=f2.get (by simp) hY
     refine H_ ?_;rw[xB B7 8 (by simp)]
     apply dj;rfl;rfl;(focus (simp));refine H_ ?_;apply bU;rfl;rfl;rfl;rfl;(focus exact rT);(focus (simp));intro Z hZ fZ;have e5:(c ||| jK 8)::cs=gI 8 n:=by rw[gI,hc];rfl
     have Lm:OB H Z (.v (.slice (some ⟨b,0,none⟩) (c::cs).length cp)) (gI 8 n):=by
       rw[←e5];exact .inr (.inr ⟨b,cp,zs,rfl,hb,hZ,V7,uM⟩)
     refine H_ ?_;exact aa (hk _ _ Lm ((fY.trans f2).own hb fZ))
end Sm
namespace Sm
open Go
theorem F8(l:List UInt8):0≤(cG l).1∧(cG l).1 < 4611686018427387904∧0≤(cG l).2.1∧(cG l).2.1≤8∧0≤(cG l).2.2∧(cG l).2.2≤3:=by
 cases l with
 | nil=>decide
 | cons c r =>
   rw[cG];split
   · decide
   · have h:=ph (r.take (iN c - 1)) (c.toNat % 64);have hw:=kJ c;have h1:(256:Nat) ^ (r.take (iN c - 1)).length≤256 ^ 7:=Nat.pow_le_pow_right (by omega) (by rw[List.length_take];omega)
     have h2:=Nat.mul_le_mul (show c.toNat % 64+1≤64 by omega) h1
     have h3:64*256 ^ 7=4611686018427387904:=by decide
     refine⟨by simp only;omega,?_,by simp only;omega,by simp only;omega,by simp,by simp⟩
     show ((dY (c.toNat % 64) (r.take (iN c - 1)):Nat):Int) < _;omega
attribute [local irreducible] aH aj aX bk aA aL bn DK RK JK BR G3 bh Spec Tok Fr CV
theorem zi(L:ai code)(n:Int)(h0:0≤n)(hn:n < 4611686018427387904)(H:ab)(K:HV→ab→Prop)(hk:∀v X,OB H X v (cT n)→Fr [] H X→K (.tu [v,I 0]) X):Spec L.P L.ν 480 [I n] H K:=by
 have eJ:dP n≠0:=by unfold dP;repeat (first | omega | split)
 obtain⟨w,hw,hw4,hf⟩:=Lu n eJ;refine ah L F9 rfl ?_;refine D_ ?_;refine ql L n (by omega) H _ fun X1 f1=>?_
 have VP:(dP n==0)=false:=by simpa using eJ
 refine H_ ?_;rw[VP];refine D_ ?_;refine ql L n (by omega) X1 _ fun X2 f2=>?_
 refine D_ ?_;rw[hw];refine xD L n w hw4 hf (by omega) X2 _ fun v X3 hO f3=>?_
 have e:gI w n.toNat=cT n:=by unfold cT;rw[hw,Int.toNat_natCast]
 rw[e] at hO;have f12:=f1.trans f2;refine H_ ?_;exact aa (hk v X3 (hO.up f12) (f12.trans f3))
theorem B8(L:ai code)(tk:Tk)(l:List UInt8)(hl:l.length≤1048576):aU L 483 [.sl tk 1 (l.map U)] (.tu [I (cG l).1,I (cG l).2.1,I (cG l).2.2]):=by
 intro H K hk;cases l with
 | nil =>
   rw[List.map_nil];refine ah L xE rfl ?_;refine H_ ?_;exact aa (hk H (Fr.refl _ _))
 | cons c r =>
   rw[List.length_cons] at hl;rw[List.map_cons];have hw:=kJ c;have hc:=c.toNat_lt;have e1:(((r.length+1:Nat):Int)==0)=false:=by simp;omega
   refine ah L xE rfl ?_;refine H_ ?_;rw[e1];refine H_ ?_;refine aV (ak L) (fun(q:Nat)=>[(0,.h (.sl tk 1 (U c::r.map U))),(5,.h (I (2 ^ q:Nat))),(6,.h (I q))]) (fun _=>[]) (fun q X=>X=H∧q≤c.toNat / 64) (fun q=>c.toNat / 64 - q) 0 ?_ ⟨rfl,by omega⟩ ?_
   · exact E_
   rintro q X ⟨rfl,hq⟩;have hq3:q≤3:=by omega
   have hp:2 ^ q≤8:=by
     have:=Nat.pow_le_pow_right (show 0 < 2 by omega) hq3
     exact this
   refine H_ ?_;have e2:IntKind.i64.wrap (IntKind.u8.wrap ((c.toNat:Int).tdiv 64))=((c.toNat / 64:Nat):Int):=by
     rw[show (c.toNat:Int).tdiv 64=((c.toNat / 64:Nat):Int) by rw[Int.tdiv_eq_ediv_of_nonneg (by omega)];omega,IntWalk.u8_in _ ⟨by omega,by omega⟩,eb (by omega) (by omega)]
   rw[e2];(refine ct T_ ?_ ?_<;>intro h)
   · have ni:q < c.toNat / 64:=by have:=of_decide_eq_true h;omega
     refine H_ ?_;have e3:IntKind.i64.wrap (2*((2 ^ q:Nat):Int))=((2 ^ (q+1):Nat):Int):=by
       generalize h2:2 ^ q=p at hp;rw[Nat.pow_succ,h2,eb (by omega) (by omega)];omega
     refine dG (q+1) (by omega) ⟨rfl,ni⟩ ?_
     (refine bw ?_ ?_ ?_<;>(repeat refine bE e3 ?_)<;>exact bA)
   · have kF:q=c.toNat / 64:=by have:=of_decide_eq_false h;omega
     have ew:(2 ^ q:Nat)=iN c:=by rw[iN,kF]
     rw[ew];refine H_ ?_;cases c2:decide (((r.length+1:Nat):Int) < ((iN c:Nat):Int))
     case true =>
       have bN:r.length+1 < iN c:=by have:=of_decide_eq_true c2;omega
       have e:cG (c::r)=(0,0,3):=by rw[cG,if_pos bN]
       rw[e] at hk;refine H_ ?_;exact aa (hk _ (Fr.refl _ _))
     have xZ:iN c≤r.length+1:=by have:=of_decide_eq_false c2;omega
     have e:cG (c::r)=(((dY (c.toNat % 64) (r.take (iN c - 1)):Nat):Int),((iN c:Nat):Int),0):=by rw[cG,if_neg (by omega)]
     rw[e] at hk;refine H_ ?_;have e4:IntKind.i64.wrap ((c.toNat:Int).tmod 64)=((c.toNat % 64:Nat):Int):=by
       rw[show (c.toNat:Int).tmod 64=((c.toNat % 64:Nat):Int) by rw[Int.tmod_eq_emod_of_nonneg (by omega)];omega,eb (by omega) (by omega)]
     rw[e4];have AU:1≤iN c:=by omega
     refine aV (ak L) (fun(q:Nat)=>[(0,.h (.sl tk 1 (U c::r.map U))),(5,.h (I (iN c:Nat))),(7,.h (I (dY (c.toNat % 64) (r.take q):Nat))),(8,.h (I ((q:Int)+1)))]) (fun _=>[]) (fun q Y=>Y=X∧q≤iN c - 1) (fun q=>iN c - q) 0 ?_ ⟨rfl,by omega⟩ ?_
     · have e5:dY (c.toNat % 64) (r.take 0)=c.toNat % 64:=by rw[List.take_zero];rfl
       have e7:((0:Nat):Int)+1=1:=rfl;(refine bw ?_ ?_ ?_<;>(repeat refine bE (And.intro e5 e7) ?_)<;>exact bA)
     rintro q Y ⟨rfl,hq2⟩;have ZW:=ph (r.take q) (c.toNat % 64);have VG:(r.take q).length=q:=by rw[List.length_take];omega
     rw[VG] at ZW;have Aeh:dY (c.toNat % 64) (r.take q) < 4611686018427387904:=by
       refine Nat.lt_of_lt_of_le ZW ?_;have h1:(256:Nat) ^ q≤256 ^ 7:=Nat.pow_le_pow_right (by omega) (by omega)
       exact Nat.mul_le_mul (show c.toNat % 64+1≤64 by omega) h1
     refine H_ ?_;(refine ct T_ ?_ ?_<;>intro h3)
     · have ni:q+1 < iN c:=by have:=of_decide_eq_true h3;omega
       have hqr:q < r.length:=by omega
       have Aei:dY (c.toNat % 64) (r.take q) < 18014398509481984:=by
         refine Nat.lt_of_lt_of_le ZW ?_;have h1:(256:Nat) ^ q≤256 ^ 6:=Nat.pow_le_pow_right (by omega) (by omega)
         exact Nat.mul_le_mul (show c.toNat % 64+1≤64 by omega) h1
       refine H_ ?_;have hrq:=r[q].toNat_lt;have e6:IntKind.i64.wrap (256*((dY (c.toNat % 64) (r.take q):Nat):Int)+IntKind.i64.wrap (r[q].toNat:Int))=((dY (c.toNat % 64) (r.take (q+1)):Nat):Int):=by
         rw[eb (n:=(r[q].toNat:Int)) (by omega) (by omega),eb (by omega) (by omega),List.take_succ_eq_append_getElem hqr,mL]
         show _=(((dY (c.toNat % 64) (r.take q))*256+r[q].toNat:Nat):Int);omega
       have e8:((q:Int)+1+1)=(((q+1:Nat):Int)+1):=by omega
       refine dG (q+1) (by omega) ⟨rfl,by omega⟩ ?_
       (refine bw ?_ ?_ ?_<;>(repeat refine bE (And.intro e6 e8) ?_)<;>exact bA)
     · have kF:q=iN c - 1:=by have:=of_decide_eq_false h3;omega
       subst kF;refine H_ ?_;exact aa (hk _ (Fr.refl _ _))
theorem pc(L:ai code)(tk:Tk)(l:List UInt8)(hl:l.length≤1048576):aU L 469 [.sl tk 1 (l.map U)] (.tu [I (ar l).1,I (ar l).2.1,I (ar l).2.2]):=by
 intro H K hk;refine ah L F' rfl ?_;refine D_ ?_;refine B8 L tk l hl H _ fun X f=>?_;have hb:=F8 l;unfold ar at hk;refine H_ ?_;cases c1:((cG l).2.2 != 0)
 case true =>
   have h1:(cG l).2.2≠0:=by simpa using c1
   have h0:¬((cG l).2.2=0∧dP (cG l).1 < (cG l).2.1):=fun h=>h1 h.1;rw[if_neg h0] at hk;have hz:(cG l).1=0∧(cG l).2.1=0:=by
     cases l with
     | nil=>exact⟨rfl,rfl⟩
     | cons c r =>
       rw[cG] at h1 ⊢;split at h1;{rw[if_pos (by assumption)];exact⟨rfl,rfl⟩};{exact absurd rfl h1}
   rw[hz.1,hz.2] at hk;refine H_ ?_;exact aa (hk _ f)
 have h0:(cG l).2.2=0:=by simpa using c1
 refine D_ ?_;refine ql L _ (by omega) X _ fun X2 f2=>?_
 refine H_ ?_;cases c2:decide (dP (cG l).1 < (cG l).2.1)
 case false =>
   rw[if_neg (fun h=>of_decide_eq_false c2 h.2),h0] at hk;refine H_ ?_;exact aa (hk _ (f.trans f2))
 rw[if_pos ⟨h0,of_decide_eq_true c2⟩] at hk;refine H_ ?_;exact aa (hk _ (f.trans f2))
end Sm
namespace Sm
open Go
structure Rd where
 b:List UInt8
 e:Int
def bC(b:List UInt8)(db:Int):Int×Int×Int:=if (ar b).2.2=0∧db < (ar b).1 then (0,0,5) else ar b
def Rd.fail(r:Rd)(e:Int):Rd:=if e≠0∧r.e=0 then ⟨r.b,e⟩ else r
def Rd.num(r:Rd)(db:Int):Rd×Int:=
 if r.e≠0 then (r,0) else if (bC r.b db).2.2≠0 then (⟨r.b,(bC r.b db).2.2⟩,0) else (⟨r.b.drop (bC r.b db).2.1.toNat,0⟩,(bC r.b db).1)
def Rd.raw(r:Rd)(n:Int):Rd×List UInt8:=
 if r.e≠0 then (r,[]) else if n < 0 then (⟨r.b,2⟩,[]) else if (r.b.length:Int) < n then (⟨r.b,3⟩,[]) else (⟨r.b.drop n.toNat,0⟩,r.b.take n.toNat)
def mN(b:List UInt8)(db:Int):Int:=if (bC b db).2.2=0∧(b.length:Int) - (bC b db).2.1 < (bC b db).1 then 3 else (bC b db).2.2
def Rd.text(r:Rd)(db:Int):Rd×List UInt8:=
 if r.e≠0 then (r,[]) else if mN r.b db≠0 then (⟨r.b,mN r.b db⟩,[]) else Rd.raw ⟨r.b.drop (bC r.b db).2.1.toNat,0⟩ (bC r.b db).1
def Rd.byte(r:Rd):Rd×UInt8:=((r.raw 1).1,(r.raw 1).2.headD 0)
def Rd.done(r:Rd):Int:=if r.e≠0 then r.e else if 0 < r.b.length then 4 else 0
def RD(X:ab)(p:Nat)(r:Rd):Prop:=∃tk,X p=some (.obj [.sl tk 1 (r.b.map U),I r.e])
theorem jm(l:List UInt8):0≤(ar l).1∧(ar l).1 < 4611686018427387904∧0≤(ar l).2.1∧(ar l).2.1≤8∧0≤(ar l).2.2∧(ar l).2.2≤4:=by
 have h:=F8 l;unfold ar;split
 · decide
 · omega
theorem OM(l:List UInt8)(h:(cG l).2.2=0):(cG l).2.1≤l.length:=by
 cases l with
 | nil=>decide
 | cons c r =>
   rw[cG] at h ⊢;split;{simp only[List.length_cons];omega};{simp only[List.length_cons];omega}
theorem cM(l:List UInt8)(h:(ar l).2.2=0):(ar l).2.1≤l.length:=by
 unfold ar at h ⊢;split;{rename_i h2;rw[if_pos h2] at h;cases h};{rename_i h2;rw[if_neg h2] at h;exact OM l h}
theorem Aep(l:List UInt8)(m:Int):0≤(bC l m).1∧(bC l m).1 < 4611686018427387904∧0≤(bC l m).2.1∧(bC l m).2.1≤8∧0≤(bC l m).2.2∧(bC l m).2.2≤5:=by
 have h:=jm l;unfold bC;split
 · decide
 · omega
theorem tZ(l:List UInt8)(m:Int)(h:(bC l m).2.2=0):(bC l m).2.1≤l.length:=by
 unfold bC at h ⊢;split;{rename_i h2;rw[if_pos h2] at h;cases h};{rename_i h2;rw[if_neg h2] at h;exact cM l h}
attribute [local irreducible] aH aj aX bk aA aL bn DK RK JK BR G3 bh Spec Tok Fr CV
theorem IF(L:ai code)(tk:Tk)(l:List UInt8)(H:ab)(K)(hk:∀p X,H p=none→RD X p ⟨l,0⟩→Fr [] H X→K (ptr p) X):Spec L.P L.ν 458 [.sl tk 1 (l.map U)] H K:=by
 refine ah L Ga rfl ?_;refine H_ ?_;refine AM T_ ?_;intro p X hp hX fX _;refine H_ ?_;exact aa (hk p X hp ⟨tk,hX⟩ fX)
theorem gQ(L:ai code)(p:Nat)(r:Rd)(e:Int)(H:ab)(hD:RD H p r)(K)(hk:∀Y,RD Y p (r.fail e)→Fr [p] H Y→K (B ((r.fail e).e != 0)) Y):Spec L.P L.ν 476 [ptr p,I e] H K:=by
 obtain⟨tk,hH⟩:=hD;unfold Rd.fail at hk;refine ah L Gb rfl ?_;refine H_ ?_;cases c1:(e != 0)
 case false =>
   have h0:e=0:=by simpa using c1
   rw[if_neg (fun h=>h.1 h0)] at hk;refine H_ ?_;exact aa (hk H ⟨tk,hH⟩ (Fr.refl _ _))
 have h0:e≠0:=by simpa using c1
 refine H_ ?_;cases c2:(r.e==0)
 case false =>
   have h1:r.e≠0:=by simpa using c2
   rw[if_neg (fun h=>h1 h.2)] at hk;refine H_ ?_;exact aa (hk H ⟨tk,hH⟩ (Fr.refl _ _))
 have h1:r.e=0:=by simpa using c2
 rw[if_pos ⟨h0,h1⟩] at hk;refine H_ ?_;refine rJ T_ ?_;intro Y hY fY;refine H_ ?_;exact aa (hk Y ⟨tk,hY⟩ fY)
theorem ua(L:ai code)(p:Nat)(r:Rd)(m:Int)(hl:r.b.length≤1048576)(H:ab)(hD:RD H p r)(K)(hk:∀Y,Fr [] H Y→K (.tu [I (bC r.b m).1,I (bC r.b m).2.1,I (bC r.b m).2.2]) Y):Spec L.P L.ν 475 [ptr p,I m] H K:=by
 obtain⟨tk,hH⟩:=hD;unfold bC at hk;refine ah L Gc rfl ?_;refine D_ ?_;refine nR L tk r.b hl H _ fun X f=>?_;refine H_ ?_;cases c1:((ar r.b).2.2==0)
 case false =>
   rw[if_neg (fun h=>by simp[h.1] at c1)] at hk
   refine H_ ?_;exact aa (hk X f)
 have h0:(ar r.b).2.2=0:=by simpa using c1
 refine H_ ?_;cases c2:decide (m < (ar r.b).1)
 case false =>
   rw[if_neg (fun h=>of_decide_eq_false c2 h.2)] at hk;refine H_ ?_;exact aa (hk X f)
 rw[if_pos ⟨h0,of_decide_eq_true c2⟩] at hk;refine H_ ?_;exact aa (hk X f)
theorem qe(L:ai code)(p:Nat)(r:Rd)(m:Int)(hl:r.b.length≤1048576)(H:ab)(hD:RD H p r)(K)(hk:∀Y,RD Y p (r.num m).1→Fr [p] H Y→K (I (r.num m).2) Y):Spec L.P L.ν 460 [ptr p,I m] H K:=by
 have AS:=hD;obtain⟨tk,hH⟩:=hD;unfold Rd.num at hk;refine ah L Gd rfl ?_;refine H_ ?_;cases c1:(r.e != 0)
 case true =>
   rw[if_pos (by simpa using c1)] at hk
   refine H_ ?_;exact aa (hk H AS (Fr.refl _ _))
 have h0:r.e=0:=by simpa using c1
 rw[if_neg (by simpa using h0)] at hk
 refine D_ ?_;refine ua L p r m hl H AS _ fun X f=>?_;have hX:=f.get (by simp) hH
 have hb:=Aep r.b m;refine D_ ?_;refine gQ L p r _ X ⟨tk,hX⟩ _ fun Y hY fY=>?_;unfold Rd.fail at hY ⊢
 by_cases h1:(bC r.b m).2.2=0
 · rw[if_neg (fun h=>h.1 h1)] at hY ⊢;rw[if_neg (by simpa using h1)] at hk
   have hle:=tZ r.b m h1;obtain⟨yA,rT⟩:=hY;rw[h0,show ((0:Int) != 0)=false from rfl];refine H_ ?_;apply iL (l:=(bC r.b m).2.1.toNat) (h:=r.b.length);rfl;(focus (show some (bC r.b m).2.1=some _;rw[Int.toNat_of_nonneg hb.2.2.1]));(focus (show some _=some _;simp));(focus omega);(focus simp);intro tk3;have e1:((r.b.map U).drop (bC r.b m).2.1.toNat).take (r.b.length - (bC r.b m).2.1.toNat)=(r.b.drop (bC r.b m).2.1.toNat).map U:=by
     rw[List.take_of_length_le (by simp),List.map_drop]
   rw[e1];refine H_ ?_;refine rJ T_ ?_;intro Z hZ fZ;refine H_ ?_;rw[h0] at hZ;exact aa (hk Z ⟨tk3,hZ⟩ ((f.mono (by simp)).trans (fY.trans fZ)))
 · rw[if_pos ⟨h1,h0⟩] at hY ⊢;rw[if_pos h1] at hk;rw[show ((bC r.b m).2.2 != 0)=true by simpa using h1]
   refine H_ ?_;exact aa (hk Y hY ((f.mono (by simp)).trans fY))
end Sm
namespace Sm
open Go
attribute [local irreducible] aH aj aX bk aA aL bn DK RK JK BR G3 bh Spec Tok Fr CV
theorem qf(L:ai code)(p:Nat)(r:Rd)(n:Int)(hl:r.b.length≤1048576)(H:ab)(hD:RD H p r)(K)(hk:∀Y,RD Y p (r.raw n).1→Fr [p] H Y→K (S (r.raw n).2) Y):Spec L.P L.ν 462 [ptr p,I n] H K:=by
 have AS:=hD;obtain⟨tk,hH⟩:=hD;unfold Rd.raw at hk;refine ah L Ge rfl ?_;refine H_ ?_;cases c1:(r.e != 0)
 case true =>
   rw[if_pos (by simpa using c1)] at hk
   refine H_ ?_;exact aa (hk H AS (Fr.refl _ _))
 have h0:r.e=0:=by simpa using c1
 rw[if_neg (by simpa using h0)] at hk
 refine H_ ?_;cases c2:decide (n < 0)
 case true =>
   rw[if_pos (of_decide_eq_true c2)] at hk;refine D_ ?_;refine gQ L p r 2 H AS _ fun Y hY fY=>?_;have e:r.fail 2=⟨r.b,2⟩:=by unfold Rd.fail;rw[if_pos ⟨by decide,h0⟩]
   rw[e] at hY;refine H_ ?_;exact aa (hk Y hY fY)
 have JA:0≤n:=by have:=of_decide_eq_false c2;omega
 rw[if_neg (by omega)] at hk
 refine H_ ?_;cases c3:decide ((r.b.length:Int) < n)
 case true =>
   rw[if_pos (of_decide_eq_true c3)] at hk;refine D_ ?_;refine gQ L p r 3 H AS _ fun Y hY fY=>?_;have e:r.fail 3=⟨r.b,3⟩:=by unfold Rd.fail;rw[if_pos ⟨by decide,h0⟩]
   rw[e] at hY;refine H_ ?_;exact aa (hk Y hY fY)
 have Va:n≤(r.b.length:Int):=by have:=of_decide_eq_false c3;omega
 rw[if_neg (by omega)] at hk
 obtain⟨m,rfl⟩:∃m:Nat,n=m:=⟨n.toNat,by omega⟩
 rw[Int.toNat_natCast] at hk;refine H_ ?_;apply iL (l:=0) (h:=m);rfl;rfl;rfl;(focus omega);(focus (simp;omega));intro yA;rw[show ((r.b.map U).drop 0).take (m - 0)=(r.b.take m).map U by rw[List.drop_zero,Nat.sub_zero,List.map_take]]
 refine H_ ?_;apply iL (l:=m) (h:=r.b.length);rfl;rfl;(focus (show some _=some _;simp));(focus omega);(focus simp);intro tk3;rw[show ((r.b.map U).drop m).take (r.b.length - m)=(r.b.drop m).map U by rw[List.take_of_length_le (by simp),List.map_drop]]
 refine H_ ?_;refine rJ T_ ?_;intro Z hZ fZ;refine H_ ?_;rw[h0] at hZ;exact aa (hk Z ⟨tk3,hZ⟩ fZ)
theorem BE(L:ai code)(p:Nat)(r:Rd)(m:Int)(hl:r.b.length≤1048576)(H:ab)(hD:RD H p r)(K)(hk:∀Y,RD Y p (r.text m).1→Fr [p] H Y→K (S (r.text m).2) Y):Spec L.P L.ν 461 [ptr p,I m] H K:=by
 have AS:=hD;obtain⟨tk,hH⟩:=hD;unfold Rd.text at hk;refine ah L Gf rfl ?_;refine H_ ?_;cases c1:(r.e != 0)
 case true =>
   rw[if_pos (by simpa using c1)] at hk
   refine H_ ?_;exact aa (hk H AS (Fr.refl _ _))
 have h0:r.e=0:=by simpa using c1
 rw[if_neg (by simpa using h0)] at hk
 refine D_ ?_;refine ua L p r m hl H AS _ fun X f=>?_;have hX:=f.get (by simp) hH
 have hb:=Aep r.b m;have hle:=tZ r.b m;have hE:mN r.b m=if (bC r.b m).2.2=0∧(r.b.length:Int) - (bC r.b m).2.1 < (bC r.b m).1 then 3 else (bC r.b m).2.2:=rfl
 generalize hs:bC r.b m=s at *;obtain⟨n,used,e⟩:=s;simp only at hb hle hE hk ⊢;have key:∀(tk:Tk) (X':ab) (bx:List (Nat×List HV)),True:=fun _ _ _=>trivial;refine H_ ?_;cases c2:(e==0)
 case false =>
   have h1:e≠0:=by simpa using c2
   rw[if_neg (fun h=>h1 h.1)] at hE;rw[hE,if_pos h1] at hk;refine D_ ?_;refine gQ L p r e X ⟨tk,hX⟩ _ fun Y hY fY=>?_;have ef:r.fail e=⟨r.b,e⟩:=by unfold Rd.fail;rw[if_pos ⟨h1,h0⟩]
   rw[ef] at hY ⊢;rw[show (((⟨r.b,e⟩:Rd).e) != 0)=true by simpa using h1]
   refine H_ ?_;exact aa (hk Y hY ((f.mono (by simp)).trans fY))
 have h1:e=0:=by simpa using c2
 subst h1;have HX:=hle rfl;refine H_ ?_;cases c3:decide ((r.b.length:Int) - used < n)
 case true =>
   rw[if_pos ⟨rfl,of_decide_eq_true c3⟩] at hE;rw[hE,if_pos (by decide)] at hk
   refine D_ ?_;refine gQ L p r 3 X ⟨tk,hX⟩ _ fun Y hY fY=>?_;have ef:r.fail 3=⟨r.b,3⟩:=by unfold Rd.fail;rw[if_pos ⟨by decide,h0⟩]
   rw[ef] at hY ⊢;rw[show (((⟨r.b,3⟩:Rd).e) != 0)=true from rfl];refine H_ ?_;exact aa (hk Y hY ((f.mono (by simp)).trans fY))
 have h3:=of_decide_eq_false c3;rw[if_neg (fun h=>h3 h.2)] at hE;rw[hE,if_neg (by simp)] at hk
 refine D_ ?_;refine gQ L p r 0 X ⟨tk,hX⟩ _ fun Y hY fY=>?_;have ef:r.fail 0=r:=by unfold Rd.fail;rw[if_neg (fun h=>h.1 rfl)]
 rw[ef] at hY ⊢;obtain⟨yA,rT⟩:=hY;rw[h0,show ((0:Int) != 0)=false from rfl];refine H_ ?_;apply iL (l:=used.toNat) (h:=r.b.length);rfl;(focus (show some used=some _;rw[Int.toNat_of_nonneg hb.2.2.1]));(focus (show some _=some _;simp));(focus omega);(focus simp);intro tk3;rw[show ((r.b.map U).drop used.toNat).take (r.b.length - used.toNat)=(r.b.drop used.toNat).map U by rw[List.take_of_length_le (by simp),List.map_drop]]
 refine H_ ?_;refine rJ T_ ?_;intro Z hZ fZ;rw[h0] at hZ;refine D_ ?_;refine qf L p ⟨r.b.drop used.toNat,0⟩ n (by simp;omega) Z ⟨tk3,hZ⟩ _ fun W hW fW=>?_
 refine H_ ?_;exact aa (hk W hW ((f.mono (by simp)).trans (fY.trans (fZ.trans fW))))
theorem BD(L:ai code)(p:Nat)(r:Rd)(hl:r.b.length≤1048576)(H:ab)(hD:RD H p r)(K)(hk:∀Y,RD Y p r.byte.1→Fr [p] H Y→K (U r.byte.2) Y):Spec L.P L.ν 459 [ptr p] H K:=by
 have ja:∀Y,RD Y p (r.raw 1).1→Fr [p] H Y→K (U ((r.raw 1).2.headD 0)) Y:=hk;clear hk;refine ah L Gg rfl ?_;refine D_ ?_;refine qf L p r 1 hl H hD _ fun Y hY fY=>?_;generalize (r.raw 1).2=s at *;cases s with
 | nil =>
   have h5:K (U 0) Y:=ja Y hY fY;refine H_ ?_;rw[show (!(([]:List UInt8)==[]))=false from rfl];refine H_ ?_;exact aa h5
 | cons c cs =>
   have h5:K (U c) Y:=ja Y hY fY;refine H_ ?_;rw[show (!((c::cs)==([]:List UInt8)))=true from rfl];refine H_ ?_;exact aa h5
theorem IY(L:ai code)(p:Nat)(r:Rd)(H:ab)(hD:RD H p r)(K)(hk:K (I r.e) H):Spec L.P L.ν 477 [ptr p] H K:=by
 obtain⟨tk,hH⟩:=hD;refine ah L Gh rfl ?_;refine H_ ?_;exact aa hk
theorem BG(L:ai code)(p:Nat)(r:Rd)(H:ab)(hD:RD H p r)(K)(hk:K (I r.done) H):Spec L.P L.ν 463 [ptr p] H K:=by
 have AS:=hD;obtain⟨tk,hH⟩:=hD;unfold Rd.done at hk;refine ah L Gi rfl ?_;refine D_ ?_;refine IY L p r H AS _ ?_;refine H_ ?_;cases c1:(r.e != 0)
 case true =>
   rw[if_pos (by simpa using c1)] at hk
   refine H_ ?_;exact aa hk
 rw[if_neg (by simpa using c1)] at hk
 refine H_ ?_;cases c2:decide (0 < (r.b.length:Int))
 case true =>
   rw[if_pos (by have:=of_decide_eq_true c2;omega)] at hk
   refine H_ ?_;exact aa hk
 rw[if_neg (by have:=of_decide_eq_false c2;omega)] at hk
 refine H_ ?_;exact aa hk
end Sm
