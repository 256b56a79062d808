/-
  J30,J31,J32
-/
import Derived.Test.YtegmmhldpmmkeaaGreatDoorSmJI
import Derived.Test.YtegmmhldpmmkeaaGreatDoorSmJG
import Derived.KernelRfl
set_option linter.unusedVariables false
set_option linter.unusedSimpArgs false
set_option maxRecDepth 10000
set_option maxHeartbeats 4000000
namespace Sm
open Go
structure Ac where
 kind:UInt8
 r:Rc
 d:Ak
def ZN(a:Ak):List HV:=[U a.kind,S a.p,S a.q,.sl .no 1 (a.b.map U),I a.n,B a.done]
def uc(a:Ac):List HV:=U a.kind::(dE a.r++ZN a.d)
def ZX(a:Ac):HV:=.ag (uc a)
def Aex(a:Ac):Bool:=!decide (300 < (a.r.path.length:Int))&&(!decide (300 < (a.d.b.length:Int))&&(!decide (300 < (a.d.p.length:Int))&&(!decide (300 < (a.d.q.length:Int))&&!decide (2199023255552 < a.r.id))))
theorem Aeq(a:Ac):Aex a=(!decide (300 < (a.r.path.length:Int))&&(!decide (300 < (a.d.b.length:Int))&&(!decide (300 < (a.d.p.length:Int))&&(!decide (300 < (a.d.q.length:Int))&&!decide (2199023255552 < a.r.id))))):=rfl
def AeG(l:List Ac)(db:Int):Bool:=!decide (db < (l.length:Int))&&l.all Aex
section
variable {S':aJ} {sl:List (Nat×EV)} {bx:List (Nat×List HV)} {H:ab} {K:Env→ab→Prop} {os:List aF} {d:Nat}
theorem AeS{z:List HV}{x0 x1 x2 x3 x4 x5:bj}{k:UInt8}{id size off:Int}{p s:List UInt8}(hz:z=dE zR)(hk:(M sl bx).hv x0=some (U k))(h0:(M sl bx).hv x1=some (I id))(h1:(M sl bx).hv x2=some (S p))(h2:(M sl bx).hv x3=some (.ag (fq s)))(h3:(M sl bx).hv x4=some (I size))(h4:(M sl bx).hv x5=some (I off))
   (h:aj S' os (M ((d,.h (bc ⟨k,id,p,s,size,off⟩))::sl) bx) H K):aj S' (⟨some d,.build z [(0,1,x0),(1,1,x1),(2,1,x2),(3,32,x3),(35,1,x4),(36,1,x5)],none⟩::os) (M sl bx) H K:=by
 subst hz;refine aG rfl ?_ h;simp only[aw.ev,List.map_cons,List.map_nil,hk,h0,h1,h2,h3,h4];have e:fQ (dE zR) [(0,1,some (U k)),(1,1,some (I id)),(2,1,some (S p)),(3,32,some (HV.ag (fq s))),(35,1,some (I size)),(36,1,some (I off))]=some (dE ⟨k,id,p,s,size,off⟩):=
   (bW (z:=dE zR) (z':=dE ⟨k,0,[],[],0,0⟩) (h:=U k) rfl rfl rfl rfl).trans <| (bW (z':=dE ⟨k,id,[],[],0,0⟩) (h:=I id) rfl rfl rfl rfl).trans <| (bW (z':=dE ⟨k,id,p,[],0,0⟩) (h:=S p) rfl rfl rfl rfl).trans <| (bW (z':=dE ⟨k,id,p,s,0,0⟩) (h:=.ag (fq s)) rfl rfl rfl (II ⟨k,id,p,[],0,0⟩ s)).trans <| (bW (z':=dE ⟨k,id,p,s,size,0⟩) (h:=I size) rfl rfl rfl rfl).trans <| (bW (z':=dE ⟨k,id,p,s,size,off⟩) (h:=I off) rfl rfl rfl rfl).trans rfl
 rw[e];rfl
end
attribute [local irreducible] aH aj aX ju FD DR DF kS bk aA aL bn DK RK JK BR G3 bh Spec Tok Fr CV
theorem AeT(L:ai code)(r:Rc):Pure L 383 [bc r] (bc r):=by
 intro H K hk;refine ah L O7 rfl ?_;refine G_ ?_;refine ep (v:=bc r) (cs:=dE r) rfl rfl rfl rfl rfl ?_;refine G_ ?_;apply ay (v:=.ag (fq r.sum));rfl;rfl;rfl;refine G_ ?_;refine AeS (s:=r.sum) rfl rfl rfl rfl rfl rfl rfl ?_;refine av (v:=bc r) (bI:=dE r) rfl rfl rfl rfl rfl rfl rfl rfl ?_;refine G_ ?_;exact aa hk
theorem AeU(L:ai code)(l:List Ac)(db:Int)(hm:db≤1048576):Pure L 377 [.sl .no 44 (l.map ZX),I db] (B (AeG l db)):=by
 intro H K hk;unfold AeG at hk;refine ah L AeN rfl ?_;refine G_ ?_;cases c1:decide (db < (l.length:Int))
 case true =>
   rw[c1] at hk;refine G_ ?_;exact aa hk
 rw[c1,Bool.not_false,Bool.true_and] at hk;have c1:=of_decide_eq_false c1;refine G_ ?_;refine aV (ak L) (fun(j:Nat)=>[(0,.h (.sl .no 44 (l.map ZX))),(5,.h (I j))]) (fun _=>[]) (fun j X=>X=H∧j≤l.length∧l.all Aex=(l.drop j).all Aex) (fun j=>l.length - j) 0 ?_ ⟨rfl,by omega,rfl⟩ ?_
 · exact E_
 rintro j X ⟨rfl,hj,hS⟩;refine G_ ?_;(refine ct T_ ?_ ?_<;>intro h)
 · have bN:j < l.length:=by have:=of_decide_eq_true h;omega
   rw[List.drop_eq_getElem_cons bN,List.all_cons] at hS;have eB:(l.map ZX)[j]? = some (ZX l[j]):=by rw[List.getElem?_map,List.getElem?_eq_getElem bN];rfl
   rw[Aeq] at hS;generalize l[j]=a at *;refine G_ ?_;refine eK (cs:=uc a) rfl rfl rfl eB rfl ?_;refine G_ ?_;cases e1:decide (300 < (a.r.path.length:Int))
   case true =>
     rw[e1] at hS;simp only[Bool.not_true,Bool.false_and] at hS;rw[hS] at hk;refine G_ ?_;exact aa hk
   rw[e1] at hS;refine G_ ?_;refine eK (cs:=uc a) rfl rfl rfl eB rfl ?_;refine G_ ?_;cases e2:decide (300 < (a.d.b.length:Int))
   case true =>
     rw[e2] at hS;simp only[Bool.not_true,Bool.false_and,Bool.and_false] at hS;rw[hS] at hk;refine G_ ?_;exact aa hk
   rw[e2] at hS;refine G_ ?_;refine eK (cs:=uc a) rfl rfl rfl eB rfl ?_;refine G_ ?_;cases e3:decide (300 < (a.d.p.length:Int))
   case true =>
     rw[e3] at hS;simp only[Bool.not_true,Bool.false_and,Bool.and_false] at hS;rw[hS] at hk;refine G_ ?_;exact aa hk
   rw[e3] at hS;refine G_ ?_;refine eK (cs:=uc a) rfl rfl rfl eB rfl ?_;refine G_ ?_;cases e4:decide (300 < (a.d.q.length:Int))
   case true =>
     rw[e4] at hS;simp only[Bool.not_true,Bool.false_and,Bool.and_false] at hS;rw[hS] at hk;refine G_ ?_;exact aa hk
   rw[e4] at hS;refine G_ ?_;refine eK (cs:=uc a) rfl rfl rfl eB rfl ?_;refine G_ ?_;cases e5:decide (2199023255552 < a.r.id)
   case true =>
     rw[e5] at hS;simp only[Bool.not_true,Bool.false_and,Bool.and_false] at hS;rw[hS] at hk;refine G_ ?_;exact aa hk
   rw[e5] at hS;simp only[Bool.not_false,Bool.true_and] at hS;refine G_ ?_;refine dG (j+1) (by omega) ⟨rfl,bN,hS⟩ ?_
   exact E_
 · have kF:j=l.length:=by have:=of_decide_eq_false h;omega
   subst kF;rw[List.drop_length,List.all_nil] at hS;rw[hS] at hk;refine G_ ?_;exact aa hk
end Sm
namespace Sm
open Go
def OF:Nat→Nat→List UInt8
 | 0,n=>[]
 | f+1,n=>if n < 10 then [UInt8.ofNat (48+n)] else OF f (n / 10)++[UInt8.ofNat (48+n % 10)]
def yX(n:Nat):List UInt8:=OF (n+1) n
theorem zJ:∀(f n:Nat),(OF f n).length≤f
 | 0,n=>Nat.le_refl _
 | f+1,n=>by
   rw[OF];split;{simp};{have:=zJ f (n / 10);simp only[List.length_append,List.length_cons,List.length_nil];omega}
theorem LQ(n:Nat):(yX n).length≤n+1:=zJ _ _
structure JC (L:ai code) where
 cl:Cl L
 it:∀(n:Nat) (hn:n < 4398046511104) (H:ab) (K:HV→ab→Prop) (hk:∀X,Fr [] H X→K (S (yX n)) X),Spec L.P L.ν 428 [I n] H K
def LR:List UInt8:=[46,115,117,109,112,116,101,114,45,116]
def vQ(j:Jn):Bool:=decide (2048 < j.n)&&decide (2*((bX (bD j.s)).length:Int) < j.n)
theorem fN{e:Env}{H:ab}{d n b off t:Nat}{w:Bool}{agg:Bool}{x:bj}{cs:List HV}{v:HV}(ha:e.fg x=some (.h (.v (.pointer (some ⟨b,off,none⟩)))))(hk:H b=some (.obj cs))(hv:cP agg n off cs=some v)(hg:e.get d=some (.h v)):AZ ⟨some d,.load agg n x,some (t,w)⟩ e H:=
 tU (x:=.h v) (by simp only[aw.ev,ha,hk,hv];rfl) hg
attribute [local irreducible] aH aj aX ju FD DR DF kS bk aA aL bn DK RK JK BR G3 bh Spec Tok Fr CV
theorem B1(L:ai code)(C:JC L)(n:Nat)(hn:n < 4398046511104)(H:ab)(K:HV→ab→Prop)(hk:∀X,Fr [] H X→K (S (LR++yX n)) X):Spec L.P L.ν 396 [I n] H K:=by
 refine ah L FK rfl ?_;refine C_ ?_;refine C.it n hn H _ fun X fX=>?_;refine G_ ?_;refine KA (a:=LR) (b:=yX n) rfl rfl ?_ ?_;{have:=LQ n;show 10+_≤_;omega};refine G_ ?_;exact aa (hk X fX)
theorem tV(L:ai code)(a b:Nat)(j:Jn)(hs:j8 j.s)(H:ab)(hJ:KJ H a b j)(K:HV→ab→Prop)(hk:∀X,Fr [] H X→K (B (vQ j)) X):Spec L.P L.ν 388 [ptr a] H K:=by
 have hlen:=hs.len;have Qi:=hs.nx;have zZ:=xq hs;unfold vQ at hk;have hJ':H a=_:=hJ;refine ah L FL rfl ?_;refine G_ ?_;cases c1:decide (2048 < j.n)
 case false =>
   rw[c1] at hk;refine G_ ?_;exact aa (hk H (Fr.refl _ _))
 rw[c1] at hk;refine G_ ?_;apply bz (v:=fD j.s);rfl;(focus exact hJ);rfl;refine C_ ?_;refine qZ L j.s (by omega) (fun p hp=>by have:=hs.lt p hp;omega) (by omega) H _ fun X fX=>?_
 have hJX:=hJ.dt fX;refine ax ?_;refine ee rfl (fN (v:=I j.n) rfl hJX rfl rfl) ?_;refine C_ ?_;refine ot L .no (bD j.s) (by have:=lC j.s;omega) (fun r hr=>by have:=(eW (mK hs r hr).1).2.2.2.1;omega) X _ fun Y fY=>?_
 generalize bX (bD j.s)=x at *;refine ax ?_;refine ee rfl (fN (v:=I j.n) rfl (hJX.dt fY) rfl rfl) ?_;refine G_ ?_;exact aa (hk Y (fX.trans fY))
end Sm
namespace Sm
open Go
structure JS (H X:ab) (b a:Nat) (h:Hd) (d:Dk) (j:Jn):Prop where
 kd:KD X b h d
 kj:KJ X a b j
 fr:Fr [] H X
 nw:∀c∈a::h.bs b,H c=none
 na:a∉h.bs b
theorem JS.ds{H X:ab}{b a:Nat}{h:Hd}{d:Dk}{j:Jn}(s:JS H X b a h d j):DS H X b h d:=⟨s.kd,s.fr,fun c hc=>s.nw c (List.mem_cons_of_mem _ hc)⟩
theorem JS.dt{H X Y:ab}{b a:Nat}{h:Hd}{d:Dk}{j:Jn}(s:JS H X b a h d j)(f:Fr [] X Y):JS H Y b a h d j:=⟨s.kd.dt f,s.kj.dt f,s.fr.trans f,s.nw,s.na⟩
theorem JS.step{H X Y:ab}{b a:Nat}{h h':Hd}{d d':Dk}{j j':Jn}(s:JS H X b a h d j)(k:KD Y b h' d')(o:Own X Y (a::h.bs b) (a::h'.bs b))(kj:KJ Y a b j')(na:a∉h'.bs b):JS H Y b a h' d' j':=
 ⟨k,kj,Fr.sQ fun c r _ hr=>o.get (fun hm=>by rw[s.nw c hm] at hr;cases hr) (s.fr.get (by simp) hr),fun c hc=>(o.nw c hc).elim (s.nw c) fun h0=>s.fr.bM h0,na⟩
theorem JS.Aa3{H X Y:ab}{b a:Nat}{h h':Hd}{d d':Dk}{j:Jn}(s:JS H X b a h d j)(k:KD Y b h' d')(o:Own X Y (h.bs b) (h'.bs b)):JS H Y b a h' d' j:=s.step k (o.cons a) (o.get s.na s.kj) (o.apart s.na s.kj)
theorem JS.opened{H X Y:ab}{b a:Nat}{h h':Hd}{d d':Dk}{j':Jn}(s:DS H X b h d)(k:KD Y b h' d')(o:Own X Y (h.bs b) (a::h'.bs b))(kj:KJ Y a b j')(na:a∉h'.bs b):JS H Y b a h' d' j':=
 ⟨k,kj,Fr.sQ fun c r _ hr=>o.get (fun hm=>by rw[s.nw c hm] at hr;cases hr) (s.fr.get (by simp) hr),fun c hc=>(o.nw c hc).elim (s.nw c) fun h0=>s.fr.bM h0,na⟩
def r0:Rc:=⟨0,0,[97],VJ,3,0⟩
def r1:Rc:=⟨0,0,[97],VJ,0,0⟩
def s1:ek:=⟨[⟨0,[97],VJ,3,0⟩],1⟩
theorem ro0:cz r0=0:=by decide
theorem ro1:cz r1=0:=by decide
theorem Aa4:bF z0 r0=(s1,true):=by rfl
theorem AdE:(bF s1 r1).2=false:=by rfl
theorem AdG:(bX (bD s1)).length≤100:=by decide +kernel
theorem Aa5:LR++yX 12=[46,115,117,109,112,116,101,114,45,116,49,50]:=by decide
def z8:Dk:=(cL (eD 1000)).1
def Bs:Dk:=(ou z8 ⟨z0,0,false⟩ r0).1
def Cc:Dk:=(cL (Bs.ky 0 [])).1
theorem aw1:cL (eD 1000)=(z8,some ⟨z0,0,false⟩,0):=Prod.ext rfl (show (cL (eD 1000)).2=(some ⟨z0,0,false⟩,0) by kernel_rfl)
theorem aw2:z8.ops=3:=by kernel_rfl
theorem aw3:ou z8 ⟨z0,0,false⟩ r0=(Bs,⟨s1,((ft r0).length:Nat),false⟩,0):=Prod.ext rfl (show (ou z8 ⟨z0,0,false⟩ r0).2=(⟨s1,((ft r0).length:Nat),false⟩,0) by kernel_rfl)
theorem aw4:cL (Bs.ky 0 [])=(Cc,some ⟨s1,((ft r0).length:Nat),false⟩,0):=Prod.ext rfl (show (cL (Bs.ky 0 [])).2=(some ⟨s1,((ft r0).length:Nat),false⟩,0) by kernel_rfl)
theorem aw5:(tT Cc ⟨s1,((ft r0).length:Nat),false⟩).2=(⟨s1,((bX (bD s1)).length:Nat),false⟩,0):=by kernel_rfl
theorem aw6:(ft r0).length≤100:=by decide +kernel
theorem AeA{d:Dk}{n m:Nat}(hw:d.WF n m):(cL d).1.WF (n+5) m:=by
 have w1:=jU hw;have w2:=LC w1;have w3:=fp w2;have w4:=rZ w3 ((bq d).1.read az).1;have w5:=kZ w4 az;unfold cL;cases (bq d).2 != 0;{rw[cond_false];unfold lP;cases (eX (bq d).1).2 != 0;{rw[cond_false];unfold nT;cases (eX (bq d).1).1.aM.2 != 0;{rw[cond_false];unfold pe;cases (cI ((bq d).1.read az).1 (eX (bq d).1).1.aM.1).2 != 0;{cases ((cI ((bq d).1.read az).1 (eX (bq d).1).1.aM.1).1.sync az).2 != 0;{exact w5};{exact w5}};{exact w4.mono (Nat.le_succ _) (Nat.le_refl m)}};{exact w3.mono (by omega) (Nat.le_refl m)}};{exact w2.mono (by omega) (Nat.le_refl m)}};{exact w1.mono (by omega) (Nat.le_refl m)}
theorem Ae9{d:Dk}{n m:Nat}(hw:d.WF n m)(j:Jn)(r:Rc):(ou d j r).1.WF (n+3) (m+(bX [r]).length):=by
 have h0:=hw.mono (show n≤n+3 by omega) (Nat.le_add_right m (bX [r]).length)
 have h1:=jk hw az (bX [r]);have h2:(kI d (bX [r])).1.WF (n+2) (m+(bX [r]).length):=by
   unfold kI;cases (d.append az (bX [r])).2 != 0;{exact kZ h1 _};{exact h1.mono (Nat.le_succ _) (Nat.le_refl _)}
 unfold ou;cases j.dead;{cases cz r != 0;{cases !(bF j.s r).2;{cases (kI d (bX [r])).2 != 0;{exact h2.mono (Nat.le_succ _) (Nat.le_refl _)};{exact Kw h2 _ _}};{exact h0}};{exact h0}};{exact h0}
theorem AfF:j8 s1:=by
 have h:=zO LW ro0 (fun _=>rfl);rw[Aa4] at h;exact h
attribute [local irreducible] z8 Bs Cc
attribute [local irreducible] aH aj aX ju FD DR DF kS bk aA aL bn DK RK JK BR G3 bh Spec Tok Fr CV
theorem fu(L:ai code)(C:JC L):aU L 378 [] (B true):=by
 intro H K hk;have e1:=aw1;have ho:=aw2;have v1:z8.WF 5 0:=by have:=AeA (wN 1000);rw[e1] at this;exact this
 have hA:=aw3;have v2:Bs.WF 8 1100:=by
   have:=Ae9 v1 ⟨z0,0,false⟩ r0;rw[hA] at this;have hl:=zI [r0];simp only[List.length_cons,List.length_nil] at hl;exact this.mono (by omega) (by omega)
 have e4:=aw4;have Nx:=aw6;have hC:=aw5;have v4:Cc.WF 13 1100:=by have:=AeA (s6 v2 0 []);rw[e4] at this;exact this
 generalize (ft r0).length=N at *;generalize z8=d1 at *;generalize Bs=d2 at *;refine ah L FM rfl ?_;refine C_ ?_;refine vi L 1000 H _ fun b h0 X0 yB AS g0=>?_;have s0:DS H X0 b h0 (eD 1000):=⟨AS,g0,yB⟩;refine C_ ?_;refine oq L C.cl b h0 (eD 1000) 0 0 (wN 1000) (by omega) (by omega) X0 s0.kd _ fun X1 h1 oy o1=>⟨fun hn=>?_,fun j hj a hJ oa na=>?_⟩
 · rw[e1] at hn;cases hn
 rw[e1] at hj oy;have hj:(⟨z0,0,false⟩:Jn)=j:=Option.some.inj hj;subst hj;have t1:=JS.opened s0 oy oa hJ na;rw[e1];clear hJ oa na oy o1;refine C_ ?_;refine pT L b h1 d1 X1 t1.kd _ ?_;rw[show d1.ops=3 from ho];refine G_ ?_;refine aG (x:=.h (bc r0)) rfl rfl ?_;refine C_ ?_;refine vP L a b r0 ⟨z0,0,false⟩ h1 d1 5 0 v1 (by omega) (by omega) (by omega) X1 t1.kd t1.kj t1.na (by decide) (by decide) (by decide) _ fun X2 h2 lW o2 vZ n2=>?_
 have t2:=t1.step lW o2 vZ n2;clear lW o2 vZ n2;rw[hA] at t2 ⊢;refine G_ ?_;refine aG (x:=.h (bc r1)) rfl rfl ?_;refine G_ ?_;have hB:ou d2 ⟨s1,(N:Nat),false⟩ r1=(d2,⟨s1,(N:Nat),false⟩,16):=by
   unfold ou;rw[ro1,AdE];rfl
 (apply af;rfl);refine vP L a b r1 ⟨s1,(N:Nat),false⟩ h2 d2 8 1100 v2 (by omega) (by omega) (by omega) X2 t2.kd t2.kj t2.na (by dsimp only;omega) (show s1.parts.length≤1048576 by decide) (by decide) _ fun X3 h3 yw o3 ZU n3=>?_
 have t3:=t2.step yw o3 ZU n3;clear yw o3 ZU n3;rw[hB] at t3 ⊢;refine G_ ?_;have wc:=s6 v2 0 [];(apply af;rfl);refine eM (eP:=[ptr b,I 0,.sl .no 1 (([]:List UInt8).map U)]) (show bo [ptr b,I 0,.v (.slice none 0 0)] _ from⟨an.refl _,an.refl _,an.dO 1,T_⟩) ?_;refine mr L C.cl b h3 d2 0 [] 8 1100 v2 (by omega) (by omega) (by simp) X3 t3.kd _ fun X4 h4 iR o4=>?_
 have t4:=t3.Aa3 iR o4;clear iR o4;generalize d2.ky 0 []=dc at *;refine C_ ?_;refine oq L C.cl b h4 dc 8 1100 wc (by omega) (by omega) X4 t4.kd _ fun X5 h5 Vi o5=>⟨fun hn=>?_,fun j hj a2 hJ oa na=>?_⟩
 · rw[e4] at hn;cases hn
 rw[e4] at hj Vi;have hj:(⟨s1,(N:Int),false⟩:Jn)=j:=Option.some.inj hj;subst hj;have t5:=JS.opened t4.ds Vi oa hJ na;rw[e4];clear hJ oa na Vi o5;have oz:=AfF;refine C_ ?_;refine mI L a2 b _ (show s1.parts.length≤1048576 by decide) X5 t5.kj _ fun X6 f6=>?_
 have t6:=t5.dt f6;dsimp only;refine G_ ?_;rw[show ((s1.parts.length:Int)==1)=true from rfl];refine C_ ?_;refine mI L a2 b _ (show s1.parts.length≤1048576 by decide) X6 t6.kj _ fun X7 f7=>?_
 have t7:=t6.dt f7;dsimp only;refine G_ ?_;rw[show (s1.next==1)=true from rfl];refine G_ ?_;have Aeg:=AdG;(apply af;rfl);refine B0 L C.cl a2 b _ h5 Cc 13 1100 v4 (by omega) (by omega) (by omega) X7 t7.kd t7.kj t7.na oz _ fun X8 h8 AP o8 hJ8 n8=>?_
 have t8:=t7.step AP o8 hJ8 n8;clear AP o8 hJ8 n8;generalize tT Cc ⟨s1,(N:Int),false⟩=D at *;rw[hC] at t8 ⊢;refine C_ ?_;refine tV L a2 b _ oz X8 t8.kj _ fun X9 f9=>?_;have t9:=t8.dt f9;rw[show vQ ⟨s1,((bX (bD s1)).length:Int),false⟩=false by
   unfold vQ;rw[decide_eq_false (show ¬(2048:Int) < ((bX (bD s1)).length:Int) by omega)]
   rfl]
 refine C_ ?_;refine B1 L C 12 (by omega) X9 _ fun X10 f10=>?_
 rw[Aa5];refine G_ ?_;exact aa (hk X10 (t9.fr.trans f10))
end Sm
