/-
  J30,J31,J32
-/
import Derived.Test.YtegmmhldpmmkeaaGreatDoorSmJI
import Derived.Test.YtegmmhldpmmkeaaGreatDoorSmJG
set_option linter.unusedVariables false
set_option linter.unusedSimpArgs false
set_option maxRecDepth 10000
set_option maxHeartbeats 4000000
namespace Sm
open Go
structure Ac where
 kind:UInt8
 r:Rc
 d:Ak
def ZN(a:Ak):List HV:=[U a.kind,S a.p,S a.q,.sl .no 1 (a.b.map U),I a.n,B a.done]
def acC(a:Ac):List HV:=U a.kind::(dE a.r++ZN a.d)
def ZX(a:Ac):HV:=.ag (acC a)
section
variable {S':aJ} {sl:List (Nat×EV)} {bx:List (Nat×List HV)} {H:ab} {K:Env→ab→Prop} {os:List aF} {d:Nat}
end
attribute [local irreducible] aH aj aX ju FD DR DF kS bk aA aL bn DK RK JK BR G3 bh Spec Tok Fr CV
end Sm
namespace Sm
open Go
def OF:Nat→Nat→List UInt8
 | 0,n=>[]
 | f+1,n=>if n < 10 then [UInt8.ofNat (48+n)] else OF f (n / 10)++[UInt8.ofNat (48+n % 10)]
def yX(n:Nat):List UInt8:=OF (n+1) n
theorem zJ:∀(f n:Nat),(OF f n).length≤f
 | 0,n=>Nat.le_refl _
 | f+1,n=>by
   rw[OF];split
   · simp
   · have:=zJ f (n / 10);simp only[List.length_append,List.length_cons,List.length_nil];omega
theorem LQ(n:Nat):(yX n).length≤n+1:=zJ _ _
structure JC (L:ai code) where
 cl:Cl L
 it:∀(n:Nat) (hn:n < 100) (H:ab) (K:HV→ab→Prop) (hk:∀X,Fr [] H X→K (S (yX n)) X),Spec L.P L.ν 428 [I n] H K
def LR:List UInt8:=[46,115,117,109,112,116,101,114,45,116]
def vQ(j:Jn):Bool:=decide (2048 < j.n)&&decide (2*((bX (bD j.s)).length:Int) < j.n)
theorem fN{e:Env}{H:ab}{d n b off t:Nat}{w:Bool}{agg:Bool}{x:bj}{cs:List HV}{v:HV}(ha:e.fg x=some (.h (.v (.pointer (some ⟨b,off,none⟩)))))(hk:H b=some (.obj cs))(hv:cP agg n off cs=some v)(hg:e.get d=some (.h v)):AZ ⟨some d,.load agg n x,some (t,w)⟩ e H:=
 tU (x:=.h v) (by simp only[aw.ev,ha,hk,hv];rfl) hg
attribute [local irreducible] aH aj aX ju FD DR DF kS bk aA aL bn DK RK JK BR G3 bh Spec Tok Fr CV
theorem B1(L:ai code)(C:JC L)(n:Nat)(hn:n < 100)(H:ab)(K:HV→ab→Prop)(hk:∀X,Fr [] H X→K (S (LR++yX n)) X):Spec L.P L.ν 396 [I n] H K:=by
 refine ah L FK rfl ?_;(repeat refine gr T_ ?_);(apply af;rfl);refine C.it n hn H _ fun X fX=>?_;(repeat refine gr T_ ?_);refine KA (a:=LR) (b:=yX n) rfl rfl ?_ ?_
 · have:=LQ n;show 10+_≤_;omega
 (repeat refine gr T_ ?_);exact aa (hk X fX)
theorem tV(L:ai code)(a b:Nat)(j:Jn)(hs:j8 j.s)(H:ab)(hJ:KJ H a b j)(K:HV→ab→Prop)(hk:∀X,Fr [] H X→K (B (vQ j)) X):Spec L.P L.ν 388 [ptr a] H K:=by
 have hlen:=hs.len;have Qi:=hs.nx;have hxl:=xq hs;unfold vQ at hk;have hJ':H a=_:=hJ;refine ah L FL rfl ?_;(repeat refine gr T_ ?_);cases c1:decide (2048 < j.n)
 case false =>
   rw[c1] at hk;(repeat refine gr T_ ?_);exact aa (hk H (Fr.refl _ _))
 rw[c1] at hk;(repeat refine gr T_ ?_);apply bz (v:=fD j.s);rfl;(focus exact hJ);rfl;(repeat refine gr T_ ?_);(apply af;rfl);refine qZ L j.s (by omega) (fun p hp=>by have:=hs.lt p hp;omega) (by omega) H _ fun X fX=>?_
 have hJX:=hJ.dt fX;refine eu ?_;refine ee rfl (fN (v:=I j.n) rfl hJX rfl rfl) ?_;(repeat refine gr T_ ?_);(apply af;rfl);refine ot L .no (bD j.s) (by have:=lC j.s;omega) (fun r hr=>by have:=(eW (mK hs r hr).1).2.2.2.1;omega) X _ fun Y fY=>?_
 generalize bX (bD j.s)=x at *;refine eu ?_;refine ee rfl (fN (v:=I j.n) rfl (hJX.dt fY) rfl rfl) ?_;(repeat refine gr T_ ?_);exact aa (hk Y (fX.trans fY))
end Sm
namespace Sm
open Go
structure JS (H X:ab) (b a:Nat) (h:Hd) (d:Dk) (j:Jn):Prop where
 kd:KD X b h d
 kj:KJ X a b j
 fr:Fr [] H X
 nw:∀c∈a::h.bs b,H c=none
 na:a∉h.bs b
theorem JS.ds{H X:ab}{b a:Nat}{h:Hd}{d:Dk}{j:Jn}(s:JS H X b a h d j):DS H X b h d:=⟨s.kd,s.fr,fun c hc=>s.nw c (List.mem_cons_of_mem _ hc)⟩
theorem JS.dt{H X Y:ab}{b a:Nat}{h:Hd}{d:Dk}{j:Jn}(s:JS H X b a h d j)(f:Fr [] X Y):JS H Y b a h d j:=⟨s.kd.dt f,s.kj.dt f,s.fr.trans f,s.nw,s.na⟩
theorem JS.step{H X Y:ab}{b a:Nat}{h h':Hd}{d d':Dk}{j j':Jn}(s:JS H X b a h d j)(k:KD Y b h' d')(o:Own X Y (a::h.bs b) (a::h'.bs b))(kj:KJ Y a b j')(na:a∉h'.bs b):JS H Y b a h' d' j':=
 ⟨k,kj,Fr.sQ fun c r _ hr=>o.get (fun hm=>by rw[s.nw c hm] at hr;cases hr) (s.fr.get (by simp) hr),fun c hc=>(o.nw c hc).elim (s.nw c) fun h0=>s.fr.bM h0,na⟩
theorem JS.Aa3{H X Y:ab}{b a:Nat}{h h':Hd}{d d':Dk}{j:Jn}(s:JS H X b a h d j)(k:KD Y b h' d')(o:Own X Y (h.bs b) (h'.bs b)):JS H Y b a h' d' j:=s.step k (o.cons a) (o.get s.na s.kj) (o.apart s.na s.kj)
theorem JS.opened{H X Y:ab}{b a:Nat}{h h':Hd}{d d':Dk}{j':Jn}(s:DS H X b h d)(k:KD Y b h' d')(o:Own X Y (h.bs b) (a::h'.bs b))(kj:KJ Y a b j')(na:a∉h'.bs b):JS H Y b a h' d' j':=
 ⟨k,kj,Fr.sQ fun c r _ hr=>o.get (fun hm=>by rw[s.nw c hm] at hr;cases hr) (s.fr.get (by simp) hr),fun c hc=>(o.nw c hc).elim (s.nw c) fun h0=>s.fr.bM h0,na⟩
def r0:Rc:=⟨0,0,[97],VJ,3,0⟩
def r1:Rc:=⟨0,0,[97],VJ,0,0⟩
def s1:ek:=⟨[⟨0,[97],VJ,3,0⟩],1⟩
theorem ro0:cz r0=0:=by decide
theorem ro1:cz r1=0:=by decide
theorem Aa4:bF z0 r0=(s1,true):=by rfl
theorem AdE:(bF s1 r1).2=false:=by rfl
theorem AdF:(cL (eD 1000)).1.ops=3:=by decide
theorem AdG:(bX (bD s1)).length≤100:=by decide +kernel
theorem Aa5:LR++yX 12=[46,115,117,109,112,116,101,114,45,116,49,50]:=by decide
attribute [local irreducible] aH aj aX ju FD DR DF kS bk aA aL bn DK RK JK BR G3 bh Spec Tok Fr CV
theorem fu(L:ai code)(C:JC L):aU L 378 [] (B true):=by
 intro H K hk;obtain⟨d1,e1,q1,f1,w1⟩:=LU 1000 1000 (by decide)
 have ho:=AdF;rw[e1] at ho;refine ah L FM rfl ?_;(repeat refine gr T_ ?_);(apply af;rfl);refine vi L 1000 H _ fun b h0 X0 yB AS g0=>?_;have s0:DS H X0 b h0 (eD 1000):=⟨AS,g0,yB⟩;(repeat refine gr T_ ?_);(apply af;rfl);refine oq L C.cl b h0 (eD 1000) 0 0 (wN 1000) (by omega) (by omega) X0 s0.kd _ fun X1 h1 oy o1=>⟨fun hn=>?_,fun j hj a hJ oa na=>?_⟩
 · rw[e1] at hn;cases hn
 rw[e1] at hj oy;have hj:(⟨z0,0,false⟩:Jn)=j:=Option.some.inj hj;subst hj;have t1:=JS.opened s0 oy oa hJ na;rw[e1];clear hJ oa na oy o1;(repeat refine gr T_ ?_);(apply af;rfl);refine pT L b h1 d1 X1 t1.kd _ ?_;rw[show d1.ops=3 from ho];(repeat refine gr T_ ?_);refine aG (x:=.h (bc r0)) rfl rfl ?_;(repeat refine gr T_ ?_);have hA:=IQ q1 w1 r0 (fun _ _=>rfl) (by simp)
 have hA:Aa6 1000 d1 z0 [] 0 5 0 r0 (ou d1 ⟨z0,0,false⟩ r0):=hA;(apply af;rfl);refine vP L a b r0 ⟨z0,0,false⟩ h1 d1 5 0 q1.wf (by omega) (by omega) (by omega) X1 t1.kd t1.kj t1.na (by decide) (by decide) (by decide) _ fun X2 h2 lW o2 hJ2 n2=>?_
 have t2:=t1.step lW o2 hJ2 n2;clear lW o2 hJ2 n2;generalize ou d1 ⟨z0,0,false⟩ r0=A at *;cases hA with
 | no p1 p2 p3 =>
   rcases p3 with p3 | p3
   · exact absurd ro0 p3
   · rw[Aa4] at p3;cases p3
 | dn p1 p2 p3 p4 p5 p6 p7=>exact absurd f1 p7
 | ok p1 p2 p3 p4 p5 p6 p7 =>
 rw[p1];rw[p5] at t2;have p7:=p7 f1;rw[Aa4] at p4 t2;obtain⟨d2,A2,A3⟩:=A;dsimp only at p1 p4 p5 p6 p7 t2;clear p5 p3 p2 p1;(repeat refine gr T_ ?_);refine aG (x:=.h (bc r1)) rfl rfl ?_;(repeat refine gr T_ ?_);have hB:ou d2 ⟨s1,(([]++ft r0).length:Nat),false⟩ r1=(d2,⟨s1,(([]++ft r0).length:Nat),false⟩,16):=by
   unfold ou;rw[ro1,AdE];rfl
 have eB:=zK ro0;(apply af;rfl);refine vP L a b r1 ⟨s1,(([]++ft r0).length:Nat),false⟩ h2 d2 8 520 p4.wf (by omega) (by omega) (by omega) X2 t2.kd t2.kj t2.na (by simp only[List.nil_append];omega) (by decide) (by decide) _ fun X3 h3 yw o3 ZU n3=>?_
 have t3:=t2.step yw o3 ZU n3;clear yw o3 ZU n3;rw[hB] at t3 ⊢;(repeat refine gr T_ ?_);obtain⟨sx,bx,ix,px,lx,ax⟩:=(p4.cr (P:=fun t=>t=s1) rfl).ky p4.wf 0 [];subst px;obtain⟨d4,c4,e4,q4,f4,w4,l4⟩:=ax.opens;have wc:=s6 p4.wf 0 [];(apply af;rfl);refine eM (eP:=[ptr b,I 0,.sl .no 1 (([]:List UInt8).map U)]) (show bo [ptr b,I 0,.v (.slice none 0 0)] _ from⟨an.refl _,an.refl _,an.dO 1,T_⟩) ?_;refine mr L C.cl b h3 d2 0 [] 8 520 p4.wf (by omega) (by omega) (by simp) X3 t3.kd _ fun X4 h4 iR o4=>?_
 have t4:=t3.Aa3 iR o4;clear iR o4;generalize d2.ky 0 []=dc at *;(repeat refine gr T_ ?_);(apply af;rfl);refine oq L C.cl b h4 dc 8 520 wc (by omega) (by omega) X4 t4.kd _ fun X5 h5 Vi o5=>⟨fun hn=>?_,fun j hj a2 hJ oa na=>?_⟩
 · rw[e4] at hn;cases hn
 rw[e4] at hj Vi;have hj:(⟨s1,(c4.length:Int),false⟩:Jn)=j:=Option.some.inj hj;subst hj;have t5:=JS.opened t4.ds Vi oa hJ na;rw[e4];clear hJ oa na Vi o5;have oz:j8 s1:=q4.kK.st;(repeat refine gr T_ ?_);(apply af;rfl);refine mI L a2 b _ (show s1.parts.length≤1048576 by decide) X5 t5.kj _ fun X6 f6=>?_
 have t6:=t5.dt f6;dsimp only;(repeat refine gr T_ ?_);rw[show ((s1.parts.length:Int)==1)=true from rfl];(repeat refine gr T_ ?_);(apply af;rfl);refine mI L a2 b _ (show s1.parts.length≤1048576 by decide) X6 t6.kj _ fun X7 f7=>?_
 have t7:=t6.dt f7;dsimp only;(repeat refine gr T_ ?_);rw[show (s1.next==1)=true from rfl];(repeat refine gr T_ ?_);have Aeg:=AdG;have hC:=B2 q4 (by omega) (by omega) (fun x=>LK q4.wf x)
 (apply af;rfl);refine B0 L C.cl a2 b _ h5 d4 13 520 q4.wf (by omega) (by omega) (by omega) X7 t7.kd t7.kj t7.na oz _ fun X8 h8 AP o8 hJ8 n8=>?_
 have t8:=t7.step AP o8 hJ8 n8;clear AP o8 hJ8 n8;generalize tT d4 ⟨s1,(c4.length:Int),false⟩=D at *;rcases hC.go with⟨z1,⟨i8,z2⟩,z3,z4⟩ | ⟨z1,z2,z3⟩ | ⟨z1,z2⟩
 case inr.inl=>exact absurd f4 z3
 case inr.inr=>exact absurd w4 z2
 rw[z1];rw[z3] at t8;(repeat refine gr T_ ?_);(apply af;rfl);refine tV L a2 b _ oz X8 t8.kj _ fun X9 f9=>?_;have t9:=t8.dt f9;rw[show vQ ⟨s1,((bX (bD s1)).length:Int),false⟩=false by
   unfold vQ;rw[decide_eq_false (show ¬(2048:Int) < ((bX (bD s1)).length:Int) by omega)]
   rfl]
 (repeat refine gr T_ ?_);(apply af;rfl);refine B1 L C 12 (by omega) X9 _ fun X10 f10=>?_
 rw[Aa5];(repeat refine gr T_ ?_);exact aa (hk X10 (t9.fr.trans f10))
end Sm
