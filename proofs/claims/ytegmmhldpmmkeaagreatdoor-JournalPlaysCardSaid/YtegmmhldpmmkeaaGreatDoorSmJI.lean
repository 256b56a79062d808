/-
  J26,J27,J28,J29
-/
import Derived.Test.YtegmmhldpmmkeaaGreatDoorSmJG
set_option linter.unusedVariables false
set_option linter.unusedSimpArgs false
set_option maxRecDepth 10000
set_option maxHeartbeats 4000000
namespace Sm
open Go
def KJ(H:ab)(a b:Nat)(j:Jn):Prop:=H a=some (.obj [ptr b,.sl .no 36 (j.s.parts.map bB),I j.s.next,I j.n,B j.dead])
theorem KJ.fr{H X:ab}{a b:Nat}{j:Jn}{bs:List Nat}(h:KJ H a b j)(f:Fr bs H X)(ha:a∉bs):KJ X a b j:=f.get ha h
theorem KJ.dt{H X:ab}{a b:Nat}{j:Jn}(h:KJ H a b j)(f:Fr [] H X):KJ X a b j:=f.get (by simp) h
attribute [local irreducible] aH aj aX bk aA aL bn DK RK JK BR G3 bh Spec Tok Fr CV
theorem BS(L:ai code)(g:Nat)(cq:List HV)(f:ry→Bool)(tk:Tk)(l:List ry)(hl:l.length≤1048576)(H:ab)(hf:∀p∈l,∀H' K,Fr [] H H'→(∀uI,Fr [] H' uI→K (B (f p)) uI)→Spec L.P L.ν g (dX p::cq) H' K)(K:HV→ab→Prop)(hk:∀H',Fr [] H H'→K (B (l.any f)) H') :
   Spec L.P L.ν 429 [.sl tk 3 (l.map dX),.fn g cq] H K:=by
 refine ah L Fp rfl ?_;refine C_ ?_;refine IK L g cq f tk l hl H hf _ fun X fX=>?_;refine G_ ?_;refine aa ?_;have:=hk X fX;rw[←ra] at this;exact this
theorem zE(L:ai code)(x:ry)(H:ab)(K:HV→ab→Prop)(hk:K (B (x.path==aT)) H):Spec L.P L.ν 430 [dX x] H K:=by
 refine ah L Fq rfl ?_;refine G_ ?_;refine ep (v:=dX x) (cs:=cE x) rfl rfl rfl rfl rfl ?_;refine G_ ?_;exact aa hk
theorem tP(L:ai code)(C:Cl L)(b:Nat)(h:Hd)(d:Dk)(n m:Nat)(hw:d.WF n m)(hn:n < 1048576)(hm:m≤140737488355328)(H:ab)(hD:KD H b h d)(K:HV→ab→Prop)(hk:∀Y h',KD Y b h' (bq d).1→Own H Y (h.bs b) (h'.bs b)→K (I (bq d).2) Y):Spec L.P L.ν 398 [ptr b] H K:=by
 have hl:=vN hw;refine ah L Fs rfl ?_;unfold bq at hk;refine C_ ?_;refine yK L C b h d n m hw hn hm H hD _ fun X fX=>?_;have hX:=hD.dt fX;refine C_ ?_;refine BS L 430 [] (fun e=>e.path==aT) .no d.list (by omega) X (fun p hp Y K' fY hK'=>zE L p Y K' (hK' Y (Fr.refl _ _))) _ fun Y fY=>?_
 have hY:=hX.dt fY;refine G_ ?_;cases c1:d.list.any (fun e=>e.path==aT);{rw[c1] at hk;refine G_ ?_;exact aa (hk Y h hY (Own.of _ (fX.trans fY)))}
 · rw[c1] at hk;refine C_ ?_;refine kX L b h d aT n m hw hn (by decide) Y hY _ fun Z h' hZ oZ=>?_
   refine G_ ?_;exact aa (hk Z h' hZ ((Own.of _ (fX.trans fY)).trans oZ))
theorem re(L:ai code)(a b:Nat)(j:Jn)(H:ab)(hJ:KJ H a b j)(K:HV→ab→Prop)(hk:K (I (bif j.dead then 16 else 0)) H):Spec L.P L.ν 404 [ptr a] H K:=by
 unfold KJ at hJ;refine ah L Ft rfl ?_;refine G_ ?_;cases c1:j.dead;{rw[c1] at hk;refine G_ ?_;exact aa hk};{rw[c1] at hk;refine G_ ?_;exact aa hk}
theorem BT(L:ai code)(a b:Nat)(j:Jn)(H:ab)(hJ:KJ H a b j)(K:HV→ab→Prop)(hk:K (I j.n) H):Spec L.P L.ν 387 [ptr a] H K:=by
 unfold KJ at hJ;refine ah L Fu rfl ?_;refine G_ ?_;exact aa hk
theorem BU(L:ai code)(a b:Nat)(j:Jn)(H:ab)(hJ:KJ H a b j)(K:HV→ab→Prop)(hk:K (B j.dead) H):Spec L.P L.ν 395 [ptr a] H K:=by
 unfold KJ at hJ;refine ah L Fv rfl ?_;refine G_ ?_;exact aa hk
theorem mI(L:ai code)(a b:Nat)(j:Jn)(hl:j.s.parts.length≤1048576)(H:ab)(hJ:KJ H a b j)(K:HV→ab→Prop)(hk:∀X,Fr [] H X→K (fD j.s) X):Spec L.P L.ν 380 [ptr a] H K:=by
 refine Spec.dB ?_;unfold KJ at hJ;refine ah L Fw rfl ?_;refine G_ ?_;apply bz (v:=fD j.s);rfl;(focus exact hJ);rfl;refine G_ ?_;refine av (v:=fD j.s) (bI:=j7 j.s) rfl rfl rfl rfl rfl rfl rfl rfl ?_;refine C_ ?_;refine qX L .no j.s.parts hl H _ fun v X hO fX=>?_;refine G_ ?_;refine bS (bI:=[v,I j.s.next]) rfl hO.one hO.el rfl rfl rfl (by simp only[bu,hO.cel];rfl) ?_
 refine G_ ?_;apply ay (v:=.ag [v,I j.s.next]);rfl;rfl;rfl;refine G_ ?_;refine av (v:=.ag [v,I j.s.next]) (bI:=[v,I j.s.next]) rfl rfl (hO.vH _) rfl rfl rfl rfl rfl ?_;refine G_ ?_;exact aa (hO.AaY fX fun Y fY=>hk Y fY)
end Sm
namespace Sm
open Go
attribute [local irreducible] aH aj aX bk aA aL bn DK RK JK BR G3 bh Spec Tok Fr CV
theorem oq(L:ai code)(C:Cl L)(b:Nat)(h:Hd)(d:Dk)(n m:Nat)(hw:d.WF n m)(hn:n+10 < 1048576)(hm:m≤900000)(H:ab)(hD:KD H b h d)(K:HV→ab→Prop)
   (hk:∀Y h',KD Y b h' (cL d).1→Own H Y (h.bs b) (h'.bs b)→((cL d).2.1=none→K (.tu [nI,I (cL d).2.2]) Y)∧∀j,(cL d).2.1=some j→∀a,KJ Y a b j→Own H Y (h.bs b) (a::h'.bs b)→a∉h'.bs b→K (.tu [ptr a,I (cL d).2.2]) Y):Spec L.P L.ν 379 [ptr b] H K:=by
 have w1:=jU hw;refine ah L Fx rfl ?_;unfold cL at hk;refine C_ ?_;refine tP L C b h d n m hw (by omega) (by omega) H hD _ fun X1 h1 oy o1=>?_
 generalize bq d=t at *;refine G_ ?_;cases c1:t.2 != 0
 case true =>
   rw[c1] at hk;refine G_ ?_;exact aa ((hk X1 h1 oy o1).1 rfl)
 rw[c1] at hk;dsimp only[cond_false] at hk;unfold lP eX at hk;have w2:=LC w1;unfold eX at w2;refine C_ ?_;refine yL L b h1 t.1 az (n+1) m w1 (by omega) X1 oy _ fun X2 f2=>?_
 have lW:=oy.dt f2;have nM:=zF w1 az;generalize t.1.read az=q at *;generalize hu:(bif q.2==8 then t.1.put az false else (t.1,q.2))=u at hk w2;refine I_ ?_;refine fS (ak L) (fun(_:Hd)=>[(0,.h (ptr b)),(5,.h (.sl .no 1 (q.1.map U))),(6,.h (I u.2))]) (fun _=>[]) (fun g Y=>KD Y b g u.1∧Own H Y (h.bs b) (g.bs b)) ?_ ?_
 · refine I_ ?_;cases c2:q.2==8;{rw[c2] at hu;have e1:u=(t.1,q.2):=hu.symm;subst e1;refine I_ ?_;refine lU h1 ⟨lW,o1.trans (Own.of _ f2)⟩ ?_;exact E_}
   · rw[c2] at hu;have e1:u=t.1.put az false:=hu.symm;subst e1;refine C_ ?_;refine lg L b h1 t.1 az (n+1) m w1 (by omega) (by decide) X2 lW _ fun Y g hY oY=>?_
     refine G_ ?_;refine lU g ⟨hY,(o1.trans (Own.of _ f2)).trans oY⟩ ?_;exact E_
 rintro h2 X3 ⟨yw,o3⟩;refine G_ ?_;cases c3:u.2 != 0
 case true =>
   rw[c3] at hk;refine G_ ?_;exact aa ((hk X3 h2 yw o3).1 rfl)
 rw[c3] at hk;dsimp only[cond_false] at hk;unfold nT at hk;have w3:=fp w2;refine C_ ?_;refine jz L b h2 u.1 (n+1+1) m w2 (by omega) X3 yw _ fun X4 h4 iR o4=>?_
 have o4:=o3.trans o4;generalize u.1.aM=y at *;refine G_ ?_;cases c4:y.2 != 0
 case true =>
   rw[c4] at hk;refine G_ ?_;exact aa ((hk X4 h4 iR o4).1 rfl)
 rw[c4] at hk;dsimp only[cond_false] at hk;unfold pe at hk;have w4:=rZ w3 q.1;have LB:=zG aQ q.1;have ZQ:=LD q.1;have Jv:=tQ (scan aQ q.1).1 z0;refine C_ ?_;refine BN L _ q.1 (by omega) X4 _ fun X5 f5=>?_
 refine C_ ?_;refine BP L _ (scan aQ q.1).1 (by omega) (fun r hr=>by have:=eW (ZQ r hr);omega) X5 _ fun X6 f6=>?_
 have hN:((bX ((scan aQ q.1).1.take (bK z0 (scan aQ q.1).1).2.toNat)).length:Int)=ez q.1:=rfl;generalize hp:bK z0 (scan aQ q.1).1=p at *;refine G_ ?_;refine av (v:=fD p.1) (bI:=j7 p.1) rfl rfl rfl rfl rfl rfl rfl rfl ?_;refine G_ ?_;have pU:p.2=((p.2.toNat:Nat):Int):=(Int.toNat_of_nonneg Jv.1).symm;refine iL (l:=0) (h:=p.2.toNat) rfl rfl (show some p.2=some ((p.2.toNat:Nat):Int) by rw[←pU]) (Nat.zero_le _) (by rw[List.length_map];omega) fun fC=>?_
 rw[show (((scan aQ q.1).1.map bc).drop 0).take (p.2.toNat - 0)=((scan aQ q.1).1.take p.2.toNat).map bc by rw[List.drop_zero,Nat.sub_zero,List.map_take]]
 refine G_ ?_;apply ay (v:=fD p.1);rfl;rfl;rfl;refine C_ ?_;refine vM L _ ((scan aQ q.1).1.take p.2.toNat) (by rw[List.length_take];omega) (fun r hr=>by have:=eW (ZQ r (List.mem_of_mem_take hr));omega) X6 _ fun v X7 hO f7=>?_
 refine G_ ?_;refine Le rfl hO.rb ?_;rw[hN];refine G_ ?_;refine aG (x:=.h (.ag [ptr b,.sl .no 36 (p.1.parts.map bB),I p.1.next,I (ez q.1),B false])) rfl rfl ?_;refine G_ ?_;refine kU (v:=.ag [ptr b,.sl .no 36 (p.1.parts.map bB),I p.1.next,I (ez q.1),B false]) (cs:=[ptr b,.sl .no 36 (p.1.parts.map bB),I p.1.next,I (ez q.1),B false]) rfl rfl rfl rfl fun a X8 ha hX8 f8 s8=>?_;have f58:=f5.trans (f6.trans (f7.trans f8));have AP:=iR.dt f58;have o8:Own H X8 (h.bs b) (h4.bs b):=o4.trans (Own.of _ f58);have na:a∉h4.bs b:=((iR.dt (f5.trans (f6.trans f7)))).new ha;have oa:a∈h.bs b∨H a=none:=by
   by_cases AL:a∈h.bs b
   · exact .inl AL
   · cases hHa:H a with
     | none=>exact .inr rfl
     | some r =>
       have:=(o4.trans (Own.of _ (f5.trans (f6.trans f7)))).get AL hHa;rw[ha] at this;cases this
 generalize hc:cI q.1 y.1=t2 at hk w4;unfold cI at hc;refine I_ ?_;refine fS (ak L) (fun(_:Hd)=>[(0,.h (ptr b)),(13,.h (ptr a))]) (fun _=>[]) (fun g Y=>KD Y b g t2.1∧Own H Y (h.bs b) (g.bs b)∧KJ Y a b ⟨p.1,ez q.1,false⟩∧a∉g.bs b∧t2.2=0) ?_ ?_
 · refine I_ ?_;cases c5:decide (ez q.1 < (q.1.length:Int));{rw[c5] at hc;have e5:t2=(y.1,0):=hc.symm;subst e5;refine I_ ?_;refine lU h4 ⟨AP,o8,hX8,na,rfl⟩ ?_;exact E_}
   · rw[c5] at hc;have e5:t2=y.1.cut az (ez q.1):=hc.symm;subst e5;refine C_ ?_;refine pS L b h4 y.1 az (ez q.1) (n+1+1+1) m w3 (by omega) (by decide) X8 AP _ fun X9 h9 ZR o9=>?_
     generalize y.1.cut az (ez q.1)=t3 at *;refine G_ ?_;cases c6:t3.2 != 0
     · refine G_ ?_;refine lU h9 ⟨ZR,o8.trans o9,o9.get na hX8,o9.apart na hX8,by simpa using c6⟩ ?_
       exact E_
     · rw[c6] at hk;refine G_ ?_;exact aa ((hk X9 h9 ZR (o8.trans o9)).1 rfl)
 rintro h9 X9 ⟨ZR,o9,ZS,na9,e9⟩;rw[e9] at hk;rw[show ((0:Int) != 0)=false from rfl] at hk;refine C_ ?_;refine kW L b h9 t2.1 az (n+1+1+1+1) m w4 (by omega) (by decide) X9 ZR _ fun X10 h10 AaZ o10=>?_
 generalize t2.1.sync az=z at *;refine G_ ?_;cases c7:z.2 != 0
 case true =>
   rw[c7] at hk;refine G_ ?_;exact aa ((hk X10 h10 AaZ (o9.trans o10)).1 rfl)
 rw[c7] at hk;refine G_ ?_;have oo:=o9.trans o10;exact aa ((hk X10 h10 AaZ oo).2 _ rfl a (o10.get na9 ZS) ⟨oo.fr,fun c hc=>by
   rcases List.mem_cons.mp hc with rfl | hc;{exact oa}
   · exact oo.nw c hc⟩ (o10.apart na9 ZS))
end Sm
namespace Sm
open Go
section
variable {C:Nat→SF} {S:aJ} {fin:Env→ab→Prop}
def FD(C:Nat→SF)(S:aJ)(fin:Env→ab→Prop)(b:SC):qL→Env→ab→Prop:=fun ex e' H'=>match ex with
 | .normal=>∃e1 H1,VS e' H' e1 H1∧ju C S fin b e1 H1
 | .ret=>fin e' H'
 | .exit _=>False
theorem LF{a b:SC}{e:Env}{H:ab}(h:aH S a e H (FD C S fin b)):ju C S fin (.seq a b) e H:=h
theorem Aa0{b:SC}{e:Env}{H:ab}(h:ju C S fin b e H):FD C S fin b .normal e H:=⟨e,H,VS.refl e H,h⟩
theorem VT{b:SC}{e:Env}{H:ab}(h:fin e H):FD C S fin b .ret e H:=h
theorem qi{a b:SC}{e:Env}{H:ab}(h:aH S a e H (FD C S fin b)):FD C S fin (.seq a b) .normal e H:=Aa0 (LF h)
def DR(C:Nat→SF)(S:aJ)(fin:Env→ab→Prop)(gd:Nat)(hs:List HV):qL→Env→ab→Prop:=fun ex e2 H2=>(ex = .normal∨ex = .ret)∧∃e3 H3,VS e2 H2 e3 H3∧(C gd).P9 S hs H3 fun _ H4=>fin e3 H4
def DF(C:Nat→SF)(S:aJ)(fin:Env→ab→Prop)(x:bj)(ys:List bj)(gd:Nat)(rest:SC):Env→ab→Prop:=fun e' H'=>match e'.hv x,e'.cJ ys with
   | some (.fn g cq),some hs=>g=gd∧(C gd).body.Nb=false∧aH S rest e' H' (DR C S fin gd (hs++cq))
   | _,_=>False
theorem VU{ops:List aF}{x:bj}{ys:List bj}{gd:Nat}{rest:SC}{e:Env}{H:ab}(h:aj S ops e H (DF C S fin x ys gd rest)):FD C S fin (.P7 ops x ys gd rest) .normal e H:=Aa0 h
theorem AdC{x:bj}{ys:List bj}{gd:Nat}{rest:SC}{e:Env}{H:ab}{cq hs:List HV}(hx:e.hv x=some (.fn gd cq))(hy:e.cJ ys=some hs)(hd:(C gd).body.Nb=false)(h:aH S rest e H (DR C S fin gd (hs++cq))):DF C S fin x ys gd rest e H:=by
 unfold DF;rw[hx,hy];exact⟨rfl,hd,h⟩
theorem AdD{gd:Nat}{hs:List HV}{e:Env}{H:ab}(h:(C gd).P9 S hs H fun _ H4=>fin e H4):DR C S fin gd hs .ret e H:=⟨.inr rfl,e,H,VS.refl e H,h⟩
theorem sx{res:List jZ}{Q:HV→ab→Prop}{e:Env}{H:ab}{hs:List HV}(hr:dM e H res=some hs)(h:bh (some hs) H Q):kS res Q e H:=by
 refine⟨e,H,VS.refl e H,?_⟩;rw[hr];exact h
theorem mJ{sl:List (Nat×EV)}{bx:List (Nat×List HV)}{H:ab}{s p:Nat}{v:HV}(hx:(M sl bx).fg (.s s)=some (.h (ptr p)))(hH:H p=some (.obj [v])):dM (M sl bx) H [.cell s false 1]=some [v]:=by
 simp only[dM,jZ.val];rw[vO hx hH (show cP false 1 0 [v]=some v from rfl)]
end
theorem LG{code:Nat→SF}(L:ai code){g np N:Nat}{res:List jZ}{a b:SC}{args:List HV}{R:HV→ab→Prop}{H:ab}(hc:code g=⟨np,N,res,.seq a b⟩)(hn:args.length=np)(hd:(SC.seq a b).Nb=true)
   (h:aH (Spec L.P L.ν) a (M (uU 0 args) []) H (FD code (Spec L.P L.ν) (kS res R) b)):Spec L.P L.ν g args H R:=by
 refine LH L ?_ (by rw[hc];exact hd)
 rw[hc];exact⟨hn,by rw[xl];exact h⟩
theorem go_sem{code:Nat→SF}{S:aJ}{g np N:Nat}{res:List jZ}{body:SC}{args:List HV}{R:HV→ab→Prop}{H:ab}(hc:code g=⟨np,N,res,body⟩)(hn:args.length=np)
   (h:aH S body (M (uU 0 args) []) H (bn res R)):(code g).P9 S args H R:=by
 rw[hc,LI];exact⟨hn,by rw[xl];exact h⟩
attribute [local irreducible] aH aj aX ju FD DR DF kS bk aA aL bn DK RK JK BR G3 bh Spec Tok Fr CV
theorem ot(L:ai code)(tk:Tk)(l:List Rc)(hl:l.length≤1000000)(hp:∀r∈l,r.path.length≤1048576):aU L 401 [.sl tk 37 (l.map bc)] (.sl .no 1 ((bX l).map U)):=by
 intro H K hk;refine Spec.dB ?_;exact vM L tk l hl hp H _ fun v X hO fX=>hO.dB fX fun Y fY=>hk Y fY
theorem IL(L:ai code)(a b p2 p9:Nat)(j:Jn)(h:Hd)(d:Dk)(x:List UInt8)(n m:Nat)(hw:d.WF n m)(hn:n < 1048576)(qM:n*m≤1152921504606846976)(hm:m+x.length≤140737488355328)(H:ab)(hD:KD H b h d)(hJ:KJ H a b j)(h2:H p2=some (.obj [ptr a]))(h9:H p9=some (.obj [.sl .no 1 (x.map U)]))
   (K:HV→ab→Prop) (hk:∀Y h',KD Y b h' (d.append az x).1→Own H Y (h.bs b) (h'.bs b)→K (I (d.append az x).2) Y):Spec L.P L.ν 420 [ptr p2,ptr p9] H K:=by
 unfold KJ at hJ;refine ah L Fy rfl ?_;refine C_ ?_;refine kV L b h d az _ x n m hw hn qM hm (by decide) H hD (.inl ⟨_,rfl⟩) (by simp[eI]) _ fun Y h' hY oY=>?_
 refine G_ ?_;exact aa (hk Y h' hY oY)
theorem IM(L:ai code)(a b p2:Nat)(j:Jn)(h:Hd)(d:Dk)(n m:Nat)(hw:d.WF n m)(hn:n < 1048576)(H:ab)(hD:KD H b h d)(hJ:KJ H a b j)(h2:H p2=some (.obj [ptr a]))
   (K:HV→ab→Prop) (hk:∀Y h',KD Y b h' (d.sync az).1→Own H Y (h.bs b) (h'.bs b)→K (I (d.sync az).2) Y):Spec L.P L.ν 421 [ptr p2] H K:=by
 unfold KJ at hJ;refine ah L Fz rfl ?_;refine C_ ?_;refine kW L b h d az n m hw hn (by decide) H hD _ fun Y h' hY oY=>?_
 refine G_ ?_;exact aa (hk Y h' hY oY)
theorem Own.cons{H X:ab}{bs rz:List Nat}(o:Own H X bs rz)(a:Nat):Own H X (a::bs) (a::rz):=⟨o.fr.mono (by intro c hc;exact List.mem_cons_of_mem _ hc),fun c hc=>by
 rcases List.mem_cons.mp hc with rfl | hc;{exact .inl (by simp)}
 · exact(o.nw c hc).imp (List.mem_cons_of_mem _) id⟩
theorem Own.at{H X:ab}{a:Nat}(bs:List Nat)(f:Fr [a] H X):Own H X (a::bs) (a::bs):=Own.set f (by simp)
theorem tR(L:ai code){g:Nat}{cq xs:List HV}{H:ab}{K:HV→ab→Prop}(h:Spec L.P L.ν g (xs++cq) H K):CV L (.fn g cq) xs H K:=by
 unfold CV;exact h
theorem IN(L:ai code)(a b p2 p9:Nat)(j:Jn)(h:Hd)(d:Dk)(x:List UInt8)(n m:Nat)(hw:d.WF n m)(hn:n+1 < 1048576)(qM:n*m≤1152921504606846976)(hm:m+x.length≤140737488355328)(H:ab)(hD:KD H b h d)(hJ:KJ H a b j)(h2:H p2=some (.obj [ptr a]))(h9:H p9=some (.obj [.sl .no 1 (x.map U)]))(na:a∉h.bs b)(n2:p2∉h.bs b)
   (K:HV→ab→Prop) (hk:∀Y h',KD Y b h' (kI d x).1→Own H Y (h.bs b) (h'.bs b)→K (I (kI d x).2) Y):lB L K [.fn 420 [ptr p2,ptr p9],.fn 421 [ptr p2]] H:=by
 have w1:=jk hw az x;unfold kI at hk;refine tR L (IL L a b p2 p9 j h d x n m hw (by omega) qM hm H hD hJ h2 h9 _ fun Y h' hY oY=>⟨_,rfl,fun he=>?_,fun he=>?_⟩)
 · rw[show ((d.append az x).2 != 0)=true by simpa using he] at hk
   exact hk Y h' hY oY
 · rw[show ((d.append az x).2 != 0)=false by simpa using he] at hk
   refine tR L (IM L a b p2 j h' _ (n+1) _ w1 (by omega) Y hY (oY.get na hJ) (oY.get n2 h2) _ fun Z h3 hZ oZ=>⟨_,rfl,fun Vd=>?_,fun Vd=>?_⟩)
   · exact hk Z h3 hZ (oY.trans oZ)
   · have:=hk Z h3 hZ (oY.trans oZ);simp only[cond_false,Vd] at this;exact this
theorem LJ(L:ai code)(a b p4 p2 p7 p9:Nat)(e:Int)(nx:ek)(x:List UInt8)(j:Jn)(h:Hd)(d:Dk)(n m:Nat)(hw:d.WF n m)(hn:n < 1048576)(H:ab)(hD:KD H b h d)(hJ:KJ H a b j)(na:a∉h.bs b)(h4:H p4=some (.obj [I e]))(h2:H p2=some (.obj [ptr a]))(h7:H p7=some (.obj (j7 nx)))(h9:H p9=some (.obj [.sl .no 1 (x.map U)]))(n2:p2∉h.bs b)(hj:0≤j.n∧j.n≤1099511627776)(hx:x.length≤1099511627776)
   (R:HV→ab→Prop) (gF:e≠0→∀Y h',KD Y b h' (d.cut az j.n).1→Own H Y (a::h.bs b) (a::h'.bs b)→KJ Y a b ⟨j.s,j.n,(d.cut az j.n).2 != 0⟩→a∉h'.bs b→R (.tu []) Y)
   (pU:e=0→∀Y,KD Y b h d→Own H Y (a::h.bs b) (a::h.bs b)→KJ Y a b ⟨nx,j.n+x.length,j.dead⟩→R (.tu []) Y):(code 419).P9 (Spec L.P L.ν) [ptr p4,ptr p2,ptr p7,ptr p9] H R:=by
 have hJ0:KJ H a b j:=hJ;unfold KJ at hJ;refine go_sem xn rfl ?_;refine G_ ?_;cases c1:e != 0
 · have c1:e=0:=by simpa using c1
   subst c1;refine G_ ?_;apply bz (v:=fD nx);rfl;(focus exact h7);rfl;refine G_ ?_;refine bH (bI:=[ptr b,.sl .no 36 (nx.parts.map bB),I nx.next,I j.n,B j.dead]) rfl rfl rfl rfl hJ rfl rfl fun X hX fX=>?_;refine G_ ?_;refine bH (bI:=[ptr b,.sl .no 36 (nx.parts.map bB),I nx.next,I (j.n+x.length),B j.dead]) rfl rfl rfl rfl hX rfl rfl fun Y hY fY=>?_;refine G_ ?_;exact aa (pU rfl Y ((hD.fr fX (by intro c hc hm;rw[List.mem_singleton] at hm;subst hm;exact na hc)).fr fY (by intro c hc hm;rw[List.mem_singleton] at hm;subst hm;exact na hc)) ((Own.at _ fX).trans (Own.at _ fY)) hY)
 · have c1:e≠0:=by simpa using c1
   refine C_ ?_;refine pS L b h d az j.n n m hw hn (by decide) H hD _ fun Y h' hY oY=>?_
   have ZT:Y a=_:=oY.get na hJ;have h2Y:=oY.get n2 h2;generalize d.cut az j.n=t at *;refine G_ ?_;refine bH (bI:=[ptr b,.sl .no 36 (j.s.parts.map bB),I j.s.next,I j.n,B (t.2 != 0)]) rfl rfl rfl rfl ZT rfl rfl fun X hX fX=>?_;have na':=oY.apart na hJ;refine G_ ?_;exact aa (gF c1 X h' (hY.fr fX (by intro c hc hm;rw[List.mem_singleton] at hm;subst hm;exact na' hc)) ((oY.cons a).trans (Own.at _ fX)) hX na')
theorem vP(L:ai code)(a b:Nat)(r:Rc)(j:Jn)(h:Hd)(d:Dk)(n m:Nat)(hw:d.WF n m)(hn:n+10 < 1048576)(qM:n*m≤1152921504606846976)(hm:m≤1048576)(H:ab)(hD:KD H b h d)(hJ:KJ H a b j)(na:a∉h.bs b)(hj:0≤j.n∧j.n≤1099511627776)(hl:j.s.parts.length≤1048576)(hp:r.path.length≤1048576)
   (K:HV→ab→Prop) (hk:∀Y h',KD Y b h' (ou d j r).1→Own H Y (a::h.bs b) (a::h'.bs b)→KJ Y a b (ou d j r).2.1→a∉h'.bs b→K (I (ou d j r).2.2) Y):Spec L.P L.ν 386 [ptr a,bc r] H K:=by
 unfold ou at hk;refine LG L FA rfl rfl ?_;refine G_ ?_;refine kU (v:=ptr a) (cs:=[ptr a]) rfl rfl rfl rfl fun p2 X1 e2 k2 f1 s1=>?_;refine G_ ?_;refine ep (v:=bc r) (cs:=dE r) rfl rfl rfl rfl rfl ?_;refine G_ ?_;refine kG fun p4 X2 e4 k4 f2=>?_;refine G_ ?_;have f12:=f1.trans f2;have k22:X2 p2=some (.obj [ptr a]):=f2.get (by simp) k2
 have vZ:=hJ.dt f12;have lW:=hD.dt f12;refine qi ?_;refine C_ ?_;refine re L a b j X2 vZ _ ?_;cases c1:j.dead
 case true =>
   rw[c1] at hk;dsimp only[cond_true];refine G_ ?_;refine bH (bI:=[I 16]) rfl rfl rfl rfl k4 rfl rfl fun X3 k43 f3=>?_;refine G_ ?_;have fH3:Fr [] H X3:=f12.own (f1.bM e4) f3;exact VT (sx (mJ rfl k43) (aa (hk X3 h (hD.dt fH3) ((Own.of _ fH3).cons a) (hJ.dt fH3) na)))
 rw[c1] at hk;dsimp only[cond_false] at hk ⊢;refine G_ ?_;refine qi ?_;refine G_ ?_;apply ay (v:=bc r);rfl;rfl;rfl;(apply af;rfl);refine mG L r hp X2 _ fun X3 f3=>?_;have k43:X3 p4=some (.obj [I 0]):=f3.get (by simp) k4
 have k23:X3 p2=some (.obj [ptr a]):=f3.get (by simp) k22
 have ZU:=vZ.dt f3;have yw:=lW.dt f3;have e43:H p4=none:=f1.bM e4;refine G_ ?_;cases c2:cz r != 0
 case true =>
   rw[c2] at hk;refine G_ ?_;refine bH (bI:=[I (cz r)]) rfl rfl rfl rfl k43 rfl rfl fun X4 k44 f4=>?_;refine G_ ?_;have fH4:Fr [] H X4:=(f12.trans f3).own e43 f4;exact VT (sx (mJ rfl k44) (aa (hk X4 h (hD.dt fH4) ((Own.of _ fH4).cons a) (hJ.dt fH4) na)))
 rw[c2] at hk;dsimp only[cond_false] at hk;have c2:cz r=0:=by simpa using c2
 obtain⟨q1,q2,q3,q4,q5,q6,q7,q8⟩:=eW c2;have Aeb:X3 a=_:=ZU;refine G_ ?_;refine qi ?_;refine G_ ?_;apply bz (v:=fD j.s);rfl;(focus exact ZU);rfl;refine G_ ?_;apply ay (v:=bc r);rfl;rfl;rfl;refine C_ ?_;refine tO L j.s r hl q2 q3 X3 _ fun X4 f4=>?_;have k44:X4 p4=some (.obj [I 0]):=f4.get (by simp) k43
 have k24:X4 p2=some (.obj [ptr a]):=f4.get (by simp) k23
 have OE:=ZU.dt f4;have Aec:X4 a=_:=OE;have iR:=yw.dt f4;generalize bF j.s r=nx at *;refine G_ ?_;refine kG fun p7 X5 e7 k7 f5=>?_;refine G_ ?_;refine bH (bI:=j7 nx.1) rfl rfl rfl rfl k7 rfl rfl fun X6 k76 f6=>?_;have f56:Fr [] X4 X6:=f5.own e7 f6;have k46:X6 p4=some (.obj [I 0]):=f56.get (by simp) k44
 have k26:X6 p2=some (.obj [ptr a]):=f56.get (by simp) k24
 have hJ6:=OE.dt f56;have Qh:=iR.dt f56;refine G_ ?_;cases c3:nx.2
 case false =>
   rw[c3] at hk;refine qi ?_;refine G_ ?_;refine bH (bI:=[I 16]) rfl rfl rfl rfl k46 rfl rfl fun X7 k47 f7=>?_;refine G_ ?_;have fH7:Fr [] H X7:=(f12.trans (f3.trans (f4.trans f56))).own e43 f7;exact VT (sx (mJ rfl k47) (aa (hk X7 h (hD.dt fH7) ((Own.of _ fH7).cons a) (hJ.dt fH7) na)))
 rw[c3] at hk;refine qi ?_;refine G_ ?_;refine qi ?_;refine G_ ?_;apply ay (v:=bc r);rfl;rfl;rfl;refine C_ ?_;refine ot L .full [r] (by simp) (fun x hx=>by rw[List.mem_singleton] at hx;subst hx;exact hp) X6 _ fun X7 f7=>?_
 have zZ:=lA r;have Aed:(bX [r]).length≤1100:=by
   rw[bX];cases (cY r).2 != 0;{simp only[cond_false,bX,List.append_nil];exact zZ};{simp}
 generalize hx:bX [r]=x at *;refine G_ ?_;refine kG fun p9 X8 e9 k9 f8=>?_;refine G_ ?_;refine bH (bI:=[.sl .no 1 (x.map U)]) rfl rfl rfl rfl k9 rfl rfl fun X9 k99 f9=>?_;have f79:Fr [] X6 X9:=f7.trans (f8.own e9 f9);have k49:X9 p4=some (.obj [I 0]):=f79.get (by simp) k46
 have k29:X9 p2=some (.obj [ptr a]):=f79.get (by simp) k26
 have k79:X9 p7=some (.obj (j7 nx.1)):=f79.get (by simp) k76
 have ZS:=hJ6.dt f79;have ZR:=Qh.dt f79;have fH9:Fr [] H X9:=f12.trans (f3.trans (f4.trans (f56.trans f79)));refine G_ ?_;refine VU ?_;refine G_ ?_;refine AdC rfl rfl (by rw[xn];rfl) ?_
 refine G_ ?_;have n2:p2∉h.bs b:=hD.new e2;have n4:p4∉h.bs b:=hD.new e43;have n7:p7∉h.bs b:=iR.new e7;have n9:p9∉h.bs b:=(Qh.dt f7).new e9;have ne:∀{X:ab} {p q:Nat} {v:rq},X p=some v→X q=none→p≠q:=fun h1 h2 e=>by rw[e,h2] at h1;cases h1
 have na4:a≠p4:=ne hJ e43;have n24:p2≠p4:=ne k2 e4;have n74:p4≠p7:=ne k44 e7;have n94:p4≠p9:=ne (f7.get (by simp) k46) e9
 (apply af;rfl);refine wa L _ (by simp) (fun f hf=>by
   simp only[List.mem_cons,List.not_mem_nil,or_false] at hf;rcases hf with rfl | rfl<;>rfl) X9 _ (IN L a b p2 p9 j h d x n m hw (by omega) qM (by omega) X9 ZR ZS k29 k99 na n2 _ fun Y h' hY oY=>?_)
 have w2:(kI d x).1.WF (n+2) (m+x.length):=by
   unfold kI;cases (d.append az x).2 != 0;{exact kZ (jk hw az x) az};{exact(jk hw az x).mono (by omega) (by omega)}
 generalize kI d x=t at *;have k4Y:=oY.get n4 k49;refine G_ ?_;refine bH (bI:=[I t.2]) rfl rfl rfl rfl k4Y rfl rfl fun Z k4Z fZ=>?_;have oZ:Own H Z (h.bs b) (h'.bs b):=((Own.of _ fH9).trans oY).tail fZ (by intro c hc;rw[List.mem_singleton] at hc;subst hc;exact e43)
 have q4:p4∉h'.bs b:=oY.apart n4 k49;have qa:a∉h'.bs b:=oY.apart na ZS;have gt:∀{p:Nat} {v:rq},p∉h.bs b→p≠p4→X9 p=some v→Z p=some v:=fun h1 h2 h3=>fZ.get (by simpa using h2) (oY.get h1 h3)
 refine G_ ?_;refine AdD (LJ L a b p4 p2 p7 p9 t.2 nx.1 x j h' t.1 (n+2) (m+x.length) w2 (by omega) Z (hY.fr fZ (by intro c hc hm;rw[List.mem_singleton] at hm;subst hm;exact q4 hc)) (gt na na4 ZS) qa k4Z (gt n2 n24 k29) (gt n7 n74.symm k79) (gt n9 n94.symm k99) (oY.apart n2 k29) hj (by omega) _ (fun he W h3 hW oW ZV naW=>?_) (fun he W hW oW ZV=>?_))
 · rw[show (t.2 != 0)=true by simpa using he] at hk
   have k4W:W p4=some (.obj [I t.2]):=oW.get (by simp only[List.mem_cons,not_or];exact⟨na4.symm,q4⟩) k4Z
   exact sx (mJ rfl k4W) (aa (hk W h3 hW ((oZ.cons a).trans oW) ZV naW))
 · rw[show (t.2 != 0)=false by simpa using he] at hk
   have k4W:W p4=some (.obj [I t.2]):=oW.get (by simp only[List.mem_cons,not_or];exact⟨na4.symm,q4⟩) k4Z
   rw[c1] at ZV;have:=hk W h' hW ((oZ.cons a).trans oW) ZV qa;rw[he] at k4W;exact sx (mJ rfl k4W) (aa this)
end Sm
namespace Sm
open Go
theorem zH:∀(l:List Pt) (n:Int),(iO n l).length≤2*l.length
 | [],n=>by simp[iO]
 | p::l,n=>by
   have:=zH l n;rw[qj];cases decide (0 < p.off)<;>simp only[cond_true,cond_false,List.length_cons,List.length_append,List.length_nil]<;>omega
theorem lC(s:ek):(bD s).length≤2*s.parts.length+1:=by
 have:=zH s.parts 0;unfold bD;cases decide (jD 0 s.parts < s.next)<;>simp only[cond_true,cond_false,List.length_cons,List.length_append,List.length_nil]<;>omega
theorem zI:∀(l:List Rc),(bX l).length≤1100*l.length
 | []=>by simp[bX]
 | r::l=>by
   have h1:=lA r;have h2:=zI l;rw[bX];cases (cY r).2 != 0;{simp only[cond_false,List.length_append,List.length_cons];omega};{simp}
theorem xq{s:ek}(h:j8 s):(bX (bD s)).length≤150000:=by
 have h1:=zI (bD s);have h2:=lC s;have:=h.len;omega
theorem BW{d:Dk}{n m:Nat}(h:d.WF n m):(nF d).1.WF (n+2) m:=by
 unfold nF;cases (bq d).2 != 0;{exact pV (jU h) _ _};{exact(jU h).mono (by omega) (Nat.le_refl _)}
theorem BX{d:Dk}{n m:Nat}(h:d.WF n m)(x:List UInt8):(oA d x).1.WF (n+3) (m+x.length):=by
 unfold oA;cases (nF d).2 != 0;{exact jk (BW h) _ _};{exact(BW h).mono (by omega) (by omega)}
theorem BY{d:Dk}{n m:Nat}(h:d.WF n m)(x:List UInt8):(pg d x).1.WF (n+4) (m+x.length):=by
 unfold pg;cases (oA d x).2 != 0;{exact kZ (BX h x) _};{exact(BX h x).mono (by omega) (Nat.le_refl _)}
theorem LK{d:Dk}{n m:Nat}(h:d.WF n m)(x:List UInt8):(pH d x).1.WF (n+5) (m+x.length):=by
 unfold pH;cases (pg d x).2 != 0;{exact vm (BY h x) _ _};{exact(BY h x).mono (by omega) (Nat.le_refl _)}
attribute [local irreducible] aH aj aX ju FD DR DF kS bk aA aL bn DK RK JK BR G3 bh Spec Tok Fr CV
section
variable (L:ai code) (a b p1:Nat) (j:Jn) (h:Hd) (d:Dk) (n m:Nat) (hw:d.WF n m) (hn:n < 1048576) (H:ab) (hD:KD H b h d) (hJ:KJ H a b j) (h1:H p1=some (.obj [ptr a])) (K:HV→ab→Prop)
include hw hn hD hJ h1
theorem LL(C:Cl L)(hm:m≤140737488355328)(hk:∀Y h',KD Y b h' (bq d).1→Own H Y (h.bs b) (h'.bs b)→K (I (bq d).2) Y):Spec L.P L.ν 406 [ptr p1] H K:=by
 unfold KJ at hJ;refine ah L FB rfl ?_;refine C_ ?_;refine tP L C b h d n m hw hn hm H hD _ fun Y h' hY oY=>?_;refine G_ ?_;exact aa (hk Y h' hY oY)
theorem LM(hk:∀Y h',KD Y b h' (d.put aT false).1→Own H Y (h.bs b) (h'.bs b)→K (I (d.put aT false).2) Y):Spec L.P L.ν 407 [ptr p1] H K:=by
 unfold KJ at hJ;refine ah L FC rfl ?_;refine C_ ?_;refine lg L b h d aT n m hw hn (by decide) H hD _ fun Y h' hY oY=>?_
 refine G_ ?_;exact aa (hk Y h' hY oY)
theorem LN(p4:Nat)(x:List UInt8)(qM:n*m≤1152921504606846976)(hm:m+x.length≤140737488355328)(h4:H p4=some (.obj [.sl .no 1 (x.map U)]))(hk:∀Y h',KD Y b h' (d.append aT x).1→Own H Y (h.bs b) (h'.bs b)→K (I (d.append aT x).2) Y):Spec L.P L.ν 408 [ptr p1,ptr p4] H K:=by
 unfold KJ at hJ;refine ah L FF rfl ?_;refine C_ ?_;refine kV L b h d aT _ x n m hw hn qM hm (by decide) H hD (.inl ⟨_,rfl⟩) (by simp[eI]) _ fun Y h' hY oY=>?_
 refine G_ ?_;exact aa (hk Y h' hY oY)
theorem LO(hk:∀Y h',KD Y b h' (d.sync aT).1→Own H Y (h.bs b) (h'.bs b)→K (I (d.sync aT).2) Y):Spec L.P L.ν 409 [ptr p1] H K:=by
 unfold KJ at hJ;refine ah L FG rfl ?_;refine C_ ?_;refine kW L b h d aT n m hw hn (by decide) H hD _ fun Y h' hY oY=>?_
 refine G_ ?_;exact aa (hk Y h' hY oY)
theorem LP(hk:∀Y h',KD Y b h' (d.rename aT az).1→Own H Y (h.bs b) (h'.bs b)→K (I (d.rename aT az).2) Y):Spec L.P L.ν 410 [ptr p1] H K:=by
 unfold KJ at hJ;refine ah L FH rfl ?_;refine C_ ?_;refine nO L b h d aT az n m hw hn (by decide) (by decide) H hD _ fun Y h' hY oY=>?_
 refine G_ ?_;exact aa (hk Y h' hY oY)
end
theorem BZ(L:ai code)(C:Cl L)(a b p1 p4:Nat)(j:Jn)(h:Hd)(d:Dk)(x:List UInt8)(n m:Nat)(hw:d.WF n m)(hn:n+5 < 1048576)(qM:(n+2)*m≤1152921504606846976)(hm:m+x.length≤140737488355328)(H:ab)(hD:KD H b h d)(hJ:KJ H a b j)(h1:H p1=some (.obj [ptr a]))(h4:H p4=some (.obj [.sl .no 1 (x.map U)]))(na:a∉h.bs b)(n1:p1∉h.bs b)(n4:p4∉h.bs b)
   (K:HV→ab→Prop) (hk:∀Y h',KD Y b h' (pH d x).1→Own H Y (h.bs b) (h'.bs b)→K (I (pH d x).2) Y):lB L K [.fn 406 [ptr p1],.fn 407 [ptr p1],.fn 408 [ptr p1,ptr p4],.fn 409 [ptr p1],.fn 410 [ptr p1]] H:=by
 have w1:=jU hw;have w2:=BW hw;have w3:=BX hw x;have w4:=BY hw x;unfold pH at hk;refine tR L (LL L a b p1 j h d n m hw (by omega) H hD hJ h1 _ C (by omega) fun Y1 Ki hY1 o1=>⟨_,rfl,fun he=>?_,fun he=>?_⟩)
 · have e1:nF d=bq d:=by unfold nF;rw[show ((bq d).2 != 0)=true by simpa using he];rfl
   have e2:oA d x=bq d:=by unfold oA;rw[e1,show ((bq d).2 != 0)=true by simpa using he];rfl
   have e3:pg d x=bq d:=by unfold pg;rw[e2,show ((bq d).2 != 0)=true by simpa using he];rfl
   rw[e3,show ((bq d).2 != 0)=true by simpa using he] at hk
   exact hk Y1 Ki hY1 o1
 have e1:nF d=(bq d).1.put aT false:=by unfold nF;rw[show ((bq d).2 != 0)=false by simpa using he];rfl
 refine tR L (LM L a b p1 j Ki (bq d).1 (n+1) m w1 (by omega) Y1 hY1 (o1.get na hJ) (o1.get n1 h1) _ fun Y2 h2' rT o2=>⟨_,rfl,fun he=>?_,fun he=>?_⟩)
 · rw[←e1] at he rT ⊢;have e2:oA d x=nF d:=by unfold oA;rw[show ((nF d).2 != 0)=true by simpa using he];rfl
   have e3:pg d x=nF d:=by unfold pg;rw[e2,show ((nF d).2 != 0)=true by simpa using he];rfl
   rw[e3,show ((nF d).2 != 0)=true by simpa using he] at hk
   exact hk Y2 h2' rT (o1.trans o2)
 rw[←e1] at he rT;have o2:=o1.trans o2;have e2:oA d x=(nF d).1.append aT x:=by unfold oA;rw[show ((nF d).2 != 0)=false by simpa using he];rfl
 refine tR L (LN L a b p1 j h2' (nF d).1 (n+2) m w2 (by omega) Y2 rT (o2.get na hJ) (o2.get n1 h1) _ p4 x qM hm (o2.get n4 h4) fun Y3 h3' hY3 o3=>⟨_,rfl,fun he=>?_,fun he=>?_⟩)
 · rw[←e2] at he hY3 ⊢;have e3:pg d x=oA d x:=by unfold pg;rw[show ((oA d x).2 != 0)=true by simpa using he];rfl
   rw[e3,show ((oA d x).2 != 0)=true by simpa using he] at hk
   exact hk Y3 h3' hY3 (o2.trans o3)
 rw[←e2] at he hY3;have o3:=o2.trans o3;have e3:pg d x=(oA d x).1.sync aT:=by unfold pg;rw[show ((oA d x).2 != 0)=false by simpa using he];rfl
 refine tR L (LO L a b p1 j h3' (oA d x).1 (n+3) _ w3 (by omega) Y3 hY3 (o3.get na hJ) (o3.get n1 h1) _ fun Y4 h4' hY4 o4=>⟨_,rfl,fun he=>?_,fun he=>?_⟩)
 · rw[←e3] at he hY4 ⊢;rw[show ((pg d x).2 != 0)=true by simpa using he] at hk
   exact hk Y4 h4' hY4 (o3.trans o4)
 rw[←e3] at he hY4;have o4:=o3.trans o4;rw[show ((pg d x).2 != 0)=false by simpa using he] at hk
 refine tR L (LP L a b p1 j h4' (pg d x).1 (n+4) _ w4 (by omega) Y4 hY4 (o4.get na hJ) (o4.get n1 h1) _ fun Y5 h5' hY5 o5=>⟨_,rfl,fun he=>?_,fun he=>?_⟩)
 · exact hk Y5 h5' hY5 (o4.trans o5)
 · have:=hk Y5 h5' hY5 (o4.trans o5);simp only[cond_false,he] at this;exact this
theorem B0(L:ai code)(C:Cl L)(a b:Nat)(j:Jn)(h:Hd)(d:Dk)(n m:Nat)(hw:d.WF n m)(hn:n+10 < 1048576)(qM:(n+2)*m≤1152921504606846976)(hm:m≤1048576)(H:ab)(hD:KD H b h d)(hJ:KJ H a b j)(na:a∉h.bs b)(hs:j8 j.s)
   (K:HV→ab→Prop) (hk:∀Y h',KD Y b h' (tT d j).1→Own H Y (a::h.bs b) (a::h'.bs b)→KJ Y a b (tT d j).2.1→a∉h'.bs b→K (I (tT d j).2.2) Y):Spec L.P L.ν 382 [ptr a] H K:=by
 have hlen:=hs.len;have Qi:=hs.nx;have zZ:=xq hs;unfold tT at hk;refine ah L FI rfl ?_;refine G_ ?_;refine kU (v:=ptr a) (cs:=[ptr a]) rfl rfl rfl rfl fun p1 X1 e1 k1 f1 s1=>?_;have v8:=hJ.dt f1;have oy:=hD.dt f1;refine C_ ?_;refine re L a b j X1 v8 _ ?_;cases c1:j.dead
 case true =>
   rw[c1] at hk;dsimp only[cond_true] at hk ⊢;refine G_ ?_;exact aa (hk X1 h oy ((Own.of _ f1).cons a) v8 na)
 rw[c1] at hk;dsimp only[cond_false] at hk ⊢;have Aee:X1 a=_:=v8;refine G_ ?_;apply bz (v:=fD j.s);rfl;(focus exact v8);rfl;refine C_ ?_;refine qZ L j.s (by omega) (fun p hp=>by have:=hs.lt p hp;omega) (by omega) X1 _ fun X2 f2=>?_
 refine C_ ?_;refine ot L .no (bD j.s) (by have:=lC j.s;omega) (fun r hr=>by have:=(eW (mK hs r hr).1).2.2.2.1;omega) X2 _ fun X3 f3=>?_
 generalize bX (bD j.s)=x at *;refine G_ ?_;refine kG fun p4 X4 e4 k4 f4=>?_;refine G_ ?_;refine bH (bI:=[.sl .no 1 (x.map U)]) rfl rfl rfl rfl k4 rfl rfl fun X5 k45 f5=>?_;have f15:Fr [] X1 X5:=f2.trans (f3.trans (f4.own e4 f5));have k15:X5 p1=some (.obj [ptr a]):=f15.get (by simp) k1
 have hJ5:=v8.dt f15;have Vi:=oy.dt f15;have n1:p1∉h.bs b:=hD.new e1;have n4:p4∉h.bs b:=(oy.dt (f2.trans f3)).new e4;have fH5:=f1.trans f15;refine C_ ?_;refine wa L _ (by simp) (fun f hf=>by
   simp only[List.mem_cons,List.not_mem_nil,or_false] at hf;rcases hf with rfl | rfl | rfl | rfl | rfl<;>rfl) X5 _ (BZ L C a b p1 p4 j h d x n m hw (by omega) qM (by omega) X5 Vi hJ5 k15 k45 na n1 n4 _ fun Y h' hY oY=>?_)
 have w5:=LK hw x;have ZT:KJ Y a b j:=oY.get na hJ5;have Aef:Y a=_:=ZT;have k1Y:=oY.get n1 k15;have k4Y:=oY.get n4 k45;have vX:=oY.apart na hJ5;have oHY:Own H Y (h.bs b) (h'.bs b):=(Own.of _ fH5).trans oY;generalize pH d x=t at *;refine G_ ?_;cases c2:t.2 != 0
 case true =>
   rw[c2] at hk;refine C_ ?_;refine kX L b h' t.1 aT (n+5) _ w5 (by omega) (by decide) Y hY _ fun Z h2 hZ oZ=>?_
   refine G_ ?_;exact aa (hk Z h2 hZ ((oHY.trans oZ).cons a) (oZ.get vX ZT) (oZ.apart vX ZT))
 rw[c2] at hk;dsimp only[cond_false] at hk;refine G_ ?_;refine bH (bI:=[ptr b,.sl .no 36 (j.s.parts.map bB),I j.s.next,I x.length,B j.dead]) rfl rfl rfl rfl ZT rfl rfl fun Z hZ fZ=>?_;have ZM:KD Z b h' t.1:=hY.fr fZ (by intro c hc hm;rw[List.mem_singleton] at hm;subst hm;exact vX hc)
 have k1Z:Z p1=some (.obj [ptr a]):=fZ.get (by
   simp only[List.mem_singleton];intro e;subst e;rw[show H p1=_ from hJ] at e1;cases e1) k1Y
 refine C_ ?_;refine jz L b h' t.1 (n+5) _ w5 (by omega) Z ZM _ fun W h2 hW oW=>?_
 have n1Y:=oY.apart n1 k15;have k1W:=oW.get n1Y k1Z;have ZV:=oW.get vX hZ;have naW:=oW.apart vX hZ;generalize t.1.aM=y at *;refine G_ ?_;refine bH (bI:=[ptr b,.sl .no 36 (j.s.parts.map bB),I j.s.next,I x.length,B (y.2 != 0)]) rfl rfl rfl rfl ZV rfl rfl fun V hV fV=>?_;refine G_ ?_;have hDV:KD V b h2 y.1:=hW.fr fV (by intro c hc hm;rw[List.mem_singleton] at hm;subst hm;exact naW hc)
 exact aa (hk V h2 hDV ((oHY.cons a).trans ((Own.at _ fZ).trans ((oW.cons a).trans (Own.at _ fV)))) hV naW)
end Sm
