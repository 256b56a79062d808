/-
  J40,J41,J42,J43
-/
import Derived.Test.YtegmmhldpmmkeaaGreatDoorSmJN
import Derived.Test.YtegmmhldpmmkeaaGreatDoorSmJG
import Derived.Test.YtegmmhldpmmkeaaGreatDoorSmJK
set_option linter.unusedVariables false
set_option linter.unusedSimpArgs false
set_option maxRecDepth 10000
set_option maxHeartbeats 4000000
namespace Sm
open Go
def oB(d:Dk):List HV:=[I d.room,.sl .no 3 (d.sure.map du),.sl .no 2 (d.loose.map pX),.sl .no 2 (d.f.map fP),B d.down,I d.ops,I d.aD,B d.done,I d.aE,.v (.slice none 0 0),I 0,I 0,B false]
def rjO(d:Dk):Option Jn→HV
 | none => .ag (oB d)
 | some j=>OH d j
def r6(u:Dk×Int):Dk×Int:=bif u.2==0 then u.1.aM else u
def pj(u:Dk×Int):Dk×Int:=bif u.2==0 then u.1.sync az else u
theorem IW{d:Dk}(h:((r6 (eX d)).2 != 0)=true):lP d=((r6 (eX d)).1,none,(r6 (eX d)).2):=by
 unfold lP;cases c:(eX d).2==0
 · have e:r6 (eX d)=eX d:=by unfold r6;rw[c];rfl
   rw[e] at h ⊢;rw[h];rfl
 · have e:r6 (eX d)=(eX d).1.aM:=by unfold r6;rw[c];rfl
   rw[e] at h ⊢;rw[show ((eX d).2 != 0)=false by simp[bne,c],cond_false]
   unfold nT;rw[h];rfl
theorem LZ{d:Dk}(h:((r6 (eX d)).2 != 0)=false):lP d=pe (d.read az).1 (eX d).1.aM.1∧(eX d).2=0∧(eX d).1.aM.2=0∧r6 (eX d)=(eX d).1.aM:=by
 unfold lP;cases c:(eX d).2==0
 · have e:r6 (eX d)=eX d:=by unfold r6;rw[c];rfl
   rw[e] at h;rw[show ((eX d).2 != 0)=true by simp[bne,c]] at h;cases h
 · have e:r6 (eX d)=(eX d).1.aM:=by unfold r6;rw[c];rfl
   rw[e] at h;refine⟨?_,by simpa using c,by simpa using h,e⟩
   rw[show ((eX d).2 != 0)=false by simp[bne,c],cond_false]
   unfold nT;rw[h];rfl
theorem kL{b:List UInt8}{d:Dk}(h:((pj (cI b d)).2 != 0)=true):pe b d=((pj (cI b d)).1,none,(pj (cI b d)).2):=by
 unfold pe;cases c:(cI b d).2==0
 · have e:pj (cI b d)=cI b d:=by unfold pj;rw[c];rfl
   rw[e] at h ⊢;rw[h];rfl
 · have e:pj (cI b d)=(cI b d).1.sync az:=by unfold pj;rw[c];rfl
   rw[e] at h ⊢;rw[show ((cI b d).2 != 0)=false by simp[bne,c],cond_false,h];rfl
theorem mM{b:List UInt8}{d:Dk}(h:((pj (cI b d)).2 != 0)=false):pe b d=((pj (cI b d)).1,some ⟨(bK z0 (scan aQ b).1).1,ez b,false⟩,0):=by
 unfold pe;cases c:(cI b d).2==0
 · have e:pj (cI b d)=cI b d:=by unfold pj;rw[c];rfl
   rw[e] at h;rw[show ((cI b d).2 != 0)=true by simp[bne,c]] at h;cases h
 · have e:pj (cI b d)=(cI b d).1.sync az:=by unfold pj;rw[c];rfl
   rw[e] at h ⊢;rw[show ((cI b d).2 != 0)=false by simp[bne,c],cond_false,h];rfl
attribute [local irreducible] aH aj aX ju FD DR DF kS bk aA aL bn DK RK JK BR G3 bh Spec Tok Fr CV
theorem zT(L:ai code)(d:Dk)(n m:Nat)(hw:d.WF n m)(hn:n+10 < 1048000)(hm:m≤900000):aU L 427 [ec d] (.tu [rjO (cL d).1 (cL d).2.1,I (cL d).2.2]):=by
 intro H K hk;have w1:=jU hw;refine ah L FX rfl ?_;unfold cL at hk;(repeat refine gr T_ ?_);refine ep (v:=ec d) (cs:=(ec d).cells) rfl rfl rfl rfl rfl ?_;(repeat refine gr T_ ?_);apply ay (v:=ec d);rfl;rfl;rfl;refine aG (x:=.h (.ag (oB d))) rfl rfl ?_;(repeat refine gr T_ ?_);refine av (v:=.ag (oB d)) (bI:=oB d) rfl rfl rfl rfl rfl rfl rfl rfl ?_;(repeat refine gs T_ ?_);refine fS (ak L) (fun(_:Unit)=>[(2,.lp 1 0),(4,.lp 2 0)]) (fun _=>[(1,zQ),(2,oB (bq d).1)]) (fun _ V=>Fr [] H V∧(bq d).2=0) ?_ ?_
 · (repeat refine gs T_ ?_);apply ay (v:=ec d);rfl;rfl;rfl;(apply af;rfl);refine IV L d aT n m hw (by omega) (by omega) H _ fun X1 f1=>?_
   (repeat refine gs T_ ?_);cases c2:d.list.any fun e=>e.path==aT
   · have et:bq d=(d,0):=by unfold bq;rw[c2];rfl
     (repeat refine gs T_ ?_);refine lU () ⟨f1,by rw[et]⟩ ?_
     rw[et];(refine bw ?_ ?_ ?_<;>(repeat refine bE T_ ?_)<;>exact bA)
   · have et:bq d=d.remove aT:=by unfold bq;rw[c2];rfl
     (repeat refine gr T_ ?_);apply ay (v:=ec d);rfl;rfl;rfl;(apply af;rfl);refine nP L d aT (by decide) n m hw (by omega) X1 _ fun X2 f2=>?_
     rw[←et];(repeat refine gr T_ ?_);refine bS (bI:=oB (bq d).1) rfl rfl rfl rfl rfl rfl rfl ?_;(repeat refine gr T_ ?_);cases c3:(bq d).2 != 0
     · have yx:(bq d).2=0:=by simpa using c3
       (repeat refine gs T_ ?_);refine lU () ⟨f1.trans f2,yx⟩ ?_;(refine bw ?_ ?_ ?_<;>(repeat refine bE T_ ?_)<;>exact bA)
     · rw[c3] at hk;dsimp only[cond_true] at hk;(repeat refine gr T_ ?_);apply ay (v:=.ag (oB (bq d).1));rfl;rfl;rfl;(repeat refine gr T_ ?_);refine av (v:=.ag (oB (bq d).1)) (bI:=oB (bq d).1) rfl rfl rfl rfl rfl rfl rfl rfl ?_;(repeat refine gr T_ ?_);exact aa (hk X2 (f1.trans f2))
 rintro - V ⟨fV,ht⟩;rw[ht] at hk;rw[show ((0:Int) != 0)=false from rfl,cond_false] at hk;generalize bq d=t at *;have w2:=LC w1;have nM:=zF w1 az;(repeat refine gr T_ ?_);apply ay (v:=ec t.1);rfl;rfl;rfl;(apply af;rfl);refine tc L t.1 az (n+1) m w1 (by omega) V _ fun X1 f1=>?_
 have fV:=fV.trans f1;(repeat refine gs T_ ?_);refine fS (ak L) (fun(_:Unit)=>[(2,.lp 1 0),(4,.lp 2 0),(5,.h (I (eX t.1).2))]) (fun _=>[(1,zQ),(2,oB (eX t.1).1)]) (fun _ V=>Fr [] H V) ?_ ?_
 · (repeat refine gs T_ ?_);cases c2:(t.1.read az).2==8
   · have e:eX t.1=(t.1,(t.1.read az).2):=by unfold eX;rw[c2];rfl
     rw[e];(repeat refine gs T_ ?_);refine lU () fV ?_;(refine bw ?_ ?_ ?_<;>(repeat refine bE T_ ?_)<;>exact bA)
   · have e:eX t.1=t.1.put az false:=by unfold eX;rw[c2];rfl
     (repeat refine gr T_ ?_);apply ay (v:=ec t.1);rfl;rfl;rfl;(apply af;rfl);refine oM L t.1 az (by decide) (n+1) m w1 (by omega) X1 _ fun X2 f2=>?_
     rw[←e];(repeat refine gr T_ ?_);refine bS (bI:=oB (eX t.1).1) rfl rfl rfl rfl rfl rfl rfl ?_;(repeat refine gs T_ ?_);refine lU () (fV.trans f2) ?_;(refine bw ?_ ?_ ?_<;>(repeat refine bE T_ ?_)<;>exact bA)
 clear fV;rintro - V2 fV;(repeat refine gs T_ ?_);refine fS (ak L) (fun(_:Unit)=>[(2,.lp 1 0),(4,.lp 2 0),(5,.h (I (r6 (eX t.1)).2))]) (fun _=>[(1,zQ),(2,oB (r6 (eX t.1)).1)]) (fun _ V=>Fr [] H V) ?_ ?_
 · (repeat refine gs T_ ?_);cases c2:(eX t.1).2==0
   · have e:r6 (eX t.1)=eX t.1:=by unfold r6;rw[c2];rfl
     rw[e];(repeat refine gs T_ ?_);refine lU () fV ?_;(refine bw ?_ ?_ ?_<;>(repeat refine bE T_ ?_)<;>exact bA)
   · have e:r6 (eX t.1)=(eX t.1).1.aM:=by unfold r6;rw[c2];rfl
     (repeat refine gr T_ ?_);apply ay (v:=ec (eX t.1).1);rfl;rfl;rfl;(apply af;rfl);refine mw L (eX t.1).1 (n+1+1) m w2 (by omega) V2 _ fun X2 f2=>?_
     rw[←e];(repeat refine gr T_ ?_);refine bS (bI:=oB (r6 (eX t.1)).1) rfl rfl rfl rfl rfl rfl rfl ?_;(repeat refine gs T_ ?_);refine lU () (fV.trans f2) ?_;(refine bw ?_ ?_ ?_<;>(repeat refine bE T_ ?_)<;>exact bA)
 clear fV;rintro - V3 fV;(repeat refine gr T_ ?_);cases c3:(r6 (eX t.1)).2 != 0
 case true =>
   rw[IW c3] at hk;(repeat refine gr T_ ?_);apply ay (v:=.ag (oB (r6 (eX t.1)).1));rfl;rfl;rfl;(repeat refine gr T_ ?_);refine av (v:=.ag (oB (r6 (eX t.1)).1)) (bI:=oB (r6 (eX t.1)).1) rfl rfl rfl rfl rfl rfl rfl rfl ?_;(repeat refine gr T_ ?_);exact aa (hk V3 fV)
 obtain⟨eo,em,es,ey⟩:=LZ c3;rw[eo] at hk;have wG:=B3 w1 em es;have w3:=fp w2;rw[ey,es];generalize (eX t.1).1.aM=y at *;(repeat refine gr T_ ?_);apply ay (v:=ec y.1);rfl;rfl;rfl;(apply af;rfl);refine tc L y.1 az (n+1+1+1) m w3 (by omega) V3 _ fun X1 f1=>?_
 rw[wG];generalize (t.1.read az).1=b at *;have LB:=zG aQ b;have ZQ:=FY b;have Jv:=tQ (scan aQ b).1 z0;(repeat refine gr T_ ?_);refine Qk rfl (by omega) ?_
 (repeat refine gr T_ ?_);(apply af;rfl);refine zy L _ b (by omega) X1 _ fun X2 f2=>?_
 rw[L0];(repeat refine gr T_ ?_);(apply af;rfl);refine zN L .no (scan aQ b).1 (by omega) ZQ X2 _ fun X3 f3=>?_
 have w4:=rZ w3 b;have hN:((bX ((scan aQ b).1.take (bK z0 (scan aQ b).1).2.toNat)).length:Int)=ez b:=rfl;have NQ:=@mM b y.1;generalize hp:bK z0 (scan aQ b).1=p at *;(repeat refine gr T_ ?_);refine av (v:=fD p.1) (bI:=j7 p.1) rfl rfl rfl rfl rfl rfl rfl rfl ?_;(repeat refine gr T_ ?_);have pU:p.2=((p.2.toNat:Nat):Int):=(Int.toNat_of_nonneg Jv.1).symm;refine iL (l:=0) (h:=p.2.toNat) rfl rfl (show some p.2=some ((p.2.toNat:Nat):Int) by rw[←pU]) (Nat.zero_le _) (by rw[List.length_map];omega) fun fC=>?_
 rw[show (((scan aQ b).1.map bc).drop 0).take (p.2.toNat - 0)=((scan aQ b).1.take p.2.toNat).map bc by rw[List.drop_zero,Nat.sub_zero,List.map_take]]
 (repeat refine gr T_ ?_);(apply af;rfl);refine rf L _ ((scan aQ b).1.take p.2.toNat) (by rw[List.length_take];omega) (fun r hr=>by have:=(eW (ZQ r (List.mem_of_mem_take hr)).1).2.2.2.1;omega) X3 _ fun X4 f4=>?_
 rw[xy fun r hr=>(ZQ r (List.mem_of_mem_take hr)).1];have f4:=fV.trans (f1.trans (f2.trans (f3.trans f4)));generalize bX ((scan aQ b).1.take p.2.toNat)=x at *;(repeat refine gs T_ ?_);rw[hN];refine fS (ak L) (fun(_:Unit)=>[(2,.lp 1 0),(4,.lp 2 0),(5,.h (I (cI b y.1).2)),(11,.lp 3 0),(13,.h (I (ez b)))]) (fun _=>[(1,zQ),(2,oB (cI b y.1).1),(3,j7 p.1)]) (fun _ V=>Fr [] H V) ?_ ?_
 · (repeat refine gs T_ ?_);cases c5:decide (ez b < (b.length:Int))
   · have e:cI b y.1=(y.1,0):=by unfold cI;rw[c5];rfl
     rw[e];(repeat refine gs T_ ?_);refine lU () f4 ?_;(refine bw ?_ ?_ ?_<;>(repeat refine bE T_ ?_)<;>exact bA)
   · have e:cI b y.1=y.1.cut az (ez b):=by unfold cI;rw[c5];rfl
     (repeat refine gr T_ ?_);apply ay (v:=ec y.1);rfl;rfl;rfl;(repeat refine gr T_ ?_);(apply af;rfl);refine vp L y.1 az (ez b) (by decide) (n+1+1+1) m w3 (by omega) (by omega) X4 _ fun X5 f5=>?_
     rw[←e];(repeat refine gr T_ ?_);refine bS (bI:=oB (cI b y.1).1) rfl rfl rfl rfl rfl rfl rfl ?_;(repeat refine gs T_ ?_);refine lU () (f4.trans f5) ?_;(refine bw ?_ ?_ ?_<;>(repeat refine bE T_ ?_)<;>exact bA)
 clear f4;rintro - V4 f4;(repeat refine gs T_ ?_);refine fS (ak L) (fun(_:Unit)=>[(2,.lp 1 0),(4,.lp 2 0),(5,.h (I (pj (cI b y.1)).2)),(11,.lp 3 0),(13,.h (I (ez b)))]) (fun _=>[(1,zQ),(2,oB (pj (cI b y.1)).1),(3,j7 p.1)]) (fun _ V=>Fr [] H V) ?_ ?_
 · (repeat refine gs T_ ?_);cases c5:(cI b y.1).2==0
   · have e:pj (cI b y.1)=cI b y.1:=by unfold pj;rw[c5];rfl
     rw[e];(repeat refine gs T_ ?_);refine lU () f4 ?_;(refine bw ?_ ?_ ?_<;>(repeat refine bE T_ ?_)<;>exact bA)
   · have e:pj (cI b y.1)=(cI b y.1).1.sync az:=by unfold pj;rw[c5];rfl
     (repeat refine gr T_ ?_);apply ay (v:=ec (cI b y.1).1);rfl;rfl;rfl;(apply af;rfl);refine ta L (cI b y.1).1 az (by decide) (n+1+1+1+1) m w4 (by omega) (by omega) V4 _ fun X5 f5=>?_
     rw[←e];(repeat refine gr T_ ?_);refine bS (bI:=oB (pj (cI b y.1)).1) rfl rfl rfl rfl rfl rfl rfl ?_;(repeat refine gs T_ ?_);refine lU () (f4.trans f5) ?_;(refine bw ?_ ?_ ?_<;>(repeat refine bE T_ ?_)<;>exact bA)
 clear f4;rintro - V5 f5;(repeat refine gr T_ ?_);cases c6:(pj (cI b y.1)).2 != 0
 case true =>
   rw[kL c6] at hk;generalize pj (cI b y.1)=z at *;(repeat refine gr T_ ?_);apply ay (v:=.ag (oB z.1));rfl;rfl;rfl;(repeat refine gr T_ ?_);refine av (v:=.ag (oB z.1)) (bI:=oB z.1) rfl rfl rfl rfl rfl rfl rfl rfl ?_;(repeat refine gr T_ ?_);exact aa (hk V5 f5)
 rw[NQ c6] at hk;generalize pj (cI b y.1)=z at *;(repeat refine gr T_ ?_);apply ay (v:=fD p.1);rfl;rfl;rfl;(repeat refine gr T_ ?_);refine bS (bI:=LX z.1 ⟨p.1,0,false⟩) rfl rfl rfl rfl rfl rfl rfl ?_;(repeat refine gr T_ ?_);refine bS (bI:=LX z.1 ⟨p.1,ez b,false⟩) rfl rfl rfl rfl rfl rfl rfl ?_;(repeat refine gr T_ ?_);apply ay (v:=OH z.1 ⟨p.1,ez b,false⟩);rfl;rfl;rfl;refine av (v:=OH z.1 ⟨p.1,ez b,false⟩) (bI:=LX z.1 ⟨p.1,ez b,false⟩) rfl rfl rfl rfl rfl rfl rfl rfl ?_;(repeat refine gr T_ ?_);exact aa (hk V5 f5)
end Sm
namespace Sm
open Go
def wC(b:Nat)(jp:HV)(d:Dk)(R:List HV)(k:Bool):List HV:=[ptr b,jp,I d.room,.sl .no 3 (d.sure.map du),.sl .no 2 (d.loose.map pX),.sl .no 2 (d.f.map fP),B d.down,I d.ops,I d.aD,B d.done,I d.aE]++(R++[B k])
def rdC(d:Dk)(r9 JH JI JJ:HV):List HV:=[I d.room,.sl .no 3 (d.sure.map du),.sl .no 2 (d.loose.map pX),.sl .no 2 (d.f.map fP),B d.down,I d.ops,I d.aD,B d.done,I d.aE,r9,JH,JI,JJ]
theorem B4{d:Dk}(h:(cL d).2.1=none):((cL d).2.2==0)=false:=by
 unfold cL at h ⊢;cases c1:(bq d).2 != 0
 · rw[c1,cond_false] at h;rw[cond_false];unfold lP at h ⊢;cases c2:(eX (bq d).1).2 != 0
   · rw[c2,cond_false] at h;rw[cond_false];unfold nT at h ⊢;cases c3:(eX (bq d).1).1.aM.2 != 0
     · rw[c3,cond_false] at h;rw[cond_false];generalize ((bq d).1.read az).1=b at *;generalize (eX (bq d).1).1.aM.1=y at *;cases c4:(pj (cI b y)).2 != 0
       · rw[mM c4] at h;cases h
       · rw[kL c4];simpa[bne] using c4
     · rw[cond_true];simpa[bne] using c3
   · rw[cond_true];simpa[bne] using c2
 · rw[cond_true];simpa[bne] using c1
theorem B5{d:Dk}{j:Jn}(h:(cL d).2.1=some j):(cL d).2.2=0:=by
 unfold cL at h ⊢;cases c1:(bq d).2 != 0
 · rw[c1,cond_false] at h;rw[cond_false];unfold lP at h ⊢;cases c2:(eX (bq d).1).2 != 0
   · rw[c2,cond_false] at h;rw[cond_false];unfold nT at h ⊢;cases c3:(eX (bq d).1).1.aM.2 != 0
     · rw[c3,cond_false] at h;rw[cond_false];generalize ((bq d).1.read az).1=b at *;generalize (eX (bq d).1).1.aM.1=y at *;cases c4:(pj (cI b y)).2 != 0
       · rw[mM c4]
       · rw[kL c4] at h;cases h
     · rw[c3,cond_true] at h;cases h
   · rw[c2,cond_true] at h;cases h
 · rw[c1,cond_true] at h;cases h
theorem L1{d:Dk}{j:Jn}(h:(cL d).2.1=some j):j8 j.s:=by
 unfold cL at h;cases c1:(bq d).2 != 0
 · rw[c1,cond_false] at h;unfold lP at h;cases c2:(eX (bq d).1).2 != 0
   · rw[c2,cond_false] at h;unfold nT at h;cases c3:(eX (bq d).1).1.aM.2 != 0
     · rw[c3,cond_false] at h;generalize ((bq d).1.read az).1=b at *;generalize (eX (bq d).1).1.aM.1=y at *;cases c4:(pj (cI b y)).2 != 0
       · rw[mM c4] at h;have h:=Option.some.inj h;subst h;exact xz LW (FY b)
       · rw[kL c4] at h;cases h
     · rw[c3,cond_true] at h;cases h
   · rw[c2,cond_true] at h;cases h
 · rw[c1,cond_true] at h;cases h
theorem OI{d:Dk}{n m:Nat}(hw:d.WF n m):(cL d).1.WF (n+5) m:=by
 have w1:=jU hw;have w2:=LC w1;have w3:=fp w2;unfold cL;cases c1:(bq d).2 != 0
 · rw[cond_false];unfold lP;cases c2:(eX (bq d).1).2 != 0
   · rw[cond_false];unfold nT;cases c3:(eX (bq d).1).1.aM.2 != 0
     · rw[cond_false];generalize ((bq d).1.read az).1=b at *;generalize (eX (bq d).1).1.aM.1=y at *;have w4:=rZ w3 b;have w5:(pj (cI b y)).1.WF (n+5) m:=by
         unfold pj;cases (cI b y).2==0
         · exact w4.mono (by omega) (Nat.le_refl m)
         · exact(kZ w4 _).mono (by omega) (Nat.le_refl m)
       cases c4:(pj (cI b y)).2 != 0
       · rw[mM c4];exact w5
       · rw[kL c4];exact w5
     · rw[cond_true];exact w3.mono (by omega) (Nat.le_refl m)
   · rw[cond_true];exact w2.mono (by omega) (Nat.le_refl m)
 · rw[cond_true];exact w1.mono (by omega) (Nat.le_refl m)
attribute [local irreducible] aH aj aX ju FD DR DF kS bk aA aL bn DK RK JK BR G3 bh Spec Tok Fr CV
theorem KD.Nn{H X:ab}{b w:Nat}{h:Hd}{d:Dk}(hD:KD H b h d)(f:Fr [w] H X)(nw:w∉h.bs b):KD X b h d:=hD.fr f (by intro c hc hm;rw[List.mem_singleton] at hm;subst hm;exact nw hc)
theorem qk(L:ai code)(C:Cl L)(w b:Nat)(h:Hd)(d:Dk)(a:Ac)(jp x0 x1 x2 x3 x4 x5 x6 x7 x8 r9 JH JI JJ:HV)(k:Bool)(n m:Nat)(hw:d.WF n m)(hn:n < 1048000)(qM:n*m≤1152921504606846976)(hm:m+a.d.b.length≤140737488355328)(hp:a.d.p.length≤1048576)(hq:a.d.q.length≤1048576)(nM:a.d.b.length≤1048576)(hk5:a.kind.toNat % 8=5)
   (H:ab) (hD:KD H b h d) (hW:H w=some (.obj (wC b jp d [x0,x1,x2,x3,x4,x5,x6,x7,x8,r9,JH,JI,JJ] k))) (nw:w∉h.bs b) (K:HV→ab→Prop)
   (hk:∀Y h',KD Y b h' (Ng d a.d).1→Own H Y (w::h.bs b) (w::h'.bs b)→Y w=some (.obj (wC b jp (Ng d a.d).1 (rdC d r9 JH JI JJ) k))→w∉h'.bs b→K (B true) Y):Spec L.P L.ν 391 [ptr w,ZX a] H K:=by
 refine ah L FZ rfl ?_;(repeat refine gr T_ ?_);refine ep (v:=ZX a) (cs:=acC a) rfl rfl rfl rfl rfl ?_;(repeat refine gr T_ ?_);apply bz (v:=ec d);rfl;(focus exact hW);rfl;(repeat refine gr T_ ?_);refine bH (bI:=wC b jp d (rdC d r9 JH JI JJ) k) rfl rfl rfl rfl hW rfl rfl fun X1 VY Jw=>?_;have oy:=hD.Nn Jw nw;(repeat refine gr T_ ?_);have hk8:((a.kind.toNat:Int).tmod 8)=5:=by rw[Int.tmod_eq_emod_of_nonneg (by omega)];omega
 rw[hk8];(repeat refine gr T_ ?_);rw[show ((5:Int)==5)=true from rfl];(repeat refine gr T_ ?_);apply bz (v:=ec d);rfl;(focus exact VY);rfl;(repeat refine gr T_ ?_);apply ay (v:=NW a.d);rfl;rfl;rfl;(repeat refine gr T_ ?_);(apply af;rfl);refine NY L C b h d a.d n m hw hn qM hm hp hq nM X1 oy _ fun Y h' hY oY=>?_;have Nk:=oY.get nw VY;have QB:=oY.apart nw VY;generalize (Ng d a.d).1=e at *;(repeat refine gr T_ ?_);refine bH (bI:=wC b jp e (rdC d r9 JH JI JJ) k) rfl rfl rfl rfl Nk rfl rfl fun X2 AN OJ=>?_;(repeat refine gr T_ ?_);exact aa (hk X2 h' (hY.Nn OJ QB) ((Own.at _ Jw).trans ((oY.cons w).trans (Own.at _ OJ))) AN QB)
theorem B6(L:ai code)(C:Cl L)(w b:Nat)(h:Hd)(d:Dk)(jp x0 x1 x2 x3 x4 x5 x6 x7 x8 r9 JH JI JJ:HV)(k:Bool)(n m:Nat)(hw:d.WF n m)(hn:n+10 < 1048000)(hm:m≤900000)
   (H:ab) (hD:KD H b h d) (hW:H w=some (.obj (wC b jp d [x0,x1,x2,x3,x4,x5,x6,x7,x8,r9,JH,JI,JJ] k))) (nw:w∉h.bs b) (K:HV→ab→Prop)
   (pU:(cL d).2.1=none→∀Y h',KD Y b h' (cL d).1→Own H Y (w::h.bs b) (w::h'.bs b)→Y w=some (.obj (wC b nI (cL d).1 (oB (cL d).1) false))→w∉h'.bs b→K (B true) Y)
   (gF:∀j,(cL d).2.1=some j→∀Y h' a,KD Y b h' (cL d).1→KJ Y a b j→Own H Y (w::h.bs b) (w::a::h'.bs b)→Y w=some (.obj (wC b (ptr a) (cL d).1 (LX (cL d).1 j) true))→w∉h'.bs b→a∉h'.bs b→a≠w→K (B true) Y):Spec L.P L.ν 392 [ptr w] H K:=by
 refine ah L F0 rfl ?_;have hr:=zT L d n m hw hn hm;have hno:=@B4 d;have hso:=@B5 d;(repeat refine gr T_ ?_);(apply af;rfl);refine oq L C b h d n m hw (by omega) (by omega) H hD _ fun Y h' oy o1=>⟨fun hn=>?_,fun j hj a hJ oa na=>?_⟩
 · have he:=hno hn;have hW1:=o1.get nw hW;have QC:=o1.apart nw hW;(repeat refine gr T_ ?_);apply bz (v:=ec d);rfl;(focus exact hW1);rfl;(apply af;rfl);refine hr Y _ fun Z fZ=>?_;have Nk:=hW1 |> fZ.get (by simp)
   rw[hn];generalize cL d=o at *;(repeat refine gr T_ ?_);refine av (v:=.ag (oB o.1)) (bI:=oB o.1) rfl rfl rfl rfl rfl rfl rfl rfl ?_;(repeat refine gr T_ ?_);apply ay (v:=.ag (oB o.1));rfl;rfl;rfl;(repeat refine gr T_ ?_);apply ay (v:=ec o.1);rfl;rfl;rfl;(repeat refine gr T_ ?_);refine bH (bI:=wC b nI d [x0,x1,x2,x3,x4,x5,x6,x7,x8,r9,JH,JI,JJ] k) rfl rfl rfl rfl Nk rfl rfl fun X1 VY Jw=>?_;(repeat refine gr T_ ?_);refine bH (bI:=wC b nI d (oB o.1) k) rfl rfl rfl rfl VY rfl rfl fun X2 AN OJ=>?_;(repeat refine gr T_ ?_);refine bH (bI:=wC b nI o.1 (oB o.1) k) rfl rfl rfl rfl AN rfl rfl fun X3 hX3 ZY=>?_;(repeat refine gr T_ ?_);refine bH (bI:=wC b nI o.1 (oB o.1) (o.2.2==0)) rfl rfl rfl rfl hX3 rfl rfl fun X4 hX4 ZZ=>?_;(repeat refine gr T_ ?_);rw[he];rw[he] at hX4;exact aa (pU hn X4 h' (((((oy.dt fZ).Nn Jw QC).Nn OJ QC).Nn ZY QC).Nn ZZ QC) (((o1.trans (Own.of _ fZ)).cons w).trans ((Own.at _ Jw).trans ((Own.at _ OJ).trans ((Own.at _ ZY).trans (Own.at _ ZZ))))) hX4 QC)
 · have he:=hso hj;have hW1:=oa.get nw hW;have QC:=oa.apart nw hW;have naw:a≠w:=fun e=>QC (by rw[←e];simp)
   have QB:w∉h'.bs b:=fun e=>QC (by simp[e])
   (repeat refine gr T_ ?_);apply bz (v:=ec d);rfl;(focus exact hW1);rfl;(apply af;rfl);refine hr Y _ fun Z fZ=>?_;have Nk:=hW1 |> fZ.get (by simp)
   rw[hj,he];generalize cL d=o at *;(repeat refine gr T_ ?_);refine av (v:=OH o.1 j) (bI:=LX o.1 j) rfl rfl rfl rfl rfl rfl rfl rfl ?_;(repeat refine gr T_ ?_);apply ay (v:=OH o.1 j);rfl;rfl;rfl;(repeat refine gr T_ ?_);apply ay (v:=ec o.1);rfl;rfl;rfl;(repeat refine gr T_ ?_);refine bH (bI:=wC b (ptr a) d [x0,x1,x2,x3,x4,x5,x6,x7,x8,r9,JH,JI,JJ] k) rfl rfl rfl rfl Nk rfl rfl fun X1 VY Jw=>?_;(repeat refine gr T_ ?_);refine bH (bI:=wC b (ptr a) d (LX o.1 j) k) rfl rfl rfl rfl VY rfl rfl fun X2 AN OJ=>?_;(repeat refine gr T_ ?_);refine bH (bI:=wC b (ptr a) o.1 (LX o.1 j) k) rfl rfl rfl rfl AN rfl rfl fun X3 hX3 ZY=>?_;(repeat refine gr T_ ?_);refine bH (bI:=wC b (ptr a) o.1 (LX o.1 j) true) rfl rfl rfl rfl hX3 rfl rfl fun X4 hX4 ZZ=>?_;(repeat refine gr T_ ?_);have OE:KJ X4 a b j:=by
     have hp:a∉[w]:=by simpa using naw
     exact((((hJ.dt fZ).fr Jw hp).fr OJ hp).fr ZY hp).fr ZZ hp
   exact aa (gF j hj X4 h' a (((((oy.dt fZ).Nn Jw QB).Nn OJ QB).Nn ZY QB).Nn ZZ QB) OE (((oa.trans (Own.of _ fZ)).cons w).trans ((Own.at _ Jw).trans ((Own.at _ OJ).trans ((Own.at _ ZY).trans (Own.at _ ZZ))))) hX4 QB na naw)
end Sm
namespace Sm
open Go
attribute [local irreducible] aH aj aX ju FD DR DF kS bk aA aL bn DK RK JK BR G3 bh Spec Tok Fr CV
theorem zU(L:ai code)(s:ek)(hl:s.parts.length≤1048576):aU L 422 [fD s,fD s] (B true):=by
 intro H K hk;refine ah L F1 rfl ?_;(repeat refine gr T_ ?_);refine ep (v:=fD s) (cs:=j7 s) rfl rfl rfl rfl rfl ?_;(repeat refine gr T_ ?_);refine ep (v:=fD s) (cs:=j7 s) rfl rfl rfl rfl rfl ?_;(repeat refine gr T_ ?_);refine aV (ak L) (fun(j:Nat)=>[(2,.lp 0 0),(3,.lp 1 0),(5,.h (I j))]) (fun _=>[(0,j7 s),(1,j7 s)]) (fun j X=>Fr [] H X∧j≤s.parts.length) (fun j=>s.parts.length - j) 0 ?_ ⟨Fr.refl _ _,by omega⟩ ?_
 · (refine bw ?_ ?_ ?_<;>(repeat refine bE T_ ?_)<;>exact bA)
 rintro j X ⟨fX,hj⟩;(repeat refine gr T_ ?_);(refine ct T_ ?_ ?_<;>intro h)
 · have bN:j < s.parts.length:=by have:=of_decide_eq_true h;omega
   (repeat refine gr T_ ?_);refine eK (cs:=(bB s.parts[j]).cells) rfl rfl rfl (by rw[List.getElem?_map,List.getElem?_eq_getElem bN];rfl) rfl ?_
   (repeat refine gr T_ ?_);refine ed (v:=bB s.parts[j]) rfl rfl ?_;(repeat refine gr T_ ?_);refine eK (cs:=(bB s.parts[j]).cells) rfl rfl rfl (by rw[List.getElem?_map,List.getElem?_eq_getElem bN];rfl) rfl ?_
   refine ed (v:=bB s.parts[j]) rfl rfl ?_;refine zo rfl rfl (Lk s.parts[j] s.parts[j]) (by rw[LV,Bool.not_true]) ?_
   (repeat refine gr T_ ?_);refine dG (j+1) (by omega) ⟨fX,bN⟩ ?_
   (refine bw ?_ ?_ ?_<;>(repeat refine bE T_ ?_)<;>exact bA)
 · (repeat refine gr T_ ?_);exact aa (hk X fX)
theorem zV(L:ai code)(C:Cl L)(w b:Nat)(h:Hd)(d:Dk)(jp x0 x1 x2 x3 x4 x5 x6 x7 x8 r9 JH JI JJ:HV)(n m:Nat)(hw:d.WF n m)(hn:n < 1048000)(hm:m≤140737488355328)
   (H:ab) (hD:KD H b h d) (hW:H w=some (.obj (wC b jp d [x0,x1,x2,x3,x4,x5,x6,x7,x8,r9,JH,JI,JJ] false))) (K:HV→ab→Prop)
   (hk:∀Y,Fr [] H Y→K (B true) Y):Spec L.P L.ν 390 [ptr w] H K:=by
 refine ah L xA rfl ?_;(repeat refine gr T_ ?_);apply bz (v:=ec d);rfl;(focus exact hW);rfl;(repeat refine gr T_ ?_);(apply af;rfl);refine od L C b h d n m hw (by omega) hm H hD _ fun im X3 hM hE _ f3=>?_
 have VN:=hW |> f3.get (by simp)
 have yw:=hD.dt f3;refine eu ?_;refine ee rfl (nA (v:=ec d) rfl VN rfl rfl) ?_;(repeat refine gr T_ ?_);(apply af;rfl);refine og L d n m hw hn hm X3 _ fun X4 f4=>?_;have BF:=VN |> f4.get (by simp)
 have iR:=yw.dt f4;have hE4:=hE.fr f4 (by simp)
 (repeat refine gr T_ ?_);(apply af;rfl);have hlen:(im.map Eo.e).length≤1048576:=by
   rw[hM,rM];split;· simp
   have:=hw.eT;simp;omega
 refine Spec.borrow (jt:=[.sl .no 3 ((im.map Eo.e).map dX),.sl .no 3 (d.list.map dX)]) ⟨hE4.vw,VW.refl _ _,T_⟩ (tX L .no .no (im.map Eo.e) d.list hlen US _ rfl) ?_;rw[hM,ov];(repeat refine gr T_ ?_);(apply af;rfl);refine pT L b h d X4 iR _ ?_;refine eu ?_;refine ee rfl (fN (v:=I d.ops) rfl BF rfl rfl) ?_;(repeat refine gr T_ ?_);(apply af;rfl);refine sY L b h d X4 iR _ ?_;refine eu ?_;refine ee rfl (fN (v:=B d.down) rfl BF rfl rfl) ?_;(repeat refine gr T_ ?_);(repeat refine gr T_ ?_);(repeat refine gr T_ ?_);exact aa (hk X4 (f3.trans f4))
theorem zW(L:ai code)(C:Cl L)(w b a:Nat)(h:Hd)(d rd:Dk)(j:Jn)(n m:Nat)(hw:d.WF n m)(hn:n < 1048000)(hm:m≤140737488355328)(hs:j8 j.s)
   (H:ab) (hD:KD H b h d) (hJ:KJ H a b j) (hW:H w=some (.obj (wC b (ptr a) d (LX rd j) true))) (K:HV→ab→Prop)
   (hk:∀Y,Fr [] H Y→K (B true) Y):Spec L.P L.ν 390 [ptr w] H K:=by
 have LB:=hs.len;refine ah L xA rfl ?_;(repeat refine gr T_ ?_);apply bz (v:=ec d);rfl;(focus exact hW);rfl;(repeat refine gr T_ ?_);(apply af;rfl);refine od L C b h d n m hw (by omega) hm H hD _ fun im X3 hM hE _ f3=>?_
 have VN:=hW |> f3.get (by simp)
 have yw:=hD.dt f3;refine eu ?_;refine ee rfl (nA (v:=ec d) rfl VN rfl rfl) ?_;(repeat refine gr T_ ?_);(apply af;rfl);refine og L d n m hw hn hm X3 _ fun X4 f4=>?_;have BF:=VN |> f4.get (by simp)
 have iR:=yw.dt f4;have hE4:=hE.fr f4 (by simp)
 have OE:KJ X4 a b j:=(hJ.dt f3).dt f4;(repeat refine gr T_ ?_);(apply af;rfl);have hlen:(im.map Eo.e).length≤1048576:=by
   rw[hM,rM];split;· simp
   have:=hw.eT;simp;omega
 refine Spec.borrow (jt:=[.sl .no 3 ((im.map Eo.e).map dX),.sl .no 3 (d.list.map dX)]) ⟨hE4.vw,VW.refl _ _,T_⟩ (tX L .no .no (im.map Eo.e) d.list hlen US _ rfl) ?_;rw[hM,ov];(repeat refine gr T_ ?_);(apply af;rfl);refine pT L b h d X4 iR _ ?_;refine eu ?_;refine ee rfl (fN (v:=I d.ops) rfl BF rfl rfl) ?_;(repeat refine gr T_ ?_);(apply af;rfl);refine sY L b h d X4 iR _ ?_;refine eu ?_;refine ee rfl (fN (v:=B d.down) rfl BF rfl rfl) ?_;(repeat refine gr T_ ?_);(repeat refine gr T_ ?_);(repeat refine gr T_ ?_);apply bz (v:=fD j.s);rfl;(focus exact BF);rfl;(repeat refine gr T_ ?_);(apply af;rfl);refine mI L a b j (by omega) X4 OE _ fun X5 f5=>?_
 have hW5:=BF |> f5.get (by simp)
 have hJ5:=OE.dt f5;refine eu ?_;refine ee rfl (fN (v:=fD j.s) rfl hW5 rfl rfl) ?_;(repeat refine gr T_ ?_);(apply af;rfl);refine zU L j.s (by omega) X5 _ fun X6 f6=>?_
 have ZP:=hW5 |> f6.get (by simp)
 have hJ6:=hJ5.dt f6;(repeat refine gr T_ ?_);(apply af;rfl);refine BT L a b j X6 hJ6 _ ?_;refine eu ?_;refine ee rfl (fN (v:=I j.n) rfl ZP rfl rfl) ?_;(repeat refine gr T_ ?_);(apply af;rfl);refine BU L a b j X6 hJ6 _ ?_;refine eu ?_;refine ee rfl (fN (v:=B j.dead) rfl ZP rfl rfl) ?_;(repeat refine gr T_ ?_);(repeat refine gr T_ ?_);apply bz (v:=OH rd j);rfl;(focus exact ZP);rfl;(repeat refine gr T_ ?_);(apply af;rfl);refine tV L a b j hs X6 hJ6 _ fun X7 f7=>?_;have hW7:=ZP |> f7.get (by simp)
 refine eu ?_;refine ee rfl (fN (v:=OH rd j) rfl hW7 rfl rfl) ?_;(repeat refine gr T_ ?_);(apply af;rfl);refine zS L rd j hs X7 _ fun X8 f8=>?_;(repeat refine gr T_ ?_);(repeat refine gr T_ ?_);exact aa (hk X8 (f3.trans (f4.trans (f5.trans (f6.trans (f7.trans f8))))))
end Sm
namespace Sm
open Go
structure LS (H X:ab) (w b:Nat) (h:Hd) (d:Dk):Prop where
 kd:KD X b h d
 fr:Fr [] H X
 nl:∀c∈w::h.bs b,H c=none
 nw:w∉h.bs b
 cell:∃x0 x1 x2 x3 x4 x5 x6 x7 x8,X w=some (.obj (wC b nI d [x0,x1,x2,x3,x4,x5,x6,x7,x8,.v (.slice none 0 0),I 0,I 0,B false] false))
theorem LS.own{H X Y:ab}{w b:Nat}{h:Hd}{d:Dk}(s:LS H X w b h d){bs:List Nat}(o:Own X Y (w::h.bs b) bs):Fr [] H Y∧∀c∈bs,H c=none:=
 ⟨Fr.sQ fun c r _ hr=>o.get (fun hm=>by rw[s.nl c hm] at hr;cases hr) (s.fr.get (by simp) hr),fun c hc=>(o.nw c hc).elim (s.nl c) fun h0=>s.fr.bM h0⟩
theorem LS.step{H X Y:ab}{w b:Nat}{h h':Hd}{d d' e:Dk}(s:LS H X w b h d)(k:KD Y b h' d')(o:Own X Y (w::h.bs b) (w::h'.bs b))(hW:Y w=some (.obj (wC b nI d' (rdC e (.v (.slice none 0 0)) (I 0) (I 0) (B false)) false)))(nw:w∉h'.bs b):LS H Y w b h' d':=
 ⟨k,(s.own o).1,(s.own o).2,nw,_,_,_,_,_,_,_,_,_,hW⟩
theorem OK(k:UInt8)(r:Rc)(a:UInt8)(p q:List UInt8)(n:Int)(dn:Bool):an (.ag (U k::(dE r++[U a,S p,S q,.v (.slice none 0 0),I n,B dn]))) (ZX ⟨k,r,⟨a,p,q,[],n,dn⟩⟩):=
 an.ag (bs:=acC ⟨k,r,⟨a,p,q,[],n,dn⟩⟩) ⟨an.refl _,an.refl _,an.refl _,an.refl _,an.refl _,an.refl _,an.refl _,an.refl _,an.refl _,an.refl _,an.refl _,an.refl _,an.refl _,an.refl _,an.refl _,an.refl _,an.refl _,an.refl _,an.refl _,an.refl _,an.refl _,an.refl _,an.refl _,an.refl _,an.refl _,an.refl _,an.refl _,an.refl _,an.refl _,an.refl _,an.refl _,an.refl _,an.refl _,an.refl _,an.refl _,an.refl _,an.refl _,an.refl _,an.refl _,an.refl _,an.refl _,an.dO 1,an.refl _,an.refl _,T_⟩ rfl
attribute [local irreducible] aH aj aX ju FD DR DF kS bk aA aL bn DK RK JK BR G3 bh Spec Tok Fr CV
theorem QD(L:ai code)(C:JC L)(l:List Ak)(b:List UInt8)(ha:okA l):aU L 499 [.sl .no 6 (l.map NW),.sl .no 1 (b.map U)] (B true):=by
 intro H K hk;refine ah L F2 rfl ?_;(repeat refine gr T_ ?_);cases c1:decide (2000 < (b.length:Int))
 case true =>
   (repeat refine gr T_ ?_);(apply af;rfl);refine fu L C H _ fun X1 g1=>?_;(repeat refine gr T_ ?_);exact aa (hk X1 g1)
 have nM:b.length≤2000:=by have:=of_decide_eq_false c1;omega
 (repeat refine gr T_ ?_);cases c2:decide (20 < (l.length:Int))
 case true =>
   (repeat refine gr T_ ?_);(apply af;rfl);refine fu L C H _ fun X1 g1=>?_;(repeat refine gr T_ ?_);exact aa (hk X1 g1)
 have hll:l.length≤20:=by have:=of_decide_eq_false c2;omega
 (repeat refine gr T_ ?_);(apply af;rfl);refine vi L 100000 H _ fun bd h0 X0 yB AS g0=>?_;(repeat refine gr T_ ?_);(apply af;rfl);refine Ii L 100000 X0 _ fun X1 f1=>?_;have s0:DS H X1 bd h0 (eD 100000):=⟨AS.dt f1,g0.trans f1,yB⟩;(repeat refine gr T_ ?_);refine aG (x:=.h (.ag (wC bd nI (eD 100000) zQ false))) rfl rfl ?_;refine kU (v:=.ag (wC bd nI (eD 100000) zQ false)) (cs:=wC bd nI (eD 100000) zQ false) rfl rfl rfl rfl fun w X2 IX AN f2 s2=>?_;have t0:LS H X2 w bd h0 (eD 100000):=⟨s0.kd.dt f2,s0.fr.trans f2,fun c hc=>by
   rcases List.mem_cons.mp hc with rfl | hc
   · exact s0.fr.bM IX
   · exact s0.nw c hc,s0.kd.new IX,_,_,_,_,_,_,_,_,_,AN⟩
 clear s0 AS g0 yB f1 IX AN f2 s2;(repeat refine gr T_ ?_);refine aV (ak L) (fun(q:Nat)=>[(0,.h (.sl .no 6 (l.map NW))),(1,.h (.sl .no 1 (b.map U))),(5,.h (ptr w)),(6,.h (I q))]) (fun _=>[]) (fun q X=>q≤l.length∧∃h d,LS H X w bd h d∧d.WF q (300*q)) (fun q=>l.length - q) 0 ?_ ⟨by omega,h0,_,t0,wN 100000⟩ ?_
 · (refine bw ?_ ?_ ?_<;>(repeat refine bE T_ ?_)<;>exact bA)
 clear t0;rintro q X ⟨hq,h,d,t,hw⟩;obtain⟨x0,x1,x2,x3,x4,x5,x6,x7,x8,hW⟩:=t.cell;(repeat refine gr T_ ?_);(refine ct T_ ?_ ?_<;>intro hc)
 · have bN:q < l.length:=by have:=of_decide_eq_true hc;omega
   have eB:(l.map NW)[q]? = some (NW l[q]):=by rw[List.getElem?_map,List.getElem?_eq_getElem bN];rfl
   have hn:=ha _ (List.getElem_mem bN);generalize l[q]=ac at *;(repeat refine gr T_ ?_);refine eK (cs:=ZN ac) rfl rfl rfl eB rfl ?_;(repeat refine gr T_ ?_);cases c3:decide (300 < (ac.b.length:Int))
   case true =>
     (repeat refine gr T_ ?_);(apply af;rfl);refine fu L C X _ fun X3 g3=>?_;(repeat refine gr T_ ?_);exact aa (hk X3 (t.fr.trans g3))
   (repeat refine gr T_ ?_);refine eK (cs:=ZN ac) rfl rfl rfl eB rfl ?_;(repeat refine gr T_ ?_);cases c4:decide (300 < (ac.p.length:Int))
   case true =>
     (repeat refine gr T_ ?_);(apply af;rfl);refine fu L C X _ fun X3 g3=>?_;(repeat refine gr T_ ?_);exact aa (hk X3 (t.fr.trans g3))
   (repeat refine gr T_ ?_);refine eK (cs:=ZN ac) rfl rfl rfl eB rfl ?_;(repeat refine gr T_ ?_);cases c5:decide (300 < (ac.q.length:Int))
   case true =>
     (repeat refine gr T_ ?_);(apply af;rfl);refine fu L C X _ fun X3 g3=>?_;(repeat refine gr T_ ?_);exact aa (hk X3 (t.fr.trans g3))
   have e3:=of_decide_eq_false c3;have e4:=of_decide_eq_false c4;have e5:=of_decide_eq_false c5;(repeat refine gr T_ ?_);refine eK (cs:=ZN ac) rfl rfl rfl eB rfl ?_;refine ed (v:=NW ac) rfl rfl ?_;refine aG (x:=.h (ZX ⟨5,zR,ac⟩)) rfl rfl ?_;(apply af;rfl);have VZ:=hw.mono (show q≤20 by omega) (show 300*q≤6000 by omega)
   refine qk L C.cl w bd h d ⟨5,zR,ac⟩ nI x0 x1 x2 x3 x4 x5 x6 x7 x8 _ _ _ _ false 20 6000 VZ (by omega) (by omega) (by dsimp only;omega) (by dsimp only;omega) (by dsimp only;omega) (by dsimp only;omega) rfl X t.kd hW t.nw _ fun Y h' hY oY hWY nwY=>?_
   have t2:=t.step hY oY hWY nwY;have w2:=(Bs hw ac hn).mono (Nat.le_refl (q+1)) (show 300*q+ac.b.length≤300*(q+1) by omega)
   dsimp only at t2;generalize (Ng d ac).1=d2 at *;(repeat refine gr T_ ?_);refine dG (q+1) (by omega) ⟨by omega,h',d2,t2,w2⟩ ?_
   (refine bw ?_ ?_ ?_<;>(repeat refine bE T_ ?_)<;>exact bA)
 have VZ:=hw.mono (show q≤20 by omega) (show 300*q≤6000 by omega)
 clear hw;(repeat refine gr T_ ?_);refine aG (x:=.h (.ag [U 0,S az,S [],.v (.slice none 0 0),I 0,B false])) rfl rfl ?_;refine aG (x:=.h (.ag (U 5::(dE zR++[U 0,S az,S [],.v (.slice none 0 0),I 0,B false])))) rfl rfl ?_;(apply af;rfl);refine eM (eP:=[ptr w,ZX ⟨5,zR,⟨0,az,[],[],0,false⟩⟩]) ⟨an.refl _,OK 5 zR 0 az [] 0 false,T_⟩ ?_;refine qk L C.cl w bd h d ⟨5,zR,⟨0,az,[],[],0,false⟩⟩ nI x0 x1 x2 x3 x4 x5 x6 x7 x8 _ _ _ _ false 20 6000 VZ (by omega) (by omega) (by simp) (by decide) (by simp) (by simp) rfl X t.kd hW t.nw _ fun Y h' hY oY hWY nwY=>?_
 have t2:=t.step hY oY hWY nwY;have w2:=(Bs VZ ⟨0,az,[],[],0,false⟩ (by decide))
 dsimp only at t2;generalize (Ng d ⟨0,az,[],[],0,false⟩).1=d2 at *;clear t hW VZ;obtain⟨x0,x1,x2,x3,x4,x5,x6,x7,x8,hW⟩:=t2.cell;(repeat refine gr T_ ?_);refine aG (x:=.h (.ag [U 1,S az,S [],.sl .no 1 (b.map U),I 0,B false])) rfl rfl ?_;refine aG (x:=.h (ZX ⟨5,zR,⟨1,az,[],b,0,false⟩⟩)) rfl rfl ?_;(apply af;rfl);refine qk L C.cl w bd h' d2 ⟨5,zR,⟨1,az,[],b,0,false⟩⟩ nI x0 x1 x2 x3 x4 x5 x6 x7 x8 _ _ _ _ false 21 6000 w2 (by omega) (by omega) (by dsimp only;omega) (show az.length≤1048576 by decide) (by simp) (by dsimp only;omega) rfl Y t2.kd hW t2.nw _ fun Z h3 hZ oZ hWZ nwZ=>?_
 have t3:=t2.step hZ oZ hWZ nwZ;have w3:=(Bs w2 ⟨1,az,[],b,0,false⟩ (show (0:Int)≤9223372036854775807 by decide))
 dsimp only at t3 w3;generalize (Ng d2 ⟨1,az,[],b,0,false⟩).1=d3 at *;have w3:=w3.mono (show 21+1≤22 by omega) (show 6000+b.length≤8000 by omega)
 clear t2 hW w2 hZ oZ hWZ nwZ;obtain⟨x0,x1,x2,x3,x4,x5,x6,x7,x8,hW⟩:=t3.cell;have w4:=OI w3;have ao:=@L1 d3;(repeat refine gr T_ ?_);(apply af;rfl);refine B6 L C.cl w bd h3 d3 nI x0 x1 x2 x3 x4 x5 x6 x7 x8 _ _ _ _ false 22 8000 w3 (by omega) (by omega) Z t3.kd hW t3.nw _ (fun hn V h4 iR o4 BF nw4=>?_) (fun j hj V h4 a iR OE o4 BF nw4 na4 naw=>?_)
 · have f4:=(t3.own o4).1;generalize cL d3=o at *;(repeat refine gr T_ ?_);(apply af;rfl);refine zV L C.cl w bd h4 o.1 nI _ _ _ _ _ _ _ _ _ _ _ _ _ (22+5) 8000 w4 (by omega) (by omega) V iR BF _ fun V2 f5=>?_
   (repeat refine gr T_ ?_);(apply af;rfl);refine fu L C V2 _ fun V3 f6=>?_;(repeat refine gr T_ ?_);exact aa (hk V3 (f4.trans (f5.trans f6)))
 · have f4:=(t3.own o4).1;have hs:=ao hj;generalize cL d3=o at *;(repeat refine gr T_ ?_);(apply af;rfl);refine zW L C.cl w bd a h4 o.1 o.1 j (22+5) 8000 w4 (by omega) (by omega) hs V iR OE BF _ fun V2 f5=>?_
   (repeat refine gr T_ ?_);(apply af;rfl);refine fu L C V2 _ fun V3 f6=>?_;(repeat refine gr T_ ?_);exact aa (hk V3 (f4.trans (f5.trans f6)))
end Sm
