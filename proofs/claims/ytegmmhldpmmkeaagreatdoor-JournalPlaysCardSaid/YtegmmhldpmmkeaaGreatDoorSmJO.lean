/-
  JL12,J40,J41,J42,J43
-/
import Derived.Test.YtegmmhldpmmkeaaGreatDoorSmJG
import Derived.Test.YtegmmhldpmmkeaaGreatDoorSmJI
import Derived.Test.YtegmmhldpmmkeaaGreatDoorSmDF
import Derived.Test.YtegmmhldpmmkeaaGreatDoorSmJN
import Derived.Test.YtegmmhldpmmkeaaGreatDoorSmJK
set_option linter.unusedVariables false
set_option linter.unusedSimpArgs false
set_option maxRecDepth 10000
set_option maxHeartbeats 1000000
namespace Sm
open Go
def Pf(d:Dk)(q:Nat):Prop:=∀k,(br d.sure (d.loose.take k)).length≤q
theorem Pf.mono{d:Dk}{q r:Nat}(h:Pf d q)(hr:q≤r):Pf d r:=fun k=>Nat.le_trans (h k) hr
theorem Pf.of{d e:Dk}{q:Nat}(h:Pf d q)(h1:e.sure=d.sure)(h2:e.loose=d.loose):Pf e q:=fun k=>by rw[h1,h2];exact h k
theorem Pf.now{d:Dk}{q:Nat}(h:Pf d q):d.now.length≤q:=by
 have:=h d.loose.length;rw[List.take_length] at this;exact this
theorem Pf.lT{d:Dk}{q:Nat}(h:Pf d q)(c:di)(hc:(iF d.now c).length≤q):Pf (d.lT c) q:=fun k=>by
 show (br d.sure ((d.loose++[c]).take k)).length≤q
 by_cases hk:k≤d.loose.length
 · rw[List.take_append_of_le_length hk];exact h k
 · rw[List.take_of_length_le (by simp only[List.length_append,List.length_cons,List.length_nil];omega),ma]
   exact hc
theorem Pf.AfL{d:Dk}{q:Nat}(h:Pf d q)(c:di):Pf (d.lT c) (q+1):=
 (h.mono (Nat.le_succ q)).lT c (Nat.le_trans (J7 _ _) (Nat.succ_le_succ h.now))
theorem Pf.rm{d:Dk}{q:Nat}(h:Pf d q)(x:Nm):Pf (d.lT (.rm x)) q:=h.lT _ (by
 unfold iF;exact Nat.le_trans (List.length_filter_le _ _) h.now)
structure RW (d:Dk) (n m q:Nat):Prop where
 wf:d.WF n m
 rm:d.room≤m
 pf:Pf d q
theorem RW.mono{d:Dk}{n m q n' q':Nat}(h:RW d n m q)(hn:n≤n')(hq:q≤q'):RW d n' m q':=⟨h.wf.mono hn (Nat.le_refl m),h.rm,h.pf.mono hq⟩
theorem Afj{d nx:Dk}(hr:nx.room=d.room):(d.step nx).1.room=d.room:=by
 unfold Dk.step;split;{split;{exact hr};{rfl}};{split;{rfl};{exact hr}}
theorem AeF{d nx:Dk}{m:Nat}(h:d.room≤m)(hr:nx.room=d.room):(d.step nx).1.room≤m:=by rw[Afj hr];exact h
theorem u7{d nx:Dk}{q:Nat}(h:Pf d q)(k:Pf nx q):Pf (d.step nx).1 q:=by
 unfold Dk.step;split;{split;{exact k.of rfl rfl};{exact h.of rfl rfl}};{split;{exact h.of rfl rfl};{exact k.of rfl rfl}}
theorem Afk{d:Dk}{p:List UInt8}{may:Fl→Int}{g:Fl→Fl}{P:Dk→Prop}(h:P d)(hs:∀f,P (d.step { d with f:=f }).1):P (d.jv p may g).1:=by
 unfold Dk.jv;split;{exact h};split;{exact h};split;{exact h};{exact hs _}
theorem Aez{d:Dk}{p:List UInt8}{may:Fl→Int}{g:Fl→Fl}{m q:Nat}(h:d.room≤m∧Pf d q):(d.jv p may g).1.room≤m∧Pf (d.jv p may g).1 q:=
 Afk (P:=fun e=>e.room≤m∧Pf e q) h fun f=>⟨AeF h.1 rfl,u7 h.2 (h.2.of rfl rfl)⟩
theorem RW.cut{d:Dk}{n m q:Nat}(h:RW d n m q)(p:List UInt8)(k:Int):RW (d.cut p k).1 (n+1) m q:=
 have r:=Aez (p:=p) (may:=fun f=>if k < 0∨k > f.b.length then 13 else 0) (g:=fun f=>⟨f.b.take k.toNat,min k.toNat f.safe⟩) ⟨h.rm,h.pf⟩
 ⟨Kw h.wf p k,r.1,r.2⟩
theorem RW.sync{d:Dk}{n m q:Nat}(h:RW d n m q)(p:List UInt8):RW (d.sync p).1 (n+1) m q:=
 have r:=Aez (p:=p) (may:=fun _=>0) (g:=fun f=>⟨f.b,f.b.length⟩) ⟨h.rm,h.pf⟩
 ⟨kZ h.wf p,r.1,r.2⟩
theorem Afl{d:Dk}{p:List UInt8}(h:bZ d.now p=0):(d.f.getD (mc d.now p) default).b.length≤d.used:=by
 unfold bZ at h;unfold mc;cases hg:bG d.now p with
 | none=>rw[hg] at h;cases h
 | some x =>
   rw[hg] at h;have hd:x.dir=false:=by
     cases hd:x.dir;{rfl};{simp only[hd,if_true] at h;cases h}
   have:=AeI (fun n:Nm=>if n.dir then 0 else (d.f.getD n.id default).b.length) (dN hg).1
   rw[hd] at this;exact this
theorem RW.append{d:Dk}{n m q:Nat}(h:RW d n m q)(p b:List UInt8):RW (d.append p b).1 (n+1) m q:=by
 have r:=Aez (p:=p) (may:=fun _=>if d.room - d.used < b.length then 10 else 0) (g:=fun f=>⟨f.b++b,f.safe⟩) ⟨h.rm,h.pf⟩
 refine⟨Gy (jk h.wf p b) ?_,r.1,r.2⟩;have h0:∀x∈d.f,x.b.length≤m:=fun x hx=>(h.wf.sz x hx).1;unfold Dk.append Dk.jv
 by_cases h1:d.asked p≠0
 · rw[if_pos h1];exact h0
 rw[if_neg h1]
 by_cases h2:bZ d.now p≠0
 · rw[if_pos h2];exact h0
 rw[if_neg h2]
 by_cases h4:d.room - d.used < b.length
 · rw[if_pos h4];exact h0
 rw[if_neg h4,if_neg (show ¬((0:Int)≠0) by decide)]
 have h2:bZ d.now p=0:=by simpa using h2
 have hu:=Afl h2;have hrm:=h.rm;have hs:∀x∈d.f.set (mc d.now p) ⟨(d.f.getD (mc d.now p) default).b++b,(d.f.getD (mc d.now p) default).safe⟩,x.b.length≤m:=fun x hx=>by
   rcases List.mem_or_eq_of_mem_set hx with hx | rfl;{exact h0 x hx};{simp only[List.length_append];omega}
 unfold Dk.step;split;{split;{exact hs};{exact h0}};{split;{exact h0};{exact hs}}
theorem RW.put{d:Dk}{n m q:Nat}(h:RW d n m q)(p:List UInt8)(dir:Bool):RW (d.put p dir).1 (n+1) m (q+1):=by
 refine⟨pV h.wf p dir,?_,?_⟩;{unfold Dk.put;split;{exact h.rm};split;{exact h.rm};split;{exact h.rm};{exact AeF h.rm rfl}};{unfold Dk.put;have hp:=h.pf.mono (Nat.le_succ q);split;{exact hp};split;{exact hp};split;{exact hp};{exact u7 hp (Pf.AfL (h.pf.of rfl rfl) _)}}
theorem RW.remove{d:Dk}{n m q:Nat}(h:RW d n m q)(p:List UInt8):RW (d.remove p).1 (n+1) m q:=by
 refine⟨pW h.wf p,?_,?_⟩;{unfold Dk.remove;split;{exact h.rm};split;{exact h.rm};{split;{exact h.rm};{exact AeF h.rm rfl}}};{unfold Dk.remove;split;{exact h.pf};split;{exact h.pf};{split;{exact h.pf};{exact u7 h.pf (h.pf.rm _)}}}
theorem RW.rename{d:Dk}{n m q:Nat}(h:RW d n m q)(a b:List UInt8):RW (d.rename a b).1 (n+1) m (q+1):=by
 have hp:=h.pf.mono (Nat.le_succ q);refine⟨vm h.wf a b,?_,?_⟩;{unfold Dk.rename;split;{exact h.rm};split;{exact h.rm};split;{exact h.rm};split;{exact h.rm};split;{exact h.rm};split;{exact h.rm};{exact AeF h.rm rfl}};{unfold Dk.rename;split;{exact hp};split;{exact hp};split;{exact hp};split;{exact hp};split;{exact hp};split;{exact hp};{exact u7 hp (h.pf.AfL _)}}
theorem RW.aM{d:Dk}{n m q:Nat}(h:RW d n m q):RW d.aM.1 (n+1) m q:=by
 refine⟨fp h.wf,?_,?_⟩;{unfold Dk.aM;split;{exact h.rm};{exact AeF h.rm rfl}};{unfold Dk.aM;split;{exact h.pf};{refine u7 h.pf fun k=>?_;show (br d.now (List.take k [])).length≤q;rw[List.take_nil];exact h.pf.now}}
theorem RW.ky{d:Dk}{n m q:Nat}(h:RW d n m q)(c:Int)(k:List UInt8):RW (d.ky c k) n m q:=by
 refine⟨s6 h.wf c k,h.rm,fun j=>?_⟩;show (br (br d.sure (d.loose.take (max 0 (min c d.loose.length)).toNat)) (List.take j [])).length≤q;rw[List.take_nil];exact h.pf _
theorem RW.fail{d:Dk}{n m q:Nat}(h:RW d n m q)(a:Int)(ha:a≤9223372036854775807)(b:Bool):RW (d.fail a b).1 n m q:=by
 refine⟨NP h.wf a ha b,?_,?_⟩;{unfold Dk.fail;split;{exact h.rm};split;{exact h.rm};{exact h.rm}};{unfold Dk.fail;split;{exact h.pf};split;{exact h.pf};{exact h.pf.of rfl rfl}}
theorem RW.fault{d:Dk}{n m q:Nat}(h:RW d n m q)(a:Int)(ha:a≤9223372036854775807):RW (d.fault a).1 n m q:=by
 refine⟨Kx h.wf a ha,?_,?_⟩;{unfold Dk.fault;split;{exact h.rm};split;{exact h.rm};{exact h.rm}};{unfold Dk.fault;split;{exact h.pf};split;{exact h.pf};{exact h.pf.of rfl rfl}}
theorem RW.Ng{d:Dk}{n m q:Nat}(h:RW d n m q)(a:Ak)(ha:a.n≤9223372036854775807):RW (Ng d a).1 (n+1) m (q+1):=by
 unfold Sm.Ng;generalize a.kind.toNat % 12=j
 match j with
 | 0=>exact h.put _ _
 | 1=>exact(h.append _ _).mono (Nat.le_refl _) (Nat.le_succ _)
 | 2=>exact(h.cut _ _).mono (Nat.le_refl _) (Nat.le_succ _)
 | 3=>exact(h.sync _).mono (Nat.le_refl _) (Nat.le_succ _)
 | 4=>exact h.put _ _
 | 5=>exact(h.remove _).mono (Nat.le_refl _) (Nat.le_succ _)
 | 6=>exact h.rename _ _
 | 7=>exact h.aM.mono (Nat.le_refl _) (Nat.le_succ _)
 | 8=>exact(h.fail _ ha _).mono (Nat.le_succ _) (Nat.le_succ _)
 | 9=>exact(h.fault _ ha).mono (Nat.le_succ _) (Nat.le_succ _)
 | _+10=>exact(h.ky _ _).mono (Nat.le_succ _) (Nat.le_succ _)
theorem RW.tidy{d:Dk}{n m q:Nat}(h:RW d n m q):RW (bq d).1 (n+1) m q:=by
 unfold bq;cases d.list.any fun e=>e.path==aT;{exact h.mono (Nat.le_succ n) (Nat.le_refl q)};{exact h.remove _}
theorem RW.mkd{d:Dk}{n m q:Nat}(h:RW d n m q):RW (eX d).1 (n+1) m (q+1):=by
 unfold eX;cases (d.read az).2==8;{exact h.mono (Nat.le_succ n) (Nat.le_succ q)};{exact h.put _ _}
theorem RW.cI{d:Dk}{n m q:Nat}(h:RW d n m q)(b:List UInt8):RW (cI b d).1 (n+1) m q:=by
 unfold Sm.cI;cases decide (ez b < b.length);{exact h.mono (Nat.le_succ n) (Nat.le_refl q)};{exact h.cut _ _}
theorem RW.pe{d:Dk}{n m q:Nat}(h:RW d n m q)(b:List UInt8):RW (pe b d).1 (n+2) m q:=by
 have h1:=h.cI b;unfold Sm.pe;cases (Sm.cI b d).2 != 0;{cases ((Sm.cI b d).1.sync az).2 != 0;{exact h1.sync _};{exact h1.sync _}};{exact h1.mono (Nat.le_succ _) (Nat.le_refl q)}
theorem RW.open{d:Dk}{n m q:Nat}(h:RW d n m q):RW (cL d).1 (n+5) m (q+1):=by
 have h1:=h.tidy;have h2:=h1.mkd;have h3:=h2.aM;have h4:=h3.pe ((bq d).1.read az).1;unfold cL;cases (bq d).2 != 0;{rw[cond_false];unfold lP;cases (eX (bq d).1).2 != 0;{rw[cond_false];unfold nT;cases (eX (bq d).1).1.aM.2 != 0;{exact h4};{exact h3.mono (by omega) (Nat.le_refl _)}};{exact h2.mono (by omega) (Nat.le_refl _)}};{exact h1.mono (by omega) (Nat.le_succ _)}
theorem RW.kI{d:Dk}{n m q:Nat}(h:RW d n m q)(x:List UInt8):RW (kI d x).1 (n+2) m q:=by
 unfold Sm.kI;cases (d.append az x).2 != 0;{exact(h.append _ _).sync _};{exact(h.append _ _).mono (Nat.le_succ _) (Nat.le_refl q)}
theorem RW.add{d:Dk}{n m q:Nat}(h:RW d n m q)(j:Jn)(r:Rc):RW (ou d j r).1 (n+3) m q:=by
 have h0:=h.mono (show n≤n+3 by omega) (Nat.le_refl q)
 have h1:=h.kI (bX [r]);unfold ou;cases j.dead;{cases cz r != 0;{cases !(bF j.s r).2;{cases (Sm.kI d (bX [r])).2 != 0;{exact h1.mono (Nat.le_succ _) (Nat.le_refl q)};{exact h1.cut _ _}};{exact h0}};{exact h0}};{exact h0}
theorem RW.nF{d:Dk}{n m q:Nat}(h:RW d n m q):RW (nF d).1 (n+2) m (q+1):=by
 unfold Sm.nF;cases (bq d).2 != 0;{exact h.tidy.put _ _};{exact h.tidy.mono (Nat.le_succ _) (Nat.le_succ _)}
theorem RW.oA{d:Dk}{n m q:Nat}(h:RW d n m q)(x:List UInt8):RW (oA d x).1 (n+3) m (q+1):=by
 unfold Sm.oA;cases (Sm.nF d).2 != 0;{exact h.nF.append _ _};{exact h.nF.mono (Nat.le_succ _) (Nat.le_refl _)}
theorem RW.pg{d:Dk}{n m q:Nat}(h:RW d n m q)(x:List UInt8):RW (pg d x).1 (n+4) m (q+1):=by
 unfold Sm.pg;cases (Sm.oA d x).2 != 0;{exact(h.oA x).sync _};{exact(h.oA x).mono (Nat.le_succ _) (Nat.le_refl _)}
theorem RW.pH{d:Dk}{n m q:Nat}(h:RW d n m q)(x:List UInt8):RW (pH d x).1 (n+5) m (q+2):=by
 unfold Sm.pH;cases (Sm.pg d x).2 != 0;{exact(h.pg x).rename _ _};{exact(h.pg x).mono (Nat.le_succ _) (Nat.le_succ _)}
theorem RW.comp{d:Dk}{n m q:Nat}(h:RW d n m q)(j:Jn):RW (tT d j).1 (n+6) m (q+2):=by
 have h1:=h.pH (bX (bD j.s));unfold tT;cases j.dead;{cases (Sm.pH d (bX (bD j.s))).2 != 0;{exact h1.aM};{exact h1.remove _}};{exact h.mono (by omega) (by omega)}
theorem AfB{d:Dk}{j:Jn}{r:Rc}{t:Nat}(h:j8 j.s)(hn:0≤j.n)(ht:j.n≤t)(hr:r.sum.length=32):j8 (ou d j r).2.1.s∧0≤(ou d j r).2.1.n∧(ou d j r).2.1.n≤(t+1100:Nat):=by
 have hl:=zI [r];simp only[List.length_cons,List.length_nil] at hl;have h0:j8 j.s∧0≤j.n∧j.n≤(t+1100:Nat):=⟨h,hn,by omega⟩
 unfold ou;cases j.dead
 · cases c:cz r != 0
   · cases !(bF j.s r).2
     · cases (kI d (bX [r])).2 != 0
       · refine⟨zO h (by simpa using c) fun _=>hr,?_,?_⟩
         · show (0:Int)≤j.n+((bX [r]).length:Int);omega
         · show j.n+((bX [r]).length:Int)≤_;omega
       · exact h0
     · exact h0
   · exact h0
 · exact h0
theorem Afi{d:Dk}{j:Jn}{t:Nat}(h:j8 j.s)(hn:0≤j.n)(ht:j.n≤t)(h2:150000≤t):j8 (tT d j).2.1.s∧0≤(tT d j).2.1.n∧(tT d j).2.1.n≤t:=by
 have hl:=xq h;unfold tT;cases j.dead;{cases (pH d (bX (bD j.s))).2 != 0;{refine⟨h,?_,?_⟩;{show (0:Int)≤((bX (bD j.s)).length:Int);omega};{show ((bX (bD j.s)).length:Int)≤_;omega}};{exact⟨h,hn,ht⟩}};{exact⟨h,hn,ht⟩}
theorem Ae7(b:List UInt8):0≤ez b∧ez b≤(1100*b.length:Nat):=by
 unfold ez;have h1:=zI ((scan aQ b).1.take (bK z0 (scan aQ b).1).2.toNat);have h2:=zG aQ b;rw[List.length_take] at h1;have h3:min (bK z0 (scan aQ b).1).2.toNat (scan aQ b).1.length≤b.length:=Nat.le_trans (Nat.min_le_right _ _) h2;exact⟨Int.natCast_nonneg _,by omega⟩
end Sm
set_option maxHeartbeats 4000000
namespace Sm
open Go
def oB(d:Dk):List HV:=[I d.room,.sl .no 3 (d.sure.map du),.sl .no 2 (d.loose.map pX),.sl .no 2 (d.f.map fP),B d.down,I d.ops,I d.aD,B d.done,I d.aE,.v (.slice none 0 0),I 0,I 0,B false]
def rjO(d:Dk):Option Jn→HV
 | none => .ag (oB d)
 | some j=>OH d j
def r6(u:Dk×Int):Dk×Int:=bif u.2==0 then u.1.aM else u
def pj(u:Dk×Int):Dk×Int:=bif u.2==0 then u.1.sync az else u
theorem IW{d:Dk}(h:((r6 (eX d)).2 != 0)=true):lP d=((r6 (eX d)).1,none,(r6 (eX d)).2):=by
 unfold lP;cases c:(eX d).2==0
 · have e:r6 (eX d)=eX d:=by unfold r6;rw[c];rfl
   rw[e] at h ⊢;rw[h];rfl
 · have e:r6 (eX d)=(eX d).1.aM:=by unfold r6;rw[c];rfl
   rw[e] at h ⊢;rw[show ((eX d).2 != 0)=false by simp[bne,c],cond_false]
   unfold nT;rw[h];rfl
theorem LZ{d:Dk}(h:((r6 (eX d)).2 != 0)=false):lP d=pe (d.read az).1 (eX d).1.aM.1∧(eX d).2=0∧(eX d).1.aM.2=0∧r6 (eX d)=(eX d).1.aM:=by
 unfold lP;cases c:(eX d).2==0
 · have e:r6 (eX d)=eX d:=by unfold r6;rw[c];rfl
   rw[e] at h;rw[show ((eX d).2 != 0)=true by simp[bne,c]] at h;cases h
 · have e:r6 (eX d)=(eX d).1.aM:=by unfold r6;rw[c];rfl
   rw[e] at h;refine⟨?_,by simpa using c,by simpa using h,e⟩
   rw[show ((eX d).2 != 0)=false by simp[bne,c],cond_false]
   unfold nT;rw[h];rfl
theorem kL{b:List UInt8}{d:Dk}(h:((pj (cI b d)).2 != 0)=true):pe b d=((pj (cI b d)).1,none,(pj (cI b d)).2):=by
 unfold pe;cases c:(cI b d).2==0
 · have e:pj (cI b d)=cI b d:=by unfold pj;rw[c];rfl
   rw[e] at h ⊢;rw[h];rfl
 · have e:pj (cI b d)=(cI b d).1.sync az:=by unfold pj;rw[c];rfl
   rw[e] at h ⊢;rw[show ((cI b d).2 != 0)=false by simp[bne,c],cond_false,h];rfl
theorem mM{b:List UInt8}{d:Dk}(h:((pj (cI b d)).2 != 0)=false):pe b d=((pj (cI b d)).1,some ⟨(bK z0 (scan aQ b).1).1,ez b,false⟩,0):=by
 unfold pe;cases c:(cI b d).2==0
 · have e:pj (cI b d)=cI b d:=by unfold pj;rw[c];rfl
   rw[e] at h;rw[show ((cI b d).2 != 0)=true by simp[bne,c]] at h;cases h
 · have e:pj (cI b d)=(cI b d).1.sync az:=by unfold pj;rw[c];rfl
   rw[e] at h ⊢;rw[show ((cI b d).2 != 0)=false by simp[bne,c],cond_false,h];rfl
attribute [local irreducible] aH aj aX ju FD DR DF kS bk aA aL bn DK RK JK BR G3 bh Spec Tok Fr CV
theorem zT(L:ai code)(d:Dk)(n m:Nat)(hw:d.WF n m)(hn:n+10 < 1048000)(hm:m≤900000):aU L 427 [ec d] (.tu [rjO (cL d).1 (cL d).2.1,I (cL d).2.2]):=by
 intro H K hk;have w1:=jU hw;refine ah L FX rfl ?_;unfold cL at hk;refine G_ ?_;refine ep (v:=ec d) (cs:=(ec d).cells) rfl rfl rfl rfl rfl ?_;refine G_ ?_;apply ay (v:=ec d);rfl;rfl;rfl;refine aG (x:=.h (.ag (oB d))) rfl rfl ?_;refine G_ ?_;refine av (v:=.ag (oB d)) (bI:=oB d) rfl rfl rfl rfl rfl rfl rfl rfl ?_;refine I_ ?_;refine fS (ak L) (fun(_:Unit)=>[(2,.lp 1 0),(4,.lp 2 0)]) (fun _=>[(1,zQ),(2,oB (bq d).1)]) (fun _ V=>Fr [] H V∧(bq d).2=0) ?_ ?_
 · refine I_ ?_;apply ay (v:=ec d);rfl;rfl;rfl;(apply af;rfl);refine IV L d aT n m hw (by omega) (by omega) H _ fun X1 f1=>?_
   refine I_ ?_;cases c2:d.list.any fun e=>e.path==aT
   · have et:bq d=(d,0):=by unfold bq;rw[c2];rfl
     refine I_ ?_;refine lU () ⟨f1,by rw[et]⟩ ?_
     rw[et];exact E_
   · have et:bq d=d.remove aT:=by unfold bq;rw[c2];rfl
     refine G_ ?_;apply ay (v:=ec d);rfl;rfl;rfl;(apply af;rfl);refine nP L d aT (by decide) n m hw (by omega) X1 _ fun X2 f2=>?_
     rw[←et];refine G_ ?_;refine bS (bI:=oB (bq d).1) rfl rfl rfl rfl rfl rfl rfl ?_;refine G_ ?_;cases c3:(bq d).2 != 0
     · have yx:(bq d).2=0:=by simpa using c3
       refine I_ ?_;refine lU () ⟨f1.trans f2,yx⟩ ?_;exact E_
     · rw[c3] at hk;dsimp only[cond_true] at hk;refine G_ ?_;apply ay (v:=.ag (oB (bq d).1));rfl;rfl;rfl;refine G_ ?_;refine av (v:=.ag (oB (bq d).1)) (bI:=oB (bq d).1) rfl rfl rfl rfl rfl rfl rfl rfl ?_;refine G_ ?_;exact aa (hk X2 (f1.trans f2))
 rintro - V ⟨fV,ht⟩;rw[ht] at hk;rw[show ((0:Int) != 0)=false from rfl,cond_false] at hk;generalize bq d=t at *;have w2:=LC w1;have nM:=zF w1 az;refine G_ ?_;apply ay (v:=ec t.1);rfl;rfl;rfl;(apply af;rfl);refine tc L t.1 az (n+1) m w1 (by omega) V _ fun X1 f1=>?_
 have fV:=fV.trans f1;refine I_ ?_;refine fS (ak L) (fun(_:Unit)=>[(2,.lp 1 0),(4,.lp 2 0),(5,.h (I (eX t.1).2))]) (fun _=>[(1,zQ),(2,oB (eX t.1).1)]) (fun _ V=>Fr [] H V) ?_ ?_
 · refine I_ ?_;cases c2:(t.1.read az).2==8
   · have e:eX t.1=(t.1,(t.1.read az).2):=by unfold eX;rw[c2];rfl
     rw[e];refine I_ ?_;refine lU () fV ?_;exact E_
   · have e:eX t.1=t.1.put az false:=by unfold eX;rw[c2];rfl
     refine G_ ?_;apply ay (v:=ec t.1);rfl;rfl;rfl;(apply af;rfl);refine oM L t.1 az (by decide) (n+1) m w1 (by omega) X1 _ fun X2 f2=>?_
     rw[←e];refine G_ ?_;refine bS (bI:=oB (eX t.1).1) rfl rfl rfl rfl rfl rfl rfl ?_;refine I_ ?_;refine lU () (fV.trans f2) ?_;exact E_
 clear fV;rintro - V2 fV;refine I_ ?_;refine fS (ak L) (fun(_:Unit)=>[(2,.lp 1 0),(4,.lp 2 0),(5,.h (I (r6 (eX t.1)).2))]) (fun _=>[(1,zQ),(2,oB (r6 (eX t.1)).1)]) (fun _ V=>Fr [] H V) ?_ ?_
 · refine I_ ?_;cases c2:(eX t.1).2==0
   · have e:r6 (eX t.1)=eX t.1:=by unfold r6;rw[c2];rfl
     rw[e];refine I_ ?_;refine lU () fV ?_;exact E_
   · have e:r6 (eX t.1)=(eX t.1).1.aM:=by unfold r6;rw[c2];rfl
     refine G_ ?_;apply ay (v:=ec (eX t.1).1);rfl;rfl;rfl;(apply af;rfl);refine mw L (eX t.1).1 (n+1+1) m w2 (by omega) V2 _ fun X2 f2=>?_
     rw[←e];refine G_ ?_;refine bS (bI:=oB (r6 (eX t.1)).1) rfl rfl rfl rfl rfl rfl rfl ?_;refine I_ ?_;refine lU () (fV.trans f2) ?_;exact E_
 clear fV;rintro - V3 fV;refine G_ ?_;cases c3:(r6 (eX t.1)).2 != 0
 case true =>
   rw[IW c3] at hk;refine G_ ?_;apply ay (v:=.ag (oB (r6 (eX t.1)).1));rfl;rfl;rfl;refine G_ ?_;refine av (v:=.ag (oB (r6 (eX t.1)).1)) (bI:=oB (r6 (eX t.1)).1) rfl rfl rfl rfl rfl rfl rfl rfl ?_;refine G_ ?_;exact aa (hk V3 fV)
 obtain⟨eo,em,es,ey⟩:=LZ c3;rw[eo] at hk;have wG:=B3 w1 em es;have w3:=fp w2;rw[ey,es];generalize (eX t.1).1.aM=y at *;refine G_ ?_;apply ay (v:=ec y.1);rfl;rfl;rfl;(apply af;rfl);refine tc L y.1 az (n+1+1+1) m w3 (by omega) V3 _ fun X1 f1=>?_
 rw[wG];generalize (t.1.read az).1=b at *;have LB:=zG aQ b;have ZQ:=FY b;have Jv:=tQ (scan aQ b).1 z0;refine G_ ?_;refine Qk rfl (by omega) ?_
 refine C_ ?_;refine zy L _ b (by omega) X1 _ fun X2 f2=>?_
 rw[L0];refine C_ ?_;refine zN L .no (scan aQ b).1 (by omega) ZQ X2 _ fun X3 f3=>?_
 have w4:=rZ w3 b;have hN:((bX ((scan aQ b).1.take (bK z0 (scan aQ b).1).2.toNat)).length:Int)=ez b:=rfl;have NQ:=@mM b y.1;generalize hp:bK z0 (scan aQ b).1=p at *;refine G_ ?_;refine av (v:=fD p.1) (bI:=j7 p.1) rfl rfl rfl rfl rfl rfl rfl rfl ?_;refine G_ ?_;have pU:p.2=((p.2.toNat:Nat):Int):=(Int.toNat_of_nonneg Jv.1).symm;refine iL (l:=0) (h:=p.2.toNat) rfl rfl (show some p.2=some ((p.2.toNat:Nat):Int) by rw[←pU]) (Nat.zero_le _) (by rw[List.length_map];omega) fun fC=>?_
 rw[show (((scan aQ b).1.map bc).drop 0).take (p.2.toNat - 0)=((scan aQ b).1.take p.2.toNat).map bc by rw[List.drop_zero,Nat.sub_zero,List.map_take]]
 refine C_ ?_;refine rf L _ ((scan aQ b).1.take p.2.toNat) (by rw[List.length_take];omega) (fun r hr=>by have:=(eW (ZQ r (List.mem_of_mem_take hr)).1).2.2.2.1;omega) X3 _ fun X4 f4=>?_
 rw[xy fun r hr=>(ZQ r (List.mem_of_mem_take hr)).1];have f4:=fV.trans (f1.trans (f2.trans (f3.trans f4)));generalize bX ((scan aQ b).1.take p.2.toNat)=x at *;refine I_ ?_;rw[hN];refine fS (ak L) (fun(_:Unit)=>[(2,.lp 1 0),(4,.lp 2 0),(5,.h (I (cI b y.1).2)),(11,.lp 3 0),(13,.h (I (ez b)))]) (fun _=>[(1,zQ),(2,oB (cI b y.1).1),(3,j7 p.1)]) (fun _ V=>Fr [] H V) ?_ ?_
 · refine I_ ?_;cases c5:decide (ez b < (b.length:Int))
   · have e:cI b y.1=(y.1,0):=by unfold cI;rw[c5];rfl
     rw[e];refine I_ ?_;refine lU () f4 ?_;exact E_
   · have e:cI b y.1=y.1.cut az (ez b):=by unfold cI;rw[c5];rfl
     refine G_ ?_;apply ay (v:=ec y.1);rfl;rfl;rfl;refine C_ ?_;refine vp L y.1 az (ez b) (by decide) (n+1+1+1) m w3 (by omega) (by omega) X4 _ fun X5 f5=>?_
     rw[←e];refine G_ ?_;refine bS (bI:=oB (cI b y.1).1) rfl rfl rfl rfl rfl rfl rfl ?_;refine I_ ?_;refine lU () (f4.trans f5) ?_;exact E_
 clear f4;rintro - V4 f4;refine I_ ?_;refine fS (ak L) (fun(_:Unit)=>[(2,.lp 1 0),(4,.lp 2 0),(5,.h (I (pj (cI b y.1)).2)),(11,.lp 3 0),(13,.h (I (ez b)))]) (fun _=>[(1,zQ),(2,oB (pj (cI b y.1)).1),(3,j7 p.1)]) (fun _ V=>Fr [] H V) ?_ ?_
 · refine I_ ?_;cases c5:(cI b y.1).2==0
   · have e:pj (cI b y.1)=cI b y.1:=by unfold pj;rw[c5];rfl
     rw[e];refine I_ ?_;refine lU () f4 ?_;exact E_
   · have e:pj (cI b y.1)=(cI b y.1).1.sync az:=by unfold pj;rw[c5];rfl
     refine G_ ?_;apply ay (v:=ec (cI b y.1).1);rfl;rfl;rfl;(apply af;rfl);refine ta L (cI b y.1).1 az (by decide) (n+1+1+1+1) m w4 (by omega) (by omega) V4 _ fun X5 f5=>?_
     rw[←e];refine G_ ?_;refine bS (bI:=oB (pj (cI b y.1)).1) rfl rfl rfl rfl rfl rfl rfl ?_;refine I_ ?_;refine lU () (f4.trans f5) ?_;exact E_
 clear f4;rintro - V5 f5;refine G_ ?_;cases c6:(pj (cI b y.1)).2 != 0
 case true =>
   rw[kL c6] at hk;generalize pj (cI b y.1)=z at *;refine G_ ?_;apply ay (v:=.ag (oB z.1));rfl;rfl;rfl;refine G_ ?_;refine av (v:=.ag (oB z.1)) (bI:=oB z.1) rfl rfl rfl rfl rfl rfl rfl rfl ?_;refine G_ ?_;exact aa (hk V5 f5)
 rw[NQ c6] at hk;generalize pj (cI b y.1)=z at *;refine G_ ?_;apply ay (v:=fD p.1);rfl;rfl;rfl;refine G_ ?_;refine bS (bI:=LX z.1 ⟨p.1,0,false⟩) rfl rfl rfl rfl rfl rfl rfl ?_;refine G_ ?_;refine bS (bI:=LX z.1 ⟨p.1,ez b,false⟩) rfl rfl rfl rfl rfl rfl rfl ?_;refine G_ ?_;apply ay (v:=OH z.1 ⟨p.1,ez b,false⟩);rfl;rfl;rfl;refine av (v:=OH z.1 ⟨p.1,ez b,false⟩) (bI:=LX z.1 ⟨p.1,ez b,false⟩) rfl rfl rfl rfl rfl rfl rfl rfl ?_;refine G_ ?_;exact aa (hk V5 f5)
end Sm
namespace Sm
open Go
def wC(b:Nat)(jp:HV)(d:Dk)(R:List HV)(k:Bool):List HV:=[ptr b,jp,I d.room,.sl .no 3 (d.sure.map du),.sl .no 2 (d.loose.map pX),.sl .no 2 (d.f.map fP),B d.down,I d.ops,I d.aD,B d.done,I d.aE]++(R++[B k])
def Aa(d:Dk)(r9 JH JI JJ:HV):List HV:=[I d.room,.sl .no 3 (d.sure.map du),.sl .no 2 (d.loose.map pX),.sl .no 2 (d.f.map fP),B d.down,I d.ops,I d.aD,B d.done,I d.aE,r9,JH,JI,JJ]
theorem B4{d:Dk}(h:(cL d).2.1=none):((cL d).2.2==0)=false:=by
 unfold cL at h ⊢;cases c1:(bq d).2 != 0;{rw[c1,cond_false] at h;rw[cond_false];unfold lP at h ⊢;cases c2:(eX (bq d).1).2 != 0;{rw[c2,cond_false] at h;rw[cond_false];unfold nT at h ⊢;cases c3:(eX (bq d).1).1.aM.2 != 0;{rw[c3,cond_false] at h;rw[cond_false];generalize ((bq d).1.read az).1=b at *;generalize (eX (bq d).1).1.aM.1=y at *;cases c4:(pj (cI b y)).2 != 0;{rw[mM c4] at h;cases h};{rw[kL c4];simpa[bne] using c4}};{rw[cond_true];simpa[bne] using c3}};{rw[cond_true];simpa[bne] using c2}};{rw[cond_true];simpa[bne] using c1}
theorem B5{d:Dk}{j:Jn}(h:(cL d).2.1=some j):(cL d).2.2=0:=by
 unfold cL at h ⊢;cases c1:(bq d).2 != 0;{rw[c1,cond_false] at h;rw[cond_false];unfold lP at h ⊢;cases c2:(eX (bq d).1).2 != 0;{rw[c2,cond_false] at h;rw[cond_false];unfold nT at h ⊢;cases c3:(eX (bq d).1).1.aM.2 != 0;{rw[c3,cond_false] at h;rw[cond_false];generalize ((bq d).1.read az).1=b at *;generalize (eX (bq d).1).1.aM.1=y at *;cases c4:(pj (cI b y)).2 != 0;{rw[mM c4]};{rw[kL c4] at h;cases h}};{rw[c3,cond_true] at h;cases h}};{rw[c2,cond_true] at h;cases h}};{rw[c1,cond_true] at h;cases h}
theorem L1{d:Dk}{j:Jn}(h:(cL d).2.1=some j):j8 j.s:=by
 unfold cL at h;cases c1:(bq d).2 != 0;{rw[c1,cond_false] at h;unfold lP at h;cases c2:(eX (bq d).1).2 != 0;{rw[c2,cond_false] at h;unfold nT at h;cases c3:(eX (bq d).1).1.aM.2 != 0;{rw[c3,cond_false] at h;generalize ((bq d).1.read az).1=b at *;generalize (eX (bq d).1).1.aM.1=y at *;cases c4:(pj (cI b y)).2 != 0;{rw[mM c4] at h;have h:=Option.some.inj h;subst h;exact xz LW (FY b)};{rw[kL c4] at h;cases h}};{rw[c3,cond_true] at h;cases h}};{rw[c2,cond_true] at h;cases h}};{rw[c1,cond_true] at h;cases h}
attribute [local irreducible] aH aj aX ju FD DR DF kS bk aA aL bn DK RK JK BR G3 bh Spec Tok Fr CV
theorem KD.Nn{H X:ab}{b w:Nat}{h:Hd}{d:Dk}(hD:KD H b h d)(f:Fr [w] H X)(nw:w∉h.bs b):KD X b h d:=hD.fr f (by intro c hc hm;rw[List.mem_singleton] at hm;subst hm;exact nw hc)
theorem qk(L:ai code)(C:Cl L)(w b:Nat)(h:Hd)(d:Dk)(a:Ac)(jp x0 x1 x2 x3 x4 x5 x6 x7 x8 r9 JH JI JJ:HV)(k:Bool)(n m:Nat)(hw:d.WF n m)(hn:n < 1048000)(qM:n*m≤1152921504606846976)(hm:m+a.d.b.length≤140737488355328)(hp:a.d.p.length≤1048576)(hq:a.d.q.length≤1048576)(nM:a.d.b.length≤1048576)(hk5:a.kind.toNat % 8=5)
   (H:ab) (hD:KD H b h d) (hW:H w=some (.obj (wC b jp d [x0,x1,x2,x3,x4,x5,x6,x7,x8,r9,JH,JI,JJ] k))) (nw:w∉h.bs b) (K:HV→ab→Prop)
   (hk:∀Y h',KD Y b h' (Ng d a.d).1→Own H Y (w::h.bs b) (w::h'.bs b)→Y w=some (.obj (wC b jp (Ng d a.d).1 (Aa d r9 JH JI JJ) k))→w∉h'.bs b→K (B true) Y):Spec L.P L.ν 391 [ptr w,ZX a] H K:=by
 refine ah L FZ rfl ?_;refine G_ ?_;refine ep (v:=ZX a) (cs:=uc a) rfl rfl rfl rfl rfl ?_;refine G_ ?_;apply bz (v:=ec d);rfl;(focus exact hW);rfl;refine G_ ?_;refine bH (bI:=wC b jp d (Aa d r9 JH JI JJ) k) rfl rfl rfl rfl hW rfl rfl fun X1 VY Jw=>?_;have oy:=hD.Nn Jw nw;refine G_ ?_;have r8:((a.kind.toNat:Int).tmod 8)=5:=by rw[Int.tmod_eq_emod_of_nonneg (by omega)];omega
 rw[r8];refine G_ ?_;rw[show ((5:Int)==5)=true from rfl];refine G_ ?_;apply bz (v:=ec d);rfl;(focus exact VY);rfl;refine G_ ?_;apply ay (v:=NW a.d);rfl;rfl;rfl;refine C_ ?_;refine NY L C b h d a.d n m hw hn qM hm hp hq nM X1 oy _ fun Y h' hY oY=>?_;have Nk:=oY.get nw VY;have QB:=oY.apart nw VY;generalize (Ng d a.d).1=e at *;refine G_ ?_;refine bH (bI:=wC b jp e (Aa d r9 JH JI JJ) k) rfl rfl rfl rfl Nk rfl rfl fun X2 AN OJ=>?_;refine G_ ?_;exact aa (hk X2 h' (hY.Nn OJ QB) ((Own.at _ Jw).trans ((oY.cons w).trans (Own.at _ OJ))) AN QB)
theorem B6(L:ai code)(C:Cl L)(w b:Nat)(h:Hd)(d:Dk)(jp x0 x1 x2 x3 x4 x5 x6 x7 x8 r9 JH JI JJ:HV)(k:Bool)(n m:Nat)(hw:d.WF n m)(hn:n+10 < 1048000)(hm:m≤900000)
   (H:ab) (hD:KD H b h d) (hW:H w=some (.obj (wC b jp d [x0,x1,x2,x3,x4,x5,x6,x7,x8,r9,JH,JI,JJ] k))) (nw:w∉h.bs b) (K:HV→ab→Prop)
   (pU:(cL d).2.1=none→∀Y h',KD Y b h' (cL d).1→Own H Y (w::h.bs b) (w::h'.bs b)→Y w=some (.obj (wC b nI (cL d).1 (oB (cL d).1) false))→w∉h'.bs b→K (B true) Y)
   (gF:∀j,(cL d).2.1=some j→∀Y h' a,KD Y b h' (cL d).1→KJ Y a b j→Own H Y (w::h.bs b) (w::a::h'.bs b)→Y w=some (.obj (wC b (ptr a) (cL d).1 (LX (cL d).1 j) true))→w∉h'.bs b→a∉h'.bs b→a≠w→K (B true) Y):Spec L.P L.ν 392 [ptr w] H K:=by
 refine ah L F0 rfl ?_;have hr:=zT L d n m hw hn hm;have Mh:=@B4 d;have hso:=@B5 d;refine C_ ?_;refine oq L C b h d n m hw (by omega) (by omega) H hD _ fun Y h' oy o1=>⟨fun hn=>?_,fun j hj a hJ oa na=>?_⟩
 · have he:=Mh hn;have hW1:=o1.get nw hW;have QC:=o1.apart nw hW;refine G_ ?_;apply bz (v:=ec d);rfl;(focus exact hW1);rfl;(apply af;rfl);refine hr Y _ fun Z fZ=>?_;have Nk:=hW1 |> fZ.get (by simp)
   rw[hn];generalize cL d=o at *;refine G_ ?_;refine av (v:=.ag (oB o.1)) (bI:=oB o.1) rfl rfl rfl rfl rfl rfl rfl rfl ?_;refine G_ ?_;apply ay (v:=.ag (oB o.1));rfl;rfl;rfl;refine G_ ?_;apply ay (v:=ec o.1);rfl;rfl;rfl;refine G_ ?_;refine bH (bI:=wC b nI d [x0,x1,x2,x3,x4,x5,x6,x7,x8,r9,JH,JI,JJ] k) rfl rfl rfl rfl Nk rfl rfl fun X1 VY Jw=>?_;refine G_ ?_;refine bH (bI:=wC b nI d (oB o.1) k) rfl rfl rfl rfl VY rfl rfl fun X2 AN OJ=>?_;refine G_ ?_;refine bH (bI:=wC b nI o.1 (oB o.1) k) rfl rfl rfl rfl AN rfl rfl fun X3 hX3 ZY=>?_;refine G_ ?_;refine bH (bI:=wC b nI o.1 (oB o.1) (o.2.2==0)) rfl rfl rfl rfl hX3 rfl rfl fun X4 xJ ZZ=>?_;refine G_ ?_;rw[he];rw[he] at xJ;exact aa (pU hn X4 h' (((((oy.dt fZ).Nn Jw QC).Nn OJ QC).Nn ZY QC).Nn ZZ QC) (((o1.trans (Own.of _ fZ)).cons w).trans ((Own.at _ Jw).trans ((Own.at _ OJ).trans ((Own.at _ ZY).trans (Own.at _ ZZ))))) xJ QC)
 · have he:=hso hj;have hW1:=oa.get nw hW;have QC:=oa.apart nw hW;have kM:a≠w:=fun e=>QC (by rw[←e];simp)
   have QB:w∉h'.bs b:=fun e=>QC (by simp[e])
   refine G_ ?_;apply bz (v:=ec d);rfl;(focus exact hW1);rfl;(apply af;rfl);refine hr Y _ fun Z fZ=>?_;have Nk:=hW1 |> fZ.get (by simp)
   rw[hj,he];generalize cL d=o at *;refine G_ ?_;refine av (v:=OH o.1 j) (bI:=LX o.1 j) rfl rfl rfl rfl rfl rfl rfl rfl ?_;refine G_ ?_;apply ay (v:=OH o.1 j);rfl;rfl;rfl;refine G_ ?_;apply ay (v:=ec o.1);rfl;rfl;rfl;refine G_ ?_;refine bH (bI:=wC b (ptr a) d [x0,x1,x2,x3,x4,x5,x6,x7,x8,r9,JH,JI,JJ] k) rfl rfl rfl rfl Nk rfl rfl fun X1 VY Jw=>?_;refine G_ ?_;refine bH (bI:=wC b (ptr a) d (LX o.1 j) k) rfl rfl rfl rfl VY rfl rfl fun X2 AN OJ=>?_;refine G_ ?_;refine bH (bI:=wC b (ptr a) o.1 (LX o.1 j) k) rfl rfl rfl rfl AN rfl rfl fun X3 hX3 ZY=>?_;refine G_ ?_;refine bH (bI:=wC b (ptr a) o.1 (LX o.1 j) true) rfl rfl rfl rfl hX3 rfl rfl fun X4 xJ ZZ=>?_;refine G_ ?_;have OE:KJ X4 a b j:=by
     have hp:a∉[w]:=by simpa using kM
     exact((((hJ.dt fZ).fr Jw hp).fr OJ hp).fr ZY hp).fr ZZ hp
   exact aa (gF j hj X4 h' a (((((oy.dt fZ).Nn Jw QB).Nn OJ QB).Nn ZY QB).Nn ZZ QB) OE (((oa.trans (Own.of _ fZ)).cons w).trans ((Own.at _ Jw).trans ((Own.at _ OJ).trans ((Own.at _ ZY).trans (Own.at _ ZZ))))) xJ QB na kM)
end Sm
namespace Sm
open Go
attribute [local irreducible] aH aj aX ju FD DR DF kS bk aA aL bn DK RK JK BR G3 bh Spec Tok Fr CV
theorem zU(L:ai code)(s:ek)(hl:s.parts.length≤1048576):aU L 422 [fD s,fD s] (B true):=by
 intro H K hk;refine ah L F1 rfl ?_;refine G_ ?_;refine ep (v:=fD s) (cs:=j7 s) rfl rfl rfl rfl rfl ?_;refine G_ ?_;refine ep (v:=fD s) (cs:=j7 s) rfl rfl rfl rfl rfl ?_;refine G_ ?_;refine aV (ak L) (fun(j:Nat)=>[(2,.lp 0 0),(3,.lp 1 0),(5,.h (I j))]) (fun _=>[(0,j7 s),(1,j7 s)]) (fun j X=>Fr [] H X∧j≤s.parts.length) (fun j=>s.parts.length - j) 0 ?_ ⟨Fr.refl _ _,by omega⟩ ?_
 · exact E_
 rintro j X ⟨fX,hj⟩;refine G_ ?_;(refine ct T_ ?_ ?_<;>intro h)
 · have bN:j < s.parts.length:=by have:=of_decide_eq_true h;omega
   refine G_ ?_;refine eK (cs:=(bB s.parts[j]).cells) rfl rfl rfl (by rw[List.getElem?_map,List.getElem?_eq_getElem bN];rfl) rfl ?_
   refine G_ ?_;refine ed (v:=bB s.parts[j]) rfl rfl ?_;refine G_ ?_;refine eK (cs:=(bB s.parts[j]).cells) rfl rfl rfl (by rw[List.getElem?_map,List.getElem?_eq_getElem bN];rfl) rfl ?_
   refine ed (v:=bB s.parts[j]) rfl rfl ?_;refine zo rfl rfl (Lk s.parts[j] s.parts[j]) (by rw[LV,Bool.not_true]) ?_
   refine G_ ?_;refine dG (j+1) (by omega) ⟨fX,bN⟩ ?_
   exact E_
 · refine G_ ?_;exact aa (hk X fX)
theorem zV(L:ai code)(C:Cl L)(w b:Nat)(h:Hd)(d:Dk)(jp x0 x1 x2 x3 x4 x5 x6 x7 x8 r9 JH JI JJ:HV)(n m:Nat)(hw:d.WF n m)(hn:n < 1048000)(hm:m≤140737488355328)
   (H:ab) (hD:KD H b h d) (hW:H w=some (.obj (wC b jp d [x0,x1,x2,x3,x4,x5,x6,x7,x8,r9,JH,JI,JJ] false))) (K:HV→ab→Prop)
   (hk:∀Y,Fr [] H Y→K (B true) Y):Spec L.P L.ν 390 [ptr w] H K:=by
 refine ah L xA rfl ?_;refine G_ ?_;apply bz (v:=ec d);rfl;(focus exact hW);rfl;refine C_ ?_;refine od L C b h d n m hw (by omega) hm H hD _ fun im X3 hM hE _ f3=>?_
 have VN:=hW |> f3.get (by simp)
 have yw:=hD.dt f3;refine ax ?_;refine ee rfl (nA (v:=ec d) rfl VN rfl rfl) ?_;refine C_ ?_;refine og L d n m hw hn hm X3 _ fun X4 f4=>?_;have BF:=VN |> f4.get (by simp)
 have iR:=yw.dt f4;have hE4:=hE.fr f4 (by simp)
 refine C_ ?_;have hlen:(im.map Eo.e).length≤1048576:=by
   rw[hM,rM];split;· simp
   have:=hw.eT;simp;omega
 refine Spec.borrow (jt:=[.sl .no 3 ((im.map Eo.e).map dX),.sl .no 3 (d.list.map dX)]) ⟨hE4.vw,VW.refl _ _,T_⟩ (tX L .no .no (im.map Eo.e) d.list hlen US _ rfl) ?_;rw[hM,ov];refine C_ ?_;refine pT L b h d X4 iR _ ?_;refine ax ?_;refine ee rfl (fN (v:=I d.ops) rfl BF rfl rfl) ?_;refine C_ ?_;refine sY L b h d X4 iR _ ?_;refine ax ?_;refine ee rfl (fN (v:=B d.down) rfl BF rfl rfl) ?_;refine G_ ?_;refine G_ ?_;refine G_ ?_;exact aa (hk X4 (f3.trans f4))
theorem zW(L:ai code)(C:Cl L)(w b a:Nat)(h:Hd)(d rd:Dk)(j:Jn)(n m:Nat)(hw:d.WF n m)(hn:n < 1048000)(hm:m≤140737488355328)(hs:j8 j.s)
   (H:ab) (hD:KD H b h d) (hJ:KJ H a b j) (hW:H w=some (.obj (wC b (ptr a) d (LX rd j) true))) (K:HV→ab→Prop)
   (hk:∀Y,Fr [] H Y→K (B true) Y):Spec L.P L.ν 390 [ptr w] H K:=by
 have LB:=hs.len;refine ah L xA rfl ?_;refine G_ ?_;apply bz (v:=ec d);rfl;(focus exact hW);rfl;refine C_ ?_;refine od L C b h d n m hw (by omega) hm H hD _ fun im X3 hM hE _ f3=>?_
 have VN:=hW |> f3.get (by simp)
 have yw:=hD.dt f3;refine ax ?_;refine ee rfl (nA (v:=ec d) rfl VN rfl rfl) ?_;refine C_ ?_;refine og L d n m hw hn hm X3 _ fun X4 f4=>?_;have BF:=VN |> f4.get (by simp)
 have iR:=yw.dt f4;have hE4:=hE.fr f4 (by simp)
 have OE:KJ X4 a b j:=(hJ.dt f3).dt f4;refine C_ ?_;have hlen:(im.map Eo.e).length≤1048576:=by
   rw[hM,rM];split;· simp
   have:=hw.eT;simp;omega
 refine Spec.borrow (jt:=[.sl .no 3 ((im.map Eo.e).map dX),.sl .no 3 (d.list.map dX)]) ⟨hE4.vw,VW.refl _ _,T_⟩ (tX L .no .no (im.map Eo.e) d.list hlen US _ rfl) ?_;rw[hM,ov];refine C_ ?_;refine pT L b h d X4 iR _ ?_;refine ax ?_;refine ee rfl (fN (v:=I d.ops) rfl BF rfl rfl) ?_;refine C_ ?_;refine sY L b h d X4 iR _ ?_;refine ax ?_;refine ee rfl (fN (v:=B d.down) rfl BF rfl rfl) ?_;refine G_ ?_;refine G_ ?_;refine G_ ?_;apply bz (v:=fD j.s);rfl;(focus exact BF);rfl;refine C_ ?_;refine mI L a b j (by omega) X4 OE _ fun X5 f5=>?_
 have hW5:=BF |> f5.get (by simp)
 have hJ5:=OE.dt f5;refine ax ?_;refine ee rfl (fN (v:=fD j.s) rfl hW5 rfl rfl) ?_;refine C_ ?_;refine zU L j.s (by omega) X5 _ fun X6 f6=>?_
 have ZP:=hW5 |> f6.get (by simp)
 have hJ6:=hJ5.dt f6;refine C_ ?_;refine BT L a b j X6 hJ6 _ ?_;refine ax ?_;refine ee rfl (fN (v:=I j.n) rfl ZP rfl rfl) ?_;refine C_ ?_;refine BU L a b j X6 hJ6 _ ?_;refine ax ?_;refine ee rfl (fN (v:=B j.dead) rfl ZP rfl rfl) ?_;refine G_ ?_;refine G_ ?_;apply bz (v:=OH rd j);rfl;(focus exact ZP);rfl;refine C_ ?_;refine tV L a b j hs X6 hJ6 _ fun X7 f7=>?_;have hW7:=ZP |> f7.get (by simp)
 refine ax ?_;refine ee rfl (fN (v:=OH rd j) rfl hW7 rfl rfl) ?_;refine C_ ?_;refine zS L rd j hs X7 _ fun X8 f8=>?_;refine G_ ?_;refine G_ ?_;exact aa (hk X8 (f3.trans (f4.trans (f5.trans (f6.trans (f7.trans f8))))))
end Sm
namespace Sm
open Go
structure LS (H X:ab) (w b:Nat) (h:Hd) (d:Dk):Prop where
 kd:KD X b h d
 fr:Fr [] H X
 nl:∀c∈w::h.bs b,H c=none
 nw:w∉h.bs b
 cell:∃x0 x1 x2 x3 x4 x5 x6 x7 x8,X w=some (.obj (wC b nI d [x0,x1,x2,x3,x4,x5,x6,x7,x8,.v (.slice none 0 0),I 0,I 0,B false] false))
theorem LS.own{H X Y:ab}{w b:Nat}{h:Hd}{d:Dk}(s:LS H X w b h d){bs:List Nat}(o:Own X Y (w::h.bs b) bs):Fr [] H Y∧∀c∈bs,H c=none:=
 ⟨Fr.sQ fun c r _ hr=>o.get (fun hm=>by rw[s.nl c hm] at hr;cases hr) (s.fr.get (by simp) hr),fun c hc=>(o.nw c hc).elim (s.nl c) fun h0=>s.fr.bM h0⟩
theorem LS.step{H X Y:ab}{w b:Nat}{h h':Hd}{d d' e:Dk}(s:LS H X w b h d)(k:KD Y b h' d')(o:Own X Y (w::h.bs b) (w::h'.bs b))(hW:Y w=some (.obj (wC b nI d' (Aa e (.v (.slice none 0 0)) (I 0) (I 0) (B false)) false)))(nw:w∉h'.bs b):LS H Y w b h' d':=
 ⟨k,(s.own o).1,(s.own o).2,nw,_,_,_,_,_,_,_,_,_,hW⟩
attribute [local irreducible] aH aj aX ju FD DR DF kS bk aA aL bn DK RK JK BR G3 bh Spec Tok Fr CV
end Sm
