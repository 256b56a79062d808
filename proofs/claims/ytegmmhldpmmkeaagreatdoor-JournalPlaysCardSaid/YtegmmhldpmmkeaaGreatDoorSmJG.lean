/-
  JL1,JL2,JL3,JL4,JD,JL5,JL6,JL7,JL8,JL9,JL10,JL11
-/
import Derived.Test.YtegmmhldpmmkeaaGreatDoorSmJE
set_option linter.unusedVariables false
set_option linter.unusedSimpArgs false
set_option maxRecDepth 10000
set_option maxHeartbeats 1000000
namespace Sm
open Go
theorem nC:∀(k n:Nat),dC (k+1) n=UInt8.ofNat (n / 256 ^ k % 256)::dC k n
 | 0,n=>by simp[dC]
 | k+1,n=>by
   rw[dC,nC k (n / 256),List.cons_append,Nat.div_div_eq_div_mul,←Nat.pow_succ'];rfl
theorem vS:∀(k n m:Nat),dY m (dC k n)=m*256 ^ k+n % 256 ^ k
 | 0,n,m=>by simp[dC,dY,Nat.mod_one]
 | k+1,n,m=>by
   rw[dC,mL,vS k];simp only[dY];rw[Nat.pow_succ',Nat.mod_mul,UInt8.toNat_ofNat'];have:n % 256 % 2 ^ 8=n % 256:=by omega
   rw[this,Nat.add_mul,Nat.mul_comm 256 (256 ^ k),←Nat.mul_assoc,Nat.mul_comm (n / 256 % 256 ^ k) 256];omega
theorem Gq:∀(l:List UInt8) (m:Nat),∃v,v < 256 ^ l.length∧dY m l=m*256 ^ l.length+v
 | [],m=>⟨0,by simp,by simp[dY]⟩
 | b::l,m=>by
   obtain⟨v,h1,h2⟩:=Gq l (m*256+b.toNat);have hb:=b.toNat_lt;refine⟨b.toNat*256 ^ l.length+v,?_,?_⟩
   · rw[List.length_cons,Nat.pow_succ'];have:=Nat.mul_le_mul_right (256 ^ l.length) (show b.toNat+1≤256 by omega)
     rw[Nat.add_mul] at this;omega
   · rw[dY,h2,List.length_cons,Nat.pow_succ',Nat.add_mul,Nat.mul_assoc];omega
theorem nV:∀(k:Nat) (l:List UInt8) (m:Nat),l.length=k→dC k (dY m l)=l
 | 0,l,m,h=>by rw[List.eq_nil_of_length_eq_zero h];rfl
 | k+1,l,m,h=>by
   have eJ:l≠[]:=by intro e;rw[e] at h;simp at h
   have e:=List.dropLast_concat_getLast eJ;generalize l.dropLast=r at e;generalize l.getLast eJ=b at e;subst e;have hr:r.length=k:=by simpa using h
   have hb:=b.toNat_lt;rw[dC,mL];simp only[dY];rw[show (dY m r*256+b.toNat) / 256=dY m r by omega,show (dY m r*256+b.toNat) % 256=b.toNat by omega,nV k r m hr,UInt8.ofNat_toNat]
theorem IZ(l:List UInt8)(m:Nat):dC l.length (dY m l)=l:=nV _ l m rfl
theorem Gr(w:Nat)(hw:w=1∨w=2∨w=4∨w=8)(n:Nat)(hn:n < 64):iN (UInt8.ofNat n ||| jK w)=w∧(UInt8.ofNat n ||| jK w).toNat % 64=n:=by
 have h1:∀x:Fin 64,(iN (UInt8.ofNat x.1 ||| 0)=1∧(UInt8.ofNat x.1 ||| 0).toNat % 64=x.1)∧(iN (UInt8.ofNat x.1 ||| 64)=2∧(UInt8.ofNat x.1 ||| 64).toNat % 64=x.1)∧(iN (UInt8.ofNat x.1 ||| 128)=4∧(UInt8.ofNat x.1 ||| 128).toNat % 64=x.1)∧(iN (UInt8.ofNat x.1 ||| 192)=8∧(UInt8.ofNat x.1 ||| 192).toNat % 64=x.1):=by decide
 obtain⟨a,b,c,d⟩:=h1 ⟨n,hn⟩;rcases hw with rfl | rfl | rfl | rfl;{exact a};{exact b};{exact c};{exact d}
theorem V8(c:UInt8):UInt8.ofNat (c.toNat % 64) ||| jK (iN c)=c:=by
 have h:∀x:Fin 256,UInt8.ofNat ((UInt8.ofNat x.1).toNat % 64) ||| jK (iN (UInt8.ofNat x.1))=UInt8.ofNat x.1:=by decide
 have:=h ⟨c.toNat,c.toNat_lt⟩;simpa using this
theorem L2(w n:Nat)(hw:w=1∨w=2∨w=4∨w=8)(hn:n < 64*256 ^ (w - 1))(y:List UInt8):cG (gI w n++y)=((n:Int),(w:Int),0):=by
 obtain⟨k,rfl⟩:∃k,w=k+1:=⟨w - 1,by omega⟩
 rw[Nat.add_sub_cancel] at hn;have hq:n / 256 ^ k < 64:=(Nat.div_lt_iff_lt_mul (Nat.pow_pos (by omega))).mpr hn
 have hq2:n / 256 ^ k % 256=n / 256 ^ k:=Nat.mod_eq_of_lt (by omega)
 obtain⟨h1,h2⟩:=Gr (k+1) hw _ hq;unfold gI;rw[nC,hq2,zu,List.cons_append,cG,h1,if_neg (by simp only[List.length_append,kH];omega),h2,Nat.add_sub_cancel,List.take_left' (kH k n),vS]
 rw[Nat.mul_comm,Nat.div_add_mod]
theorem xF(n:Nat)(hn:n < 4611686018427387904):∃w:Nat,dP n=w∧(w=1∨w=2∨w=4∨w=8)∧n < 64*256 ^ (w - 1):=by
 unfold dP;rw[if_neg (by omega)]
 split;{exact⟨1,rfl,by omega,by omega⟩};split;{exact⟨2,rfl,by omega,by simp;omega⟩};split;{exact⟨4,rfl,by omega,by simp;omega⟩};split;{exact⟨8,rfl,by omega,by simp;omega⟩};{omega}
theorem L3(w n:Nat)(hw:w=1∨w=2∨w=4∨w=8)(hn:n < 64*256 ^ (w - 1)):dP n≤w:=by
 unfold dP;rcases hw with rfl | rfl | rfl | rfl<;>simp only[Nat.reduceSub,Nat.reducePow,Nat.reduceMul] at hn<;>(repeat' split)<;>omega
theorem iu(n:Int):(cT n).length=(dP n).toNat:=tz _ _
theorem lF(n:Int)(h0:0≤n)(hn:n < 4611686018427387904)(y:List UInt8):ar (cT n++y)=(n,dP n,0):=by
 obtain⟨m,rfl⟩:=Int.eq_ofNat_of_zero_le h0;obtain⟨w,h1,h2,h3⟩:=xF m (by omega)
 have h4:cG (cT (m:Int)++y)=((m:Int),(w:Int),0):=by
   unfold cT;rw[h1,Int.toNat_natCast,Int.toNat_natCast];exact L2 w m h2 h3 y
 unfold ar;rw[h4,if_neg (by simp only[h1];omega),h1]
theorem lG(l:List UInt8)(h:(ar l).2.2=0):0≤(ar l).1∧(ar l).1 < 4611686018427387904∧(ar l).2.1=dP (ar l).1∧cT (ar l).1=l.take (ar l).2.1.toNat∧(ar l).2.1.toNat≤l.length:=by
 unfold ar at h ⊢;split
 · next h2=>rw[if_pos h2] at h;simp at h
 · next h2 =>
   rw[if_neg h2] at h;cases l with
   | nil=>simp[cG] at h
   | cons c r =>
     rw[cG] at h h2 ⊢;split
     · next h3=>rw[if_pos h3] at h;simp at h
     · next h3 =>
       rw[if_neg h3] at h2;simp only[true_and] at h2;have hw:=kJ c;obtain⟨k,hk⟩:∃k,iN c=k+1:=⟨iN c - 1,by omega⟩
       rw[hk,Nat.add_sub_cancel] at h2 ⊢;have hl:(r.take k).length=k:=by rw[List.length_take];omega
       obtain⟨v,hv,e⟩:=Gq (r.take k) (c.toNat % 64);rw[hl] at hv e;have hc:c.toNat % 64 < 64:=Nat.mod_lt _ (by omega)
       have bN:dY (c.toNat % 64) (r.take k) < 64*256 ^ k:=by
         rw[e];have:=Nat.mul_le_mul_right (256 ^ k) (show c.toNat % 64+1≤64 by omega)
         rw[Nat.add_mul] at this;omega
       rw[hk] at hw;have h5:=L3 (k+1) _ hw (by rw[Nat.add_sub_cancel];exact bN)
       have h6:dP (dY (c.toNat % 64) (r.take k))=((k+1:Nat):Int):=by omega
       have h62:dY (c.toNat % 64) (r.take k) < 4611686018427387904:=by
         have:256 ^ k≤256 ^ 7:=Nat.pow_le_pow_right (by omega) (by omega)
         have e7:64*256 ^ 7=4611686018427387904:=by decide
         have:=Nat.mul_le_mul_left 64 this;omega
       dsimp only;refine⟨by omega,by omega,h6.symm,?_,by simp only[Int.toNat_natCast,List.length_cons];omega⟩
       unfold cT;rw[h6,Int.toNat_natCast,Int.toNat_natCast];unfold gI;rw[nC,zu,List.take_succ_cons];have e8:dY (c.toNat % 64) (r.take k) / 256 ^ k=c.toNat % 64:=by
         rw[e,Nat.mul_comm,Nat.mul_add_div (Nat.pow_pos (by omega)),Nat.div_eq_of_lt hv,Nat.add_zero]
       rw[e8,Nat.mod_eq_of_lt (show c.toNat % 64 < 256 by omega),←hk,V8]
       congr 1;have:=IZ (r.take k) (c.toNat % 64);rw[hl] at this;exact this
theorem Gs(n:Int):0≤dP n:=by unfold dP;repeat' split<;>omega
theorem Rd.qn{r:Rd}{db:Int}(h:(r.num db).1.e=0):r.e=0∧0≤(r.num db).2∧(r.num db).2≤db∧(r.num db).2 < 4611686018427387904∧r.b=cT (r.num db).2++(r.num db).1.b:=by
 unfold Rd.num at h ⊢
 by_cases h1:r.e≠0
 · rw[if_pos h1] at h;exact absurd h h1
 · rw[if_neg h1] at h ⊢
   by_cases h2:(bC r.b db).2.2≠0
   · rw[if_pos h2] at h;exact absurd h h2
   · rw[if_neg h2];have h2:(bC r.b db).2.2=0:=by simpa using h2
     have h3:bC r.b db=ar r.b∧¬((ar r.b).2.2=0∧db < (ar r.b).1):=by
       unfold bC at h2 ⊢;split
       · next h4=>rw[if_pos h4] at h2;simp at h2
       · next h4=>exact⟨rfl,h4⟩
     rw[h3.1] at h2 ⊢;obtain⟨a,b,c,d,e⟩:=lG r.b h2;refine⟨by simpa using h1,a,by have:=h3.2;omega,b,?_⟩
     rw[d,List.take_append_drop]
theorem Rd.qo{r:Rd}{n:Int}(h:(r.raw n).1.e=0):r.e=0∧0≤n∧((r.raw n).2.length:Int)=n∧r.b=(r.raw n).2++(r.raw n).1.b:=by
 unfold Rd.raw at h ⊢
 by_cases h1:r.e≠0
 · rw[if_pos h1] at h;exact absurd h h1
 · rw[if_neg h1] at h ⊢;split
   · next h2=>rw[if_pos h2] at h;simp at h
   · next h2 =>
     rw[if_neg h2] at h;split
     · next h3=>rw[if_pos h3] at h;simp at h
     · next h3 =>
       refine⟨by simpa using h1,by omega,by simp only[List.length_take];omega,by simp⟩
theorem Rd.B'{r:Rd}{db:Int}(h:(r.text db).1.e=0):r.e=0∧((r.text db).2.length:Int)≤db∧r.b=eV (r.text db).2++(r.text db).1.b:=by
 unfold Rd.text at h ⊢
 by_cases h1:r.e≠0
 · rw[if_pos h1] at h;exact absurd h h1
 · rw[if_neg h1] at h ⊢
   by_cases h2:mN r.b db≠0
   · rw[if_pos h2] at h;exact absurd h h2
   · rw[if_neg h2] at h ⊢;have h2:mN r.b db=0:=by simpa using h2
     have h4:(bC r.b db).2.2=0:=by
       unfold mN at h2;split at h2;{simp at h2};{exact h2}
     have h3:bC r.b db=ar r.b∧¬((ar r.b).2.2=0∧db < (ar r.b).1):=by
       unfold bC at h4 ⊢;split
       · next h5=>rw[if_pos h5] at h4;simp at h4
       · next h5=>exact⟨rfl,h5⟩
     obtain⟨_,b,c,d⟩:=Rd.qo h;rw[h3.1] at h4 b c d ⊢;obtain⟨a1,a2,a3,a4,a5⟩:=lG r.b h4;refine⟨by simpa using h1,by have:=h3.2;omega,?_⟩
     unfold eV;rw[c,a4,List.append_assoc,←d];exact(List.take_append_drop _ _).symm
theorem Rd.Ca{r:Rd}(h:r.byte.1.e=0):r.e=0∧r.b=r.byte.2::r.byte.1.b:=by
 obtain⟨a,b,c,d⟩:=Rd.qo (r:=r) (n:=1) h;refine⟨a,?_⟩;unfold Rd.byte;generalize (r.raw 1).2=s at c d ⊢
 match s,c with
 | [x],_=>exact d
theorem Rd.L8{r:Rd}:r.done=0↔r.e=0∧r.b=[]:=by
 unfold Rd.done;constructor
 · intro h
   by_cases h1:r.e≠0
   · rw[if_pos h1] at h;exact absurd h h1
   · rw[if_neg h1] at h;refine⟨by simpa using h1,?_⟩
     split at h;{simp at h}
     · next h2=>exact List.eq_nil_of_length_eq_zero (by omega)
 · rintro⟨h1,h2⟩;rw[h1,h2];rfl
theorem zY{l:List UInt8}(h:(cv l).2=0):ej (cv l).1=l:=by
 unfold cv at h ⊢;split
 · next h1=>rw[if_pos h1] at h;simp at h
 · next h1 =>
   rw[if_neg h1] at h;split
   · next h2 =>
     unfold ej;rw[beq_iff_eq] at h2;dsimp only;rw[h2,List.take_append_drop]
   · next h2=>rw[if_neg h2] at h;simp at h
def vU(r:Rc):Rc:=bif (r.kind.toNat:Int)==0 then ⟨r.kind,r.id,r.path,iS r.sum,r.size,0⟩ else bif (r.kind.toNat:Int)==1 then ⟨r.kind,r.id,[],[],0,r.off⟩ else ⟨r.kind,r.id,[],[],0,0⟩
theorem ud{s:List UInt8}(h:s.length=32):iS s=s:=by
 have e:iS s=(List.range 32).map fun i=>s.getD i 0:=rfl;rw[e];refine List.ext_getElem (by rw[List.length_map,List.length_range,h]) fun i hi hj=>?_
 simp only[List.getElem_map,List.getElem_range];simp[List.getD,hj]
theorem rh{b:List UInt8}(h:(cD b).2.done=0):aW (cD b).1=b∧(((cD b).1.kind.toNat:Int)=0→(cD b).1.sum.length=32)∧vU (cD b).1=(cD b).1:=by
 rw[Rd.L8] at h;unfold cD at h ⊢;dsimp only at h ⊢;generalize hk:(Rd.mk b 0).byte=k at h ⊢;generalize hi:k.1.num 1099511627776=i at h ⊢;have front:i.1.e=0→b=k.2::(cT i.2++i.1.b):=fun he=>by
   subst hi;obtain⟨a1,a2,a3,a4,a5⟩:=Rd.qn he;subst hk;obtain⟨b1,b2⟩:=Rd.Ca a1;rw[←a5];exact b2
 cases c1:(k.2.toNat:Int)==0;{rw[c1] at h;cases c2:(k.2.toNat:Int)==1;{rw[c2] at h;dsimp only[cond_false] at h ⊢;have f:=front h.1;refine⟨?_,?_,?_⟩;{unfold aW dA;rw[c1,c2,f,h.2];rfl};{intro e;rw[e] at c1;cases c1};{unfold vU;rw[c1,c2];rfl}};{rw[c2] at h;dsimp only[cond_false,cond_true] at h ⊢;obtain⟨a1,a2,a3,a4,a5⟩:=Rd.qn h.1;have f:=front a1;refine⟨?_,?_,?_⟩;{unfold aW dA;rw[c1,c2,f,a5,h.2];simp};{intro e;rw[e] at c1;cases c1};{unfold vU;rw[c1,c2];rfl}}}
 · rw[c1] at h;dsimp only[cond_true] at h ⊢;obtain⟨a1,a2,a3,a4,a5⟩:=Rd.qn h.1;obtain⟨b1,b2,b3,b4⟩:=Rd.qo a1;obtain⟨d1,d2,d3⟩:=Rd.B' b1;have f:=front d1;have hs:((i.1.text 128).1.raw 32).2.length=32:=by omega
   refine⟨?_,fun _=>hs,?_⟩;{unfold aW dA;rw[c1,f,d3,b4,a5,h.2];dsimp only[cond_true];rw[ud hs];simp only[List.append_assoc,List.append_nil,List.cons_append]};{unfold vU;rw[c1];dsimp only[cond_true];rw[ud hs]}
theorem iw(r:Rc):cz r=0↔r.kind.toNat≤4∧0≤r.id∧r.id≤1099511627776∧(((r.kind.toNat:Int)=0∧mE r.path r.size=0)∨((r.kind.toNat:Int)≠0∧mF r=true))∧jB r.kind r.off=0:=by
 unfold cz;cases d1:decide (4 < (r.kind.toNat:Int))
 · have e1:=of_decide_eq_false d1;cases d2:decide (r.id < 0)
   · have e2:=of_decide_eq_false d2;cases d3:decide (1099511627776 < r.id)
     · have e3:=of_decide_eq_false d3;cases c1:(r.kind.toNat:Int)==0
       · have f1:(r.kind.toNat:Int)≠0:=by simpa using c1
         cases c2:mF r;{constructor;{intro h;cases h};{rintro⟨_,_,_,h4,_⟩;rcases h4 with h4 | h4;{exact absurd h4.1 f1};{cases h4.2}}};{simp only[cond_false,cond_true,f1,false_and,false_or,ne_eq,not_false_eq_true,true_and,and_true];constructor;{intro h;exact⟨by omega,by omega,by omega,h⟩};{intro h;exact h.2.2.2}}
       · have f1:(r.kind.toNat:Int)=0:=by simpa using c1
         cases c2:mE r.path r.size != 0
         · have f2:mE r.path r.size=0:=by simpa using c2
           simp only[cond_false,cond_true,f1,f2,ne_eq,not_true,false_and,or_false,true_and,and_self];constructor;{intro h;exact⟨by omega,by omega,by omega,h⟩};{intro h;exact h.2.2.2}
         · have f2:mE r.path r.size≠0:=by simpa using c2
           simp[f1,f2]
     · have e3:=of_decide_eq_true d3;simp only[cond_false,cond_true];constructor;{intro h;cases h};{intro h;omega}
   · have e2:=of_decide_eq_true d2;simp only[cond_false,cond_true];constructor;{intro h;cases h};{intro h;omega}
 · have e1:=of_decide_eq_true d1;simp only[cond_true];constructor;{intro h;cases h};{intro h;omega}
theorem gR(k:UInt8)(o:Int):jB k o=0↔0≤o∧o≤65536∧(o=0∨(k.toNat:Int)=1):=by
 unfold jB;cases d1:uS o;{simp only[cond_false];unfold uS at d1;constructor;{intro h;cases h};{rintro⟨h1,h2,_⟩;simp[h1,h2] at d1}}
 · unfold uS at d1;simp only[Bool.and_eq_true,decide_eq_true_eq] at d1;cases d2:o != 0
   · have:o=0:=by simpa using d2
     simp[this]
   · have f2:o≠0:=by simpa using d2
     cases d3:(k.toNat:Int) != 1
     · have f3:(k.toNat:Int)=1:=by simpa using d3
       simp[d1,f3]
     · have f3:(k.toNat:Int)≠1:=by simpa using d3
       simp[f2,f3]
theorem lH{r:Rc}(h:cz r=0):∃n:Nat,ft r=cT (n:Int)++ej (aW r)∧(ej (aW r)).length=n∧n≤512∧1≤dP n:=by
 have h4:=(eW h).2.2.2.1;have hb:(ej (aW r)).length≤512:=by
   have l0:=cW r.id;have l1:=cW r.size;have l2:=cW r.off;have l3:=cW (r.path.length:Int);have l4:(iS r.sum).length=32:=rfl;have:(dA r).length≤300:=by
     unfold dA;cases (r.kind.toNat:Int)==0<;>cases (r.kind.toNat:Int)==1<;>simp only[cond_true,cond_false,eV,List.length_append,List.length_nil]<;>omega
   unfold ej;rw[List.length_append,lr];simp only[aW,List.length_append,List.length_cons];omega
 obtain⟨w,f1,f2,f3⟩:=xF (ej (aW r)).length (by omega)
 exact⟨(ej (aW r)).length,rfl,rfl,hb,by rw[f1];omega⟩
theorem Cd{w n k:Nat}(hw:w=1∨w=2∨w=4∨w=8)(hn:n < 64*256 ^ (w - 1))(hk:k < w):cG ((gI w n).take k)=(0,0,3):=by
 cases k with
 | zero=>rfl
 | succ k =>
   obtain⟨j,rfl⟩:∃j,w=j+1:=⟨w - 1,by omega⟩
   rw[Nat.add_sub_cancel] at hn;have hq:n / 256 ^ j < 64:=(Nat.div_lt_iff_lt_mul (Nat.pow_pos (by omega))).mpr hn
   have hq2:n / 256 ^ j % 256=n / 256 ^ j:=Nat.mod_eq_of_lt (by omega)
   obtain⟨h1,h2⟩:=Gr (j+1) hw _ hq;unfold gI;rw[nC,hq2,zu,List.take_succ_cons,cG,h1,if_pos (by rw[List.length_take,kH];omega)]
theorem Ce{r:Rc}(h:cz r=0)(k:Nat)(hk:k < (ft r).length):(aQ ((ft r).take k)).2.2≠0:=by
 obtain⟨n,e1,e2,e3,e4⟩:=lH h;obtain⟨w,f1,f2,f3⟩:=xF n (by omega)
 have hl:=iu (n:Int);rw[f1,Int.toNat_natCast] at hl;rw[e1,List.length_append,hl,e2] at hk;rw[e1]
 by_cases hkw:k < w
 · have e5:(cT (n:Int)++ej (aW r)).take k=(cT (n:Int)).take k:=List.take_append_of_le_length (by omega)
   rw[e5];have e6:ar ((cT (n:Int)).take k)=(0,0,3):=by
     unfold ar cT;rw[f1,Int.toNat_natCast,Int.toNat_natCast,Cd f2 f3 hkw];rfl
   unfold aQ;rw[e6];simp
 · have e5:(cT (n:Int)++ej (aW r)).take k=cT (n:Int)++(ej (aW r)).take (k - w):=by
     rw[List.take_append,hl,List.take_of_length_le (by omega)]
   rw[e5];have hs:=lF (n:Int) (by omega) (by omega) ((ej (aW r)).take (k - w))
   unfold aQ;rw[hs];have d1:decide (512 < (n:Int))=false:=decide_eq_false (by omega)
   have d2:decide (((cT (n:Int)++(ej (aW r)).take (k - w)).length:Int) - dP n < n)=true:=decide_eq_true (by rw[List.length_append,hl,List.length_take];omega)
   dsimp only;rw[d1,d2];simp
theorem gp{r:Rc}{l:List Rc}(h:cz r=0):bX (r::l)=ft r++bX l:=by
 rw[bX];unfold cY;rw[h];rfl
theorem z6:∀{l m:List Rc},(∀r∈l,cz r=0)→bX (l++m)=bX l++bX m
 | [],m,h=>rfl
 | r::l,m,h=>by
   rw[List.cons_append,gp (h r (by simp)),gp (h r (by simp)),z6 (fun x hx=>h x (List.mem_cons_of_mem _ hx)),List.append_assoc]
theorem L9{r:Rc}(h:cz r=0)(k:Nat)(hk:k < (ft r).length):(scan aQ ((ft r).take k)).1=[]:=by
 by_cases hn:(ft r).take k=[]
 · rw[hn];rfl
 · rw[tL hn (Ce h k hk)]
structure j8 (s:ek):Prop where
 len:s.parts.length≤64
 nx:0≤s.next∧s.next≤1099511627777
 ids:s.parts.Pairwise (fun x y=>x.id < y.id)
 lt:∀x∈s.parts,0≤x.id∧x.id < s.next
 paths:s.parts.Pairwise (fun x y=>x.path≠y.path)
 ok:∀x∈s.parts,mE x.path x.size=0∧0≤x.off∧x.off≤x.size∧x.size≤65536∧x.sum.length=32
theorem LW:j8 z0:=⟨by simp[z0],by simp[z0],by simp[z0],by simp[z0],by simp[z0],by simp[z0]⟩
theorem vV{l:List Pt}{p:List UInt8}:(ir l p).2=false↔∀x∈l,x.path≠p:=by
 unfold ir;cases h:l.find? (fun x=>x.path==p) with
 | none =>
   simp only[true_iff];rw[List.find?_eq_none] at h;intro x hx e;exact h x hx (by simpa using e)
 | some x =>
   simp only[Bool.true_eq_false,false_iff];intro h2;have h3:=List.find?_some h;exact h2 x (List.mem_of_find?_eq_some h) (by simpa using h3)
theorem Gu{r:Rc}(h:cz r=0)(h0:(r.kind.toNat:Int)=0):mE r.path r.size=0∧r.off=0:=by
 obtain⟨h1,h2,h3,h4,h5⟩:=(iw r).mp h;have h5:=((gR _ _).mp h5).2.2;rcases h4 with h4 | h4;{exact⟨h4.2,by omega⟩};{exact absurd h0 h4.1}
theorem L'{α:Type}{R:α→α→Prop}{l:List α}{i:Nat}{x:α}(h:l.Pairwise R)(hi:i < l.length)(h1:∀y,R y l[i]→R y x)(h2:∀y,R l[i] y→R x y):(l.set i x).Pairwise R:=by
 rw[List.pairwise_iff_getElem] at h ⊢;intro a b ha hb AO;rw[List.length_set] at ha hb;rw[List.getElem_set,List.getElem_set];have:=h a b ha hb AO;split
 · next e =>
   subst e;rw[if_neg (by omega)]
   exact h2 _ this
 · split
   · next e=>subst e;exact h1 _ this
   · exact this
theorem zO{s:ek}{r:Rc}(h:j8 s)(hc:cz r=0)(hs:(r.kind.toNat:Int)=0→r.sum.length=32):j8 (bF s r).1:=by
 obtain⟨h1,h2,h3,h4,h5,h6,h7,h8⟩:=eW hc;have hn:=h.nx;unfold bF;cases c1:(r.kind.toNat:Int)==0
 · dsimp only[cond_false];cases c2:(r.kind.toNat:Int)==4
   · dsimp only[cond_false];cases c3:(r.kind.toNat:Int)==1
     · dsimp only[cond_false];cases c4:(r.kind.toNat:Int)==2||(r.kind.toNat:Int)==3;{exact h}
       · dsimp only[cond_true];cases c5:decide (qY s r < 0)
         · obtain⟨i,hi,e1,e2⟩:=tN c5;dsimp only[cond_false];rw[e1,Int.toNat_natCast];have mz:(s.parts.take i++s.parts.drop (i+1)).Sublist s.parts:=by
             rw[←List.eraseIdx_eq_take_drop_succ];exact List.eraseIdx_sublist _ _
           exact⟨Nat.le_trans mz.length_le h.len,h.nx,h.ids.sublist mz,fun x hx=>h.lt x (mz.subset hx),h.paths.sublist mz,fun x hx=>h.ok x (mz.subset hx)⟩
         · exact h
     · dsimp only[cond_true];cases c5:decide (qY s r < 0)
       · dsimp only[cond_false];cases c6:decide (r.off < (JG s r).off)
         · dsimp only[cond_false];cases c7:decide ((JG s r).size < r.off)
           · obtain⟨i,hi,e1,e2⟩:=tN c5;dsimp only[cond_false];have c7:=of_decide_eq_false c7;rw[e2] at c7;rw[e1,Int.toNat_natCast];have hg:s.parts.getD i zP=s.parts[i]:=by simp[List.getD,hi]
             unfold dz;rw[hg];refine⟨by simpa using h.len,h.nx,L' h.ids hi (fun y hy=>hy) (fun y hy=>hy),fun x hx=>?_,L' h.paths hi (fun y hy=>hy) (fun y hy=>hy),fun x hx=>?_⟩
             · rcases List.mem_or_eq_of_mem_set hx with hx | rfl;{exact h.lt x hx};{have:=h.lt s.parts[i] (List.getElem_mem hi);exact this}
             · rcases List.mem_or_eq_of_mem_set hx with hx | rfl;{exact h.ok x hx};{have:=h.ok s.parts[i] (List.getElem_mem hi);exact⟨this.1,h7,by dsimp only;omega,this.2.2.2⟩}
           · exact h
         · exact h
       · exact h
   · dsimp only[cond_true];cases c3:decide (r.id < s.next);{have c3:=of_decide_eq_false c3;exact⟨h.len,⟨by dsimp only[cond_false];omega,by dsimp only[cond_false];omega⟩,h.ids,fun x hx=>⟨(h.lt x hx).1,by have:=(h.lt x hx).2;dsimp only[cond_false];omega⟩,h.paths,h.ok⟩};{exact h}
 · have hk:(r.kind.toNat:Int)=0:=by simpa using c1
   obtain⟨b1,b2⟩:=Gu hc hk;dsimp only[cond_true];unfold eG;cases c2:(ir s.parts r.path).2||(decide (r.id < s.next)||decide (64≤(s.parts.length:Int)))
   · simp only[Bool.or_eq_false_iff,decide_eq_false_iff_not] at c2;obtain⟨c2,c3,c4⟩:=c2;rw[vV] at c2;dsimp only[cond_false];refine⟨by simp only[List.length_append,List.length_cons,List.length_nil];omega,⟨by dsimp only;omega,by dsimp only;omega⟩,?_,fun x hx=>?_,?_,fun x hx=>?_⟩
     · rw[List.pairwise_append];refine⟨h.ids,List.pairwise_singleton _ _,fun x hx y hy=>?_⟩;rw[List.mem_singleton] at hy;subst hy;have:=(h.lt x hx).2;dsimp only;omega
     · dsimp only;rcases List.mem_append.mp hx with hx | hx;{have:=h.lt x hx;omega};{rw[List.mem_singleton] at hx;subst hx;dsimp only;omega}
     · rw[List.pairwise_append];refine⟨h.paths,List.pairwise_singleton _ _,fun x hx y hy=>?_⟩;rw[List.mem_singleton] at hy;subst hy;exact c2 x hx
     · rcases List.mem_append.mp hx with hx | hx;{exact h.ok x hx};{rw[List.mem_singleton] at hx;subst hx;exact⟨b1,Int.le_refl _,h5,h6,hs hk⟩}
   · exact h
theorem vW{s t:ek}:∀{l:List Rc} (m:List Rc),bK s l=(t,(l.length:Int))→bK s (l++m)=((bK t m).1,(l.length:Int)+(bK t m).2):=by
 intro l
 induction l generalizing s with
 | nil =>
   intro m h;rw[bK] at h;have e:=congrArg Prod.fst h;dsimp only at e;subst e;simp
 | cons r l ih =>
   intro m h;rw[bK] at h;split at h
   · next h1 =>
     have e1:=congrArg Prod.fst h;have e2:=congrArg Prod.snd h;dsimp only at e1 e2;have h2:bK (bF s r).1 l=(t,(l.length:Int)):=by
       refine Prod.ext e1 ?_;rw[List.length_cons] at e2;dsimp only;omega
     rw[List.cons_append,bK,if_pos h1,ih m h2];dsimp only;rw[List.length_cons];refine Prod.ext rfl ?_;dsimp only;omega
   · have e2:=congrArg Prod.snd h;dsimp only at e2;rw[List.length_cons] at e2;omega
def OS(p:Pt):Rc:=⟨0,p.id,p.path,p.sum,p.size,0⟩
def ue(p:Pt):Rc:=⟨1,p.id,[],[],0,p.off⟩
theorem qj(n:Int)(p:Pt)(l:List Pt):iO n (p::l)=OS p::((bif decide (0 < p.off) then [ue p] else [])++iO n l):=rfl
theorem Gw:∀{l:List Pt} {m:Int},0≤m→(∀x∈l,0≤x.id)→0≤jD m l
 | [],m,h,_=>h
 | p::l,m,h,h2=>show 0≤jD (p.id+1) l from Gw (by have:=h2 p (by simp);omega) (fun x hx=>h2 x (List.mem_cons_of_mem _ hx))
theorem Gx:∀{l:List Pt} {n:Int},(∀x∈l,0≤x.id∧x.id≤1099511627776)→(∀x∈l,mE x.path x.size=0∧0≤x.off∧x.off≤x.size∧x.size≤65536∧x.sum.length=32)→∀r∈iO n l,cz r=0∧((r.kind.toNat:Int)=0→r.sum.length=32)
 | [],n,_,_=>by simp[iO]
 | p::l,n,h1,h2=>by
   intro r hr;have ih:=Gx (n:=n) (fun x hx=>h1 x (List.mem_cons_of_mem _ hx)) (fun x hx=>h2 x (List.mem_cons_of_mem _ hx));obtain⟨a1,a2⟩:=h1 p (by simp)
   obtain⟨b1,b2,b3,b4,b5⟩:=h2 p (by simp)
   rw[qj,List.mem_cons,List.mem_append] at hr;rcases hr with rfl | hr | hr;{exact⟨(iw _).mpr ⟨by show (0:UInt8).toNat≤4;decide,a1,a2,.inl ⟨rfl,b1⟩,(gR _ _).mpr ⟨by show (0:Int)≤0;decide,by show (0:Int)≤65536;decide,.inl rfl⟩⟩,fun _=>b5⟩};{cases c:decide (0 < p.off);{rw[c] at hr;cases hr};{rw[c] at hr;dsimp only[cond_true] at hr;rw[List.mem_singleton] at hr;subst hr;exact⟨(iw _).mpr ⟨by show (1:UInt8).toNat≤4;decide,a1,a2,.inr ⟨by show ((1:UInt8).toNat:Int)≠0;decide,rfl⟩,(gR _ _).mpr ⟨b2,by show p.off≤65536;omega,.inr rfl⟩⟩,fun e=>by cases e⟩}};{exact ih r hr}
theorem mK{s:ek}(h:j8 s):∀r∈bD s,cz r=0∧((r.kind.toNat:Int)=0→r.sum.length=32):=by
 intro r hr;have hn:=h.nx;have xZ:=Gw (m:=0) (by omega) fun x hx=>(h.lt x hx).1
 unfold bD at hr;rcases List.mem_append.mp hr with hr | hr;{exact Gx (fun x hx=>by have:=h.lt x hx;omega) h.ok r hr};{cases c:decide (jD 0 s.parts < s.next);{rw[c] at hr;cases hr};{have c2:=of_decide_eq_true c;rw[c] at hr;dsimp only[cond_true] at hr;rw[List.mem_singleton] at hr;subst hr;exact⟨(iw _).mpr ⟨by show (4:UInt8).toNat≤4;decide,by show 0≤s.next - 1;omega,by show s.next - 1≤1099511627776;omega,.inr ⟨by show ((4:UInt8).toNat:Int)≠0;decide,rfl⟩,(gR _ _).mpr ⟨by show (0:Int)≤0;decide,by show (0:Int)≤65536;decide,.inl rfl⟩⟩,fun e=>by cases e⟩}}
def az:List UInt8:=[46,115,117,109,112,116,101,114]
def aT:List UInt8:=[46,115,117,109,112,116,101,114,45,110,101,119]
def bq(d:Dk):Dk×Int:=bif d.list.any (fun e=>e.path==aT) then d.remove aT else (d,0)
structure Jn where
 s:ek
 n:Int
 dead:Bool
theorem vN{d:Dk}{n m:Nat}(hw:d.WF n m):d.list.length≤n:=by
 unfold Dk.list;split;{simp};{rw[List.length_map];exact hw.eT}
theorem zF{d:Dk}{n m:Nat}(hw:d.WF n m)(p:List UInt8):(d.read p).1.length≤m:=by
 unfold Dk.read;split;{exact Nat.zero_le _};split;{exact Nat.zero_le _}
 · by_cases hi:mc d.now p < d.f.length
   · have e:d.f.getD (mc d.now p) default=d.f[mc d.now p]:=by simp[hi]
     rw[e];exact(hw.sz _ (List.getElem_mem hi)).1
   · have e:d.f.getD (mc d.now p) default=default:=by simp[List.getD,List.getElem?_eq_none (Nat.le_of_not_lt hi)]
     rw[e];exact Nat.zero_le _
theorem qm{f:List UInt8→Rc×Int×Int}{P:Rc→Prop}(h:∀b,(f b).2.2=0→P (f b).1):∀(n:Nat) (b:List UInt8),∀r∈(fM f n b).1,P r
 | 0,b,r,hr=>by simp[fM] at hr
 | n+1,b,r,hr=>by
   rw[fM] at hr;split at hr;{simp at hr};split at hr
   · next h2 =>
     rcases List.mem_cons.mp hr with rfl | hr;{exact h b h2};{exact qm h n _ r hr}
   · simp at hr
theorem vR(f:List UInt8→Rc×Int×Int):∀(n:Nat) (b:List UInt8),(fM f n b).1.length≤n
 | 0,b=>by simp[fM]
 | n+1,b=>by
   rw[fM];split;{simp};split;{have:=vR f n (b.drop (f b).2.1.toNat);simp only[List.length_cons];omega};{simp}
theorem ub{b:List UInt8}(h:(aQ b).2.2=0):cz (aQ b).1=0:=by
 unfold aQ at h ⊢;cases c1:(ar b).2.2 != 0;{cases c2:decide (512 < (ar b).1);{cases c3:decide ((b.length:Int) - (ar b).2.1 < (ar b).1);{rw[c1,c2,c3] at h;cases c4:(cv (cj b)).2 != 0;{rw[c4] at h;cases c5:(jT (cv (cj b)).1).2;{rw[c5] at h;cases h};{unfold jT at c5 ⊢;simp only[Bool.and_eq_true,beq_iff_eq] at c5;exact c5.2}};{rw[c4] at h;cases h}};{rw[c1,c2,c3] at h;cases h}};{rw[c1,c2] at h;cases h}};{rw[c1] at h;have:(ar b).2.2=0:=h;rw[this] at c1;cases c1}
theorem LD(b:List UInt8):∀r∈(scan aQ b).1,cz r=0:=qm (fun b h=>ub h) _ b
theorem zG(f:List UInt8→Rc×Int×Int)(b:List UInt8):(scan f b).1.length≤b.length:=vR f _ b
theorem tQ:∀(l:List Rc) (s:ek),0≤(bK s l).2∧(bK s l).2≤l.length
 | [],s=>by simp[bK]
 | r::l,s=>by
   rw[bK];split;{have:=tQ l (bF s r).1;simp only[List.length_cons];omega};{simp only[List.length_cons];omega}
def eX(d:Dk):Dk×Int:=bif (d.read az).2==8 then d.put az false else (d,(d.read az).2)
def ez(b:List UInt8):Int:=(bX ((scan aQ b).1.take (bK z0 (scan aQ b).1).2.toNat)).length
def cI(b:List UInt8)(d:Dk):Dk×Int:=bif decide (ez b < b.length) then d.cut az (ez b) else (d,0)
def pe(b:List UInt8)(d:Dk):Dk×Option Jn×Int:=
 bif (cI b d).2 != 0 then ((cI b d).1,none,(cI b d).2) else
 bif ((cI b d).1.sync az).2 != 0 then (((cI b d).1.sync az).1,none,((cI b d).1.sync az).2) else (((cI b d).1.sync az).1,some ⟨(bK z0 (scan aQ b).1).1,ez b,false⟩,0)
def nT(b:List UInt8)(d:Dk):Dk×Option Jn×Int:=bif d.aM.2 != 0 then (d.aM.1,none,d.aM.2) else pe b d.aM.1
def lP(d:Dk):Dk×Option Jn×Int:=bif (eX d).2 != 0 then ((eX d).1,none,(eX d).2) else nT (d.read az).1 (eX d).1
def cL(d:Dk):Dk×Option Jn×Int:=bif (bq d).2 != 0 then ((bq d).1,none,(bq d).2) else lP (bq d).1
theorem jU{d:Dk}{n m:Nat}(h:d.WF n m):(bq d).1.WF (n+1) m:=by
 unfold bq;cases d.list.any fun e=>e.path==aT;{exact h.mono (Nat.le_succ n) (Nat.le_refl m)};{exact pW h _}
theorem LC{d:Dk}{n m:Nat}(h:d.WF n m):(eX d).1.WF (n+1) m:=by
 unfold eX;cases (d.read az).2==8;{exact h.mono (Nat.le_succ n) (Nat.le_refl m)};{exact pV h _ _}
theorem rZ{d:Dk}{n m:Nat}(h:d.WF n m)(b:List UInt8):(cI b d).1.WF (n+1) m:=by
 unfold cI;cases decide (ez b < b.length);{exact h.mono (Nat.le_succ n) (Nat.le_refl m)};{exact Kw h _ _}
def kI(d:Dk)(x:List UInt8):Dk×Int:=bif (d.append az x).2 != 0 then d.append az x else (d.append az x).1.sync az
def ou(d:Dk)(j:Jn)(r:Rc):Dk×Jn×Int:=
 bif j.dead then (d,j,16) else bif cz r != 0 then (d,j,cz r) else bif !(bF j.s r).2 then (d,j,16) else
 bif (kI d (bX [r])).2 != 0 then (((kI d (bX [r])).1.cut az j.n).1,⟨j.s,j.n,((kI d (bX [r])).1.cut az j.n).2 != 0⟩,(kI d (bX [r])).2)
 else ((kI d (bX [r])).1,⟨(bF j.s r).1,j.n+(bX [r]).length,j.dead⟩,0)
def nF(d:Dk):Dk×Int:=bif (bq d).2 != 0 then bq d else (bq d).1.put aT false
def oA(d:Dk)(x:List UInt8):Dk×Int:=bif (nF d).2 != 0 then nF d else (nF d).1.append aT x
def pg(d:Dk)(x:List UInt8):Dk×Int:=bif (oA d x).2 != 0 then oA d x else (oA d x).1.sync aT
def pH(d:Dk)(x:List UInt8):Dk×Int:=bif (pg d x).2 != 0 then pg d x else (pg d x).1.rename aT az
def tT(d:Dk)(j:Jn):Dk×Jn×Int:=
 bif j.dead then (d,j,16) else
 bif (pH d (bX (bD j.s))).2 != 0 then (((pH d (bX (bD j.s))).1.remove aT).1,j,(pH d (bX (bD j.s))).2)
 else ((pH d (bX (bD j.s))).1.aM.1,⟨j.s,(bX (bD j.s)).length,(pH d (bX (bD j.s))).1.aM.2 != 0⟩,(pH d (bX (bD j.s))).1.aM.2)
def de(i:Nat):Nm:=⟨az,false,i⟩
def gS(j:Nat):Nm:=⟨aT,false,j⟩
theorem jo:dq aT=0:=by decide
theorem uf:fJ az=[]:=by decide
theorem vY:fJ aT=[]:=by decide
theorem Mc(i j:Nat):bG [de i,gS j] aT=some (gS j):=by
 have h:(az==aT)=false:=by decide
 simp[bG,de,gS,h]
theorem OT:ck az aT=true:=by decide
theorem ow(i j:Nat):iF [de i] (.mk (gS j))=[de i,gS j]:=by
 simp[iF,di.cN,di.gone,eS,eR,de,gS,OT,List.takeWhile,List.dropWhile]
theorem Md(i j:Nat):iF [de i,gS j] (.rm (gS j))=[de i]:=by
 have h:(aT==az)=false:=by decide
 simp[iF,di.cN,di.gone,eS,eR,de,gS,h]
theorem Me(i j:Nat):iF [de i,gS j] (.mv (gS j) (some (de i)) az)=[de j]:=by
 simp[iF,di.cN,di.gone,eS,eR,de,gS]
def lN(d e:Dk):Prop:=e.sure=d.sure∧e.loose=d.loose∧e.f=d.f∧e.room=d.room
theorem fy(d nx:Dk)(hr:nx.room=d.room) :
   ((d.step nx).2=0∧d.aD≠0∧d.aE≠0∧lN nx (d.step nx).1∧(d.step nx).1.down=nx.down∧(d.step nx).1.aD=cV d.aD∧(d.step nx).1.aE=cV d.aE) ∨
   ((d.step nx).2=11∧d.aD=0∧(d.step nx).1.down=true∧(lN d (d.step nx).1∨lN nx (d.step nx).1)) ∨
   ((d.step nx).2=12∧d.aD≠0∧d.aE=0∧lN d (d.step nx).1∧(d.step nx).1.down=d.down∧(d.step nx).1.aD=cV d.aD∧(d.step nx).1.aE = -1):=by
 unfold Dk.step
 by_cases h1:d.aD=0
 · rw[if_pos h1];refine .inr (.inl ⟨rfl,h1,?_,?_⟩);{split<;>rfl};{split;{exact .inr ⟨rfl,rfl,rfl,rfl⟩};{exact .inl ⟨rfl,rfl,rfl,rfl⟩}}
 · rw[if_neg h1]
   by_cases h2:d.aE=0
   · rw[if_pos h2];exact .inr (.inr ⟨rfl,h1,h2,⟨rfl,rfl,rfl,rfl⟩,rfl,rfl,by simp[cV,h2]⟩)
   · rw[if_neg h2];exact .inl ⟨rfl,h1,h2,⟨rfl,rfl,rfl,rfl⟩,rfl,rfl,rfl⟩
theorem v7{d:Dk}{i j:Nat}(hd:d.down=false)(hn:d.now=[de i,gS j]):d.remove aT=d.step (d.lT (.rm (gS j))):=by
 have h1:d.asked aT=0:=by unfold Dk.asked;rw[hd];exact jo
 unfold Dk.remove;rw[h1,hn,Mc];have h2:(([]:List UInt8)==aT)=false:=by decide
 simp[de,gS,uf,vY,h2]
theorem Gt{d:Dk}{p:List UInt8}{x:Nm}(hd:d.down=false)(hg:bG d.now p=some x)(hx:x.dir=false):d.read p=((d.f.getD x.id default).b,0):=by
 unfold Dk.read;have h2:bZ d.now p=0:=by unfold bZ;rw[hg];simp[hx]
 have h3:mc d.now p=x.id:=by unfold mc;rw[hg]
 rw[hd,h2,h3];simp
theorem eL{f:List Fl}{i:Nat}(hi:i < f.length)(x:Fl):(f.set i x).getD i default=x:=by simp[List.getD,hi]
theorem getD_set_ne{f:List Fl}{i j:Nat}(h:i≠j)(x:Fl):(f.set i x).getD j default=f.getD j default:=by simp[List.getD,List.getElem?_set_ne h]
theorem vT(f:List Fl)(x:Fl):(f++[x]).getD f.length default=x:=by simp[List.getD]
def uW(r:Rc):Prop:=cz r=0∧((r.kind.toNat:Int)=0→r.sum.length=32)
theorem xz:∀{l:List Rc} {s:ek},j8 s→(∀r∈l,uW r)→j8 (bK s l).1
 | [],s,h,_=>h
 | r::l,s,h,hl=>by
   rw[bK];split;{exact xz (zO h (hl r (by simp)).1 (hl r (by simp)).2) fun x hx=>hl x (List.mem_cons_of_mem _ hx)};{exact h}
def fO(s:ek)(b:List UInt8):Prop:=∃l:List Rc,(∀r∈l,uW r)∧bK z0 l=(s,(l.length:Int))∧b=bX l
def ug(s:ek)(b:List UInt8):Prop:=∃(l:List Rc) (t:List UInt8),(∀r∈l,uW r)∧bK z0 l=(s,(l.length:Int))∧b=bX l++t∧(scan aQ t).1=[]
theorem fO.g1{s:ek}{b:List UInt8}(h:fO s b):ug s b:=by
 obtain⟨l,h1,h2,h3⟩:=h;exact⟨l,[],h1,h2,by simp[h3],rfl⟩
theorem fO.st{s:ek}{b:List UInt8}(h:fO s b):j8 s:=by
 obtain⟨l,h1,h2,h3⟩:=h;have:=xz LW h1;rw[h2] at this;exact this
def AT(f:List Fl)(l:List Nm)(P:ek→Prop):Prop:=∃i,(l=[de i]∨∃j,j≠i∧l=[de i,gS j])∧∀z,(f.getD i default).safe≤z→z≤(f.getD i default).b.length→∃s,P s∧ug s ((f.getD i default).b.take z)
def Cr(R:Int)(m:Nat)(d:Dk)(P:ek→Prop):Prop:=d.room=R∧(∀y∈d.f,y.b.length≤m)∧∀k,AT d.f (br d.sure (d.loose.take k)) P
theorem Cr.of{R:Int}{m:Nat}{d e:Dk}{P:ek→Prop}(h:Cr R m d P)(c:lN d e):Cr R m e P:=by
 obtain⟨c1,c2,c3,c4⟩:=c;unfold Cr;rw[c1,c2,c3,c4];exact h
theorem Cr.step{R:Int}{m:Nat}{d nx:Dk}{P:ek→Prop}(h:Cr R m d P)(k:Cr R m nx P)(hr:nx.room=d.room):Cr R m (d.step nx).1 P:=by
 rcases fy d nx hr with⟨_,_,_,c,_⟩ | ⟨_,_,_,c | c⟩ | ⟨_,_,_,c,_⟩;{exact k.of c};{exact h.of c};{exact k.of c};{exact h.of c}
structure Quiet (R:Int) (d:Dk) (s:ek) (b:List UInt8) (i n m:Nat):Prop where
 wf:d.WF n m
 dn:d.down=false
 sure:d.sure=[de i]
 loose:d.loose=[]
 file:d.f.getD i default=⟨b,b.length⟩
 room:d.room=R
 kK:fO s b
theorem Quiet.now{R:Int}{d:Dk}{s:ek}{b:List UInt8}{i n m:Nat}(h:Quiet R d s b i n m):d.now=[de i]:=by unfold Dk.now;rw[h.sure,h.loose];rfl
theorem Gy{d:Dk}{n m m':Nat}(h:d.WF n m)(h2:∀x∈d.f,x.b.length≤m'):d.WF n m':=⟨h.sn,h.ch,h.len,h.fl,h.op,h.ids,h.sG,fun x hx=>⟨h2 x hx,(h.sz x hx).2⟩,h.rm,h.fa,h.wr⟩
theorem AT.one{f:List Fl}{i:Nat}{b:List UInt8}{s:ek}{P:ek→Prop}(hf:f.getD i default=⟨b,b.length⟩)(hg:fO s b)(hp:P s){l:List Nm}(hl:l=[de i]∨∃j,j≠i∧l=[de i,gS j]):AT f l P:=by
 refine⟨i,hl,fun z h1 h2=>⟨s,hp,?_⟩⟩;rw[hf] at h1 h2 ⊢;dsimp only at h1 h2 ⊢;rw[List.take_of_length_le (by omega)]
 exact hg.g1
theorem Quiet.cr{R:Int}{d:Dk}{s:ek}{b:List UInt8}{i n m:Nat}(h:Quiet R d s b i n m){P:ek→Prop}(hp:P s):Cr R m d P:=by
 refine⟨h.room,fun y hy=>(h.wf.sz y hy).1,fun k=>?_⟩;rw[h.loose,h.sure,List.take_nil];exact AT.one h.file h.kK hp (.inl rfl)
theorem Cg(i:Nat)(f:List Fl)(dw:List UInt8)(hi:i < f.length)(hs:(f.getD i default).safe≤(f.getD i default).b.length):∃z,(f.getD i default).safe≤z∧z≤(f.getD i default).b.length∧(cy [de i] f dw).getD i default=⟨(f.getD i default).b.take z,z⟩:=by
 rw[cy,if_neg (by simp[de])]
 dsimp only;split
 · next h =>
   refine⟨(f.getD i default).safe+(dw.headD 0).toNat % ((f.getD i default).b.length - (f.getD i default).safe+1),Nat.le_add_right _ _,?_,?_⟩
   · have:=Nat.mod_lt (dw.headD 0).toNat (show 0 < (f.getD i default).b.length - (f.getD i default).safe+1 by omega)
     omega
   · rw[cy];exact eL hi _
 · exact⟨_,Nat.le_refl _,hs,by rw[cy];exact eL hi _⟩
theorem Ch(i j:Nat)(A4:j≠i)(f:List Fl)(dw:List UInt8)(hi:i < f.length)(hs:(f.getD i default).safe≤(f.getD i default).b.length):∃z,(f.getD i default).safe≤z∧z≤(f.getD i default).b.length∧(cy [de i,gS j] f dw).getD i default=⟨(f.getD i default).b.take z,z⟩:=by
 have tl:∀(g:List Fl) (k:List UInt8),(cy [gS j] g k).getD i default=g.getD i default:=by
   intro g k;rw[cy,if_neg (by simp[gS])]
   dsimp only;split;{rw[cy];exact getD_set_ne A4 _};{rw[cy];exact getD_set_ne A4 _}
 rw[cy,if_neg (by simp[de])]
 dsimp only;split
 · next h =>
   refine⟨(f.getD i default).safe+(dw.headD 0).toNat % ((f.getD i default).b.length - (f.getD i default).safe+1),Nat.le_add_right _ _,?_,?_⟩
   · have:=Nat.mod_lt (dw.headD 0).toNat (show 0 < (f.getD i default).b.length - (f.getD i default).safe+1 by omega)
     omega
   · rw[tl];exact eL hi _
 · exact⟨_,Nat.le_refl _,hs,by rw[tl];exact eL hi _⟩
theorem ia:∀(l:List Nm) (f:List Fl) (dw:List UInt8),(cy l f dw).length=f.length
 | [],f,dw=>rfl
 | n::l,f,dw=>by
   rw[cy];split;{exact ia l f dw};{dsimp only;split;{rw[ia];simp};{rw[ia];simp}}
structure Aft (R:Int) (d:Dk) (s:ek) (b:List UInt8) (i n m:Nat):Prop where
 wf:d.WF n m
 dn:d.down=false
 aD:d.aD = -1
 aE:d.aE = -1
 sure:d.sure=[de i]∨∃j,j≠i∧d.sure=[de i,gS j]
 loose:d.loose=[]
 file:(d.f.getD i default).b=b
 room:d.room=R
 kK:ug s b
theorem Cr.ky{R:Int}{d:Dk}{P:ek→Prop}{n m m':Nat}(h:Cr R m d P)(hw':d.WF n m')(c:Int)(k:List UInt8):∃s b i,P s∧b.length≤m∧Aft R (d.ky c k) s b i n m:=by
 have hw:d.WF n m:=Gy hw' h.2.1;have Ma:=h.2.1;obtain⟨hr,_,h2⟩:=h;obtain⟨i,hl,hz⟩:=h2 (max 0 (min c d.loose.length)).toNat;have IX:=s6 hw c k;have da:i < d.f.length:=by
   have hi:=IX.ids (de i) (by
     show de i∈br d.sure (d.loose.take (max 0 (min c d.loose.length)).toNat);rcases hl with e | ⟨j,_,e⟩<;>rw[e]<;>simp)
   have:=hi.2.1 rfl;have hlen:(cy (br d.sure (d.loose.take (max 0 (min c d.loose.length)).toNat)) d.f k).length=d.f.length:=ia _ _ _;have h3:(de i).id < (cy (br d.sure (d.loose.take (max 0 (min c d.loose.length)).toNat)) d.f k).length:=this;rw[hlen] at h3;exact h3
 have hs:(d.f.getD i default).safe≤(d.f.getD i default).b.length:=by
   have e:d.f.getD i default=d.f[i]:=by simp[List.getD,da]
   rw[e];exact(hw.sz _ (List.getElem_mem da)).2
 have nM:∀z,((d.f.getD i default).b.take z).length≤m:=fun z=>by
   have e:d.f.getD i default=d.f[i]:=by simp[List.getD,da]
   have:=Ma _ (List.getElem_mem da);rw[e,List.length_take];omega
 rcases hl with e | ⟨j,hj,e⟩;{obtain⟨z,z1,z2,z3⟩:=Cg i d.f k da hs;obtain⟨s,hp,hg⟩:=hz z z1 z2;refine⟨s,_,i,hp,nM z,⟨IX,rfl,rfl,rfl,.inl e,rfl,?_,hr,hg⟩⟩;show ((cy (br d.sure (d.loose.take (max 0 (min c d.loose.length)).toNat)) d.f k).getD i default).b=_;rw[e,z3]};{obtain⟨z,z1,z2,z3⟩:=Ch i j hj d.f k da hs;obtain⟨s,hp,hg⟩:=hz z z1 z2;refine⟨s,_,i,hp,nM z,⟨IX,rfl,rfl,rfl,.inr ⟨j,hj,e⟩,rfl,?_,hr,hg⟩⟩;show ((cy (br d.sure (d.loose.take (max 0 (min c d.loose.length)).toNat)) d.f k).getD i default).b=_;rw[e,z3]}
theorem xG{d e:Dk}(c:lN d e):e.now=d.now:=by unfold Dk.now;rw[c.1,c.2.1]
theorem Gz{n:Int}(h:n = -1):cV n = -1:=by rw[h];rfl
inductive Aa6 (R:Int) (d:Dk) (s:ek) (b:List UInt8) (i n m:Nat) (r:Rc) (D:Dk×Jn×Int):Prop
 | no (h1:D=(d,⟨s,b.length,false⟩,D.2.2)) (h2:D.2.2≠0) (h3:cz r≠0∨(bF s r).2=false)
 | ok (h1:D.2.2=0) (h2:cz r=0) (h3:(bF s r).2=true) (h4:Quiet R D.1 (bF s r).1 (b++ft r) i (n+3) (m+520)) (h5:D.2.1=⟨(bF s r).1,((b++ft r).length:Nat),false⟩) (h6:D.1.aE = -1) (h7:d.aD = -1→D.1.aD = -1)
 | dn (h1:D.2.2≠0) (h2:cz r=0) (h3:(bF s r).2=true) (h4:D.1.down=true) (h5:Cr R (m+520) D.1 fun t=>t=s∨t=(bF s r).1) (h6:D.1.WF (n+3) (m+520)) (h7:d.aD ≠ -1)
def Kp(d e:Dk):Prop:=(d.aD = -1→e.aD = -1)∧(d.aE = -1→e.aE = -1)
theorem Kp.refl(d:Dk):Kp d d:=⟨id,id⟩
theorem Kp.trans{d e f:Dk}(h:Kp d e)(k:Kp e f):Kp d f:=⟨fun x=>k.1 (h.1 x),fun x=>k.2 (h.2 x)⟩
structure Ad (R:Int) (m:Nat) (d:Dk) (s:ek) (b:List UInt8) (i j:Nat) (x:List UInt8) (sf:Nat):Prop where
 dn:d.down=false
 sure:d.sure=[de i]
 loose:d.loose=[.mk (gS j)]
 file:d.f.getD i default=⟨b,b.length⟩
 fj:d.f.getD j default=⟨x,sf⟩
 li:i < d.f.length
 lj:j < d.f.length
 ne:j≠i
 room:d.room=R
 kK:fO s b
 al:∀y∈d.f,y.b.length≤m
theorem Ad.now{R:Int}{m:Nat}{d:Dk}{s:ek}{b:List UInt8}{i j:Nat}{x:List UInt8}{sf:Nat}(h:Ad R m d s b i j x sf):d.now=[de i,gS j]:=by
 unfold Dk.now;rw[h.sure,h.loose];exact ow i j
theorem Aa7{R:Int}{m:Nat}{d:Dk}{s:ek}{b:List UInt8}{i j:Nat}(h1:d.sure=[de i])(h2:d.loose=[.mk (gS j)])(h3:d.f.getD i default=⟨b,b.length⟩)(h4:j≠i)(h5:d.room=R)(h9:∀y∈d.f,y.b.length≤m)(h6:fO s b):Cr R m d fun t=>t=s:=by
 refine⟨h5,h9,fun k=>?_⟩;rw[h1,h2]
 match k with
 | 0=>exact AT.one (P:=fun t=>t=s) h3 h6 rfl (.inl rfl)
 | k+1=>exact AT.one (P:=fun t=>t=s) h3 h6 rfl (.inr ⟨j,h4,show br [de i] (List.take (k+1) [di.mk (gS j)])=_ by rw[List.take_succ_cons,List.take_nil];exact ow i j⟩)
theorem Ad.cr{R:Int}{m:Nat}{d:Dk}{s:ek}{b:List UInt8}{i j:Nat}{x:List UInt8}{sf:Nat}(h:Ad R m d s b i j x sf):Cr R m d fun t=>t=s:=Aa7 h.sure h.loose h.file h.ne h.room h.al h.kK
theorem Aa8{R:Int}{m:Nat}{d:Dk}{s:ek}{b:List UInt8}{i j:Nat}(h1:d.sure=[de i])(h2:d.loose=[.mk (gS j),.rm (gS j)])(h3:d.f.getD i default=⟨b,b.length⟩)(h4:j≠i)(h5:d.room=R)(h9:∀y∈d.f,y.b.length≤m)(h6:fO s b):Cr R m d fun t=>t=s:=by
 refine⟨h5,h9,fun k=>?_⟩;rw[h1,h2]
 match k with
 | 0=>exact AT.one (P:=fun t=>t=s) h3 h6 rfl (.inl rfl)
 | 1=>exact AT.one (P:=fun t=>t=s) h3 h6 rfl (.inr ⟨j,h4,ow i j⟩)
 | k+2 =>
   refine AT.one (P:=fun t=>t=s) h3 h6 rfl (.inl ?_);rw[List.take_succ_cons,List.take_succ_cons,List.take_nil,br,List.foldl_cons,List.foldl_cons,List.foldl_nil,ow,Md]
theorem Ad.rm{R:Int}{m:Nat}{d:Dk}{s:ek}{b:List UInt8}{i j:Nat}{x:List UInt8}{sf:Nat}(h:Ad R m d s b i j x sf):Cr R m (d.remove aT).1 fun t=>t=s:=by
 rw[v7 h.dn h.now];refine h.cr.step (Aa8 (i:=i) (j:=j) h.sure ?_ h.file h.ne h.room h.al h.kK) rfl;show d.loose++[.rm (gS j)]=_;rw[h.loose];rfl
theorem Ad.of{R:Int}{m:Nat}{d e:Dk}{s:ek}{b:List UInt8}{i j:Nat}{x:List UInt8}{sf:Nat}(h:Ad R m d s b i j x sf)(c:lN d e)(hd:e.down=false):Ad R m e s b i j x sf:=
 ⟨hd,c.1.trans h.sure,c.2.1.trans h.loose,by rw[c.2.2.1];exact h.file,by rw[c.2.2.1];exact h.fj,by rw[c.2.2.1];exact h.li,by rw[c.2.2.1];exact h.lj,h.ne,c.2.2.2.trans h.room,h.kK,by rw[c.2.2.1];exact h.al⟩
def QG(R:Int)(m:Nat)(d:Dk)(s:ek)(D:Dk×Int):Prop:=D.2≠0∧(Cr R m (D.1.remove aT).1 fun t=>t=s)∧(D.2=11∧D.1.down=true∧d.aD ≠ -1∨D.2=12∧d.aE ≠ -1)
theorem QG.of{R:Int}{m:Nat}{d e:Dk}{s:ek}{D:Dk×Int}(h:QG R m e s D)(k:Kp d e):QG R m d s D:=by
 obtain⟨h1,h2,h3⟩:=h;refine⟨h1,h2,?_⟩;rcases h3 with⟨a,b,c⟩ | ⟨a,c⟩;{exact .inl ⟨a,b,fun x=>c (k.1 x)⟩};{exact .inr ⟨a,fun x=>c (k.2 x)⟩}
structure Mvd (R:Int) (m:Nat) (d:Dk) (s:ek) (b:List UInt8) (i j:Nat) (x:List UInt8):Prop where
 dn:d.down=false
 sure:d.sure=[de i]
 loose:d.loose=[.mk (gS j),.mv (gS j) (some (de i)) az]
 file:d.f.getD i default=⟨b,b.length⟩
 fj:d.f.getD j default=⟨x,x.length⟩
 ne:j≠i
 room:d.room=R
 al:∀y∈d.f,y.b.length≤m
theorem Mvd.now{R:Int}{m:Nat}{d:Dk}{s:ek}{b:List UInt8}{i j:Nat}{x:List UInt8}(h:Mvd R m d s b i j x):d.now=[de j]:=by
 unfold Dk.now;rw[h.sure,h.loose,br,List.foldl_cons,List.foldl_cons,List.foldl_nil,ow,Me]
structure Aa9 (R:Int) (d:Dk) (s:ek) (x:List UInt8) (n m:Nat) (D:Dk×Jn×Int):Prop where
 st:D.2.1.s=s
 cr:Cr R m D.1 fun t=>t=s
 wf:D.1.WF (n+8) m
 go:(D.2.2=0∧(∃i',Quiet R D.1 s x i' (n+8) m)∧D.2.1=⟨s,x.length,false⟩∧Kp d D.1)∨(D.2.2=11∧D.1.down=true∧d.aD ≠ -1)∨(D.2.2=12∧d.aE ≠ -1)
theorem I0(b:List UInt8):iM b=aQ b:=by
 unfold iM aQ;cases c1:(ar b).2.2 != 0
 case true=>rfl
 cases c2:decide (512 < (ar b).1)
 case true=>rfl
 cases c3:decide ((b.length:Int) - (ar b).2.1 < (ar b).1)
 case true=>rfl
 cases c4:(cv (cj b)).2 != 0
 case true=>rfl
 have e1:(ar b).2.2=0:=by simpa using c1
 have c3:=of_decide_eq_false c3;have e4:(cv (cj b)).2=0:=by simpa using c4
 obtain⟨a1,a2,a3,a4,a5⟩:=lG b e1;have a6:=Gs (ar b).1;simp only[cond_false];unfold jT;cases c5:(cD (cv (cj b)).1).2.done==0;{simp only[cond_false,Bool.false_and]}
 · simp only[cond_true,Bool.true_and];have e5:(cD (cv (cj b)).1).2.done=0:=by simpa using c5
   obtain⟨b1,b2,b3⟩:=rh e5;unfold cY;cases c6:cz (cD (cv (cj b)).1).1 != 0
   · have e6:cz (cD (cv (cj b)).1).1=0:=by simpa using c6
     have e7:ft (cD (cv (cj b)).1).1=b.take ((ar b).2.1+(ar b).1).toNat:=by
       unfold ft eV;rw[b1,zY e4];have hp:(cj b).length=(ar b).1.toNat:=by
         unfold cj;rw[List.length_take,List.length_drop];omega
       have hn:((cj b).length:Int)=(ar b).1:=by rw[hp];omega
       rw[hn,a4];unfold cj;rw[show ((ar b).2.1+(ar b).1).toNat=(ar b).2.1.toNat+(ar b).1.toNat by omega,List.take_add]
     simp only[cond_false,cond_true,e6,e7,beq_self_eq_true,bne_self_eq_false]
   · have e6:cz (cD (cv (cj b)).1).1≠0:=by simpa using c6
     have e8:(cz (cD (cv (cj b)).1).1==0)=false:=by simpa using e6
     simp only[cond_false,cond_true,c6,e8]
theorem L0(b:List UInt8):scan iM b=scan aQ b:=by rw[show iM=aQ from funext I0]
theorem I1{b:List UInt8}(h:(aQ b).2.2=0):uW (aQ b).1:=by
 refine⟨ub h,?_⟩;unfold aQ at h ⊢;cases c1:(ar b).2.2 != 0;{cases c2:decide (512 < (ar b).1);{cases c3:decide ((b.length:Int) - (ar b).2.1 < (ar b).1);{rw[c1,c2,c3] at h;cases c4:(cv (cj b)).2 != 0;{rw[c4] at h;cases c5:(jT (cv (cj b)).1).2;{rw[c5] at h;cases h};{unfold jT at c5 ⊢;simp only[Bool.and_eq_true,beq_iff_eq] at c5;exact(rh c5.1).2.1}};{rw[c4] at h;cases h}};{rw[c1,c2,c3] at h;cases h}};{rw[c1,c2] at h;cases h}};{rw[c1] at h;have:(ar b).2.2=0:=h;rw[this] at c1;cases c1}
theorem FY(b:List UInt8):∀r∈(scan aQ b).1,uW r:=qm (fun b h=>I1 h) _ b
theorem ON{d e:Dk}(c1:e.now=d.now)(c2:e.f=d.f)(c3:e.down=d.down)(p:List UInt8):e.read p=d.read p:=by unfold Dk.read;rw[c1,c2,c3]
theorem I2{d:Dk}(h:d.aM.2=0)(p:List UInt8):d.aM.1.read p=d.read p:=by
 unfold Dk.aM at h ⊢
 by_cases hd:d.down=true
 · rw[if_pos hd] at h;cases h
 · rw[if_neg hd] at h ⊢;rcases fy d { d with sure:=d.now,loose:=[] } rfl with⟨_,_,_,c,c2,_⟩ | ⟨e,_⟩ | ⟨e,_⟩;{exact ON (d:=d) ((xG c).trans rfl) c.2.2.1 c2 p};{rw[h] at e;cases e};{rw[h] at e;cases e}
theorem L4{d:Dk}{n m:Nat}(hw:d.WF n m)(h:(d.put az false).2=0):((d.put az false).1.read az).1=[]:=by
 have IX:=pV hw az false;unfold Dk.put at h IX ⊢
 by_cases h1:d.asked az≠0
 · rw[if_pos h1] at h;exact absurd h h1
 rw[if_neg h1] at h IX ⊢
 by_cases h2:iG d.now az≠0
 · rw[if_pos h2] at h;exact absurd h h2
 rw[if_neg h2] at h IX ⊢
 by_cases h3:(bG d.now az).isSome=true
 · rw[if_pos h3] at h;cases h
 rw[if_neg h3] at h IX ⊢;rcases fy d (Dk.lT { d with f:=if false=true then d.f else d.f++[⟨[],0⟩] } (.mk ⟨az,false,if false=true then 0 else d.f.length⟩)) rfl with⟨_,_,_,c,c2,_⟩ | ⟨e,_⟩ | ⟨e,_⟩
 · have hd:d.down=false:=by
     cases hd:d.down;{rfl};{exact absurd (show d.asked az≠0 by unfold Dk.asked;rw[hd];decide) h1}
   have hn:=xG c;have hm:(⟨az,false,d.f.length⟩:Nm)∈(d.step (Dk.lT { d with f:=if false=true then d.f else d.f++[⟨[],0⟩] } (.mk ⟨az,false,if false=true then 0 else d.f.length⟩))).1.now:=by
     rw[hn];show _∈br d.sure (d.loose++[_]);rw[ma];exact sO.mpr (.inl (by simp[di.cN]))
   rw[Gt (c2.trans hd) (mX IX.eh.nd hm) rfl,c.2.2.1];show ((d.f++[(⟨[],0⟩:Fl)]).getD d.f.length default).b=[];rw[vT]
 · rw[h] at e;cases e
 · rw[h] at e;cases e
theorem L5{d:Dk}{p:List UInt8}(h:(d.read p).2≠0):(d.read p).1=[]:=by
 unfold Dk.read at h ⊢;split;{rfl};split;{rfl}
 · next h1 h2=>rw[if_neg h1,if_neg h2] at h;exact absurd rfl h
theorem OP{d:Dk}{n m:Nat}(hw:d.WF n m)(h:(eX d).2=0):((eX d).1.read az).1=(d.read az).1:=by
 unfold eX at h ⊢;cases c:(d.read az).2==8;{rfl}
 · rw[c] at h;have e:(d.read az).1=[]:=L5 (by rw[beq_iff_eq] at c;rw[c];decide)
   rw[e];exact L4 hw h
theorem B3{d:Dk}{n m:Nat}(hw:d.WF n m)(h:(eX d).2=0)(h2:(eX d).1.aM.2=0):((eX d).1.aM.1.read az).1=(d.read az).1:=by
 rw[I2 h2];exact OP hw h
end Sm
