/-
  JL1,JL2,JL3,JL4,JD,JL5,JL6,JL7,JL8,JL9,JL10,JL11
-/
import Derived.Test.YtegmmhldpmmkeaaGreatDoorSmJE
set_option linter.unusedVariables false
set_option linter.unusedSimpArgs false
set_option maxRecDepth 10000
set_option maxHeartbeats 1000000
namespace Sm
open Go
theorem nC:∀(k n:Nat),dC (k+1) n=UInt8.ofNat (n / 256 ^ k % 256)::dC k n
 | 0,n=>by simp[dC]
 | k+1,n=>by
   rw[dC,nC k (n / 256),List.cons_append,Nat.div_div_eq_div_mul,←Nat.pow_succ'];rfl
theorem vS:∀(k n m:Nat),dY m (dC k n)=m*256 ^ k+n % 256 ^ k
 | 0,n,m=>by simp[dC,dY,Nat.mod_one]
 | k+1,n,m=>by
   rw[dC,mL,vS k];simp only[dY];rw[Nat.pow_succ',Nat.mod_mul,UInt8.toNat_ofNat'];have:n % 256 % 2 ^ 8=n % 256:=by omega
   rw[this,Nat.add_mul,Nat.mul_comm 256 (256 ^ k),←Nat.mul_assoc,Nat.mul_comm (n / 256 % 256 ^ k) 256];omega
theorem Gq:∀(l:List UInt8) (m:Nat),∃v,v < 256 ^ l.length∧dY m l=m*256 ^ l.length+v
 | [],m=>⟨0,by simp,by simp[dY]⟩
 | b::l,m=>by
   obtain⟨v,h1,h2⟩:=Gq l (m*256+b.toNat);have hb:=b.toNat_lt;refine⟨b.toNat*256 ^ l.length+v,?_,?_⟩
   · rw[List.length_cons,Nat.pow_succ'];have:=Nat.mul_le_mul_right (256 ^ l.length) (show b.toNat+1≤256 by omega)
     rw[Nat.add_mul] at this;omega
   · rw[dY,h2,List.length_cons,Nat.pow_succ',Nat.add_mul,Nat.mul_assoc];omega
theorem nV:∀(k:Nat) (l:List UInt8) (m:Nat),l.length=k→dC k (dY m l)=l
 | 0,l,m,h=>by rw[List.eq_nil_of_length_eq_zero h];rfl
 | k+1,l,m,h=>by
   have eJ:l≠[]:=by intro e;rw[e] at h;simp at h
   have e:=List.dropLast_concat_getLast eJ;generalize l.dropLast=r at e;generalize l.getLast eJ=b at e;subst e;have hr:r.length=k:=by simpa using h
   have hb:=b.toNat_lt;rw[dC,mL];simp only[dY];rw[show (dY m r*256+b.toNat) / 256=dY m r by omega,show (dY m r*256+b.toNat) % 256=b.toNat by omega,nV k r m hr,UInt8.ofNat_toNat]
theorem IZ(l:List UInt8)(m:Nat):dC l.length (dY m l)=l:=nV _ l m rfl
theorem Gr(w:Nat)(hw:w=1∨w=2∨w=4∨w=8)(n:Nat)(hn:n < 64):iN (UInt8.ofNat n ||| jK w)=w∧(UInt8.ofNat n ||| jK w).toNat % 64=n:=by
 have h1:∀x:Fin 64,(iN (UInt8.ofNat x.1 ||| 0)=1∧(UInt8.ofNat x.1 ||| 0).toNat % 64=x.1)∧(iN (UInt8.ofNat x.1 ||| 64)=2∧(UInt8.ofNat x.1 ||| 64).toNat % 64=x.1)∧(iN (UInt8.ofNat x.1 ||| 128)=4∧(UInt8.ofNat x.1 ||| 128).toNat % 64=x.1)∧(iN (UInt8.ofNat x.1 ||| 192)=8∧(UInt8.ofNat x.1 ||| 192).toNat % 64=x.1):=by decide
 obtain⟨a,b,c,d⟩:=h1 ⟨n,hn⟩;rcases hw with rfl | rfl | rfl | rfl
 · exact a
 · exact b
 · exact c
 · exact d
theorem V8(c:UInt8):UInt8.ofNat (c.toNat % 64) ||| jK (iN c)=c:=by
 have h:∀x:Fin 256,UInt8.ofNat ((UInt8.ofNat x.1).toNat % 64) ||| jK (iN (UInt8.ofNat x.1))=UInt8.ofNat x.1:=by decide
 have:=h ⟨c.toNat,c.toNat_lt⟩;simpa using this
theorem L2(w n:Nat)(hw:w=1∨w=2∨w=4∨w=8)(hn:n < 64*256 ^ (w - 1))(y:List UInt8):cG (gI w n++y)=((n:Int),(w:Int),0):=by
 obtain⟨k,rfl⟩:∃k,w=k+1:=⟨w - 1,by omega⟩
 rw[Nat.add_sub_cancel] at hn;have hq:n / 256 ^ k < 64:=(Nat.div_lt_iff_lt_mul (Nat.pow_pos (by omega))).mpr hn
 have hq2:n / 256 ^ k % 256=n / 256 ^ k:=Nat.mod_eq_of_lt (by omega)
 obtain⟨h1,h2⟩:=Gr (k+1) hw _ hq;unfold gI;rw[nC,hq2,zu,List.cons_append,cG,h1,if_neg (by simp only[List.length_append,kH];omega),h2,Nat.add_sub_cancel,List.take_left' (kH k n),vS]
 rw[Nat.mul_comm,Nat.div_add_mod]
theorem xF(n:Nat)(hn:n < 4611686018427387904):∃w:Nat,dP n=w∧(w=1∨w=2∨w=4∨w=8)∧n < 64*256 ^ (w - 1):=by
 unfold dP;rw[if_neg (by omega)]
 split
 · exact⟨1,rfl,by omega,by omega⟩
 split
 · exact⟨2,rfl,by omega,by simp;omega⟩
 split
 · exact⟨4,rfl,by omega,by simp;omega⟩
 split
 · exact⟨8,rfl,by omega,by simp;omega⟩
 · omega
theorem L3(w n:Nat)(hw:w=1∨w=2∨w=4∨w=8)(hn:n < 64*256 ^ (w - 1)):dP n≤w:=by
 unfold dP;rcases hw with rfl | rfl | rfl | rfl<;>simp only[Nat.reduceSub,Nat.reducePow,Nat.reduceMul] at hn<;>(repeat' split)<;>omega
theorem iu(n:Int):(cT n).length=(dP n).toNat:=tz _ _
theorem lF(n:Int)(h0:0≤n)(hn:n < 4611686018427387904)(y:List UInt8):ar (cT n++y)=(n,dP n,0):=by
 obtain⟨m,rfl⟩:=Int.eq_ofNat_of_zero_le h0;obtain⟨w,h1,h2,h3⟩:=xF m (by omega)
 have h4:cG (cT (m:Int)++y)=((m:Int),(w:Int),0):=by
   unfold cT;rw[h1,Int.toNat_natCast,Int.toNat_natCast];exact L2 w m h2 h3 y
 unfold ar;rw[h4,if_neg (by simp only[h1];omega),h1]
theorem lG(l:List UInt8)(h:(ar l).2.2=0):0≤(ar l).1∧(ar l).1 < 4611686018427387904∧(ar l).2.1=dP (ar l).1∧cT (ar l).1=l.take (ar l).2.1.toNat∧(ar l).2.1.toNat≤l.length:=by
 unfold ar at h ⊢;split
 · next h2=>rw[if_pos h2] at h;simp at h
 · next h2 =>
   rw[if_neg h2] at h;cases l with
   | nil=>simp[cG] at h
   | cons c r =>
     rw[cG] at h h2 ⊢;split
     · next h3=>rw[if_pos h3] at h;simp at h
     · next h3 =>
       rw[if_neg h3] at h2;simp only[true_and] at h2;have hw:=kJ c;obtain⟨k,hk⟩:∃k,iN c=k+1:=⟨iN c - 1,by omega⟩
       rw[hk,Nat.add_sub_cancel] at h2 ⊢;have hl:(r.take k).length=k:=by rw[List.length_take];omega
       obtain⟨v,hv,e⟩:=Gq (r.take k) (c.toNat % 64);rw[hl] at hv e;have hc:c.toNat % 64 < 64:=Nat.mod_lt _ (by omega)
       have bN:dY (c.toNat % 64) (r.take k) < 64*256 ^ k:=by
         rw[e];have:=Nat.mul_le_mul_right (256 ^ k) (show c.toNat % 64+1≤64 by omega)
         rw[Nat.add_mul] at this;omega
       rw[hk] at hw;have h5:=L3 (k+1) _ hw (by rw[Nat.add_sub_cancel];exact bN)
       have h6:dP (dY (c.toNat % 64) (r.take k))=((k+1:Nat):Int):=by omega
       have h62:dY (c.toNat % 64) (r.take k) < 4611686018427387904:=by
         have:256 ^ k≤256 ^ 7:=Nat.pow_le_pow_right (by omega) (by omega)
         have e7:64*256 ^ 7=4611686018427387904:=by decide
         have:=Nat.mul_le_mul_left 64 this;omega
       dsimp only;refine⟨by omega,by omega,h6.symm,?_,by simp only[Int.toNat_natCast,List.length_cons];omega⟩
       unfold cT;rw[h6,Int.toNat_natCast,Int.toNat_natCast];unfold gI;rw[nC,zu,List.take_succ_cons];have e8:dY (c.toNat % 64) (r.take k) / 256 ^ k=c.toNat % 64:=by
         rw[e,Nat.mul_comm,Nat.mul_add_div (Nat.pow_pos (by omega)),Nat.div_eq_of_lt hv,Nat.add_zero]
       rw[e8,Nat.mod_eq_of_lt (show c.toNat % 64 < 256 by omega),←hk,V8]
       congr 1;have:=IZ (r.take k) (c.toNat % 64);rw[hl] at this;exact this
theorem uc{α:Type}{a b:List α}{n:Nat}(h:a.length=n):(a++b).take n=a:=List.take_left' h
theorem kM{α:Type}{a b:List α}{n:Nat}(h:a.length=n):(a++b).drop n=b:=List.drop_left' h
theorem Gs(n:Int):0≤dP n:=by unfold dP;repeat' split<;>omega
theorem Rd.xH{n db:Int}(h0:0≤n)(h1:n≤db)(h2:db < 4611686018427387904)(y:List UInt8):Rd.num ⟨cT n++y,0⟩ db=(⟨y,0⟩,n):=by
 have hs:=lF n h0 (by omega) y
 have hl:bC (cT n++y) db=(n,dP n,0):=by
   unfold bC;rw[hs,if_neg (by simp only;omega)]
 unfold Rd.num;simp only[hl,ne_eq,not_true,if_false];rw[kM (iu n)]
theorem Rd.qn{r:Rd}{db:Int}(h:(r.num db).1.e=0):r.e=0∧0≤(r.num db).2∧(r.num db).2≤db∧(r.num db).2 < 4611686018427387904∧r.b=cT (r.num db).2++(r.num db).1.b:=by
 unfold Rd.num at h ⊢
 by_cases h1:r.e≠0
 · rw[if_pos h1] at h;exact absurd h h1
 · rw[if_neg h1] at h ⊢
   by_cases h2:(bC r.b db).2.2≠0
   · rw[if_pos h2] at h;exact absurd h h2
   · rw[if_neg h2];have h2:(bC r.b db).2.2=0:=by simpa using h2
     have h3:bC r.b db=ar r.b∧¬((ar r.b).2.2=0∧db < (ar r.b).1):=by
       unfold bC at h2 ⊢;split
       · next h4=>rw[if_pos h4] at h2;simp at h2
       · next h4=>exact⟨rfl,h4⟩
     rw[h3.1] at h2 ⊢;obtain⟨a,b,c,d,e⟩:=lG r.b h2;refine⟨by simpa using h1,a,by have:=h3.2;omega,b,?_⟩
     rw[d,List.take_append_drop]
theorem Rd.xI{s y:List UInt8}{n:Int}(hn:n=s.length):Rd.raw ⟨s++y,0⟩ n=(⟨y,0⟩,s):=by
 subst hn;unfold Rd.raw;simp only[ne_eq,not_true,if_false];rw[if_neg (by omega),if_neg (by simp only[List.length_append];omega),Int.toNat_natCast,kM rfl,uc rfl]
theorem Rd.qo{r:Rd}{n:Int}(h:(r.raw n).1.e=0):r.e=0∧0≤n∧((r.raw n).2.length:Int)=n∧r.b=(r.raw n).2++(r.raw n).1.b:=by
 unfold Rd.raw at h ⊢
 by_cases h1:r.e≠0
 · rw[if_pos h1] at h;exact absurd h h1
 · rw[if_neg h1] at h ⊢;split
   · next h2=>rw[if_pos h2] at h;simp at h
   · next h2 =>
     rw[if_neg h2] at h;split
     · next h3=>rw[if_pos h3] at h;simp at h
     · next h3 =>
       refine⟨by simpa using h1,by omega,by simp only[List.length_take];omega,by simp⟩
theorem Rd.L6{s y:List UInt8}{db:Int}(h1:(s.length:Int)≤db)(h2:db < 4611686018427387904):Rd.text ⟨eV s++y,0⟩ db=(⟨y,0⟩,s):=by
 have e0:eV s++y=cT (s.length:Int)++(s++y):=by unfold eV;rw[List.append_assoc]
 rw[e0];have hs:=lF (s.length:Int) (by omega) (by omega) (s++y)
 have hl:bC (cT (s.length:Int)++(s++y)) db=((s.length:Int),dP s.length,0):=by
   unfold bC;rw[hs,if_neg (by simp only;omega)]
 have hp:=iu (s.length:Int);have hn:=Gs (s.length:Int);have ht:mN (cT (s.length:Int)++(s++y)) db=0:=by
   unfold mN;rw[hl,if_neg (by simp only[List.length_append,true_and];omega)]
 unfold Rd.text;simp only[ht,hl,ne_eq,not_true,if_false];rw[kM hp];exact Rd.xI rfl
theorem Rd.B'{r:Rd}{db:Int}(h:(r.text db).1.e=0):r.e=0∧((r.text db).2.length:Int)≤db∧r.b=eV (r.text db).2++(r.text db).1.b:=by
 unfold Rd.text at h ⊢
 by_cases h1:r.e≠0
 · rw[if_pos h1] at h;exact absurd h h1
 · rw[if_neg h1] at h ⊢
   by_cases h2:mN r.b db≠0
   · rw[if_pos h2] at h;exact absurd h h2
   · rw[if_neg h2] at h ⊢;have h2:mN r.b db=0:=by simpa using h2
     have h4:(bC r.b db).2.2=0:=by
       unfold mN at h2;split at h2
       · simp at h2
       · exact h2
     have h3:bC r.b db=ar r.b∧¬((ar r.b).2.2=0∧db < (ar r.b).1):=by
       unfold bC at h4 ⊢;split
       · next h5=>rw[if_pos h5] at h4;simp at h4
       · next h5=>exact⟨rfl,h5⟩
     obtain⟨_,b,c,d⟩:=Rd.qo h;rw[h3.1] at h4 b c d ⊢;obtain⟨a1,a2,a3,a4,a5⟩:=lG r.b h4;refine⟨by simpa using h1,by have:=h3.2;omega,?_⟩
     unfold eV;rw[c,a4,List.append_assoc,←d];exact(List.take_append_drop _ _).symm
theorem Rd.Ca{r:Rd}(h:r.byte.1.e=0):r.e=0∧r.b=r.byte.2::r.byte.1.b:=by
 obtain⟨a,b,c,d⟩:=Rd.qo (r:=r) (n:=1) h;refine⟨a,?_⟩;unfold Rd.byte;generalize (r.raw 1).2=s at c d ⊢
 match s,c with
 | [x],_=>exact d
theorem Rd.L7(c:UInt8)(y:List UInt8):Rd.byte ⟨c::y,0⟩=(⟨y,0⟩,c):=by
 unfold Rd.byte;rw[show c::y=[c]++y from rfl,Rd.xI (s:=[c]) (n:=1) rfl];rfl
theorem Rd.L8{r:Rd}:r.done=0↔r.e=0∧r.b=[]:=by
 unfold Rd.done;constructor
 · intro h
   by_cases h1:r.e≠0
   · rw[if_pos h1] at h;exact absurd h h1
   · rw[if_neg h1] at h;refine⟨by simpa using h1,?_⟩
     split at h
     · simp at h
     · next h2=>exact List.eq_nil_of_length_eq_zero (by omega)
 · rintro⟨h1,h2⟩;rw[h1,h2];rfl
theorem Cb(b:List UInt8):cv (ej b)=(b,0):=by
 have hl:(ej b).length=b.length+4:=by unfold ej;rw[List.length_append,lr]
 unfold cv;rw[if_neg (by omega),hl,Nat.add_sub_cancel]
 unfold ej;rw[uc rfl,kM rfl];simp
theorem zY{l:List UInt8}(h:(cv l).2=0):ej (cv l).1=l:=by
 unfold cv at h ⊢;split
 · next h1=>rw[if_pos h1] at h;simp at h
 · next h1 =>
   rw[if_neg h1] at h;split
   · next h2 =>
     unfold ej;rw[beq_iff_eq] at h2;dsimp only;rw[h2,List.take_append_drop]
   · next h2=>rw[if_neg h2] at h;simp at h
def vU(r:Rc):Rc:=bif (r.kind.toNat:Int)==0 then ⟨r.kind,r.id,r.path,iS r.sum,r.size,0⟩ else bif (r.kind.toNat:Int)==1 then ⟨r.kind,r.id,[],[],0,r.off⟩ else ⟨r.kind,r.id,[],[],0,0⟩
theorem I3{r:Rc}(h:cz r=0):cD (aW r)=(vU r,⟨[],0⟩):=by
 obtain⟨h1,h2,h3,h4,h5,h6,h7,h8⟩:=eW h;unfold cD vU aW dA;rw[List.cons_append,Rd.L7];dsimp only;rw[Rd.xH h2 h3 (by omega)]
 dsimp only;cases c1:(r.kind.toNat:Int)==0
 · cases c2:(r.kind.toNat:Int)==1
   · rfl
   · dsimp only[cond_true,cond_false];rw[←List.append_nil (cT r.off),Rd.xH h7 h8 (by omega)]
 · dsimp only[cond_true,cond_false];rw[List.append_assoc,Rd.L6 (by omega) (by omega)]
   dsimp only;rw[Rd.xI (s:=iS r.sum) (n:=32) rfl];dsimp only;rw[←List.append_nil (cT r.size),Rd.xH h5 h6 (by omega)]
theorem ud{s:List UInt8}(h:s.length=32):iS s=s:=by
 have e:iS s=(List.range 32).map fun i=>s.getD i 0:=rfl;rw[e];refine List.ext_getElem (by rw[List.length_map,List.length_range,h]) fun i hi hj=>?_
 simp only[List.getElem_map,List.getElem_range];simp[List.getD,hj]
theorem rh{b:List UInt8}(h:(cD b).2.done=0):aW (cD b).1=b∧(((cD b).1.kind.toNat:Int)=0→(cD b).1.sum.length=32)∧vU (cD b).1=(cD b).1:=by
 rw[Rd.L8] at h;unfold cD at h ⊢;dsimp only at h ⊢;generalize hk:(Rd.mk b 0).byte=k at h ⊢;generalize hi:k.1.num 1099511627776=i at h ⊢;have front:i.1.e=0→b=k.2::(cT i.2++i.1.b):=fun he=>by
   subst hi;obtain⟨a1,a2,a3,a4,a5⟩:=Rd.qn he;subst hk;obtain⟨b1,b2⟩:=Rd.Ca a1;rw[←a5];exact b2
 cases c1:(k.2.toNat:Int)==0
 · rw[c1] at h;cases c2:(k.2.toNat:Int)==1
   · rw[c2] at h;dsimp only[cond_false] at h ⊢;have f:=front h.1;refine⟨?_,?_,?_⟩
     · unfold aW dA;rw[c1,c2,f,h.2];rfl
     · intro e;rw[e] at c1;cases c1
     · unfold vU;rw[c1,c2];rfl
   · rw[c2] at h;dsimp only[cond_false,cond_true] at h ⊢;obtain⟨a1,a2,a3,a4,a5⟩:=Rd.qn h.1;have f:=front a1;refine⟨?_,?_,?_⟩
     · unfold aW dA;rw[c1,c2,f,a5,h.2];simp
     · intro e;rw[e] at c1;cases c1
     · unfold vU;rw[c1,c2];rfl
 · rw[c1] at h;dsimp only[cond_true] at h ⊢;obtain⟨a1,a2,a3,a4,a5⟩:=Rd.qn h.1;obtain⟨b1,b2,b3,b4⟩:=Rd.qo a1;obtain⟨d1,d2,d3⟩:=Rd.B' b1;have f:=front d1;have hs:((i.1.text 128).1.raw 32).2.length=32:=by omega
   refine⟨?_,fun _=>hs,?_⟩
   · unfold aW dA;rw[c1,f,d3,b4,a5,h.2];dsimp only[cond_true];rw[ud hs];simp only[List.append_assoc,List.append_nil,List.cons_append]
   · unfold vU;rw[c1];dsimp only[cond_true];rw[ud hs]
theorem iw(r:Rc):cz r=0↔r.kind.toNat≤4∧0≤r.id∧r.id≤1099511627776∧(((r.kind.toNat:Int)=0∧mE r.path r.size=0)∨((r.kind.toNat:Int)≠0∧mF r=true))∧jB r.kind r.off=0:=by
 unfold cz;cases d1:decide (4 < (r.kind.toNat:Int))
 · have e1:=of_decide_eq_false d1;cases d2:decide (r.id < 0)
   · have e2:=of_decide_eq_false d2;cases d3:decide (1099511627776 < r.id)
     · have e3:=of_decide_eq_false d3;cases c1:(r.kind.toNat:Int)==0
       · have f1:(r.kind.toNat:Int)≠0:=by simpa using c1
         cases c2:mF r
         · constructor
           · intro h;cases h
           · rintro⟨_,_,_,h4,_⟩;rcases h4 with h4 | h4
             · exact absurd h4.1 f1
             · cases h4.2
         · simp only[cond_false,cond_true,f1,false_and,false_or,ne_eq,not_false_eq_true,true_and,and_true];constructor
           · intro h;exact⟨by omega,by omega,by omega,h⟩
           · intro h;exact h.2.2.2
       · have f1:(r.kind.toNat:Int)=0:=by simpa using c1
         cases c2:mE r.path r.size != 0
         · have f2:mE r.path r.size=0:=by simpa using c2
           simp only[cond_false,cond_true,f1,f2,ne_eq,not_true,false_and,or_false,true_and,and_self];constructor
           · intro h;exact⟨by omega,by omega,by omega,h⟩
           · intro h;exact h.2.2.2
         · have f2:mE r.path r.size≠0:=by simpa using c2
           simp[f1,f2]
     · have e3:=of_decide_eq_true d3;simp only[cond_false,cond_true];constructor
       · intro h;cases h
       · intro h;omega
   · have e2:=of_decide_eq_true d2;simp only[cond_false,cond_true];constructor
     · intro h;cases h
     · intro h;omega
 · have e1:=of_decide_eq_true d1;simp only[cond_true];constructor
   · intro h;cases h
   · intro h;omega
theorem gR(k:UInt8)(o:Int):jB k o=0↔0≤o∧o≤65536∧(o=0∨(k.toNat:Int)=1):=by
 unfold jB;cases d1:uS o
 · simp only[cond_false];unfold uS at d1;constructor
   · intro h;cases h
   · rintro⟨h1,h2,_⟩;simp[h1,h2] at d1
 · unfold uS at d1;simp only[Bool.and_eq_true,decide_eq_true_eq] at d1;cases d2:o != 0
   · have:o=0:=by simpa using d2
     simp[this]
   · have f2:o≠0:=by simpa using d2
     cases d3:(k.toNat:Int) != 1
     · have f3:(k.toNat:Int)=1:=by simpa using d3
       simp[d1,f3]
     · have f3:(k.toNat:Int)≠1:=by simpa using d3
       simp[f2,f3]
theorem zZ{r:Rc}(h:cz r=0):cz (vU r)=0:=by
 obtain⟨h1,h2,h3,h4,h5⟩:=(iw r).mp h;have hb:∀k i o,mF ⟨k,i,[],[],0,o⟩=true:=fun k i o=>rfl;unfold vU;cases c1:(r.kind.toNat:Int)==0
 · have f1:(r.kind.toNat:Int)≠0:=by simpa using c1
   cases c2:(r.kind.toNat:Int)==1
   · exact(iw _).mpr ⟨h1,h2,h3,.inr ⟨f1,hb _ _ _⟩,(gR _ _).mpr ⟨by show (0:Int)≤0;decide,by show (0:Int)≤65536;decide,.inl rfl⟩⟩
   · exact(iw _).mpr ⟨h1,h2,h3,.inr ⟨f1,hb _ _ _⟩,h5⟩
 · have f1:(r.kind.toNat:Int)=0:=by simpa using c1
   refine(iw _).mpr ⟨h1,h2,h3,.inl ⟨f1,?_⟩,(gR _ _).mpr ⟨by show (0:Int)≤0;decide,by show (0:Int)≤65536;decide,.inl rfl⟩⟩
   rcases h4 with h4 | h4
   · exact h4.2
   · exact absurd f1 h4.1
theorem lH{r:Rc}(h:cz r=0):∃n:Nat,ft r=cT (n:Int)++ej (aW r)∧(ej (aW r)).length=n∧n≤512∧1≤dP n:=by
 have h4:=(eW h).2.2.2.1;have hb:(ej (aW r)).length≤512:=by
   have l0:=cW r.id;have l1:=cW r.size;have l2:=cW r.off;have l3:=cW (r.path.length:Int);have l4:(iS r.sum).length=32:=rfl;have:(dA r).length≤300:=by
     unfold dA;cases (r.kind.toNat:Int)==0<;>cases (r.kind.toNat:Int)==1<;>simp only[cond_true,cond_false,eV,List.length_append,List.length_nil]<;>omega
   unfold ej;rw[List.length_append,lr];simp only[aW,List.length_append,List.length_cons];omega
 obtain⟨w,f1,f2,f3⟩:=xF (ej (aW r)).length (by omega)
 exact⟨(ej (aW r)).length,rfl,rfl,hb,by rw[f1];omega⟩
theorem Cc{r:Rc}(h:cz r=0)(y:List UInt8):aQ (ft r++y)=(vU r,((ft r).length:Int),0):=by
 obtain⟨n,e1,e2,e3,e4⟩:=lH h;have hs:=lF (n:Int) (by omega) (by omega) (ej (aW r)++y)
 have hl:=iu (n:Int);have hlen:((ft r).length:Int)=dP n+n:=by rw[e1,List.length_append,e2,hl];omega
 have hp:cj (ft r++y)=ej (aW r):=by
   unfold cj;rw[e1,List.append_assoc,hs];dsimp only;rw[kM hl,Int.toNat_natCast,uc e2]
 have P2:jT (aW r)=(vU r,true):=by
   unfold jT;rw[I3 h,zZ h];rfl
 unfold aQ;rw[hp,Cb];rw[hlen];rw[show ar (ft r++y)=((n:Int),dP n,0) by rw[e1,List.append_assoc,hs]]
 have d1:decide (512 < (n:Int))=false:=decide_eq_false (by omega)
 have d2:decide (((ft r++y).length:Int) - dP n < n)=false:=decide_eq_false (by rw[List.length_append];omega)
 dsimp only;rw[d1,d2];dsimp only[cond_false,bne_self_eq_false];rw[P2];rfl
theorem Cd{w n k:Nat}(hw:w=1∨w=2∨w=4∨w=8)(hn:n < 64*256 ^ (w - 1))(hk:k < w):cG ((gI w n).take k)=(0,0,3):=by
 cases k with
 | zero=>rfl
 | succ k =>
   obtain⟨j,rfl⟩:∃j,w=j+1:=⟨w - 1,by omega⟩
   rw[Nat.add_sub_cancel] at hn;have hq:n / 256 ^ j < 64:=(Nat.div_lt_iff_lt_mul (Nat.pow_pos (by omega))).mpr hn
   have hq2:n / 256 ^ j % 256=n / 256 ^ j:=Nat.mod_eq_of_lt (by omega)
   obtain⟨h1,h2⟩:=Gr (j+1) hw _ hq;unfold gI;rw[nC,hq2,zu,List.take_succ_cons,cG,h1,if_pos (by rw[List.length_take,kH];omega)]
theorem Ce{r:Rc}(h:cz r=0)(k:Nat)(hk:k < (ft r).length):(aQ ((ft r).take k)).2.2≠0:=by
 obtain⟨n,e1,e2,e3,e4⟩:=lH h;obtain⟨w,f1,f2,f3⟩:=xF n (by omega)
 have hl:=iu (n:Int);rw[f1,Int.toNat_natCast] at hl;rw[e1,List.length_append,hl,e2] at hk;rw[e1]
 by_cases hkw:k < w
 · have e5:(cT (n:Int)++ej (aW r)).take k=(cT (n:Int)).take k:=List.take_append_of_le_length (by omega)
   rw[e5];have e6:ar ((cT (n:Int)).take k)=(0,0,3):=by
     unfold ar cT;rw[f1,Int.toNat_natCast,Int.toNat_natCast,Cd f2 f3 hkw];rfl
   unfold aQ;rw[e6];simp
 · have e5:(cT (n:Int)++ej (aW r)).take k=cT (n:Int)++(ej (aW r)).take (k - w):=by
     rw[List.take_append,hl,List.take_of_length_le (by omega)]
   rw[e5];have hs:=lF (n:Int) (by omega) (by omega) ((ej (aW r)).take (k - w))
   unfold aQ;rw[hs];have d1:decide (512 < (n:Int))=false:=decide_eq_false (by omega)
   have d2:decide (((cT (n:Int)++(ej (aW r)).take (k - w)).length:Int) - dP n < n)=true:=decide_eq_true (by rw[List.length_append,hl,List.length_take];omega)
   dsimp only;rw[d1,d2];simp
theorem OQ{r:Rc}(h:cz r=0):ft r≠[]:=by
 obtain⟨n,e1,e2,e3,e4⟩:=lH h;intro e;have:=congrArg List.length e;rw[e1,List.length_append,iu,List.length_nil] at this;omega
theorem gp{r:Rc}{l:List Rc}(h:cz r=0):bX (r::l)=ft r++bX l:=by
 rw[bX];unfold cY;rw[h];rfl
theorem z6:∀{l m:List Rc},(∀r∈l,cz r=0)→bX (l++m)=bX l++bX m
 | [],m,h=>rfl
 | r::l,m,h=>by
   rw[List.cons_append,gp (h r (by simp)),gp (h r (by simp)),z6 (fun x hx=>h x (List.mem_cons_of_mem _ hx)),List.append_assoc]
theorem OR(r:Rc):ft (vU r)=ft r:=by
 have e:aW (vU r)=aW r:=by
   unfold aW dA vU;cases c1:(r.kind.toNat:Int)==0
   · cases c2:(r.kind.toNat:Int)==1
     · simp only[cond_false,cond_true,c1,c2]
     · simp only[cond_false,cond_true,c1,c2]
   · simp only[cond_false,cond_true,c1];rfl
 unfold ft;rw[e]
theorem z7:∀{l:List Rc} (t:List UInt8),(∀r∈l,cz r=0)→(scan aQ (bX l++t)).1=l.map vU++(scan aQ t).1
 | [],t,h=>rfl
 | r::l,t,h=>by
   have h0:=h r (by simp)
   rw[gp h0,List.append_assoc];have hf:=Cc h0 (bX l++t);have eJ:ft r++(bX l++t)≠[]:=by
     intro e;exact OQ h0 (List.append_eq_nil_iff.mp e).1
   rw[xg om eJ (by rw[hf]),hf]
   dsimp only;rw[Int.toNat_natCast,kM rfl,z7 t (fun x hx=>h x (List.mem_cons_of_mem _ hx))];rfl
theorem L9{r:Rc}(h:cz r=0)(k:Nat)(hk:k < (ft r).length):(scan aQ ((ft r).take k)).1=[]:=by
 by_cases hn:(ft r).take k=[]
 · rw[hn];rfl
 · rw[tL hn (Ce h k hk)]
structure j8 (s:ek):Prop where
 len:s.parts.length≤64
 nx:0≤s.next∧s.next≤1099511627777
 ids:s.parts.Pairwise (fun x y=>x.id < y.id)
 lt:∀x∈s.parts,0≤x.id∧x.id < s.next
 paths:s.parts.Pairwise (fun x y=>x.path≠y.path)
 ok:∀x∈s.parts,mE x.path x.size=0∧0≤x.off∧x.off≤x.size∧x.size≤65536∧x.sum.length=32
theorem LW:j8 z0:=⟨by simp[z0],by simp[z0],by simp[z0],by simp[z0],by simp[z0],by simp[z0]⟩
theorem vV{l:List Pt}{p:List UInt8}:(ir l p).2=false↔∀x∈l,x.path≠p:=by
 unfold ir;cases h:l.find? (fun x=>x.path==p) with
 | none =>
   simp only[true_iff];rw[List.find?_eq_none] at h;intro x hx e;exact h x hx (by simpa using e)
 | some x =>
   simp only[Bool.true_eq_false,false_iff];intro h2;have h3:=List.find?_some h;exact h2 x (List.mem_of_find?_eq_some h) (by simpa using h3)
theorem Gu{r:Rc}(h:cz r=0)(h0:(r.kind.toNat:Int)=0):mE r.path r.size=0∧r.off=0:=by
 obtain⟨h1,h2,h3,h4,h5⟩:=(iw r).mp h;have h5:=((gR _ _).mp h5).2.2;rcases h4 with h4 | h4
 · exact⟨h4.2,by omega⟩
 · exact absurd h0 h4.1
theorem L'{α:Type}{R:α→α→Prop}{l:List α}{i:Nat}{x:α}(h:l.Pairwise R)(hi:i < l.length)(h1:∀y,R y l[i]→R y x)(h2:∀y,R l[i] y→R x y):(l.set i x).Pairwise R:=by
 rw[List.pairwise_iff_getElem] at h ⊢;intro a b ha hb AO;rw[List.length_set] at ha hb;rw[List.getElem_set,List.getElem_set];have:=h a b ha hb AO;split
 · next e =>
   subst e;rw[if_neg (by omega)]
   exact h2 _ this
 · split
   · next e=>subst e;exact h1 _ this
   · exact this
theorem zO{s:ek}{r:Rc}(h:j8 s)(hc:cz r=0)(hs:(r.kind.toNat:Int)=0→r.sum.length=32):j8 (bF s r).1:=by
 obtain⟨h1,h2,h3,h4,h5,h6,h7,h8⟩:=eW hc;have hn:=h.nx;unfold bF;cases c1:(r.kind.toNat:Int)==0
 · dsimp only[cond_false];cases c2:(r.kind.toNat:Int)==4
   · dsimp only[cond_false];cases c3:(r.kind.toNat:Int)==1
     · dsimp only[cond_false];cases c4:(r.kind.toNat:Int)==2||(r.kind.toNat:Int)==3
       · exact h
       · dsimp only[cond_true];cases c5:decide (qY s r < 0)
         · obtain⟨i,hi,e1,e2⟩:=tN c5;dsimp only[cond_false];rw[e1,Int.toNat_natCast];have mz:(s.parts.take i++s.parts.drop (i+1)).Sublist s.parts:=by
             rw[←List.eraseIdx_eq_take_drop_succ];exact List.eraseIdx_sublist _ _
           exact⟨Nat.le_trans mz.length_le h.len,h.nx,h.ids.sublist mz,fun x hx=>h.lt x (mz.subset hx),h.paths.sublist mz,fun x hx=>h.ok x (mz.subset hx)⟩
         · exact h
     · dsimp only[cond_true];cases c5:decide (qY s r < 0)
       · dsimp only[cond_false];cases c6:decide (r.off < (JG s r).off)
         · dsimp only[cond_false];cases c7:decide ((JG s r).size < r.off)
           · obtain⟨i,hi,e1,e2⟩:=tN c5;dsimp only[cond_false];have c7:=of_decide_eq_false c7;rw[e2] at c7;rw[e1,Int.toNat_natCast];have hg:s.parts.getD i zP=s.parts[i]:=by simp[List.getD,hi]
             unfold dz;rw[hg];refine⟨by simpa using h.len,h.nx,L' h.ids hi (fun y hy=>hy) (fun y hy=>hy),fun x hx=>?_,L' h.paths hi (fun y hy=>hy) (fun y hy=>hy),fun x hx=>?_⟩
             · rcases List.mem_or_eq_of_mem_set hx with hx | rfl
               · exact h.lt x hx
               · have:=h.lt s.parts[i] (List.getElem_mem hi);exact this
             · rcases List.mem_or_eq_of_mem_set hx with hx | rfl
               · exact h.ok x hx
               · have:=h.ok s.parts[i] (List.getElem_mem hi);exact⟨this.1,h7,by dsimp only;omega,this.2.2.2⟩
           · exact h
         · exact h
       · exact h
   · dsimp only[cond_true];cases c3:decide (r.id < s.next)
     · have c3:=of_decide_eq_false c3;exact⟨h.len,⟨by dsimp only[cond_false];omega,by dsimp only[cond_false];omega⟩,h.ids,fun x hx=>⟨(h.lt x hx).1,by have:=(h.lt x hx).2;dsimp only[cond_false];omega⟩,h.paths,h.ok⟩
     · exact h
 · have hk:(r.kind.toNat:Int)=0:=by simpa using c1
   obtain⟨b1,b2⟩:=Gu hc hk;dsimp only[cond_true];unfold eG;cases c2:(ir s.parts r.path).2||(decide (r.id < s.next)||decide (64≤(s.parts.length:Int)))
   · simp only[Bool.or_eq_false_iff,decide_eq_false_iff_not] at c2;obtain⟨c2,c3,c4⟩:=c2;rw[vV] at c2;dsimp only[cond_false];refine⟨by simp only[List.length_append,List.length_cons,List.length_nil];omega,⟨by dsimp only;omega,by dsimp only;omega⟩,?_,fun x hx=>?_,?_,fun x hx=>?_⟩
     · rw[List.pairwise_append];refine⟨h.ids,List.pairwise_singleton _ _,fun x hx y hy=>?_⟩;rw[List.mem_singleton] at hy;subst hy;have:=(h.lt x hx).2;dsimp only;omega
     · dsimp only;rcases List.mem_append.mp hx with hx | hx
       · have:=h.lt x hx;omega
       · rw[List.mem_singleton] at hx;subst hx;dsimp only;omega
     · rw[List.pairwise_append];refine⟨h.paths,List.pairwise_singleton _ _,fun x hx y hy=>?_⟩;rw[List.mem_singleton] at hy;subst hy;exact c2 x hx
     · rcases List.mem_append.mp hx with hx | hx
       · exact h.ok x hx
       · rw[List.mem_singleton] at hx;subst hx;exact⟨b1,Int.le_refl _,h5,h6,hs hk⟩
   · exact h
theorem I4{s:ek}{r:Rc}(hc:cz r=0)(hs:(r.kind.toNat:Int)=0→r.sum.length=32):bF s (vU r)=bF s r:=by
 unfold vU;cases c1:(r.kind.toNat:Int)==0
 · cases c2:(r.kind.toNat:Int)==1
   · dsimp only[cond_false];unfold bF qY JG eG qY;dsimp only;rw[c1,c2];rfl
   · dsimp only[cond_false,cond_true];unfold bF JG qY eG;dsimp only;rw[c1,c2];rfl
 · have hk:(r.kind.toNat:Int)=0:=by simpa using c1
   have:=(Gu hc hk).2;dsimp only[cond_true];rw[ud (hs hk),←this]
theorem vW{s t:ek}:∀{l:List Rc} (m:List Rc),bK s l=(t,(l.length:Int))→bK s (l++m)=((bK t m).1,(l.length:Int)+(bK t m).2):=by
 intro l
 induction l generalizing s with
 | nil =>
   intro m h;rw[bK] at h;have e:=congrArg Prod.fst h;dsimp only at e;subst e;simp
 | cons r l ih =>
   intro m h;rw[bK] at h;split at h
   · next h1 =>
     have e1:=congrArg Prod.fst h;have e2:=congrArg Prod.snd h;dsimp only at e1 e2;have h2:bK (bF s r).1 l=(t,(l.length:Int)):=by
       refine Prod.ext e1 ?_;rw[List.length_cons] at e2;dsimp only;omega
     rw[List.cons_append,bK,if_pos h1,ih m h2];dsimp only;rw[List.length_cons];refine Prod.ext rfl ?_;dsimp only;omega
   · have e2:=congrArg Prod.snd h;dsimp only at e2;rw[List.length_cons] at e2;omega
theorem vX:∀{l:List Rc} {s:ek},(∀r∈l,cz r=0∧((r.kind.toNat:Int)=0→r.sum.length=32))→bK s (l.map vU)=bK s l
 | [],s,h=>rfl
 | r::l,s,h=>by
   have h0:=h r (by simp)
   rw[List.map_cons,bK,bK,I4 h0.1 h0.2,vX (fun x hx=>h x (List.mem_cons_of_mem _ hx))]
def OS(p:Pt):Rc:=⟨0,p.id,p.path,p.sum,p.size,0⟩
def ue(p:Pt):Rc:=⟨1,p.id,[],[],0,p.off⟩
theorem Ma{pre:List Pt}{m:Int}{p:Pt}(h1:∀x∈pre,x.path≠p.path)(h2:m≤p.id)(h3:pre.length < 64):bF ⟨pre,m⟩ (OS p)=(⟨pre++[⟨p.id,p.path,p.sum,p.size,0⟩],p.id+1⟩,true):=by
 have e:((ir pre p.path).2||(decide (p.id < m)||decide (64≤(pre.length:Int))))=false:=by
   rw[vV.mpr h1];simp only[Bool.false_or,Bool.or_eq_false_iff,decide_eq_false_iff_not];omega
 have e2:eG pre m (OS p)=(pre++[⟨p.id,p.path,p.sum,p.size,0⟩],p.id+1,true):=by
   unfold eG OS;dsimp only;rw[e];rfl
 unfold bF;dsimp only;rw[e2];rfl
theorem Mb{pre:List Pt}{p:Pt}(h1:∀x∈pre,x.id < p.id)(h2:0≤p.off)(h3:p.off≤p.size):bF ⟨pre++[⟨p.id,p.path,p.sum,p.size,0⟩],p.id+1⟩ (ue p)=(⟨pre++[p],p.id+1⟩,true):=by
 have e:qY ⟨pre++[⟨p.id,p.path,p.sum,p.size,0⟩],p.id+1⟩ (ue p)=(pre.length:Int):=by
   unfold qY;refine eN (by simp) (by simp[ue]) fun j hj=>?_
   rw[List.getElem_append_left hj];have:=h1 _ (List.getElem_mem hj);simp only[ue,beq_eq_false_iff_ne,ne_eq];omega
 have ea:JG ⟨pre++[⟨p.id,p.path,p.sum,p.size,0⟩],p.id+1⟩ (ue p)=⟨p.id,p.path,p.sum,p.size,0⟩:=by
   unfold JG;rw[e,Int.toNat_natCast];simp[List.getD]
 have es:dz (pre++[⟨p.id,p.path,p.sum,p.size,0⟩]) pre.length p.off=pre++[p]:=by
   unfold dz;simp[List.getD]
 unfold bF;rw[e,ea];have d1:decide ((pre.length:Int) < 0)=false:=decide_eq_false (by omega)
 have d2:decide ((ue p).off < 0)=false:=decide_eq_false (by simp only[ue];omega)
 have d3:decide (p.size < (ue p).off)=false:=decide_eq_false (by simp only[ue];omega)
 dsimp only;rw[d1,d2,d3,Int.toNat_natCast,show (ue p).off=p.off from rfl,es];rfl
theorem qj(n:Int)(p:Pt)(l:List Pt):iO n (p::l)=OS p::((bif decide (0 < p.off) then [ue p] else [])++iO n l):=rfl
theorem z8:∀{post pre:List Pt} {m:Int},(∀x∈pre,x.id < m)→m≤(post.head?.map Pt.id).getD m→(pre++post).length≤64→(pre++post).Pairwise (fun x y=>x.id < y.id)→(pre++post).Pairwise (fun x y=>x.path≠y.path)→(∀x∈post,0≤x.off∧x.off≤x.size) →
   bK ⟨pre,m⟩ (iO 0 post)=(⟨pre++post,jD m post⟩,((iO 0 post).length:Int))
 | [],pre,m,h1,h2,h3,h4,h5,h6=>by simp[iO,jD,bK]
 | p::post,pre,m,h1,h2,h3,h4,h5,h6=>by
   have hp:=h6 p (by simp)
   have h2:m≤p.id:=h2;have g4:=List.pairwise_append.mp h4;have g5:=List.pairwise_append.mp h5;have k1:∀x∈pre,x.id < p.id:=fun x hx=>g4.2.2 x hx p (by simp)
   have ih:=z8 (post:=post) (pre:=pre++[p]) (m:=p.id+1) (fun x hx=>by
     rcases List.mem_append.mp hx with hx | hx
     · have:=k1 x hx;omega
     · rw[List.mem_singleton] at hx;subst hx;omega) (by
     cases post with
     | nil=>simp
     | cons q post =>
       have:=(List.pairwise_cons.mp g4.2.1).1 q (by simp)
       simp only[List.head?_cons,Option.map_some,Option.getD_some];omega) (by simpa using h3) (by simpa using h4) (by simpa using h5) (fun x hx=>h6 x (List.mem_cons_of_mem _ hx))
   rw[qj,bK,Ma (fun x hx=>g5.2.2 x hx p (by simp)) h2 (by simp only[List.length_append,List.length_cons] at h3;omega)]
   dsimp only;rw[if_pos rfl];rw[List.append_assoc] at ih;cases c:decide (0 < p.off)
   · have c:=of_decide_eq_false c;have e:p=⟨p.id,p.path,p.sum,p.size,0⟩:=by
       have:p.off=0:=by omega
       rw[←this]
     rw[←e];dsimp only[cond_false];rw[List.nil_append,ih];dsimp only;rw[List.length_cons];refine Prod.ext rfl ?_;dsimp only;omega
   · dsimp only[cond_true];rw[List.cons_append,List.nil_append,bK,Mb k1 hp.1 hp.2];dsimp only;rw[if_pos rfl,ih];dsimp only;rw[List.length_cons,List.length_cons];refine Prod.ext rfl ?_;dsimp only;omega
theorem Gv:∀{l:List Pt} {m n:Int},m≤n→(∀x∈l,x.id < n)→jD m l≤n
 | [],m,n,h,_=>h
 | p::l,m,n,h,h2=>show jD (p.id+1) l≤n from Gv (by have:=h2 p (by simp);omega) (fun x hx=>h2 x (List.mem_cons_of_mem _ hx))
theorem Gw:∀{l:List Pt} {m:Int},0≤m→(∀x∈l,0≤x.id)→0≤jD m l
 | [],m,h,_=>h
 | p::l,m,h,h2=>show 0≤jD (p.id+1) l from Gw (by have:=h2 p (by simp);omega) (fun x hx=>h2 x (List.mem_cons_of_mem _ hx))
theorem Cf{s:ek}(h:j8 s):bK z0 (bD s)=(s,((bD s).length:Int)):=by
 have h0:bK z0 (iO 0 s.parts)=(⟨s.parts,jD 0 s.parts⟩,((iO 0 s.parts).length:Int)):=by
   refine z8 (pre:=[]) (by simp) ?_ h.len h.ids h.paths fun x hx=>⟨(h.ok x hx).2.1,(h.ok x hx).2.2.1⟩
   cases hp:s.parts with
   | nil=>simp
   | cons p l=>exact(h.lt p (by rw[hp];simp)).1
 have hle:=Gv (m:=0) h.nx.1 fun x hx=>(h.lt x hx).2;unfold bD;cases c:decide (jD 0 s.parts < s.next)
 · have c:=of_decide_eq_false c;have e:jD 0 s.parts=s.next:=by omega
   dsimp only[cond_false];rw[List.append_nil,h0,e]
 · have c:=of_decide_eq_true c;dsimp only[cond_true];rw[vW _ h0];have e:bF ⟨s.parts,jD 0 s.parts⟩ ⟨4,s.next - 1,[],[],0,0⟩=(s,true):=by
     unfold bF;dsimp only;rw[show decide (s.next - 1 < jD 0 s.parts)=false from decide_eq_false (by omega),show s.next - 1+1=s.next by omega]
     rfl
   rw[bK,e];dsimp only;rw[if_pos rfl,bK];refine Prod.ext rfl ?_;simp only[List.length_append,List.length_cons,List.length_nil];omega
theorem Gx:∀{l:List Pt} {n:Int},(∀x∈l,0≤x.id∧x.id≤1099511627776)→(∀x∈l,mE x.path x.size=0∧0≤x.off∧x.off≤x.size∧x.size≤65536∧x.sum.length=32)→∀r∈iO n l,cz r=0∧((r.kind.toNat:Int)=0→r.sum.length=32)
 | [],n,_,_=>by simp[iO]
 | p::l,n,h1,h2=>by
   intro r hr;have ih:=Gx (n:=n) (fun x hx=>h1 x (List.mem_cons_of_mem _ hx)) (fun x hx=>h2 x (List.mem_cons_of_mem _ hx));obtain⟨a1,a2⟩:=h1 p (by simp)
   obtain⟨b1,b2,b3,b4,b5⟩:=h2 p (by simp)
   rw[qj,List.mem_cons,List.mem_append] at hr;rcases hr with rfl | hr | hr
   · exact⟨(iw _).mpr ⟨by show (0:UInt8).toNat≤4;decide,a1,a2,.inl ⟨rfl,b1⟩,(gR _ _).mpr ⟨by show (0:Int)≤0;decide,by show (0:Int)≤65536;decide,.inl rfl⟩⟩,fun _=>b5⟩
   · cases c:decide (0 < p.off)
     · rw[c] at hr;cases hr
     · rw[c] at hr;dsimp only[cond_true] at hr;rw[List.mem_singleton] at hr;subst hr;exact⟨(iw _).mpr ⟨by show (1:UInt8).toNat≤4;decide,a1,a2,.inr ⟨by show ((1:UInt8).toNat:Int)≠0;decide,rfl⟩,(gR _ _).mpr ⟨b2,by show p.off≤65536;omega,.inr rfl⟩⟩,fun e=>by cases e⟩
   · exact ih r hr
theorem mK{s:ek}(h:j8 s):∀r∈bD s,cz r=0∧((r.kind.toNat:Int)=0→r.sum.length=32):=by
 intro r hr;have hn:=h.nx;have xZ:=Gw (m:=0) (by omega) fun x hx=>(h.lt x hx).1
 unfold bD at hr;rcases List.mem_append.mp hr with hr | hr
 · exact Gx (fun x hx=>by have:=h.lt x hx;omega) h.ok r hr
 · cases c:decide (jD 0 s.parts < s.next)
   · rw[c] at hr;cases hr
   · have c2:=of_decide_eq_true c;rw[c] at hr;dsimp only[cond_true] at hr;rw[List.mem_singleton] at hr;subst hr;exact⟨(iw _).mpr ⟨by show (4:UInt8).toNat≤4;decide,by show 0≤s.next - 1;omega,by show s.next - 1≤1099511627776;omega,.inr ⟨by show ((4:UInt8).toNat:Int)≠0;decide,rfl⟩,(gR _ _).mpr ⟨by show (0:Int)≤0;decide,by show (0:Int)≤65536;decide,.inl rfl⟩⟩,fun e=>by cases e⟩
def az:List UInt8:=[46,115,117,109,112,116,101,114]
def aT:List UInt8:=[46,115,117,109,112,116,101,114,45,110,101,119]
def bq(d:Dk):Dk×Int:=bif d.list.any (fun e=>e.path==aT) then d.remove aT else (d,0)
structure Jn where
 s:ek
 n:Int
 dead:Bool
theorem vN{d:Dk}{n m:Nat}(hw:d.WF n m):d.list.length≤n:=by
 unfold Dk.list;split
 · simp
 · rw[List.length_map];exact hw.eT
theorem zF{d:Dk}{n m:Nat}(hw:d.WF n m)(p:List UInt8):(d.read p).1.length≤m:=by
 unfold Dk.read;split
 · exact Nat.zero_le _
 split
 · exact Nat.zero_le _
 · by_cases hi:mc d.now p < d.f.length
   · have e:d.f.getD (mc d.now p) default=d.f[mc d.now p]:=by simp[hi]
     rw[e];exact(hw.sz _ (List.getElem_mem hi)).1
   · have e:d.f.getD (mc d.now p) default=default:=by simp[List.getD,List.getElem?_eq_none (Nat.le_of_not_lt hi)]
     rw[e];exact Nat.zero_le _
theorem qm{f:List UInt8→Rc×Int×Int}{P:Rc→Prop}(h:∀b,(f b).2.2=0→P (f b).1):∀(n:Nat) (b:List UInt8),∀r∈(fM f n b).1,P r
 | 0,b,r,hr=>by simp[fM] at hr
 | n+1,b,r,hr=>by
   rw[fM] at hr;split at hr
   · simp at hr
   split at hr
   · next h2 =>
     rcases List.mem_cons.mp hr with rfl | hr
     · exact h b h2
     · exact qm h n _ r hr
   · simp at hr
theorem vR(f:List UInt8→Rc×Int×Int):∀(n:Nat) (b:List UInt8),(fM f n b).1.length≤n
 | 0,b=>by simp[fM]
 | n+1,b=>by
   rw[fM];split
   · simp
   split
   · have:=vR f n (b.drop (f b).2.1.toNat);simp only[List.length_cons];omega
   · simp
theorem ub{b:List UInt8}(h:(aQ b).2.2=0):cz (aQ b).1=0:=by
 unfold aQ at h ⊢;cases c1:(ar b).2.2 != 0
 · cases c2:decide (512 < (ar b).1)
   · cases c3:decide ((b.length:Int) - (ar b).2.1 < (ar b).1)
     · rw[c1,c2,c3] at h;cases c4:(cv (cj b)).2 != 0
       · rw[c4] at h;cases c5:(jT (cv (cj b)).1).2
         · rw[c5] at h;cases h
         · unfold jT at c5 ⊢;simp only[Bool.and_eq_true,beq_iff_eq] at c5;exact c5.2
       · rw[c4] at h;cases h
     · rw[c1,c2,c3] at h;cases h
   · rw[c1,c2] at h;cases h
 · rw[c1] at h;have:(ar b).2.2=0:=h;rw[this] at c1;cases c1
theorem LD(b:List UInt8):∀r∈(scan aQ b).1,cz r=0:=qm (fun b h=>ub h) _ b
theorem zG(f:List UInt8→Rc×Int×Int)(b:List UInt8):(scan f b).1.length≤b.length:=vR f _ b
theorem tQ:∀(l:List Rc) (s:ek),0≤(bK s l).2∧(bK s l).2≤l.length
 | [],s=>by simp[bK]
 | r::l,s=>by
   rw[bK];split
   · have:=tQ l (bF s r).1;simp only[List.length_cons];omega
   · simp only[List.length_cons];omega
def eX(d:Dk):Dk×Int:=bif (d.read az).2==8 then d.put az false else (d,(d.read az).2)
def ez(b:List UInt8):Int:=(bX ((scan aQ b).1.take (bK z0 (scan aQ b).1).2.toNat)).length
def cI(b:List UInt8)(d:Dk):Dk×Int:=bif decide (ez b < b.length) then d.cut az (ez b) else (d,0)
def pe(b:List UInt8)(d:Dk):Dk×Option Jn×Int:=
 bif (cI b d).2 != 0 then ((cI b d).1,none,(cI b d).2) else
 bif ((cI b d).1.sync az).2 != 0 then (((cI b d).1.sync az).1,none,((cI b d).1.sync az).2) else (((cI b d).1.sync az).1,some ⟨(bK z0 (scan aQ b).1).1,ez b,false⟩,0)
def nT(b:List UInt8)(d:Dk):Dk×Option Jn×Int:=bif d.aM.2 != 0 then (d.aM.1,none,d.aM.2) else pe b d.aM.1
def lP(d:Dk):Dk×Option Jn×Int:=bif (eX d).2 != 0 then ((eX d).1,none,(eX d).2) else nT (d.read az).1 (eX d).1
def cL(d:Dk):Dk×Option Jn×Int:=bif (bq d).2 != 0 then ((bq d).1,none,(bq d).2) else lP (bq d).1
theorem jU{d:Dk}{n m:Nat}(h:d.WF n m):(bq d).1.WF (n+1) m:=by
 unfold bq;cases d.list.any fun e=>e.path==aT
 · exact h.mono (Nat.le_succ n) (Nat.le_refl m)
 · exact pW h _
theorem LC{d:Dk}{n m:Nat}(h:d.WF n m):(eX d).1.WF (n+1) m:=by
 unfold eX;cases (d.read az).2==8
 · exact h.mono (Nat.le_succ n) (Nat.le_refl m)
 · exact pV h _ _
theorem rZ{d:Dk}{n m:Nat}(h:d.WF n m)(b:List UInt8):(cI b d).1.WF (n+1) m:=by
 unfold cI;cases decide (ez b < b.length)
 · exact h.mono (Nat.le_succ n) (Nat.le_refl m)
 · exact Kw h _ _
def kI(d:Dk)(x:List UInt8):Dk×Int:=bif (d.append az x).2 != 0 then d.append az x else (d.append az x).1.sync az
def ou(d:Dk)(j:Jn)(r:Rc):Dk×Jn×Int:=
 bif j.dead then (d,j,16) else bif cz r != 0 then (d,j,cz r) else bif !(bF j.s r).2 then (d,j,16) else
 bif (kI d (bX [r])).2 != 0 then (((kI d (bX [r])).1.cut az j.n).1,⟨j.s,j.n,((kI d (bX [r])).1.cut az j.n).2 != 0⟩,(kI d (bX [r])).2)
 else ((kI d (bX [r])).1,⟨(bF j.s r).1,j.n+(bX [r]).length,j.dead⟩,0)
def nF(d:Dk):Dk×Int:=bif (bq d).2 != 0 then bq d else (bq d).1.put aT false
def oA(d:Dk)(x:List UInt8):Dk×Int:=bif (nF d).2 != 0 then nF d else (nF d).1.append aT x
def pg(d:Dk)(x:List UInt8):Dk×Int:=bif (oA d x).2 != 0 then oA d x else (oA d x).1.sync aT
def pH(d:Dk)(x:List UInt8):Dk×Int:=bif (pg d x).2 != 0 then pg d x else (pg d x).1.rename aT az
def tT(d:Dk)(j:Jn):Dk×Jn×Int:=
 bif j.dead then (d,j,16) else
 bif (pH d (bX (bD j.s))).2 != 0 then (((pH d (bX (bD j.s))).1.remove aT).1,j,(pH d (bX (bD j.s))).2)
 else ((pH d (bX (bD j.s))).1.aM.1,⟨j.s,(bX (bD j.s)).length,(pH d (bX (bD j.s))).1.aM.2 != 0⟩,(pH d (bX (bD j.s))).1.aM.2)
def de(i:Nat):Nm:=⟨az,false,i⟩
def gS(j:Nat):Nm:=⟨aT,false,j⟩
theorem jF:dq az=0:=by decide
theorem jo:dq aT=0:=by decide
theorem uf:fJ az=[]:=by decide
theorem vY:fJ aT=[]:=by decide
theorem getM(i:Nat)(l:List Nm):bG (de i::l) az=some (de i):=by simp[bG,de]
theorem Mc(i j:Nat):bG [de i,gS j] aT=some (gS j):=by
 have h:(az==aT)=false:=by decide
 simp[bG,de,gS,h]
theorem QE(i:Nat):bG [de i] aT=none:=by
 have h:(az==aT)=false:=by decide
 simp[bG,de,h]
theorem OT:ck az aT=true:=by decide
theorem ow(i j:Nat):iF [de i] (.mk (gS j))=[de i,gS j]:=by
 simp[iF,di.cN,di.gone,eS,eR,de,gS,OT,List.takeWhile,List.dropWhile]
theorem OU(i:Nat):iF [] (.mk (de i))=[de i]:=by
 simp[iF,di.cN,di.gone,eS,eR]
theorem Md(i j:Nat):iF [de i,gS j] (.rm (gS j))=[de i]:=by
 have h:(aT==az)=false:=by decide
 simp[iF,di.cN,di.gone,eS,eR,de,gS,h]
theorem Me(i j:Nat):iF [de i,gS j] (.mv (gS j) (some (de i)) az)=[de j]:=by
 simp[iF,di.cN,di.gone,eS,eR,de,gS]
def lN(d e:Dk):Prop:=e.sure=d.sure∧e.loose=d.loose∧e.f=d.f∧e.room=d.room
theorem fy(d nx:Dk)(hr:nx.room=d.room) :
   ((d.step nx).2=0∧d.aD≠0∧d.aE≠0∧lN nx (d.step nx).1∧(d.step nx).1.down=nx.down∧(d.step nx).1.aD=cV d.aD∧(d.step nx).1.aE=cV d.aE) ∨
   ((d.step nx).2=11∧d.aD=0∧(d.step nx).1.down=true∧(lN d (d.step nx).1∨lN nx (d.step nx).1)) ∨
   ((d.step nx).2=12∧d.aD≠0∧d.aE=0∧lN d (d.step nx).1∧(d.step nx).1.down=d.down∧(d.step nx).1.aD=cV d.aD∧(d.step nx).1.aE = -1):=by
 unfold Dk.step
 by_cases h1:d.aD=0
 · rw[if_pos h1];refine .inr (.inl ⟨rfl,h1,?_,?_⟩)
   · split<;>rfl
   · split
     · exact .inr ⟨rfl,rfl,rfl,rfl⟩
     · exact .inl ⟨rfl,rfl,rfl,rfl⟩
 · rw[if_neg h1]
   by_cases h2:d.aE=0
   · rw[if_pos h2];exact .inr (.inr ⟨rfl,h1,h2,⟨rfl,rfl,rfl,rfl⟩,rfl,rfl,by simp[cV,h2]⟩)
   · rw[if_neg h2];exact .inl ⟨rfl,h1,h2,⟨rfl,rfl,rfl,rfl⟩,rfl,rfl,rfl⟩
theorem xJ{d:Dk}{p:List UInt8}{may:Fl→Int}{g:Fl→Fl}{x:Nm}(hd:d.down=false)(hp:dq p=0)(hg:bG d.now p=some x)(hx:x.dir=false)(hm:may (d.f.getD x.id default)=0) :
   d.jv p may g=d.step { d with f:=d.f.set x.id (g (d.f.getD x.id default)) }:=by
 have h1:d.asked p=0:=by unfold Dk.asked;rw[hd];exact hp
 have h2:bZ d.now p=0:=by unfold bZ;rw[hg];simp[hx]
 have h3:mc d.now p=x.id:=by unfold mc;rw[hg]
 unfold Dk.jv;rw[h1,h2,h3,hm];simp
theorem vZ{d:Dk}{p b:List UInt8}{x:Nm}(hd:d.down=false)(hp:dq p=0)(hg:bG d.now p=some x)(hx:x.dir=false)(hm:(d.used:Int)+b.length≤d.room) :
   d.append p b=d.step { d with f:=d.f.set x.id ⟨(d.f.getD x.id default).b++b,(d.f.getD x.id default).safe⟩ }:=
 xJ hd hp hg hx (by rw[if_neg (by omega)])
theorem r7{d:Dk}{p:List UInt8}{x:Nm}(hd:d.down=false)(hp:dq p=0)(hg:bG d.now p=some x)(hx:x.dir=false) :
   d.sync p=d.step { d with f:=d.f.set x.id ⟨(d.f.getD x.id default).b,(d.f.getD x.id default).b.length⟩ }:=
 xJ hd hp hg hx rfl
theorem V9{d:Dk}{p:List UInt8}{x:Nm}{n:Nat}(hd:d.down=false)(hp:dq p=0)(hg:bG d.now p=some x)(hx:x.dir=false)(hn:n≤(d.f.getD x.id default).b.length) :
   d.cut p n=d.step { d with f:=d.f.set x.id ⟨(d.f.getD x.id default).b.take n,min n (d.f.getD x.id default).safe⟩ }:=
 xJ hd hp hg hx (by rw[if_neg (by omega)])
theorem Mf{d:Dk}{p:List UInt8}(hd:d.down=false)(hp:dq p=0)(hq:fJ p=[])(hg:bG d.now p=none) :
   d.put p false=d.step (Dk.lT { d with f:=d.f++[⟨[],0⟩] } (.mk ⟨p,false,d.f.length⟩)):=by
 have h1:d.asked p=0:=by unfold Dk.asked;rw[hd];exact hp
 unfold Dk.put;rw[h1,hg];have h2:iG d.now p=0:=by unfold iG;rw[hq];rfl
 rw[h2];simp
theorem v7{d:Dk}{i j:Nat}(hd:d.down=false)(hn:d.now=[de i,gS j]):d.remove aT=d.step (d.lT (.rm (gS j))):=by
 have h1:d.asked aT=0:=by unfold Dk.asked;rw[hd];exact jo
 unfold Dk.remove;rw[h1,hn,Mc];have h2:(([]:List UInt8)==aT)=false:=by decide
 simp[de,gS,uf,vY,h2]
theorem Aa{d:Dk}{i:Nat}(hd:d.down=false)(hn:d.now=[de i]):d.remove aT=(d,8):=by
 have h1:d.asked aT=0:=by unfold Dk.asked;rw[hd];exact jo
 unfold Dk.remove;rw[h1,hn,QE];simp
theorem ri{d:Dk}(hd:d.down=true)(p:List UInt8):d.remove p=(d,11):=by
 unfold Dk.remove Dk.asked;rw[hd];simp
theorem I5{d:Dk}{i j:Nat}(hd:d.down=false)(hn:d.now=[de i,gS j]):d.rename aT az=d.step (d.lT (.mv (gS j) (some (de i)) az)):=by
 have h1:d.asked aT=0:=by unfold Dk.asked;rw[hd];exact jo
 unfold Dk.rename;rw[h1,hn,Mc,getM,jF];have h2:bZ [de i,gS j] aT=0:=by unfold bZ;rw[Mc];rfl
 have h3:iG [de i,gS j] az=0:=by unfold iG;rw[uf];rfl
 rw[h2,h3];simp[de]
theorem v8{d:Dk}{i:Nat}(hn:d.now=[de i]):bq d=(d,0):=by
 unfold bq Dk.list;rw[hn];have h:(az==aT)=false:=by decide
 cases d.down<;>simp[de,h]
theorem Mg{d:Dk}(hn:d.now=[]):bq d=(d,0):=by
 unfold bq Dk.list;rw[hn];cases d.down<;>simp
theorem I6{d:Dk}{i j:Nat}(hd:d.down=false)(hn:d.now=[de i,gS j]):bq d=d.remove aT:=by
 unfold bq Dk.list;rw[hn,hd];simp[de,gS]
theorem Gt{d:Dk}{p:List UInt8}{x:Nm}(hd:d.down=false)(hg:bG d.now p=some x)(hx:x.dir=false):d.read p=((d.f.getD x.id default).b,0):=by
 unfold Dk.read;have h2:bZ d.now p=0:=by unfold bZ;rw[hg];simp[hx]
 have h3:mc d.now p=x.id:=by unfold mc;rw[hg]
 rw[hd,h2,h3];simp
theorem eL{f:List Fl}{i:Nat}(hi:i < f.length)(x:Fl):(f.set i x).getD i default=x:=by simp[List.getD,hi]
theorem getD_set_ne{f:List Fl}{i j:Nat}(h:i≠j)(x:Fl):(f.set i x).getD j default=f.getD j default:=by simp[List.getD,List.getElem?_set_ne h]
theorem Mh{f:List Fl}{i:Nat}(hi:i < f.length)(x:Fl):(f++[x]).getD i default=f.getD i default:=by simp[List.getD,List.getElem?_append_left hi]
theorem vT(f:List Fl)(x:Fl):(f++[x]).getD f.length default=x:=by simp[List.getD]
def uW(r:Rc):Prop:=cz r=0∧((r.kind.toNat:Int)=0→r.sum.length=32)
theorem xz:∀{l:List Rc} {s:ek},j8 s→(∀r∈l,uW r)→j8 (bK s l).1
 | [],s,h,_=>h
 | r::l,s,h,hl=>by
   rw[bK];split
   · exact xz (zO h (hl r (by simp)).1 (hl r (by simp)).2) fun x hx=>hl x (List.mem_cons_of_mem _ hx)
   · exact h
def fO(s:ek)(b:List UInt8):Prop:=∃l:List Rc,(∀r∈l,uW r)∧bK z0 l=(s,(l.length:Int))∧b=bX l
def ug(s:ek)(b:List UInt8):Prop:=∃(l:List Rc) (t:List UInt8),(∀r∈l,uW r)∧bK z0 l=(s,(l.length:Int))∧b=bX l++t∧(scan aQ t).1=[]
theorem fO.g1{s:ek}{b:List UInt8}(h:fO s b):ug s b:=by
 obtain⟨l,h1,h2,h3⟩:=h;exact⟨l,[],h1,h2,by simp[h3],rfl⟩
theorem fO.st{s:ek}{b:List UInt8}(h:fO s b):j8 s:=by
 obtain⟨l,h1,h2,h3⟩:=h;have:=xz LW h1;rw[h2] at this;exact this
theorem Ab:∀{l:List Rc},(∀r∈l,uW r)→bX (l.map vU)=bX l
 | [],_=>rfl
 | r::l,h=>by
   have h0:=h r (by simp)
   rw[List.map_cons,gp h0.1,gp (zZ h0.1),OR,Ab fun x hx=>h x (List.mem_cons_of_mem _ hx)]
theorem ug.opens{s:ek}{b:List UInt8}(h:ug s b):∃c,fO s c∧(bK z0 (scan aQ b).1).1=s∧ez b=(c.length:Int)∧b.take c.length=c∧c.length≤b.length:=by
 obtain⟨l,t,h1,h2,h3,h4⟩:=h;have e1:(scan aQ b).1=l.map vU:=by rw[h3,z7 t (fun r hr=>(h1 r hr).1),h4,List.append_nil]
 have e2:bK z0 (l.map vU)=(s,(l.length:Int)):=by rw[vX h1,h2]
 refine⟨bX l,⟨l,h1,h2,rfl⟩,by rw[e1,e2],?_,by rw[h3,List.take_left' rfl],by rw[h3,List.length_append];omega⟩
 unfold ez;rw[e1,e2,Int.toNat_natCast,List.take_of_length_le (by simp),Ab h1]
theorem fO.snoc{s:ek}{b:List UInt8}{r:Rc}(h:fO s b)(hr:uW r)(hs:(bF s r).2=true):fO (bF s r).1 (b++ft r):=by
 obtain⟨l,h1,h2,h3⟩:=h;refine⟨l++[r],fun x hx=>?_,?_,?_⟩
 · rcases List.mem_append.mp hx with hx | hx
   · exact h1 x hx
   · rw[List.mem_singleton] at hx;subst hx;exact hr
 · rw[vW _ h2,bK,if_pos hs,bK];refine Prod.ext rfl ?_;simp
 · rw[z6 (fun x hx=>(h1 x hx).1),gp hr.1,←h3];simp[bX]
theorem fO.cut{s:ek}{b:List UInt8}{r:Rc}(h:fO s b)(hr:uW r)(hs:(bF s r).2=true)(z:Nat)(h1:b.length≤z)(h2:z≤(b++ft r).length):∃t,(t=s∨t=(bF s r).1)∧ug t ((b++ft r).take z):=by
 rw[List.length_append] at h2
 by_cases hz:z=b.length+(ft r).length
 · refine⟨_,.inr rfl,?_⟩;rw[List.take_of_length_le (by rw[List.length_append];omega)]
   exact(h.snoc hr hs).g1
 · refine⟨_,.inl rfl,?_⟩;obtain⟨l,g1,g2,g3⟩:=h;refine⟨l,(ft r).take (z - b.length),g1,g2,?_,L9 hr.1 _ (by omega)⟩
   rw[List.take_append,List.take_of_length_le h1,g3]
theorem Mi{s:ek}(h:j8 s):fO s (bX (bD s)):=⟨bD s,mK h,Cf h,rfl⟩
theorem OV:fO z0 []:=⟨[],by simp,rfl,rfl⟩
def AT(f:List Fl)(l:List Nm)(P:ek→Prop):Prop:=∃i,(l=[de i]∨∃j,j≠i∧l=[de i,gS j])∧∀z,(f.getD i default).safe≤z→z≤(f.getD i default).b.length→∃s,P s∧ug s ((f.getD i default).b.take z)
def Cr(R:Int)(m:Nat)(d:Dk)(P:ek→Prop):Prop:=d.room=R∧(∀y∈d.f,y.b.length≤m)∧∀k,AT d.f (br d.sure (d.loose.take k)) P
theorem Cr.of{R:Int}{m:Nat}{d e:Dk}{P:ek→Prop}(h:Cr R m d P)(c:lN d e):Cr R m e P:=by
 obtain⟨c1,c2,c3,c4⟩:=c;unfold Cr;rw[c1,c2,c3,c4];exact h
theorem Cr.step{R:Int}{m:Nat}{d nx:Dk}{P:ek→Prop}(h:Cr R m d P)(k:Cr R m nx P)(hr:nx.room=d.room):Cr R m (d.step nx).1 P:=by
 rcases fy d nx hr with⟨_,_,_,c,_⟩ | ⟨_,_,_,c | c⟩ | ⟨_,_,_,c,_⟩
 · exact k.of c
 · exact h.of c
 · exact k.of c
 · exact h.of c
theorem uh{f:List Fl}{m:Nat}(h:∀y∈f,y.b.length≤m)(i:Nat){x:Fl}(hx:x.b.length≤m):∀y∈f.set i x,y.b.length≤m:=fun y hy=>by
 rcases List.mem_or_eq_of_mem_set hy with hy | rfl
 · exact h y hy
 · exact hx
theorem OW{f:List Fl}{m:Nat}(h:∀y∈f,y.b.length≤m):∀y∈f++[⟨[],0⟩],y.b.length≤m:=fun y hy=>by
 rcases List.mem_append.mp hy with hy | hy
 · exact h y hy
 · rw[List.mem_singleton] at hy;subst hy;exact Nat.zero_le _
structure Quiet (R:Int) (d:Dk) (s:ek) (b:List UInt8) (i n m:Nat):Prop where
 wf:d.WF n m
 dn:d.down=false
 sure:d.sure=[de i]
 loose:d.loose=[]
 file:d.f.getD i default=⟨b,b.length⟩
 room:d.room=R
 kK:fO s b
theorem Quiet.now{R:Int}{d:Dk}{s:ek}{b:List UInt8}{i n m:Nat}(h:Quiet R d s b i n m):d.now=[de i]:=by unfold Dk.now;rw[h.sure,h.loose];rfl
theorem Quiet.lt{R:Int}{d:Dk}{s:ek}{b:List UInt8}{i n m:Nat}(h:Quiet R d s b i n m):i < d.f.length:=(h.wf.ids (de i) (by rw[h.sure];simp)).2.1 rfl
theorem Quiet.used{R:Int}{d:Dk}{s:ek}{b:List UInt8}{i n m:Nat}(h:Quiet R d s b i n m):d.used=b.length:=by
 unfold Dk.used;rw[h.now];have e:=h.file;simp only[de,List.map_cons,List.map_nil,List.sum_cons,List.sum_nil,Bool.false_eq_true,if_false,e,Nat.add_zero]
theorem Quiet.bm{R:Int}{d:Dk}{s:ek}{b:List UInt8}{i n m:Nat}(h:Quiet R d s b i n m):b.length≤m:=by
 have h1:=h.lt;have h2:=h.wf.sz _ (List.getElem_mem h1);have e:d.f.getD i default=d.f[i]:=by simp[List.getD,h1]
 have e2:d.f[i].b=b:=by rw[←e,h.file]
 rw[e2] at h2;exact h2.1
theorem Gy{d:Dk}{n m m':Nat}(h:d.WF n m)(h2:∀x∈d.f,x.b.length≤m'):d.WF n m':=⟨h.sn,h.ch,h.len,h.fl,h.op,h.ids,h.sG,fun x hx=>⟨h2 x hx,(h.sz x hx).2⟩,h.rm,h.fa,h.wr⟩
theorem AT.one{f:List Fl}{i:Nat}{b:List UInt8}{s:ek}{P:ek→Prop}(hf:f.getD i default=⟨b,b.length⟩)(hg:fO s b)(hp:P s){l:List Nm}(hl:l=[de i]∨∃j,j≠i∧l=[de i,gS j]):AT f l P:=by
 refine⟨i,hl,fun z h1 h2=>⟨s,hp,?_⟩⟩;rw[hf] at h1 h2 ⊢;dsimp only at h1 h2 ⊢;rw[List.take_of_length_le (by omega)]
 exact hg.g1
theorem Quiet.cr{R:Int}{d:Dk}{s:ek}{b:List UInt8}{i n m:Nat}(h:Quiet R d s b i n m){P:ek→Prop}(hp:P s):Cr R m d P:=by
 refine⟨h.room,fun y hy=>(h.wf.sz y hy).1,fun k=>?_⟩;rw[h.loose,h.sure,List.take_nil];exact AT.one h.file h.kK hp (.inl rfl)
theorem Cg(i:Nat)(f:List Fl)(dw:List UInt8)(hi:i < f.length)(hs:(f.getD i default).safe≤(f.getD i default).b.length):∃z,(f.getD i default).safe≤z∧z≤(f.getD i default).b.length∧(cy [de i] f dw).getD i default=⟨(f.getD i default).b.take z,z⟩:=by
 rw[cy,if_neg (by simp[de])]
 dsimp only;split
 · next h =>
   refine⟨(f.getD i default).safe+(dw.headD 0).toNat % ((f.getD i default).b.length - (f.getD i default).safe+1),Nat.le_add_right _ _,?_,?_⟩
   · have:=Nat.mod_lt (dw.headD 0).toNat (show 0 < (f.getD i default).b.length - (f.getD i default).safe+1 by omega)
     omega
   · rw[cy];exact eL hi _
 · exact⟨_,Nat.le_refl _,hs,by rw[cy];exact eL hi _⟩
theorem Ch(i j:Nat)(A4:j≠i)(f:List Fl)(dw:List UInt8)(hi:i < f.length)(hs:(f.getD i default).safe≤(f.getD i default).b.length):∃z,(f.getD i default).safe≤z∧z≤(f.getD i default).b.length∧(cy [de i,gS j] f dw).getD i default=⟨(f.getD i default).b.take z,z⟩:=by
 have tl:∀(g:List Fl) (k:List UInt8),(cy [gS j] g k).getD i default=g.getD i default:=by
   intro g k;rw[cy,if_neg (by simp[gS])]
   dsimp only;split
   · rw[cy];exact getD_set_ne A4 _
   · rw[cy];exact getD_set_ne A4 _
 rw[cy,if_neg (by simp[de])]
 dsimp only;split
 · next h =>
   refine⟨(f.getD i default).safe+(dw.headD 0).toNat % ((f.getD i default).b.length - (f.getD i default).safe+1),Nat.le_add_right _ _,?_,?_⟩
   · have:=Nat.mod_lt (dw.headD 0).toNat (show 0 < (f.getD i default).b.length - (f.getD i default).safe+1 by omega)
     omega
   · rw[tl];exact eL hi _
 · exact⟨_,Nat.le_refl _,hs,by rw[tl];exact eL hi _⟩
theorem ia:∀(l:List Nm) (f:List Fl) (dw:List UInt8),(cy l f dw).length=f.length
 | [],f,dw=>rfl
 | n::l,f,dw=>by
   rw[cy];split
   · exact ia l f dw
   · dsimp only;split
     · rw[ia];simp
     · rw[ia];simp
structure Aft (R:Int) (d:Dk) (s:ek) (b:List UInt8) (i n m:Nat):Prop where
 wf:d.WF n m
 dn:d.down=false
 aD:d.aD = -1
 aE:d.aE = -1
 sure:d.sure=[de i]∨∃j,j≠i∧d.sure=[de i,gS j]
 loose:d.loose=[]
 file:(d.f.getD i default).b=b
 room:d.room=R
 kK:ug s b
theorem Cr.ky{R:Int}{d:Dk}{P:ek→Prop}{n m m':Nat}(h:Cr R m d P)(VZ:d.WF n m')(c:Int)(k:List UInt8):∃s b i,P s∧b.length≤m∧Aft R (d.ky c k) s b i n m:=by
 have hw:d.WF n m:=Gy VZ h.2.1;have hal:=h.2.1;obtain⟨hr,_,h2⟩:=h;obtain⟨i,hl,hz⟩:=h2 (max 0 (min c d.loose.length)).toNat;have IX:=s6 hw c k;have da:i < d.f.length:=by
   have hi:=IX.ids (de i) (by
     show de i∈br d.sure (d.loose.take (max 0 (min c d.loose.length)).toNat);rcases hl with e | ⟨j,_,e⟩<;>rw[e]<;>simp)
   have:=hi.2.1 rfl;have hlen:(cy (br d.sure (d.loose.take (max 0 (min c d.loose.length)).toNat)) d.f k).length=d.f.length:=ia _ _ _;have h3:(de i).id < (cy (br d.sure (d.loose.take (max 0 (min c d.loose.length)).toNat)) d.f k).length:=this;rw[hlen] at h3;exact h3
 have hs:(d.f.getD i default).safe≤(d.f.getD i default).b.length:=by
   have e:d.f.getD i default=d.f[i]:=by simp[List.getD,da]
   rw[e];exact(hw.sz _ (List.getElem_mem da)).2
 have nM:∀z,((d.f.getD i default).b.take z).length≤m:=fun z=>by
   have e:d.f.getD i default=d.f[i]:=by simp[List.getD,da]
   have:=hal _ (List.getElem_mem da);rw[e,List.length_take];omega
 rcases hl with e | ⟨j,hj,e⟩
 · obtain⟨z,z1,z2,z3⟩:=Cg i d.f k da hs;obtain⟨s,hp,hg⟩:=hz z z1 z2;refine⟨s,_,i,hp,nM z,⟨IX,rfl,rfl,rfl,.inl e,rfl,?_,hr,hg⟩⟩;show ((cy (br d.sure (d.loose.take (max 0 (min c d.loose.length)).toNat)) d.f k).getD i default).b=_;rw[e,z3]
 · obtain⟨z,z1,z2,z3⟩:=Ch i j hj d.f k da hs;obtain⟨s,hp,hg⟩:=hz z z1 z2;refine⟨s,_,i,hp,nM z,⟨IX,rfl,rfl,rfl,.inr ⟨j,hj,e⟩,rfl,?_,hr,hg⟩⟩;show ((cy (br d.sure (d.loose.take (max 0 (min c d.loose.length)).toNat)) d.f k).getD i default).b=_;rw[e,z3]
theorem fU{d nx:Dk}(hr:nx.room=d.room)(h1:d.aD = -1)(h2:d.aE = -1):(d.step nx).2=0∧lN nx (d.step nx).1∧(d.step nx).1.down=nx.down∧(d.step nx).1.aD = -1∧(d.step nx).1.aE = -1:=by
 rcases fy d nx hr with⟨a,b,c,e,f,g,h⟩ | ⟨a,b,c⟩ | ⟨a,b,c,e⟩
 · exact⟨a,e,f,by rw[g,h1];rfl,by rw[h,h2];rfl⟩
 · rw[h1] at b;cases b
 · rw[h2] at c;cases c
theorem xG{d e:Dk}(c:lN d e):e.now=d.now:=by unfold Dk.now;rw[c.1,c.2.1]
theorem Aft.opens{R:Int}{d:Dk}{s:ek}{b:List UInt8}{i n m:Nat}(h:Aft R d s b i n m):∃d' c,cL d=(d',some ⟨s,(c.length:Int),false⟩,0)∧Quiet R d' s c i (n+5) m∧d'.aD = -1∧d'.aE = -1∧c.length≤b.length:=by
 obtain⟨c,hc,p1,p2,p3,p4⟩:=h.kK.opens;have ht:∃d1,bq d=(d1,0)∧d1.WF (n+1) m∧d1.down=false∧d1.aD = -1∧d1.aE = -1∧d1.now=[de i]∧d1.f=d.f∧d1.room=R:=by
   have JA:d.now=d.sure:=by unfold Dk.now;rw[h.loose];rfl
   have hw:=jU h.wf;rcases h.sure with e | ⟨j,hj,e⟩
   · have:=v8 (d:=d) (i:=i) (by rw[JA,e])
     rw[this] at hw;exact⟨d,this,hw,h.dn,h.aD,h.aE,by rw[JA,e],rfl,h.room⟩
   · have h1:=I6 (d:=d) (i:=i) (j:=j) h.dn (by rw[JA,e])
     have h2:=v7 (d:=d) (i:=i) (j:=j) h.dn (by rw[JA,e])
     obtain⟨q1,q2,q3,q4,q5⟩:=fU (d:=d) (nx:=d.lT (.rm (gS j))) rfl h.aD h.aE;rw[h1,h2] at hw;refine⟨(d.step (d.lT (.rm (gS j)))).1,?_,hw,by rw[q3];exact h.dn,q4,q5,?_,q2.2.2.1,by rw[q2.2.2.2];exact h.room⟩
     · rw[h1,h2,←q1]
     · rw[xG q2];unfold Dk.now Dk.lT;dsimp only;rw[h.loose,e];exact Md i j
 obtain⟨d1,t1,w1,n1,f1,g1,a1,b1,r1⟩:=ht;have hi:i < d1.f.length:=(w1.ei (de i) (by rw[a1];simp)).2.1 rfl
 have hr:d1.read az=(b,0):=by
   rw[Gt (x:=de i) n1 (by rw[a1];exact getM i []) rfl,b1]
   show ((d.f.getD i default).b,(0:Int))=_;rw[h.file]
 have hm:eX d1=(d1,0):=by unfold eX;rw[hr];rfl
 have hs:d1.aM=d1.step { d1 with sure:=d1.now,loose:=[] }:=by unfold Dk.aM;rw[n1];rfl
 obtain⟨q1,q2,q3,q4,q5⟩:=fU (d:=d1) (nx:={ d1 with sure:=d1.now,loose:=[] }) rfl f1 g1;have w2:=fp w1;rw[hs] at w2;generalize hd2:(d1.step { d1 with sure:=d1.now,loose:=[] })=x2 at *;have s2:x2.1.sure=[de i]:=q2.1.trans a1;have l2:x2.1.loose=[]:=q2.2.1;have a2:x2.1.now=[de i]:=by unfold Dk.now;rw[s2,l2];rfl
 have e2:x2.1.f=d.f:=q2.2.2.1.trans b1;have r2:x2.1.room=R:=q2.2.2.2.trans r1;have n2:x2.1.down=false:=q3.trans n1;have Oh:i < x2.1.f.length:=by rw[e2,←b1];exact hi
 have fb:(x2.1.f.getD i default).b=b:=by rw[e2];exact h.file
 have A5:∃d3,cI b x2.1=(d3,0)∧d3.WF (n+1+1+1) m∧d3.down=false∧d3.aD = -1∧d3.aE = -1∧d3.sure=[de i]∧d3.loose=[]∧(d3.f.getD i default).b=c∧d3.room=R:=by
   have w3:=rZ w2 b;unfold cI at w3 ⊢;rw[p2] at w3 ⊢;cases c5:decide ((c.length:Int) < b.length)
   · rw[c5] at w3;have c5:=of_decide_eq_false c5;have:c=b:=by rw[←p3,List.take_of_length_le (by omega)]
     exact⟨x2.1,rfl,w3,n2,q4,q5,s2,l2,by rw[fb,this],r2⟩
   · rw[c5] at w3;have hcg:=V9 (d:=x2.1) (p:=az) (x:=de i) (n:=c.length) n2 jF (by rw[a2];exact getM i []) rfl (by show c.length≤(x2.1.f.getD i default).b.length;rw[fb];exact p4)
     dsimp only[cond_true] at w3 ⊢;rw[hcg] at w3 ⊢;obtain⟨u1,u2,u3,u4,u5⟩:=fU (d:=x2.1) (nx:={ x2.1 with f:=x2.1.f.set (de i).id ⟨(x2.1.f.getD (de i).id default).b.take c.length,min c.length (x2.1.f.getD (de i).id default).safe⟩ }) rfl q4 q5;refine⟨_,Prod.ext rfl u1,w3,u3.trans n2,u4,u5,u2.1.trans s2,u2.2.1.trans l2,?_,u2.2.2.2.trans r2⟩;rw[u2.2.2.1];dsimp only;rw[show (de i).id=i from rfl,eL Oh,fb];exact p3
 obtain⟨d3,t3,w3,n3,f3,g3,s3,l3,b3,r3⟩:=A5;have a3:d3.now=[de i]:=by unfold Dk.now;rw[s3,l3];rfl
 have hi3:i < d3.f.length:=(w3.ids (de i) (by rw[s3];simp)).2.1 rfl
 have hsy:=r7 (d:=d3) (p:=az) (x:=de i) n3 jF (by rw[a3];exact getM i []) rfl
 have w4:=kZ w3 az;rw[hsy] at w4;obtain⟨u1,u2,u3,u4,u5⟩:=fU (d:=d3) (nx:={ d3 with f:=d3.f.set (de i).id ⟨(d3.f.getD (de i).id default).b,(d3.f.getD (de i).id default).b.length⟩ }) rfl f3 g3;refine⟨_,c,?_,⟨w4.mono (by omega) (Nat.le_refl _),u3.trans n3,u2.1.trans s3,u2.2.1.trans l3,?_,u2.2.2.2.trans r3,hc⟩,u4,u5,p4⟩
 · unfold cL lP nT pe;rw[t1];dsimp only;rw[show ((0:Int) != 0)=false from rfl];dsimp only[cond_false];rw[hm,hr];dsimp only;rw[show ((0:Int) != 0)=false from rfl];dsimp only[cond_false];rw[hs,q1];rw[show ((0:Int) != 0)=false from rfl];dsimp only[cond_false];rw[t3];dsimp only;rw[show ((0:Int) != 0)=false from rfl];dsimp only[cond_false];rw[hsy,u1];rw[show ((0:Int) != 0)=false from rfl];dsimp only[cond_false];rw[p1,p2]
 · rw[u2.2.2.1];dsimp only;rw[show (de i).id=i from rfl,eL hi3,b3]
theorem wb{d:Dk}(hd:d.down=true)(p:List UInt8)(may:Fl→Int)(g:Fl→Fl):d.jv p may g=(d,11):=by
 unfold Dk.jv Dk.asked;rw[hd];simp
theorem Gz{n:Int}(h:n = -1):cV n = -1:=by rw[h];rfl
theorem zK{r:Rc}(h:cz r=0):(ft r).length≤520:=by
 obtain⟨n,e1,e2,e3,e4⟩:=lH h;have:=cW (n:Int);rw[e1,List.length_append,e2];omega
theorem Mj{r:Rc}(h:cz r=0):bX [r]=ft r:=by rw[gp h];simp[bX]
inductive Aa6 (R:Int) (d:Dk) (s:ek) (b:List UInt8) (i n m:Nat) (r:Rc) (D:Dk×Jn×Int):Prop
 | no (h1:D=(d,⟨s,b.length,false⟩,D.2.2)) (h2:D.2.2≠0) (h3:cz r≠0∨(bF s r).2=false)
 | ok (h1:D.2.2=0) (h2:cz r=0) (h3:(bF s r).2=true) (h4:Quiet R D.1 (bF s r).1 (b++ft r) i (n+3) (m+520)) (h5:D.2.1=⟨(bF s r).1,((b++ft r).length:Nat),false⟩) (h6:D.1.aE = -1) (h7:d.aD = -1→D.1.aD = -1)
 | dn (h1:D.2.2≠0) (h2:cz r=0) (h3:(bF s r).2=true) (h4:D.1.down=true) (h5:Cr R (m+520) D.1 fun t=>t=s∨t=(bF s r).1) (h6:D.1.WF (n+3) (m+520)) (h7:d.aD ≠ -1)
theorem IQ{R:Int}{d:Dk}{s:ek}{b:List UInt8}{i n m:Nat}(h:Quiet R d s b i n m)(hw:d.aE = -1)(r:Rc)(hr:cz r=0→(r.kind.toNat:Int)=0→r.sum.length=32)(pM:(b.length:Int)+520≤R):Aa6 R d s b i n m r (ou d ⟨s,b.length,false⟩ r):=by
 cases c1:cz r != 0
 case true =>
   have fR:cz r≠0:=by simpa using c1
   have e:ou d ⟨s,b.length,false⟩ r=(d,⟨s,b.length,false⟩,cz r):=by unfold ou;rw[c1];rfl
   rw[e];exact .no rfl fR (.inl fR)
 have fR:cz r=0:=by simpa using c1
 cases c2:(bF s r).2
 case false =>
   have e:ou d ⟨s,b.length,false⟩ r=(d,⟨s,b.length,false⟩,16):=by unfold ou;dsimp only;rw[c1,c2];rfl
   rw[e];exact .no rfl (show (16:Int)≠0 by decide) (.inr c2)
 have QA:uW r:=⟨fR,hr fR⟩;have hx:=zK fR;have hi:=h.lt;generalize Z0:ft r=x at *;have rA:=h.now;have hg:=getM i [];have ea:=vZ (d:=d) (p:=az) (b:=x) (x:=de i) h.dn jF (by rw[rA];exact hg) rfl (by rw[h.used,h.room];omega)
 have wa:=jk h.wf az x;have fa:(d.f.set (de i).id ⟨(d.f.getD (de i).id default).b++x,(d.f.getD (de i).id default).safe⟩)=d.f.set i ⟨b++x,b.length⟩:=by
   show d.f.set i ⟨(d.f.getD i default).b++x,(d.f.getD i default).safe⟩=_;rw[h.file]
 rw[fa] at ea;rw[ea] at wa;have Wa:=h.bm;have OX:(⟨b++x,b.length⟩:Fl).b.length≤m+520:=by show (b++x).length≤_;rw[List.length_append];omega
 have al:∀y∈d.f,y.b.length≤m+520:=fun y hy=>Nat.le_trans (h.wf.sz y hy).1 (by omega)
 have cut:∀z,b.length≤z→z≤(b++x).length→∃t,(t=s∨t=(bF s r).1)∧ug t ((b++x).take z):=fun z h1 h2=>by
   subst Z0;exact h.kK.cut QA c2 z h1 h2
 have snoc:fO (bF s r).1 (b++x):=by subst Z0;exact h.kK.snoc QA c2
 have crA:∀e:Dk,lN { d with f:=d.f.set i ⟨b++x,b.length⟩ } e→Cr R (m+520) e (fun t=>t=s∨t=(bF s r).1):=fun e c=>by
   refine Cr.of (d:={ d with f:=d.f.set i ⟨b++x,b.length⟩ }) ⟨h.room,uh al i OX,fun k=>⟨i,.inl ?_,fun z h1 h2=>?_⟩⟩ c
   · show br d.sure (d.loose.take k)=_;rw[h.loose,h.sure,List.take_nil];rfl
   · dsimp only at h1 h2 ⊢;rw[eL hi] at h1 h2 ⊢;exact cut z h1 h2
 have crD:∀e:Dk,lN d e→Cr R (m+520) e (fun t=>t=s∨t=(bF s r).1):=fun e c=>(Cr.of (d:=d) ⟨h.room,al,(h.cr (.inl rfl)).2.2⟩ c);generalize hA:d.step { d with f:=d.f.set i ⟨b++x,b.length⟩ }=A at ea wa;have hAc:=fy d { d with f:=d.f.set i ⟨b++x,b.length⟩ } rfl;rw[hA] at hAc;have AdH:bX [r]=x:=by rw[Mj fR,Z0]
 have hD:ou d ⟨s,b.length,false⟩ r=bif (kI d x).2 != 0 then (((kI d x).1.cut az b.length).1,⟨s,b.length,((kI d x).1.cut az b.length).2 != 0⟩,(kI d x).2) else ((kI d x).1,⟨(bF s r).1,b.length+x.length,false⟩,0):=by
   unfold ou;dsimp only;rw[c1,c2,AdH];rfl
 rcases hAc with⟨q1,q2,q3,q4,q5,q6,q7⟩ | ⟨q1,q2,q3,q4⟩ | ⟨q1,q2,q3,_⟩
 ·
   have aS:kI d x=A.1.sync az:=by unfold kI;rw[ea,q1];rfl
   have s1:A.1.sure=[de i]:=q4.1.trans h.sure;have l1:A.1.loose=[]:=q4.2.1.trans h.loose;have AdI:A.1.now=[de i]:=by unfold Dk.now;rw[s1,l1];rfl
   have n1:A.1.down=false:=q5.trans h.dn;have Lq:i < A.1.f.length:=by rw[q4.2.2.1];simpa using hi
   have es:=r7 (d:=A.1) (p:=az) (x:=de i) n1 jF (by rw[AdI];exact hg) rfl
   have f1:A.1.f.getD i default=⟨b++x,b.length⟩:=by rw[q4.2.2.1];exact eL hi _
   have fs:A.1.f.set (de i).id ⟨(A.1.f.getD (de i).id default).b,(A.1.f.getD (de i).id default).b.length⟩=A.1.f.set i ⟨b++x,(b++x).length⟩:=by
     show A.1.f.set i ⟨(A.1.f.getD i default).b,(A.1.f.getD i default).b.length⟩=_;rw[f1]
   rw[fs] at es;have ws:=kZ wa az;rw[es] at ws;have hBc:=fy A.1 { A.1 with f:=A.1.f.set i ⟨b++x,(b++x).length⟩ } rfl;generalize hB:A.1.step { A.1 with f:=A.1.f.set i ⟨b++x,(b++x).length⟩ }=Z at es ws hBc;rw[aS,es] at hD;have crZ:∀e:Dk,lN { A.1 with f:=A.1.f.set i ⟨b++x,(b++x).length⟩ } e→Cr R (m+520) e (fun t=>t=s∨t=(bF s r).1):=fun e c=>by
     refine Cr.of (d:={ A.1 with f:=A.1.f.set i ⟨b++x,(b++x).length⟩ }) ⟨q4.2.2.2.trans h.room,uh (by rw[q4.2.2.1];exact uh al i OX) i OX,fun k=>?_⟩ c
     show AT (A.1.f.set i ⟨b++x,(b++x).length⟩) (br A.1.sure (A.1.loose.take k)) _;rw[l1,s1,List.take_nil];exact AT.one (eL Lq _) snoc (.inr rfl) (.inl rfl)
   rcases hBc with⟨u1,u2,u3,u4,u5,u6,u7⟩ | ⟨u1,u2,u3,u4⟩ | ⟨u1,u2,u3,_⟩
   · rw[u1] at hD;rw[hD];refine .ok rfl fR c2 ⟨ws.mono (by omega) (by omega),u5.trans n1,u4.1.trans s1,u4.2.1.trans l1,?_,u4.2.2.2.trans (q4.2.2.2.trans h.room),by rw[Z0];exact snoc⟩ ?_ ?_ ?_
     · rw[Z0];show Z.1.f.getD i default=_;rw[u4.2.2.1];exact eL Lq _
     · rw[Z0];show (⟨(bF s r).1,(b.length:Int)+x.length,false⟩:Jn)=_;rw[List.length_append];simp
     · show Z.1.aE = -1;rw[u7,q7,hw];rfl
     · intro hf;show Z.1.aD = -1;rw[u6,q6,hf];rfl
   · rw[u1] at hD;have hc:Z.1.cut az b.length=(Z.1,11):=wb u3 _ _ _;rw[hc] at hD;rw[hD];refine .dn (show (11:Int)≠0 by decide) fR c2 u3 ?_ (ws.mono (by omega) (by omega)) ?_
     · rcases u4 with u4 | u4
       · refine crA _ ⟨u4.1.trans q4.1,u4.2.1.trans q4.2.1,u4.2.2.1.trans q4.2.2.1,u4.2.2.2.trans q4.2.2.2⟩
       · exact crZ _ u4
     · intro hf;rw[q6,hf] at u2;exact absurd u2 (by decide)
   · rw[q7,hw] at u3;exact absurd u3 (by decide)
 · have aS:kI d x=A:=by unfold kI;rw[ea,q1];rfl
   rw[aS,q1] at hD;have hc:A.1.cut az b.length=(A.1,11):=wb q3 _ _ _;rw[hc] at hD;rw[hD];refine .dn (show (11:Int)≠0 by decide) fR c2 q3 ?_ (wa.mono (by omega) (by omega)) ?_
   · rcases q4 with q4 | q4
     · exact crD _ q4
     · exact crA _ q4
   · intro hf;rw[hf] at q2;cases q2
 · rw[hw] at q3;exact absurd q3 (by decide)
def Kp(d e:Dk):Prop:=(d.aD = -1→e.aD = -1)∧(d.aE = -1→e.aE = -1)
theorem Kp.trans{d e f:Dk}(h:Kp d e)(k:Kp e f):Kp d f:=⟨fun x=>k.1 (h.1 x),fun x=>k.2 (h.2 x)⟩
theorem Kp.tick{d e:Dk}(h1:e.aD=cV d.aD)(h2:e.aE=cV d.aE):Kp d e:=⟨fun x=>by rw[h1];exact Gz x,fun x=>by rw[h2];exact Gz x⟩
structure Ad (R:Int) (m:Nat) (d:Dk) (s:ek) (b:List UInt8) (i j:Nat) (x:List UInt8) (sf:Nat):Prop where
 dn:d.down=false
 sure:d.sure=[de i]
 loose:d.loose=[.mk (gS j)]
 file:d.f.getD i default=⟨b,b.length⟩
 fj:d.f.getD j default=⟨x,sf⟩
 li:i < d.f.length
 lj:j < d.f.length
 ne:j≠i
 room:d.room=R
 kK:fO s b
 al:∀y∈d.f,y.b.length≤m
theorem Ad.now{R:Int}{m:Nat}{d:Dk}{s:ek}{b:List UInt8}{i j:Nat}{x:List UInt8}{sf:Nat}(h:Ad R m d s b i j x sf):d.now=[de i,gS j]:=by
 unfold Dk.now;rw[h.sure,h.loose];exact ow i j
theorem Ad.used{R:Int}{m:Nat}{d:Dk}{s:ek}{b:List UInt8}{i j:Nat}{x:List UInt8}{sf:Nat}(h:Ad R m d s b i j x sf):d.used=b.length+x.length:=by
 unfold Dk.used;rw[h.now];have e:=h.file;have e2:=h.fj;simp only[de,gS,List.map_cons,List.map_nil,List.sum_cons,List.sum_nil,Bool.false_eq_true,if_false,e,e2,Nat.add_zero]
theorem Aa7{R:Int}{m:Nat}{d:Dk}{s:ek}{b:List UInt8}{i j:Nat}(h1:d.sure=[de i])(h2:d.loose=[.mk (gS j)])(h3:d.f.getD i default=⟨b,b.length⟩)(h4:j≠i)(h5:d.room=R)(h9:∀y∈d.f,y.b.length≤m)(h6:fO s b):Cr R m d fun t=>t=s:=by
 refine⟨h5,h9,fun k=>?_⟩;rw[h1,h2]
 match k with
 | 0=>exact AT.one (P:=fun t=>t=s) h3 h6 rfl (.inl rfl)
 | k+1=>exact AT.one (P:=fun t=>t=s) h3 h6 rfl (.inr ⟨j,h4,show br [de i] (List.take (k+1) [di.mk (gS j)])=_ by rw[List.take_succ_cons,List.take_nil];exact ow i j⟩)
theorem Ad.cr{R:Int}{m:Nat}{d:Dk}{s:ek}{b:List UInt8}{i j:Nat}{x:List UInt8}{sf:Nat}(h:Ad R m d s b i j x sf):Cr R m d fun t=>t=s:=Aa7 h.sure h.loose h.file h.ne h.room h.al h.kK
theorem Aa8{R:Int}{m:Nat}{d:Dk}{s:ek}{b:List UInt8}{i j:Nat}(h1:d.sure=[de i])(h2:d.loose=[.mk (gS j),.rm (gS j)])(h3:d.f.getD i default=⟨b,b.length⟩)(h4:j≠i)(h5:d.room=R)(h9:∀y∈d.f,y.b.length≤m)(h6:fO s b):Cr R m d fun t=>t=s:=by
 refine⟨h5,h9,fun k=>?_⟩;rw[h1,h2]
 match k with
 | 0=>exact AT.one (P:=fun t=>t=s) h3 h6 rfl (.inl rfl)
 | 1=>exact AT.one (P:=fun t=>t=s) h3 h6 rfl (.inr ⟨j,h4,ow i j⟩)
 | k+2 =>
   refine AT.one (P:=fun t=>t=s) h3 h6 rfl (.inl ?_);rw[List.take_succ_cons,List.take_succ_cons,List.take_nil,br,List.foldl_cons,List.foldl_cons,List.foldl_nil,ow,Md]
theorem QF{R:Int}{m:Nat}{d:Dk}{s:ek}{b x:List UInt8}{i j:Nat}(h1:d.sure=[de i])(h2:d.loose=[.mk (gS j),.mv (gS j) (some (de i)) az])(h3:d.f.getD i default=⟨b,b.length⟩)(hj:d.f.getD j default=⟨x,x.length⟩)(h4:j≠i)(h5:d.room=R)(h9:∀y∈d.f,y.b.length≤m)(h6:fO s b)(h7:fO s x):Cr R m d fun t=>t=s:=by
 refine⟨h5,h9,fun k=>?_⟩;rw[h1,h2]
 match k with
 | 0=>exact AT.one (P:=fun t=>t=s) h3 h6 rfl (.inl rfl)
 | 1=>exact AT.one (P:=fun t=>t=s) h3 h6 rfl (.inr ⟨j,h4,ow i j⟩)
 | k+2 =>
   refine AT.one (P:=fun t=>t=s) hj h7 rfl (.inl ?_);rw[List.take_succ_cons,List.take_succ_cons,List.take_nil,br,List.foldl_cons,List.foldl_cons,List.foldl_nil,ow,Me]
theorem Ad.rm{R:Int}{m:Nat}{d:Dk}{s:ek}{b:List UInt8}{i j:Nat}{x:List UInt8}{sf:Nat}(h:Ad R m d s b i j x sf):Cr R m (d.remove aT).1 fun t=>t=s:=by
 rw[v7 h.dn h.now];refine h.cr.step (Aa8 (i:=i) (j:=j) h.sure ?_ h.file h.ne h.room h.al h.kK) rfl;show d.loose++[.rm (gS j)]=_;rw[h.loose];rfl
theorem Ad.of{R:Int}{m:Nat}{d e:Dk}{s:ek}{b:List UInt8}{i j:Nat}{x:List UInt8}{sf:Nat}(h:Ad R m d s b i j x sf)(c:lN d e)(hd:e.down=false):Ad R m e s b i j x sf:=
 ⟨hd,c.1.trans h.sure,c.2.1.trans h.loose,by rw[c.2.2.1];exact h.file,by rw[c.2.2.1];exact h.fj,by rw[c.2.2.1];exact h.li,by rw[c.2.2.1];exact h.lj,h.ne,c.2.2.2.trans h.room,h.kK,by rw[c.2.2.1];exact h.al⟩
def QG(R:Int)(m:Nat)(d:Dk)(s:ek)(D:Dk×Int):Prop:=D.2≠0∧(Cr R m (D.1.remove aT).1 fun t=>t=s)∧(D.2=11∧D.1.down=true∧d.aD ≠ -1∨D.2=12∧d.aE ≠ -1)
theorem QG.of{R:Int}{m:Nat}{d e:Dk}{s:ek}{D:Dk×Int}(h:QG R m e s D)(k:Kp d e):QG R m d s D:=by
 obtain⟨h1,h2,h3⟩:=h;refine⟨h1,h2,?_⟩;rcases h3 with⟨a,b,c⟩ | ⟨a,c⟩
 · exact .inl ⟨a,b,fun x=>c (k.1 x)⟩
 · exact .inr ⟨a,fun x=>c (k.2 x)⟩
theorem r8{R:Int}{m:Nat}{d nx:Dk}{s:ek}(hr:nx.room=d.room)(hdn:d.down=false)(Qi:nx.down=false)(hd:∀e,lN d e→e.down=false→Cr R m (e.remove aT).1 fun t=>t=s)(cd:Cr R m d fun t=>t=s)(cn:Cr R m nx fun t=>t=s) :
   QG R m d s (d.step nx)∨((d.step nx).2=0∧lN nx (d.step nx).1∧(d.step nx).1.down=false∧Kp d (d.step nx).1):=by
 rcases fy d nx hr with⟨q1,q2,q3,q4,q5,q6,q7⟩ | ⟨q1,q2,q3,q4⟩ | ⟨q1,q2,q3,q4,q5,q6,q7⟩
 · exact .inr ⟨q1,q4,q5.trans Qi,Kp.tick q6 q7⟩
 · refine .inl ⟨by rw[q1];decide,?_,.inl ⟨q1,q3,fun h=>by rw[h] at q2;cases q2⟩⟩
   rw[ri q3];rcases q4 with q4 | q4
   · exact cd.of q4
   · exact cn.of q4
 · exact .inl ⟨by rw[q1];decide,hd _ q4 (q5.trans hdn),.inr ⟨q1,fun h=>by rw[h] at q3;cases q3⟩⟩
theorem Wb{R:Int}{d:Dk}{s:ek}{b:List UInt8}{i n m:Nat}(h:Quiet R d s b i n m):QG R m d s (nF d)∨((nF d).2=0∧(∃j,Ad R m (nF d).1 s b i j [] 0)∧Kp d (nF d).1):=by
 have rA:=h.now;have hi:=h.lt;have e:nF d=d.step (Dk.lT { d with f:=d.f++[⟨[],0⟩] } (.mk ⟨aT,false,d.f.length⟩)):=by
   unfold nF;rw[v8 rA];rw[show ((0:Int) != 0)=false from rfl];exact Mf h.dn jo vY (by rw[rA];exact QE i)
 have CL:Ad R m (Dk.lT { d with f:=d.f++[⟨[],0⟩] } (.mk ⟨aT,false,d.f.length⟩)) s b i d.f.length [] 0:=by
   refine⟨h.dn,h.sure,?_,?_,?_,?_,?_,by omega,h.room,h.kK,?_⟩
   · show d.loose++[.mk (gS d.f.length)]=_;rw[h.loose];rfl
   · show (d.f++[(⟨[],0⟩:Fl)]).getD i default=_;rw[Mh hi];exact h.file
   · exact vT d.f _
   · show i < (d.f++[_]).length;simp;omega
   · show d.f.length < (d.f++[_]).length;simp
   · exact OW fun y hy=>(h.wf.sz y hy).1
 rw[e];rcases r8 (R:=R) (d:=d) (s:=s) (nx:=Dk.lT { d with f:=d.f++[⟨[],0⟩] } (.mk ⟨aT,false,d.f.length⟩)) rfl h.dn CL.dn (fun e c hd=>by
   have:e.now=[de i]:=(xG c).trans rA;rw[Aa hd this];exact(h.cr (P:=fun t=>t=s) rfl).of c) (h.cr (P:=fun t=>t=s) rfl) CL.cr with h1 | ⟨h1,h2,h3,h4⟩
 · exact .inl h1
 · exact .inr ⟨h1,⟨_,CL.of h2 h3⟩,h4⟩
theorem Wc{R:Int}{d:Dk}{s:ek}{b:List UInt8}{i n m:Nat}(h:Quiet R d s b i n m)(x:List UInt8)(pM:(b.length:Int)+x.length≤R)(QH:x.length≤m):QG R m d s (oA d x)∨((oA d x).2=0∧(∃j,Ad R m (oA d x).1 s b i j x 0)∧Kp d (oA d x).1):=by
 rcases Wb h with h1 | ⟨h1,⟨j,h2⟩,h3⟩
 · have e:oA d x=nF d:=by unfold oA;rw[show ((nF d).2 != 0)=true by simpa using h1.1];rfl
   rw[e];exact .inl h1
 · have e:oA d x=(nF d).1.append aT x:=by unfold oA;rw[h1];rfl
   generalize (nF d).1=c at *;have ea:=vZ (d:=c) (p:=aT) (b:=x) (x:=gS j) h2.dn jo (by rw[h2.now];exact Mc i j) rfl (by rw[h2.used,h2.room];simp;omega)
   have ef:c.f.set (gS j).id ⟨(c.f.getD (gS j).id default).b++x,(c.f.getD (gS j).id default).safe⟩=c.f.set j ⟨x,0⟩:=by
     show c.f.set j ⟨(c.f.getD j default).b++x,(c.f.getD j default).safe⟩=_;rw[h2.fj];rfl
   rw[ef] at ea;have CL:Ad R m { c with f:=c.f.set j ⟨x,0⟩ } s b i j x 0:=⟨h2.dn,h2.sure,h2.loose,by show (c.f.set j _).getD i default=_;rw[getD_set_ne h2.ne];exact h2.file,eL h2.lj _,by show i < (c.f.set j _).length;simpa using h2.li,by show j < (c.f.set j _).length;simpa using h2.lj,h2.ne,h2.room,h2.kK,uh h2.al j QH⟩
   rw[e,ea];rcases r8 (R:=R) (d:=c) (s:=s) (nx:={ c with f:=c.f.set j ⟨x,0⟩ }) rfl h2.dn CL.dn (fun e c hd=>(h2.of c hd).rm) h2.cr CL.cr with g1 | ⟨g1,g2,g3,g4⟩
   · exact .inl (g1.of h3)
   · exact .inr ⟨g1,⟨_,CL.of g2 g3⟩,h3.trans g4⟩
theorem Wd{R:Int}{d:Dk}{s:ek}{b:List UInt8}{i n m:Nat}(h:Quiet R d s b i n m)(x:List UInt8)(pM:(b.length:Int)+x.length≤R)(QH:x.length≤m):QG R m d s (pg d x)∨((pg d x).2=0∧(∃j,Ad R m (pg d x).1 s b i j x x.length)∧Kp d (pg d x).1):=by
 rcases Wc h x pM QH with h1 | ⟨h1,⟨j,h2⟩,h3⟩
 · have e:pg d x=oA d x:=by unfold pg;rw[show ((oA d x).2 != 0)=true by simpa using h1.1];rfl
   rw[e];exact .inl h1
 · have e:pg d x=(oA d x).1.sync aT:=by unfold pg;rw[h1];rfl
   generalize (oA d x).1=c at *;have ea:=r7 (d:=c) (p:=aT) (x:=gS j) h2.dn jo (by rw[h2.now];exact Mc i j) rfl
   have ef:c.f.set (gS j).id ⟨(c.f.getD (gS j).id default).b,(c.f.getD (gS j).id default).b.length⟩=c.f.set j ⟨x,x.length⟩:=by
     show c.f.set j ⟨(c.f.getD j default).b,(c.f.getD j default).b.length⟩=_;rw[h2.fj]
   rw[ef] at ea;have CL:Ad R m { c with f:=c.f.set j ⟨x,x.length⟩ } s b i j x x.length:=⟨h2.dn,h2.sure,h2.loose,by show (c.f.set j _).getD i default=_;rw[getD_set_ne h2.ne];exact h2.file,eL h2.lj _,by show i < (c.f.set j _).length;simpa using h2.li,by show j < (c.f.set j _).length;simpa using h2.lj,h2.ne,h2.room,h2.kK,uh h2.al j QH⟩
   rw[e,ea];rcases r8 (R:=R) (d:=c) (s:=s) (nx:={ c with f:=c.f.set j ⟨x,x.length⟩ }) rfl h2.dn CL.dn (fun e c hd=>(h2.of c hd).rm) h2.cr CL.cr with g1 | ⟨g1,g2,g3,g4⟩
   · exact .inl (g1.of h3)
   · exact .inr ⟨g1,⟨_,CL.of g2 g3⟩,h3.trans g4⟩
structure Mvd (R:Int) (m:Nat) (d:Dk) (s:ek) (b:List UInt8) (i j:Nat) (x:List UInt8):Prop where
 dn:d.down=false
 sure:d.sure=[de i]
 loose:d.loose=[.mk (gS j),.mv (gS j) (some (de i)) az]
 file:d.f.getD i default=⟨b,b.length⟩
 fj:d.f.getD j default=⟨x,x.length⟩
 ne:j≠i
 room:d.room=R
 al:∀y∈d.f,y.b.length≤m
theorem Mvd.now{R:Int}{m:Nat}{d:Dk}{s:ek}{b:List UInt8}{i j:Nat}{x:List UInt8}(h:Mvd R m d s b i j x):d.now=[de j]:=by
 unfold Dk.now;rw[h.sure,h.loose,br,List.foldl_cons,List.foldl_cons,List.foldl_nil,ow,Me]
theorem We{R:Int}{d:Dk}{s:ek}{b:List UInt8}{i n m:Nat}(h:Quiet R d s b i n m)(x:List UInt8)(hx:fO s x)(pM:(b.length:Int)+x.length≤R)(QH:x.length≤m):QG R m d s (pH d x)∨((pH d x).2=0∧(∃j,Mvd R m (pH d x).1 s b i j x)∧Kp d (pH d x).1):=by
 rcases Wd h x pM QH with h1 | ⟨h1,⟨j,h2⟩,h3⟩
 · have e:pH d x=pg d x:=by unfold pH;rw[show ((pg d x).2 != 0)=true by simpa using h1.1];rfl
   rw[e];exact .inl h1
 · have e:pH d x=(pg d x).1.rename aT az:=by unfold pH;rw[h1];rfl
   generalize (pg d x).1=c at *;have ea:=I5 (d:=c) h2.dn h2.now;have hl:(c.lT (.mv (gS j) (some (de i)) az)).loose=[.mk (gS j),.mv (gS j) (some (de i)) az]:=by
     show c.loose++[_]=_;rw[h2.loose];rfl
   have CL:Cr R m (c.lT (.mv (gS j) (some (de i)) az)) fun t=>t=s:=QF (x:=x) h2.sure hl h2.file h2.fj h2.ne h2.room h2.al h2.kK hx;rw[e,ea];rcases r8 (R:=R) (d:=c) (s:=s) rfl h2.dn (nx:=c.lT (.mv (gS j) (some (de i)) az)) h2.dn (fun e c hd=>(h2.of c hd).rm) h2.cr CL with g1 | ⟨g1,g2,g3,g4⟩
   · exact .inl (g1.of h3)
   · exact .inr ⟨g1,⟨j,g3,g2.1.trans h2.sure,g2.2.1.trans hl,by rw[g2.2.2.1];exact h2.file,by rw[g2.2.2.1];exact h2.fj,h2.ne,g2.2.2.2.trans h2.room,by rw[g2.2.2.1];exact h2.al⟩,h3.trans g4⟩
structure Aa9 (R:Int) (d:Dk) (s:ek) (x:List UInt8) (n m:Nat) (D:Dk×Jn×Int):Prop where
 st:D.2.1.s=s
 cr:Cr R m D.1 fun t=>t=s
 wf:D.1.WF (n+8) m
 go:(D.2.2=0∧(∃i',Quiet R D.1 s x i' (n+8) m)∧D.2.1=⟨s,x.length,false⟩∧Kp d D.1)∨(D.2.2=11∧D.1.down=true∧d.aD ≠ -1)∨(D.2.2=12∧d.aE ≠ -1)
theorem B2{R:Int}{d:Dk}{s:ek}{b:List UInt8}{i n m:Nat}(h:Quiet R d s b i n m)(pM:(b.length:Int)+(bX (bD s)).length≤R)(QH:(bX (bD s)).length≤m)(hw4:∀x,(pH d x).1.WF (n+5) (m+x.length)):Aa9 R d s (bX (bD s)) n m (tT d ⟨s,b.length,false⟩):=by
 have hx:=Mi h.kK.st;have hD:tT d ⟨s,b.length,false⟩=bif (pH d (bX (bD s))).2 != 0 then (((pH d (bX (bD s))).1.remove aT).1,⟨s,b.length,false⟩,(pH d (bX (bD s))).2) else ((pH d (bX (bD s))).1.aM.1,⟨s,(bX (bD s)).length,(pH d (bX (bD s))).1.aM.2 != 0⟩,(pH d (bX (bD s))).1.aM.2):=rfl;have hw:=hw4 (bX (bD s));have h4:=We h (bX (bD s)) hx pM QH;generalize bX (bD s)=x at *;generalize hF:pH d x=F at *;rcases h4 with h1 | ⟨h1,⟨j,h2⟩,h3⟩
 · obtain⟨a1,a2,a3⟩:=h1;rw[show (F.2 != 0)=true by simpa using a1] at hD
   rw[hD];refine⟨rfl,a2,(Gy (pW hw aT) a2.2.1).mono (by omega) (Nat.le_refl _),?_⟩
   rcases a3 with⟨e1,e2,e3⟩ | ⟨e1,e3⟩
   · refine .inr (.inl ⟨e1,?_,e3⟩);show (F.1.remove aT).1.down=true;rw[ri e2];exact e2
   · exact .inr (.inr ⟨e1,e3⟩)
 · rw[h1] at hD;have hs:F.1.aM=F.1.step { F.1 with sure:=F.1.now,loose:=[] }:=by unfold Dk.aM;rw[if_neg (by rw[h2.dn];simp)]
   have hws:=fp hw;rw[hs] at hD hws;rw[hD];have cM:Cr R m F.1 fun t=>t=s:=QF (x:=x) h2.sure h2.loose h2.file h2.fj h2.ne h2.room h2.al h.kK hx;have cS:Cr R m { F.1 with sure:=F.1.now,loose:=[] } fun t=>t=s:=by
     refine⟨h2.room,h2.al,fun k=>?_⟩;show AT F.1.f (br F.1.now (List.take k [])) _;rw[List.take_nil,h2.now];exact AT.one (P:=fun t=>t=s) h2.fj hx rfl (.inl rfl)
   have cr2:=cM.step cS rfl;refine⟨rfl,cr2,(Gy hws cr2.2.1).mono (by omega) (Nat.le_refl _),?_⟩
   rcases fy F.1 { F.1 with sure:=F.1.now,loose:=[] } rfl with⟨q1,q2,q3,q4,q5,q6,q7⟩ | ⟨q1,q2,q3,q4⟩ | ⟨q1,q2,q3,q4,q5,q6,q7⟩
   · refine .inl ⟨q1,⟨j,⟨(Gy hws cr2.2.1).mono (by omega) (Nat.le_refl _),q5.trans h2.dn,q4.1.trans h2.now,q4.2.1,?_,q4.2.2.2.trans h2.room,hx⟩⟩,?_,h3.trans (Kp.tick q6 q7)⟩
     · show (F.1.step { F.1 with sure:=F.1.now,loose:=[] }).1.f.getD j default=_;rw[q4.2.2.1];exact h2.fj
     · show (⟨s,x.length,(F.1.step { F.1 with sure:=F.1.now,loose:=[] }).2 != 0⟩:Jn)=_;rw[q1];rfl
   · refine .inr (.inl ⟨q1,q3,fun e=>?_⟩);rw[h3.1 e] at q2;cases q2
   · refine .inr (.inr ⟨q1,fun e=>?_⟩);rw[h3.2 e] at q3;cases q3
theorem LU(k:Int)(R:Int)(hR:max 0 (min k 16777216)=R):∃d',cL (eD k)=(d',some ⟨z0,0,false⟩,0)∧Quiet R d' z0 [] 0 5 0∧d'.aD = -1∧d'.aE = -1:=by
 have w0:=wN k;have JA:(eD k).now=[]:=rfl;have ht:=Mg JA;have w1:=jU w0;rw[ht] at w1;have hr:(eD k).read az=([],8):=rfl;have hp:=Mf (d:=eD k) (p:=az) rfl jF uf rfl;obtain⟨q1,q2,q3,q4,q5⟩:=fU (d:=eD k) (nx:=Dk.lT { eD k with f:=(eD k).f++[⟨[],0⟩] } (.mk ⟨az,false,(eD k).f.length⟩)) rfl rfl rfl;have w2:=pV w1 az false;rw[hp] at w2;have hm:eX (eD k)=(eD k).step (Dk.lT { eD k with f:=(eD k).f++[⟨[],0⟩] } (.mk ⟨az,false,(eD k).f.length⟩)):=by
   unfold eX;rw[hr,hp];rfl
 generalize (eD k).step (Dk.lT { eD k with f:=(eD k).f++[⟨[],0⟩] } (.mk ⟨az,false,(eD k).f.length⟩))=y at *;have s1:y.1.sure=[]:=q2.1;have l1:y.1.loose=[.mk (de 0)]:=q2.2.1;have a1:y.1.now=[de 0]:=by unfold Dk.now;rw[s1,l1];exact OU 0
 have f1:y.1.f=[⟨[],0⟩]:=q2.2.2.1;have r1:y.1.room=R:=q2.2.2.2.trans hR;have n1:y.1.down=false:=q3;have hs:y.1.aM=y.1.step { y.1 with sure:=y.1.now,loose:=[] }:=by unfold Dk.aM;rw[if_neg (by rw[n1];simp)]
 obtain⟨p1,p2,p3,p4,p5⟩:=fU (d:=y.1) (nx:={ y.1 with sure:=y.1.now,loose:=[] }) rfl q4 q5;have w3:=fp w2;rw[hs] at w3;generalize hz:y.1.step { y.1 with sure:=y.1.now,loose:=[] }=z at *;have s2:z.1.sure=[de 0]:=p2.1.trans a1;have l2:z.1.loose=[]:=p2.2.1;have a2:z.1.now=[de 0]:=by unfold Dk.now;rw[s2,l2];rfl
 have f2:z.1.f=[⟨[],0⟩]:=p2.2.2.1.trans f1;have n2:z.1.down=false:=p3.trans n1;have hc:cI [] z.1=(z.1,0):=rfl;have hsy:=r7 (d:=z.1) (p:=az) (x:=de 0) n2 jF (by rw[a2];exact getM 0 []) rfl
 have w4:=kZ w3 az;rw[hsy] at w4;obtain⟨u1,u2,u3,u4,u5⟩:=fU (d:=z.1) (nx:={ z.1 with f:=z.1.f.set (de 0).id ⟨(z.1.f.getD (de 0).id default).b,(z.1.f.getD (de 0).id default).b.length⟩ }) rfl p4 p5;refine⟨_,?_,⟨w4.mono (by omega) (Nat.le_refl _),u3.trans n2,u2.1.trans s2,u2.2.1.trans l2,?_,u2.2.2.2.trans (p2.2.2.2.trans r1),OV⟩,u4,u5⟩
 · unfold cL lP nT pe;rw[ht];dsimp only;rw[show ((0:Int) != 0)=false from rfl];dsimp only[cond_false];rw[hm,hr];rw[q1];rw[show ((0:Int) != 0)=false from rfl];dsimp only[cond_false];rw[hs,p1];rw[show ((0:Int) != 0)=false from rfl];dsimp only[cond_false];rw[hc];dsimp only;rw[show ((0:Int) != 0)=false from rfl];dsimp only[cond_false];rw[hsy,u1];rfl
 · rw[u2.2.2.1];dsimp only;rw[show (de 0).id=0 from rfl,f2];rfl
theorem I0(b:List UInt8):iM b=aQ b:=by
 unfold iM aQ;cases c1:(ar b).2.2 != 0
 case true=>rfl
 cases c2:decide (512 < (ar b).1)
 case true=>rfl
 cases c3:decide ((b.length:Int) - (ar b).2.1 < (ar b).1)
 case true=>rfl
 cases c4:(cv (cj b)).2 != 0
 case true=>rfl
 have e1:(ar b).2.2=0:=by simpa using c1
 have c3:=of_decide_eq_false c3;have e4:(cv (cj b)).2=0:=by simpa using c4
 obtain⟨a1,a2,a3,a4,a5⟩:=lG b e1;have a6:=Gs (ar b).1;simp only[cond_false];unfold jT;cases c5:(cD (cv (cj b)).1).2.done==0
 · simp only[cond_false,Bool.false_and]
 · simp only[cond_true,Bool.true_and];have e5:(cD (cv (cj b)).1).2.done=0:=by simpa using c5
   obtain⟨b1,b2,b3⟩:=rh e5;unfold cY;cases c6:cz (cD (cv (cj b)).1).1 != 0
   · have e6:cz (cD (cv (cj b)).1).1=0:=by simpa using c6
     have e7:ft (cD (cv (cj b)).1).1=b.take ((ar b).2.1+(ar b).1).toNat:=by
       unfold ft eV;rw[b1,zY e4];have hp:(cj b).length=(ar b).1.toNat:=by
         unfold cj;rw[List.length_take,List.length_drop];omega
       have hn:((cj b).length:Int)=(ar b).1:=by rw[hp];omega
       rw[hn,a4];unfold cj;rw[show ((ar b).2.1+(ar b).1).toNat=(ar b).2.1.toNat+(ar b).1.toNat by omega,List.take_add]
     simp only[cond_false,cond_true,e6,e7,beq_self_eq_true,bne_self_eq_false]
   · have e6:cz (cD (cv (cj b)).1).1≠0:=by simpa using c6
     have e8:(cz (cD (cv (cj b)).1).1==0)=false:=by simpa using e6
     simp only[cond_false,cond_true,c6,e8]
theorem L0(b:List UInt8):scan iM b=scan aQ b:=by rw[show iM=aQ from funext I0]
theorem I1{b:List UInt8}(h:(aQ b).2.2=0):uW (aQ b).1:=by
 refine⟨ub h,?_⟩;unfold aQ at h ⊢;cases c1:(ar b).2.2 != 0
 · cases c2:decide (512 < (ar b).1)
   · cases c3:decide ((b.length:Int) - (ar b).2.1 < (ar b).1)
     · rw[c1,c2,c3] at h;cases c4:(cv (cj b)).2 != 0
       · rw[c4] at h;cases c5:(jT (cv (cj b)).1).2
         · rw[c5] at h;cases h
         · unfold jT at c5 ⊢;simp only[Bool.and_eq_true,beq_iff_eq] at c5;exact(rh c5.1).2.1
       · rw[c4] at h;cases h
     · rw[c1,c2,c3] at h;cases h
   · rw[c1,c2] at h;cases h
 · rw[c1] at h;have:(ar b).2.2=0:=h;rw[this] at c1;cases c1
theorem FY(b:List UInt8):∀r∈(scan aQ b).1,uW r:=qm (fun b h=>I1 h) _ b
theorem ON{d e:Dk}(c1:e.now=d.now)(c2:e.f=d.f)(c3:e.down=d.down)(p:List UInt8):e.read p=d.read p:=by unfold Dk.read;rw[c1,c2,c3]
theorem I2{d:Dk}(h:d.aM.2=0)(p:List UInt8):d.aM.1.read p=d.read p:=by
 unfold Dk.aM at h ⊢
 by_cases hd:d.down=true
 · rw[if_pos hd] at h;cases h
 · rw[if_neg hd] at h ⊢;rcases fy d { d with sure:=d.now,loose:=[] } rfl with⟨_,_,_,c,c2,_⟩ | ⟨e,_⟩ | ⟨e,_⟩
   · exact ON (d:=d) ((xG c).trans rfl) c.2.2.1 c2 p
   · rw[h] at e;cases e
   · rw[h] at e;cases e
theorem L4{d:Dk}{n m:Nat}(hw:d.WF n m)(h:(d.put az false).2=0):((d.put az false).1.read az).1=[]:=by
 have IX:=pV hw az false;unfold Dk.put at h IX ⊢
 by_cases h1:d.asked az≠0
 · rw[if_pos h1] at h;exact absurd h h1
 rw[if_neg h1] at h IX ⊢
 by_cases h2:iG d.now az≠0
 · rw[if_pos h2] at h;exact absurd h h2
 rw[if_neg h2] at h IX ⊢
 by_cases h3:(bG d.now az).isSome=true
 · rw[if_pos h3] at h;cases h
 rw[if_neg h3] at h IX ⊢;rcases fy d (Dk.lT { d with f:=if false=true then d.f else d.f++[⟨[],0⟩] } (.mk ⟨az,false,if false=true then 0 else d.f.length⟩)) rfl with⟨_,_,_,c,c2,_⟩ | ⟨e,_⟩ | ⟨e,_⟩
 · have hd:d.down=false:=by
     cases hd:d.down
     · rfl
     · exact absurd (show d.asked az≠0 by unfold Dk.asked;rw[hd];decide) h1
   have hn:=xG c;have hm:(⟨az,false,d.f.length⟩:Nm)∈(d.step (Dk.lT { d with f:=if false=true then d.f else d.f++[⟨[],0⟩] } (.mk ⟨az,false,if false=true then 0 else d.f.length⟩))).1.now:=by
     rw[hn];show _∈br d.sure (d.loose++[_]);rw[ma];exact sO.mpr (.inl (by simp[di.cN]))
   rw[Gt (c2.trans hd) (mX IX.eh.nd hm) rfl,c.2.2.1];show ((d.f++[(⟨[],0⟩:Fl)]).getD d.f.length default).b=[];rw[vT]
 · rw[h] at e;cases e
 · rw[h] at e;cases e
theorem L5{d:Dk}{p:List UInt8}(h:(d.read p).2≠0):(d.read p).1=[]:=by
 unfold Dk.read at h ⊢;split
 · rfl
 split
 · rfl
 · next h1 h2=>rw[if_neg h1,if_neg h2] at h;exact absurd rfl h
theorem OP{d:Dk}{n m:Nat}(hw:d.WF n m)(h:(eX d).2=0):((eX d).1.read az).1=(d.read az).1:=by
 unfold eX at h ⊢;cases c:(d.read az).2==8
 · rfl
 · rw[c] at h;have e:(d.read az).1=[]:=L5 (by rw[beq_iff_eq] at c;rw[c];decide)
   rw[e];exact L4 hw h
theorem B3{d:Dk}{n m:Nat}(hw:d.WF n m)(h:(eX d).2=0)(h2:(eX d).1.aM.2=0):((eX d).1.aM.1.read az).1=(d.read az).1:=by
 rw[I2 h2];exact OP hw h
end Sm
