/-
  H,I,J,L,O,M
-/
import Derived.Test.YtegmmhldpmmkeaaGreatDoorSmLB
import Derived.Laws.StructEq
set_option linter.unusedVariables false
set_option linter.unusedSimpArgs false
set_option linter.unnecessarySimpa false
namespace Sm
open Go
theorem vv{ν K w sz}:∀(l:Nat) {es:List HV} {aR:List Value},aC ν K w es aR→es.all HV.el=true→(∀e∈es,e.aN=sz)→flat (aR.drop l)=(flat aR).drop (l*sz)
 | 0,es,aR,_,_,_=>by simp
 | l+1,[],aR,h,_,_=>by simp[aC] at h;subst h;simp[flat]
 | l+1,g::es,aR,hr,ha,hs=>by
   obtain⟨u,dr,rfl,h1,h2⟩:=hr;simp only[List.all_cons,Bool.and_eq_true] at ha;have da:=cF ha.1 h1;have hg:=hs g (by simp)
   have ih:=vv l h2 ha.2 (fun e he=>hs e (by simp[he]))
   have hl:u.cells.toList.length=sz:=by rw[Array.length_toList,da,hg]
   simp only[List.drop_succ_cons,ih];simp only[flat,List.flatMap_cons];have e0:u.cells.toList.drop ((l+1)*sz)=[]:=List.drop_eq_nil_of_le (by rw[hl,Nat.add_mul];omega)
   rw[List.drop_append,e0,hl];simp[show (l+1)*sz - sz=l*sz by rw[Nat.add_mul];omega]
theorem vz{ν K w sz}:∀(l:Nat) {es:List HV} {aR:List Value},aC ν K w es aR→es.all HV.el=true→(∀e∈es,e.aN=sz)→flat (aR.take l)=(flat aR).take (l*sz)
 | 0,es,aR,_,_,_=>by simp[flat]
 | l+1,[],aR,h,_,_=>by simp[aC] at h;subst h;simp[flat]
 | l+1,g::es,aR,hr,ha,hs=>by
   obtain⟨u,dr,rfl,h1,h2⟩:=hr;simp only[List.all_cons,Bool.and_eq_true] at ha;have da:=cF ha.1 h1;have hg:=hs g (by simp)
   have ih:=vz l h2 ha.2 (fun e he=>hs e (by simp[he]))
   have hl:u.cells.toList.length=sz:=by rw[Array.length_toList,da,hg]
   simp only[flat,List.take_succ_cons,List.flatMap_cons] at ih ⊢;have e0:u.cells.toList.take ((l+1)*sz)=u.cells.toList:=List.take_of_length_le (by rw[hl,Nat.add_mul];omega)
   rw[ih,List.take_append,e0,hl];simp[show (l+1)*sz - sz=l*sz by rw[Nat.add_mul];omega]
theorem rH{p:HV→Bool}{es:List HV}(h:es.all p=true)(l n:Nat):((es.drop l).take n).all p=true:=by
 rw[List.all_eq_true] at h ⊢;exact fun z hz=>h z (List.mem_of_mem_drop (List.mem_of_mem_take hz))
theorem vA{ν K w sz}{tk fC:Tk}{es:List HV}{A:Option Addr}{cap:Nat}{l h KV:Nat}{A':Option Addr}(hr:rep ν K w (.sl tk sz es) (.slice A es.length cap))(hlh:l≤h)(hh:h≤es.length)
   (hA:l < h→A'=A.map fun x=>x.add (l*sz)) (hc:h - l≤KV) (hm:KV≤cap) (JB:sE fC A' (h - l) KV) :
   rep ν K w (.sl fC sz ((es.drop l).take (h - l))) (.slice A' (h - l) KV):=by
 simp only[rep] at hr ⊢;obtain⟨A1,Ad8,aR,g1,g2,g3,g4,g5,g6,g7,g8⟩:=hr;simp only[Value.slice.injEq] at g1;obtain⟨rfl,_,rfl⟩:=g1;have hlen:((es.drop l).take (h - l)).length=h - l:=by rw[List.length_take,List.length_drop];omega
 refine⟨A',KV,(aR.drop l).take (h - l),by rw[hlen],by omega,by omega,by rw[hlen];exact JB,rH g5 l _,fun e he=>g6 e (List.mem_of_mem_drop (List.mem_of_mem_take he)),cB _ (cC _ g7),?_⟩
 by_cases bN:l < h
 · right;rcases g8 with g8 | ⟨b,off,hA1,hK,dW⟩;{subst g8;simp at hh;omega}
   · subst hA1;refine⟨b,off+l*sz,by rw[hA bN];simp[cZ],?_,?_⟩
     · rw[hlen,Nat.add_assoc,←Nat.add_mul,show l+(h - l)=h by omega]
       exact Nat.le_trans (Nat.add_le_add_left (Nat.mul_le_mul_right _ hh) _) hK
     · rw[vz _ (cC l g7) (by rw[List.all_eq_true] at g5 ⊢;exact fun z hz=>g5 z (List.mem_of_mem_drop hz)) (fun e he=>g6 e (List.mem_of_mem_drop he)),vv l g7 g5 g6]
       exact bl (dL dW _) _
 · left;rw[show h - l=0 by omega];simp
section
variable {P:Program} {D:List (Nat×List HV)} {ν:Nat→Option Nat} {w0:World} {K0:Nat→Nat} {H0:ab} {N:Nat} {e:Env} {H:ab} {a:Act} {w:World} {K μ:Nat→Nat} {o:Oper}
theorem qU{lo hi:Option Value}{mx:Value}{len cap:Nat}{l h:Int}{k:IntKind}(hl:match lo with | some (.int _ n)=>n=l | none=>l=0 | _=>False)
   (hh:match hi with | some (.int _ n)=>n=h | none=>False | _=>False) (h0:0≤l) (h1:l≤h) (h2:h≤cap) :
   (Instr.sliceBounds true len cap lo hi (some (.int k h))).run P w = .ok (l.toNat,h.toNat,h.toNat) w:=by
 have hb:∀(k:IntKind) (n:Int) (y:Nat) (code:BoundsCode),0≤n→n≤y→(Instr.sliceBound (.int k n) y code).run P w = .ok n.toNat w:=fun k n y c a b=>jd k n y c a b;unfold Instr.sliceBounds;rcases hi with _ | hi;{exact hh.elim};cases hi<;>simp only at hh;rename_i k1 n1;subst hh;have yB:=fun c=>hb k n1 cap c (by omega) h2
 have lL:=fun c=>hb k1 n1 n1.toNat c (by omega) (by omega)
 rcases lo with _ | lo;{simp only at hl;subst hl;simp[yB,lL]}
 · cases lo<;>simp only at hl;rename_i k2 n2;subst hl;have A7:=fun c=>hb k2 n2 n1.toNat c h0 (by omega)
   simp[yB,lL,A7]
theorem yR{lo hi:Option Value}{len cap:Nat}{l h:Int}(hl:match lo with | some (.int _ n)=>n=l | none=>l=0 | _=>False)
   (hh:match hi with | some (.int _ n)=>n=h | none=>h=len | _=>False) (h0:0≤l) (h1:l≤h) (h2:h≤cap) :
   (Instr.sliceBounds true len cap lo hi none).run P w = .ok (l.toNat,h.toNat,cap) w:=by
 have hb:∀(k:IntKind) (n:Int) (y:Nat) (code:BoundsCode),0≤n→n≤y→(Instr.sliceBound (.int k n) y code).run P w = .ok n.toNat w:=fun k n y c a b=>jd k n y c a b;unfold Instr.sliceBounds;rcases lo with _ | lo<;>rcases hi with _ | hi;{simp only at hl hh;subst hl;subst hh;simp}
 · cases hi<;>simp only at hh;simp only at hl;subst hl;subst hh;rename_i k n;have lL:=fun c=>hb k n cap c h1 (by omega)
   simp[lL]
 · cases lo<;>simp only at hl;simp only at hh;subst hl;subst hh;rename_i k n;have lL:=fun c=>hb k n len c h0 h1;simp[lL]
 · cases lo<;>simp only at hl;cases hi<;>simp only at hh;subst hl;subst hh;rename_i k n k' n';have lL:=fun c=>hb k' n' cap c (by omega) (by omega)
   have A7:=fun c=>hb k n n'.toNat c h0 (by omega)
   simp[lL,A7]
theorem yS{lo hi:Option Value}{len cap:Nat}{l h m:Int}{k:IntKind}(hl:match lo with | some (.int _ n)=>n=l | none=>l=0 | _=>False)
   (hh:match hi with | some (.int _ n)=>n=h | none=>False | _=>False) (h0:0≤l) (h1:l≤h) (h2:h≤m) (h3:m≤cap) :
   (Instr.sliceBounds true len cap lo hi (some (.int k m))).run P w = .ok (l.toNat,h.toNat,m.toNat) w:=by
 have hb:∀(k:IntKind) (n:Int) (y:Nat) (code:BoundsCode),0≤n→n≤y→(Instr.sliceBound (.int k n) y code).run P w = .ok n.toNat w:=fun k n y c a b=>jd k n y c a b;unfold Instr.sliceBounds;rcases hi with _ | hi;{exact hh.elim};cases hi<;>simp only at hh;rename_i k1 n1;subst hh;have yB:=fun c=>hb k m cap c (by omega) h3
 have lL:=fun c=>hb k1 n1 m.toNat c (by omega) (by omega)
 rcases lo with _ | lo;{simp only at hl;subst hl;simp[yB,lL]}
 · cases lo<;>simp only at hl;rename_i k2 n2;subst hl;have A7:=fun c=>hb k2 n2 n1.toNat c h0 (by omega)
   simp[yB,lL,A7]
theorem VA(ao:St D ν w0 K0 H0 N e H a w K μ){T x lo hi x' x9 fo el n sz}(ho:o.op = .slice T x lo hi none)(hT:Sm.nL P T=some (n,el))(da:cX P el=some sz)(hx:au ν x x'=true)
   (Vu:eC ν lo x9=true) (Vv:eC ν hi fo=true)
   {z} (hz:(aw.P6 n sz x' x9 fo).ev e H=some z):Calm P ν K μ e a w o z:=by
 have hu:=jN hT;simp only[aw.ev] at hz;split at hz
 · rename_i b off h1;have e1:=aq ao hx h1;simp only[rep] at e1;split at hz
   · rename_i l h hl hh;have b1:=dH ao Vu hl;have b2:=dH ao Vv hh;split at hz
     · rename_i hc;obtain⟨c0,c1,c2⟩:=hc;simp only[Option.some.injEq] at hz;subst hz;have hr:=jS (P:=P) (w:=w) (Io:=false) (len:=n) (cap:=n) b1 b2 c0 c1 c2 (Nat.le_refl _);refine⟨.slice (some ⟨b,if n=l.toNat then off else off+l.toNat*sz,none⟩) (h.toNat - l.toNat) (n - l.toNat),?_,by simp[bO,rep],T_⟩
       simp only[execOp,ho,e1,Instr.sliceAt,run_underlying hu,Instr.sureAddr,hr,run_sizeOf da,Sem.run_bind,Sem.run_pure,Result.andThen_ok,Option.map_none,cZ];split<;>rfl
     · cases hz
   · cases hz
 · cases hz
theorem VB(ao:St D ν w0 K0 H0 N e H a w K μ){T x lo hi mx x' x9 fo mx' el sz}(ho:o.op = .slice T x lo hi mx)(hT:Sm.elemOf P T=some el)(da:cX P el=some sz)(hx:au ν x x'=true)
   (Vu:eC ν lo x9=true) (Vv:eC ν hi fo=true) (uM:eC ν mx mx'=true) (hmh:(mx.isNone||hi.isSome)=true)
   {z} (hz:(aw.gy sz x' x9 fo mx').ev e H=some z):Calm P ν K μ e a w o z:=by
 have hu:=cw hT;have base:∀A len cap l h m,a.eval x = .slice A len cap→(Instr.sliceBounds true len cap (lo.map a.eval) (hi.map a.eval) (mx.map a.eval)).run P w = .ok (l,h,m) w →
     (execOp a.eval o).run P w = .ok (.value (.slice (if m=l then A else A.map (·.add (l*sz))) (h - l) (m - l))) w:=by
   intro A len cap l h m h1 h2;simp[execOp,ho,h1,Instr.sliceAt,Instr.slice,run_underlying hu,h2,run_sizeOf da]
 simp only[aw.ev] at hz;split at hz
 · rename_i h1;have e1:=aq ao hx h1;simp only[rep] at e1;split at hz
   · rename_i l h m hl hh hm;have b1:=dH ao Vu hl;have b2:=dH ao Vv hh;have b3:=dH ao uM hm;split at hz
     · rename_i hc;obtain⟨rfl,rfl,rfl⟩:=hc;simp only[Option.some.injEq] at hz;subst hz;have hr:(Instr.sliceBounds true 0 0 (lo.map a.eval) (hi.map a.eval) (mx.map a.eval)).run P w = .ok (0,0,0) w:=by
         rcases mx with _ | mx
         · have:=jS (P:=P) (w:=w) (Io:=true) (len:=0) (cap:=0) b1 b2 (by omega) (by omega) (by simp) (by omega)
           simpa using this
         · cases hi with
           | none=>simp at hmh
           | some hi =>
             cases Im:a.eval mx<;>simp only[Option.map_some,Im] at b3;rename_i k n;subst b3;have:=qU (P:=P) (w:=w) (mx:=a.eval mx) (len:=0) (cap:=0) (l:=0) (h:=0) (k:=k) (lo:=lo.map a.eval) (hi:=some (a.eval hi)) b1 (by
               cases KW:a.eval hi<;>simp only[Option.map_some,KW] at b2 ⊢;exact b2) (by omega) (by omega) (by simp)
             simpa[Im] using this
       exact⟨_,base _ _ _ _ _ _ e1 hr,by simp[bO,rep],T_⟩
     · cases hz
   · cases hz
 · rename_i b off n c h1;have e1:=aq ao hx h1;simp only[rep] at e1;split at hz
   · rename_i l h m hl hh hm;have b1:=dH ao Vu hl;have b2:=dH ao Vv hh;have b3:=dH ao uM hm;split at hz
     · rename_i hc;obtain⟨c0,c1,c2,c3⟩:=hc;simp only[Option.some.injEq] at hz;subst hz;have hr:(Instr.sliceBounds true n c (lo.map a.eval) (hi.map a.eval) (mx.map a.eval)).run P w = .ok (l.toNat,h.toNat,m.toNat) w:=by
         rcases mx with _ | mx;{simp only[Option.map_none] at b3;subst b3;simpa using yR (P:=P) (w:=w) (len:=n) (cap:=c) b1 b2 c0 c1 c2}
         · cases hi with
           | none=>simp at hmh
           | some hi =>
             cases Im:a.eval mx<;>simp only[Option.map_some,Im] at b3;rename_i k n';subst b3;have:=yS (P:=P) (w:=w) (len:=n) (cap:=c) (l:=l) (h:=h) (m:=n') (k:=k) (lo:=lo.map a.eval) (hi:=some (a.eval hi)) b1 (by
               cases KW:a.eval hi<;>simp only[Option.map_some,KW] at b2 ⊢;exact b2) c0 c1 c2 c3
             simpa[Im] using this
       have hml:(m.toNat=l.toNat)=(m=l):=by apply propext;omega
       refine⟨_,base _ _ _ _ _ _ e1 hr,?_,T_⟩;simp only[bO,rep,hml,Option.map_some,cZ];split<;>rfl
     · cases hz
   · cases hz
 · rename_i tk iB es h1;have e1:=aq ao hx h1;have KX:=e1;simp only[rep] at e1;obtain⟨A,cap,aR,g1,g2,g3,g4,g5,g6,g7,g8⟩:=e1;rw[g1] at KX;split at hz
   · rename_i l h hl hh;have b1:=dH ao Vu hl;have b2:=dH ao Vv hh;split at hz
     · rename_i hc;obtain⟨rfl,h0,hlh,hhl⟩:=hc;split at hz
       · rename_i hmn;simp only[Option.some.injEq] at hz;subst hz;have Ads:mx=none:=by cases mx<;>simp_all[eC]
         subst Ads;have hr:=jS (P:=P) (w:=w) (Io:=true) (len:=es.length) (cap:=cap) b1 b2 h0 hlh (by omega) g2
         refine⟨_,base _ _ _ _ _ _ g1 hr,?_,T_⟩;simp only[bO];refine vA KX (by omega) (by omega) (fun bN=>?_) (by omega) (by omega) ?_
         · rw[if_neg (by omega)]
         · by_cases gO:h=es.length∧l=0
           · obtain⟨rfl,rfl⟩:=gO;simp only[and_self,if_true];cases tk with
             | no=>trivial
             | lR b c =>
               simp only[sE] at g4 ⊢;obtain⟨rfl,rfl⟩:=g4;split<;>simp[cZ]
             | full=>simpa[sE] using g4
           · rw[if_neg gO];trivial
       · rename_i m hmn;split at hz
         · rename_i km mm hm;split at hz
           · rename_i Adt;subst Adt;simp only[Option.some.injEq] at hz;subst hz;cases mx with
             | none=>simp[eC] at uM
             | some mx =>
               cases hi with
               | none=>simp at hmh
               | some hi =>
                 simp only[eC] at uM;have e3:=aq ao uM hm;simp only[rep] at e3;have hr:=qU (P:=P) (w:=w) (mx:=a.eval mx) (len:=es.length) (cap:=cap) (l:=l) (h:=mm) (k:=km) (lo:=lo.map a.eval) (hi:=some (a.eval hi)) b1 (by
                   cases KW:a.eval hi<;>simp only[Option.map_some,KW] at b2 ⊢;exact b2) h0 hlh (by omega)
                 refine⟨_,base _ _ _ _ _ _ g1 (by simpa[e3] using hr),?_,T_⟩
                 simp only[bO];refine vA KX (by omega) (by omega) (fun bN=>?_) (by omega) (by omega) rfl
                 rw[if_neg (by omega)]
           · cases hz
         · cases hz
     · cases hz
   · cases hz
 · cases hz
theorem qb:∀{k1 k2:List Lf} {xs ys:List HV} {r:Bool},nN (k1++k2) xs ys=some r→∃r1 r2,nN k1 (xs.take k1.length) (ys.take k1.length)=some r1∧nN k2 (xs.drop k1.length) (ys.drop k1.length)=some r2∧r=(r1&&r2)
 | [],k2,xs,ys,r,h=>⟨true,r,rfl,h,by simp⟩
 | k::k1,k2,[],ys,r,h=>by simp[nN] at h
 | k::k1,k2,_::_,[],r,h=>by simp[nN] at h
 | k::k1,k2,x::xs,y::ys,r,h=>by
   simp only[List.cons_append,nN] at h;split at h;{rename_i p q h1 h2;simp only[Option.some.injEq] at h;subst h;obtain⟨r1,r2,g1,g2,rfl⟩:=qb h2;exact⟨p&&r1,r2,by simp only[List.length_cons,List.take_succ_cons,nN,h1,g1],by simpa using g2,by rw[Bool.and_assoc]⟩};{cases h}
theorem rR:∀{ks:List Lf} {xs ys:List HV} {r},nN ks xs ys=some r→xs.length=ks.length∧ys.length=ks.length
 | [],[],[],_,_=>by simp
 | [],_::_,_,_,h=>by simp[nN] at h
 | [],[],_::_,_,h=>by simp[nN] at h
 | _::_,[],_,_,h=>by simp[nN] at h
 | _::_,_::_,[],_,h=>by simp[nN] at h
 | k::ks,x::xs,y::ys,r,h=>by
   simp only[nN] at h;split at h;{rename_i h2;have:=rR h2;simp[this.1,this.2]};{cases h}
def valOf(agg:Bool)(us:List Value):Value:=if agg then .agg us.toArray else (us[0]?).getD Go.undef
theorem yT{d:Nat}{t:TypeId}{ks:List Lf}(h:ki P d t=some ks):∃agg,dJ P t=some agg∧cX P t=some ks.length:=by
 cases d with
 | zero=>simp[ki] at h
 | succ d =>
   simp only[ki] at h;split at h;{rename_i hu;split at h;{rename_i hs;simp only[Option.some.injEq] at h;subst h;exact⟨false,by simp[dJ,hu],hs⟩};{cases h}};{rename_i hu;split at h;{rename_i hs;simp only[Option.some.injEq] at h;subst h;exact⟨false,by simp[dJ,hu],hs⟩};{cases h}};{rename_i hu;split at h;{rename_i hs;simp only[Option.some.injEq] at h;subst h;exact⟨false,by simp[dJ,hu],hs⟩};{cases h}};{rename_i fs hu;split at h;{split at h;{split at h;{rename_i ks' _ hs;simp only[Option.some.injEq] at h;subst h;exact⟨true,by simp[dJ,hu],hs⟩};{cases h}};{cases h}};{cases h}};{rename_i n e hu;split at h;{split at h;{rename_i ks' _ hs;simp only[Option.some.injEq] at h;subst h;exact⟨true,by simp[dJ,hu],by rw[hs];simp⟩};{cases h}};{cases h}};{cases h}
theorem oQ{T:TypeId}{n:Nat}{agg:Bool}(hn:cX P T=some n)(ha:dJ P T=some agg){off:Nat}{us:List Value}(hle:off+n≤us.length)(h1:agg=false→n=1) :
   (part T us.toArray off).run P w = .ok (valOf agg ((us.drop off).take n)) w:=by
 cases agg with
 | true=>simp[part,jh ha,run_sizeOf hn,valOf,List.take_drop]
 | false =>
   have hn1:=h1 rfl;subst hn1;have bN:off < us.length:=by omega
   simp[part,jh ha,bN,valOf,List.getElem?_take,List.getElem?_drop]
theorem vB{d:Nat}{t:TypeId}{ks:List Lf}(h:ki P d t=some ks)(ha:dJ P t=some false):ks.length=1:=by
 cases d with
 | zero=>simp[ki] at h
 | succ d =>
   simp only[ki] at h;split at h;{split at h;{simp only[Option.some.injEq] at h;subst h;rfl};{cases h}};{split at h;{simp only[Option.some.injEq] at h;subst h;rfl};{cases h}};{split at h;{simp only[Option.some.injEq] at h;subst h;rfl};{cases h}};{rename_i hu;simp[dJ,hu] at ha};{rename_i hu;simp[dJ,hu] at ha};{cases h}
theorem AaM{x y:HV}{u v:Value}{r:Bool}(hx:rep ν K w x u)(hy:rep ν K w y v)(h:eqs .i x y=some r):∃k a b,u = .int k a∧v = .int k b∧r=(a==b):=by
 unfold eqs at h;split at h;{split at h;{rename_i k a k' b _ hk;subst hk;simp only[Option.some.injEq] at h;simp only[rep] at hx hy;exact⟨_,_,_,hx,hy,h.symm⟩};{cases h}}
 · contradiction
 · contradiction
 · cases h
theorem AaN{x y:HV}{u v:Value}{r:Bool}(hx:rep ν K w x u)(hy:rep ν K w y v)(h:eqs .b x y=some r):∃a b,u = .bool a∧v = .bool b∧r=(a==b):=by
 unfold eqs at h;split at h
 · contradiction
 · simp only[Option.some.injEq] at h;simp only[rep] at hx hy;exact⟨_,_,hx,hy,h.symm⟩
 · contradiction
 · cases h
theorem AaO{x y:HV}{u v:Value}{r:Bool}(hx:rep ν K w x u)(hy:rep ν K w y v)(h:eqs .s x y=some r):∃a b,u = .string a∧v = .string b∧r=(a==b):=by
 unfold eqs at h;split at h
 · contradiction
 · contradiction
 · simp only[Option.some.injEq] at h;simp only[rep] at hx hy;exact⟨_,_,hx,hy,h.symm⟩
 · cases h
theorem wW:∀(d:Nat) {t:TypeId} {ks:List Lf},ki P d t=some ks→∀(k:Nat) {agg:Bool},dJ P t=some agg→∀{xs ys:List HV} {us vs:List Value} {r:Bool},aC ν K w xs us→aC ν K w ys vs →
   nN ks xs ys=some r→(Op.equalIn (k+d) t (valOf agg us) (valOf agg vs)).run P w = .ok r w
 | 0,t,ks,h,_,_,_,_,_,_,_,_,_,_,_=>by simp[ki] at h
 | d+1,t,ks,h,k,agg,ha,xs,ys,us,vs,r,hx,hy,he=>by
   simp only[ki] at h;have leaf:∀(l:Lf),ks=[l]→agg=false→∃x y u v,xs=[x]∧ys=[y]∧us=[u]∧vs=[v]∧rep ν K w x u∧rep ν K w y v∧eqs l x y=some r:=by
     rintro l rfl rfl;obtain⟨l1,l2⟩:=rR he
     match xs,ys,l1,l2 with
     | [x],[y],_,_ =>
       obtain⟨u,dr,rfl,hu,CG⟩:=hx;obtain⟨v,ZO,rfl,hv,cJ⟩:=hy;simp only[aC] at CG cJ;subst CG;subst cJ;simp only[nN] at he;split at he;{rename_i p q h1 h2;simp only[Option.some.injEq] at h2;subst h2;simp only[Bool.and_true,Option.some.injEq] at he;subst he;exact⟨x,y,u,v,rfl,rfl,rfl,rfl,hu,hv,h1⟩};{cases he}
   split at h
   · rename_i hu;split at h
     · simp only[Option.some.injEq] at h;subst h;have wG:agg=false:=by simpa[dJ,hu] using ha.symm
       obtain⟨x,y,u,v,rfl,rfl,rfl,rfl,r1,r2,r3⟩:=leaf .b rfl wG;obtain⟨a,b,rfl,rfl,rfl⟩:=AaN r1 r2 r3;subst wG;rw[show k+(d+1)=(k+d)+1 by omega]
       simp[valOf,Op.equalIn,run_underlying hu]
     · cases h
   · rename_i hu;split at h
     · simp only[Option.some.injEq] at h;subst h;have wG:agg=false:=by simpa[dJ,hu] using ha.symm
       obtain⟨x,y,u,v,rfl,rfl,rfl,rfl,r1,r2,r3⟩:=leaf .i rfl wG;obtain⟨kk,a,b,rfl,rfl,rfl⟩:=AaM r1 r2 r3;subst wG;rw[show k+(d+1)=(k+d)+1 by omega]
       simp[valOf,Op.equalIn,run_underlying hu]
     · cases h
   · rename_i hu;split at h
     · simp only[Option.some.injEq] at h;subst h;have wG:agg=false:=by simpa[dJ,hu] using ha.symm
       obtain⟨x,y,u,v,rfl,rfl,rfl,rfl,r1,r2,r3⟩:=leaf .s rfl wG;obtain⟨a,b,rfl,rfl,rfl⟩:=AaO r1 r2 r3;subst wG;rw[show k+(d+1)=(k+d)+1 by omega]
       simp[valOf,Op.equalIn,run_underlying hu]
     · cases h
   · rename_i fs hu;split at h
     · rename_i ao;split at h
       · rename_i ks' hks;split at h
         · rename_i da;simp only[Option.some.injEq] at h;subst h;have wG:agg=true:=by simpa[dJ,hu] using ha.symm
           subst wG;have hf:P.fieldsOf t=fs:=by simp[Program.fieldsOf,hu]
           have hlx:=aK hx;have hly:=aK hy;have key:∀(fl:List Field) (off:Nat) (kl:List Lf) (r:Bool),off≤xs.length→off≤ys.length→yp P (ki P d) off fl=some kl→nN kl (xs.drop off) (ys.drop off)=some r→(Op.eqFields (k+d) us.toArray vs.toArray fl).run P w = .ok r w:=by
             intro fl
             induction fl with
             | nil =>
               intro off kl r ho1 yb gA eB;simp only[yp,Option.some.injEq] at gA;subst gA;have VC:r=true:=by
                 cases Bb:xs.drop off<;>cases OW:ys.drop off<;>simp[nN,Bb,OW] at eB;exact eB
               subst VC;simp[Op.eqFields]
             | cons f fl ih =>
               intro off kl r ho1 yb gA eB;simp only[yp] at gA;split at gA
               · rename_i hc;split at gA
                 · rename_i kf VD;obtain⟨kr,hkr,rfl⟩:=Option.map_eq_some_iff.1 gA;obtain⟨r1,r2,e1,e2,rfl⟩:=qb eB;obtain⟨ag,Oe,oz⟩:=yT VD;obtain⟨m1,m2⟩:=rR e1;rw[List.length_take,List.length_drop] at m1 m2;have gu:ag=false→kf.length=1:=fun hf=>vB VD (by rw[Oe,hf])
                   have p1:=oQ (P:=P) (w:=w) oz Oe (off:=off) (us:=us) (by omega) gu
                   have p2:=oQ (P:=P) (w:=w) oz Oe (off:=off) (us:=vs) (by omega) gu
                   have q:=wW d VD k Oe (cB kf.length (cC off hx)) (cB kf.length (cC off hy)) e1;have ihh:=ih (off+kf.length) kr r2 (by omega) (by omega) hkr (by simpa[List.drop_drop] using e2)
                   have hn:f.name ≠ "_":=by simpa using hc.1
                   rw[Op.eqFields];simp only[if_pos hn,Sem.run_bind,p1,p2,hc.2,q,Result.andThen_ok];cases r1;{simp};{simpa using ihh}
                 · cases gA
               · cases gA
           rw[show k+(d+1)=(k+d)+1 by omega]
           simp only[valOf,if_true];rw[run_equalIn_struct (P:=P) w (k+d) t us.toArray vs.toArray (by rw[hf];exact hu) ao,hf]
           exact key fs.toList 0 ks' r (by omega) (by omega) hks (by simpa using he)
         · cases h
       · cases h
     · cases h
   · rename_i n el hu;split at h
     · rename_i kf VD;split at h
       · rename_i da;simp only[Option.some.injEq] at h;subst h;have wG:agg=true:=by simpa[dJ,hu] using ha.symm
         subst wG;obtain⟨ag,Oe,oz⟩:=yT VD;have gu:ag=false→kf.length=1:=fun hf=>vB VD (by rw[Oe,hf])
         have hlx:=aK hx;have hly:=aK hy;rw[show k+(d+1)=(k+d)+1 by omega]
         simp only[valOf,if_true,Op.equalIn,Sem.run_bind,run_underlying hu,Result.andThen_ok,run_sizeOf oz];rw[Std.Legacy.Range.forIn_eq_forIn_range'];have key:∀(m i:Nat) (r:Bool),i*kf.length≤xs.length→i*kf.length≤ys.length→nN (List.replicate m kf).flatten (xs.drop (i*kf.length)) (ys.drop (i*kf.length))=some r →
             (forIn (List.range' i m 1) ((none:Option Bool),()) (fun(j:Nat) (_:Option Bool×Unit)=>(do
               let a ←part el us.toArray (j*kf.length)
               let b ←part el vs.toArray (j*kf.length)
               let c ←Op.equalIn (k+d) el a b
               if (!c)=true then pure (ForInStep.done (some false,())) else pure (ForInStep.yield (none,())):Sem (ForInStep (Option Bool×Unit)))):Sem (Option Bool×Unit)).run P w = .ok ((if r then none else some false),()) w:=by
           intro m
           induction m with
           | zero =>
             intro i r _ _ eB;have VC:r=true:=by
               simp only[List.replicate_zero,List.flatten_nil] at eB;cases Bb:xs.drop (i*kf.length)<;>cases OW:ys.drop (i*kf.length)<;>simp[nN,Bb,OW] at eB;exact eB
             subst VC;simp
           | succ m ih =>
             intro i r ho1 yb eB;rw[List.replicate_succ,List.flatten_cons] at eB;obtain⟨r1,r2,e1,e2,rfl⟩:=qb eB;obtain⟨m1,m2⟩:=rR e1;rw[List.length_take,List.length_drop] at m1 m2;have p1:=oQ (P:=P) (w:=w) oz Oe (off:=i*kf.length) (us:=us) (by omega) gu
             have p2:=oQ (P:=P) (w:=w) oz Oe (off:=i*kf.length) (us:=vs) (by omega) gu
             have q:=wW d VD k Oe (cB kf.length (cC (i*kf.length) hx)) (cB kf.length (cC (i*kf.length) hy)) e1;have hmul:(i+1)*kf.length=i*kf.length+kf.length:=by rw[Nat.add_mul];omega
             have ihh:=ih (i+1) r2 (by omega) (by omega) (by rw[hmul];simpa[List.drop_drop] using e2)
             rw[List.range'_succ,List.forIn_cons];simp only[Sem.run_bind,p1,p2,q,Result.andThen_ok];cases r1;{simp};{simpa using ihh}
         have pU:=key n 0 r (by omega) (by omega) (by simpa using he)
         have qI:([:n]:Std.Legacy.Range).size=n:=by simp[Std.Legacy.Range.size]
         rw[qI];have:(forIn (List.range' 0 n 1) ((none:Option Bool),()) (fun(j:Nat) (_:Option Bool×Unit)=>(do
               let a ←part el us.toArray (j*kf.length)
               let b ←part el vs.toArray (j*kf.length)
               let c ←Op.equalIn (k+d) el a b
               if (!c)=true then pure (ForInStep.done (some false,())) else pure (ForInStep.yield (none,())):Sem (ForInStep (Option Bool×Unit)))):Sem (Option Bool×Unit)).run P w = .ok ((if r then none else some false),()) w:=pU
         rw[this];cases r<;>simp
       · cases h
     · cases h
   · cases h
theorem Ip{d:Nat}{t:TypeId}{x y:Bool}(h:P.underlying t=some .bool):(Op.equalIn (d+1) t (.bool x) (.bool y)).run P w = .ok (x==y) w:=by
 simp[Op.equalIn,run_underlying h]
theorem Qv(ao:St D ν w0 K0 H0 N e H a w K μ){t x y yt x' y' k}{ne:Bool}(ho:o.op = .binOp (if ne then .neq else .eql) t x y yt)(hk:sM P t k=true)(hx:au ν x x'=true)(hy:au ν y y'=true)
   {z} (hz:(aw.eq k ne x' y').ev e H=some z):Calm P ν K μ e a w o z:=by
 simp only[aw.ev] at hz;split at hz
 · rename_i p q h1 h2;have e1:=aq ao hx h1;have e2:=aq ao hy h2;cases hq:eqv k p q with
   | none=>simp[hq] at hz
   | some r =>
     simp only[hq,Option.map_some,Option.some.injEq] at hz;subst hz;have fin:∀u v,a.eval x=u→a.eval y=v→(∀op,eqGuard op t x y u v=pure ())→(binOp .eql t u v=(do pure (.bool (←Op.equal t u v))))→(binOp .neq t u v=(do pure (.bool (!(←Op.equal t u v))))) →
         (∀d,(Op.equalIn (d+1) t u v).run P w = .ok r w)→Calm P ν K μ e a w o (.h (.v (.bool (if ne then !r else r)))):=by
       intro u v hu hv hg lL A7 hr;refine⟨.bool (if ne then !r else r),?_,by simp[bO,rep],T_⟩
       have yM:(Op.equal t u v).run P w = .ok r w:=hr 9999;cases ne<;>simp[execOp,ho,hu,hv,hg,lL,A7,yM]
     unfold eqv at hq;cases k
     ·
       simp only at hq;split at hq;{simp only[Option.some.injEq] at hq;subst hq;simp only[rep] at e1 e2;simp only[sM] at hk;split at hk;{rename_i hu;exact fin _ _ e1 e2 (fun op=>by cases op<;>rfl) rfl rfl (fun d=>Ip hu)};{cases hk}};{cases hq}
     ·
       simp only[sM] at hk;split at hk;{rename_i el hu;simp only at hq;split at hq;{simp only[Option.some.injEq] at hq;subst hq;simp only[rep] at e1 e2;exact fin _ _ e1 e2 (fun op=>by cases op<;>rfl) rfl rfl (fun d=>by simp[Op.equalIn,run_underlying hu])};{simp only[Option.some.injEq] at hq;subst hq;simp only[rep] at e1 e2;exact fin _ _ e1 e2 (fun op=>by cases op<;>rfl) rfl rfl (fun d=>by simp[Op.equalIn,run_underlying hu])};{simp only[Option.some.injEq] at hq;subst hq;simp only[rep] at e1 e2;obtain⟨b,off,us,g1,_⟩:=e1;exact fin _ _ g1 e2 (fun op=>by cases op<;>rfl) rfl rfl (fun d=>by simp[Op.equalIn,run_underlying hu])};{cases hq}};{cases hk}
     ·
       simp only[sM] at hk;split at hk;{rename_i hu;simp only at hq;split at hq;{simp only[Option.some.injEq] at hq;subst hq;simp only[rep] at e1 e2;exact fin _ _ e1 e2 (fun op=>by cases op<;>rfl) rfl rfl (fun d=>by simp[Op.equalIn,run_underlying hu])};{simp only[Option.some.injEq] at hq;subst hq;simp only[rep] at e1 e2;obtain⟨n,us,_,g1,_⟩:=e1;exact fin _ _ g1 e2 (fun op=>by cases op<;>rfl) rfl rfl (fun d=>by simp[Op.equalIn,run_underlying hu])};{cases hq}};{cases hk}
     ·
       simp only[sM] at hk;split at hk;{rename_i el hu;simp only at hq;split at hq;{simp only[Option.some.injEq] at hq;subst hq;simp only[rep] at e1 e2;exact fin _ _ e1 e2 (fun op=>by cases op<;>rfl) rfl rfl (fun d=>by simp[Op.equalIn,run_underlying hu])};{rename_i tk sz g gs _ _;simp only[rep] at e1 e2;split at hq;{cases hq};{simp only[Option.some.injEq] at hq;subst hq;obtain⟨A,cap,aR,g1,g2,g3,g4,g5,g6,g7,g8⟩:=e1;rcases g8 with g8 | ⟨b,off,hA,_⟩;{cases g8};{subst hA;exact fin _ _ g1 e2 (fun op=>by cases op<;>rfl) rfl rfl (fun d=>by simp[Op.equalIn,run_underlying hu])}}};{cases hq}};{cases hk}
     ·
       rename_i ks;simp only[sM,Bool.and_eq_true,decide_eq_true_eq,Bool.not_eq_true'] at hk;simp only at hq;split at hq
       · rename_i xs ys;simp only[rep] at e1 e2;obtain⟨us,f1,_,f2⟩:=e1;obtain⟨vs,g1,_,g2⟩:=e2;have hr:=wW (P:=P) 20 hk.1.1 9980 hk.2 f2 g2 hq;simp only[valOf,if_true] at hr;refine⟨.bool (if ne then !r else r),?_,by simp[bO,rep],T_⟩
         have Jt:=fun op=>run_eqGuard_agg (P:=P) w op t x y us.toArray vs.toArray hk.1.2;cases ne;{simp only[Bool.false_eq_true,if_false] at ho;simp only[execOp,ho,f1,g1,Sem.run_bind,Jt,Result.andThen_ok,run_eql_struct,hr,Sem.run_pure,Bool.false_eq_true,if_false]};{simp only[if_true] at ho;simp only[execOp,ho,f1,g1,Sem.run_bind,Jt,Result.andThen_ok,run_neq_struct,hr,Sem.run_pure,if_true]}
       · cases hq
 · cases hz
end
end Sm
namespace Sm
open Go
theorem mA{α:Type}:∀(vs:List α) (cs:List α) (off:Nat),(bu cs off vs).length=cs.length
 | [],cs,off=>rfl
 | v::vs,cs,off=>by simp only[bu];rw[mA vs];simp
theorem KY{α:Type}(l:List α)(k:Nat)(v:α)(rest:List α)(hk:k+(rest.length+1)≤l.length) :
   (l.set k v).take (k+1)++rest++(l.set k v).drop (k+1+rest.length)=l.take k++(v::rest)++l.drop (k+(rest.length+1)):=by
 have h1:(l.set k v).take (k+1)=l.take k++[v]:=by
   rw[List.take_set,List.take_succ_eq_append_getElem (by omega)]
   rw[List.set_append_right _ _ (by simp;omega)]
   simp[show k - min k l.length=0 by omega]
 have h2:(l.set k v).drop (k+1+rest.length)=l.drop (k+(rest.length+1)):=by
   rw[List.drop_set_of_lt (by omega)];congr 1;omega
 rw[h1,h2];simp
theorem iV{α:Type}:∀(vs:List α) (cs:List α) (off:Nat),off+vs.length≤cs.length→bu cs off vs=cs.take off++vs++cs.drop (off+vs.length)
 | [],cs,off,_=>by simp[bu]
 | v::vs,cs,off,h=>by
   simp only[List.length_cons] at h;simp only[bu];rw[iV vs (cs.set off v) (off+1) (by simp;omega),KY cs off v vs (by omega)]
   rfl
theorem yU{ν K w}:∀{hs:List HV} {us:List Value} (i:Nat) {h:HV} {u:Value},aC ν K w hs us→rep ν K w h u→aC ν K w (hs.set i h) (us.set i u)
 | [],us,i,h,u,hr,_=>by simp[aC] at hr;subst hr;simp[aC]
 | g::hs,us,i,h,u,hr,h'=>by
   obtain⟨v,vs,rfl,h1,h2⟩:=hr;cases i with
   | zero=>exact⟨u,vs,by simp,h',h2⟩
   | succ i=>exact⟨v,vs.set i u,by simp,h1,yU i h2 h'⟩
theorem nj{ν K w}:∀{ns:List HV} {vs:List Value} {hs:List HV} {us:List Value} (off:Nat),aC ν K w hs us→aC ν K w ns vs→aC ν K w (bu hs off ns) (bu us off vs)
 | [],vs,hs,us,off,hr,hn=>by simp[aC] at hn;subst hn;exact hr
 | n::ns,vs,hs,us,off,hr,hn=>by
   obtain⟨v,ZO,rfl,h1,h2⟩:=hn;simp only[bu];exact nj (off+1) (yU off hr h1) h2
theorem oR{p:HV→Bool}:∀(vs:List HV) (cs:List HV) (off:Nat),cs.all p=true→vs.all p=true→(bu cs off vs).all p=true
 | [],cs,off,h,_=>h
 | v::vs,cs,off,h,hv=>by
   simp only[List.all_cons,Bool.and_eq_true] at hv;simp only[bu];refine oR vs _ _ ?_ hv.2;rw[List.all_eq_true] at h ⊢;intro x hx;rcases List.mem_or_eq_of_mem_set hx with hx | hx;{exact h x hx};{subst hx;exact hv.1}
theorem yV(off:Nat):∀(vs:List Value) (i:Nat) (cs:Array Value),((vs.zipIdx i).foldl (fun(cs:Array Value) (p:Value×Nat)=>cs.setIfInBounds (off+p.2) p.1) cs).toList=bu cs.toList (off+i) vs
 | [],i,cs=>by simp[bu]
 | v::vs,i,cs=>by
   simp only[List.zipIdx_cons,List.foldl_cons,bu];rw[yV off vs (i+1)];simp[Nat.add_assoc]
theorem yW(off:Nat)(vs:Array Value)(cs:Array Value):(vs.zipIdx.foldl (fun(cs:Array Value) (p:Value×Nat)=>cs.setIfInBounds (off+p.2) p.1) cs).toList=bu cs.toList off vs.toList:=by
 rw[←Array.foldl_toList];simpa using yV off vs.toList 0 cs
section
variable {P:Program} {D:List (Nat×List HV)} {ν:Nat→Option Nat} {w0:World} {K0:Nat→Nat} {H0:ab} {N:Nat} {e:Env} {H:ab} {a:Act} {w:World} {K μ:Nat→Nat} {o:Oper}
theorem tp(ao:St D ν w0 K0 H0 N e H a w K μ){T:TypeId}{fs:Array Field}{place:Nat→Option (Nat×Nat)}(hu:P.underlying T=some (.struct fs))(hp:∀i f,fs[i]? = some f→∀n,cX P f.type=some n→place i=some (f.offset,n)) :
   ∀(ps:List (Nat×Operand)) (qs:List (Nat×Nat×bj)) (z cs:List HV) (us:Array Value),iY P ν T ps qs=true→aC ν K w z us.toList→z.all HV.one=true →
     fQ z (qs.map fun p=>(p.1,p.2.1,e.hv p.2.2))=some cs →
     ∃dr,Instr.fill place us (ps.map fun(i,x)=>(i,a.eval x))=some dr∧aC ν K w cs dr.toList∧cs.all HV.one=true
 | [],[],z,cs,us,_,hr,h1,hb=>by
   simp only[List.map_nil,fQ,Option.some.injEq] at hb;subst hb;exact⟨us,rfl,hr,h1⟩
 | [],_::_,_,_,_,hk,_,_,_=>by simp[iY] at hk
 | _::_,[],_,_,_,hk,_,_,_=>by simp[iY] at hk
 | (i,x)::ps,(off,n,y)::qs,z,cs,us,hk,hr,h1,hb=>by
   simp only[iY,Bool.and_eq_true] at hk;obtain⟨⟨gF,gG⟩,hk3⟩:=hk;cases hf:jO P T i with
   | none=>simp[hf] at gF
   | some f =>
     simp only[hf,Bool.and_eq_true,decide_eq_true_eq] at gF;obtain⟨yP,hn⟩:=gF;obtain⟨fs',hu',AR⟩:=j6 hf;rw[hu] at hu';simp only[Option.some.injEq,TypeDesc.struct.injEq] at hu';subst hu';have Jv:=hp i f AR n hn;simp only[List.map_cons] at hb ⊢;cases hy:e.hv y with
     | none=>simp[hy,fQ] at hb
     | some h =>
       simp only[hy,fQ] at hb;split at hb
       · rename_i hc;obtain⟨HW,A5,hc3⟩:=hc;have hv:=aq ao gG hy;have da:=cF A5 hv;obtain⟨va,I4⟩:=jl A5 hv;have hlen:=aK hr;subst yP;have hns:¬((a.eval x).cells.size≠n∨f.offset+(a.eval x).cells.size > us.size):=by
           have:us.size=z.length:=by simpa using hlen
           rw[da,HW];omega
         simp only[Instr.fill,Jv];rw[if_neg (by simpa using hns)]
         refine tp ao hu hp ps qs _ cs _ hk3 ?_ ?_ hb;{rw[yW];exact nj _ hr va};{exact oR _ _ _ h1 I4}
       · cases hb
theorem nQ{α β:Type}(f:α→Sem β)(g:α→β):∀(l:List α),(∀x∈l,(f x).run P w = .ok (g x) w)→(l.mapM f).run P w = .ok (l.map g) w
 | [],_=>by simp
 | x::l,h=>by
   simp only[List.mapM_cons,Sem.run_bind,h x (by simp),Result.andThen_ok,nQ f g l (fun y hy=>h y (by simp[hy])),Sem.run_pure,List.map_cons]
theorem wX{α β:Type}(f:α→Sem β)(g:α→β)(l:Array α)(h:∀x∈l,(f x).run P w = .ok (g x) w):(l.mapM f).run P w = .ok (l.map g) w:=by
 rw[Array.mapM_eq_mapM_toList];simp only[Sem.run_map,nQ f g l.toList (fun x hx=>h x (by simpa using hx)),Result.andThen_ok]
 congr 1;apply Array.toList_inj.1;simp
theorem Iq(ao:St D ν w0 K0 H0 N e H a w K μ){T ps z qs n el zv}(ho:o.op = .build T ps)(hp0:ps.toList=[])(hq:iY P ν T ps.toList qs=true)(UP:(P.info? T).bind (·.zero)=some zv)(hzq:CK zv.cells.toList z=true)(hu:P.underlying T=some (.array n el))
   (eB:(cX P el).isSome=true) {x} (hz:(aw.build z qs).ev e H=some x):Calm P ν K μ e a w o x:=by
 have hp:ps=#[]:=by simpa using hp0
 rw[hp0] at hq;obtain rfl:qs=[]:=by cases qs<;>simp_all[iY]
 simp only[aw.ev,List.map_nil,fQ,Option.map_some,Option.some.injEq] at hz;subst hz;obtain⟨hr,h1⟩:=iT (ν:=ν) (K:=K) (w:=w) hzq;obtain⟨i,hi,HR⟩:=Option.bind_eq_some_iff.1 UP;obtain⟨m,hm⟩:=Option.isSome_iff_exists.1 eB;subst hp;refine⟨.agg zv.cells,?_,?_,T_⟩;{simp[execOp,ho,Instr.build,zeroValue,typeInfo,hi,HR,run_underlying hu,run_sizeOf hm,Instr.fill]};{simp only[bO,rep];exact⟨zv.cells.toList,by simp,h1,hr⟩}
theorem KZ(ao:St D ν w0 K0 H0 N e H a w K μ){T ps z qs fs zv}(ho:o.op = .build T ps)(UP:(P.info? T).bind (·.zero)=some zv)(hzq:CK zv.cells.toList z=true)(hu:P.underlying T=some (.struct fs))
   (gO:fs.toList.all (fun f=>(cX P f.type).isSome)=true) (Js:iY P ν T ps.toList qs=true) {x} (hz:(aw.build z qs).ev e H=some x):Calm P ν K μ e a w o x:=by
 simp only[aw.ev] at hz;cases hb:fQ z (qs.map fun p=>(p.1,p.2.1,e.hv p.2.2)) with
 | none=>simp[hb] at hz
 | some cs =>
   simp only[hb,Option.map_some,Option.some.injEq] at hz;subst hz;obtain⟨hr,h1⟩:=iT (ν:=ν) (K:=K) (w:=w) hzq;have VE:∀f∈fs,((do pure (f.offset,←Go.sizeOf f.type)):Sem (Nat×Nat)).run P w = .ok (f.offset,(cX P f.type).getD 0) w:=by
     intro f hf;rw[List.all_eq_true] at gO;obtain⟨n,hn⟩:=Option.isSome_iff_exists.1 (gO f (by simpa using hf))
     simp[run_sizeOf hn,hn]
   have hm:=wX (P:=P) (w:=w) (fun f:Field=>(do pure (f.offset,←Go.sizeOf f.type):Sem (Nat×Nat))) (fun f=>(f.offset,(cX P f.type).getD 0)) fs VE
   obtain⟨dr,g1,g2,g3⟩:=tp (P:=P) ao hu (place:=fun i=>(fs.map fun f=>(f.offset,(cX P f.type).getD 0))[i]?) (fun i f hf n hn=>by simp[hf,hn]) ps.toList qs z cs zv.cells Js hr h1 hb
   obtain⟨i,hi,HR⟩:=Option.bind_eq_some_iff.1 UP;refine⟨.agg dr,?_,?_,T_⟩;{simp only[execOp,ho,Instr.build,zeroValue,typeInfo,Sem.run_bind,run_program,Result.andThen_ok,hi,Sem.run_pure,HR,run_underlying hu,hm,Array.toList_map,g1]};{simp only[bO,rep];exact⟨dr.toList,by simp,g3,g2⟩}
end
end Sm
namespace Sm
open Go
theorem lh{ν K w h u}(h1:h.one=true)(hr:rep ν K w h u):u.oneCell'=true:=by
 cases h with
 | v x=>simp only[rep] at hr;subst hr;exact h1
 | sl tk sz es=>simp only[rep] at hr;obtain⟨A,cap,aR,rfl,_⟩:=hr;rfl
 | rp cs=>simp only[rep] at hr;obtain⟨b,off,us,rfl,_⟩:=hr;rfl
 | fn g cq=>simp only[rep] at hr;obtain⟨n,us,_,rfl,_⟩:=hr;rfl
 | fm g r=>simp only[rep] at hr;obtain⟨n,us,_,rfl,_⟩:=hr;rfl
 | ag cs=>simp[HV.one] at h1
 | tu vs=>simp[HV.one] at h1
theorem kg{ν K w}:∀{hs:List HV} {us:List Value},aC ν K w hs us→hs.all HV.one=true→∀u∈us,u.oneCell'=true
 | [],us,h,_=>by simp[aC] at h;subst h;simp
 | g::hs,us,hr,ha=>by
   obtain⟨u,dr,rfl,h1,h2⟩:=hr;simp only[List.all_cons,Bool.and_eq_true] at ha;intro x hx;rcases List.mem_cons.1 hx with hx | hx;{subst hx;exact lh ha.1 h1};{exact kg h2 ha.2 x hx}
theorem yY{ν K w}:∀{es:List HV} {aR:List Value},aC ν K w es aR→es.all HV.el=true→∀u∈flat aR,u.oneCell'=true
 | [],us,h,_=>by simp[aC] at h;subst h;simp[flat]
 | g::es,aR,hr,ha=>by
   obtain⟨u,dr,rfl,h1,h2⟩:=hr;simp only[List.all_cons,Bool.and_eq_true] at ha;intro x hx;simp only[flat,List.flatMap_cons,List.mem_append] at hx;rcases hx with hx | hx;{obtain⟨c1,c2⟩:=jl ha.1 h1;exact kg c1 c2 x hx};{exact yY h2 ha.2 x hx}
section
variable {P:Program} {D:List (Nat×List HV)} {ν:Nat→Option Nat} {w0:World} {K0:Nat→Nat} {H0:ab} {N:Nat} {e:Env} {H:ab} {a:Act} {w:World} {K μ:Nat→Nat} {o:Oper}
def lM(D:List (Nat×List HV))(ν:Nat→Option Nat)(w0:World)(K0:Nat→Nat)(H0:ab)(N:Nat)(a:Act)(dst:Option Nat)(Kc:EV→Env→ab→Prop)(next:Act→World→Prop):Prop:=
 ∀x e' H',Kc x e' H'→∀u w' K' JD,St D ν w0 K0 H0 N e' H' a w' K' JD→bO ν K' w' JD x u→x.live e'→next (a.put dst u) w'
theorem upon_value{next:Act→World→Prop}{Q:Exit→Act→World→Prop}{u:Value}{w':World}(h:next (a.put o.dst u) w'):o.upon P a next Q (.ok (.value u) w'):=h
theorem vC{α:Type}(n:Nat):∀(vs l:List α) (off:Nat),(bu l off vs).take n=bu (l.take n) off vs
 | [],l,off=>rfl
 | v::vs,l,off=>by rw[bu,bu,vC n vs,List.take_set]
theorem mV(hs:dS ν w K H){b off:Nat}{cs ns:List HV}{vs:List Value}(hb:H b=some (.obj cs))(hle:off+vs.length≤cs.length)(hv:aC ν K w ns vs)(hn:ns.all HV.one=true) :
   ∃w',(∀(i:Nat),i=0→(storeCells ⟨b,off,none⟩ vs i).run P w = .ok () w')∧Ext (quiet ν) w K H w' K (H.bt b (some (.obj (bu cs off ns))))∧dS ν w' K (H.bt b (some (.obj (bu cs off ns)))):=by
 obtain⟨us,T,g1,g2,g3,g4⟩:=hs.res b _ hb;have hlen:=aK g3;have da:=Array.length_toList (xs:=us);rw[List.length_take,da] at hlen;have VG:=aK hv;have ao:=run_storeCells_at P b off T vs 0 us w g1 (by omega) (kg hv hn)
 simp only[Nat.add_zero] at ao;rw[←iV vs us.toList off (by rw[da];omega)] at ao
 have hg:Grow w K (w.setRow b (bu us.toList off vs).toArray) K:=⟨fun _=>Nat.le_refl _,fun c j hj=>cell_setRow_other w b _ _ (by rintro rfl;rw[g2] at hj;omega),fun c hc=>cS (setRow_other w b c _ (by rintro rfl;rw[g2] at hc;omega))⟩
 refine⟨w.setRow b (bu us.toList off vs).toArray,fun i hi=>by subst hi;exact ao,⟨rfl,rfl,rfl,by simp,fun _=>Nat.le_refl _,hg,fun c hc hH=>⟨setRow_other w b c _ (by rintro rfl;rw[hb] at hH;cases hH),rfl,by rw[ab.bt];split<;>simp_all⟩⟩,⟨fun c r hc=>?_,fun c hc=>hs.fresh c (by simpa using hc),hs.qD.grow hg⟩⟩
 by_cases u0:c=b
 · subst u0;simp only[ab.bt,if_true,Option.some.injEq] at hc;subst hc;refine⟨_,T,setRow_heap w c us _ T _ g1,g2,?_,oR _ _ _ g4 hn⟩;have h9:=(nj off g3 hv).grow hg;rw[mA,List.toList_toArray,vC];exact h9
 · rw[ab.bt,if_neg u0] at hc;exact(hs.res c r hc).move hg (setRow_other w b c _ u0) rfl
theorem Ir(ao:St D ν w0 K0 H0 N e H a w K μ){k off:Nat}{cs ns:List HV}{vs:List Value}(hb:e.box k=some cs)(hle:off+vs.length≤cs.length)(hv:aC ν K w ns vs)(hn:ns.all HV.one=true) :
   ∃w',(storeCells ⟨μ k,off,none⟩ vs).run P w = .ok () w'∧St D ν w0 K0 H0 N (e.fI k (bu cs off ns)) H a w' K μ:=by
 obtain⟨hB,hH,us,T,g1,g2,g3,g4⟩:=ao.box k cs hb;have hlen:=aK g3;have VG:=aK hv;have dI:=run_storeCells_at P (μ k) off T vs 0 us w g1 (by simp at hlen;omega) (kg hv hn)
 simp only[Nat.add_zero] at dI;rw[←iV vs us.toList off (by omega)] at dI
 have hg:Grow w K (w.setRow (μ k) (bu us.toList off vs).toArray) K:=⟨fun _=>Nat.le_refl _,fun c j hj=>cell_setRow_other w _ _ _ (by intro hc;simp only at hc;subst hc;rw[g2] at hj;omega),fun c hc0=>cS (setRow_other w _ c _ (by intro hc;subst hc;rw[g2] at hc0;omega))⟩
 have live:∀x:EV,x.live e→x.live (e.fI k (bu cs off ns)):=by
   intro x hx;cases x with
   | h=>trivial
   | lp i o =>
     simp only[EV.live,Env.fI,Env.box,bt] at hx ⊢;split;{rfl};{exact hx}
 refine⟨_,dI,⟨⟨fun c r hc=>(ao.hs.res c r hc).move hg (setRow_other w _ c _ (by rintro rfl;rw[hH] at hc;cases hc)) rfl,fun c hc=>ao.hs.fresh c (by simpa using hc),ao.hs.qD.grow hg⟩,ao.sz,ao.df.grow hg,
   fun t x hx=>⟨(ao.slot t x hx).1.grow hg,live x (ao.slot t x hx).2⟩,fun i bI hi=>?_,fun i j c c' hi hj A4=>?_,?_⟩⟩
 · simp only[Env.fI,Env.box,bt] at hi
   by_cases sJ:k=i
   · subst sJ;simp only[if_true,Option.some.injEq] at hi;subst hi;exact⟨hB,hH,_,T,setRow_heap w _ us _ T _ g1,g2,by simpa using (nj off g3 hv).grow hg,oR _ _ _ g4 hn⟩
   · rw[if_neg sJ] at hi;obtain⟨b1,b2,dr,T',b3,b4,b5,b6⟩:=ao.box i bI hi;refine⟨b1,b2,dr,T',(setRow_other w _ _ _ (fun he=>sJ (ao.inj i k _ _ hi hb he).symm)).trans b3,b4,b5.grow hg,b6⟩
 · have key:∀i c,(e.fI k (bu cs off ns)).box i=some c→∃c,e.box i=some c:=by
     intro i c hi;simp only[Env.fI,Env.box,bt] at hi
     by_cases sJ:k=i
     · subst sJ;exact⟨_,hb⟩
     · rw[if_neg sJ] at hi;exact⟨_,hi⟩
   obtain⟨c1,h1⟩:=key i c hi;obtain⟨c2,h2⟩:=key j c' hj;exact ao.inj i j c1 c2 h1 h2 A4
 · refine⟨ao.ext.os,ao.ext.tape,ao.ext.output,by simpa using ao.ext.size,(fun q=>by simpa using ao.ext.drawn q),ao.ext.grow.trans hg,fun c hc hH'=>?_⟩
   obtain⟨e1,e2,e3⟩:=ao.ext.same c hc hH';exact⟨(setRow_other w _ c _ (by rintro rfl;omega)).trans e1,e2,e3⟩
theorem K5(ao:St D ν w0 K0 H0 N e H a w K μ){T loc cs z}(ho:o.op = .alloc T)(hz:(P.info? T).bind (·.zero)=some z)(hzq:CK z.cells.toList cs=true)
   {Kc} {next:Act→World→Prop} {Q} (hs:(aw.alloc loc cs).step (Spec P ν) e H Kc) (hK:lM D ν w0 K0 H0 N a o.dst Kc next):o.upon P a next Q ((execOp a.eval o).run P w):=by
 obtain⟨hr,h1⟩:=iT (ν:=ν) (K:=K) (w:=w) hzq;obtain⟨i,hi,HR⟩:=Option.bind_eq_some_iff.1 hz;have dI:(execOp a.eval o).run P w = .ok (.value (.pointer (some ⟨w.heap.size,0,none⟩))) (w.alloc (.cells z.cells T)):=by
   simp[execOp,ho,Instr.alloc,zeroValue,typeInfo,hi,HR,newVar,newRow]
 rw[dI];apply upon_value;simp only[aw.step] at hs;cases loc with
 | some k =>
   have h2:=ao.J2 z.cells T k cs hs.1 hr h1;exact hK _ _ _ hs.2 _ _ _ _ h2 (by simp[bO]) (by simp[EV.live,Env.fI,Env.box,bt])
 | none =>
   have h2:=ke ao.hs z.cells T cs hr h1;exact hK _ _ _ (hs w.heap.size (ao.hs.c9 (Nat.le_refl _))) _ _ _ _ (ao.step h2.1 h2.2) (by simp[bO,rep]) trivial
theorem VH(ao:St D ν w0 K0 H0 N e H a w K μ){T loc n x x'}(ho:o.op = .box T x)(hx:au ν x x'=true)
   {Kc} {next:Act→World→Prop} {Q} (hs:(aw.box loc n x').step (Spec P ν) e H Kc) (hK:lM D ν w0 K0 H0 N a o.dst Kc next):o.upon P a next Q ((execOp a.eval o).run P w):=by
 simp only[aw.step] at hs;split at hs
 · rename_i h hh;obtain⟨h1,h2,h3⟩:=hs;have hv:=aq ao hx hh;obtain⟨c1,c2⟩:=jl h2 hv;have dI:(execOp a.eval o).run P w = .ok (.value (.pointer (some ⟨w.heap.size,0,none⟩))) (w.alloc (.cells (a.eval x).cells T)):=by
     simp[execOp,ho,Instr.box,newVar,newRow]
   rw[dI];apply upon_value;split at h3;{rename_i k;have h4:=ao.J2 (a.eval x).cells T k h.cells h3.1 c1 c2;exact hK _ _ _ h3.2 _ _ _ _ h4 (by simp[bO]) (by simp[EV.live,Env.fI,Env.box,bt])};{have h4:=ke ao.hs (a.eval x).cells T h.cells c1 c2;exact hK _ _ _ (h3 w.heap.size (ao.hs.c9 (Nat.le_refl _))) _ _ _ _ (ao.step h4.1 h4.2) (by simp[bO,rep]) trivial}
 · exact hs.elim
theorem K6(ao:St D ν w0 K0 H0 N e H a w K μ){T n x y x' y'}(ho:o.op = .store T x y)(hn:cX P T=some n)(hx:au ν x x'=true)(hy:au ν y y'=true)
   {Kc} {next:Act→World→Prop} {Q} (hs:(aw.store n x' y').step (Spec P ν) e H Kc) (hK:lM D ν w0 K0 H0 N a o.dst Kc next):o.upon P a next Q ((execOp a.eval o).run P w):=by
 simp only[aw.step] at hs;split at hs
 · rename_i h hh;obtain⟨h1,h2,h3⟩:=hs;have hv:=aq ao hy hh;obtain⟨c1,c2⟩:=jl h2 hv;have da:=cF h2 hv;have base:∀(ad:Addr) (w':World),a.eval x = .pointer (some ad)→(storeCells ad (a.eval y).cells.toList).run P w = .ok () w'→(execOp a.eval o).run P w = .ok .skip w':=by
     intro ad w' Mg hw;simp[execOp,ho,Mg,Instr.storeAt,Instr.sureAddr,storeVar,run_sizeOf hn,da,h1,hw]
   split at h3
   · rename_i b off cH;have e1:=(bY ao hx cH).1;simp only[bO,rep] at e1;split at h3
     · rename_i cs hb;obtain⟨hle,hk⟩:=h3;obtain⟨w',r1,r2,r3⟩:=mV (P:=P) ao.hs hb (ns:=h.cells) (vs:=(a.eval y).cells.toList) (off:=off) (by rw[Array.length_toList,da,h1];exact hle) c1 c2
       rw[base _ w' e1 (r1 0 rfl)];show next (a.put o.dst Go.undef) w';exact hK _ _ _ hk _ _ _ _ (ao.step r2 r3) (by simp[bO,rep,HV.undef]) trivial
     · exact h3.elim
   · rename_i k off cH;have e1:=(bY ao hx cH).1;simp only[bO] at e1;split at h3
     · rename_i cs hb;obtain⟨hle,hk⟩:=h3;obtain⟨w',r1,r2⟩:=Ir (P:=P) ao hb (ns:=h.cells) (vs:=(a.eval y).cells.toList) (off:=off) (by rw[Array.length_toList,da,h1];exact hle) c1 c2
       rw[base _ w' e1 r1];show next (a.put o.dst Go.undef) w';exact hK _ _ _ hk _ _ _ _ r2 (by simp[bO,rep,HV.undef]) trivial
     · exact h3.elim
   · exact h3.elim
 · exact hs.elim
theorem wY(ao:St D ν w0 K0 H0 N e H a w K μ)(AaP:∀n g,pK ν n g→∃f,P.funcs[n]? = some f∧f.body.isNone=false∧(f.name == "runtime.NumGoroutine")=false)
   {g:Nat} {n:Nat} {hs:List HV} {us:Array Value} (rB:(execOp a.eval o).run P w=(callFunc n us).run P w) (hg:pK ν n g) (hr:aC ν K w hs us.toList)
   {Kc:EV→Env→ab→Prop} {next:Act→World→Prop} {Q} (Z0:Spec P ν g hs H fun h H'=>Kc (.h h) e H') (hK:lM D ν w0 K0 H0 N a o.dst Kc next):o.upon P a next Q ((execOp a.eval o).run P w):=by
 obtain⟨f,hf,hb,hn⟩:=AaP n g hg;have AaQ:(callFunc n us).run P w = .ok (.enter n us) w:=by
   simp only[callFunc,Sem.run_bind,run_program,Result.andThen_ok,hf,hn,hb,Bool.false_eq_true,if_false,Sem.run_pure]
 rw[rB,AaQ,Oper.upon_enter];have:=Z0 n hg w K us.toList ao.hs hr;simp only[Array.toArray_toList] at this;refine this.mono ?_;rintro en w' ⟨u,h,H',K',rfl,h1,h2,h3,h4⟩;exact hK _ _ _ h4 _ _ _ _ (ao.step h3 h2) h1 T_
end
end Sm
namespace Sm
open Go
theorem rk{α:Type}:∀(a cs:List α) (off:Nat) (b:List α),bu (bu cs off a) (off+a.length) b=bu cs off (a++b)
 | [],cs,off,b=>by simp[bu]
 | x::a,cs,off,b=>by
   simp only[bu,List.cons_append,List.length_cons];rw[←rk a (cs.set off x) (off+1) b];congr 1;omega
section
variable {P:Program} {D:List (Nat×List HV)} {ν:Nat→Option Nat} {w0:World} {K0:Nat→Nat} {H0:ab} {N:Nat} {e:Env} {H:ab} {a:Act} {w:World} {K μ:Nat→Nat} {o:Oper}
theorem oE(ao:St D ν w0 K0 H0 N e H a w K μ){sz:Nat}:∀(ps:List (Nat×Operand)) (qs:List bj) (k:Nat) (us:Array Value) (hs:List HV),l7 ν k ps qs=true→e.cJ qs=some hs →
   hs.all HV.el=true→(∀h∈hs,h.aN=sz)→(k+hs.length)*sz≤us.size →
   ∃dr aR,Instr.fill (fun i=>some (i*sz,sz)) us (ps.map fun(i,x)=>(i,a.eval x))=some dr∧aC ν K w hs aR∧dr.toList=bu us.toList (k*sz) (flat aR)
 | [],[],k,us,hs,_,hh,_,_,_=>by
   simp only[Env.cJ,Option.some.injEq] at hh;subst hh;exact⟨us,[],rfl,by simp[aC],by simp[flat,bu]⟩
 | [],_::_,_,_,_,hk,_,_,_,_=>by simp[l7] at hk
 | _::_,[],_,_,_,hk,_,_,_,_=>by simp[l7] at hk
 | (i,x)::ps,y::qs,k,us,hs,hk,hh,eB,CO,hle=>by
   simp only[l7,Bool.and_eq_true,decide_eq_true_eq] at hk;obtain⟨⟨rfl,gG⟩,hk3⟩:=hk;simp only[Env.cJ] at hh;split at hh
   · rename_i h eP h1 h2;simp only[Option.some.injEq] at hh;subst hh;simp only[List.all_cons,Bool.and_eq_true] at eB;have hv:=aq ao gG h1;have da:=cF eB.1 hv;have hn:=CO h (by simp)
     simp only[List.length_cons] at hle;have AdJ:(i+1+eP.length)*sz≤us.size:=by rw[show i+1+eP.length=i+(eP.length+1) by omega];exact hle
     have Aej:i*sz+sz≤us.size:=by
       have:(i+1)*sz≤(i+1+eP.length)*sz:=Nat.mul_le_mul_right _ (by omega)
       rw[Nat.add_mul] at this;omega
     have hc:¬((a.eval x).cells.size≠sz∨i*sz+(a.eval x).cells.size > us.size):=by rw[da,hn];omega
     simp only[List.map_cons,Instr.fill];rw[if_neg (by simpa using hc)]
     have QI:=yW (i*sz) (a.eval x).cells us;obtain⟨dr,aR,g1,g2,g3⟩:=oE ao ps qs (i+1) ((a.eval x).cells.zipIdx.foldl (fun(cs:Array Value) (p:Value×Nat)=>cs.setIfInBounds (i*sz+p.2) p.1) us) eP hk3 h2 eB.2 (fun g hg=>CO g (by simp[hg]))
       (by have:((a.eval x).cells.zipIdx.foldl (fun(cs:Array Value) (p:Value×Nat)=>cs.setIfInBounds (i*sz+p.2) p.1) us).size=us.size:=by
             rw[←Array.length_toList,QI,mA,Array.length_toList]
           rw[this];exact AdJ)
     refine⟨dr,a.eval x::aR,g1,⟨_,_,rfl,hv,g2⟩,?_⟩;rw[g3,QI];have hl:(a.eval x).cells.toList.length=sz:=by rw[Array.length_toList,da,hn]
     have:=rk (a.eval x).cells.toList us.toList (i*sz) (flat aR);rw[hl] at this;rw[show (i+1)*sz=i*sz+sz by rw[Nat.add_mul];omega,this]
     simp[flat]
   · cases hh
theorem I8(ao:St D ν w0 K0 H0 N e H a w K μ){T len ps sz qs el z}(ho:o.op = .buildSlice T len ps)(hT:Sm.elemOf P T=some el)(da:cX P el=some sz)(h0:0 < sz)(hlen:len*sz≤2 ^ 24)(AV:len=qs.length)
   (hz:(P.info? el).bind (·.zero)=some z) (Na:z.cells.size=sz) (Js:l7 ν 0 ps.toList qs=true)
   {Kc} {next:Act→World→Prop} {Q} (hs:(aw.aO sz qs).step (Spec P ν) e H Kc) (hK:lM D ν w0 K0 H0 N a o.dst Kc next):o.upon P a next Q ((execOp a.eval o).run P w):=by
 have hu:=cw hT;obtain⟨i,hi,HR⟩:=Option.bind_eq_some_iff.1 hz;simp only[aw.step] at hs;split at hs
 · rename_i eP hh;obtain⟨h1,h2,h3⟩:=hs;have sB:eP.length=qs.length:=by
     have:∀(qs:List bj) (eP:List HV),e.cJ qs=some eP→eP.length=qs.length:=by
       intro qs
       induction qs with
       | nil=>intro eP h;simp[Env.cJ] at h;subst h;rfl
       | cons q qs ih =>
         intro eP h;simp only[Env.cJ] at h;split at h;{rename_i g gs _ hg;simp only[Option.some.injEq] at h;subst h;simp[ih gs hg]};{cases h}
     exact this qs eP hh
   obtain⟨dr,aR,g1,g2,g3⟩:=oE (sz:=sz) ao ps.toList qs 0 ((Array.range (len*sz)).map fun j=>z.cells[j % z.cells.size]!) eP Js hh h1 h2 (by simp;rw[sB,←AV];exact Nat.le_refl _)
   have gA:=b9 g2 h1 h2;have CG:dr.toList=flat aR:=by
     rw[g3,Nat.zero_mul,iV _ _ _ (by simp[gA,sB,←AV])]
     rw[List.take_zero,List.nil_append,List.drop_eq_nil_of_le (by simp[gA,sB,←AV]),List.append_nil]
   have dI:(execOp a.eval o).run P w = .ok (.value (.slice (some ⟨w.heap.size,0,none⟩) len len)) (w.alloc (.cells dr el)):=by
     by_cases Nx:len*sz=0
     · have e0:(Array.range (len*sz)).map (fun j=>z.cells[j % z.cells.size]!)=#[]:=by rw[Nx];simp
       rw[e0] at g1;simp only[execOp,ho,Instr.buildSlice,Sem.run_bind,run_underlying hu,Result.andThen_ok,run_sizeOf da,if_neg (show ¬len*sz > 2 ^ 24 by omega),if_pos Nx,Sem.run_pure,Array.toList_map]
       simp only[Nx,Array.range_zero',List.map_toArray,List.map_nil,g1,newRow,Sem.run_bind,run_newObj_alloc,Result.andThen_ok,Sem.run_pure]
     · simp only[execOp,ho,Instr.buildSlice,Sem.run_bind,run_underlying hu,Result.andThen_ok,run_sizeOf da,if_neg (show ¬len*sz > 2 ^ 24 by omega),if_neg Nx,zeroValue,typeInfo,run_program,hi,HR,Sem.run_pure,Array.toList_map,g1,newRow,run_newObj_alloc]
   rw[dI];apply upon_value;have qI:dr.size=eP.length*sz:=by rw[←Array.length_toList,CG,gA]
   obtain⟨x1,x2⟩:=l9 ao.hs dr el dr.size (Nat.le_refl _);refine hK _ _ _ h3 _ _ _ _ (ao.step x1 x2) ?_ T_;simp only[bO,rep];refine⟨some ⟨w.heap.size,0,none⟩,len,aR,by rw[sB,←AV],by rw[sB,AV];exact Nat.le_refl _,?_,by simp[sE,sB,←AV],h1,h2,g2.grow x1.grow,.inr ⟨_,0,rfl,?_,?_⟩⟩
   · have:len*1≤len*sz:=Nat.mul_le_mul_left _ h0;simp only[maxLen];omega
   · simp[qI]
   · rw[←CG];exact bQ (heap_alloc_new w _)
 · exact hs.elim
theorem pk{w':World}{K':Nat→Nat}{b n c:Nat}{us:Array Value}{el:TypeId}{sz:Nat}{es:List HV}{aR:List Value}{tk:Tk}(hb:w'.heap[b]? = some (.cells us el (0,0)))(eB:es.all HV.el=true)(CO:∀h∈es,h.aN=sz)
   (hr:aC ν K' w' es aR) (CG:us.toList.take (es.length*sz)=flat aR) (hK:es.length*sz≤K' b) (hn:n=es.length) (hc:es.length≤c) (hm:c≤maxLen) (JB:sE tk (some ⟨b,0,none⟩) es.length c) :
   rep ν K' w' (.sl tk sz es) (.slice (some ⟨b,0,none⟩) n c):=by
 subst hn;simp only[rep];refine⟨_,c,aR,rfl,hc,hm,JB,eB,CO,hr,.inr ⟨b,0,rfl,by omega,?_⟩⟩
 rw[←CG];exact bl (bQ hb) _
theorem I9{h:HV}{u:Value}{iB:Nat}{ys:List HV}(hr:rep ν K w h u)(hh:rdv h=some (iB,ys)) :
   ∃A c aR,u = .slice A ys.length c∧ys.all HV.el=true∧(∀y∈ys,y.aN=iB)∧aC ν K w ys aR ∧
     (ys=[]∨∃b off,A=some ⟨b,off,none⟩∧off+ys.length*iB≤K b∧cU w b off (flat aR)):=by
 unfold rdv at hh;split at hh;{simp only[Option.some.injEq,Prod.mk.injEq] at hh;obtain⟨rfl,rfl⟩:=hh;simp only[rep] at hr;obtain⟨A,cap,aR,g1,g2,g3,g4,g5,g6,g7,g8⟩:=hr;exact⟨A,cap,aR,g1,g5,g6,g7,g8⟩};{simp only[Option.some.injEq,Prod.mk.injEq] at hh;obtain⟨rfl,rfl⟩:=hh;simp only[rep] at hr;exact⟨none,0,[],hr,rfl,by simp,by simp[aC],.inl rfl⟩};{cases hh}
theorem dQ{b off:Nat}{us:List Value}(h:cU w b off us):∀j v,us[j]? = some v→w.cell? ((⟨b,off,none⟩:Addr).add j)=some v:=by
 intro j v hj;rw[cZ];exact h j v hj
theorem iP{t ty el:TypeId}{i:TypeInfo}(ht:P.underlying t=some (.slice el))(hi:P.info? el=some i){A B:Option Addr}{n c c':Nat}(CO:n≤c) :
   (Builtin.append_ #[t,t] ty #[.slice A n c,.slice B 0 c']).run P w = .ok (.slice A n c) w:=by
 have hf:(Builtin.firstCells i.size 0 (.slice B 0 c')).run P w = .ok #[] w:=by
   cases B with
   | none=>simp[Builtin.firstCells]
   | some b=>simp[Builtin.firstCells,loadCells,loadCellsFrom]
 cases A with
 | none=>simp[Builtin.append_,run_underlying ht,Go.sizeOf,typeInfo,hi,Builtin.lenOf,CO,hf]
 | some ad=>simp[Builtin.append_,run_underlying ht,Go.sizeOf,typeInfo,hi,Builtin.lenOf,CO,hf,storeCells]
theorem jg:∀{bI cs:List HV} {us:List Value},bo bI cs→aC ν K w bI us→aC ν K w cs us
 | [],[],us,_,h=>h
 | [],_::_,_,h,_=>h.elim
 | _::_,[],_,h,_=>h.elim
 | a::as,b::bs,us,h,hr=>by
   obtain⟨u,dr,rfl,h1,h2⟩:=hr;exact⟨u,dr,rfl,h.1 _ _ _ _ h1,jg h.2 h2⟩
theorem oO{H':ab}(hs:dS ν w K H)(h:H'.sub H):dS ν w K H':=by
 refine⟨fun b r hb=>?_,hs.fresh,hs.qD⟩;obtain⟨r',h1,h2⟩:=h b r hb;have h3:=hs.res b r' h1;rcases h2 with rfl | h2;{exact h3};{cases r'<;>cases r<;>simp only[P4] at h2;obtain⟨us,T,g1,g2,g3,g4⟩:=h3;exact⟨us,T,g1,g2,(by have g9:=jg h2.1 g3;have e9:=(aK g3).symm.trans (aK g9);rw[e9] at g9;exact g9),h2.2⟩}
theorem sa(ao:St D ν w0 K0 H0 N e H a w K μ){el:TypeId}{sz c:Nat}{xs ys:List HV}{vx vy:List Value}{z:List Value}(hx:aC ν K w xs vx)(hy:aC ν K w ys vy)(hex:xs.all HV.el=true)(hey:ys.all HV.el=true)
   (Qi:∀h∈xs,h.aN=sz) (hny:∀h∈ys,h.aN=sz) (hz:z.length=(c - (xs.length+ys.length))*sz) (hc:xs.length+ys.length≤c) (hm:c≤maxLen) :
   ∃K',St D ν w0 K0 H0 N e (H.bt w.heap.size (some (.lR ((xs.length+ys.length)*sz) (c*sz)))) a (w.drew.alloc (.cells (flat vx++flat vy++z).toArray el)) K' μ ∧
     rep ν K' (w.drew.alloc (.cells (flat vx++flat vy++z).toArray el)) (.sl (.lR w.heap.size c) sz (xs++ys)) (.slice (some ⟨w.heap.size,0,none⟩) (xs.length+ys.length) c):=by
 have hfx:=b9 hx hex Qi;have hfy:=b9 hy hey hny;have hd:=ao.draw (n:=w.drawn+1) (Nat.le_succ _);have da:(flat vx++flat vy++z).toArray.size=c*sz:=by
   simp only[List.size_toArray,List.length_append,hfx,hfy,hz,←Nat.add_mul];congr 1;omega
 obtain⟨x1,x2⟩:=J1 (w:=w.drew) hd.hs (flat vx++flat vy++z).toArray el ((xs.length+ys.length)*sz) (c*sz) (by rw[da];exact Nat.mul_le_mul_right _ hc) (by rw[da];exact Nat.le_refl _)
 have Jt:Grow w K w.drew K:=⟨fun _=>Nat.le_refl _,fun _ _ _=>rfl,fun _ _=>rfl⟩;refine⟨_,hd.step x1 x2,?_⟩;refine pk (us:=(flat vx++flat vy++z).toArray) (el:=el) (aR:=vx++vy) (by simpa using heap_alloc_new w.drew (.cells (flat vx++flat vy++z).toArray el)) (by rw[List.all_append,hex,hey];rfl) (fun h hh=>(List.mem_append.1 hh).elim (Qi h) (hny h))
   (((cA hx hy).grow Jt).grow x1.grow) ?_ (by simp) (by simp) (by simpa using hc) hm (by simp[sE])
 simp only[List.length_append];rw[show (xs.length+ys.length)*sz=(flat vx++flat vy).length by rw[List.length_append,hfx,hfy,Nat.add_mul],show flat (vx++vy)=flat vx++flat vy by simp[flat]]
 exact List.take_left
end
end Sm
namespace Sm
open Go
structure HY (P:Program) (size:Nat) (x:Value) (n:Nat) (news:List Value) (w:World):Prop where
 len:∀w':World,(Builtin.lenOf x).run P w' = .ok n w'
 cells:∀k,k≤n→(Builtin.firstCells size k x).run P w = .ok (news.take (k*size)).toArray w
 sD:(Builtin.firstCells size n x).run P w.drew = .ok news.toArray w.drew
 rG:news.length=n*size
section
variable {P:Program} {D:List (Nat×List HV)} {ν:Nat→Option Nat} {w0:World} {K0:Nat→Nat} {H0:ab} {N:Nat} {e:Env} {H:ab} {a:Act} {w:World} {K μ:Nat→Nat} {o:Oper}
theorem HY.JX{sz m c b off:Nat}{news:List Value}(hl:news.length=m*sz)(hc:cU w b off news):HY P sz (.slice (some ⟨b,off,none⟩) m c) m news w:=by
 refine⟨fun _=>rfl,fun k hk=>?_,?_,hl⟩;{refine run_firstCells_some w sz k ⟨b,off,none⟩ m c _ ?_ (dQ (bl hc _));rw[List.length_take,hl];exact Nat.min_eq_left (Nat.mul_le_mul_right _ hk)};{refine run_firstCells_some w.drew sz m ⟨b,off,none⟩ m c _ hl ?_;intro j v hj;have:=dQ hc j v hj;simpa using this}
theorem HY.Mr{sz:Nat}{A:Option Addr}{c:Nat}:HY P sz (.slice A 0 c) 0 [] w:=by
 have h0:∀w':World,(Builtin.firstCells sz 0 (.slice A 0 c)).run P w' = .ok #[] w':=by
   intro w';cases A with
   | none=>rfl
   | some ad =>
     have:=run_firstCells_some (P:=P) w' sz 0 ad 0 c [] (by simp) (by simp)
     simpa using this
 refine⟨fun _=>rfl,fun k hk=>?_,h0 _,by simp⟩
 have:k=0:=by omega
 subst this;simpa using h0 w
theorem l8:∀{es:List HV} {aR:List Value},aC ν K w es aR→es.all HV.el=true→aC ν K w (es.flatMap HV.cells) (flat aR)∧(es.flatMap HV.cells).all HV.one=true
 | [],aR,h,_=>by simp[aC] at h;subst h;exact⟨rfl,rfl⟩
 | e::es,aR,h,ha=>by
   simp only[aC] at h;obtain⟨u,dr,rfl,h1,h2⟩:=h;simp only[List.all_cons,Bool.and_eq_true] at ha;obtain⟨c1,c2⟩:=jl ha.1 h1;obtain⟨d1,d2⟩:=l8 h2 ha.2;simp only[List.flatMap_cons,flat] at d1 ⊢;exact⟨cA c1 d1,by rw[List.all_append,c2,d2];rfl⟩
theorem mH{sz:Nat}:∀{es:List HV},(∀e∈es,e.aN=sz)→(es.flatMap HV.cells).length=es.length*sz
 | [],_=>by simp
 | e::es,h=>by
   rw[List.flatMap_cons,List.length_append,mH (fun x hx=>h x (by simp[hx])),p8,h e (by simp),List.length_cons,Nat.succ_mul,Nat.add_comm]
theorem CM(hs:dS ν w K H){sz m:Nat}{y:HV}{u:Value}{ys:List HV}(hr:rep ν K w y u)(h:mW H sz y=some (m,ys)):∃news,HY P sz u m news w∧aC ν K w ys news∧ys.all HV.one=true:=by
 unfold mW at h;split at h;{rename_i tk iB es;split at h;{rename_i he;subst he;simp only[Option.some.injEq,Prod.mk.injEq] at h;obtain⟨rfl,rfl⟩:=h;simp only[rep] at hr;obtain⟨A,cap,aR,rfl,g2,g3,g4,g5,g6,g7,g8⟩:=hr;obtain⟨c1,c2⟩:=l8 g7 g5;rcases g8 with g8 | ⟨b,off,rfl,_,hc⟩;{subst g8;simp[aC] at g7;subst g7;exact⟨[],HY.Mr,by simpa[flat] using c1,c2⟩};{exact⟨_,HY.JX (b9 g7 g5 g6) hc,c1,c2⟩}};{cases h}};{simp only[Option.some.injEq,Prod.mk.injEq] at h;obtain⟨rfl,rfl⟩:=h;simp only[rep] at hr;subst hr;exact⟨[],HY.Mr,rfl,rfl⟩};{rename_i b off n c;split at h;{rename_i cs hb;split at h;{rename_i hle;simp only[Option.some.injEq,Prod.mk.injEq] at h;obtain⟨rfl,rfl⟩:=h;simp only[rep] at hr;subst hr;obtain⟨us,T,r1,r2,r3,r4⟩:=hs.res b _ hb;have hl:=aK r3;have h1:=cB (n*sz) (cC off r3);refine⟨((us.toList.take cs.length).drop off).take (n*sz),HY.JX ?_ ?_,h1,rH r4 off (n*sz)⟩;{rw[List.length_take,List.length_drop];omega};{have:=bl (dL (bl (bQ r1) cs.length) off) (n*sz);simpa using this}};{cases h}};{cases h}}
 · rename_i s;split at h
   · rename_i h1;subst h1;simp only[Option.some.injEq,Prod.mk.injEq] at h;obtain⟨rfl,rfl⟩:=h;simp only[rep] at hr;subst hr;have hlen:(s.data.toList.map fun b:UInt8=>Value.int .u8 b.toNat).length=s.size:=by rw[List.length_map,Array.length_toList];rfl
     have key:∀k,k≤s.size→((s.extract 0 k).data.map fun b:UInt8=>Value.int .u8 b.toNat)=((s.data.toList.map fun b:UInt8=>Value.int .u8 b.toNat).take (k*1)).toArray:=by
       intro k hk;apply Array.ext';rw[Nat.mul_one,Array.toList_map,ByteArray.data_extract,←List.map_take,Array.toList_extract];simp only[List.extract_eq_take_drop,Nat.sub_zero,List.drop_zero]
     refine⟨s.data.toList.map fun b:UInt8=>Value.int .u8 b.toNat,⟨fun _=>rfl,fun k hk=>?_,?_,by rw[hlen];omega⟩,?_,?_⟩
     · simp only[Builtin.firstCells,Sem.run_pure,key k hk]
     · simp only[Builtin.firstCells,Sem.run_pure,key s.size (Nat.le_refl _)];rw[List.take_of_length_le (by omega)]
     · rw[bP];have:∀l:List UInt8,aC ν K w (l.map gL) (l.map fun b:UInt8=>Value.int .u8 b.toNat):=by
         intro l
         induction l with
         | nil=>rfl
         | cons b l ih=>exact⟨_,_,rfl,rfl,ih⟩
       exact this _
     · rw[bP,List.all_map,List.all_eq_true];intro b _;rfl
   · cases h
 · cases h
theorem Pc(ao:St D ν w0 K0 H0 N e H a w K μ){el:TypeId}{cs:List HV}{us z:List Value}(hr:aC ν K w cs us)(h1:cs.all HV.one=true)(Ae:∀v∈z,v.oneCell'=true) :
   St D ν w0 K0 H0 N e (H.bt w.heap.size (some (.obj (cs++z.map .v)))) a (w.drew.alloc (.cells (us++z).toArray el)) K μ:=by
 have hd:=ao.draw (n:=w.drawn+1) (Nat.le_succ _);have Jt:Grow w K w.drew K:=⟨fun _=>Nat.le_refl _,fun _ _ _=>rfl,fun _ _=>rfl⟩;have hz:∀(z:List Value) (w:World),aC ν K w (z.map .v) z:=by
   intro z w
   induction z with
   | nil=>rfl
   | cons v z ih=>exact⟨v,z,rfl,rfl,ih⟩
 obtain⟨x1,x2⟩:=ke (w:=w.drew) hd.hs (us++z).toArray el (cs++z.map .v) (by simpa using cA (hr.grow Jt) (hz z _)) (by
   rw[List.all_append,h1,Bool.true_and,List.all_map,List.all_eq_true];intro v hv;simpa[HV.one] using Ae v hv)
 exact hd.step x1 x2
theorem yi{z:Value}(Ae:z.cells.all Value.oneCell'=true)(h0:0 < z.cells.size)(k:Nat):∀v∈(Builtin.zeroCells z.cells k).toList,v.oneCell'=true:=by
 intro v hv;simp only[Builtin.zeroCells,Array.toList_map,Array.toList_range,List.mem_map,List.mem_range] at hv;obtain⟨i,_,rfl⟩:=hv;have bN:i % z.cells.size < z.cells.size:=Nat.mod_lt _ h0;rw[getElem!_pos z.cells _ bN];exact(Array.all_eq_true.mp Ae) _ bN
theorem Pa(ao:St D ν w0 K0 H0 N e H a w K μ){x y:Operand}{t el:TypeId}{i:TypeInfo}{z:Value}{sz bytes:Nat}{x' y':bj}
   (hu:P.underlying t=some (.slice el)) (hi:P.info? el=some i) (pn:i.size=sz) (YQ:i.bytes=bytes) (h0:0 < sz) (yB:0 < bytes) (hz:i.zero=some z) (Na:z.cells.size=sz) (Ae:z.cells.all Value.oneCell'=true) (hx:au ν x x'=true) (hy:au ν y y'=true)
   (base:∀u w',(Builtin.append_ #[t,t] o.type #[a.eval x,a.eval y]).run P w = .ok u w'→(execOp a.eval o).run P w = .ok (.value u) w')
   {Kc:EV→Env→ab→Prop} {next:Act→World→Prop} {Q} (hs:match e.hv x',e.hv y' with
   | some x,some y=>nW sz bytes x y H fun h H'=>Kc (.h h) e H'
   | _,_=>False) (hK:lM D ν w0 K0 H0 N a o.dst Kc next):o.upon P a next Q ((execOp a.eval o).run P w):=by
 split at hs
 · rename_i p q h1 h2;have e1:=aq ao hx h1;have e2:=aq ao hy h2;have nM:∀k,k*bytes≤140737488355328→k≤140737488355328:=fun k hk=>Nat.le_trans (Nat.le_mul_of_pos_right k yB) hk;unfold nW at hs;split at hs;{exact hs.elim}
   · rename_i m ys P2;obtain⟨news,src,n1,n2⟩:=CM (P:=P) ao.hs e2 P2;have Va:news.take (m*sz)=news:=List.take_of_length_le (by rw[src.rG];exact Nat.le_refl _)
     have Zy:=src.cells m (Nat.le_refl _);rw[Va] at Zy;have nothing:∀A n c,m=0→n≤c→a.eval x = .slice A n c→(execOp a.eval o).run P w = .ok (.value (.slice A n c)) w:=by
       intro A n c hm hle hA;subst hm;refine base _ _ ?_;rw[hA];have Mm:news=[]:=List.length_eq_zero_iff.mp (by rw[src.rG];simp)
       subst Mm;cases A<;>simp[Builtin.append_,run_underlying hu,Go.sizeOf,typeInfo,hi,src.len,hle,pn,Zy,storeCells]
     have grow:∀A n c (cs:List HV) (sC:List Value),a.eval x = .slice A n c→(Builtin.firstCells sz n (.slice A n c)).run P w.drew = .ok sC.toArray w.drew→aC ν K w cs sC→cs.all HV.one=true →
         n≤c→c < n+m→iC H sz bytes (n+m) (cs++ys) (fun h H'=>Kc (.h h) e H')→o.upon P a next Q ((execOp a.eval o).run P w):=by
       intro A n c cs sC hA hold I4 HW hle bN ⟨s1,s2⟩;have lL:=nM _ s1;have pM:Builtin.nextslicecap (n+m) c*i.bytes≤281474976710656:=by rw[YQ];exact growslice_fits (by omega) s1
       have hn:¬(n+m≤c):=by omega
       have UL:¬(9223372036854775807 < ((n:Int)+(m:Int))):=by omega
       have UM:¬(281474976710656 < Builtin.nextslicecap (n+m) c*i.bytes):=by omega
       have dI:(Builtin.append_ #[t,t] o.type #[.slice A n c,a.eval y]).run P w =
           .ok (.slice (some ⟨w.heap.size,0,none⟩) (n+m) (grownCap w (n+m) c el)) (w.drew.alloc (.cells ((sC++news)++(Builtin.zeroCells z.cells (grownCap w (n+m) c el - (n+m))).toList).toArray el)):=by
         simp[Builtin.append_,run_underlying hu,Go.sizeOf,typeInfo,zeroValue,hi,hz,pn,src.len,hn,UL,UM,Question.forced,src.sD,hold,newRow,grownCap];congr 2;apply Array.toList_inj.1;simp[List.append_assoc]
       rw[base _ _ (by rw[hA];exact dI)]
       apply upon_value;have xZ:=grownCap_ge w (n+m) c el;have uM:=grownCap_le_maxLen w (n+m) c el (by simp only[maxLen];omega)
       have Zw:(Builtin.zeroCells z.cells (grownCap w (n+m) c el - (n+m))).toList.length=(grownCap w (n+m) c el - (n+m))*sz:=by rw[Array.length_toList,size_zeroCells,Na]
       have I5:=yi Ae (by omega) (grownCap w (n+m) c el - (n+m))
       have jL:=Pc (el:=el) (z:=(Builtin.zeroCells z.cells (grownCap w (n+m) c el - (n+m))).toList) ao (cA I4 n1) (by rw[List.all_append,HW,n2];rfl) I5
       refine hK _ _ _ (s2 w.heap.size (grownCap w (n+m) c el) _ (ao.hs.c9 (Nat.le_refl _)) xZ uM (by rw[List.length_map];exact Zw) ?_) _ _ _ _ jL (by simp[bO,rep]) trivial
       rw[List.all_map,List.all_eq_true];intro v hv;simpa[HV.one] using I5 v hv
     split at hs
     · simp only[rep] at e1
       by_cases hm:m=0
       · rw[nothing none 0 0 hm (Nat.le_refl _) e1];apply upon_value;exact hK _ _ _ (hs.1 hm) _ _ _ _ ao (by simp[bO,rep]) trivial
       · have h3:=hs.2 hm;refine grow none 0 0 [] [] e1 (by simpa using run_firstCells_none (P:=P) w.drew sz 0 0 0) rfl rfl (Nat.le_refl _) (by omega) ?_
         simpa using h3
     · rename_i iB xs;obtain⟨rfl,s1,s2⟩:=hs;have KX:=e1;simp only[rep] at e1;obtain⟨A1,cap,gK,g1,g2,g3,g4,g5,g6,g7,g8⟩:=e1;simp only[sE] at g4;subst g4;obtain⟨c1,c2⟩:=l8 g7 g5
       by_cases hm:m=0
       · rw[nothing A1 xs.length xs.length hm (Nat.le_refl _) g1];apply upon_value;exact hK _ _ _ (s1 hm) _ _ _ _ ao (by simp only[bO];rw[←g1];exact KX) trivial
       · refine grow A1 xs.length xs.length _ (flat gK) g1 ?_ c1 c2 (Nat.le_refl _) (by omega) (s2 hm)
         rcases g8 with g8 | ⟨b',Mp,rfl,_,dW⟩;{subst g8;simp[aC] at g7;subst g7;exact(HY.Mr (P:=P) (w:=w)).sD};{exact(HY.JX (P:=P) (b9 g7 g5 g6) dW).sD}
     · rename_i b off n c;obtain⟨cs,hb,s1,s2,s3,s4⟩:=hs;simp only[rep] at e1;have CO:n*sz≤c*sz:=Nat.mul_le_mul_right _ s1
       by_cases gm:n+m≤c
       · have hle:off+n*sz+news.length≤cs.length:=by
           rw[src.rG];have:=Nat.mul_le_mul_right sz gm;rw[Nat.add_mul] at this;omega
         obtain⟨w',r1,r2,r3⟩:=mV (P:=P) ao.hs hb (ns:=ys) (vs:=news) (off:=off+n*sz) hle n1 n2;have hr1:=r1 0 rfl;have dI:(Builtin.append_ #[t,t] o.type #[.slice (some ⟨b,off,none⟩) n c,a.eval y]).run P w = .ok (.slice (some ⟨b,off,none⟩) (n+m) c) w':=by
           simp[Builtin.append_,run_underlying hu,Go.sizeOf,typeInfo,hi,pn,src.len,gm,Zy,cZ,hr1]
         rw[base _ _ (by rw[e1];exact dI)]
         apply upon_value;exact hK _ _ _ (s3 gm) _ _ _ _ (ao.step r2 r3) (by simp[bO,rep]) trivial
       · obtain⟨us,T,r1,r2,r3,r4⟩:=ao.hs.res b _ hb;have hl:=aK r3;have h3:=cB (n*sz) (cC off r3);refine grow _ n c _ _ e1 ?_ h3 (rH r4 off (n*sz)) s1 (by omega) (s4 (by omega))
         have JW:=bl (dL (bl (bQ r1) cs.length) off) (n*sz);exact(HY.JX (P:=P) (w:=w) (c:=c) (m:=n) (by rw[List.length_take,List.length_drop];omega) (by simpa using JW)).sD
     · exact hs.elim
 · exact hs.elim
end
end Sm
namespace Sm
open Go
section
variable {P:Program} {D:List (Nat×List HV)} {ν:Nat→Option Nat} {w0:World} {K0:Nat→Nat} {H0:ab} {N:Nat} {e:Env} {H:ab} {a:Act} {w:World} {K μ:Nat→Nat} {o:Oper}
theorem th{H H':ab}(h:H'.sub H){b:Nat}(hb:H b=none):H' b=none:=by
 cases hh:H' b with
 | none=>rfl
 | some r=>obtain⟨r',h1,_⟩:=h b r hh;rw[h1] at hb;cases hb
theorem ui(H:ab):H.sub H:=fun _ r h=>⟨r,h,.inl rfl⟩
theorem Ext.sub{φ:Prop}{w':World}{K':Nat→Nat}{H' uI:ab}(h:Ext φ w K H w' K' H')(hs:uI.sub H'):Ext φ w K H w' K' uI:=
 ⟨h.os,h.tape,h.output,h.size,h.drawn,h.grow,fun b hb hH=>by obtain⟨h1,h2,h3⟩:=h.same b hb hH;exact⟨h1,h2,th hs h3⟩⟩
theorem St.sub(ao:St D ν w0 K0 H0 N e H a w K μ){H':ab}(h:H'.sub H):St D ν w0 K0 H0 N e H' a w K μ:=
 ⟨oO ao.hs h,ao.sz,ao.df,ao.slot,fun k cs hk=>by obtain⟨h1,h2,h3⟩:=ao.box k cs hk;exact⟨h1,th h h2,h3⟩,ao.inj,ao.ext.sub h⟩
theorem St.le(ao:St D ν w0 K0 H0 N e H a w K μ){e':Env}(h:e'.le e):St D ν w0 K0 H0 N e' H a w K μ:=by
 refine⟨ao.hs,ao.sz,ao.df,fun t x hx=>?_,fun k cs hk=>?_,fun i j c c' hi hj=>?_,ao.ext⟩
 · obtain⟨x',h1,h2⟩:=h.sl t x hx;obtain⟨s1,s2⟩:=ao.slot t x' h1;rcases h2 with rfl | h2
   · refine⟨s1,?_⟩;cases x' with
     | h x=>trivial
     | lp k o=>exact h.lp t k o hx
   · cases x'<;>cases x<;>simp only[CQ] at h2;exact⟨h2 _ _ _ _ s1,T_⟩
 · obtain⟨bI,h1,h2⟩:=h.bx k cs hk;have h3:=ao.box k bI h1;rcases h2 with rfl | h2;{exact h3};{obtain⟨g1,g2,us,T,g3,g4,g5,g6⟩:=h3;exact⟨g1,g2,us,T,g3,g4,jg h2.1 g5,h2.2⟩}
 · obtain⟨c1,h1,_⟩:=h.bx i c hi;obtain⟨c2,h2,_⟩:=h.bx j c' hj;exact ao.inj i j c1 c2 h1 h2
theorem qp{t ty el T:TypeId}{i:TypeInfo}(ht:P.underlying t=some (.slice el))(hi:P.info? el=some i)
   (g Ck YN:Nat) (cur:Array Value) (hg:w.heap[g]? = some (.cells cur T (0,0)))
   (ad:Addr) (m c:Nat) (news:List Value) (hl:news.length=m*i.size) (Mm:∀j u,news[j]? = some u→w.cell? (ad.add j)=some u) (h1:∀u∈news,u.oneCell'=true)
   (gm:Ck+m≤YN) (pM:Ck*i.size+news.length≤cur.size) :
   (Builtin.append_ #[t,t] ty #[.slice (some ⟨g,0,none⟩) Ck YN,.slice (some ad) m c]).run P w =
     .ok (.slice (some ⟨g,0,none⟩) (Ck+m) YN) (w.setRow g (cur.toList.take (Ck*i.size)++news++cur.toList.drop (Ck*i.size+news.length)).toArray):=by
 have hf:=run_firstCells_some (P:=P) w i.size m ad m c news hl Mm;have ao:=run_storeCells_at P g (Ck*i.size) T news 0 cur w hg (by simpa using pM) h1
 simp only[Nat.add_zero] at ao;simp[Builtin.append_,run_underlying ht,Go.sizeOf,typeInfo,hi,Builtin.lenOf,gm,hf,cZ,ao]
theorem Mn(ao:St D ν w0 K0 H0 N e H a w K μ){b n m c sz:Nat}{us:Array Value}{T:TypeId}{news:List Value}(hb:w.heap[b]? = some (.cells us T (0,0)))(hH:H b=some (.lR (n*sz) (c*sz)))(hKb:K b=n*sz)(kQ:c*sz≤us.size)
   (hl:news.length=m*sz) (gm:n+m≤c) :
   St D ν w0 K0 H0 N e ((H.bt b none).bt b (some (.lR ((n+m)*sz) (c*sz)))) a (w.setRow b (us.toList.take (n*sz)++news++us.toList.drop (n*sz+news.length)).toArray) (fun x=>if x=b then (n+m)*sz else K x) μ ∧
   Grow w K (w.setRow b (us.toList.take (n*sz)++news++us.toList.drop (n*sz+news.length)).toArray) (fun x=>if x=b then (n+m)*sz else K x):=by
 have hle:(n+m)*sz≤c*sz:=Nat.mul_le_mul_right _ gm;have Aek:(n+m)*sz=n*sz+m*sz:=Nat.add_mul _ _ _;have HX:us.toList.length=us.size:=Array.length_toList;have hg:Grow w K (w.setRow b (us.toList.take (n*sz)++news++us.toList.drop (n*sz+news.length)).toArray) (fun x=>if x=b then (n+m)*sz else K x):=by
   refine⟨fun x=>?_,fun x j hj=>?_,fun x hx=>?_⟩
   · by_cases h:x=b
     · subst h;simp only[if_true];omega
     · simp[h]
   · by_cases h:x=b
     · subst h;rw[hKb] at hj;rw[cell_of_row w x j us T (0,0) hb,cell_of_row _ x j _ T (0,0) (setRow_heap w x us _ T _ hb)];simp only[List.getElem?_toArray];rw[List.append_assoc,List.getElem?_append_left (by rw[List.length_take];omega),List.getElem?_take,if_pos hj]
       simp
     · exact cell_setRow_other w b _ _ h
   · by_cases h:x=b
     · subst h;have h0:0 < n*sz:=by rw[←hKb];exact hx
       simp only[uh,hb,setRow_heap w x us _ T _ hb];simp only[List.size_toArray,List.length_append,List.length_take,List.length_drop];omega
     · exact cS (setRow_other w b x _ h)
 have da:(us.toList.take (n*sz)++news++us.toList.drop (n*sz+news.length)).toArray.size=us.size:=by
   simp only[List.size_toArray,List.length_append,List.length_take,List.length_drop];omega
 have hx:Ext (quiet ν) w K H (w.setRow b (us.toList.take (n*sz)++news++us.toList.drop (n*sz+news.length)).toArray) (fun x=>if x=b then (n+m)*sz else K x) ((H.bt b none).bt b (some (.lR ((n+m)*sz) (c*sz)))):=by
   refine⟨rfl,rfl,rfl,by simp,fun _=>Nat.le_refl _,hg,fun x hx hn=>?_⟩
   have eJ:x≠b:=by rintro rfl;rw[hH] at hn;cases hn
   exact⟨setRow_other w b x _ eJ,by simp[eJ],by simp[ab.bt,eJ,hn]⟩
 refine⟨ao.step hx ⟨fun x r hr=>?_,fun x AK=>?_,ao.hs.qD.grow hg⟩,hg⟩
 · by_cases h:x=b
   · subst h;simp only[ab.bt,if_true,Option.some.injEq] at hr;subst hr;exact⟨_,T,setRow_heap w x us _ T _ hb,by simp,by rw[da];omega,by rw[da];exact kQ⟩
   · simp only[ab.bt,if_neg h] at hr;exact(ao.hs.res x r hr).move hg (setRow_other w b x _ h) (by simp[h])
 · have:=jq hb;simp only[size_setRow] at AK;rw[if_neg (by omega)];exact ao.hs.fresh x AK
theorem xL{P:Program}{w:World}{t t' el:TypeId}(hu:P.underlying t=some (.slice el))(YO:wI P t'=true)(ty:TypeId)(x y:Value) :
   (Builtin.append_ #[t,t'] ty #[x,y]).run P w=(Builtin.append_ #[t,t] ty #[x,y]).run P w:=by
 unfold wI at YO;cases hd:P.underlying t' with
 | none=>rw[hd] at YO;cases YO
 | some d' =>
   rw[hd] at YO;have h2:∀w,(underlying t').run P w = .ok d' w:=run_underlying hd;have h3:∀w,(underlying t).run P w = .ok (.slice el) w:=run_underlying hu;unfold Builtin.append_;simp only[show (#[t,t']:Array TypeId)[0]? = some t from rfl,show (#[t,t']:Array TypeId)[1]? = some t' from rfl,show (#[t,t]:Array TypeId)[0]? = some t from rfl,show (#[t,t]:Array TypeId)[1]? = some t from rfl,show (#[x,y]:Array Value)[0]? = some x from rfl,show (#[x,y]:Array Value)[1]? = some y from rfl,Sem.run_bind,h3,Result.andThen_ok];cases x<;>simp only[Sem.run_bind];refine congrArg (fun f=>Result.andThen _ f) ?_;funext sz w';simp only[Sem.run_bind,h2,h3,Result.andThen_ok,Sem.run_pure];cases d'<;>first | rfl | cases YO
theorem YP(ao:St D ν w0 K0 H0 N e H a w K μ){c:Call}{x y:Operand}{t el:TypeId}{i:TypeInfo}{z:Value}{sz bytes:Nat}{x' y':bj}(ho:o.op = .call c)(hc:c.callee = .builtin .append)(dD:c.args.toList=[x,y]){t':TypeId}(ye:c.argTypes.toList=[t,t'])(YO:wI P t'=true)
   (hT:Sm.elemOf P t=some el) (hi:P.info? el=some i) (pn:i.size=sz) (YQ:i.bytes=bytes) (h0:0 < sz) (yB:0 < bytes) (hz:i.zero=some z) (Na:z.cells.size=sz) (Ae:z.cells.all Value.oneCell'=true) (hx:au ν x x'=true) (hy:au ν y y'=true)
   {Kc} {next:Act→World→Prop} {Q} (hs:(aw.app sz bytes x' y').step (Spec P ν) e H Kc) (hK:lM D ν w0 K0 H0 N a o.dst Kc next):o.upon P a next Q ((execOp a.eval o).run P w):=by
 have ha:=sw dD;have ht:=sw ye;have hu:=cw hT;have base:∀u w',(Builtin.append_ #[t,t] o.type #[a.eval x,a.eval y]).run P w = .ok u w'→(execOp a.eval o).run P w = .ok (.value u) w':=by
   intro u w' h;have e0:=xL (P:=P) (w:=w) hu YO o.type (a.eval x) (a.eval y);simp[execOp,ho,resolve,hc,ha,ht,invoke,builtin,e0,h]
 simp only[aw.step] at hs;rcases hs with hs | hs
 rotate_left
 · exact Pa ao hu hi pn YQ h0 yB hz Na Ae hx hy base hs hK
 have LA:∀iB ys,(e.hv y').bind rdv=some (iB,ys)→∃A c aR,a.eval y = .slice A ys.length c∧ys.all HV.el=true∧(∀y∈ys,y.aN=iB)∧aC ν K w ys aR ∧
     (ys=[]∨∃b off,A=some ⟨b,off,none⟩∧off+ys.length*iB≤K b∧cU w b off (flat aR)):=by
   intro iB ys h;obtain⟨h',h1,h2⟩:=Option.bind_eq_some_iff.1 h;exact I9 (aq ao hy h1) h2
 have nM:∀k,k*bytes≤140737488355328→k≤140737488355328:=fun k hk=>Nat.le_trans (Nat.le_mul_of_pos_right k yB) hk;have P3:∀k,(Builtin.zeroCells z.cells k).toList.length=k*sz:=fun k=>by rw[Array.length_toList,size_zeroCells,Na]
 split at hs
 ·
   rename_i iB ys xY Nt;have e1:=aq ao hx xY;simp only[rep] at e1;obtain⟨A,cc,aR,f1,f2,f3,f4,f5⟩:=LA _ _ Nt;obtain⟨s1,s2,s3⟩:=hs
   by_cases qT:ys=[]
   · have hr:=iP (P:=P) (w:=w) (ty:=o.type) hu hi (A:=none) (B:=A) (n:=0) (c:=0) (c':=cc) (Nat.le_refl _);rw[base _ _ (by rw[e1,f1,qT];exact hr)]
     apply upon_value;exact hK _ _ _ (s2 qT) _ _ _ _ ao (by simp[bO,rep]) trivial
   · obtain⟨s4,s5⟩:=s3 qT;have Mo:=s1 qT;subst Mo;rcases f5 with f5 | ⟨b,off,rfl,f6,f7⟩;{exact absurd f5 qT}
     · have gA:=b9 f4 f2 f3;have uL:0 < ys.length:=List.length_pos_iff.2 qT;have lL:=nM _ s4;have hr:=run_append_nil (P:=P) w t o.type el i z hu hi hz ⟨b,off,none⟩ ys.length cc (flat aR) (by rw[gA,pn]) (dQ f7) uL (by omega) (by rw[YQ];omega)
       rw[base _ _ (by rw[e1,f1];exact hr)]
       apply upon_value;have xZ:=grownCap_ge w ys.length 0 el;obtain⟨K',n1,n2⟩:=sa (el:=el) (sz:=iB) (c:=grownCap w ys.length 0 el) (xs:=[]) (vx:=[]) (z:=(Builtin.zeroCells z.cells (grownCap w ys.length 0 el - ys.length)).toList) ao (by simp[aC]) f4 rfl f2 (by simp) f3 (by rw[P3];simp) (by simpa using xZ)
         (grownCap_le_maxLen w _ 0 el (by simp only[maxLen];omega))
       simp only[List.length_nil,Nat.zero_add,List.nil_append,flat,List.flatMap_nil] at n1 n2;have hw:(w.drew.alloc (.cells ((flat aR).toArray++Builtin.zeroCells z.cells (grownCap w ys.length 0 el - ys.length)) el))=w.drew.alloc (.cells ((flat aR)++(Builtin.zeroCells z.cells (grownCap w ys.length 0 el - ys.length)).toList).toArray el):=by
         congr 2;apply Array.toList_inj.1;simp
       rw[hw];exact hK _ _ _ (s5 w.heap.size _ (ao.hs.c9 (Nat.le_refl _))) _ _ _ _ n1 n2 T_
 ·
   rename_i UR xs iB ys xY Nt;have e1:=aq ao hx xY;obtain⟨rfl,s1,s2,s3⟩:=hs;have KX:=e1;simp only[rep] at e1;obtain⟨A1,cap,gK,g1,g2,g3,g4,g5,g6,g7,g8⟩:=e1;simp only[sE] at g4;subst g4;obtain⟨A,cc,aR,f1,f2,f3,f4,f5⟩:=LA _ _ Nt
   by_cases qT:ys=[]
   · have hr:=iP (P:=P) (w:=w) (ty:=o.type) hu hi (A:=A1) (B:=A) (n:=xs.length) (c:=xs.length) (c':=cc) (Nat.le_refl _);rw[base _ _ (by rw[g1,f1,qT];exact hr)]
     apply upon_value;exact hK _ _ _ (s2 qT) _ _ _ _ ao (by simp only[bO];rw[←g1];exact KX) trivial
   · obtain⟨s4,s5⟩:=s3 qT;have Mo:=s1 qT;subst Mo;rcases f5 with f5 | ⟨b,off,rfl,f6,f7⟩;{exact absurd f5 qT}
     · have gA:=b9 f4 f2 f3;have Pb:=b9 g7 g5 g6;have uL:0 < ys.length:=List.length_pos_iff.2 qT;have lL:=nM _ s4;cases A1 with
       | none =>
         have hxs:xs=[]:=by
           rcases g8 with g8 | ⟨_,_,hA,_⟩;{exact g8};{cases hA}
         subst hxs;simp only[List.length_nil,Nat.zero_add] at s4 g1;have hr:=run_append_nil (P:=P) w t o.type el i z hu hi hz ⟨b,off,none⟩ ys.length cc (flat aR) (by rw[gA,pn]) (dQ f7) uL (by omega) (by rw[YQ];omega)
         rw[base _ _ (by rw[g1,f1];exact hr)]
         apply upon_value;have xZ:=grownCap_ge w ys.length 0 el;obtain⟨K',n1,n2⟩:=sa (el:=el) (sz:=iB) (c:=grownCap w ys.length 0 el) (xs:=[]) (vx:=[]) (z:=(Builtin.zeroCells z.cells (grownCap w ys.length 0 el - ys.length)).toList) ao (by simp[aC]) f4 rfl f2 (by simp) f3 (by rw[P3];simp) (by simpa using xZ)
           (grownCap_le_maxLen w _ 0 el (by simp only[maxLen];omega))
         have hw:(w.drew.alloc (.cells ((flat aR).toArray++Builtin.zeroCells z.cells (grownCap w ys.length 0 el - ys.length)) el))=w.drew.alloc (.cells (flat []++(flat aR)++(Builtin.zeroCells z.cells (grownCap w ys.length 0 el - ys.length)).toList).toArray el):=by
           congr 2;apply Array.toList_inj.1;simp[flat]
         rw[hw];have hk:=s5 w.heap.size (grownCap w ys.length 0 el) (ao.hs.c9 (Nat.le_refl _));refine hK _ _ _ hk _ _ _ _ n1 ?_ T_;simp only[bO];simpa using n2
       | some ad =>
         have holds:∀j u,(flat gK)[j]? = some u→w.cell? (ad.add j)=some u:=by
           rcases g8 with g8 | ⟨b',Mp,hA,_,dW⟩;{subst g8;simp[aC] at g7;subst g7;simp[flat]};{simp only[Option.some.injEq] at hA;subst hA;exact dQ dW}
         have hr:=run_append_grow (P:=P) w t o.type el i z hu hi hz ad xs.length xs.length (flat gK) (by rw[Pb,pn]) holds ⟨b,off,none⟩ ys.length cc (flat aR) (by rw[gA,pn]) (dQ f7) (by omega) (by omega) (by
           rw[YQ];exact growslice_fits (by omega) s4)
         rw[base _ _ (by rw[g1,f1];exact hr)]
         apply upon_value;have xZ:=grownCap_ge w (xs.length+ys.length) xs.length el;obtain⟨K',n1,n2⟩:=sa (el:=el) (sz:=iB) (c:=grownCap w (xs.length+ys.length) xs.length el) (z:=(Builtin.zeroCells z.cells (grownCap w (xs.length+ys.length) xs.length el - (xs.length+ys.length))).toList) ao g7 f4 g5 f2 g6 f3 (by rw[P3]) xZ
           (grownCap_le_maxLen w _ _ el (by simp only[maxLen];omega))
         have hw:(w.drew.alloc (.cells ((flat gK).toArray++(flat aR).toArray++Builtin.zeroCells z.cells (grownCap w (xs.length+ys.length) xs.length el - (xs.length+ys.length))) el))=w.drew.alloc (.cells (flat gK++(flat aR)++(Builtin.zeroCells z.cells (grownCap w (xs.length+ys.length) xs.length el - (xs.length+ys.length))).toList).toArray el):=by
           congr 2;apply Array.toList_inj.1;simp
         rw[hw];exact hK _ _ _ (s5 w.heap.size _ (ao.hs.c9 (Nat.le_refl _))) _ _ _ _ n1 n2 T_
 ·
   rename_i b c1 UR xs iB ys xY Nt;have e1:=aq ao hx xY;obtain⟨rfl,s1,s2,s3,s4⟩:=hs;have KX:=e1;simp only[rep] at e1;obtain⟨A1,cap,gK,g1,g2,g3,g4,g5,g6,g7,g8⟩:=e1;simp only[sE] at g4;obtain⟨rfl,rfl⟩:=g4;obtain⟨A,cc,aR,f1,f2,f3,f4,f5⟩:=LA _ _ Nt;obtain⟨us,T,t1,t2,t3,t4⟩:=ao.hs.res b _ s2;have Pb:=b9 g7 g5 g6;have Mq:cU w b 0 (flat gK):=by
     rcases g8 with g8 | ⟨b',Mp,hA,_,dW⟩;{subst g8;simp[aC] at g7;subst g7;intro j x hj;simp[flat] at hj};{simp only[Option.some.injEq,Addr.mk.injEq,and_true] at hA;obtain⟨rfl,rfl⟩:=hA;exact dW}
   by_cases qT:ys=[]
   · subst qT;have hr:=iP (P:=P) (w:=w) (ty:=o.type) hu hi (A:=some ⟨b,0,none⟩) (B:=A) (n:=xs.length) (c:=cap) (c':=cc) g2;rw[base _ _ (by rw[g1,f1];exact hr)]
     apply upon_value;have hk:=s4 b cap (.inl rfl);have hH:(H.bt b none).bt b (some (.lR ((xs.length+0)*UR) (cap*UR)))=H:=by
       funext q;simp only[ab.bt];split;{rename_i hq;subst hq;rw[s2];simp};{rfl}
     simp only[List.length_nil,List.append_nil] at hk;rw[hH] at hk;exact hK _ _ _ hk _ _ _ _ ao (by simp only[bO];rw[←g1];exact KX) trivial
   · have Mo:=s1 qT;subst Mo;rcases f5 with f5 | ⟨b2,off,rfl,f6,f7⟩;{exact absurd f5 qT}
     · have gA:=b9 f4 f2 f3;have uL:0 < ys.length:=List.length_pos_iff.2 qT;have lL:=nM _ s3
       by_cases gm:xs.length+ys.length≤cap
       · have hle:(xs.length+ys.length)*iB≤cap*iB:=Nat.mul_le_mul_right _ gm;have hr:=qp (P:=P) (ty:=o.type) hu hi b xs.length cap us t1 ⟨b2,off,none⟩ ys.length cc (flat aR) (by rw[gA,pn]) (dQ f7) (yY f4 f2) gm (by rw[gA,pn];rw[Nat.add_mul] at hle;omega)
         rw[pn] at hr;rw[base _ _ (by rw[g1,f1];exact hr)]
         apply upon_value;obtain⟨r1,r2⟩:=Mn (sz:=iB) ao t1 s2 t2 t4 gA gm;refine hK _ _ _ (s4 b cap (.inl rfl)) _ _ _ _ r1 ?_ T_;simp only[bO];refine pk (aR:=gK++aR) (setRow_heap w b us _ T _ t1) (by rw[List.all_append,g5,f2];rfl) (fun h hh=>(List.mem_append.1 hh).elim (g6 h) (f3 h)) ((cA g7 f4).grow r2) ?_ (by simp) (by simp) (by simpa using gm) g3 (by simp[sE])
         have hvx:us.toList.take (xs.length*iB)=flat gK:=by
           apply List.ext_getElem?;intro j;rcases Nat.lt_or_ge j (xs.length*iB) with hj | hj
           · have h5:(flat gK)[j]? = some ((flat gK)[j]'(by omega)):=List.getElem?_eq_getElem (by omega)
             have h6:=Mq j _ h5;rw[cell_of_row w b _ us T (0,0) t1] at h6;simp only[Nat.zero_add] at h6;rw[List.getElem?_take,if_pos hj,h5];simpa using h6
           · rw[List.getElem?_eq_none (by rw[List.length_take];omega),List.getElem?_eq_none (by omega)]
         rw[hvx];simp only[List.length_append];rw[show (xs.length+ys.length)*iB=(flat gK++flat aR).length by rw[List.length_append,Pb,gA,Nat.add_mul],show flat (gK++aR)=flat gK++flat aR by simp[flat]]
         exact List.take_left
       · have hr:=run_append_grow (P:=P) w t o.type el i z hu hi hz ⟨b,0,none⟩ xs.length cap (flat gK) (by rw[Pb,pn]) (dQ Mq) ⟨b2,off,none⟩ ys.length cc (flat aR) (by rw[gA,pn]) (dQ f7) (by omega) (by omega) (by
           rw[YQ];exact growslice_fits (by omega) s3)
         rw[base _ _ (by rw[g1,f1];exact hr)]
         apply upon_value;have xZ:=grownCap_ge w (xs.length+ys.length) cap el;obtain⟨K',n1,n2⟩:=sa (el:=el) (sz:=iB) (c:=grownCap w (xs.length+ys.length) cap el) (z:=(Builtin.zeroCells z.cells (grownCap w (xs.length+ys.length) cap el - (xs.length+ys.length))).toList) ao g7 f4 g5 f2 g6 f3 (by rw[P3]) xZ
           (grownCap_le_maxLen w _ _ el (by simp only[maxLen];omega))
         have hw:(w.drew.alloc (.cells ((flat gK).toArray++(flat aR).toArray++Builtin.zeroCells z.cells (grownCap w (xs.length+ys.length) cap el - (xs.length+ys.length))) el))=w.drew.alloc (.cells (flat gK++(flat aR)++(Builtin.zeroCells z.cells (grownCap w (xs.length+ys.length) cap el - (xs.length+ys.length))).toList).toArray el):=by
           congr 2;apply Array.toList_inj.1;simp
         rw[hw];refine hK _ _ _ (s4 w.heap.size _ (.inr (ao.hs.c9 (Nat.le_refl _)))) _ _ _ _ (n1.sub ?_) n2 T_;intro q r hq;refine⟨r,?_,.inl rfl⟩;simp only[ab.bt] at hq ⊢;split at hq;{rename_i KF;rw[if_pos KF];exact hq};{rename_i KF;rw[if_neg KF];split at hq;{cases hq};{exact hq}}
 · exact hs.elim
end
end Sm
