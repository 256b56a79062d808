/-
  0,1,N,P,Q,R,T,U,V,W
-/
import Derived.Test.YtegmmhldpmmkeaaGreatDoorSmLD
import Derived.Laws.IdiomRangeMap
import Derived.Laws.MakeOwn
import Derived.Defers
set_option linter.unusedVariables false
set_option linter.unusedSimpArgs false
set_option linter.unnecessarySimpa false
namespace Sm
open Go
section
variable {P:Program} {D:List (Nat×List HV)} {ν:Nat→Option Nat} {w0:World} {K0:Nat→Nat} {H0:ab} {N:Nat} {e:Env} {H:ab} {a:Act} {w:World} {K μ:Nat→Nat} {o:Oper}
def iA(P:Program)(ν:Nat→Option Nat)(K:Nat→Nat)(H:ab)(a:Act)(w:World)(o:Oper)(R:HV→ab→Prop):Prop:=
 ∃u w' h H' K',(execOp a.eval o).run P w = .ok (.value u) w'∧Ext (quiet ν) w K H w' K' H'∧dS ν w' K' H'∧rep ν K' w' h u∧R h H'
def JL(P:Program)(ν:Nat→Option Nat)(K:Nat→Nat)(H:ab)(a:Act)(w:World)(o:Oper)(R:HV→ab→Prop):Prop:=
 ∃w' H' K',(execOp a.eval o).run P w = .ok .skip w'∧Ext (quiet ν) w K H w' K' H'∧dS ν w' K' H'∧R (.v Go.undef) H'
def rn(w:World)(b:Nat)(o:Obj):World:={ w with heap:=w.heap.setIfInBounds b o }
theorem HQ{b:Nat}{o:Obj}(h:b < w.heap.size):(rn w b o).heap[b]? = some o:=by simp[rn,h]
theorem wy{b c:Nat}{o:Obj}(h:c≠b):(rn w b o).heap[c]? = w.heap[c]? := by simp[rn,Array.getElem?_setIfInBounds_ne (Ne.symm h)]
theorem sh{b:Nat}{o:Obj}(h:w.heap[b]? = some o)(hn:∀us T fr,o ≠ .cells us T fr):(getObj b).run P w = .ok o w:=by
 cases o<;>first | (simp[getObj,Sem.run,h];done) | exact absurd rfl (hn _ _ _)
theorem lY{b:Nat}{o o':Obj}(h:w.heap[b]? = some o)(hn:∀us T fr,o ≠ .cells us T fr):(setObj b o').run P w = .ok () (rn w b o'):=by
 cases o<;>first | (simp[setObj,Sem.run,h,rn];done) | exact absurd rfl (hn _ _ _)
def si(ν:Nat→Option Nat)(K:Nat→Nat)(w:World)(o:Obj):rq→Prop
 | .mp es clock=>∃us:Array MapEntry,o = .map us clock∧fh ν K w es us.toList
 | .it m since seen last=>o = .mapIter m since seen.toArray last
 | _=>False
theorem si.grow{K':Nat→Nat}{w':World}(hg:Grow w K w' K'){o:Obj}:∀{r:rq},si ν K w o r→si ν K' w' o r
 | .mp _ _,⟨us,h1,h2⟩=>⟨us,h1,fh.grow hg _ h2⟩
 | .it _ _ _ _,h=>h
 | .obj _,h=>h.elim
 | .lR _ _,h=>h.elim
theorem si.ok{b:Nat}{o:Obj}(hb:w.heap[b]? = some o)(hk:K b=0):∀{r:rq},si ν K w o r→uZ ν K w b r
 | .mp _ _,⟨us,h1,h2⟩=>⟨us,by rw[hb,h1],hk,h2⟩
 | .it _ _ _ _,h=>⟨by rw[hb,h],hk⟩
 | .obj _,h=>h.elim
 | .lR _ _,h=>h.elim
theorem rD(hs:dS ν w K H)(o:Obj)(r:rq)(hr:si ν K w o r):Ext (quiet ν) w K H (w.alloc o) K (H.bt w.heap.size (some r))∧dS ν (w.alloc o) K (H.bt w.heap.size (some r)):=by
 have hg:=mT hs o;refine⟨⟨rfl,rfl,rfl,by simp,fun _=>Nat.le_refl _,hg,fun b hb hH=>⟨dh _ hb,rfl,by rw[ab.bt,if_neg (by omega)];exact hH⟩⟩,⟨fun b r' hb=>?_,fun b hb=>?_,hs.qD.grow hg⟩⟩
 · by_cases h:b=w.heap.size
   · subst h;simp only[ab.bt,if_true,Option.some.injEq] at hb;subst hb;exact(hr.grow hg).ok (heap_alloc_new w _) (hs.fresh _ (Nat.le_refl _))
   · rw[ab.bt,if_neg h] at hb;exact(hs.res b r' hb).move hg (dh _ (hs.lt hb)) rfl
 · simp only[World.size_alloc] at hb;exact hs.fresh b (by omega)
theorem sj(hs:dS ν w K H){b:Nat}{r0:rq}{o0:Obj}(h0:H b=some r0)(hb:w.heap[b]? = some o0)(hn:∀us T fr,o0 ≠ .cells us T fr)(hk:K b=0)(o:Obj)(r:rq)(hr:si ν K w o r) :
   Ext (quiet ν) w K H (rn w b o) K (H.bt b (some r))∧dS ν (rn w b o) K (H.bt b (some r)):=by
 have bN:=jq hb;have hg:Grow w K (rn w b o) K:=⟨fun _=>Nat.le_refl _,fun c j hj=>by
   have u0:c≠b:=by rintro rfl;omega
   simp only[World.cell?,wy u0],fun c hc=>cS (wy (by rintro rfl;omega))⟩
 refine⟨⟨rfl,rfl,rfl,by simp[rn],(fun _=>Nat.le_refl _),hg,fun c hc hH=>?_⟩,⟨fun c r' hc=>?_,fun c hc=>?_,hs.qD.grow hg⟩⟩
 · have u0:c≠b:=by rintro rfl;rw[hH] at h0;cases h0
   exact⟨wy u0,rfl,by rw[ab.bt,if_neg u0];exact hH⟩
 · by_cases h:c=b
   · subst h;simp only[ab.bt,if_true,Option.some.injEq] at hc;subst hc;exact(hr.grow hg).ok (HQ bN) hk
   · rw[ab.bt,if_neg h] at hc;exact(hs.res c r' hc).move hg (wy h) rfl
 · have:w.heap.size≤c:=by simpa[rn] using hc
   exact hs.fresh c this
theorem JM(hs:dS ν w K H):Ext (quiet ν) w K H w.drew K H∧dS ν w.drew K H:=⟨Ext.draw w K H _ (Nat.le_succ _),hs.draw⟩
theorem Ux(ao:St D ν w0 K0 H0 N e H a w K μ){src dst x x'}(ho:o.op = .convert src dst x)(h1:gV P src=true)(h2:isStr P dst=true)(hx:au ν x x'=true){zz}(hz:(aw.JN x').ev e H=some zz):Calm P ν K μ e a w o zz:=by
 obtain⟨el,u1,u2⟩:=gW h1;have u3:=fi h2;have fin:∀v s,a.eval x=v→(convert src dst v).run P w = .ok (.string s) w→zz = .h (.v (.string s))→Calm P ν K μ e a w o zz:=by
   rintro v s hv hr rfl;exact⟨.string s,by simp[execOp,ho,hv,hr],by simp[bO,rep],T_⟩
 simp only[aw.ev] at hz;split at hz
 · rename_i tk es cH;have e1:=aq ao hx cH;cases hu:gY es with
   | none=>simp[hu] at hz
   | some l =>
     simp only[hu,Option.map_some,Option.some.injEq] at hz;have PW:=sk hu;obtain⟨s,hs0⟩:∃s:ByteArray,s=⟨l.toArray⟩:=⟨_,rfl⟩;rw[←hs0] at PW hz;subst PW;simp only[rep] at e1;obtain⟨A,cap,aR,g1,g2,g3,g4,g5,g6,g7,g8⟩:=e1;have hlen:(bP s).length=s.data.toList.length:=by simp[bP]
     have hs:(⟨s.data.toList.toArray⟩:ByteArray)=s:=by cases s;simp
     rcases g8 with g8 | ⟨b,off,rfl,_,hc⟩
     · have so:s.data.toList=[]:=by have:=congrArg List.length g8;rw[hlen] at this;exact List.length_eq_zero_iff.mp this
       refine fin _ s g1 ?_ hz.symm;rw[run_convert_bytes_string w src dst el A _ cap u1 u2 u3];have Np:s=ByteArray.empty:=by rw[←hs,so];rfl
       cases A with
       | none=>simp[Conv.bytesToString,Np]
       | some ad =>
         have h0:(bP s).length=0:=by rw[hlen,so];rfl
         rw[h0];have:=run_bytesToString (P:=P) w ad 0 cap [] (by
           have:=run_loadCells_list (P:=P) w ad ([]:List Value) (fun j v hj=>by simp at hj)
           simpa using this)
         rw[this,Np];rfl
     · refine fin _ s g1 ?_ hz.symm;rw[hlen];have:=run_convert_bytes_back (P:=P) w src dst el ⟨b,off,none⟩ cap s.data.toList u1 u2 u3 (fun j hj=>by
         rw[cZ];refine hc j _ ?_;rw[qE g7];simp[List.getElem?_eq_getElem hj])
       rw[this,hs]
 · rename_i cH;have e1:=aq ao hx cH;simp only[rep] at e1;simp only[Option.some.injEq] at hz;refine fin _ _ e1 ?_ hz.symm;rw[run_convert_bytes_string w src dst el none 0 0 u1 u2 u3];simp[Conv.bytesToString];rfl
 · cases hz
def Nq(s:Bool)(d:TypeDesc):Prop:=(s=true∧d = .string)∨(s=false∧∃k,d = .int k)
theorem rE{s:Bool}{T:TypeId}(h:lZ P s T=true):∃d,P.underlying T=some d∧Nq s d:=by
 unfold lZ at h;split at h;{rename_i hu;exact⟨_,hu,.inl ⟨h,rfl⟩⟩};{rename_i k hu;exact⟨_,hu,.inr ⟨by simpa using h,k,rfl⟩⟩};{cases h}
theorem run_checkKey{s:Bool}{T:TypeId}{d:TypeDesc}(hu:P.underlying T=some d)(hd:Nq s d){k:Value}(hk:isKey s k=true)(em:Bool)(n:Nat):(Instr.checkKey em (n+1) T k).run P w = .ok () w:=by
 rcases hd with⟨rfl,rfl⟩ | ⟨rfl,kk,rfl⟩<;>cases k<;>simp only[isKey,Bool.false_eq_true,Bool.not_true] at hk<;>simp[Instr.checkKey,run_underlying hu]
theorem wz{s:Bool}{d:TypeDesc}(hd:Nq s d){x y:Value}{r:Bool}(h:M' s x y=some r):Instr.sameNow d x y=some r:=by
 rcases hd with⟨rfl,rfl⟩ | ⟨rfl,kk,rfl⟩<;>cases x<;>cases y<;>simp only[M',if_true,if_false,Bool.false_eq_true,reduceCtorEq] at h<;>simp only[Instr.sameNow]<;>exact h
theorem Uy{s:Bool}{x y:Value}(h:M' s x y=some true):x=y:=by
 cases x<;>cases y<;>simp only[M',reduceCtorEq] at h;{split at h;{cases h};{split at h;{rename_i hk;simp at h;rw[hk,h]};{cases h}}};{split at h;{simp only[Option.some.injEq] at h;rw[(MapKept.bytes_beq _ _).mp h]};{cases h}}
theorem JO{s:Bool}{x y:Value}(h:M' s x y=some true)(n:Nat):Instr.sameBits (n+1) y x=true:=by
 have:=Uy h;subst this;cases x<;>simp only[M',reduceCtorEq] at h<;>simp[Instr.sameBits,(MapKept.bytes_beq _ _).mpr rfl]
theorem j9{s:Bool}{d:TypeDesc}(hd:Nq s d)(k:Value):∀{es:List oC} {us:List MapEntry} (_:fh ν K w es us) (i:Nat),
   (l6 s k es i=some none→Instr.findNow d k us i=some none) ∧
   (∀p,l6 s k es i=some (some p)→∃j x u,p.1=i+j∧es[j]? = some x∧p.2=x.2.1∧M' s k x.1=some true∧us[j]? = some ⟨x.1,u,x.2.2⟩∧rep ν K w x.2.1 u∧Instr.findNow d k us i=some (some (i+j,u)))
 | [],us,hr,i=>by
   simp only[fh] at hr;subst hr;exact⟨fun _=>rfl,fun p h=>by cases h⟩
 | x::es,us,hr,i=>by
   obtain⟨u,dr,rfl,h1,h2⟩:=hr;obtain⟨ih1,ih2⟩:=j9 hd k h2 (i+1);refine⟨fun h=>?_,fun p h=>?_⟩;{simp only[l6] at h;split at h;{cases h};{rename_i hq;simp only[Instr.findNow,wz hd hq];exact ih1 h};{cases h}}
   · simp only[l6] at h;split at h;{rename_i hq;simp only[Option.some.injEq] at h;subst h;exact⟨0,x,u,rfl,rfl,rfl,hq,rfl,h1,by simp only[Instr.findNow,wz hd hq];rfl⟩}
     · rename_i hq;obtain⟨j,y,v,g1,g2,g3,g4,g5,g6,g7⟩:=ih2 p h;refine⟨j+1,y,v,by omega,by simpa using g2,g3,g4,by simpa using g5,g6,?_⟩
       simp only[Instr.findNow,wz hd hq,g7];congr 3;omega
     · cases h
theorem run_findKey{T:TypeId}{d:TypeDesc}(hu:P.underlying T=some d){k:Value}{us:List MapEntry}{r:Option (Nat×Value)}(h:Instr.findNow d k us 0=some r):(Instr.findKey T k us).run P w = .ok r w:=by
 simp[Instr.findKey,run_underlying hu,h]
theorem qF:∀{es:List oC} {us:List MapEntry},fh ν K w es us→us.length=es.length
 | [],us,h=>by simp only[fh] at h;simp[h]
 | x::es,us,h=>by obtain⟨u,dr,rfl,_,h2⟩:=h;simp[qF h2]
theorem qG:∀{es fs:List oC} {us vs:List MapEntry},fh ν K w es us→fh ν K w fs vs→fh ν K w (es++fs) (us++vs)
 | [],fs,us,vs,h,k=>by simp only[fh] at h;subst h;exact k
 | x::es,fs,us,vs,h,k=>by
   obtain⟨u,dr,rfl,h1,h2⟩:=h;exact⟨u,dr++vs,rfl,h1,qG h2 k⟩
theorem yc{k:Value}{h:HV}{v:Value}(hv:rep ν K w h v):∀{es:List oC} {us:List MapEntry} (j:Nat),fh ν K w es us→fh ν K w (es.modify j fun e=>(k,h,e.2.2)) (us.modify j fun e=>{ e with key:=k,val:=v })
 | [],us,j,hr=>by simp only[fh] at hr;subst hr;cases j<;>simp[fh]
 | x::es,us,0,hr=>by
   obtain⟨u,dr,rfl,h1,h2⟩:=hr;exact⟨v,dr,by simp,hv,h2⟩
 | x::es,us,j+1,hr=>by
   obtain⟨u,dr,rfl,h1,h2⟩:=hr;rw[List.modify_succ_cons,List.modify_succ_cons];exact⟨u,_,rfl,h1,yc hv j h2⟩
theorem sq:∀{es:List oC} {us:List MapEntry} (j:Nat),fh ν K w es us→fh ν K w (es.eraseIdx j) (us.eraseIdx j)
 | [],us,j,hr=>by simp only[fh] at hr;subst hr;simp[fh]
 | x::es,us,0,hr=>by
   obtain⟨u,dr,rfl,h1,h2⟩:=hr;exact h2
 | x::es,us,j+1,hr=>by
   obtain⟨u,dr,rfl,h1,h2⟩:=hr;exact⟨u,_,rfl,h1,sq j h2⟩
theorem yd:∀{es:List oC} {us:List MapEntry},fh ν K w es us→∀{y:MapEntry},y∈us→∃x∈es,x.1=y.key∧x.2.2=y.born∧rep ν K w x.2.1 y.val
 | [],us,h,y,hy=>by simp only[fh] at h;subst h;cases hy
 | x::es,us,h,y,hy=>by
   obtain⟨u,dr,rfl,h1,h2⟩:=h;rcases List.mem_cons.mp hy with rfl | hy;{exact⟨x,by simp,rfl,rfl,h1⟩};{obtain⟨z,z1,z2⟩:=yd h2 hy;exact⟨z,by simp[z1],z2⟩}
theorem pI:∀{es:List oC} {us:List MapEntry},fh ν K w es us→∀{x:oC},x∈es→∃y∈us,x.1=y.key∧x.2.2=y.born∧rep ν K w x.2.1 y.val
 | [],us,h,x,hx=>by cases hx
 | x::es,us,h,z,hz=>by
   obtain⟨u,dr,rfl,h1,h2⟩:=h;rcases List.mem_cons.mp hz with rfl | hz;{exact⟨_,List.mem_cons_self,rfl,rfl,h1⟩};{obtain⟨y,z1,z2⟩:=pI h2 hz;exact⟨y,by simp[z1],z2⟩}
theorem sr{T:TypeId}{agg:Bool}{zero:List HV}(h:pJ P T agg zero=true):∃z,(zeroValue T).run P w = .ok z w∧rep ν K w (sv agg zero) z:=by
 unfold pJ at h;cases hz:(P.info? T).bind (·.zero) with
 | none=>rw[hz] at h;cases h
 | some z =>
   rw[hz] at h;obtain⟨i,hi,HR⟩:=Option.bind_eq_some_iff.mp hz;refine⟨z,by simp[zeroValue,typeInfo,hi,HR],?_⟩
   split at h;{rename_i cs kQ;simp only[Option.some.injEq] at kQ;subst kQ;simp only[Bool.and_eq_true] at h;obtain⟨h1,h2⟩:=h;subst h1;obtain⟨q1,q2⟩:=iT (ν:=ν) (K:=K) (w:=w) h2;simp only[sv,if_true,rep];exact⟨cs.toList,by simp,q2,q1⟩}
   · rename_i z' _ kQ;simp only[Option.some.injEq] at kQ;subst kQ;simp only[Bool.and_eq_true,Bool.not_eq_true'] at h;obtain⟨h1,h2⟩:=h;subst h1;obtain⟨q1,q2⟩:=iT (ν:=ν) (K:=K) (w:=w) h2;cases zero with
     | nil=>simp[aC] at q1
     | cons c cs =>
       obtain⟨u,dr,e1,e2,e3⟩:=q1;cases e1;exact e2
   · cases h
theorem AcZ(ao:St D ν w0 K0 H0 N e H a w K μ){T}(ho:o.op = .makeMap T none){R:HV→ab→Prop}(hR:fG .mk [] H R):iA P ν K H a w o R:=by
 obtain⟨x1,x2⟩:=rD ao.hs (.map #[] 0) (.mp [] 0) ⟨#[],rfl,by simp[fh]⟩
 exact⟨.map (some w.heap.size),w.alloc (.map #[] 0),.v (.map (some w.heap.size)),_,_,by simp[execOp,ho,Instr.makeMap],x1,x2,by simp[rep],hR w.heap.size (ao.hs.c9 (Nat.le_refl _))⟩
theorem oD(ao:St D ν w0 K0 H0 N e H a w K μ){b:Nat}{es:List oC}{c:Nat}(hb:H b=some (.mp es c)):∃us:Array MapEntry,w.heap[b]? = some (.map us c)∧K b=0∧fh ν K w es us.toList∧(getObj b).run P w = .ok (.map us c) w:=by
 obtain⟨us,h1,h2,h3⟩:=ao.hs.res b _ hb;exact⟨us,h1,h2,h3,sh h1 (by simp)⟩
theorem Z5(ao:St D ν w0 K0 H0 N e H a w K μ){T x k ok x' k' s agg zero kt el}(ho:o.op = .lookup T x k ok)(hT:mapOf P T=some (kt,el))(Nr:lZ P s kt=true)(hz:pJ P el agg zero=true)(hx:au ν x x'=true)(hk:au ν k k'=true)
   {hs} (hh:e.cJ [x',k']=some hs) {R:HV→ab→Prop} (hR:fG (.CF s ok agg zero) hs H R):iA P ν K H a w o R:=by
 obtain⟨z1,z2,h1,h2,rfl⟩:=iU hh;have e1:=aq ao hx h1;have e2:=aq ao hk h2;have hu:=fk hT;obtain⟨d,hd,u9⟩:=rE Nr;obtain⟨z,Zu,Uz⟩:=sr (ν:=ν) (K:=K) (w:=w) hz;have JP:∀kk em,isKey s kk=true→(Instr.checkKey em 10000 kt kk).run P w = .ok () w:=fun kk em h=>run_checkKey hd u9 h em 9999;have fin:∀(u:Value) (h:HV) (b:Bool),rep ν K w h u→rep ν K w (Jr ok h b) (if ok then .tuple #[u,.bool b] else u):=by
   intro u h b hr;cases ok;{exact hr};{simp only[Jr,if_true,rep,aC];exact⟨[u,.bool b],rfl,u,[.bool b],rfl,hr,_,[],rfl,rfl,rfl⟩}
 cases z1 with
 | v xv =>
   cases xv with
   | map r =>
     cases z2 with
     | v kv =>
       simp only[rep] at e1 e2;cases r with
       | none =>
         obtain⟨q1,h',q0,q2⟩:=hR;refine⟨_,w,_,H,K,?_,Ext.refl _ _ _,ao.hs,q0 _ _ _ _ (fin z _ false Uz),q2⟩;have hf:(Instr.findKey kt kv ([]:List MapEntry)).run P w = .ok none w:=run_findKey hd rfl;simp[execOp,ho,e1,e2,Instr.lookup,run_underlying hu,JP kv _ q1,hf,Zu]
       | some b =>
         obtain⟨q1,es,c,q2,q3⟩:=hR;obtain⟨us,m1,m2,m3,m4⟩:=oD (P:=P) ao q2;obtain⟨n1,n2⟩:=j9 u9 kv m3 0;unfold wA at q3;split at q3;{rename_i p hp;obtain⟨j,y,u,g1,g2,g3,g4,g5,g6,g7⟩:=n2 p hp;have hf:=run_findKey (w:=w) hd g7;rw[g3] at q3;refine⟨_,w,_,H,K,?_,Ext.refl _ _ _,ao.hs,fin u _ true g6,q3⟩;simp[execOp,ho,e1,e2,Instr.lookup,run_underlying hu,JP kv _ q1,m4,hf]};{rename_i hp;have hf:=run_findKey (w:=w) hd (n1 hp);obtain⟨h',q0,q3⟩:=q3;refine⟨_,w,_,H,K,?_,Ext.refl _ _ _,ao.hs,q0 _ _ _ _ (fin z _ false Uz),q3⟩;simp[execOp,ho,e1,e2,Instr.lookup,run_underlying hu,JP kv _ q1,m4,hf,Zu]};{exact q3.elim}
     | _=>exact(by first | exact hR.elim | (cases r<;>exact hR.elim))
   | _=>exact(by first | exact hR.elim | (cases z2<;>exact hR.elim))
 | _=>exact(by first | exact hR.elim | (cases z2<;>exact hR.elim))
theorem PX(ao:St D ν w0 K0 H0 N e H a w K μ){T m k x m' k' x' s kt el}(ho:o.op = .mapUpdate T m k x∨o.op = .insert T m k x)(hT:mapOf P T=some (kt,el))(Nr:lZ P s kt=true)(hm:au ν m m'=true)(hk:au ν k k'=true)(hx:au ν x x'=true)
   {hs} (hh:e.cJ [m',k',x']=some hs) {R:HV→ab→Prop} (hR:fG (.bt s) hs H R):JL P ν K H a w o R:=by
 obtain⟨z1,z2,z3,h1,h2,h3,rfl⟩:∃z1 z2 z3,e.hv m'=some z1∧e.hv k'=some z2∧e.hv x'=some z3∧hs=[z1,z2,z3]:=by
   simp only[Env.cJ] at hh;split at hh;{rename_i q1 q2 q3 q4;split at q4;{rename_i q5 q6 q7 q8;split at q8;{rename_i q9 q10 q11 q12;cases q12;cases q8;cases q4;cases hh;exact⟨_,_,_,q3,q7,q11,rfl⟩};{cases q8}};{cases q4}};{cases hh}
 have e1:=aq ao hm h1;have e2:=aq ao hk h2;have e3:=aq ao hx h3;have hu:=fk hT;obtain⟨d,hd,u9⟩:=rE Nr;have JP:∀kk em,isKey s kk=true→(Instr.checkKey em 10000 kt kk).run P w = .ok () w:=fun kk em h=>run_checkKey hd u9 h em 9999;cases z1 with
 | v xv =>
   cases xv with
   | map r =>
     cases r with
     | none=>exact(by first | exact hR.elim | (cases z2<;>exact hR.elim))
     | some b =>
       cases z2 with
       | v kv =>
         simp only[rep] at e1 e2;obtain⟨q1,es,c,q2,q3⟩:=hR;obtain⟨us,m1,m2,m3,m4⟩:=oD (P:=P) ao q2;obtain⟨n1,n2⟩:=j9 u9 kv m3 0;unfold wA at q3;split at q3
         · rename_i p hp;obtain⟨j,y,u,g1,g2,g3,g4,g5,g6,g7⟩:=n2 p hp;have hf:=run_findKey (w:=w) hd g7;rw[show p.1=j by omega] at q3
           rw[Nat.zero_add] at hf;have CG:us[j]? = some ⟨y.1,u,y.2.2⟩:=by rw[←Array.getElem?_toList];exact g5
           obtain⟨x1,x2⟩:=sj ao.hs q2 m1 (by simp) m2 (.map (us.modify j fun e=>{ e with key:=kv,val:=a.eval x }) c) (.mp (es.modify j fun e=>(kv,z3,e.2.2)) c) ⟨_,rfl,by rw[Array.toList_modify];exact yc e3 j m3⟩
           refine⟨_,_,K,?_,x1,x2,q3⟩;have Ac0:(Instr.keyThatStays y.1 kv).run P w = .ok kv w:=by
             simp[Instr.keyThatStays,JO g4 9999]
           have wB:=lY (P:=P) (w:=w) m1 (by simp) (o':=.map (us.modify j fun e=>{ e with key:=kv,val:=a.eval x }) c)
           rcases ho with ho | ho<;>simp[execOp,ho,e1,e2,Instr.mapUpdate,run_underlying hu,JP kv _ q1,m4,hf,CG,Ac0,wB]
         · rename_i hp;have hf:=run_findKey (w:=w) hd (n1 hp);obtain⟨x1,x2⟩:=sj ao.hs q2 m1 (by simp) m2 (.map (us.push ⟨kv,a.eval x,c⟩) (c+1)) (.mp (es++[(kv,z3,c)]) (c+1)) ⟨_,rfl,by rw[Array.toList_push];exact qG m3 ⟨_,[],rfl,e3,rfl⟩⟩
           refine⟨_,_,K,?_,x1,x2,q3⟩;have wB:=lY (P:=P) (w:=w) m1 (by simp) (o':=.map (us.push ⟨kv,a.eval x,c⟩) (c+1))
           rcases ho with ho | ho<;>simp[execOp,ho,e1,e2,Instr.mapUpdate,run_underlying hu,JP kv _ q1,m4,hf,wB]
         · exact q3.elim
       | _=>exact hR.elim
   | _=>exact(by first | exact hR.elim | (cases z2<;>exact hR.elim))
 | _=>exact(by first | exact hR.elim | (cases z2<;>exact hR.elim))
theorem Z6(ao:St D ν w0 K0 H0 N e H a w K μ){c:Call}{t ts m k m' k' s kt el}(ho:o.op = .call c)(hc:c.callee = .builtin .delete)(dD:c.args.toList=[m,k])(ye:c.argTypes.toList=t::ts)(hT:mapOf P t=some (kt,el))(Nr:lZ P s kt=true)(hm:au ν m m'=true)(hk:au ν k k'=true)
   {hs} (hh:e.cJ [m',k']=some hs) {R:HV→ab→Prop} (hR:fG (.del s) hs H R):iA P ν K H a w o R:=by
 obtain⟨z1,z2,h1,h2,rfl⟩:=iU hh;have e1:=aq ao hm h1;have e2:=aq ao hk h2;have hu:=fk hT;have ha:=sw dD;have ht0:c.argTypes[0]? = some t:=by rw[←Array.getElem?_toList,ye];rfl
 obtain⟨d,hd,u9⟩:=rE Nr;have JP:∀kk em,isKey s kk=true→(Instr.checkKey em 10000 kt kk).run P w = .ok () w:=fun kk em h=>run_checkKey hd u9 h em 9999;cases z1 with
 | v xv =>
   cases xv with
   | map r =>
     cases z2 with
     | v kv =>
       simp only[rep] at e1 e2;cases r with
       | none =>
         obtain⟨q1,q2⟩:=hR;refine⟨.tuple #[],w,.tu [],H,K,?_,Ext.refl _ _ _,ao.hs,by simp[rep,aC],q2⟩
         simp[execOp,ho,resolve,hc,ha,ht0,invoke,builtin,e1,e2,Builtin.delete_,run_underlying hu,JP kv _ q1]
       | some b =>
         obtain⟨q1,es,c',q2,q3⟩:=hR;obtain⟨us,m1,m2,m3,m4⟩:=oD (P:=P) ao q2;obtain⟨n1,n2⟩:=j9 u9 kv m3 0;unfold wA at q3;split at q3
         · rename_i p hp;obtain⟨j,y,u,g1,g2,g3,g4,g5,g6,g7⟩:=n2 p hp;have hf:=run_findKey (w:=w) hd g7;rw[show p.1=j by omega] at q3
           rw[Nat.zero_add] at hf;have hjl:j < us.size:=by
             rcases Nat.lt_or_ge j us.size with h | h;{exact h};{rw[List.getElem?_eq_none (by simpa using h)] at g5;cases g5}
           obtain⟨x1,x2⟩:=sj ao.hs q2 m1 (by simp) m2 (.map (us.eraseIdxIfInBounds j) c') (.mp (es.eraseIdx j) c') ⟨_,rfl,by simp only[Array.eraseIdxIfInBounds,hjl,dif_pos,Array.toList_eraseIdx];exact sq j m3⟩
           refine⟨.tuple #[],_,.tu [],_,K,?_,x1,x2,by simp[rep,aC],q3⟩
           have wB:=lY (P:=P) (w:=w) m1 (by simp) (o':=.map (us.eraseIdxIfInBounds j) c')
           simp[execOp,ho,resolve,hc,ha,ht0,invoke,builtin,e1,e2,Builtin.delete_,run_underlying hu,JP kv _ q1,m4,hf,wB]
         · rename_i hp;have hf:=run_findKey (w:=w) hd (n1 hp);obtain⟨x1,x2⟩:=sj ao.hs q2 m1 (by simp) m2 (.map us c') (.mp es c') ⟨_,rfl,m3⟩
           refine⟨.tuple #[],_,.tu [],_,K,?_,x1,x2,by simp[rep,aC],q3⟩
           have wB:=lY (P:=P) (w:=w) m1 (by simp) (o':=.map us c')
           simp[execOp,ho,resolve,hc,ha,ht0,invoke,builtin,e1,e2,Builtin.delete_,run_underlying hu,JP kv _ q1,m4,hf,wB]
         · exact q3.elim
     | _=>exact(by first | exact hR.elim | (cases r<;>exact hR.elim))
   | _=>exact(by first | exact hR.elim | (cases z2<;>exact hR.elim))
 | _=>exact(by first | exact hR.elim | (cases z2<;>exact hR.elim))
theorem UA(ao:St D ν w0 K0 H0 N e H a w K μ){c:Call}{t m m' kt el}(ho:o.op = .call c)(hc:c.callee = .builtin .len)(dD:c.args.toList=[m])(ye:c.argTypes.toList=[t])(hT:mapOf P t=some (kt,el))(hm:au ν m m'=true)
   {hs} (hh:e.cJ [m']=some hs) {R:HV→ab→Prop} (hR:fG .len hs H R):iA P ν K H a w o R:=by
 obtain⟨z1,h1,rfl⟩:=eA hh;have e1:=aq ao hm h1;have hu:=fk hT;have ha:=rr dD;have ht:=rr ye;cases z1 with
 | v xv =>
   cases xv with
   | map r =>
     simp only[rep] at e1;cases r with
     | none =>
       exact⟨.int .i64 0,w,_,H,K,by simp[execOp,ho,resolve,hc,ha,ht,invoke,builtin,e1,Builtin.len_,run_underlying hu,goInt],Ext.refl _ _ _,ao.hs,by simp only[rep],hR⟩
     | some b =>
       obtain⟨es,c',q2,q3⟩:=hR;obtain⟨us,m1,m2,m3,m4⟩:=oD (P:=P) ao q2;have hl:=qF m3;refine⟨.int .i64 es.length,w,_,H,K,?_,Ext.refl _ _ _,ao.hs,by simp only[rep],q3⟩
       have yf:us.size=es.length:=by simpa using hl
       simp[execOp,ho,resolve,hc,ha,ht,invoke,builtin,e1,Builtin.len_,run_underlying hu,goInt,m4,yf]
   | _=>exact hR.elim
 | _=>exact hR.elim
theorem Z7(ao:St D ν w0 K0 H0 N e H a w K μ){T x x' kt el}(ho:o.op = .range T x)(hT:mapOf P T=some (kt,el))(hx:au ν x x'=true)
   {hs} (hh:e.cJ [x']=some hs) {R:HV→ab→Prop} (hR:fG .PY hs H R):iA P ν K H a w o R:=by
 obtain⟨z1,h1,rfl⟩:=eA hh;have e1:=aq ao hx h1;have hu:=fk hT;cases z1 with
 | v xv =>
   cases xv with
   | map r =>
     simp only[rep] at e1;cases r with
     | none =>
       obtain⟨x1,x2⟩:=rD ao.hs (.mapIter none 0 #[] 0) (.it none 0 [] 0) rfl;exact⟨.pointer (some ⟨w.heap.size,0,none⟩),w.alloc (.mapIter none 0 #[] 0),.v (.pointer (some ⟨w.heap.size,0,none⟩)),_,K,by simp only[execOp,ho,e1,Sem.run_bind,run_range_nilMap w T kt el hu,Result.andThen_ok,Sem.run_pure],x1,x2,by simp[rep],hR w.heap.size (ao.hs.c9 (Nat.le_refl _))⟩
     | some b =>
       obtain⟨es,c',q2,q3⟩:=hR;obtain⟨us,m1,m2,m3,m4⟩:=oD (P:=P) ao q2;obtain⟨x1,x2⟩:=rD ao.hs (.mapIter (some b) c' #[] c') (.it (some b) c' [] c') rfl;exact⟨.pointer (some ⟨w.heap.size,0,none⟩),w.alloc (.mapIter (some b) c' #[] c'),.v (.pointer (some ⟨w.heap.size,0,none⟩)),_,K,by simp only[execOp,ho,e1,Sem.run_bind,run_range_map w T kt el b us c' hu m1,Result.andThen_ok,Sem.run_pure],x1,x2,by simp[rep],q3 w.heap.size (ao.hs.c9 (Nat.le_refl _))⟩
   | _=>exact hR.elim
 | _=>exact hR.elim
theorem ru(n:Nat)(hn:0 < n):∃(j:Nat) (w1:World),j < n∧(w1=w∨w1=w.drew)∧(choose (Question.mapNext n)).run P w = .ok j w1:=by
 by_cases hf:n≤1
 · exact⟨0,w,by omega,.inl rfl,by simp[choose,Sem.run,Question.forced,hf]⟩
 · exact⟨_,w.drew,Nat.mod_lt _ (by omega),.inr rfl,by
     simp only[choose,Sem.run,Question.forced,decide_eq_true_eq,hf,if_false,Question.cut];rfl⟩
theorem Ns{e:MapEntry}{x:oC}{K':Nat→Nat}{w':World}(hk:x.1=e.key)(hr:rep ν K' w' x.2.1 e.val):rep ν K' w' (.tu [.v (.bool true),.v x.1,x.2.1]) (.tuple #[.bool true,e.key,e.val]):=by
 simp only[rep,aC];exact⟨[.bool true,e.key,e.val],rfl,_,_,rfl,rfl,_,_,rfl,hk.symm,_,_,rfl,hr,rfl⟩
theorem Z8(ao:St D ν w0 K0 H0 N e H a w K μ){x x'}(ho:o.op = .next x false)(hx:au ν x x'=true)
   {hs} (hh:e.cJ [x']=some hs) {R:HV→ab→Prop} (hR:fG .UB hs H R):iA P ν K H a w o R:=by
 obtain⟨z1,h1,rfl⟩:=eA hh;have e1:=aq ao hx h1;have over:∀w1:World,rep ν K w1 (.tu [.v (.bool false)]) (.tuple #[.bool false]):=fun w1=>by
   simp only[rep,aC];exact⟨[.bool false],rfl,_,_,rfl,rfl,rfl⟩
 obtain⟨b,rfl⟩:∃b,z1 = .v (.pointer (some ⟨b,0,none⟩)):=by
   unfold fG at hR;split at hR
   all_goals first | (rename_i h _;cases h;done) | (rename_i h;cases h;done) | skip
   all_goals first | exact hR.elim | skip
   all_goals rename_i hq;cases hq;exact⟨_,rfl⟩
 simp only[rep] at e1;simp only[fG] at hR;cases hb:H b with
 | none=>rw[hb] at hR;exact hR.elim
 | some r =>
   rw[hb] at hR;cases r with
   | obj _=>exact hR.elim
   | lR _ _=>exact hR.elim
   | mp _ _=>exact hR.elim
   | it m since seen last =>
     obtain⟨i1,i2⟩:=ao.hs.res b _ hb;have ig:=sh (P:=P) i1 (by simp)
     cases m with
     | none =>
       refine⟨.tuple #[.bool false],w,_,H,K,?_,Ext.refl _ _ _,ao.hs,over w,hR⟩;simp[execOp,ho,e1,Instr.next,ig]
     | some m =>
       obtain⟨es,c,q1,q2,q3,q4⟩:=hR;obtain⟨us,m1,m2,m3,m4⟩:=oD (P:=P) ao q1;have Z9:(!(seen.toArray).isEmpty&&!us.isEmpty&&us.all (fun x=>decide (x.born≥last)))=false:=by
         rcases q2 with rfl | rfl | ⟨x,xY,hx2⟩;{simp}
         · simp only[fh] at m3;have:us=#[]:=by simpa using m3
           subst this;simp
         · obtain⟨y,Nt,_,hy3,_⟩:=pI m3 xY;have:us.all (fun x=>decide (x.born≥last))=false:=by
             rw[Bool.eq_false_iff];intro h;rw[Array.all_eq_true_iff_forall_mem] at h;have:=h y (by simpa using Nt)
             simp at this;omega
           rw[this,Bool.and_false]
       obtain⟨L,hL⟩:∃L,L=us.filter fun e=>!seen.toArray.contains e.born:=⟨_,rfl⟩;have kR:∀y∈L,y∈us.toList∧y.born∉seen:=fun y hy=>by
         rw[hL] at hy;simpa using hy
       obtain⟨HS,hold⟩:∃HS,HS=L.filter fun e=>decide (e.born < since):=⟨_,rfl⟩;obtain⟨new,HT⟩:∃new,new=L.filter fun e=>decide (e.born≥since):=⟨_,rfl⟩;obtain⟨cs,kQ⟩:∃cs,cs=(if HS.isEmpty then #[(none:Option MapEntry)] else #[])++(HS++new).map some:=⟨_,rfl⟩
       have uL:0 < cs.size:=by
         rw[kQ];cases ho:HS.isEmpty with
         | true=>simp;omega
         | false =>
           have h0:0 < HS.size:=by
             rcases Nat.eq_zero_or_pos HS.size with h | h;{simp[Array.isEmpty,h] at ho};{exact h}
           simp;omega
       obtain⟨j,w1,hj,AU,dI⟩:=ru (P:=P) (w:=w) cs.size uL;have xY:Ext (quiet ν) w K H w1 K H∧dS ν w1 K H:=by
         rcases AU with rfl | rfl;{exact⟨Ext.refl _ _ _,ao.hs⟩};{exact JM ao.hs}
       have CH:w1.heap=w.heap:=by rcases AU with rfl | rfl<;>rfl
       have CI:∀(nx:Result Value),((match cs[j]? with
           | some (some e)=>(do setObj b (.mapIter (some m) since (seen.toArray.push e.born) c);pure (Value.tuple #[.bool true,e.key,e.val]):Sem Value)
           | some none=>pure (.tuple #[.bool false])
           | none=>stuck "Next: no such candidate").run P w1)=nx→(Instr.next (.pointer (some ⟨b,0,none⟩)) false o.type).run P w=nx:=by
         intro nx hn;simp only[Instr.next,Sem.run_bind,ig,Result.andThen_ok,m4,Z9,Bool.false_eq_true,if_false];rw[←hL,←hold,←HT,←kQ,dI];exact hn
       have eB:cs[j]? = some cs[j]:=Array.getElem?_eq_getElem hj;rw[eB] at CI;have UC:cs[j]∈cs:=Array.getElem_mem hj;generalize cs[j]=y at UC CI;have hyr:∀y',y=some y'→y'∈L:=by
         rintro y' rfl;rw[kQ] at UC;have h3:y'∈HS∨y'∈new:=by
           rcases Array.mem_append.mp UC with h | h;{split at h<;>simp at h};{simpa using h}
         rcases h3 with h | h;{rw[hold] at h;simp at h;exact h.1};{rw[HT] at h;simp at h;exact h.1}
       cases y with
       | none =>
         have Ac1:HS.isEmpty=true:=by
           rw[kQ] at UC;rcases Array.mem_append.mp UC with h | h
           · split at h
             · assumption
             · simp at h
           · simp at h
         have h5:∀x∈es,x.2.2 < since→x.2.2∈seen:=fun x hx bN=>by
           obtain⟨y,Nt,_,hy3,_⟩:=pI m3 hx;rcases Classical.em (x.2.2∈seen) with h | h;{exact h}
           · have h6:y∈L:=by rw[hL];simp;exact⟨by simpa using Nt,by rw[←hy3];exact h⟩
             have h7:y∈HS:=by rw[hold];simp;exact⟨h6,by omega⟩
             have:HS=#[]:=by simpa using Ac1
             rw[this] at h7;simp at h7
         refine⟨.tuple #[.bool false],w1,_,H,K,?_,xY.1,xY.2,over w1,q4 h5⟩;have:=CI (.ok (.tuple #[.bool false]) w1) rfl;simp only[execOp,ho,e1,Sem.run_bind,this,Result.andThen_ok,Sem.run_pure]
       | some y =>
         obtain⟨y1,y2⟩:=kR y (hyr y rfl);obtain⟨x,x1,x2,x3,x4⟩:=yd m3 y1;have lL:w1.heap[b]? = some (.mapIter (some m) since seen.toArray last):=by rw[CH];exact i1
         have wB:=lY (P:=P) (w:=w1) lL (by simp) (o':=.mapIter (some m) since (seen.toArray.push y.born) c)
         obtain⟨g1,g2⟩:=sj xY.2 hb lL (by simp) i2 (.mapIter (some m) since (seen.toArray.push y.born) c) (.it (some m) since (seen++[x.2.2]) c) (by show _=_;rw[x3];simp)
         refine⟨.tuple #[.bool true,y.key,y.val],_,_,_,K,?_,xY.1.trans g1,g2,Ns x2 (x4.grow (xY.1.trans g1).grow),q3 x x1 (by rw[x3];exact y2)⟩
         have:=CI (.ok (.tuple #[.bool true,y.key,y.val]) (rn w1 b (.mapIter (some m) since (seen.toArray.push y.born) c))) (by show (Sem.run P ((do setObj b (.mapIter (some m) since (seen.toArray.push y.born) c);pure (Value.tuple #[.bool true,y.key,y.val]):Sem Value)) w1)=_;simp only[Sem.run_bind,wB,Result.andThen_ok,Sem.run_pure])
         simp only[execOp,ho,e1,Sem.run_bind,this,Result.andThen_ok,Sem.run_pure]
theorem Z'(ao:St D ν w0 K0 H0 N e H a w K μ){x x'}(ho:o.op = .entry x)(hx:au ν x x'=true)
   {hs} (hh:e.cJ [x']=some hs) {R:HV→ab→Prop} (hR:fG .UD hs H R):iA P ν K H a w o R:=by
 obtain⟨z1,h1,rfl⟩:=eA hh;have e1:=aq ao hx h1;obtain⟨b,rfl⟩:∃b,z1 = .v (.pointer (some ⟨b,0,none⟩)):=by
   unfold fG at hR;split at hR
   all_goals first | (rename_i h _;cases h;done) | (rename_i h;cases h;done) | skip
   all_goals first | exact hR.elim | skip
   all_goals rename_i hq;cases hq;exact⟨_,rfl⟩
 simp only[rep] at e1;simp only[fG] at hR;obtain⟨m,since,seen,n,c,es,y,q1,q2,q3,q4⟩:=hR;obtain⟨i1,i2⟩:=ao.hs.res b _ q1;have ig:=sh (P:=P) i1 (by simp)
 obtain⟨us,m1,m2,m3,m4⟩:=oD (P:=P) ao q2;have hf:∀{es:List oC} {us:List MapEntry},fh ν K w es us→es.find? (fun e=>e.2.2==n)=some y→∃z,us.find? (fun e=>e.born==n)=some z∧y.1=z.key∧rep ν K w y.2.1 z.val:=by
   intro es
   induction es with
   | nil=>intro us _ h;cases h
   | cons x es ih =>
     intro us hr h;obtain⟨u,dr,rfl,g1,g2⟩:=hr;rw[List.find?_cons] at h ⊢;split at h;{rename_i hx;cases h;exact⟨⟨y.1,u,y.2.2⟩,by simp only[hx],rfl,g1⟩};{rename_i hx;simp only[hx];exact ih g2 h}
 obtain⟨z,z1,z2,z3⟩:=hf m3 q3;have hb:(seen++[n]).toArray.back? = some n:=by simp
 refine⟨.tuple #[z.key,z.val],w,.tu [.v y.1,y.2.1],H,K,?_,Ext.refl _ _ _,ao.hs,?_,q4⟩
 · have hz:us.find? (fun e=>e.born==n)=some z:=by rw[←Array.find?_toList];exact z1
   simp[execOp,ho,e1,Instr.entry,ig,m4,hz]
 · simp only[rep,aC];exact⟨[z.key,z.val],rfl,_,_,rfl,z2.symm,_,_,rfl,z3,rfl⟩
theorem JQ{fn:Func}(hn:fn.name = "maps.clone")(ho:fn.origin = ""):Extern.find fn=some Extern.MapsClone.clone∧Extern.findNext fn=none:=by
 unfold Extern.find Extern.findNext;rw[hn,ho];constructor
 · have h1:Extern.allGenericRows.lookup "maps.clone" = none:=by kernel_rfl
   have h2:Extern.allTypedRows.lookup "maps.clone" = none:=by kernel_rfl
   have h3:Extern.allRows.lookup "maps.clone" = some Extern.MapsClone.clone:=by kernel_rfl
   simp only[h1,h2,h3];rfl
 · have h1:Extern.allNextRows.lookup "maps.clone" = none:=by kernel_rfl
   have h2:Extern.allNextRows.lookup "" = none:=by kernel_rfl
   simp only[h1,h2];rfl
theorem Aaa(ao:St D ν w0 K0 H0 N e H a w K μ){c:Call}{n x x'}(ho:o.op = .call c)(hc:c.callee = .value (.func n))(dD:c.args.toList=[x])(hf:qH P n "maps.clone" "" = true)(hx:au ν x x'=true)
   {hs} (hh:e.cJ [x']=some hs) {R:HV→ab→Prop} (hR:fG .IQ hs H R):iA P ν K H a w o R:=by
 obtain⟨z1,h1,rfl⟩:=eA hh;have e1:=aq ao hx h1;have ha:=rr dD;obtain⟨fn,f1,f2,f3,f4⟩:=sy hf;obtain⟨g1,g2⟩:=JQ f2 f3;cases z1 with
 | v xv =>
   cases xv with
   | iface t y =>
     cases y with
     | map m =>
       cases m with
       | none=>exact hR.elim
       | some m =>
         obtain⟨es,cl,q1,q2⟩:=hR;obtain⟨us,m1,m2,m3,m4⟩:=oD (P:=P) ao q1;simp only[rep] at e1;have hr:=run_callFunc_extern (P:=P) f1 (by rw[f2];decide) f4 g2 g1 #[.iface t (.map (some m))] w
         have va:(Extern.MapsClone.clone #[.iface t (.map (some m))]).run P w = .ok (.iface t (.map (some w.heap.size))) (w.alloc (.map us cl)):=by
           have e0:Extern.MapsClone.clone #[.iface t (.map (some m))]=((getObj m).bind fun ob=>match ob with
             | .map entries clock=>(newObj (.map entries clock)).bind fun r => .pure (Value.iface t (.map (some r)))
             | _=>stuck "maps.clone: a map expected"):=rfl
           rw[e0];show (Sem.run P (getObj m >>= _) w)=_;rw[Sem.run_bind,m4];rfl
         rw[va] at hr;obtain⟨x1,x2⟩:=rD ao.hs (.map us cl) (.mp es cl) ⟨us,rfl,m3⟩;refine⟨.iface t (.map (some w.heap.size)),_,.v (.iface t (.map (some w.heap.size))),_,K,?_,x1,x2,by simp only[rep],q2 w.heap.size (ao.hs.c9 (Nat.le_refl _))⟩
         simp only[Result.andThen] at hr;have UE:a.eval (.func n) = .func (.func n) #[] #[]:=rfl;simp[execOp,ho,resolve,hc,ha,UE,Deferred.ofValue,invoke,e1,hr]
     | _=>exact hR.elim
   | _=>exact hR.elim
 | _=>exact hR.elim
theorem Aab(ao:St D ν w0 K0 H0 N e H a w K μ){T x x'}(ho:o.op = .makeInterface T x)(hT:(P.underlying T).isSome=true)(hi:vb P T=false)(hx:au ν x x'=true)
   {hs} (hh:e.cJ [x']=some hs) {R:HV→ab→Prop} (hR:fG (.Zv T) hs H R):iA P ν K H a w o R:=by
 obtain⟨z1,h1,rfl⟩:=eA hh;have e1:=aq ao hx h1;obtain⟨d,hu⟩:=Option.isSome_iff_exists.mp hT;cases z1 with
 | v xv =>
   simp only[rep] at e1;refine⟨.iface T xv,w,.v (.iface T xv),H,K,?_,Ext.refl _ _ _,ao.hs,by simp only[rep],hR⟩
   simp only[vb,hu] at hi;cases d<;>first | (simp[execOp,ho,e1,Instr.makeInterface,run_underlying hu];done) | (simp at hi)
 | _=>exact hR.elim
theorem Aac(ao:St D ν w0 K0 H0 N e H a w K μ){T x xt x'}(ho:o.op = .typeAssert x xt T false)(hT:(P.underlying T).isSome=true)(hi:vb P T=false)(hx:au ν x x'=true)
   {hs} (hh:e.cJ [x']=some hs) {R:HV→ab→Prop} (hR:fG (.tas T) hs H R):iA P ν K H a w o R:=by
 obtain⟨z1,h1,rfl⟩:=eA hh;have e1:=aq ao hx h1;obtain⟨d,hu⟩:=Option.isSome_iff_exists.mp hT;cases z1 with
 | v xv =>
   cases xv with
   | iface t y =>
     obtain⟨rfl,q⟩:=hR;simp only[rep] at e1;refine⟨y,w,.v y,H,K,?_,Ext.refl _ _ _,ao.hs,by simp only[rep],q⟩
     simp only[vb,hu] at hi;cases d<;>first | (simp[execOp,ho,e1,Instr.typeAssert,run_underlying hu];done) | (simp at hi)
   | _=>exact hR.elim
 | _=>exact hR.elim
theorem JR(ao:St D ν w0 K0 H0 N e H a w K μ){ne:Bool}{t:TypeId}{x:Operand}{yt:TypeId}{x':bj}{kt el:TypeId}(ho:o.op = .binOp (if ne then .neq else .eql) t x (.const (.map none)) yt)(hT:mapOf P t=some (kt,el))(hx:au ν x x'=true)
   {hs} (hh:e.cJ [x']=some hs) {R:HV→ab→Prop} (hR:fG (.ka ne) hs H R):iA P ν K H a w o R:=by
 obtain⟨z1,h1,rfl⟩:=eA hh;have e1:=aq ao hx h1;have hu:=fk hT;cases z1 with
 | v xv =>
   cases xv with
   | map m =>
     simp only[rep] at e1;refine⟨.bool (if ne then m.isSome else m.isNone),w,.v (.bool (if ne then m.isSome else m.isNone)),H,K,?_,Ext.refl _ _ _,ao.hs,by simp only[rep],hR⟩
     have h1:(Op.equal t (.map m) (.map none)).run P w = .ok m.isNone w:=by
       have h0:∀d,(Op.equalIn (d+1) t (.map m) (.map none)).run P w = .ok m.isNone w:=by
         intro d;cases m<;>simp[Op.equalIn,run_underlying hu]
       exact h0 9999
     have e2:a.eval (.const (.map none)) = .map none:=rfl;have g:∀op,eqGuard op t x (.const (.map none)) (.map m) (.map none)=pure ():=fun op=>by cases op<;>rfl
     have b1:binOp .eql t (.map m) (.map none)=(do pure (.bool (←Op.equal t (.map m) (.map none)))):=rfl
     have b2:binOp .neq t (.map m) (.map none)=(do pure (.bool (!(←Op.equal t (.map m) (.map none))))):=rfl
     cases ne<;>cases m<;>simp[execOp,ho,e1,e2,g,b1,b2,h1]
   | _=>exact hR.elim
 | _=>exact hR.elim
theorem sA:∀(qs:List bj) (hs:List HV),e.cJ qs=some hs→hs.length=qs.length
 | [],hs,h=>by simp[Env.cJ] at h;subst h;rfl
 | q::qs,hs,h=>by
   simp only[Env.cJ] at h;split at h;{rename_i g gs _ hg;simp only[Option.some.injEq] at h;subst h;simp[sA qs gs hg]};{cases h}
theorem UF(ao:St D ν w0 K0 H0 N e H a w K μ){T ps sz qs el z}{len:Nat}(ho:o.op = .build T ps)(hT:nL P T=some (len,el))(da:cX P el=some sz)(AV:len=qs.length)
   (hz:(P.info? T).bind (·.zero)=some z) (Na:z.cells.size=len*sz) (Js:l7 ν 0 ps.toList qs=true)
   {eP} (hh:e.cJ qs=some eP) {R:HV→ab→Prop} (hR:fG (.Nu sz) eP H R):iA P ν K H a w o R:=by
 have hu:=jN hT;obtain⟨i,hi,HR⟩:=Option.bind_eq_some_iff.1 hz;obtain⟨h1,h2,h3⟩:eP.all HV.el=true∧(∀h∈eP,h.aN=sz)∧R (.ag (eP.flatMap HV.cells)) H:=hR;have sB:=sA qs eP hh;obtain⟨dr,aR,g1,g2,g3⟩:=oE (sz:=sz) ao ps.toList qs 0 z.cells eP Js hh h1 h2 (by rw[Na,sB,←AV,Nat.zero_add];exact Nat.le_refl _)
 have gA:=b9 g2 h1 h2;have CG:dr.toList=flat aR:=by
   rw[g3,Nat.zero_mul,iV _ _ _ (by simp[gA,sB,←AV,Na])]
   rw[List.take_zero,List.nil_append,List.drop_eq_nil_of_le (by simp[gA,sB,←AV,Na]),List.append_nil]
 obtain⟨c1,c2⟩:=l8 g2 h1;refine⟨.agg dr,w,.ag (eP.flatMap HV.cells),H,K,?_,Ext.refl _ _ _,ao.hs,?_,h3⟩;{simp only[execOp,ho,Instr.build,Sem.run_bind,run_underlying hu,Result.andThen_ok,run_sizeOf da,zeroValue,typeInfo,run_program,hi,HR,Sem.run_pure,Array.toList_map,g1]};{simp only[rep];exact⟨dr.toList,by simp,c2,by rw[CG];exact c1⟩}
theorem UG(ao:St D ν w0 K0 H0 N e H a w K μ){T x i n sz agg x' i' el}(ho:o.op = .index T x i)(hT:nL P T=some (n,el))(da:cX P el=some sz)(ha:dJ P el=some agg)(h1:(agg||decide (sz=1))=true)(hx:au ν x x'=true)(hi:au ν i i'=true)
   {hs} (hh:e.cJ [x',i']=some hs) {R:HV→ab→Prop} (hR:fG (.JT n sz agg) hs H R):iA P ν K H a w o R:=by
 obtain⟨z1,z2,q1,q2,rfl⟩:=iU hh;have e1:=aq ao hx q1;have e2:=aq ao hi q2;have hu:=jN hT;cases z1 with
 | ag cs =>
   cases z2 with
   | v iv =>
     cases iv with
     | int k j =>
       obtain⟨r1,r2,h,r3,r4⟩:=hR;simp only[rep] at e1 e2;obtain⟨us,g1,g2,g3⟩:=e1;obtain⟨u,JU,CJ⟩:=yg (P:=P) da ha h1 g3 g2 r3;refine⟨u,w,h,H,K,?_,Ext.refl _ _ _,ao.hs,CJ,r4⟩;simp[execOp,ho,g1,e2,Instr.index,asIntOf,run_underlying hu,r1,r2,run_sizeOf da,JU]
     | _=>exact hR.elim
   | _=>exact hR.elim
 | _=>exact(by first | exact hR.elim | (cases z2<;>exact hR.elim))
theorem Aad(ao:St D ν w0 K0 H0 N e H a w K μ){f first cq g r r'}(ho:o.op = .makeFunc (.func f) first cq)(hf:first.toList=[r])(hc:cq.isEmpty=true)(hg:pK ν f g)(hx:au ν r r'=true)
   {hs} (hh:e.cJ [r']=some hs) {R:HV→ab→Prop} (hR:fG (.mkm g) hs H R):iA P ν K H a w o R:=by
 obtain⟨z1,h1,rfl⟩:=eA hh;have e1:=aq ao hx h1;have hf':=rr hf;have hc':cq=#[]:=by simpa using hc
 subst hf' hc';refine⟨.func (.func f) #[a.eval r] #[],w,.fm g z1,H,K,?_,Ext.refl _ _ _,ao.hs,?_,hR⟩;{simp[execOp,ho,Instr.makeFunc]};{simp only[rep];exact⟨f,a.eval r,hg,rfl,e1⟩}
theorem Aae(ao:St D ν w0 K0 H0 N e H a w K μ){f:UH}{xs:List bj}(hk:AW P ν o.op f xs=true){hs}(hh:e.cJ xs=some hs){R:HV→ab→Prop}(hR:fG f hs H R):iA P ν K H a w o R∨JL P ν K H a w o R:=by
 unfold AW at hk;split at hk
 · rename_i ho;have:hs=[]:=by simpa[Env.cJ] using hh.symm
   subst this;exact .inl (AcZ ao ho hR)
 · rename_i ho;simp only[Bool.and_eq_true,decide_eq_true_eq] at hk;obtain⟨⟨⟨k1,k2⟩,k3⟩,k4⟩:=hk;subst k1;split at k2;{rename_i kt el hT;simp only[Bool.and_eq_true] at k2;exact .inl (Z5 ao ho hT k2.1 k2.2 k3 k4 hh hR)};{cases k2}
 · rename_i ho;simp only[Bool.and_eq_true] at hk;obtain⟨⟨⟨k1,k2⟩,k3⟩,k4⟩:=hk;split at k1;{rename_i kt el hT;exact .inr (PX ao (.inl ho) hT k1 k2 k3 k4 hh hR)};{cases k1}
 · rename_i ho;simp only[Bool.and_eq_true] at hk;obtain⟨⟨⟨k1,k2⟩,k3⟩,k4⟩:=hk;split at k1;{rename_i kt el hT;exact .inr (PX ao (.inr ho) hT k1 k2 k3 k4 hh hR)};{cases k1}
 · rename_i ho;split at hk;{rename_i hc ha ht;simp only[Bool.and_eq_true] at hk;obtain⟨⟨k1,k2⟩,k3⟩:=hk;split at k1;{rename_i kt el hT;exact .inl (Z6 ao ho hc ha ht hT k1 k2 k3 hh hR)};{cases k1}};{cases hk}
 · rename_i ho;split at hk;{rename_i hc ha ht;simp only[Bool.and_eq_true] at hk;obtain⟨p,hp⟩:=Option.isSome_iff_exists.mp hk.1;exact .inl (UA ao ho hc ha ht (kt:=p.1) (el:=p.2) hp hk.2 hh hR)};{cases hk}
 · rename_i ho;simp only[Bool.and_eq_true] at hk;obtain⟨p,hp⟩:=Option.isSome_iff_exists.mp hk.1;exact .inl (Z7 ao ho (kt:=p.1) (el:=p.2) hp hk.2 hh hR)
 · rename_i x s x' ho;simp only[Bool.and_eq_true,Bool.not_eq_true'] at hk;obtain⟨k1,k2⟩:=hk;subst k1;exact .inl (Z8 ao ho k2 hh hR)
 · rename_i ho;exact .inl (Z' ao ho hk hh hR)
 · rename_i ho;split at hk;{rename_i hc ha;simp only[Bool.and_eq_true] at hk;exact .inl (Aaa ao ho hc ha hk.1 hk.2 hh hR)};{cases hk}
 · rename_i ho;simp only[Bool.and_eq_true,decide_eq_true_eq,Bool.not_eq_true'] at hk;obtain⟨⟨⟨rfl,k2⟩,k3⟩,k4⟩:=hk;exact .inl (Aab ao ho k2 k3 k4 hh hR)
 · rename_i ho;simp only[Bool.and_eq_true,decide_eq_true_eq,Bool.not_eq_true'] at hk;obtain⟨⟨⟨⟨rfl,k1⟩,k2⟩,k3⟩,k4⟩:=hk;subst k1;exact .inl (Aac ao ho k2 k3 k4 hh hR)
 · rename_i ho;simp only[Bool.and_eq_true,decide_eq_true_eq] at hk;obtain⟨⟨⟨rfl,k1⟩,k2⟩,k3⟩:=hk;obtain⟨p,hp⟩:=Option.isSome_iff_exists.mp k2;split at k1;{exact .inl (JR ao ho (kt:=p.1) (el:=p.2) hp k3 hh hR)};{cases k1}
 · rename_i ho;simp only[Bool.and_eq_true,decide_eq_true_eq] at hk;obtain⟨⟨k1,k2⟩,k3⟩:=hk;split at k1;{rename_i r hr;exact .inl (Aad ao ho hr k2 k3 k1 hh hR)};{cases k1}
 · rename_i ho;split at hk;{rename_i n el hT;simp only[Bool.and_eq_true,decide_eq_true_eq] at hk;obtain⟨⟨⟨k1,k2⟩,k3⟩,k4⟩:=hk;split at k3;{rename_i z hz;exact .inl (UF ao ho hT k1 k2 hz (by simpa using k3) k4 hh hR)};{cases k3}};{cases hk}
 · rename_i ho;simp only[Bool.and_eq_true] at hk;obtain⟨⟨k1,k2⟩,k3⟩:=hk;split at k1;{rename_i m el hT;simp only[Bool.and_eq_true,decide_eq_true_eq] at k1;obtain⟨⟨⟨rfl,k4⟩,k5⟩,k6⟩:=k1;exact .inl (UG ao ho hT k4 k5 k6 k2 k3 hh hR)};{cases k1}
 · cases hk
end
end Sm
namespace Sm
open Go
section
variable {P:Program} {D:List (Nat×List HV)} {ν:Nat→Option Nat} {w0:World} {K0:Nat→Nat} {H0:ab} {N:Nat} {e:Env} {H:ab} {a:Act} {w:World} {K μ:Nat→Nat} {o:Oper}
theorem mU{α:Type}[Inhabited α](z:Array α)(sz:Nat)(hz:z.size=sz):∀c:Nat,(List.range (c*sz)).map (fun i=>z[i % sz]!)=(List.replicate c z.toList).flatten
 | 0=>by simp
 | c+1=>by
   have ih:=mU z sz hz c;rw[Nat.succ_mul,List.range_add,List.map_append,ih,List.replicate_succ',List.flatten_append];congr 1;simp only[List.map_map,List.flatten_cons,List.flatten_nil,List.append_nil];apply List.ext_getElem;{simp[hz]}
   · intro i h1 h2;simp only[List.length_map,List.length_range] at h1;have:(c*sz+i) % sz=i:=by rw[Nat.add_comm,Nat.add_mul_mod_self_right,Nat.mod_eq_of_lt h1]
     simp only[List.getElem_map,List.getElem_range,Function.comp,this,Array.getElem_toList];rw[getElem!_pos z i (by omega)]
theorem iW{cs:List HV}{us:List Value}(h:aC ν K w cs us):∀n,aC ν K w (List.replicate n cs).flatten (List.replicate n us).flatten
 | 0=>by simp[aC]
 | n+1=>by
   simp only[List.replicate_succ,List.flatten_cons];exact cA h (iW h n)
theorem all_flatten{cs:List HV}(h:cs.all HV.one=true):∀n,(List.replicate n cs).flatten.all HV.one=true
 | 0=>rfl
 | n+1=>by simp only[List.replicate_succ,List.flatten_cons,List.all_append,h,all_flatten h n,Bool.and_self]
theorem pL{el:TypeId}{sz bytes:Nat}{zero:List HV}(h:yh P el sz bytes zero=true):∃i z,P.info? el=some i∧i.size=sz∧i.bytes=bytes∧0 < sz∧0 < bytes∧i.zero=some z∧CK z.cells.toList zero=true∧z.cells.size=sz:=by
 unfold yh at h;split at h;{rename_i i hi;simp only[Bool.and_eq_true,decide_eq_true_eq] at h;obtain⟨⟨⟨⟨h1,h2⟩,h3⟩,h4⟩,h5⟩:=h;split at h5;{rename_i z hz;simp only[Bool.and_eq_true,decide_eq_true_eq] at h5;exact⟨i,z,hi,h1,h2,h3,h4,hz,h5.1,h5.2⟩};{cases h5}};{cases h}
theorem Aaf(ao:St D ν w0 K0 H0 N e H a w K μ){T l c sz bytes zero l' c' el}(ho:o.op = .makeSlice T l c)(hT:Sm.elemOf P T=some el)(eB:yh P el sz bytes zero=true)(hl:au ν l l'=true)(hc:au ν c c'=true)
   {hs} (hh:e.cJ [l',c']=some hs) {R:HV→ab→Prop} (hR:iX (.UI sz bytes zero) hs H R):iA P ν K H a w o R:=by
 obtain⟨z1,z2,h1,h2,rfl⟩:=iU hh;have e1:=aq ao hl h1;have e2:=aq ao hc h2;have hu:=cw hT;obtain⟨i,z,i1,i2,i3,i4,i5,i6,i7,i8⟩:=pL eB;unfold iX at hR;split at hR
 all_goals first | (rename_i h _;cases h;done) | (rename_i h;cases h;done) | skip
 · rename_i iB Ac2 PZ ln cn hf hl;injection hf with f1 f2 f3;subst f1 f2 f3;simp only[List.cons.injEq,and_true] at hl;obtain⟨rfl,rfl⟩:=hl;simp only[rep] at e1 e2;obtain⟨r1,r2,r3,r4,r5⟩:=hR;have rF:cn.toNat*bytes≤140737488355328:=by
     have:((cn.toNat*bytes:Nat):Int)≤140737488355328:=by rw[Int.natCast_mul,Int.toNat_of_nonneg (by omega)];exact r3
     omega
   have CL:cn.toNat≤140737488355328:=Nat.le_trans (Nat.le_mul_of_pos_right _ i5) rF;have hr:=run_make (P:=P) w T el i z hu i1 i6 .i64 .i64 ln cn r1 r2 (by rw[i3,Int.mul_comm];omega) (by omega)
   have dI:(execOp a.eval o).run P w = .ok (.value (.slice (some ⟨w.heap.size,0,none⟩) ln.toNat cn.toNat)) (w.alloc (.cells (madeCells z.cells (cn.toNat*i.size)) el)):=by
     simp only[execOp,ho,e1,e2,Sem.run_bind,hr,Result.andThen_ok,Sem.run_pure]
   obtain⟨q1,q2⟩:=iT (ν:=ν) (K:=K) (w:=w) i7;have Aag:(madeCells z.cells (cn.toNat*i.size)).toList=(List.replicate cn.toNat z.cells.toList).flatten:=by
     rw[←mU z.cells sz i8 cn.toNat,i2];simp[madeCells,i8]
   obtain⟨x1,x2⟩:=ke ao.hs (madeCells z.cells (cn.toNat*i.size)) el (List.replicate cn.toNat zero).flatten (by rw[Aag];exact iW q1 _) (all_flatten q2 _)
   exact⟨_,_,_,_,_,dI,x1,x2,by simp[rep],r5 w.heap.size (ao.hs.c9 (Nat.le_refl _))⟩
 all_goals exact hR.elim
theorem UJ(ao:St D ν w0 K0 H0 N e H a w K μ){c:Call}{x y t t' sz x' y' el}(ho:o.op = .call c)(hc:c.callee = .builtin .copy)(dD:c.args.toList=[x,y])(ye:c.argTypes.toList=[t,t'])
   (hT:Sm.elemOf P t=some el) (da:cX P el=some sz) (hx:au ν x x'=true) (hy:au ν y y'=true)
   {hs} (hh:e.cJ [x',y']=some hs) {R:HV→ab→Prop} (hR:iX (.copy sz) hs H R):iA P ν K H a w o R:=by
 obtain⟨z1,z2,h1,h2,rfl⟩:=iU hh;have e1:=aq ao hx h1;have e2:=aq ao hy h2;have hu:=cw hT;have ha:=sw dD;have ht:=sw ye;unfold iX at hR;split at hR
 all_goals first | (rename_i h _;cases h;done) | (rename_i h;cases h;done) | skip
 · rename_i iB b off n cc y0 hf hl;injection hf with f1;subst f1;simp only[List.cons.injEq,and_true] at hl;obtain⟨rfl,rfl⟩:=hl;simp only[rep] at e1;split at hR
   · rename_i m ys cs P2 hb;obtain⟨r1,r2⟩:=hR;obtain⟨news,src,n1,n2⟩:=CM (P:=P) ao.hs e2 P2;have hk:=src.cells (min m n) (Nat.min_le_left _ _);have hlen:(news.take (min m n*sz)).length=min m n*sz:=by
       rw[List.length_take,src.rG];exact Nat.min_eq_left (Nat.mul_le_mul_right _ (Nat.min_le_left _ _))
     have hle:off+(news.take (min m n*sz)).length≤cs.length:=by
       rw[hlen];have:=Nat.mul_le_mul_right sz (Nat.min_le_right m n);omega
     obtain⟨w',s1,s2,s3⟩:=mV (P:=P) ao.hs hb (ns:=ys.take (min m n*sz)) (vs:=news.take (min m n*sz)) (off:=off) hle (cB _ n1) (by
       rw[List.all_eq_true] at n2 ⊢;exact fun q hq=>n2 q (List.mem_of_mem_take hq))
     have I3:=s1 0 rfl;have Ac3:Nat.min m n=min m n:=rfl;have dI:(execOp a.eval o).run P w = .ok (.value (.int .i64 ((min m n:Nat):Int))) w':=by
       simp[execOp,ho,resolve,hc,ha,ht,invoke,builtin,e1,Builtin.copy_,run_underlying hu,src.len,run_sizeOf da,Ac3,hk,I3,goInt]
     exact⟨_,w',_,_,_,dI,s2,s3,by simp[rep],r2⟩
   · exact hR.elim
 all_goals exact hR.elim
theorem Nv(ao:St D ν w0 K0 H0 N e H a w K μ){c:Call}{x t sz x' el bytes zero}(ho:o.op = .call c)(hc:c.callee = .builtin .clear)(dD:c.args.toList=[x])(ye:c.argTypes.toList=[t])
   (hT:Sm.elemOf P t=some el) (eB:yh P el sz bytes zero=true) (hx:au ν x x'=true)
   {hs} (hh:e.cJ [x']=some hs) {R:HV→ab→Prop} (hR:iX (.clear sz zero) hs H R):iA P ν K H a w o R:=by
 obtain⟨z1,h1,rfl⟩:=eA hh;have e1:=aq ao hx h1;have hu:=cw hT;have ha:=rr dD;have ht:=rr ye;obtain⟨i,z,i1,i2,i3,i4,i5,i6,i7,i8⟩:=pL eB;obtain⟨q1,q2⟩:=iT (ν:=ν) (K:=K) (w:=w) i7;unfold iX at hR;split at hR
 all_goals first | (rename_i h _;cases h;done) | (rename_i h;cases h;done) | skip
 · rename_i iB PZ b off n cc hf hl;injection hf with f1 f2;subst f1 f2;simp only[List.cons.injEq,and_true] at hl;subst hl;simp only[rep] at e1;split at hR
   · rename_i cs hb;obtain⟨r1,r2,r3⟩:=hR;have Zw:(List.replicate n z.cells.toList).flatten.length=n*sz:=by simp[i8]
     obtain⟨w',s1,s2,s3⟩:=mV (P:=P) ao.hs hb (ns:=(List.replicate n zero).flatten) (vs:=(List.replicate n z.cells.toList).flatten) (off:=off) (by rw[Zw];exact r1) (iW q1 _) (all_flatten q2 _)
     have I3:=s1 0 rfl;have P3:(Builtin.zeroCells z.cells n).toList=(List.replicate n z.cells.toList).flatten:=by
       rw[←mU z.cells sz i8 n];simp[Builtin.zeroCells,i8]
     cases n with
     | zero =>
       have hw:w'=w:=by
         simp[storeCells] at I3;exact I3.symm
       subst hw;have dI:(execOp a.eval o).run P w' = .ok (.value (.tuple #[])) w':=by
         simp[execOp,ho,resolve,hc,ha,ht,invoke,builtin,e1,Builtin.clear_,run_underlying hu]
       exact⟨_,w',_,_,_,dI,s2,s3,by simp[rep,aC],r3⟩
     | succ n =>
       have dI:(execOp a.eval o).run P w = .ok (.value (.tuple #[])) w':=by
         simp[execOp,ho,resolve,hc,ha,ht,invoke,builtin,e1,Builtin.clear_,run_underlying hu,zeroValue,typeInfo,i1,i6,P3,I3]
       exact⟨_,w',_,_,_,dI,s2,s3,by simp[rep,aC],r3⟩
   · exact hR.elim
 · rename_i iB PZ hf hl;simp only[List.cons.injEq,and_true] at hl;subst hl;simp only[rep] at e1;have dI:(execOp a.eval o).run P w = .ok (.value (.tuple #[])) w:=by
     simp[execOp,ho,resolve,hc,ha,ht,invoke,builtin,e1,Builtin.clear_,run_underlying hu]
   exact⟨_,w,_,_,_,dI,Ext.refl _ _ _,ao.hs,by simp[rep,aC],hR⟩
 all_goals exact hR.elim
theorem JV{fn:Func}(hn:fn.name = "slices.overlaps[sumpter/api.Entry]")(ho:fn.origin = "slices.overlaps"):Extern.find fn=some (Extern.SlicesOverlaps.overlaps fn.params fn.resultTypes)∧Extern.findNext fn=none:=by
 unfold Extern.find Extern.findNext;rw[hn,ho];constructor
 · have h1:Extern.allGenericRows.lookup "slices.overlaps[sumpter/api.Entry]" = none:=by kernel_rfl
   have h2:Extern.allTypedRows.lookup "slices.overlaps[sumpter/api.Entry]" = none:=by kernel_rfl
   have h3:Extern.allRows.lookup "slices.overlaps[sumpter/api.Entry]" = none:=by kernel_rfl
   have h4:Extern.allGenericRows.lookup "slices.overlaps" = none:=by kernel_rfl
   have h5:Extern.allTypedRows.lookup "slices.overlaps" = some Extern.SlicesOverlaps.overlaps:=by kernel_rfl
   simp only[h1,h2,h3,h4,h5];rfl
 · have h1:Extern.allNextRows.lookup "slices.overlaps[sumpter/api.Entry]" = none:=by kernel_rfl
   have h2:Extern.allNextRows.lookup "slices.overlaps" = none:=by kernel_rfl
   simp only[h1,h2];rfl
theorem Nw(w:World)(ps rs:Array TypeId)(tS e:TypeId)(hp:ps[0]? = some tS)(ht:P.underlying tS=some (.slice e))(size:Nat)(hz:∀w,(Go.sizeOf e).run P w = .ok size w)
   (a b:Addr) (la ca lb cb:Nat) (eJ:a.block≠b.block) (tA tB:TypeId) (kA kB:Nat)
   (hsa:w.shape? a.block=some (tA,kA)) (hsb:w.shape? b.block=some (tB,kB)) (hkA:kA≠0)
   (CN:w.frozen? b=false) (AJ:w.frozen? { block:=b.block,off:=kB }=false) :
   (Extern.SlicesOverlaps.overlaps ps rs #[.slice (some a) la ca,.slice (some b) lb cb]).run P w = .ok (.bool false) w:=by
 have hnb:(a.block != b.block)=true:=by simpa using eJ
 have Ac4:(a.block==b.block)=false:=by simpa using eJ
 change Sem.run P (α:=Value) (do
   let some t:=ps[0]? | stuck "slices.overlaps: no parameter types"
   let .slice elem ←underlying t | stuck "slices.overlaps: slice type expected"
   let size ←Go.sizeOf elem
   match (some a:Option Addr),(some b:Option Addr) with
   | some a,some b =>
     if la=0∨lb=0∨size=0 then pure (Value.bool false)
     else if a.block != b.block&&(←frozen a)&&(←frozen b) then unsupported .addressObserved
     else do
       if a.block != b.block then do
         noView a;noView b
         if ←mayBeOne a b then return Value.bool ((←choose (.extern "sameAddr.stringBytes" 2))==1)
       pure (Value.bool (a.block==b.block&&a.off < b.off+lb*size&&b.off < a.off+la*size))
   | _,_=>pure (Value.bool false)) w=_
 by_cases h0:la=0∨lb=0∨size=0
 · simp[hp,run_underlying ht,hz,h0]
 · cases kA with
   | zero=>exact absurd rfl hkA
   | succ kA =>
     cases hfa:w.frozen? a<;>cases hsA:w.frozen? { block:=a.block,off:=kA+1 } <;>
       simp[hp,run_underlying ht,hz,h0,hnb,Ac4,frozen,noView,viewAt,mayBeOne,stringish,shape,Sem.run,hsa,hsb,hfa,hsA,CN,AJ]
theorem Aah(ao:St D ν w0 K0 H0 N e H a w K μ){c:Call}{n x y sz x' y' fn t el}(ho:o.op = .call c)(hc:c.callee = .value (.func n))(dD:c.args.toList=[x,y])(hf:P.funcs[n]? = some fn)
   (hn:fn.name = "slices.overlaps[sumpter/api.Entry]") (hor:fn.origin = "slices.overlaps") (hb:fn.body.isNone=true) (hp:fn.params[0]? = some t) (hT:Sm.elemOf P t=some el) (da:cX P el=some sz)
   (hx:au ν x x'=true) (hy:au ν y y'=true) {hs} (hh:e.cJ [x',y']=some hs) {R:HV→ab→Prop} (hR:iX (.ovl sz) hs H R):iA P ν K H a w o R:=by
 obtain⟨z1,z2,h1,h2,rfl⟩:=iU hh;have e1:=aq ao hx h1;have e2:=aq ao hy h2;have hu:=cw hT;have ha:=sw dD;obtain⟨g1,g2⟩:=JV hn hor;unfold iX at hR;split at hR
 all_goals first | (rename_i h _;cases h;done) | (rename_i h;cases h;done) | skip
 · rename_i sz0 tk iB es b off m cc Zx hl;injection Zx with f1;subst f1;simp only[List.cons.injEq,and_true] at hl;obtain⟨rfl,rfl⟩:=hl;obtain⟨r1,rfl,r3,⟨cs,kQ⟩,r4⟩:=hR;simp only[rep] at e1 e2;obtain⟨A,cap,aR,q1,q2,q3,q4,q5,q6,q7,q8⟩:=e1;rcases q8 with q8 | ⟨b1,Aai,rfl,q9,q10⟩;{exact absurd q8 r1};obtain⟨us,T,s1,s2,s3,s4⟩:=ao.hs.res b _ kQ;have uL:0 < es.length:=List.length_pos_iff.2 r1;have Aaj:0 < es.length*iB:=Nat.mul_pos uL r3;have eJ:b1≠b:=by rintro rfl;rw[s2] at q9;omega
   have gA:=b9 q7 q5 q6;have dW:=q10 0 (flat aR)[0] (List.getElem?_eq_getElem (by rw[gA];exact Aaj))
   obtain⟨c1,t1,nF,CH⟩:∃c1 t1 nF,w.heap[b1]? = some (.cells c1 t1 nF)∧c1.size≠0:=by
     simp only[World.cell?,Nat.add_zero] at dW;split at dW;{rename_i c1 t1 nF hq;refine⟨c1,t1,nF,hq,fun h0=>?_⟩;simp at dW;rw[Array.getElem?_eq_none (by omega)] at dW;cases dW};{cases dW}
   have hr:=run_callFunc_extern (P:=P) hf (by rw[hn];decide) hb g2 g1 #[.slice (some ⟨b1,Aai,none⟩) es.length cap,.slice (some ⟨b,off,none⟩) m cc] w
   rw[Nw w fn.params fn.resultTypes t el hp hu iB (fun w=>run_sizeOf da) ⟨b1,Aai,none⟩ ⟨b,off,none⟩ es.length cap m cc eJ t1 T c1.size us.size (by simp[World.shape?,CH.1]) (by simp[World.shape?,s1]) CH.2
     (by simp[World.frozen?,s1]) (by simp[World.frozen?,s1])] at hr
   have dI:(execOp a.eval o).run P w = .ok (.value (.bool false)) w:=by
     simp only[Result.andThen] at hr;have UE:a.eval (.func n) = .func (.func n) #[] #[]:=rfl;simp[execOp,ho,resolve,hc,ha,UE,Deferred.ofValue,invoke,q1,e2,hr]
   exact⟨_,w,_,_,_,dI,Ext.refl _ _ _,ao.hs,by simp[rep],r4⟩
 all_goals exact hR.elim
theorem Aak(ao:St D ν w0 K0 H0 N e H a w K μ){T len ps sz qs el z}(ho:o.op = .buildSlice T len ps)(hT:Sm.elemOf P T=some el)(da:cX P el=some sz)(h0:0 < sz)(hlen:len*sz≤2 ^ 24)(AV:len=qs.length)
   (hz:(P.info? el).bind (·.zero)=some z) (Na:z.cells.size=sz) (Js:l7 ν 0 ps.toList qs=true)
   {eP} (hh:e.cJ qs=some eP) {R:HV→ab→Prop} (hR:iX (.bsl sz) eP H R):iA P ν K H a w o R:=by
 have hu:=cw hT;obtain⟨i,hi,HR⟩:=Option.bind_eq_some_iff.1 hz;have hR':eP.all HV.el=true∧(∀h∈eP,h.aN=sz)∧∀b,H b=none→R (.v (.slice (some ⟨b,0,none⟩) eP.length eP.length)) (H.bt b (some (.obj (eP.flatMap HV.cells)))):=hR;obtain⟨h1,h2,h3⟩:=hR';have sB:eP.length=qs.length:=by
   have:∀(qs:List bj) (eP:List HV),e.cJ qs=some eP→eP.length=qs.length:=by
     intro qs
     induction qs with
     | nil=>intro eP h;simp[Env.cJ] at h;subst h;rfl
     | cons q qs ih =>
       intro eP h;simp only[Env.cJ] at h;split at h;{rename_i g gs _ hg;simp only[Option.some.injEq] at h;subst h;simp[ih gs hg]};{cases h}
   exact this qs eP hh
 obtain⟨dr,aR,g1,g2,g3⟩:=oE (sz:=sz) ao ps.toList qs 0 ((Array.range (len*sz)).map fun j=>z.cells[j % z.cells.size]!) eP Js hh h1 h2 (by simp;rw[sB,←AV];exact Nat.le_refl _)
 have gA:=b9 g2 h1 h2;have CG:dr.toList=flat aR:=by
   rw[g3,Nat.zero_mul,iV _ _ _ (by simp[gA,sB,←AV])]
   rw[List.take_zero,List.nil_append,List.drop_eq_nil_of_le (by simp[gA,sB,←AV]),List.append_nil]
 have dI:(execOp a.eval o).run P w = .ok (.value (.slice (some ⟨w.heap.size,0,none⟩) len len)) (w.alloc (.cells dr el)):=by
   by_cases Nx:len*sz=0
   · have e0:(Array.range (len*sz)).map (fun j=>z.cells[j % z.cells.size]!)=#[]:=by rw[Nx];simp
     rw[e0] at g1;simp only[execOp,ho,Instr.buildSlice,Sem.run_bind,run_underlying hu,Result.andThen_ok,run_sizeOf da,if_neg (show ¬len*sz > 2 ^ 24 by omega),if_pos Nx,Sem.run_pure,Array.toList_map]
     simp only[Nx,Array.range_zero',List.map_toArray,List.map_nil,g1,newRow,Sem.run_bind,run_newObj_alloc,Result.andThen_ok,Sem.run_pure]
   · simp only[execOp,ho,Instr.buildSlice,Sem.run_bind,run_underlying hu,Result.andThen_ok,run_sizeOf da,if_neg (show ¬len*sz > 2 ^ 24 by omega),if_neg Nx,zeroValue,typeInfo,run_program,hi,HR,Sem.run_pure,Array.toList_map,g1,newRow,run_newObj_alloc]
 obtain⟨c1,c2⟩:=l8 g2 h1;obtain⟨x1,x2⟩:=ke ao.hs dr el (eP.flatMap HV.cells) (by rw[CG];exact c1) c2
 refine⟨_,_,_,_,_,dI,x1,x2,?_,h3 w.heap.size (ao.hs.c9 (Nat.le_refl _))⟩;simp[rep,sB,←AV]
theorem UK(ao:St D ν w0 K0 H0 N e H a w K μ){c:Call}{x y t tn sz x' y' el bytes zero kn}(ho:o.op = .call c)(hc:c.callee = .builtin .append)(dD:c.args.toList=[x,y])(ye:c.argTypes.toList=[t,tn])
   (hT:Sm.elemOf P t=some el) (eB:yh P el sz bytes zero=true) (htn:P.underlying tn=some (.int kn)) (hx:au ν x x'=true) (hy:au ν y y'=true)
   {hs} (hh:e.cJ [x',y']=some hs) {R:HV→ab→Prop} (hR:iX (.HU sz bytes zero) hs H R):iA P ν K H a w o R:=by
 obtain⟨z1,z2,h1,h2,rfl⟩:=iU hh;have e1:=aq ao hx h1;have e2:=aq ao hy h2;have hu:=cw hT;have ha:=sw dD;have ht:=sw ye;obtain⟨i,z,i1,i2,i3,i4,i5,i6,i7,i8⟩:=pL eB;obtain⟨q1,q2⟩:=iT (ν:=ν) (K:=K) (w:=w) i7;have grow:∀(A:Option Addr) (n cc:Nat) (k:Int) (sC:List Value) (co:List HV),a.eval x = .slice A n cc→a.eval y = .int .i64 k→(Builtin.firstCells sz n (.slice A n cc)).run P w.drew = .ok sC.toArray w.drew→aC ν K w co sC→co.all HV.one=true →
     0 < k→cc < n+k.toNat→n≤cc→zero.length=sz→iC H sz bytes (n+k.toNat) (co++(List.replicate k.toNat zero).flatten) R→iA P ν K H a w o R:=by
   intro A n cc k sC co e1 e2 hold I4 HW r1 r2 r3 r5 ⟨s1,s2⟩;have nM:(n+k.toNat)≤140737488355328:=Nat.le_trans (Nat.le_mul_of_pos_right _ i5) s1;have hkn:((k.toNat:Nat):Int)=k:=Int.toNat_of_nonneg (by omega)
   have hw:IntKind.i64.wrap k=k:=by rw[IntKind.wrap_i64];omega
   have Ac5:¬(k < 0):=by omega
   have hns:¬(k.toNat*sz=0):=Nat.mul_ne_zero (by omega) (by omega)
   have hn':¬(n+k.toNat≤cc):=by omega
   have UL:¬(9223372036854775807 < ((n:Int)+(k.toNat:Int))):=by omega
   have pM:Builtin.nextslicecap (n+k.toNat) cc*i.bytes≤281474976710656:=by rw[i3];exact growslice_fits (by omega) s1
   have UM:¬(281474976710656 < Builtin.nextslicecap (n+k.toNat) cc*i.bytes):=by omega
   have Ac6:¬(281474976710656 < k*(i.bytes:Int)):=by
     rw[←hkn,←Int.natCast_mul,i3];have:k.toNat*bytes≤(n+k.toNat)*bytes:=Nat.mul_le_mul_right _ (by omega)
     omega
   have uM:max k 0=k:=by omega
   have Aal:¬(9223372036854775807 < ((n:Int)+k)):=by omega
   have Aam:(Builtin.append_ #[t,tn] o.type #[.slice A n cc,.int .i64 k]).run P w =
       .ok (.slice (some ⟨w.heap.size,0,none⟩) (n+k.toNat) (grownCap w (n+k.toNat) cc el)) (w.drew.alloc (.cells (sC++(Builtin.zeroCells z.cells k.toNat).toList++(Builtin.zeroCells z.cells (grownCap w (n+k.toNat) cc el - (n+k.toNat))).toList).toArray el)):=by
     simp[Builtin.append_,run_underlying hu,run_underlying htn,Go.sizeOf,typeInfo,zeroValue,i1,i2,i6,asInt,asIntOf,hw,Ac5,hns,hn',UL,Aal,UM,Ac6,hkn,uM,Question.forced,hold,newRow,grownCap];congr 2;apply Array.toList_inj.1;simp[List.append_assoc]
   have dI:(execOp a.eval o).run P w = .ok (.value (.slice (some ⟨w.heap.size,0,none⟩) (n+k.toNat) (grownCap w (n+k.toNat) cc el))) (w.drew.alloc (.cells (sC++(Builtin.zeroCells z.cells k.toNat).toList++(Builtin.zeroCells z.cells (grownCap w (n+k.toNat) cc el - (n+k.toNat))).toList).toArray el)):=by
     simp only[execOp,ho,resolve,hc,ha,ht,invoke,builtin,List.map_toArray,List.map_cons,List.map_nil,e1,e2,Aam,Sem.run_bind,Sem.run_pure,Result.andThen_ok]
   have xZ:=grownCap_ge w (n+k.toNat) cc el;have uM:=grownCap_le_maxLen w (n+k.toNat) cc el (by simp only[maxLen];omega)
   have gu:∀m,∀v∈(Builtin.zeroCells z.cells m).toList,v.oneCell'=true:=fun m=>yi (by
     rw[Array.all_eq_true];intro j hj;have:=kg q1 q2 z.cells[j] (by simp)
     exact this) (by omega) m
   have P3:(Builtin.zeroCells z.cells k.toNat).toList=(List.replicate k.toNat z.cells.toList).flatten:=by
     rw[←mU z.cells sz i8 k.toNat];simp[Builtin.zeroCells,i8]
   have Jt:Grow w K w.drew K:=⟨fun _=>Nat.le_refl _,fun _ _ _=>rfl,fun _ _=>rfl⟩;have hd:dS ν w.drew K H:=ao.hs.draw;have Zu:∀(l:List Value),aC ν K w.drew (l.map .v) l:=by
     intro l
     induction l with
     | nil=>rfl
     | cons v l ih=>exact⟨v,l,rfl,rfl,ih⟩
   have I5:(((Builtin.zeroCells z.cells (grownCap w (n+k.toNat) cc el - (n+k.toNat))).toList).map HV.v).all HV.one=true:=by
     rw[List.all_map,List.all_eq_true];intro v hv;simpa[HV.one] using gu _ v hv
   obtain⟨x1,x2⟩:=ke (w:=w.drew) hd (sC++(Builtin.zeroCells z.cells k.toNat).toList++(Builtin.zeroCells z.cells (grownCap w (n+k.toNat) cc el - (n+k.toNat))).toList).toArray el
     ((co++(List.replicate k.toNat zero).flatten)++((Builtin.zeroCells z.cells (grownCap w (n+k.toNat) cc el - (n+k.toNat))).toList).map .v)
     (by
       simp only[List.toList_toArray] at *;exact cA (cA (I4.grow Jt) (by rw[P3];exact(iW q1 _).grow Jt)) (Zu _))
     (by rw[List.all_append,List.all_append,HW,all_flatten q2,I5];rfl)
   refine⟨_,_,_,_,_,dI,(Ext.draw w K H _ (Nat.le_succ _)).trans x1,x2,by simp[rep],s2 w.heap.size (grownCap w (n+k.toNat) cc el) _ (ao.hs.c9 (Nat.le_refl _)) xZ uM (by rw[List.length_map,Array.length_toList,size_zeroCells,i8]) I5⟩
 unfold iX at hR;split at hR
 all_goals first | (rename_i h _;cases h;done) | (rename_i h;cases h;done) | skip
 · rename_i sz0 UN Aan k hf hl;injection hf with f1 f2 f3;subst f1 f2 f3;simp only[List.cons.injEq,and_true] at hl;obtain⟨rfl,rfl⟩:=hl;simp only[rep] at e1 e2;obtain⟨r1,r2,r3⟩:=hR;refine grow none 0 0 k [] [] e1 e2 (by simpa using run_firstCells_none (P:=P) w.drew sz 0 0 0) rfl rfl r1 (by omega) (Nat.le_refl _) r2 ?_
   simpa using r3
 · rename_i sz0 UN Aan b off n cc k hf hl;injection hf with f1 f2 f3;subst f1 f2 f3;simp only[List.cons.injEq,and_true] at hl;obtain⟨rfl,rfl⟩:=hl;simp only[rep] at e1 e2;split at hR
   · rename_i cs hb;obtain⟨r1,r2,r3,r4,r5,s12⟩:=hR;obtain⟨us,T,t1,t2,t3,t4⟩:=ao.hs.res b _ hb;have HX:=aK t3;have va:(((us.toList.take cs.length).drop off).take (n*sz)).length=n*sz:=by rw[List.length_take,List.length_drop,HX];omega
     have JW:cU w b off (((us.toList.take cs.length).drop off).take (n*sz)):=by simpa using bl (dL (bl (bQ t1) cs.length) off) (n*sz)
     exact grow _ n cc k _ _ e1 e2 ((HY.JX (P:=P) (w:=w) (c:=cc) va JW).sD) (cB _ (cC off t3)) (rH t4 off (n*sz)) r1 r2 r3 r5 s12
   · exact hR.elim
 all_goals exact hR.elim
theorem UO(ao:St D ν w0 K0 H0 N e H a w K μ){src dst x x'}(ho:o.op = .convert src dst x)(Ny:src=dst)(hb:gV P src=true)(hx:au ν x x'=true)
   {hs} (hh:e.cJ [x']=some hs) {R:HV→ab→Prop} (hR:iX .mark hs H R):iA P ν K H a w o R:=by
 subst Ny;obtain⟨z1,h1,rfl⟩:=eA hh;have e1:=aq ao hx h1;obtain⟨el,u1,u2⟩:=gW hb;unfold iX at hR;split at hR
 all_goals first | (rename_i h _;cases h;done) | (rename_i h;cases h;done) | skip
 · rename_i b n cc hf hl;simp only[List.cons.injEq,and_true] at hl;subst hl;simp only[rep] at e1;obtain⟨cs,hb,hlen,CO,Zy,hR⟩:=hR;obtain⟨us,T,s1,s2,s3,s4⟩:=ao.hs.res b _ hb;have bN:=ao.hs.lt hb;have HX:=aK s3;have CG:n≤us.size:=by rw[List.length_take,hlen] at HX;have e9:=Array.length_toList (xs:=us);omega
   have Ju:∀c,(w.freeze ⟨b,us.size,none⟩ 1).heap[c]? = if c=b then some (.cells us T (us.size,us.size+1)) else w.heap[c]? := by
     intro c;unfold World.freeze;rw[if_neg (by decide)]
     simp only[Array.getElem?_modify]
     by_cases hc:b=c
     · subst hc;simp[s1]
     · have hc':¬c=b:=fun h=>hc h.symm;simp[hc,hc']
   have qI:(w.freeze ⟨b,us.size,none⟩ 1).heap.size=w.heap.size:=by
     unfold World.freeze;rw[if_neg (by decide)];simp
   have dW:∀c j,(w.freeze ⟨b,us.size,none⟩ 1).cell? ⟨c,j,none⟩=w.cell? ⟨c,j,none⟩:=by
     intro c j;simp only[World.cell?,Ju c]
     by_cases hc:c=b
     · subst hc;rw[if_pos rfl,s1]
     · rw[if_neg hc]
   have dI:(execOp a.eval o).run P w = .ok (.value (.slice (some ⟨b,0,none⟩) n cc)) (w.freeze ⟨b,us.size,none⟩ 1):=by
     have hsh:w.shape? b=some (T,us.size):=by simp[World.shape?,s1]
     have Ad3:(freeze ⟨b,us.size,none⟩ 1).run P w = .ok () (w.freeze ⟨b,us.size,none⟩ 1):=by simp[freeze,Sem.run]
     simp[execOp,ho,e1,convert,run_underlying u1,run_underlying u2,markStringish,shape,Sem.run,hsh]
   have hg:Grow w K (w.freeze ⟨b,us.size,none⟩ 1) (fun i=>if i=b then us.size else K i):=by
     refine⟨fun i=>?_,fun c j _=>dW c j,fun c _=>by
       unfold uh;rw[Ju c]
       by_cases hc:c=b
       · subst hc;rw[if_pos rfl,s1]
       · rw[if_neg hc]⟩
     by_cases hi:i=b
     · subst hi;rw[s2];exact Nat.zero_le _
     · simp[hi]
   have oF:∀i,H i=none→i≠b:=fun i hi=>by rintro rfl;rw[hi] at hb;cases hb
   have hos:(w.freeze ⟨b,us.size,none⟩ 1).os=w.os∧(w.freeze ⟨b,us.size,none⟩ 1).tape=w.tape∧(w.freeze ⟨b,us.size,none⟩ 1).output=w.output:=by
     unfold World.freeze;rw[if_neg (by decide)];exact⟨rfl,rfl,rfl⟩
   have Aao:flat (us.toList.take cs.length)=us.toList.take cs.length:=by
     have h1:=kg s3 s4;generalize us.toList.take cs.length=l at h1
     induction l with
     | nil=>rfl
     | cons v l ih =>
       have hv:=h1 v (by simp)
       have hc:v.cells.toList=[v]:=by cases v<;>simp_all[Value.cells,Value.oneCell']
       simp only[flat,List.flatMap_cons,hc,List.singleton_append] at ih ⊢;rw[ih fun u hu=>h1 u (by simp[hu])]
   refine⟨_,_,.sl .no 1 cs,H.bt b none,fun i=>if i=b then us.size else K i,dI,⟨hos.1,hos.2.1,hos.2.2,by rw[qI];exact Nat.le_refl _,(fun _=>by unfold World.freeze;rw[if_neg (by decide)];exact Nat.le_refl _),hg,fun i hi hn=>?_⟩,⟨fun i r hi=>?_,fun i hi=>?_,ao.hs.qD.grow hg⟩,?_,hR⟩
   · have eJ:=oF i hn;exact⟨by rw[Ju,if_neg eJ],by simp[eJ],by simp[ab.bt,eJ,hn]⟩
   · have eJ:i≠b:=by rintro rfl;simp[ab.bt] at hi
     simp only[ab.bt,if_neg eJ] at hi;exact(ao.hs.res i r hi).move hg (by rw[Ju,if_neg eJ]) (by simp[eJ])
   · rw[qI] at hi;have eJ:i≠b:=by omega
     simp only[if_neg eJ];exact ao.hs.fresh i hi
   · simp only[rep];refine⟨some ⟨b,0,none⟩,cc,us.toList.take cs.length,by rw[hlen],by omega,Zy,T_,?_,?_,s3.grow hg,.inr ⟨b,0,rfl,?_,?_⟩⟩
     · rw[List.all_eq_true] at s4 ⊢;exact fun q hq=>Aap (s4 q hq)
     · intro q hq;have:=List.all_eq_true.mp s4 q hq;cases q<;>simp_all[HV.one,HV.aN]
     · simp;omega
     · rw[Aao];exact bl (bQ (fr:=(us.size,us.size+1)) (T:=T) (by rw[Ju,if_pos rfl])) _
 all_goals exact hR.elim
theorem Nz(ao:St D ν w0 K0 H0 N e H a w K μ){f:Zz}{xs:List bj}(hm:∀mf,f ≠ .m mf)(hk:wD P ν o.op f xs=true){zs:List HV}(hz:e.cJ xs=some zs){R:HV→ab→Prop}(hs:iX f zs H R):iA P ν K H a w o R:=by
 unfold wD at hk;split at hk;{rename_i ho;simp only[Bool.and_eq_true] at hk;obtain⟨⟨k1,k2⟩,k3⟩:=hk;split at k1;{rename_i el eB;exact Aaf ao ho eB k1 k2 k3 hz hs};{cases k1}};{rename_i ho;split at hk;{rename_i hc ha;simp only[Bool.and_eq_true] at hk;obtain⟨⟨k1,k2⟩,k3⟩:=hk;split at k1;{rename_i fn hf;simp only[Bool.and_eq_true,decide_eq_true_eq] at k1;obtain⟨⟨⟨m1,m2⟩,m3⟩,m4⟩:=k1;split at m4;{rename_i t hp;split at m4;{rename_i el eB;exact Aah ao ho hc ha hf m2 m1 m3 hp eB (by simpa using m4) k2 k3 hz hs};{cases m4}};{cases m4}};{cases k1}};{cases hk}};{rename_i ho;split at hk;{rename_i hc ha ht;simp only[Bool.and_eq_true] at hk;obtain⟨⟨⟨k1,k2⟩,k3⟩,k4⟩:=hk;split at k1;{rename_i el eB;split at k2;{rename_i kn hkn;exact UK ao ho hc ha ht eB k1 hkn k3 k4 hz hs};{cases k2}};{cases k1}};{cases hk}};{rename_i ho;split at hk;{rename_i el eB;simp only[Bool.and_eq_true,decide_eq_true_eq] at hk;obtain⟨⟨⟨⟨⟨k1,k2⟩,k3⟩,k4⟩,k5⟩,k6⟩:=hk;split at k5;{rename_i z UP;simp only[decide_eq_true_eq] at k5;exact Aak ao ho eB k1 k2 k3 k4 UP k5 k6 hz hs};{cases k5}};{cases hk}};{rename_i ho;simp only[Bool.and_eq_true,decide_eq_true_eq] at hk;exact UO ao ho hk.1.1 hk.1.2 hk.2 hz hs};{rename_i ho;split at hk;{rename_i hc ha ht;simp only[Bool.and_eq_true] at hk;obtain⟨⟨k1,k2⟩,k3⟩:=hk;split at k1;{rename_i el eB;exact UJ ao ho hc ha ht eB (by simpa using k1) k2 k3 hz hs};{cases k1}};{cases hk}};{rename_i ho;split at hk;{rename_i hc ha ht;simp only[Bool.and_eq_true] at hk;obtain⟨k1,k2⟩:=hk;split at k1;{rename_i el eB;split at k1;{exact Nv ao ho hc ha ht eB k1 k2 hz hs};{cases k1}};{cases k1}};{cases hk}}
 · exact absurd rfl (hm _)
 · cases hk
theorem UQ(ao:St D ν w0 K0 H0 N e H a w K μ){f:Zz}{xs:List bj}(hk:wD P ν o.op f xs=true){Kc:EV→Env→ab→Prop}(hs:(aw.cH f xs).step (Spec P ν) e H Kc)
   {next:Act→World→Prop} {Q} (hK:lM D ν w0 K0 H0 N a o.dst Kc next):o.upon P a next Q ((execOp a.eval o).run P w):=by
 simp only[aw.step] at hs;split at hs
 · rename_i zs hz;have key:iA P ν K H a w o (fun h H'=>Kc (.h h) e H')∨JL P ν K H a w o (fun h H'=>Kc (.h h) e H'):=by
     rcases hf:f with mf | _<;>subst hf;{exact Aae ao hk hz hs}
     all_goals left
     all_goals exact Nz ao (by intro;simp) hk hz hs
   rcases key with⟨u,w',h,H',K',h1,h2,h3,h4,h5⟩ | ⟨w',H',K',h1,h2,h3,h5⟩;{rw[h1];apply upon_value;exact hK _ _ _ h5 _ _ _ _ (ao.step h2 h3) h4 T_};{rw[h1];show next (a.put o.dst Go.undef) w';exact hK _ _ _ h5 _ _ _ _ (ao.step h2 h3) (by simp[bO,rep]) trivial}
 · exact hs.elim
end
end Sm
namespace Sm
open Go
def uj(P:Program)(ν:Nat→Option Nat):Prop:=∀n g,pK ν n g→∃f,P.funcs[n]? = some f∧f.body.isNone=false∧(f.name == "runtime.NumGoroutine")=false
section
variable {P:Program} {D:List (Nat×List HV)} {ν:Nat→Option Nat} {w0:World} {K0:Nat→Nat} {H0:ab} {N:Nat} {e:Env} {H:ab} {a:Act} {w:World} {K μ:Nat→Nat} {o:Oper}
theorem bR(ao:St D ν w0 K0 H0 N e H a w K μ){x:EV}(h:Calm P ν K μ e a w o x){Kc:EV→Env→ab→Prop}(hk:Kc x e H){next:Act→World→Prop}{Q}(hK:lM D ν w0 K0 H0 N a o.dst Kc next) :
   o.upon P a next Q ((execOp a.eval o).run P w):=by
 obtain⟨u,h1,h2,h3⟩:=h;rw[h1];apply upon_value;exact hK _ _ _ hk _ _ _ _ ao h2 h3
theorem bV{s:aw}{Kc:EV→Env→ab→Prop}{x:Option EV}(hx:s.ev e H=x)(hs:match s.ev e H with | some x=>Kc x e H | none=>False):∃z,s.ev e H=some z∧Kc z e H:=by
 split at hs;{rename_i z hz;exact⟨z,hz,hs⟩};{exact hs.elim}
theorem YR(ao:St D ν w0 K0 H0 N e H a w K μ){T x k ok x' k' s agg zero kt el}(ho:o.op = .lookup T x k ok)(hT:mapOf P T=some (kt,el))(Nr:lZ P s kt=true)(UP:pJ P el agg zero=true)(hx:au ν x x'=true)(hk:au ν k k'=true)
   {z} (hz:(aw.ba s ok agg zero x' k').ev e H=some z):Calm P ν K μ e a w o z:=by
 simp only[aw.ev] at hz;split at hz
 · rename_i b kv h1 h2;have e1:=aq ao hx h1;have e2:=aq ao hk h2;simp only[rep] at e1 e2;have hu:=fk hT;obtain⟨d,hd,u9⟩:=rE Nr;obtain⟨zv,Zu,Uz⟩:=sr (ν:=ν) (K:=K) (w:=w) UP;have fin:∀(u:Value) (h:HV) (b:Bool),rep ν K w h u→rep ν K w (Jr ok h b) (if ok then .tuple #[u,.bool b] else u):=by
     intro u h b hr;cases ok;{exact hr};{simp only[Jr,if_true,rep,aC];exact⟨[u,.bool b],rfl,u,[.bool b],rfl,hr,_,[],rfl,rfl,rfl⟩}
   split at hz;{rename_i sJ;have JP:(Instr.checkKey ((w.heap[b]?).elim false fun _=>false) 10000 kt kv).run P w = .ok () w:=run_checkKey hd u9 sJ _ 9999;have AcB:∀em,(Instr.checkKey em 10000 kt kv).run P w = .ok () w:=fun em=>run_checkKey hd u9 sJ em 9999;split at hz;{rename_i es c hH;obtain⟨us,m1,m2,m3,m4⟩:=oD (P:=P) ao hH;obtain⟨n1,n2⟩:=j9 u9 kv m3 0;split at hz;{rename_i p hp;obtain⟨j,y,u,g1,g2,g3,g4,g5,g6,g7⟩:=n2 p hp;have hf:=run_findKey (w:=w) hd g7;simp only[Option.some.injEq] at hz;subst hz;rw[g3];refine⟨_,?_,fin u _ true g6,T_⟩;simp[execOp,ho,e1,e2,Instr.lookup,run_underlying hu,AcB _,m4,hf]};{rename_i hp;have hf:=run_findKey (w:=w) hd (n1 hp);simp only[Option.some.injEq] at hz;subst hz;refine⟨_,?_,fin zv _ false Uz,T_⟩;simp[execOp,ho,e1,e2,Instr.lookup,run_underlying hu,AcB _,m4,hf,Zu]};{cases hz}};{cases hz}};{cases hz}
 · cases hz
theorem uk(hB:uj P ν)(ao:St D ν w0 K0 H0 N e H a w K μ){s:aw}(hk:J4 P ν o s=true){Kc:EV→Env→ab→Prop}(hs:s.step (Spec P ν) e H Kc)
   {next:Act→World→Prop} {Q} (hK:lM D ν w0 K0 H0 N a o.dst Kc next):o.upon P a next Q ((execOp a.eval o).run P w):=by
 unfold J4 at hk;split at hk;{rename_i x y ho;obtain⟨z,h1,h2⟩:=bV rfl hs;exact bR ao (Qp ao (.inl ho) hk h1) h2 hK};{rename_i x y ho;obtain⟨z,h1,h2⟩:=bV rfl hs;exact bR ao (Qp ao (.inr ho) hk h1) h2 hK};{rename_i ho;obtain⟨z,h1,h2⟩:=bV rfl hs;simp only[Bool.and_eq_true] at hk;exact bR ao (N1 ao ho hk.1.1 hk.1.2 hk.2 h1) h2 hK};{rename_i ho;obtain⟨z,h1,h2⟩:=bV rfl hs;simp only[Bool.and_eq_true,decide_eq_true_eq] at hk;obtain⟨⟨rfl,k1⟩,k2⟩:=hk;exact bR ao (Vj ao ho k1 k2 h1) h2 hK};{rename_i ho;obtain⟨z,h1,h2⟩:=bV rfl hs;simp only[Bool.and_eq_true,decide_eq_true_eq] at hk;obtain⟨⟨rfl,k1⟩,k2⟩:=hk;exact bR ao (Vk ao ho k1 k2 h1) h2 hK};{rename_i ho;obtain⟨z,h1,h2⟩:=bV rfl hs;simp only[Bool.and_eq_true] at hk;exact bR ao (Qv (ne:=false) ao (by simpa using ho) hk.1.1 hk.1.2 hk.2 h1) h2 hK};{rename_i ho;obtain⟨z,h1,h2⟩:=bV rfl hs;simp only[Bool.and_eq_true] at hk;exact bR ao (Qv (ne:=true) ao (by simpa using ho) hk.1.1 hk.1.2 hk.2 h1) h2 hK};{rename_i ho;obtain⟨z,h1,h2⟩:=bV rfl hs;exact bR ao (Vl ao ho hk h1) h2 hK};{rename_i ho;obtain⟨z,h1,h2⟩:=bV rfl hs;exact bR ao (Vm ao ho hk h1) h2 hK};{rename_i ho;obtain⟨z,h1,h2⟩:=bV rfl hs;simp only[Bool.and_eq_true,decide_eq_true_eq] at hk;exact bR ao (N2 ao ho hk.1.1 hk.1.2 hk.2 h1) h2 hK};{rename_i ho;obtain⟨z,h1,h2⟩:=bV rfl hs;simp only[Bool.and_eq_true] at hk;exact bR ao (Vo ao ho hk.1.1 hk.1.2 hk.2 h1) h2 hK};{rename_i ho;obtain⟨z,h1,h2⟩:=bV rfl hs;simp only[Bool.and_eq_true] at hk;exact bR ao (Ux ao ho hk.1.1 hk.1.2 hk.2 h1) h2 hK};{rename_i ho;split at hk;{rename_i z hz;exact K5 ao ho hz hk hs hK};{cases hk}}
 · rename_i ho;exact VH ao ho hk hs hK
 · rename_i ho;obtain⟨z,h1,h2⟩:=bV rfl hs;simp only[Bool.and_eq_true] at hk;obtain⟨⟨k1,k2⟩,k3⟩:=hk;split at k1;{rename_i zv hzv;split at k2;{rename_i fs AR;exact bR ao (KZ ao ho hzv k1 AR k2 k3 h1) h2 hK};{rename_i m el AR;simp only[Bool.and_eq_true,List.isEmpty_iff] at k2;exact bR ao (Iq ao ho k2.1 k3 hzv k1 AR k2.2 h1) h2 hK};{cases k2}};{cases k1}
 · rename_i ho;split at hk;{rename_i el eB;simp only[Bool.and_eq_true,decide_eq_true_eq] at hk;obtain⟨⟨⟨⟨⟨k1,k2⟩,k3⟩,k4⟩,k5⟩,k6⟩:=hk;split at k5;{rename_i z hz;simp only[decide_eq_true_eq] at k5;exact I8 ao ho eB k1 k2 k3 k4 hz k5 k6 hs hK};{cases k5}};{cases hk}
 · rename_i ho;obtain⟨z,h1,h2⟩:=bV rfl hs;simp only[Bool.and_eq_true,decide_eq_true_eq] at hk;exact bR ao (Ej ao ho hk.1.1.1 hk.1.1.2 hk.1.2 hk.2 h1) h2 hK
 · rename_i ho;simp only[Bool.and_eq_true,decide_eq_true_eq] at hk;exact K6 ao ho hk.1.1 hk.1.2 hk.2 hs hK
 · rename_i ho;obtain⟨z,h1,h2⟩:=bV rfl hs;exact bR ao (N3 ao ho hk h1) h2 hK
 · rename_i ho;obtain⟨z,h1,h2⟩:=bV rfl hs;simp only[Bool.and_eq_true] at hk;obtain⟨k1,k2⟩:=hk;split at k1;{rename_i fd U5;simp only[Bool.and_eq_true,decide_eq_true_eq] at k1;obtain⟨k3,k4⟩:=k1;split at k4;{rename_i n hn;exact bR ao (Vp ao ho U5 k3 hn k2 h1) h2 hK};{cases k4}};{cases k1}
 · rename_i ho;obtain⟨z,h1,h2⟩:=bV rfl hs;simp only[Bool.and_eq_true] at hk;obtain⟨k1,k2⟩:=hk;split at k1;{rename_i fd U5;simp only[Bool.and_eq_true,decide_eq_true_eq] at k1;obtain⟨⟨⟨k3,k4⟩,k5⟩,k6⟩:=k1;exact bR ao (KI ao ho U5 k3 k4 k5 (by simpa using k6) k2 h1) h2 hK};{cases k1}
 · rename_i ho;obtain⟨z,h1,h2⟩:=bV rfl hs;simp only[Bool.and_eq_true] at hk;obtain⟨⟨k1,k2⟩,k3⟩:=hk;split at k1;{rename_i el eB;exact bR ao (Vq ao ho eB (by simpa using k1) k2 k3 h1) h2 hK};{cases k1}
 · rename_i ho;obtain⟨z,h1,h2⟩:=bV rfl hs;simp only[Bool.and_eq_true] at hk;obtain⟨⟨k1,k2⟩,k3⟩:=hk;split at k1;{rename_i n el eB;simp only[Bool.and_eq_true,decide_eq_true_eq] at k1;obtain⟨rfl,k4⟩:=k1;exact bR ao (N4 ao ho eB k4 k2 k3 h1) h2 hK};{cases k1}
 · rename_i ho;obtain⟨z,h1,h2⟩:=bV rfl hs;simp only[Bool.and_eq_true] at hk;exact bR ao (N5 ao ho hk.1.1 hk.1.2 hk.2 h1) h2 hK
 · rename_i ho;obtain⟨z,h1,h2⟩:=bV rfl hs;split at hk;{rename_i hc ha ht;simp only[Bool.and_eq_true] at hk;exact bR ao (Vr ao ho hc ha ht hk.1 hk.2 h1) h2 hK};{cases hk}
 · rename_i ho;obtain⟨z,h1,h2⟩:=bV rfl hs;split at hk;{rename_i hc ha ht;simp only[Bool.and_eq_true] at hk;exact bR ao (N6 ao ho hc ha ht hk.1 hk.2 h1) h2 hK};{cases hk}
 · rename_i ho;split at hk;{rename_i hc ha ht;simp only[Bool.and_eq_true,decide_eq_true_eq] at hk;obtain⟨⟨⟨k1,k2⟩,k3⟩,k4⟩:=hk;split at k1;{rename_i el eB;split at k1;{rename_i i hi;simp only[Bool.and_eq_true,decide_eq_true_eq] at k1;obtain⟨⟨⟨⟨m1,m2⟩,m3⟩,m4⟩,m5⟩:=k1;split at m5;{rename_i z hz;simp only[Bool.and_eq_true,decide_eq_true_eq] at m5;exact YP ao ho hc ha ht k2 eB hi m1 m2 m3 m4 hz m5.1 m5.2 k3 k4 hs hK};{cases m5}};{cases k1}};{cases k1}};{cases hk}
 · rename_i ho;obtain⟨z,h1,h2⟩:=bV rfl hs;split at hk;{rename_i hc ha;simp only[Bool.and_eq_true] at hk;obtain⟨⟨rfl,k1⟩,k2⟩:=hk;exact bR ao (Qq ao ho (by simpa using hc) ha k1 k2 h1) h2 hK};{rename_i hc ha;simp only[Bool.and_eq_true,Bool.not_eq_true'] at hk;obtain⟨⟨rfl,k1⟩,k2⟩:=hk;exact bR ao (Qq ao ho (by simpa using hc) ha k1 k2 h1) h2 hK};{cases hk}
 · rename_i c g ys ho;split at hk
   · rename_i f hc;simp only[Bool.and_eq_true,decide_eq_true_eq] at hk;simp only[aw.step] at hs;split at hs
     · rename_i zs hz;refine wY ao hB (n:=f) (us:=c.args.map a.eval) ?_ hk.1 (by simpa using ji ao hk.2 hz) hs hK
       simp[execOp,ho,resolve,hc,Act.eval,Deferred.ofValue,invoke]
     · exact hs.elim
   · cases hk
 · rename_i c y ys ho;split at hk
   · rename_i x hc;simp only[Bool.and_eq_true] at hk;simp only[aw.step] at hs;split at hs
     · rename_i g cq zs Ae F7;have e1:=aq ao hk.1 Ae;simp only[rep] at e1;obtain⟨n,us,g1,g2,g3⟩:=e1;refine wY ao hB (n:=n) (us:=c.args.map a.eval++us.toArray) ?_ g1 (by simpa using cA (ji ao hk.2 F7) g3) hs hK
       simp[execOp,ho,resolve,hc,g2,Deferred.ofValue,invoke]
     · rename_i g r zs Ae F7;have e1:=aq ao hk.1 Ae;simp only[rep] at e1;obtain⟨n,u',g1,g2,g3⟩:=e1;refine wY ao hB (n:=n) (us:=#[u']++c.args.map a.eval) ?_ g1 (by simp only[Array.toList_append,Array.toList_map];exact⟨u',_,rfl,g3,ji ao hk.2 F7⟩) hs hK
       simp[execOp,ho,resolve,hc,g2,Deferred.ofValue,invoke]
     · exact hs.elim
   · cases hk
 · rename_i ho;obtain⟨z,h1,h2⟩:=bV rfl hs;simp only[Bool.and_eq_true,decide_eq_true_eq] at hk;exact bR ao (N7 ao ho hk.1.1 hk.1.2 hk.2 h1) h2 hK
 · rename_i ho;obtain⟨z,h1,h2⟩:=bV rfl hs;simp only[Bool.and_eq_true,decide_eq_true_eq] at hk;obtain⟨rfl,k1⟩:=hk;exact bR ao (Vs ao ho k1 h1) h2 hK
 · rename_i ho;obtain⟨z,h1,h2⟩:=bV rfl hs;simp only[Bool.and_eq_true] at hk;obtain⟨⟨⟨⟨⟨k1,k2⟩,k3⟩,k4⟩,k5⟩,k6⟩:=hk;split at k1;{rename_i el eB;exact bR ao (VB ao ho eB (by simpa using k1) k2 k3 k4 k5 k6 h1) h2 hK};{cases k1}
 · rename_i ho;obtain⟨z,h1,h2⟩:=bV rfl hs;simp only[Bool.and_eq_true] at hk;exact bR ao (Vt ao ho hk.1.1.1 hk.1.1.2 hk.1.2 hk.2 h1) h2 hK
 · rename_i ho;obtain⟨z,h1,h2⟩:=bV rfl hs;simp only[Bool.and_eq_true,decide_eq_true_eq] at hk;obtain⟨⟨⟨rfl,k1⟩,k2⟩,k3⟩:=hk;split at k1;{rename_i kt el hT;simp only[Bool.and_eq_true] at k1;exact bR ao (YR ao ho hT k1.1 k1.2 k2 k3 h1) h2 hK};{cases k1}
 · rename_i ho;obtain⟨z,h1,h2⟩:=bV rfl hs;exact bR ao (Vn ao ho hk h1) h2 hK
 · rename_i ho;obtain⟨z,h1,h2⟩:=bV rfl hs;simp only[Bool.and_eq_true] at hk;obtain⟨⟨⟨k1,k2⟩,k3⟩,k4⟩:=hk;split at k1;{rename_i m el hT;simp only[Bool.and_eq_true,decide_eq_true_eq] at k1;obtain⟨rfl,k5⟩:=k1;exact bR ao (VA ao ho hT k5 k2 k3 k4 h1) h2 hK};{cases k1}
 · exact Abb ao hk hs hK
 · exact UQ ao hk hs hK
 · exact hs.elim
 · cases hk
def Af(P:Program)(ν:Nat→Option Nat)(N:Nat)(ops:Array Oper)(o:Oper)(s:aF):Bool:=
 J4 P ν o s.op&&decide (o.dst=s.dst)&&(match o.dst with
   | some d=>decide (d < N)
   | none=>true)&&(match o.guard,s.guard with
   | none,none=>true
   | some (j,b),some (t,b')=>decide (b=b')&&decide ((ops[j]?).bind (·.dst)=some t)&&decide (t < N)
   | _,_=>false)
theorem Cm{ops:Array Oper}{tmps:Array Value}{j t:Nat}(h:(ops[j]?).bind (·.dst)=some t)(ht:t < tmps.size):yielded ops tmps j=match tmps.getD t undef with | .bool b=>some b | _=>none:=by
 simp only[yielded,h,Option.bind_some,Array.getElem?_eq_getElem ht,Array.getD_eq_getD_getElem?,Option.getD_some];cases tmps[t]<;>rfl
theorem iy(hB:uj P ν){ops:Array Oper}{Q:Exit→Act→World→Prop}{Kc:Env→ab→Prop}{tl:List Nat}:∀(l:List Nat) (ss:List aF) {e:Env} {H:ab} {a:Act} {w:World} {K μ:Nat→Nat},
   l.length=ss.length→(∀k,k < l.length→∃o s,ops[l[k]!]? = some o∧ss[k]? = some s∧Af P ν N ops o s=true) →
   St D ν w0 K0 H0 N e H a w K μ→aj (Spec P ν) ss e H Kc→(∀e' H' a' w' K' JD,Kc e' H'→St D ν w0 K0 H0 N e' H' a' w' K' JD→wpOps P ops Q tl a' w')→wpOps P ops Q (l++tl) a w
 | [],[],e,H,a,w,K,μ,_,_,ao,hs,hQ=>hQ _ _ _ _ _ _ hs ao
 | [],_::_,_,_,_,_,_,_,hl,_,_,_,_=>by simp at hl
 | _::_,[],_,_,_,_,_,_,hl,_,_,_,_=>by simp at hl
 | i::l,s::ss,e,H,a,w,K,μ,hl,hc,ao,hs,hQ=>by
   obtain⟨o,s',h1,h2,h3⟩:=hc 0 (by simp)
   simp only[List.getElem!_cons_zero,List.getElem?_cons_zero,Option.some.injEq] at h1 h2;subst h2;have yI:∀k,k < l.length→∃o s,ops[l[k]!]? = some o∧ss[k]? = some s∧Af P ν N ops o s=true:=by
     intro k hk;obtain⟨o',s'',g1,g2,g3⟩:=hc (k+1) (by simpa using hk)
     exact⟨o',s'',by simpa using g1,by simpa using g2,g3⟩
   have sB:l.length=ss.length:=by simpa using hl
   simp only[Af,Bool.and_eq_true,decide_eq_true_eq] at h3;obtain⟨⟨⟨c1,c2⟩,c3⟩,c4⟩:=h3;have hd:∀t,s.dst=some t→t < N:=by
     intro t ht;rw[←c2] at ht;simp only[ht,decide_eq_true_eq] at c3;exact c3
   have Hc:∀{e1:Env} {a1:Act},lM D ν w0 K0 H0 N a1 o.dst (fun x e' H'=>aj (Spec P ν) ss (e'.put s.dst x) H' Kc) (wpOps P ops Q (l++tl)):=by
     intro e1 a1 x e' H' hk u w' K' JD jL hr hlv;rw[c2];exact iy hB l ss sB yI (jL.put hd hr hlv) hk hQ
   simp only[List.cons_append,wpOps,h1];simp only[aj,dm] at hs;cases NQ:o.guard with
   | none =>
     cases Z1:s.guard with
     | some p=>simp[NQ,Z1] at c4
     | none =>
       simp only[Z1] at hs;rw[if_pos (by simp[Region.wanted,NQ])]
       left;exact uk hB ao c1 hs (Hc (e1:=e))
   | some p =>
     obtain⟨j,b⟩:=p;cases Z1:s.guard with
     | none=>simp[NQ,Z1] at c4
     | some q =>
       obtain⟨t,b'⟩:=q;simp only[NQ,Z1,Bool.and_eq_true,decide_eq_true_eq] at c4;obtain⟨⟨rfl,c5⟩,c6⟩:=c4;have hy:=Cm c5 (tmps:=a.tmps) (by rw[ao.sz];exact c6)
       have hwd:Region.wanted o (yielded ops a.tmps)=(yielded ops a.tmps j==some b):=by simp[Region.wanted,NQ]
       simp only[Z1] at hs;split at hs
       · rename_i bv gJ;have e1:=(ao.slot t _ gJ).1;simp only[bO,rep] at e1;rw[e1] at hy;simp only at hy;have AcC:∀c,bv=c→St D ν w0 K0 H0 N (e.put (some t) (.h (.v (.bool c)))) H a w K μ:=by
           intro c hcv;subst hcv;rw[ij gJ];exact ao
         by_cases Mb:bv=b
         · rw[if_pos (by rw[hwd,hy,Mb];simp)]
           left;exact uk hB (AcC b Mb) c1 (hs.1 Mb) (Hc (e1:=e))
         · have rF:bv=!b:=by cases bv<;>cases b<;>simp_all
           rw[if_neg (by rw[hwd,hy,rF];cases b<;>simp)]
           rw[c2];exact iy hB l ss sB yI ((AcC (!b) rF).put (x:=.h .undef) (u:=undef) hd (by simp[bO,rep,HV.undef]) trivial) (hs.2 rF) hQ
       · rename_i us gJ;have e1:=(ao.slot t _ gJ).1;simp only[bO,rep] at e1;rw[e1] at hy;simp only at hy;rw[if_neg (by rw[hwd,hy];simp)]
         rw[c2];exact iy hB l ss sB yI (ao.put (x:=.h .undef) (u:=undef) hd (by simp[bO,rep,HV.undef]) trivial) hs hQ
       · exact hs.elim
theorem um(hB:uj P ν){ops:Array Oper}{Q:Exit→Act→World→Prop}{Kc:Env→ab→Prop}(l:List Nat)(ss:List aF){e:Env}{H:ab}{a:Act}{w:World}{K μ:Nat→Nat}
   (h1:l.length=ss.length) (h2:∀k,k < l.length→∃o s,ops[l[k]!]? = some o∧ss[k]? = some s∧Af P ν N ops o s=true)
   (h3:St D ν w0 K0 H0 N e H a w K μ) (h4:aj (Spec P ν) ss e H Kc) (h5:∀e' H' a' w' K' JD,Kc e' H'→St D ν w0 K0 H0 N e' H' a' w' K' JD→Q .normal a' w'):wpOps P ops Q l a w:=by
 have:=iy (tl:=[]) hB l ss h1 h2 h3 h4 h5
 rwa [List.append_nil] at this
end
end Sm
namespace Sm
open Go
def fF(S:aJ):Prop:=∀g hs H (Q Q':HV→ab→Prop),(∀h H',Q h H'→Q' h H')→S g hs H Q→S g hs H Q'
theorem kN{S:aJ}(hS:fF S){e:Env}{H:ab}{K K':EV→Env→ab→Prop}(hK:∀x e' H',K x e' H'→K' x e' H'):∀(o:aw),o.step S e H K→o.step S e H K':=by
 intro o h;cases o
 case alloc loc cs =>
   simp only[aw.step] at h ⊢;split at h;{exact⟨h.1,hK _ _ _ h.2⟩};{exact fun b hb=>hK _ _ _ (h b hb)}
 case box loc n x =>
   simp only[aw.step] at h ⊢;split at h;{obtain⟨h1,h2,h3⟩:=h;refine⟨h1,h2,?_⟩;split at h3;{exact⟨h3.1,hK _ _ _ h3.2⟩};{exact fun b hb=>hK _ _ _ (h3 b hb)}};{exact h.elim}
 case aO sz ps =>
   simp only[aw.step] at h ⊢;split at h;{exact⟨h.1,h.2.1,hK _ _ _ h.2.2⟩};{exact h.elim}
 case store n a x =>
   simp only[aw.step] at h ⊢;split at h;{obtain⟨h1,h2,h3⟩:=h;refine⟨h1,h2,?_⟩;split at h3;{split at h3;{exact⟨h3.1,hK _ _ _ h3.2⟩};{exact h3.elim}};{split at h3;{exact⟨h3.1,hK _ _ _ h3.2⟩};{exact h3.elim}};{exact h3.elim}};{exact h.elim}
 case cH f xs =>
   simp only[aw.step] at h ⊢;split at h;{exact pQ (fun h' H' hr=>hK _ _ _ hr) h};{exact h.elim}
 case app sz bytes x y =>
   simp only[aw.step] at h ⊢;rcases h with h | h
   rotate_left
   · right;split at h;{exact pP (fun h' H' hr=>hK _ _ _ hr) h};{exact h.elim}
   left;split at h;{exact⟨h.1,fun hy=>hK _ _ _ (h.2.1 hy),fun hy=>⟨(h.2.2 hy).1,fun b c hb=>hK _ _ _ ((h.2.2 hy).2 b c hb)⟩⟩};{exact⟨h.1,h.2.1,fun hy=>hK _ _ _ (h.2.2.1 hy),fun hy=>⟨(h.2.2.2 hy).1,fun b c hb=>hK _ _ _ ((h.2.2.2 hy).2 b c hb)⟩⟩};{exact⟨h.1,h.2.1,h.2.2.1,h.2.2.2.1,fun b c hb=>hK _ _ _ (h.2.2.2.2 b c hb)⟩};{exact h.elim}
 case call g args =>
   simp only[aw.step] at h ⊢;split at h;{exact hS _ _ _ _ _ (fun h' H'=>hK _ _ _) h};{exact h.elim}
 case er x args =>
   simp only[aw.step] at h ⊢;split at h;{exact hS _ _ _ _ _ (fun h' H'=>hK _ _ _) h};{exact hS _ _ _ _ _ (fun h' H'=>hK _ _ _) h};{exact h.elim}
 case nd f xs =>
   simp only[aw.step] at h ⊢;split at h;{exact sF (fun h' hr=>hK _ _ _ hr) h};{exact h.elim}
 all_goals
   simp only[aw.step] at h ⊢;split at h;{exact hK _ _ _ h};{exact h.elim}
theorem dT{S:aJ}(hS:fF S){K K':Env→ab→Prop}(hK:∀e H,K e H→K' e H)(s:aF)(e:Env)(H:ab)(h:dm S s e H K):dm S s e H K':=by
 simp only[dm] at h ⊢;split at h;{exact kN hS (fun x e' H' h'=>hK _ _ h') _ h};{split at h;{exact⟨fun hb=>kN hS (fun x e' H' h'=>hK _ _ h') _ (h.1 hb),fun hb=>hK _ _ (h.2 hb)⟩};{exact hK _ _ h};{exact h.elim}}
def aw.bT:aw→List bj
 | .mv x=>[x] | .pick c a b=>[c,a,b] | .int _ x y=>[x,y] | .str _ x y=>[x,y] | .eq _ _ x y=>[x,y] | .not x=>[x] | .neg x=>[x] | .conv _ x=>[x] | .sG x=>[x] | .JN x=>[x]
 | .alloc _ _=>[] | .box _ _ x=>[x] | .build _ ps=>ps.map (·.2.2) | .aO _ ps=>ps | .load _ _ x=>[x] | .store _ a x=>[a,x] | .gw x=>[x] | .dZ _ x=>[x]
 | .field _ _ _ x=>[x] | .idx _ x i=>[x,i] | .sH _ _ x i=>[x,i] | .jr x i=>[x,i] | .len x=>[x] | .dF x=>[x] | .app _ _ x y=>[x,y] | .call _ xs=>xs
 | .er x xs=>x::xs | .iD _ xs=>xs | .ext x _=>[x] | .gy _ x lo hi mx=>x::(lo.toList++hi.toList++mx.toList) | .sI x lo hi=>x::(lo.toList++hi.toList) | .mm _ x y=>[x,y] | .nd _ xs=>xs | .cH _ xs=>xs | .P5 x=>[x] | .P6 _ _ x lo hi=>x::(lo.toList++hi.toList) | .ba _ _ _ _ x k=>[x,k] | .dead=>[]
def aw.dU:aw→Bool
 | .load ..=>true
 | .ba ..=>true
 | _=>false
section
variable {e e':Env} {H H':ab}
theorem aZ{x:bj}(h:e.fg x=e'.fg x):e.hv x=e'.hv x:=by simp only[Env.hv,h]
theorem fE:∀{xs:List bj},(∀x∈xs,e.fg x=e'.fg x)→e.cJ xs=e'.cJ xs
 | [],_=>rfl
 | x::xs,h=>by
   have h1:=aZ (h x (by simp))
   have h2:e.cJ xs=e'.cJ xs:=fE (fun y hy=>h y (by simp[hy]))
   simp only[Env.cJ,h1,h2]
theorem gT{d:Nat}{x:Option bj}(h:∀y∈x.toList,e.fg y=e'.fg y):iE e d x=iE e' d x:=by
 cases x with
 | none=>rfl
 | some x=>simp only[iE,aZ (h x (by simp))]
theorem po(o:aw)(h:∀x∈o.bT,e.fg x=e'.fg x)(hl:o.dU=true→e.bx=e'.bx∧H=H'):o.ev e H=o.ev e' H':=by
 cases o
 case build z ps =>
   simp only[aw.ev];have:(ps.map fun p=>(p.1,p.2.1,e.hv p.2.2))=ps.map fun p=>(p.1,p.2.1,e'.hv p.2.2):=by
     apply List.map_congr_left;intro p hp;rw[aZ (h p.2.2 (by simp only[aw.bT,List.mem_map];exact⟨p,hp,rfl⟩))]
   rw[this]
 case load agg n x =>
   obtain⟨h1,h2⟩:=hl rfl;subst h2;have hx:=h x (by simp[aw.bT])
   simp only[aw.ev,hx,Env.box,h1]
 case ba s ok agg zero x k =>
   obtain⟨h1,h2⟩:=hl rfl;subst h2;have hx:=aZ (h x (by simp[aw.bT]))
   have hk:=aZ (h k (by simp[aw.bT]))
   simp only[aw.ev,hx,hk]
 case iD g xs=>simp only[aw.ev,fE (fun y hy=>h y (by simpa[aw.bT] using hy))]
 case gy sz x lo hi mx =>
   have h1:=aZ (h x (by simp[aw.bT]))
   have h2:∀d,iE e d lo=iE e' d lo:=fun d=>gT (fun y hy=>h y (by simp only[aw.bT,List.mem_cons,List.mem_append];exact .inr (.inl (.inl hy))))
   have h3:∀d,iE e d hi=iE e' d hi:=fun d=>gT (fun y hy=>h y (by simp only[aw.bT,List.mem_cons,List.mem_append];exact .inr (.inl (.inr hy))))
   have h4:∀d,iE e d mx=iE e' d mx:=fun d=>gT (fun y hy=>h y (by simp only[aw.bT,List.mem_cons,List.mem_append];exact .inr (.inr hy)))
   cases mx with
   | none=>simp only[aw.ev,h1,h2,h3,h4]
   | some m =>
     have h5:=aZ (h m (by simp[aw.bT]))
     simp only[aw.ev,h1,h2,h3,h4,h5]
 case sI x lo hi =>
   have h1:=aZ (h x (by simp[aw.bT]))
   have h2:∀d,iE e d lo=iE e' d lo:=fun d=>gT (fun y hy=>h y (by simp only[aw.bT,List.mem_cons,List.mem_append];exact .inr (.inl hy)))
   have h3:∀d,iE e d hi=iE e' d hi:=fun d=>gT (fun y hy=>h y (by simp only[aw.bT,List.mem_cons,List.mem_append];exact .inr (.inr hy)))
   simp only[aw.ev,h1,h2,h3]
 case pick c a b =>
   have h1:=aZ (h c (by simp[aw.bT]))
   have h2:=h a (by simp[aw.bT])
   have h3:=h b (by simp[aw.bT])
   simp only[aw.ev,h1,h2,h3]
 case mv x=>simp only[aw.ev,h x (by simp[aw.bT])]
 case gw x=>simp only[aw.ev,h x (by simp[aw.bT])]
 case dZ off x=>simp only[aw.ev,h x (by simp[aw.bT])]
 case sH l sz x i=>simp only[aw.ev,h x (by simp[aw.bT]),aZ (h i (by simp[aw.bT]))]
 case not x=>simp only[aw.ev,aZ (h x (by simp[aw.bT]))]
 case P5 x=>simp only[aw.ev,aZ (h x (by simp[aw.bT]))]
 case P6 n sz x lo hi =>
   have h1:=aZ (h x (by simp[aw.bT]))
   have h2:∀d,iE e d lo=iE e' d lo:=fun d=>gT (fun y hy=>h y (by simp only[aw.bT,List.mem_cons,List.mem_append];exact .inr (.inl hy)))
   have h3:∀d,iE e d hi=iE e' d hi:=fun d=>gT (fun y hy=>h y (by simp only[aw.bT,List.mem_cons,List.mem_append];exact .inr (.inr hy)))
   simp only[aw.ev,h1,h2,h3]
 case neg x=>simp only[aw.ev,aZ (h x (by simp[aw.bT]))]
 case conv k x=>simp only[aw.ev,aZ (h x (by simp[aw.bT]))]
 case sG x=>simp only[aw.ev,aZ (h x (by simp[aw.bT]))]
 case JN x=>simp only[aw.ev,aZ (h x (by simp[aw.bT]))]
 case field agg off n x=>simp only[aw.ev,aZ (h x (by simp[aw.bT]))]
 case len x=>simp only[aw.ev,aZ (h x (by simp[aw.bT]))]
 case dF x=>simp only[aw.ev,aZ (h x (by simp[aw.bT]))]
 case ext x i=>simp only[aw.ev,aZ (h x (by simp[aw.bT]))]
 case int op x y =>
   have h1:=aZ (h x (by simp[aw.bT]))
   have h2:=aZ (h y (by simp[aw.bT]))
   simp only[aw.ev,h1,h2]
 case str op x y =>
   have h1:=aZ (h x (by simp[aw.bT]))
   have h2:=aZ (h y (by simp[aw.bT]))
   simp only[aw.ev,h1,h2]
 case eq k ne x y =>
   have h1:=aZ (h x (by simp[aw.bT]))
   have h2:=aZ (h y (by simp[aw.bT]))
   simp only[aw.ev,h1,h2]
 case idx sz x y =>
   have h1:=aZ (h x (by simp[aw.bT]))
   have h2:=aZ (h y (by simp[aw.bT]))
   simp only[aw.ev,h1,h2]
 case jr x y =>
   have h1:=aZ (h x (by simp[aw.bT]))
   have h2:=aZ (h y (by simp[aw.bT]))
   simp only[aw.ev,h1,h2]
 case mm mx x y =>
   have h1:=aZ (h x (by simp[aw.bT]))
   have h2:=aZ (h y (by simp[aw.bT]))
   simp only[aw.ev,h1,h2]
 all_goals rfl
end
end Sm
namespace Sm
open Go
def Live(e:Env):Prop:=∀t k o,e.sl t=some (.lp k o)→(e.bx k).isSome=true
def bj.Io(d:Nat):bj→Bool
 | .s t=>decide (t=d)
 | _=>false
def aw.jM:aw→Bool
 | .alloc (some _) _=>true
 | .box (some _) _ _=>true
 | _=>false
def aw.early:aw→Bool
 | .alloc (some _) _=>true
 | .box (some _) _ _=>true
 | .aO _ _=>true
 | o=>o.calm
def b8(y:aw):Bool:=
 match y with
 | .store ..=>false
 | _=>true
def aw.Pd:aw→Bool
 | .aO ..=>true
 | _=>false
def aw.w3:aw→Bool
 | .call .. | .er .. | .store .. | .app .. | .cH ..=>true
 | _=>false
def aw.fe(o:aw)(e:Env)(H:ab):Option (Option (Nat×List HV)×EV):=
 match o with
 | .alloc (some k) cs=>if (e.box k).isNone then some (some (k,cs),.lp k 0) else none
 | .box (some k) n x=>match e.hv x with
   | some h=>if h.aN=n∧h.el=true∧(e.box k).isNone=true then some (some (k,h.cells),.lp k 0) else none
   | none=>none
 | .aO sz ps=>match e.cJ ps with
   | some hs=>if hs.all HV.el=true∧(hs.all fun h=>decide (h.aN=sz))=true then some (none,.h (.sl .full sz hs)) else none
   | none=>none
 | .alloc none _ | .box none _ _ | .store .. | .app .. | .call .. | .er .. | .nd .. | .cH ..=>none
 | o=>(o.ev e H).map fun x=>(none,x)
def dV(kc:Option (Nat×List HV))(e:Env):Env:=
 match kc with
 | some (k,cs)=>e.fI k cs
 | none=>e
theorem ox{S:aJ}{o:aw}(ho:o.early=true){e:Env}{H:ab}{K:EV→Env→ab→Prop}:o.step S e H K↔∃p,o.fe e H=some p∧K p.2 (dV p.1 e) H:=by
 cases o
 case alloc loc cs =>
   cases loc with
   | none=>simp[aw.early,aw.calm] at ho
   | some k =>
     simp only[aw.step,aw.fe];constructor;{rintro⟨h1,h2⟩;exact⟨_,by rw[if_pos (by simp[h1])],h2⟩};{rintro⟨p,h1,h2⟩;split at h1;{rename_i hn;simp only[Option.some.injEq] at h1;subst h1;exact⟨by simpa using hn,h2⟩};{cases h1}}
 case box loc n x =>
   cases loc with
   | none=>simp[aw.early,aw.calm] at ho
   | some k =>
     simp only[aw.step,aw.fe];cases hx:e.hv x with
     | none=>simp
     | some h =>
       simp only;constructor;{rintro⟨h1,h2,h3,h4⟩;exact⟨_,by rw[if_pos ⟨h1,h2,by simp[h3]⟩],h4⟩};{rintro⟨p,h1,h2⟩;split at h1;{rename_i hn;simp only[Option.some.injEq] at h1;subst h1;exact⟨hn.1,hn.2.1,by simpa using hn.2.2,h2⟩};{cases h1}}
 case aO sz ps =>
   simp only[aw.step,aw.fe];cases hx:e.cJ ps with
   | none=>simp
   | some hs =>
     simp only;constructor;{rintro⟨h1,h2,h3⟩;exact⟨_,by rw[if_pos ⟨h1,by simpa using h2⟩],h3⟩};{rintro⟨p,h1,h2⟩;split at h1;{rename_i hn;simp only[Option.some.injEq] at h1;subst h1;exact⟨hn.1,by simpa using hn.2,h2⟩};{cases h1}}
 case store=>simp[aw.early,aw.calm] at ho
 case app=>simp[aw.early,aw.calm] at ho
 case call=>simp[aw.early,aw.calm] at ho
 case er=>simp[aw.early,aw.calm] at ho
 case nd=>simp[aw.early,aw.calm] at ho
 case cH=>simp[aw.early,aw.calm] at ho
 all_goals
   simp only[aw.step,aw.fe];constructor;{intro h;split at h;{rename_i x hx;exact⟨(none,x),by rw[hx];rfl,h⟩};{exact h.elim}};{rintro⟨p,h1,h2⟩;obtain⟨x,hx,rfl⟩:=Option.map_eq_some_iff.1 h1;rw[hx];exact h2}
def aF.fe(x:aF)(e:Env)(H:ab):Option (Option (Nat×List HV)×EV):=
 match x.guard with
 | none=>x.op.fe e H
 | some (t,want)=>match e.get t with
   | some (.h (.v (.bool b)))=>if b=want then x.op.fe e H else some (none,.h .undef)
   | some (.h (.v (.tuple _)))=>some (none,.h .undef)
   | _=>none
theorem jV{S:aJ}{x:aF}(ho:x.op.early=true){e:Env}{H:ab}{K:Env→ab→Prop}:dm S x e H K↔∃p,x.fe e H=some p∧K ((dV p.1 e).put x.dst p.2) H:=by
 unfold dm aF.fe;cases hg:x.guard with
 | none=>exact ox ho
 | some q =>
   obtain⟨t,want⟩:=q;simp only;cases gJ:e.get t with
   | none=>simp
   | some ev =>
     have AcD:∀b,ev = .h (.v (.bool b))→(((b=want→x.op.step S (e.put (some t) (.h (.v (.bool want)))) H fun x_1 e' H'=>K (e'.put x.dst x_1) H')∧(b=!want→K ((e.put (some t) (.h (.v (.bool (!want))))).put x.dst (.h .undef)) H)) ↔
         ∃p,(if b=want then x.op.fe e H else some (none,EV.h .undef))=some p∧K ((dV p.1 e).put x.dst p.2) H):=by
       rintro b rfl;constructor
       · rintro⟨h1,h2⟩
         by_cases Cn:b=want
         · subst Cn;have h1:=h1 rfl;rw[ij gJ] at h1;obtain⟨p,hp,hk⟩:=(ox ho).1 h1;exact⟨p,by rw[if_pos rfl];exact hp,hk⟩
         · have rF:b=!want:=by cases b<;>cases want<;>simp_all
           have h3:=h2 rF;subst rF;rw[ij gJ] at h3;exact⟨(none,.h .undef),by rw[if_neg Cn],h3⟩
       · rintro⟨p,hp,hk⟩
         by_cases Cn:b=want
         · subst Cn;rw[if_pos rfl] at hp;refine⟨fun _=>?_,fun hn=>by cases b<;>cases hn⟩
           rw[ij gJ];exact(ox ho).2 ⟨p,hp,hk⟩
         · rw[if_neg Cn] at hp;simp only[Option.some.injEq] at hp;subst hp;have rF:b=!want:=by cases b<;>cases want<;>simp_all
           refine⟨fun h=>absurd h Cn,fun _=>?_⟩;subst rF;rw[ij gJ];exact hk
     cases ev with
     | lp k o=>simp
     | h hv =>
       cases hv with
       | v u =>
         cases u
         case bool b=>exact AcD b rfl
         all_goals simp[dV]
       | _=>simp
def gE(e:Env)(H:ab)(e1:Env)(H1:ab):Prop:=∀o:aw,o.dU=true→∀x,o.ev e H=some x→(∀z∈o.bT,e1.fg z=e.fg z)→o.ev e1 H1=some x
theorem gE.refl(e:Env)(H:ab):gE e H e H:=fun _ _ _ h _=>h
theorem gE.fI{e:Env}{H:ab}{k:Nat}{cs:List HV}(hk:e.box k=none):gE e H (e.fI k cs) H:=by
 intro o ho x hx hz;cases o<;>simp only[aw.dU,Bool.false_eq_true] at ho
 case load agg n z =>
   have hz:=hz z (by simp[aw.bT])
   simp only[aw.ev,hz] at hx ⊢;split at hx;{exact hx};{exact hx}
   · rename_i k' off _;have eJ:k≠k':=by rintro rfl;rw[hk] at hx;cases hx
     simp only[Env.box,Env.fI,bt,if_neg eJ] at hx ⊢;exact hx
   · exact hx
 case ba s ok agg zero y k' =>
   have h1:=aZ (hz y (by simp[aw.bT]))
   have h2:=aZ (hz k' (by simp[aw.bT]))
   simp only[aw.ev,h1,h2] at hx ⊢;exact hx
theorem gE.bt{e:Env}{H:ab}{b:Nat}{r:Option rq}(hb:H b=none):gE e H e (H.bt b r):=by
 intro o ho x hx hz;cases o<;>simp only[aw.dU,Bool.false_eq_true] at ho
 case load agg n z =>
   simp only[aw.ev] at hx ⊢;split at hx
   · rename_i b0 off h0;split at hx
     · rename_i bI kQ;have:b0≠b:=by rintro rfl;rw[hb] at kQ;cases kQ
       simp only[ab.bt,if_neg this,kQ];exact hx
     · cases hx
   · exact hx
   · exact hx
   · exact hx
 case ba s ok agg zero y k' =>
   simp only[aw.ev] at hx ⊢;split at hx
   · rename_i b0 kv h0 h1;split at hx
     · rename_i sJ;split at hx
       · rename_i es c kQ;have:b0≠b:=by rintro rfl;rw[hb] at kQ;cases kQ
         rw[if_pos sJ];simp only[ab.bt,if_neg this,kQ];exact hx
       · cases hx
     · cases hx
   · cases hx
theorem nD{e:Env}{d:Option Nat}{v:EV}{z:bj}(h:∀t,d=some t→z.Io t=false):(e.put d v).fg z=e.fg z:=by
 cases d with
 | none=>rfl
 | some t =>
   have:=h t rfl;cases z with
   | s s =>
     simp only[bj.Io,decide_eq_false_iff_not] at this;simp only[Env.fg,Env.get,Env.put,bt];rw[if_neg (fun e=>this e.symm)]
   | c v=>rfl
   | f g=>rfl
   | g j=>rfl
theorem uo{e:Env}{kc:Option (Nat×List HV)}{z:bj}:(dV kc e).fg z=e.fg z:=by
 cases kc with
 | none=>rfl
 | some p=>rfl
theorem Co{S:aJ}(hS:fF S)(y:aw){e:Env}{H:ab}{kc:Option (Nat×List HV)}{d:Option Nat}{v:EV}{K:EV→Env→ab→Prop}
   (hd:∀t,d=some t→∀z∈y.bT,z.Io t=false) (YS:kc.isSome=true→y.dU=false∧y.jM=false∧b8 y=true)
   (h:y.step S ((dV kc e).put d v) H K) :
   y.step S e H fun u e1 H1=>K u ((dV kc e1).put d v) H1∧e1.sl=e.sl∧(y.jM=false→b8 y=true→e1.bx=e.bx) ∧
     (y.w3=false→gE e H e1 H1):=by
 have cH:∀z∈y.bT,((dV kc e).put d v).fg z=e.fg z:=fun z hz=>(nD (fun t ht=>hd t ht z hz)).trans uo;have hhv:∀z∈y.bT,((dV kc e).put d v).hv z=e.hv z:=fun z hz=>aZ (cH z hz);have OX:kc=none→((dV kc e).put d v).bx=e.bx:=by rintro rfl;cases d<;>rfl
 have Ms:kc=none→∀k cs,(((dV kc e).put d v).fI k cs)=(dV kc (e.fI k cs)).put d v:=by rintro rfl k cs;cases d<;>rfl
 have calm:∀o:aw,o.bT=y.bT→(∀z∈o.bT,((dV kc e).put d v).fg z=e.fg z)→(o.dU=true→kc=none)→o.ev ((dV kc e).put d v) H=o.ev e H:=by
   intro o _ h1 h2;exact po o h1 (fun hl=>⟨OX (h2 hl),rfl⟩)
 cases y
 case alloc loc cs =>
   cases loc with
   | some k =>
     have hk:kc=none:=by
       cases kc with
       | none=>rfl
       | some p=>exact absurd (YS rfl).2.1 (by simp[aw.jM])
     subst hk;simp only[aw.step] at h ⊢;obtain⟨h1,h2⟩:=h;have Ki:e.box k=none:=by rw[←h1];cases d<;>rfl
     refine⟨Ki,?_,(by first | rfl | simp),(by simp[aw.jM]),fun _=>gE.fI Ki⟩
     rw[Ms rfl] at h2;exact h2
   | none =>
     simp only[aw.step] at h ⊢;intro b hb;refine⟨h b hb,(by first | rfl | simp),(by simp[b8]),fun _=>gE.bt hb⟩
 case box loc n x0 =>
   have YT:=hhv x0 (by simp[aw.bT])
   simp only[aw.step,YT] at h ⊢;split at h
   · rename_i h' hh;obtain⟨g1,g2,g3⟩:=h;refine⟨g1,g2,?_⟩;cases loc with
     | some k =>
       have hk:kc=none:=by
         cases kc with
         | none=>rfl
         | some p=>exact absurd (YS rfl).2.1 (by simp[aw.jM])
       subst hk;obtain⟨h1,h2⟩:=g3;have Ki:e.box k=none:=by rw[←h1];cases d<;>rfl
       refine⟨Ki,?_,(by first | rfl | simp),(by simp[aw.jM]),fun _=>gE.fI Ki⟩
       rw[Ms rfl] at h2;exact h2
     | none =>
       intro b hb;refine⟨g3 b hb,(by first | rfl | simp),(by simp[b8]),fun _=>gE.bt hb⟩
   · exact h.elim
 case aO sz ps =>
   have:=fE (e:=(dV kc e).put d v) (e':=e) (xs:=ps) (fun z hz=>cH z (by simpa[aw.bT] using hz))
   simp only[aw.step,this] at h ⊢;split at h;{exact⟨h.1,h.2.1,h.2.2,(by first | rfl | simp),(by simp[b8]),fun _=>gE.refl _ _⟩};{exact h.elim}
 case store n0 a0 x0 =>
   have hk:kc=none:=by
     cases kc with
     | none=>rfl
     | some p=>exact absurd (YS rfl).2.2 (by simp[b8])
   subst hk;have YT:=hhv x0 (by simp[aw.bT])
   have ha0:=cH a0 (by simp[aw.bT])
   simp only[aw.step,YT,ha0] at h ⊢;split at h
   · obtain⟨g1,g2,g3⟩:=h;refine⟨g1,g2,?_⟩;split at g3;{split at g3;{exact⟨g3.1,g3.2,(by first | rfl | simp),(by simp[b8]),fun hw=>by simp[aw.w3] at hw⟩};{exact g3.elim}}
     · rename_i k off Ael;have hb:((dV none e).put d v).box k=e.box k:=by cases d<;>rfl
       rw[hb] at g3;split at g3
       · refine⟨g3.1,?_,(by first | rfl | simp),(by simp[b8]),fun hw=>by simp[aw.w3] at hw⟩
         have:=g3.2;rw[Ms rfl] at this;exact this
       · exact g3.elim
     · exact g3.elim
   · exact h.elim
 case app sz bytes x0 y0 =>
   have YT:=hhv x0 (by simp[aw.bT])
   have hy0:=hhv y0 (by simp[aw.bT])
   simp only[aw.step,YT,hy0] at h ⊢;rcases h with h | h
   rotate_left
   · right;split at h;{exact pP (fun h' H' hr=>⟨hr,(by first | rfl | simp),(by simp[b8]),fun hw=>by simp[aw.w3] at hw⟩) h};{exact h.elim}
   left;split at h;{exact⟨h.1,fun hy=>⟨h.2.1 hy,(by first | rfl | simp),(by simp[b8]),fun hw=>by simp[aw.w3] at hw⟩,fun hy=>⟨(h.2.2 hy).1,fun b c hb=>⟨(h.2.2 hy).2 b c hb,(by first | rfl | simp),(by simp[b8]),fun hw=>by simp[aw.w3] at hw⟩⟩⟩};{exact⟨h.1,h.2.1,fun hy=>⟨h.2.2.1 hy,(by first | rfl | simp),(by simp[b8]),fun hw=>by simp[aw.w3] at hw⟩,fun hy=>⟨(h.2.2.2 hy).1,fun b c hb=>⟨(h.2.2.2 hy).2 b c hb,(by first | rfl | simp),(by simp[b8]),fun hw=>by simp[aw.w3] at hw⟩⟩⟩};{exact⟨h.1,h.2.1,h.2.2.1,h.2.2.2.1,fun b' c' hb=>⟨h.2.2.2.2 b' c' hb,(by first | rfl | simp),(by simp[b8]),fun hw=>by simp[aw.w3] at hw⟩⟩};{exact h.elim}
 case cH f xs =>
   have:=fE (e:=(dV kc e).put d v) (e':=e) (xs:=xs) (fun z hz=>cH z (by simpa[aw.bT] using hz))
   simp only[aw.step,this] at h ⊢;split at h;{exact pQ (fun h' H' hr=>⟨hr,(by first | rfl | simp),(by simp[b8]),fun hw=>by simp[aw.w3] at hw⟩) h};{exact h.elim}
 case call g args =>
   have:=fE (e:=(dV kc e).put d v) (e':=e) (xs:=args) (fun z hz=>cH z (by simpa[aw.bT] using hz))
   simp only[aw.step,this] at h ⊢;split at h;{exact hS _ _ _ _ _ (fun h' H' hk=>⟨hk,(by first | rfl | simp),(by simp[b8]),fun hw=>by simp[aw.w3] at hw⟩) h};{exact h.elim}
 case er x0 args =>
   have h1:=fE (e:=(dV kc e).put d v) (e':=e) (xs:=args) (fun z hz=>cH z (by simp[aw.bT,hz]))
   have h2:=hhv x0 (by simp[aw.bT])
   simp only[aw.step,h1,h2] at h ⊢;split at h;{exact hS _ _ _ _ _ (fun h' H' hk=>⟨hk,(by first | rfl | simp),(by simp[b8]),fun hw=>by simp[aw.w3] at hw⟩) h};{exact hS _ _ _ _ _ (fun h' H' hk=>⟨hk,(by first | rfl | simp),(by simp[b8]),fun hw=>by simp[aw.w3] at hw⟩) h};{exact h.elim}
 case nd f xs =>
   have:=fE (e:=(dV kc e).put d v) (e':=e) (xs:=xs) (fun z hz=>cH z (by simpa[aw.bT] using hz))
   simp only[aw.step,this] at h ⊢;split at h;{exact sF (fun h' hr=>⟨hr,(by first | rfl | simp),(by simp[b8]),fun _=>gE.refl _ _⟩) h};{exact h.elim}
 case ba s ok agg zero x0 k0 =>
   have hk:kc=none:=by
     cases kc with
     | none=>rfl
     | some p=>exact absurd (YS rfl).1 (by simp[aw.dU])
   simp only[aw.step] at h ⊢;rw[calm (.ba s ok agg zero x0 k0) rfl cH (fun _=>hk)] at h;split at h;{exact⟨h,(by first | rfl | simp),(by simp[b8]),fun _=>gE.refl _ _⟩};{exact h.elim}
 case load agg n x0 =>
   have hk:kc=none:=by
     cases kc with
     | none=>rfl
     | some p=>exact absurd (YS rfl).1 (by simp[aw.dU])
   simp only[aw.step] at h ⊢;rw[calm (.load agg n x0) rfl cH (fun _=>hk)] at h;split at h;{exact⟨h,(by first | rfl | simp),(by simp[b8]),fun _=>gE.refl _ _⟩};{exact h.elim}
 all_goals
   simp only[aw.step] at h ⊢;rw[calm _ rfl cH (fun hl=>by simp[aw.dU] at hl)] at h
   split at h;{exact⟨h,(by first | rfl | simp),(by simp[b8]),fun _=>gE.refl _ _⟩};{exact h.elim}
def jG(d:Option Nat)(X:aF):Bool:=
 match d with
 | none=>true
 | some d=>X.op.bT.all (fun z=>!z.Io d)&&(match X.guard with
   | some (t,_)=>decide (t≠d)
   | none=>true)
theorem ga{d:Option Nat}{X:aF}(h:jG d X=true):∀t,d=some t→∀z∈X.op.bT,z.Io t=false:=by
 intro t ht z hz;subst ht;simp only[jG,Bool.and_eq_true,List.all_eq_true] at h;simpa using h.1 z hz
theorem jW{d:Option Nat}{X:aF}(h:jG d X=true):∀t,d=some t→∀g w,X.guard=some (g,w)→g≠t:=by
 intro t ht g w hg;subst ht;simp only[jG,Bool.and_eq_true,hg,decide_eq_true_eq] at h;exact h.2
theorem put_comm{e:Env}{kc:Option (Nat×List HV)}{d d':Option Nat}{v u:EV}(h:∀t,d=some t→d'≠some t):((dV kc e).put d v).put d' u=(dV kc (e.put d' u)).put d v:=by
 cases d with
 | none=>cases d'<;>cases kc<;>rfl
 | some t =>
   cases d' with
   | none=>cases kc<;>rfl
   | some t' =>
     have eJ:t'≠t:=fun e=>h t rfl (by rw[e])
     have:∀(sl:Nat→Option EV),bt (bt sl t v) t' u=bt (bt sl t' u) t v:=by
       intro sl;funext i;simp only[bt]
       by_cases h1:t'=i
       · subst h1;simp[eJ.symm]
       · simp[h1]
     cases kc with
     | none=>simp only[dV,Env.put,this]
     | some p=>simp only[dV,Env.fI,Env.put,this]
theorem jH{e:Env}{kc:Option (Nat×List HV)}{d:Option Nat}{v:EV}{t:Nat}(h:d≠some t):((dV kc e).put d v).get t=e.get t:=by
 cases d with
 | none=>cases kc<;>rfl
 | some s =>
   have:s≠t:=fun e=>h (by rw[e])
   cases kc<;>simp only[dV,Env.fI,Env.put,Env.get,bt,if_neg this]
def Mt(Y:aF)(e:Env)(H:ab)(e1:Env)(H1:ab):Prop:=
 (∀t,Y.dst≠some t→e1.sl t=e.sl t)∧(Y.op.jM=false→b8 Y.op=true→e1.bx=e.bx) ∧
 (Y.op.w3=false→∀o:aw,o.dU=true→∀x,o.ev e H=some x→(∀t,Y.dst=some t→∀z∈o.bT,z.Io t=false)→o.ev e1 H1=some x)
theorem uq{e:Env}{d:Option Nat}{v:EV}:(e.put d v).bx=e.bx:=by cases d<;>rfl
theorem YU{e:Env}{d:Option Nat}{v:EV}{t:Nat}(h:d≠some t):(e.put d v).sl t=e.sl t:=by
 cases d with
 | none=>rfl
 | some s =>
   have:s≠t:=fun e=>h (by rw[e])
   simp only[Env.put,bt,if_neg this]
theorem qq{Y:aF}{e e1:Env}{H H1:ab}{u:EV}(h1:e1.sl=e.sl)(h2:Y.op.jM=false→b8 Y.op=true→e1.bx=e.bx)
   (h3:Y.op.w3=false→gE e H e1 H1):Mt Y e H (e1.put Y.dst u) H1:=by
 refine⟨fun t ht=>by rw[YU ht,h1],fun a b=>by rw[uq];exact h2 a b,fun a o ho x hx hz=>?_⟩
 have Ae:∀z,e1.fg z=e.fg z:=fun z=>by cases z<;>simp only[Env.fg,Env.get,h1]
 rw[po (e:=e1.put Y.dst u) (e':=e1) (H:=H1) (H':=H1) o (fun z hm=>nD (fun t ht=>hz t ht z hm)) (fun _=>⟨uq,rfl⟩)];exact h3 a o ho x hx (fun z _=>Ae z)
theorem Ag{S:aJ}(hS:fF S)(Y:aF){e:Env}{H:ab}{kc:Option (Nat×List HV)}{d:Option Nat}{v:EV}{K:Env→ab→Prop}
   (hd:jG d Y=true) (hdd:∀t,d=some t→Y.dst≠some t) (YS:kc.isSome=true→Y.op.dU=false∧Y.op.jM=false∧b8 Y.op=true)
   (h:dm S Y ((dV kc e).put d v) H K):dm S Y e H fun e1 H1=>K ((dV kc e1).put d v) H1∧Mt Y e H e1 H1:=by
 have ho:=ga hd;have main:Y.op.step S ((dV kc e).put d v) H (fun x e' H'=>K (e'.put Y.dst x) H')→Y.op.step S e H (fun x e' H'=>K ((dV kc (e'.put Y.dst x)).put d v) H'∧Mt Y e H (e'.put Y.dst x) H'):=by
   intro hh;refine kN hS ?_ _ (Co hS Y.op ho YS hh);intro x e' H' ⟨h1,h2,h3,h4⟩;rw[put_comm hdd] at h1;exact⟨h1,qq h2 h3 h4⟩
 unfold dm at h ⊢;cases hg:Y.guard with
 | none=>rw[hg] at h;exact main h
 | some q =>
   obtain⟨t,want⟩:=q;rw[hg] at h;simp only at h ⊢;have htd:d≠some t:=fun e1=>by
     have:=jW hd t e1 t want hg;exact this rfl
   rw[jH htd] at h;cases gJ:e.get t with
   | none=>rw[gJ] at h;exact h.elim
   | some ev =>
     rw[gJ] at h;cases ev with
     | lp k o=>exact h.elim
     | h hv =>
       cases hv with
       | v u =>
         cases u
         case bool b =>
           simp only at h ⊢;have hb:∀c,b=c→((dV kc e).put d v).put (some t) (.h (.v (.bool c)))=(dV kc e).put d v:=by
             intro c hc;subst hc;exact ij (by rw[jH htd];exact gJ)
           refine⟨fun Cn=>?_,fun rF=>?_⟩;{have h1:=h.1 Cn;rw[hb want Cn] at h1;subst Cn;rw[ij gJ];exact main h1};{have h2:=h.2 rF;rw[hb _ rF] at h2;subst rF;rw[ij gJ];rw[put_comm hdd] at h2;exact⟨h2,qq rfl (fun _ _=>rfl) (fun _=>gE.refl _ _)⟩}
         case tuple us =>
           simp only at h ⊢;rw[put_comm hdd] at h;exact⟨h,qq rfl (fun _ _=>rfl) (fun _=>gE.refl _ _)⟩
         all_goals exact h.elim
       | _=>exact h.elim
theorem sb{o:aw}(h1:o.early=true)(h2:o.jM=false)(h3:o.Pd=false){e:Env}{H:ab}:o.fe e H=(o.ev e H).map fun x=>(none,x):=by
 cases o
 case alloc loc cs=>cases loc<;>simp[aw.jM,aw.early,aw.calm] at h1 h2
 case box loc n x=>cases loc<;>simp[aw.jM,aw.early,aw.calm] at h1 h2
 case aO=>simp[aw.Pd] at h3
 case store=>simp[aw.early,aw.calm] at h1
 case app=>simp[aw.early,aw.calm] at h1
 case call=>simp[aw.early,aw.calm] at h1
 case er=>simp[aw.early,aw.calm] at h1
 case nd=>simp[aw.early,aw.calm] at h1
 case cH=>simp[aw.early,aw.calm] at h1
 all_goals rfl
theorem I'{o:aw}(ho:o.early=true){e e1:Env}{H H1:ab}{p}(h:∀z∈o.bT,e1.fg z=e.fg z)(hp:o.jM=true→e1.bx=e.bx)(hl:o.dU=true→∀x,o.ev e H=some x→p=(none,x)→o.ev e1 H1=some x)
   (AJ:o.fe e H=some p):o.fe e1 H1=some p:=by
 cases o
 case alloc loc cs =>
   cases loc with
   | none=>simp[aw.early,aw.calm] at ho
   | some k =>
     simp only[aw.fe,Env.box,hp rfl] at AJ ⊢;exact AJ
 case box loc n x =>
   cases loc with
   | none=>simp[aw.early,aw.calm] at ho
   | some k =>
     have:=aZ (h x (by simp[aw.bT]))
     simp only[aw.fe,Env.box,hp rfl,this] at AJ ⊢;exact AJ
 case aO sz ps =>
   have:=fE (e:=e1) (e':=e) (xs:=ps) (fun z hz=>h z (by simpa[aw.bT] using hz))
   simp only[aw.fe,this] at AJ ⊢;exact AJ
 case store=>simp[aw.early,aw.calm] at ho
 case app=>simp[aw.early,aw.calm] at ho
 case call=>simp[aw.early,aw.calm] at ho
 case er=>simp[aw.early,aw.calm] at ho
 case nd=>simp[aw.early,aw.calm] at ho
 case cH=>simp[aw.early,aw.calm] at ho
 case load agg n x =>
   rw[sb ho rfl rfl] at AJ ⊢;obtain⟨y,hy,rfl⟩:=Option.map_eq_some_iff.1 AJ;rw[hl rfl y hy rfl];rfl
 case ba s ok agg zero x k =>
   rw[sb ho rfl rfl] at AJ ⊢;obtain⟨y,hy,rfl⟩:=Option.map_eq_some_iff.1 AJ;rw[hl rfl y hy rfl];rfl
 all_goals
   rw[sb ho rfl rfl] at AJ ⊢;rw[po _ h (fun sB=>by simp[aw.dU] at sB)]
   exact AJ
def Mu(L:List dv)(x y:Nat):Bool:=
 let X:=(L[x]!).o
 let Y:=(L[y]!).o
 X.op.early&&X.dst.isSome&&jG X.dst Y&&jG X.dst X&&decide (X.dst≠Y.dst)&&jG Y.dst X &&
   (!X.op.jM||(!Y.op.dU&&!Y.op.jM&&b8 Y.op))&&(!(X.op.dU&&Y.op.w3)||(L[y]!).rc.contains x)
theorem swap{S:aJ}(hS:fF S){X Y:aF}(hX:X.op.early=true)(hXd:X.dst.isSome=true)(h1:jG X.dst Y=true)(h0:jG X.dst X=true)(h2:X.dst≠Y.dst)(h3:jG Y.dst X=true)
   (h4:X.op.jM=true→Y.op.dU=false∧Y.op.jM=false∧b8 Y.op=true) {e:Env} {H:ab} {K:Env→ab→Prop} (QA:X.op.dU=true→Y.op.w3=true→∀e2 H2,K e2 H2→AZ X e2 H2)
   (h:dm S X e H fun e1 H1=>dm S Y e1 H1 K):dm S Y e H fun e1 H1=>dm S X e1 H1 K:=by
 obtain⟨p,hp,hy⟩:=(jV hX).1 h;have hdd:∀t,X.dst=some t→Y.dst≠some t:=fun t ht hy=>h2 (by rw[ht,hy])
 have AdM:p.1.isSome=true→X.op.jM=true:=by
   intro hs;unfold aF.fe at hp;have key:∀q,X.op.fe e H=some q→q.1.isSome=true→X.op.jM=true:=by
     intro q hq hs;cases hpr:X.op.jM with
     | true=>rfl
     | false =>
       by_cases hb:X.op.Pd=false
       · rw[sb hX hpr hb] at hq;obtain⟨y,_,rfl⟩:=Option.map_eq_some_iff.1 hq;simp at hs
       · cases cH:X.op<;>simp only[cH,aw.Pd,not_true_eq_false] at hb hq;simp only[aw.fe] at hq;split at hq;{split at hq;{simp only[Option.some.injEq] at hq;subst hq;simp at hs};{cases hq}};{cases hq}
   split at hp;{exact key p hp hs};{split at hp;{split at hp;{exact key p hp hs};{simp only[Option.some.injEq] at hp;subst hp;simp at hs}};{simp only[Option.some.injEq] at hp;subst hp;simp at hs};{cases hp}}
 have hf:=Ag hS Y h1 hdd (fun hs=>h4 (AdM hs)) hy;refine dT hS ?_ _ _ _ hf;intro e1 H1 ⟨hk,f1,f2,f3⟩;refine(jV hX).2 ⟨p,?_,hk⟩;have YV:∀z∈X.op.bT,e1.fg z=e.fg z:=by
   intro z hz;cases z with
   | s s =>
     simp only[Env.fg,Env.get];refine f1 s (fun hd=>?_);have:=ga h3 s hd (.s s) hz;simp[bj.Io] at this
   | c v=>rfl
   | f g=>rfl
   | g j=>rfl
 have Jt:∀g w,X.guard=some (g,w)→e1.get g=e.get g:=fun g w hg=>f1 g (fun hd=>jW h3 g hd g w hg rfl);have exec:X.op.fe e H=some p→(∀g w,X.guard=some (g,w)→e.get g=some (.h (.v (.bool w))))→X.op.fe e1 H1=some p:=by
   intro AJ Mv;refine I' hX YV (fun hpr=>f2 (h4 hpr).2.1 (h4 hpr).2.2) (fun hl x hx hpx=>?_) AJ;cases hw:Y.op.w3 with
   | false =>
     exact f3 hw X.op hl x hx (fun t ht z hz=>ga h3 t ht z hz)
   | true =>
     have hr:=QA hl hw _ _ hk;subst hpx;unfold AZ at hr;cases Pe:X.dst with
     | none=>rw[Pe] at hXd;cases hXd
     | some dx =>
       have gJ:((dV none e1).put (some dx) x).get dx=some x:=by simp[dV,Env.put,Env.get,bt]
       have Im:X.op.ev ((dV none e1).put (some dx) x) H1=X.op.ev e1 H1:=by
         refine po _ (fun z hz=>?_) (fun _=>⟨uq,rfl⟩);exact nD (fun t ht=>ga h0 t (by rw[Pe,ht]) z hz)
       rw[Pe] at hr;cases hg:X.guard with
       | none =>
         rw[hg] at hr;simp only at hr;rw[Im,gJ] at hr;exact hr
       | some q =>
         obtain⟨g,w⟩:=q;rw[hg] at hr;simp only at hr;have AdN:g≠dx:=jW h0 dx Pe g w hg;have:=hr (by rw[jH (kc:=none) (d:=some dx) (fun he=>AdN (by injection he with he;exact he.symm)),Jt g w hg];exact Mv g w hg)
         rw[Im,gJ] at this;exact this
 unfold aF.fe at hp ⊢;cases hg:X.guard with
 | none=>rw[hg] at hp;exact exec hp (fun g w Mv=>by rw[hg] at Mv;cases Mv)
 | some q =>
   obtain⟨g,w⟩:=q;rw[hg] at hp;simp only at hp ⊢;rw[Jt g w hg];cases gJ:e.get g with
   | none=>rw[gJ] at hp;cases hp
   | some ev =>
     rw[gJ] at hp;cases ev with
     | lp k o=>exact hp
     | h hv =>
       cases hv with
       | v u =>
         cases u
         case bool b =>
           simp only at hp ⊢
           by_cases Cn:b=w
           · subst Cn;rw[if_pos rfl] at hp ⊢;exact exec hp (fun g' w' Mv=>by rw[hg] at Mv;injection Mv with Mv;injection Mv with ha hb;subst ha;subst hb;exact gJ)
           · rw[if_neg Cn] at hp ⊢;exact hp
         all_goals exact hp
       | _=>exact hp
def QK(L:List dv)(x y:Nat):Bool:=
 let X:=(L[x]!).o
 let Y:=(L[y]!).o
 (match X.op,Y.op,Y.dst with
   | .call _ _,.alloc none _,some _=>true
   | _,_,_=>false)&&X.guard.isNone&&Y.guard.isNone&&jG Y.dst X&&decide (X.dst≠Y.dst)&&(L[y]!).rc.isEmpty
def Ah(L:List dv)(x y:Nat):Bool:=Mu L x y||QK L x y
def xM(S:aJ):Prop:=∀g hs H b r (Q:HV→ab→Prop),H b=none→S g hs H Q→S g hs (H.bt b (some r)) fun h X=>∃H',H' b=none∧X=H'.bt b (some r)∧Q h H'
theorem YW{S:aJ}(hF:xM S)(hS:fF S){X Y:aF}{g:Nat}{args:List bj}{cs:List HV}{dy:Nat}(hX:X.op = .call g args)(hXg:X.guard=none)(hY:Y.op = .alloc none cs)(hYg:Y.guard=none)(Z3:Y.dst=some dy)
   (h1:jG Y.dst X=true) (h2:X.dst≠Y.dst) {e:Env} {H:ab} {K:Env→ab→Prop} (h:dm S X e H fun e1 H1=>dm S Y e1 H1 K):dm S Y e H fun e1 H1=>dm S X e1 H1 K:=by
 have YV:∀(v:EV),∀z∈args,(e.put (some dy) v).fg z=e.fg z:=fun v z hz =>
   nD (d:=some dy) fun t ht=>ga h1 t (by rw[Z3];exact ht) z (by rw[hX];exact hz)
 unfold dm at h ⊢;rw[hXg,hX] at h;rw[hYg,hY];simp only[aw.step] at h ⊢;intro b hb;rw[hXg,hX];simp only[aw.step];rw[Z3,fE (YV _)];cases hh:e.cJ args with
 | none=>rw[hh] at h;exact h.elim
 | some hs =>
   rw[hh] at h;simp only at h ⊢;refine hS _ _ _ _ _ ?_ (hF _ _ _ _ (.obj cs) _ hb h);rintro v Z ⟨H',QL,rfl,hk⟩;rw[hYg,hY] at hk;simp only[aw.step,Z3] at hk;have:=hk b QL;have e1:=put_comm (e:=e) (kc:=none) (d:=X.dst) (d':=some dy) (v:=.h v) (u:=.h (.v (.pointer (some ⟨b,0,none⟩)))) (fun t ht=>by rw[←Z3];intro hc;exact h2 (by rw[ht,hc]))
   simp only[dV] at e1;rw[e1] at this;exact this
theorem kO{e:Env}{d:Option Nat}{x:EV}(h:Live e)(hx:x.live e):Live (e.put d x):=by
 intro t k o ht;rw[uq];cases d with
 | none=>exact h t k o ht
 | some d =>
   simp only[Env.put,bt] at ht;split at ht;{simp only[Option.some.injEq] at ht;subst ht;exact hx};{exact h t k o ht}
theorem qv{e:Env}{k:Nat}{cs:List HV}(h:Live e):Live (e.fI k cs):=by
 intro t k' o ht;simp only[Env.fI,bt];split;{rfl};{exact h t k' o ht}
theorem jI{e:Env}(h:Live e){z:bj}{x:EV}(hz:e.fg z=some x):x.live e:=by
 cases x with
 | h v=>trivial
 | lp k o =>
   cases z with
   | s t=>exact h t k o hz
   | c v=>simp[Env.fg] at hz
   | f g=>simp[Env.fg] at hz
   | g j=>simp[Env.fg] at hz
theorem Pw{o:aw}{e:Env}{H:ab}(h:Live e){x:EV}(hx:o.ev e H=some x):x.live e:=by
 cases x with
 | h v=>trivial
 | lp k off =>
   cases o
   case mv z=>exact jI h hx
   case pick c a b =>
     simp only[aw.ev] at hx;split at hx;{split at hx;{exact jI h hx};{exact jI h hx}};{cases hx}
   case gw z =>
     simp only[aw.ev] at hx;split at hx;{simp at hx};{simp at hx};{rename_i k' Mp hz;simp only[Option.some.injEq,EV.lp.injEq] at hx;obtain⟨rfl,rfl⟩:=hx;exact jI h hz};{simp at hx};{simp at hx};{cases hx}
   case dZ n z =>
     simp only[aw.ev] at hx;split at hx;{simp at hx};{split at hx<;>simp at hx};{rename_i k' Mp hz;simp only[Option.some.injEq,EV.lp.injEq] at hx;obtain⟨rfl,rfl⟩:=hx;have hlv:=jI h hz;exact hlv};{cases hx}
   case sH l sz z i =>
     simp only[aw.ev] at hx;split at hx;{split at hx<;>simp at hx};{rename_i k' Mp kk n hz _;split at hx;{simp only[Option.some.injEq,EV.lp.injEq] at hx;obtain⟨rfl,_⟩:=hx;have hlv:=jI h hz;exact hlv};{cases hx}};{split at hx<;>simp at hx};{cases hx}
   all_goals
     simp only[aw.ev] at hx
     repeat' split at hx
     all_goals first
       | (cases hx;done)
       | (simp at hx;done)
       | (obtain⟨_,_,hx⟩:=Option.map_eq_some_iff.1 hx;simp at hx;done)
theorem wg{S:aJ}(hS:fF S){o:aw}{e:Env}{H:ab}{K:EV→Env→ab→Prop}(h:Live e)(hs:o.step S e H K):o.step S e H fun x e' H'=>(Live e'∧x.live e')∧K x e' H':=by
 cases o
 case alloc loc cs =>
   simp only[aw.step] at hs ⊢;cases loc with
   | some k=>exact⟨hs.1,⟨qv h,by simp[EV.live,Env.fI,Env.box,bt]⟩,hs.2⟩
   | none=>exact fun b hb=>⟨⟨h,T_⟩,hs b hb⟩
 case box loc n x =>
   simp only[aw.step] at hs ⊢;split at hs
   · refine⟨hs.1,hs.2.1,?_⟩;cases loc with
     | some k=>exact⟨hs.2.2.1,⟨qv h,by simp[EV.live,Env.fI,Env.box,bt]⟩,hs.2.2.2⟩
     | none=>exact fun b hb=>⟨⟨h,T_⟩,hs.2.2 b hb⟩
   · exact hs.elim
 case aO sz ps =>
   simp only[aw.step] at hs ⊢;split at hs;{exact⟨hs.1,hs.2.1,⟨h,T_⟩,hs.2.2⟩};{exact hs.elim}
 case store n a x =>
   simp only[aw.step] at hs ⊢;split at hs;{refine⟨hs.1,hs.2.1,?_⟩;have h3:=hs.2.2;split at h3;{split at h3;{exact⟨h3.1,⟨h,T_⟩,h3.2⟩};{exact h3.elim}};{split at h3;{exact⟨h3.1,⟨qv h,T_⟩,h3.2⟩};{exact h3.elim}};{exact h3.elim}};{exact hs.elim}
 case cH f xs =>
   simp only[aw.step] at hs ⊢;split at hs;{exact pQ (fun h' H' hr=>⟨⟨h,T_⟩,hr⟩) hs};{exact hs.elim}
 case app sz bytes x y =>
   simp only[aw.step] at hs ⊢;rcases hs with hs | hs
   rotate_left
   · right;split at hs;{exact pP (fun h' H' hr=>⟨⟨h,T_⟩,hr⟩) hs};{exact hs.elim}
   left;split at hs;{exact⟨hs.1,fun hy=>⟨⟨h,T_⟩,hs.2.1 hy⟩,fun hy=>⟨(hs.2.2 hy).1,fun b c hb=>⟨⟨h,T_⟩,(hs.2.2 hy).2 b c hb⟩⟩⟩};{exact⟨hs.1,hs.2.1,fun hy=>⟨⟨h,T_⟩,hs.2.2.1 hy⟩,fun hy=>⟨(hs.2.2.2 hy).1,fun b c hb=>⟨⟨h,T_⟩,(hs.2.2.2 hy).2 b c hb⟩⟩⟩};{exact⟨hs.1,hs.2.1,hs.2.2.1,hs.2.2.2.1,fun b c hb=>⟨⟨h,T_⟩,hs.2.2.2.2 b c hb⟩⟩};{exact hs.elim}
 case call g args =>
   simp only[aw.step] at hs ⊢;split at hs;{exact hS _ _ _ _ _ (fun h' H' hk=>⟨⟨h,T_⟩,hk⟩) hs};{exact hs.elim}
 case er x args =>
   simp only[aw.step] at hs ⊢;split at hs;{exact hS _ _ _ _ _ (fun h' H' hk=>⟨⟨h,T_⟩,hk⟩) hs};{exact hS _ _ _ _ _ (fun h' H' hk=>⟨⟨h,T_⟩,hk⟩) hs};{exact hs.elim}
 case nd f xs =>
   simp only[aw.step] at hs ⊢;split at hs;{exact sF (fun h' hr=>⟨⟨h,T_⟩,hr⟩) hs};{exact hs.elim}
 all_goals
   simp only[aw.step] at hs ⊢;split at hs;{rename_i x hx;exact⟨⟨h,Pw h hx⟩,hs⟩};{exact hs.elim}
theorem lJ{S:aJ}(hS:fF S){Y:aF}{e:Env}{H:ab}{K:Env→ab→Prop}(h:Live e)(hs:dm S Y e H K):dm S Y e H fun e' H'=>Live e'∧K e' H':=by
 unfold dm at hs ⊢;split at hs;{exact kN hS (fun x e' H' hk=>⟨kO hk.1.1 hk.1.2,hk.2⟩) _ (wg hS h hs)};{split at hs;{rename_i b hb;exact⟨fun Cn=>kN hS (fun x e' H' hk=>⟨kO hk.1.1 hk.1.2,hk.2⟩) _ (wg hS (kO h T_) (hs.1 Cn)),fun rF=>⟨kO (x:=.h .undef) (kO h T_) trivial,hs.2 rF⟩⟩};{exact⟨kO h T_,hs⟩};{exact hs.elim}}
theorem Px{X Z:aF}{e1:Env}{H1:ab}{p}(hl:Live e1)(hp:X.fe e1 H1=some p)(hZ:Z.op.dU=true)(h1:jG X.dst Z=true)(h2:Z.dst≠X.dst)(hr:AZ Z ((dV p.1 e1).put X.dst p.2) H1):AZ Z e1 H1:=by
 have Im:Z.op.ev ((dV p.1 e1).put X.dst p.2) H1=Z.op.ev e1 H1:=by
   cases cH:Z.op<;>simp only[cH,aw.dU,Bool.false_eq_true] at hZ
   case ba s ok agg zero y k' =>
     have h8:∀z∈Z.op.bT,((dV p.1 e1).put X.dst p.2).fg z=e1.fg z:=fun z hz=>(nD (fun t ht=>ga h1 t ht z hz)).trans uo;have h9:=aZ (h8 y (by rw[cH];simp[aw.bT]))
     have h10:=aZ (h8 k' (by rw[cH];simp[aw.bT]))
     simp only[aw.ev,h9,h10]
   rename_i agg n z;have hz:((dV p.1 e1).put X.dst p.2).fg z=e1.fg z:=(nD (fun t ht=>ga h1 t ht z (by rw[cH];simp[aw.bT]))).trans uo
   have NS:∀k o,e1.fg z=some (.lp k o)→((dV p.1 e1).put X.dst p.2).box k=e1.box k:=by
         intro k o Ae;have hk:=jI hl Ae;unfold Env.box;rw[uq];cases hp1:p.1 with
         | none=>rfl
         | some q =>
           obtain⟨k',cs⟩:=q;have HT:e1.box k'=none:=by
             have key:∀q,X.op.fe e1 H1=some q→q.1=some (k',cs)→e1.box k'=none:=by
               intro q hq KF;cases AdQ:X.op<;>rw[AdQ] at hq
               case alloc loc bI =>
                 cases loc with
                 | none=>cases hq
                 | some kk =>
                   simp only[aw.fe] at hq;split at hq;{simp only[Option.some.injEq] at hq;subst hq;simp only[Option.some.injEq,Prod.mk.injEq] at KF;rw[←KF.1];rename_i hn;simpa using hn};{cases hq}
               case box loc n x =>
                 cases loc with
                 | none=>cases hq
                 | some kk =>
                   simp only[aw.fe] at hq;split at hq;{split at hq;{simp only[Option.some.injEq] at hq;subst hq;simp only[Option.some.injEq,Prod.mk.injEq] at KF;rename_i hn;rw[←KF.1];simpa using hn.2.2};{cases hq}};{cases hq}
               case aO sz ps =>
                 simp only[aw.fe] at hq;split at hq;{split at hq;{simp only[Option.some.injEq] at hq;subst hq;cases KF};{cases hq}};{cases hq}
               case store=>cases hq
               case app=>cases hq
               case call=>cases hq
               case er=>cases hq
               case nd=>cases hq
               case cH=>cases hq
               case dead=>simp[aw.fe,aw.ev] at hq
               all_goals
                 obtain⟨y,_,rfl⟩:=Option.map_eq_some_iff.1 hq;cases KF
             unfold aF.fe at hp;split at hp;{exact key p hp hp1};{split at hp;{split at hp;{exact key p hp hp1};{simp only[Option.some.injEq] at hp;subst hp;cases hp1}};{simp only[Option.some.injEq] at hp;subst hp;cases hp1};{cases hp}}
           have eJ:k'≠k:=by
             rintro rfl;simp only[EV.live] at hk;rw[HT] at hk;cases hk
           simp only[dV,Env.fI,bt,if_neg eJ]
   simp only[aw.ev,hz];split;{rfl};{rfl};{rename_i k o Ae;rw[NS k o Ae]};{rfl}
 unfold AZ at hr ⊢;cases hd:Z.dst with
 | none=>rw[hd] at hr;exact hr
 | some d =>
   rw[hd] at hr;have gJ:((dV p.1 e1).put X.dst p.2).get d=e1.get d:=jH (fun he=>h2 (by rw[hd,he]))
   cases hg:Z.guard with
   | none =>
     rw[hg] at hr;simp only at hr ⊢;rw[Im,gJ] at hr;exact hr
   | some q =>
     obtain⟨g,w⟩:=q;rw[hg] at hr;simp only at hr ⊢;intro Mv;have hgx:X.dst≠some g:=fun he=>jW h1 g he g w hg rfl;have:=hr (by rw[jH hgx];exact Mv)
     rw[Im,gJ] at this;exact this
def Ai(L:List dv)(z x:Nat):Bool:=(L[z]!).o.op.dU&&jG (L[x]!).o.dst (L[z]!).o&&decide ((L[z]!).o.dst≠(L[x]!).o.dst)
theorem Aj{L:List dv}:∀{zs:List Nat} {e H},yk L zs e H↔∀z∈zs,AZ (L[z]!).o e H
 | [],e,H=>by simp[yk]
 | z::zs,e,H=>by simp[yk,Aj (zs:=zs)]
theorem move{S:aJ}(hF:xM S)(hS:fF S){L:List dv}{y:Nat}{K:Env→ab→Prop}:∀(pre post:List Nat) {e:Env} {H:ab},Live e→(∀x∈pre,Ah L x y=true∧(L[x]!).rc=[]) →
   pre.Pairwise (fun x x'=>(L[y]!).rc.contains x=true→Ai L x x'=true) →
   aX S L (pre++y::post) e H K→dm S (L[y]!).o e H fun e1 H1=>(∀z∈(L[y]!).rc,(∀x∈pre,Ai L z x=true)→AZ (L[z]!).o e1 H1)∧aX S L (pre++post) e1 H1 K
 | [],post,e,H,hl,_,_,h=>by
   simp only[List.nil_append,aX] at h;exact dT hS (fun e1 H1 hk=>⟨fun z hz _=>Aj.1 hk.1 z hz,hk.2⟩) _ _ _ h
 | x::pre,post,e,H,hl,hsw,hpw,h=>by
   simp only[List.cons_append,aX] at h;obtain⟨hx,AcJ⟩:=hsw x (by simp)
   rw[List.pairwise_cons] at hpw;rw[Ah,Bool.or_eq_true] at hx;rcases hx with hx | hx
   case inr =>
     have h1:dm S (L[x]!).o e H fun e1 H1=>dm S (L[y]!).o e1 H1 fun e2 H2=>(∀z∈(L[y]!).rc,(∀x∈pre,Ai L z x=true)→AZ (L[z]!).o e2 H2)∧aX S L (pre++post) e2 H2 K:=
       dT hS (fun e1 H1 hk=>move hF hS pre post hk.1 (fun z hz=>hsw z (by simp[hz])) hpw.2 hk.2.2) _ _ _ (lJ hS hl h)
     simp only[QK,Bool.and_eq_true,decide_eq_true_eq,Option.isNone_iff_eq_none,List.isEmpty_iff] at hx;obtain⟨⟨⟨⟨⟨b1,b2⟩,b3⟩,b4⟩,b5⟩,b6⟩:=hx;split at b1
     · rename_i g args cs dy hX hY Z3;have h2:=YW hF hS hX b2 hY b3 Z3 b4 b5 h1;refine dT hS ?_ _ _ _ h2;intro e1 H1 hk;refine⟨fun z hz _=>by rw[b6] at hz;simp at hz,?_⟩
       simp only[List.cons_append,aX];exact dT hS (fun e2 H2 gG=>⟨by rw[AcJ];trivial,gG.2⟩) _ _ _ hk
     · cases b1
   simp only[Mu,Bool.and_eq_true,decide_eq_true_eq,Bool.or_eq_true,Bool.not_eq_true'] at hx;obtain⟨⟨⟨⟨⟨⟨⟨a1,a2⟩,a3⟩,a4⟩,a5⟩,a6⟩,a7⟩,a8⟩:=hx;have h1:dm S (L[x]!).o e H fun e1 H1=>dm S (L[y]!).o e1 H1 fun e2 H2=>(∀z∈(L[y]!).rc,(∀x∈pre,Ai L z x=true)→AZ (L[z]!).o e2 H2)∧aX S L (pre++post) e2 H2 K:=
     dT hS (fun e1 H1 hk=>move hF hS pre post hk.1 (fun z hz=>hsw z (by simp[hz])) hpw.2 hk.2.2) _ _ _ (lJ hS hl h)
   have AcK:(L[x]!).o.op.jM=true→(L[y]!).o.op.dU=false∧(L[y]!).o.op.jM=false∧b8 (L[y]!).o.op=true:=by
     intro hp;rcases a7 with a7 | a7;{rw[hp] at a7;cases a7};{exact⟨a7.1.1,a7.1.2,a7.2⟩}
   have h2:=swap hS a1 a2 a3 a4 a5 a6 AcK (fun hld hw e2 H2 hk=>by
     rcases a8 with a8 | a8;{rw[hld,hw] at a8;simp at a8}
     · exact hk.1 x (by simpa using a8) (fun x' AK=>hpw.1 x' AK a8)) h1
   refine dT hS ?_ _ _ _ (lJ hS hl h2);intro e1 H1 ⟨hl1,hk⟩;obtain⟨p,hp,gF,gG⟩:=(jV a1).1 hk;refine⟨fun z hz Uz=>?_,?_⟩
   · have hzx:=Uz x (by simp)
     simp only[Ai,Bool.and_eq_true,decide_eq_true_eq] at hzx;exact Px hl1 hp hzx.1.1 hzx.1.2 hzx.2 (gF z hz (fun x' AK=>Uz x' (by simp[AK])))
   · simp only[List.cons_append,aX];refine(jV a1).2 ⟨p,hp,?_,gG⟩;rw[AcJ];trivial
inductive qw (L:List dv):List Nat→List Nat→Prop
 | nil:qw L [] []
 | cons {y:Nat} {l pre post:List Nat} (h1:∀x∈pre,Ah L x y=true∧(L[x]!).rc=[]) (h2:pre.Pairwise (fun x x'=>(L[y]!).rc.contains x=true→Ai L x x'=true)) (h:qw L l (pre++post)):qw L (y::l) (pre++y::post)
theorem reorder{S:aJ}(hF:xM S)(hS:fF S){L:List dv}{K:Env→ab→Prop}:∀{l r:List Nat},qw L l r→∀{e:Env} {H:ab},Live e→aX S L r e H K→aj S (l.map fun i=>(L[i]!).o) e H K:=by
 intro l r h
 induction h with
 | nil=>intro e H _ h;exact h
 | cons h1 h2 h3 ih =>
   intro e H hl h;simp only[List.map_cons,aj];exact dT hS (fun e1 H1 hk=>ih hk.1 hk.2.2) _ _ _ (lJ hS hl (move hF hS _ _ hl h1 h2 h))
def ib(ops:Array Oper)(q:Nat):List Nat:=((ops[q]?).map fun o=>(o.after.toList.filter (Region.binds .any)).map (·.on)).getD []
def reach(ops:Array Oper):Nat→Nat→Nat→Bool
 | 0,_,_=>false
 | f+1,p,q=>(ib ops q).contains p||(ib ops q).any fun r=>reach ops f p r
def qA(ops:Array Oper)(perm:List Nat)(L:List dv):Bool:=
 let n:=ops.size
 decide (perm.length=n)&&decide (L.length=n)&&perm.all (fun i=>decide (i < n))&&(List.range n).all (fun i=>perm.contains i) &&
 (List.range n).all fun y=>(ib ops (perm[y]!)).all (fun p=>(perm.take y).contains p) &&
   (List.range y).all fun x=>decide (perm[x]! ≠ perm[y]!)&&(reach ops 64 (perm[x]!) (perm[y]!)||Ah L x y&&(L[x]!).rc.isEmpty &&
     (!(L[y]!).rc.contains x||(List.range y).all fun x'=>!decide (x < x')||reach ops 64 (perm[x']!) (perm[y]!)||Ai L x x'))
theorem pw{ops:Array Oper}{D:Nat→Prop}(hD:∀q,D q→∀p∈ib ops q,D p):∀(f:Nat) {p q:Nat},(∀r∈ib ops q,D r)→reach ops f p q=true→D p
 | 0,p,q,_,h=>by simp[reach] at h
 | f+1,p,q,hq,h=>by
   simp only[reach,Bool.or_eq_true,List.any_eq_true] at h;rcases h with h | ⟨r,hr,h⟩;{exact hq p (by simpa using h)};{exact pw hD f (hD r (hq r hr)) h}
theorem wq{ops:Array Oper}{listed:Array Bool}{i:Nat}(hi:i < ops.size):((ops[i]?).map (·.after.all fun e=>!Region.binds .any e||listed.getD e.on false)).getD false=true↔∀p∈ib ops i,listed.getD p false=true:=by
 simp only[ib,Array.getElem?_eq_getElem hi,Option.map_some,Option.getD_some,Array.all_eq_true',Bool.or_eq_true,Bool.not_eq_true',List.mem_map,List.mem_filter];constructor
 · rintro h p ⟨e,⟨he,hb⟩,rfl⟩;rcases h e (by simpa using he) with h | h
   · rw[hb] at h;cases h
   · exact h
 · intro h e he;cases hb:Region.binds .any e with
   | false=>exact .inl rfl
   | true=>exact .inr (h _ ⟨e,⟨by simpa using he,hb⟩,rfl⟩)
structure Uv (ops:Array Oper) (perm:List Nat) (listed:Array Bool) (R:List Nat):Prop where
 size:listed.size=ops.size
 sub:∀y∈R,y < ops.size
 inc:R.Pairwise (· < ·)
 mem:∀i,i < ops.size→(listed.getD i false=true↔∀y∈R,perm[y]! ≠ i)
 closed:∀q,q < ops.size→listed.getD q false=true→∀p∈ib ops q,listed.getD p false=true
theorem Ay{ops:Array Oper}{perm:List Nat}{L:List dv}(mo:qA ops perm L=true):∀(fuel t:Nat) (listed:Array Bool) (acc R:List Nat),R.length≤fuel→Uv ops perm listed R →
   ∃ys,Region.linearise.go .any ops fuel t listed acc=acc.reverse++ys.map (fun y=>perm[y]!)∧qw L ys R∧∀y∈ys,y < ops.size
 | 0,t,listed,acc,R,hf,inv=>by
   have:R=[]:=List.eq_nil_of_length_eq_zero (by omega)
   subst this;exact⟨[],by simp[Region.linearise.go],.nil,by simp⟩
 | fuel+1,t,listed,acc,R,hf,inv=>by
   have Zb:=mo;simp only[qA,Bool.and_eq_true,decide_eq_true_eq] at mo;obtain⟨⟨⟨⟨p1,p2⟩,p3⟩,p4⟩,p5⟩:=mo;rw[List.all_eq_true] at p3 p5;simp only[Region.linearise.go];have Zc:∀i,i < ops.size→listed.getD i true=listed.getD i false:=fun i hi=>by
     have:i < listed.size:=by rw[inv.size];exact hi
     simp[Array.getD,this]
   have vc:∀y,y < ops.size→perm[y]! < ops.size:=fun y hy=>by
     have Z4:y < perm.length:=by omega
     have:=p3 perm[y] (List.getElem_mem Z4);simp only[decide_eq_true_eq] at this;simpa[Z4] using this
   have AcN:∀y y',y < y'→y' < ops.size→perm[y]! ≠ perm[y']! := fun y y' hyy Z4 h=>by
     have h5:=p5 y' (List.mem_range.2 Z4);simp only[Bool.and_eq_true,List.all_eq_true] at h5;have h6:=(h5.2 y (List.mem_range.2 hyy)).1;simp only[decide_eq_true_eq] at h6;exact h6 h
   have AcO:∀y y',y < ops.size→y' < ops.size→perm[y]! = perm[y']! → y=y':=fun y y' hy Z4 h=>by
     rcases Nat.lt_trichotomy y y' with h1 | h1 | h1;{exact absurd h (AcN y y' h1 Z4)};{exact h1};{exact absurd h.symm (AcN y' y h1 hy)}
   cases R with
   | nil =>
     have Ze:((List.range ops.size).filter fun i=>!listed.getD i true&&((ops[i]?).map (·.after.all fun e=>!Region.binds .any e||listed.getD e.on false)).getD false)=[]:=by
       rw[List.filter_eq_nil_iff];intro i hi;have fo:i < ops.size:=List.mem_range.1 hi;have:=(inv.mem i fo).2 (by simp)
       rw[Zc i fo,this];simp
     rw[Ze];exact⟨[],by simp,.nil,by simp⟩
   | cons y0 R' =>
     generalize hrs:((List.range ops.size).filter fun i=>!listed.getD i true&&((ops[i]?).map (·.after.all fun e=>!Region.binds .any e||listed.getD e.on false)).getD false)=rs
     have kR:∀i,i∈rs↔i < ops.size∧listed.getD i false=false∧∀p∈ib ops i,listed.getD p false=true:=by
       intro i;rw[←hrs,List.mem_filter,List.mem_range];constructor;{rintro⟨h1,h2⟩;simp only[Bool.and_eq_true,Bool.not_eq_true'] at h2;exact⟨h1,by rw[←Zc i h1];exact h2.1,(wq h1).1 h2.2⟩};{rintro⟨h1,h2,h3⟩;refine⟨h1,?_⟩;simp only[Bool.and_eq_true,Bool.not_eq_true'];exact⟨by rw[Zc i h1];exact h2,(wq h1).2 h3⟩}
     have hy0:=inv.sub y0 (by simp)
     have Zf:perm[y0]! ∈ rs:=by
       refine(kR _).2 ⟨vc y0 hy0,?_,fun p hp=>?_⟩
       · cases hl:listed.getD (perm[y0]!) false with
         | false=>rfl
         | true=>exact absurd rfl ((inv.mem _ (vc y0 hy0)).1 hl y0 (by simp))
       · have h5:=p5 y0 (List.mem_range.2 hy0);simp only[Bool.and_eq_true,List.all_eq_true] at h5;have h6:=h5.1 p hp;simp only[List.contains_eq_mem,decide_eq_true_eq] at h6;obtain⟨k,hk,Ds⟩:=List.getElem_of_mem h6;rw[List.length_take] at hk;rw[List.getElem_take] at Ds;have gF:k < perm.length:=by omega
         have hpk:perm[k]! = p:=by simp[gF,Ds]
         have hpn:p < ops.size:=by rw[←hpk];exact vc k (by omega)
         refine(inv.mem p hpn).2 (fun y hy he=>?_);have hyk:y=k:=AcO y k (inv.sub y hy) (by omega) (by rw[he,hpk])
         subst hyk;have:y0≤y:=by
           rcases List.mem_cons.1 hy with h | h;{omega};{have:=(List.pairwise_cons.1 inv.inc).1 y h;omega}
         omega
     have uL:0 < rs.length:=List.length_pos_of_mem Zf;have bN:t % rs.length < rs.length:=Nat.mod_lt _ uL;rw[List.getElem?_eq_getElem bN];simp only;have hi:=(kR rs[t % rs.length]).1 (List.getElem_mem bN);generalize rs[t % rs.length]=i at hi;obtain⟨Lq,Oh,hi3⟩:=hi;have AdR:∃y∈y0::R',perm[y]! = i:=by
       apply Classical.byContradiction;intro hn;have:=(inv.mem i Lq).2 (fun y hy he=>hn ⟨y,hy,he⟩);rw[this] at Oh;cases Oh
     obtain⟨y,hyR,rfl⟩:=AdR;obtain⟨pre,post,hR⟩:=List.append_of_mem hyR;have hyn:=inv.sub y hyR;have Az:=inv.inc;rw[hR] at Az;have Zg:∀x∈pre,x < y:=fun x hx=>(List.pairwise_append.1 Az).2.2 x hx y (by simp)
     have PE:∀q,(listed.getD q false=true)→∀p∈ib ops q,listed.getD p false=true:=fun q hq=>by
       have:q < ops.size:=by
         rcases Nat.lt_or_ge q listed.size with h | h;{rw[←inv.size];exact h};{simp[Array.getD,Nat.not_lt.2 h] at hq}
       exact inv.closed q this hq
     have hnr:∀x∈pre,reach ops 64 (perm[x]!) (perm[y]!)=false:=fun x hx=>by
       cases hr:reach ops 64 (perm[x]!) (perm[y]!) with
       | false=>rfl
       | true =>
         have h1:=pw (D:=fun q=>listed.getD q false=true) PE 64 hi3 hr;have hxR:x∈y0::R':=by rw[hR];simp[hx]
         exact absurd rfl ((inv.mem _ (vc x (inv.sub x hxR))).1 h1 x hxR)
     have h5:=p5 y (List.mem_range.2 hyn);simp only[Bool.and_eq_true,List.all_eq_true,Bool.or_eq_true] at h5;have h6:∀x∈pre,(Ah L x y=true∧(L[x]!).rc.isEmpty=true)∧((!(L[y]!).rc.contains x)=true∨∀x'∈List.range y,((!decide (x < x'))=true∨reach ops 64 (perm[x']!) (perm[y]!)=true)∨Ai L x x'=true):=fun x hx =>
       (h5.2 x (List.mem_range.2 (Zg x hx))).2.resolve_left (by rw[hnr x hx];simp)
     have AdS:Uv ops perm (listed.setIfInBounds (perm[y]!) true) (pre++post):=by
       have mz:∀x∈pre++post,x∈y0::R':=fun x hx=>by
         rw[hR];rcases List.mem_append.1 hx with h | h;{simp[h]};{simp[h]}
       have AcP:∀py q,py < ops.size→(listed.setIfInBounds py true).getD q false=if py=q then true else listed.getD q false:=fun py q hpy=>by
         simp only[Array.getD_eq_getD_getElem?,Array.getElem?_setIfInBounds]
         by_cases hq:py=q
         · subst hq;simp[inv.size,hpy]
         · rw[if_neg hq,if_neg hq]
       have gJ:=fun q=>AcP (perm[y]!) q Lq;refine⟨by simp[inv.size],fun x hx=>inv.sub x (mz x hx),?_,fun q hq=>?_,fun q hq hl p hp=>?_⟩
       · rw[List.pairwise_append] at Az ⊢;exact⟨Az.1,(List.pairwise_cons.1 Az.2.1).2,fun a ha b hb=>Az.2.2 a ha b (by simp[hb])⟩
       · rw[gJ];have hny:∀x∈pre++post,x≠y:=by
           intro x hx he;subst he;rcases List.mem_append.1 hx with h | h;{exact Nat.lt_irrefl _ (Zg x h)};{exact Nat.lt_irrefl _ ((List.pairwise_cons.1 (List.pairwise_append.1 Az).2.1).1 x h)}
         by_cases ni:perm[y]! = q
         · subst ni;simp only[if_true,true_iff];intro x hx he;exact hny x hx (AcO x y (inv.sub x (mz x hx)) hyn he)
         · rw[if_neg ni,inv.mem q hq,hR];constructor;{intro h x hx;exact h x (by rcases List.mem_append.1 hx with h | h<;>simp[h])};{intro h x hx;rcases List.mem_append.1 hx with h' | h';{exact h x (by simp[h'])};{rcases List.mem_cons.1 h' with h'' | h'';{subst h'';exact ni};{exact h x (by simp[h''])}}}
       · rw[gJ] at hl ⊢;split;{rfl}
         · by_cases ni:perm[y]! = q
           · subst ni;exact hi3 p hp
           · rw[if_neg ni] at hl;exact inv.closed q hq hl p hp
     have hlen:(pre++post).length≤fuel:=by
       have:(y0::R').length=(pre++y::post).length:=by rw[hR]
       simp only[List.length_cons,List.length_append] at this hf ⊢;omega
     obtain⟨ys,g1,g2,g3⟩:=Ay Zb fuel (t / rs.length) _ (perm[y]! :: acc) (pre++post) hlen AdS;refine⟨y::ys,by rw[g1];simp,?_,fun z hz=>?_⟩
     · rw[hR];refine .cons (fun x hx=>⟨(h6 x hx).1.1,by simpa using (h6 x hx).1.2⟩) ?_ g2
       have hpp:=(List.pairwise_append.1 Az).1;refine List.Pairwise.imp_of_mem ?_ hpp;intro x x' hx AK bN hc;rcases (h6 x hx).2 with h | h;{rw[hc] at h;cases h};{rcases h x' (List.mem_range.2 (Zg x' AK)) with(h' | h') | h';{simp[bN] at h'};{rw[hnr x' AK] at h';cases h'};{exact h'}}
     · rcases List.mem_cons.1 hz with h | h;{subst h;exact hyn};{exact g3 z h}
theorem uy{P:Program}(hm:P.follows .mixedOrders=true){ops:Array Oper}{perm:List Nat}{L:List dv}(mo:qA ops perm L=true)(t:Nat) :
   ∃ys,Region.schedule (P.follows .mixedOrders) ops t=ys.map (fun y=>perm[y]!)∧qw L ys (List.range L.length)∧∀y∈ys,y < ops.size:=by
 have Zb:=mo;simp only[qA,Bool.and_eq_true,decide_eq_true_eq] at mo;obtain⟨⟨⟨⟨p1,p2⟩,p3⟩,p4⟩,p5⟩:=mo;rw[List.all_eq_true] at p3;obtain⟨ys,g1,g2,g3⟩:=Ay Zb ops.size t (Array.replicate ops.size false) [] (List.range ops.size) (by simp) ⟨by simp,fun y hy=>List.mem_range.1 hy,List.pairwise_lt_range,fun i hi=>by
   constructor;{intro h;simp[Array.getD] at h}
   · intro h;exfalso;have AcQ:i∈perm:=by
       rw[List.all_eq_true] at p4;simpa using p4 i (List.mem_range.2 hi)
     obtain⟨k,hk,wE⟩:=List.getElem_of_mem AcQ;exact h k (List.mem_range.2 (by omega)) (by simp[hk,wE]),fun q hq h=>by simp[Array.getD] at h⟩
 refine⟨ys,?_,by rw[p2];exact g2,g3⟩
 rw[hm];simp only[Region.schedule,Bool.true_or,if_true,Region.linearise];simpa using g1
theorem Ji{P:Program}{Q:Exit→Act→World→Prop}{c:Code}(J:Nat→Act→World→Prop){n:Nat}{a:Act}{w:World}(AdT:J n a w)
   (round:∀n a w,J n a w→c.wp P (Exit.then (fun a' w'=>∃m,m < n∧J m a' w') Q) a w):(Code.loop c).wp P Q a w:=by
 intro b k cs;have key:∀n a w,J n a w→∃e a' w',Q e a' w'∧Arrives P (lone (b.at a (.code c :: .inLoop c::k)) cs w) b k cs e a' w':=by
   intro n
   induction n using Nat.strongRecOn with
   | _ n ih =>
     intro a w hJ;obtain⟨e,Jj,Jk,hq,uY⟩:=round n a w hJ b (.inLoop c::k) cs;cases e with
     | normal =>
       obtain⟨m,bN,AcR⟩:=hq;obtain⟨AdU,AdV,AdW,AcS,PF⟩:=ih m bN Jj Jk AcR;exact⟨AdU,AdV,AdW,AcS,.of_steps (Steps.trans uY (.one step_inLoop)) PF⟩
     | exit id=>exact⟨_,Jj,Jk,hq,.pass (x:=.inLoop c) rfl (fun _ _ => .inl (by simp)) uY⟩
     | goto l=>exact⟨_,Jj,Jk,hq,.pass (x:=.inLoop c) rfl (fun _ _ => .inl (by simp)) uY⟩
     | ret=>exact⟨_,Jj,Jk,hq,.pass (x:=.inLoop c) rfl (fun _ _ => .inl (by simp)) uY⟩
     | panic ch=>exact⟨_,Jj,Jk,hq,.pass (x:=.inLoop c) rfl (fun _ _ => .inl (by simp)) uY⟩
     | outgrown=>exact⟨_,Jj,Jk,hq,.pass (x:=.inLoop c) rfl (fun _ _ => .inl (by simp)) uY⟩
 obtain⟨e,a',w',hq,uY⟩:=key n a w AdT;exact⟨e,a',w',hq,.of_steps (.one step_loop) uY⟩
def uz(P:Program)(ν:Nat→Option Nat)(N:Nat)(ops:Array Oper):List Oper→List aF→Bool
 | [],[]=>true
 | o::os,s::ss=>Af P ν N ops o s&&uz P ν N ops os ss
 | _,_=>false
theorem qB{P:Program}{ν:Nat→Option Nat}{N:Nat}{ops:Array Oper}:∀{os:List Oper} {ss:List aF},uz P ν N ops os ss=true→os.length=ss.length∧∀(k:Nat) o,os[k]? = some o→∃s,ss[k]? = some s∧Af P ν N ops o s=true
 | [],[],_=>by simp
 | [],_::_,h=>by simp[uz] at h
 | _::_,[],h=>by simp[uz] at h
 | o::os,s::ss,h=>by
   simp only[uz,Bool.and_eq_true] at h;obtain⟨h1,h2⟩:=qB h.2;refine⟨by simp[h1],fun k o' hk=>?_⟩
   cases k with
   | zero=>simp at hk;subst hk;exact⟨s,rfl,h.1⟩
   | succ k=>simpa using h2 k o' (by simpa using hk)
def MY(P:Program)(ν:Nat→Option Nat)(N:Nat)(ops:Array Oper):List Nat→List dv→Bool
 | [],[]=>true
 | p::ps,d::ds=>(match ops[p]? with
   | some o=>Af P ν N ops o d.o
   | none=>false)&&MY P ν N ops ps ds
 | _,_=>false
theorem AA{P:Program}{ν:Nat→Option Nat}{N:Nat}{ops:Array Oper}:∀{ps:List Nat} {ds:List dv},MY P ν N ops ps ds=true→∀(k:Nat),k < ps.length→∃o,ops[ps[k]!]? = some o∧k < ds.length∧Af P ν N ops o (ds[k]!).o=true
 | [],_,_,k,hk=>by simp at hk
 | _::_,[],h,_,_=>by simp[MY] at h
 | p::ps,d::ds,h,k,hk=>by
   simp only[MY,Bool.and_eq_true] at h;cases k with
   | zero =>
     have h1:=h.1;split at h1;{rename_i o ho;exact⟨o,by simpa using ho,by simp,by simpa using h1⟩};{cases h1}
   | succ k =>
     obtain⟨o,a1,a2,a3⟩:=AA h.2 k (by simpa using hk)
     exact⟨o,by simpa using a1,by simpa using a2,by simpa using a3⟩
def iz(P:Program)(ν:Nat→Option Nat)(N:Nat):Code→SC→Bool
 | .skip,.skip=>true
 | .region _ ops draw,.bL ss=>!draw&&uz P ν N ops ops.toList ss
 | .region _ ops draw,.bp perm L=>draw&&qA ops perm L&&MY P ν N ops perm L
 | .seq a b,.seq a' b'=>iz P ν N a a'&&iz P ν N b b'
 | .cond c a b,.cond c' a' b'=>au ν c c'&&iz P ν N a a'&&iz P ν N b b'
 | .block i b,.block j b'=>decide (i=j)&&iz P ν N b b'
 | .loop b,.loop b'=>iz P ν N b b'
 | .exit i,.exit j=>decide (i=j)
 | .ret,.ret=>true
 | _,_=>false
def AB(ν:Nat→Option Nat)(o:Oper)(x:bj)(ys:List bj):Bool:=
 (match o.op with
   | .defer c=>(match c.callee with
     | .value xo=>au ν xo x&&j0 ν c.args.toList ys
     | _=>false)
   | _=>false)&&o.dst.isNone&&o.guard.isNone
def jY(P:Program)(ν:Nat→Option Nat)(N:Nat):Code→SC→Bool
 | .seq (.region _ ops draw) b,.P7 ss x ys gd rest=>!draw&&uz P ν N ops (ops.toList.take (ops.size - 1)) ss&&(match ops[ops.size - 1]? with
   | some o=>AB ν o x ys
   | none=>false)&&iz P ν N b rest
 | .seq a b,.seq a' b'=>iz P ν N a a'&&jY P ν N b b'
 | _,_=>false
def qL.to:qL→Exit
 | .normal => .normal
 | .exit i => .exit i
 | .ret => .ret
section
variable {P:Program} {D:List (Nat×List HV)} {ν:Nat→Option Nat} {w0:World} {K0:Nat→Nat} {H0:ab} {N:Nat}
theorem mY{g:Nat}{hs:List HV}{H:ab}{Q Q':HV→ab→Prop}(hq:∀h H',Q h H'→Q' h H')(h:Spec P ν g hs H Q):Spec P ν g hs H Q':=
 fun n hn w K us h1 h2=>(h n hn w K us h1 h2).mono fun en w' ⟨u,h,H',K',a1,a2,a3,a4,a5⟩=>⟨u,h,H',K',a1,a2,a3,a4,hq _ _ a5⟩
theorem Cz:xM (Spec P ν):=by
 intro g hs H b r Q hb h n hn w K us MZ hr;have mz:H.sub (H.bt b (some r)):=fun c r' hc=>⟨r',by rw[ab.bt,if_neg (by rintro rfl;rw[hb] at hc;cases hc)];exact hc,.inl rfl⟩
 have bN:b < w.heap.size:=MZ.lt (b:=b) (r:=r) (by simp[ab.bt])
 have rB:=MZ.res b r (by simp[ab.bt])
 refine(h n hn w K us (oO MZ mz) hr).mono fun en w' ⟨u,x,H',K',e1,e2,e3,e4,e5⟩=>?_;obtain⟨s1,s2,s3⟩:=e4.same b bN hb;refine⟨u,x,H'.bt b (some r),K',e1,e2,⟨fun c q hc=>?_,e3.fresh,e3.qD⟩,⟨e4.os,e4.tape,e4.output,e4.size,e4.drawn,e4.grow,fun c hc hH=>?_⟩,H',s3,rfl,e5⟩
 · by_cases u0:c=b
   · subst u0;simp only[ab.bt,if_true,Option.some.injEq] at hc;subst hc;exact rB.move e4.grow s1 s2
   · rw[ab.bt,if_neg u0] at hc;exact e3.res c q hc
 · have u0:c≠b:=by rintro rfl;simp[ab.bt] at hH
   rw[ab.bt,if_neg u0] at hH;obtain⟨t1,t2,t3⟩:=e4.same c hc hH;exact⟨t1,t2,by rw[ab.bt,if_neg u0];exact t3⟩
theorem eH(hB:uj P ν)(hm:P.follows .mixedOrders=true):∀(c:Code) (s:SC),iz P ν N c s=true →
   ∀{e:Env} {H:ab} {a:Act} {w:World} {Qs:qL→Env→ab→Prop} {Q:Exit→Act→World→Prop},P8 D ν w0 K0 H0 N e H a w→aH (Spec P ν) s e H Qs →
     (∀ex e' H' a' w',Qs ex e' H'→P8 D ν w0 K0 H0 N e' H' a' w'→Q ex.to a' w')→c.wp P Q a w
 | .skip,.skip,_,e,H,a,w,Qs,Q,ao,hs,hQ=>wp_skip (hQ .normal e H a w hs ao)
 | .region id ops draw,.bL ss,hk,e,H,a,w,Qs,Q,ao,hs,hQ=>by
   simp only[iz,Bool.and_eq_true,Bool.not_eq_true'] at hk;obtain⟨rfl,k1⟩:=hk;obtain⟨g1,g2⟩:=qB k1;obtain⟨K,μ,ao⟩:=ao;simp only[aH] at hs;refine wp_region ?_;refine um hB (List.range ops.size) ss (by rw[List.length_range,←Array.length_toList];exact g1) (fun k hk=>?_) ao hs (fun e' H' a' w' K' JD h1 h2=>hQ .normal e' H' a' w' h1 ⟨K',JD,h2⟩)
   simp only[List.length_range] at hk;obtain⟨s,s1,s2⟩:=g2 k ops[k] (by simp[hk])
   exact⟨ops[k],s,by simp[hk],s1,s2⟩
 | .region id ops draw,.bp perm L,hk,e,H,a,w,Qs,Q,ao,hs,hQ=>by
   simp only[iz,Bool.and_eq_true] at hk;obtain⟨⟨rfl,k1⟩,k2⟩:=hk;obtain⟨K,μ,ao⟩:=ao;simp only[aH] at hs;refine wp_region_draw fun t=>?_;obtain⟨ys,y1,y2,y3⟩:=uy hm k1 t;rw[y1];have CR:Live e:=fun t k o ht=>(ao.slot t _ ht).2;have eP:=reorder (S:=Spec P ν) Cz (fun g hs H Q Q' h h'=>mY h h') y2 CR hs;have hlen:perm.length=ops.size:=by
     simp only[qA,Bool.and_eq_true,decide_eq_true_eq] at k1;exact k1.1.1.1.1
   refine um hB (ys.map fun y=>perm[y]!) (ys.map fun i=>(L[i]!).o) (by simp) (fun k hk=>?_) (ao.draw (Nat.le_succ _)) eP (fun e' H' a' w' K' JD h1 h2=>hQ .normal e' H' a' w' h1 ⟨K',JD,h2⟩)
   simp only[List.length_map] at hk;have hy:=y3 ys[k] (List.getElem_mem hk);obtain⟨o,o1,o2,o3⟩:=AA k2 ys[k] (by omega)
   refine⟨o,(L[ys[k]]!).o,?_,by simp[hk],o3⟩
   have:(ys.map fun y=>perm[y]!)[k]! = perm[ys[k]]! := by simp[hk]
   rw[this];exact o1
 | .seq c1 c2,.seq s1 s2,hk,e,H,a,w,Qs,Q,ao,hs,hQ=>by
   simp only[iz,Bool.and_eq_true] at hk;simp only[aH] at hs;refine wp_seq (eH hB hm c1 s1 hk.1 ao hs ?_);intro ex e' H' a' w' hq jL;cases ex with
   | normal =>
     obtain⟨e1,H1,he,hq⟩:=hq;exact eH hB hm c2 s2 hk.2 (he _ _ _ _ _ _ _ _ jL) hq hQ
   | exit i=>exact hQ (.exit i) _ _ _ _ hq jL
   | ret=>exact hQ .ret _ _ _ _ hq jL
 | .cond c c1 c2,.cond c' s1 s2,hk,e,H,a,w,Qs,Q,ao,hs,hQ=>by
   simp only[iz,Bool.and_eq_true] at hk;simp only[aH] at hs;split at hs
   · rename_i t ht;obtain⟨K,μ,ao⟩:=ao;have e1:=aq ao hk.1.1 ht;simp only[rep] at e1;cases t with
     | true=>exact wp_cond_true e1 (eH hB hm c1 s1 hk.1.2 ⟨K,μ,ao⟩ (hs.1 rfl) hQ)
     | false=>exact wp_cond_false e1 (eH hB hm c2 s2 hk.2 ⟨K,μ,ao⟩ (hs.2 rfl) hQ)
   · exact hs.elim
 | .block i c1,.block j s1,hk,e,H,a,w,Qs,Q,ao,hs,hQ=>by
   simp only[iz,Bool.and_eq_true,decide_eq_true_eq] at hk;obtain⟨rfl,hk⟩:=hk;simp only[aH] at hs;refine wp_block (eH hB hm c1 s1 hk ao hs ?_);intro ex e' H' a' w' hq jL;cases ex with
   | normal=>exact hQ .normal _ _ _ _ hq jL
   | exit k =>
     simp only[qL.to,Exit.inBlock];simp only at hq;split at hq;{rename_i h;rw[if_pos h];exact hQ .normal _ _ _ _ hq jL};{rename_i h;rw[if_neg h];exact hQ (.exit k) _ _ _ _ hq jL}
   | ret=>exact hQ .ret _ _ _ _ hq jL
 | .loop c1,.loop s1,hk,e,H,a,w,Qs,Q,ao,hs,hQ=>by
   simp only[iz] at hk;simp only[aH] at hs;obtain⟨I,⟨n,e1,H1,he,hI⟩,Zh⟩:=hs;refine Ji (fun n a w=>∃e H,I n e H∧P8 D ν w0 K0 H0 N e H a w) (n:=n) ⟨e1,H1,hI,he _ _ _ _ _ _ _ _ ao⟩ ?_;rintro n a w ⟨e2,H2,hI2,Zi⟩;refine eH hB hm c1 s1 hk Zi (Zh n e2 H2 hI2) ?_;intro ex e' H' a' w' hq jL;cases ex with
   | normal =>
     obtain⟨m,e3,H3,hm,he3,hI3⟩:=hq;exact⟨m,hm,e3,H3,hI3,he3 _ _ _ _ _ _ _ _ jL⟩
   | exit i=>exact hQ (.exit i) _ _ _ _ hq jL
   | ret=>exact hQ .ret _ _ _ _ hq jL
 | .exit i,.exit j,hk,e,H,a,w,Qs,Q,ao,hs,hQ=>by
   simp only[iz,decide_eq_true_eq] at hk;subst hk;exact wp_exit (hQ (.exit i) _ _ _ _ hs ao)
 | .ret,.ret,_,e,H,a,w,Qs,Q,ao,hs,hQ=>wp_ret (hQ .ret _ _ _ _ hs ao)
 | .skip,.bL _,hk,_,_,_,_,_,_,_,_,_ | .skip,.bp _ _,hk,_,_,_,_,_,_,_,_,_ | .skip,.seq _ _,hk,_,_,_,_,_,_,_,_,_ | .skip,.cond _ _ _,hk,_,_,_,_,_,_,_,_,_ | .skip,.block _ _,hk,_,_,_,_,_,_,_,_,_
 | .skip,.loop _,hk,_,_,_,_,_,_,_,_,_ | .skip,.exit _,hk,_,_,_,_,_,_,_,_,_ | .skip,.ret,hk,_,_,_,_,_,_,_,_,_=>by simp[iz] at hk
 | .region _ _ _,.skip,hk,_,_,_,_,_,_,_,_,_ | .region _ _ _,.seq _ _,hk,_,_,_,_,_,_,_,_,_ | .region _ _ _,.cond _ _ _,hk,_,_,_,_,_,_,_,_,_ | .region _ _ _,.block _ _,hk,_,_,_,_,_,_,_,_,_
 | .region _ _ _,.loop _,hk,_,_,_,_,_,_,_,_,_ | .region _ _ _,.exit _,hk,_,_,_,_,_,_,_,_,_ | .region _ _ _,.ret,hk,_,_,_,_,_,_,_,_,_=>by simp[iz] at hk
 | .seq _ _,.skip,hk,_,_,_,_,_,_,_,_,_ | .seq _ _,.bL _,hk,_,_,_,_,_,_,_,_,_ | .seq _ _,.bp _ _,hk,_,_,_,_,_,_,_,_,_ | .seq _ _,.cond _ _ _,hk,_,_,_,_,_,_,_,_,_ | .seq _ _,.block _ _,hk,_,_,_,_,_,_,_,_,_
 | .seq _ _,.loop _,hk,_,_,_,_,_,_,_,_,_ | .seq _ _,.exit _,hk,_,_,_,_,_,_,_,_,_ | .seq _ _,.ret,hk,_,_,_,_,_,_,_,_,_=>by simp[iz] at hk
 | .cond _ _ _,.skip,hk,_,_,_,_,_,_,_,_,_ | .cond _ _ _,.bL _,hk,_,_,_,_,_,_,_,_,_ | .cond _ _ _,.bp _ _,hk,_,_,_,_,_,_,_,_,_ | .cond _ _ _,.seq _ _,hk,_,_,_,_,_,_,_,_,_ | .cond _ _ _,.block _ _,hk,_,_,_,_,_,_,_,_,_
 | .cond _ _ _,.loop _,hk,_,_,_,_,_,_,_,_,_ | .cond _ _ _,.exit _,hk,_,_,_,_,_,_,_,_,_ | .cond _ _ _,.ret,hk,_,_,_,_,_,_,_,_,_=>by simp[iz] at hk
 | .block _ _,.skip,hk,_,_,_,_,_,_,_,_,_ | .block _ _,.bL _,hk,_,_,_,_,_,_,_,_,_ | .block _ _,.bp _ _,hk,_,_,_,_,_,_,_,_,_ | .block _ _,.seq _ _,hk,_,_,_,_,_,_,_,_,_ | .block _ _,.cond _ _ _,hk,_,_,_,_,_,_,_,_,_
 | .block _ _,.loop _,hk,_,_,_,_,_,_,_,_,_ | .block _ _,.exit _,hk,_,_,_,_,_,_,_,_,_ | .block _ _,.ret,hk,_,_,_,_,_,_,_,_,_=>by simp[iz] at hk
 | .loop _,.skip,hk,_,_,_,_,_,_,_,_,_ | .loop _,.bL _,hk,_,_,_,_,_,_,_,_,_ | .loop _,.bp _ _,hk,_,_,_,_,_,_,_,_,_ | .loop _,.seq _ _,hk,_,_,_,_,_,_,_,_,_ | .loop _,.cond _ _ _,hk,_,_,_,_,_,_,_,_,_
 | .loop _,.block _ _,hk,_,_,_,_,_,_,_,_,_ | .loop _,.exit _,hk,_,_,_,_,_,_,_,_,_ | .loop _,.ret,hk,_,_,_,_,_,_,_,_,_=>by simp[iz] at hk
 | .exit _,.skip,hk,_,_,_,_,_,_,_,_,_ | .exit _,.bL _,hk,_,_,_,_,_,_,_,_,_ | .exit _,.bp _ _,hk,_,_,_,_,_,_,_,_,_ | .exit _,.seq _ _,hk,_,_,_,_,_,_,_,_,_ | .exit _,.cond _ _ _,hk,_,_,_,_,_,_,_,_,_
 | .exit _,.block _ _,hk,_,_,_,_,_,_,_,_,_ | .exit _,.loop _,hk,_,_,_,_,_,_,_,_,_ | .exit _,.ret,hk,_,_,_,_,_,_,_,_,_=>by simp[iz] at hk
 | .ret,.skip,hk,_,_,_,_,_,_,_,_,_ | .ret,.bL _,hk,_,_,_,_,_,_,_,_,_ | .ret,.bp _ _,hk,_,_,_,_,_,_,_,_,_ | .ret,.seq _ _,hk,_,_,_,_,_,_,_,_,_ | .ret,.cond _ _ _,hk,_,_,_,_,_,_,_,_,_
 | .ret,.block _ _,hk,_,_,_,_,_,_,_,_,_ | .ret,.loop _,hk,_,_,_,_,_,_,_,_,_ | .ret,.exit _,hk,_,_,_,_,_,_,_,_,_=>by simp[iz] at hk
 | .rangeFunc _ _ _ _,s,hk,_,_,_,_,_,_,_,_,_ | .scope _,s,hk,_,_,_,_,_,_,_,_,_ | .label _,s,hk,_,_,_,_,_,_,_,_,_ | .goto _,s,hk,_,_,_,_,_,_,_,_,_ | .refuse _,s,hk,_,_,_,_,_,_,_,_,_=>by
   cases s<;>simp[iz] at hk
end
end Sm
namespace Sm
open Go
def gU(P:Program)(N:Nat):List ResultVar→List jZ→Bool
 | [],[]=>true
 | .tmp t::rs,.t s::ss=>decide (t=s)&&decide (s < N)&&gU P N rs ss
 | .cell t T::rs,.cell s agg n::ss=>decide (t=s)&&decide (cX P T=some n)&&decide (dJ P T=some agg)&&(agg||decide (n=1))&&gU P N rs ss
 | _,_=>false
def lI(P:Program)(ν:Nat→Option Nat)(f:Func)(s:SF):Bool:=
 (match f.body with
   | some c=>if s.body.Nb then jY P ν s.N c s.body else iz P ν s.N c s.body
   | none=>false)&&decide (f.ntmps=s.N)&&decide (s.np≤s.N)&&gU P s.N f.results.toList s.res&&!(f.name == "runtime.NumGoroutine")
structure ai (code:Nat→SF) where
 P:Program
 ν:Nat→Option Nat
 mixed:P.follows .mixedOrders=true
 link:∀n g,pK ν n g→∃f,P.funcs[n]? = some f∧lI P ν f (code g)=true
theorem ai.qu{code:Nat→SF}(L:ai code):uj L.P L.ν:=by
 intro n g hn;obtain⟨f,hf,hk⟩:=L.link n g hn;simp only[lI,Bool.and_eq_true,Bool.not_eq_true'] at hk;refine⟨f,hf,?_,hk.2⟩;have:=hk.1.1.1.1;cases hb:f.body with
 | none=>rw[hb] at this;cases this
 | some c=>rfl
section
variable {P:Program} {D:List (Nat×List HV)} {ν:Nat→Option Nat} {w0:World} {K0:Nat→Nat} {H0:ab} {N:Nat} {e:Env} {H:ab} {a:Act} {w:World} {K μ:Nat→Nat}
theorem mS(ao:St D ν w0 K0 H0 N e H a w K μ):∀(rs:List ResultVar) (ss:List jZ),gU P N rs ss=true→∀{hs:List HV},dM e H ss=some hs →
   ∃us,(rs.mapM fun r=>(match r with | .tmp t=>pure (a.tmps.getD t undef) | .cell ad t=>do loadVar t (←asAddr (a.tmps.getD ad undef)):Sem Value)).run P w = .ok us w∧aC ν K w hs us
 | [],[],_,hs,h=>by
   simp only[dM,Option.some.injEq] at h;subst h;exact⟨[],by simp,by simp[aC]⟩
 | .tmp t::rs,.t s::ss,hk,hs,h=>by
   simp only[gU,Bool.and_eq_true,decide_eq_true_eq] at hk;obtain⟨⟨rfl,k1⟩,k2⟩:=hk;simp only[dM] at h;split at h
   · rename_i h1 oz e1 e2;simp only[Option.some.injEq] at h;subst h;obtain⟨us,u1,u2⟩:=mS ao rs ss k2 e2;have hv:=aq ao (x:=.tmp t) (y:=.s t) (by simp[au]) e1
     refine⟨a.tmps.getD t undef::us,?_,⟨_,_,rfl,hv,u2⟩⟩;simp only[List.mapM_cons,Sem.run_bind,Sem.run_pure,Result.andThen_ok,u1]
   · cases h
 | .cell t T::rs,.cell s agg n::ss,hk,hs,h=>by
   simp only[gU,Bool.and_eq_true,decide_eq_true_eq] at hk;obtain⟨⟨⟨⟨rfl,k1⟩,k2⟩,k3⟩,k4⟩:=hk;simp only[dM] at h;split at h
   · rename_i h1 oz e1 e2;simp only[Option.some.injEq] at h;subst h;obtain⟨us,u1,u2⟩:=mS ao rs ss k4 e2;simp only[jZ.val] at e1;split at e1
     · rename_i hh hl;simp only[Option.some.injEq] at e1;subst e1;obtain⟨u,c1,c2,c3⟩:=Ej (P:=P) (o:={ dst:=none,op:=.load T (.tmp t),type:=0,pos:="",after:=#[],guard:=none }) ao rfl k1 k2 k3 (x:=.tmp t) (x':=.s t) (by simp[au]) hl
       have Uw:(do loadVar T (←asAddr (a.tmps.getD t undef)):Sem Value).run P w = .ok u w:=by
         have fR:((Instr.loadAt T (a.tmps.getD t undef)).run P w).andThen (fun v w'=>Result.ok (Next.value v) w') = .ok (.value u) w:=by
           simpa[execOp,Act.eval] using c1
         generalize a.tmps.getD t undef=pv at fR ⊢;cases pv
         case pointer ad =>
           cases ad with
           | none=>simp[Instr.loadAt,Instr.sureAddr] at fR
           | some ad =>
             have AcT:(Instr.loadAt T (.pointer (some ad))).run P w=(loadVar T ad).run P w:=by simp[Instr.loadAt,Instr.sureAddr]
             rw[AcT] at fR;have Zj:(do loadVar T (←asAddr (.pointer (some ad))):Sem Value).run P w=(loadVar T ad).run P w:=by simp[asAddr]
             rw[Zj];cases hr:(loadVar T ad).run P w with
             | ok v w'=>rw[hr] at fR;simp at fR;rw[fR.1,fR.2]
             | halt x w'=>rw[hr] at fR;simp at fR
         all_goals simp[Instr.loadAt,Instr.sureAddr] at fR
       refine⟨u::us,?_,⟨_,_,rfl,c2,u2⟩⟩;simp only[List.mapM_cons,Sem.run_bind] at Uw ⊢;simp only[Uw,Result.andThen_ok,u1,Sem.run_pure]
     · cases e1
   · cases h
 | [],_::_,hk,_,_=>by simp[gU] at hk
 | .tmp _::_,[],hk,_,_=>by simp[gU] at hk
 | .cell _ _::_,[],hk,_,_=>by simp[gU] at hk
 | .tmp _::_,.cell _ _ _::_,hk,_,_=>by simp[gU] at hk
 | .cell _ _::_,.t _::_,hk,_,_=>by simp[gU] at hk
theorem uA(ao:St D ν w0 K0 H0 N e H a w K μ){f:Func}{ss:List jZ}(hk:gU P N f.results.toList ss=true){hs:List HV}(h:dM e H ss=some hs) :
   ∃u,(results f a.tmps).run P w = .ok u w∧rep ν K w (eQ hs) u:=by
 obtain⟨us,u1,u2⟩:=mS (P:=P) ao f.results.toList ss hk h;have hlen:=aK u2;have uY:(f.results.mapM fun r=>(match r with | .tmp t=>pure (a.tmps.getD t undef) | .cell ad t=>do loadVar t (←asAddr (a.tmps.getD ad undef)):Sem Value)).run P w = .ok us.toArray w:=by
   rw[Array.mapM_eq_mapM_toList];simp only[Sem.run_map,u1,Result.andThen_ok]
 have rB:(results f a.tmps).run P w = .ok (if h:us.toArray.size=1 then us.toArray[0] else .tuple us.toArray) w:=by
   have AdX:results f a.tmps=(f.results.mapM fun r=>(match r with | .tmp t=>pure (a.tmps.getD t undef) | .cell ad t=>do loadVar t (←asAddr (a.tmps.getD ad undef)):Sem Value)) >>= fun vs=>pure (if h:vs.size=1 then vs[0] else .tuple vs):=by
     unfold results;congr 2
   rw[AdX,Sem.run_bind,uY];rfl
 rw[rB]
 match hs,us,hlen,u2 with
 | [],[],_,u2=>exact⟨_,rfl,by simp[eQ,rep,aC]⟩
 | [h1],[u],_,u2 =>
   obtain⟨v,vs,e1,e2,e3⟩:=u2;simp only[List.cons.injEq] at e1;obtain⟨rfl,rfl⟩:=e1;exact⟨u,by simp,e2⟩
 | h1::h2::hs,u::v::us,_,u2=>exact⟨_,rfl,by simp only[eQ,rep];exact⟨_,rfl,u2⟩⟩
end
def Ans(ν:Nat→Option Nat)(w:World)(K:Nat→Nat)(H:ab)(Q:HV→ab→Prop)(en:Ending)(w':World):Prop:=
 ∃u h H' K',en = .returned u∧rep ν K' w' h u∧dS ν w' K' H'∧Ext (quiet ν) w K H w' K' H'∧Q h H'
theorem AD{L:Nat→Option Nat}{w:World}{K:Nat→Nat}{H:ab}{N nt:Nat}{args:List HV}{us:List Value}(hs:dS L w K H)(hr:aC L K w args us)(hN:nt=N)(hle:us.length≤N) :
   St [] L w K H N (oG args) H { tmps:=us.toArray++Array.replicate (nt - us.toArray.size) undef,defers:=[] } w K (fun _=>0):=by
 have hlen:=aK hr;refine⟨hs,by simp;omega,rfl,fun t x hx=>?_,fun k cs hk=>by simp[oG,Env.box] at hk,fun i j c c' hi=>by simp[oG,Env.box] at hi,Ext.refl _ _ _⟩
 simp only[oG,Env.get] at hx;obtain⟨v,hv,rfl⟩:=Option.map_eq_some_iff.1 hx;obtain⟨u,JU,CJ⟩:=ti hr hv;refine⟨?_,T_⟩;have ht:t < us.length:=by
   rcases Nat.lt_or_ge t us.length with h | h;{exact h};{rw[List.getElem?_eq_none h] at JU;cases JU}
 simp only[bO,Array.getD_eq_getD_getElem?];rw[Array.getElem?_append_left (by simpa using ht)]
 simpa[JU] using CJ
theorem Hk{P:Program}{D:List (Nat×List HV)}{ν:Nat→Option Nat}{w0:World}{K0:Nat→Nat}{H0:ab}{N:Nat}{e:Env}{H:ab}{a:Act}{w:World}{f:Func}{res:List jZ}{Q:HV→ab→Prop}
   (k4:gU P N f.results.toList res=true) (h:kS res Q e H) (PH:P8 D ν w0 K0 H0 N e H a w):∃v,(results f a.tmps).run P w = .ok v w∧Ans ν w0 K0 H0 Q (.returned v) w:=by
 obtain⟨e',H',cJ,rB⟩:=h;obtain⟨K',JD,jL⟩:=cJ _ _ _ _ _ _ _ _ PH;split at rB;{rename_i eP hrl;obtain⟨h',uI,hw,mz,hq⟩:=rB;obtain⟨u,u1,u2⟩:=uA (P:=P) jL k4 hrl;exact⟨u,u1,u,h',uI,K',rfl,hw _ _ _ _ u2,oO jL.hs mz,jL.ext.sub mz,hq⟩};{exact rB.elim}
theorem Hl{code:Nat→SF}(L:ai code){g n:Nat}{args:List HV}{H:ab}{Q:HV→ab→Prop}(hd:(code g).body.Nb=false)(h:(code g).P9 (Spec L.P L.ν) args H Q)(hn:pK L.ν n g){w:World}{K:Nat→Nat}{us:List Value}
   (hs:dS L.ν w K H) (hr:aC L.ν K w args us):∃f c,L.P.funcs[n]? = some f∧f.body=some c ∧
     c.wp L.P (bodyPost L.P f (Ans L.ν w K H Q)) { tmps:=us.toArray++Array.replicate (f.ntmps - us.toArray.size) undef,defers:=[] } w:=by
 obtain⟨f,hf,hk⟩:=L.link n g hn;simp only[lI,hd,Bool.and_eq_true,decide_eq_true_eq,Bool.not_eq_true',Bool.false_eq_true,if_false] at hk;obtain⟨⟨⟨⟨k1,k2⟩,k3⟩,k4⟩,k5⟩:=hk;cases hb:f.body with
 | none=>rw[hb] at k1;cases k1
 | some c =>
   rw[hb] at k1;simp only at k1;obtain⟨h1,h2⟩:=h;have hlen:=aK hr;refine⟨f,c,hf,hb,?_⟩;have ao:=AD (N:=(code g).N) hs hr k2 (by omega)
   refine eH L.qu L.mixed c (code g).body k1 ⟨_,_,ao⟩ h2 ?_;intro ex e0' H0' a' w' ⟨hex,eZ⟩ PH;have hdf:a'.defers=[]:=by obtain⟨_,_,h⟩:=PH;exact h.df
   obtain⟨u,u1,u2⟩:=Hk (f:=f) k4 eZ PH;rcases hex with rfl | rfl<;>exact⟨hdf,u,u1,u2⟩
theorem PI{code:Nat→SF}(L:ai code){g:Nat}{args:List HV}{H:ab}{Q:HV→ab→Prop}(h:(code g).P9 (Spec L.P L.ν) args H Q)(hd:(code g).body.Nb=false):Spec L.P L.ν g args H Q:=by
 intro n hn w K us hs hr;obtain⟨f,c,hf,hb,hw⟩:=Hl L hd h hn hs hr;exact calls_of_wp hf hb hw
theorem CA{n:Nat}(h:0 < n):List.range n=List.range (n - 1)++[n - 1]:=by
 obtain⟨m,rfl⟩:∃m,n=m+1:=⟨n - 1,by omega⟩
 rw[List.range_succ];rfl
theorem uB{code:Nat→SF}(L:ai code){f:Func}{N:Nat}{w0:World}{K0:Nat→Nat}{H0:ab}{R:Ending→World→Prop}{fin:Env→ab→Prop}
   (eZ:∀D e H a w,fin e H→P8 D L.ν w0 K0 H0 N e H a w→∃v,(results f a.tmps).run L.P w = .ok v w∧R (.returned v) w):∀(c:Code) (s:SC),jY L.P L.ν N c s=true→∀{e:Env} {H:ab} {a:Act} {w:World},
     P8 [] L.ν w0 K0 H0 N e H a w→ju code (Spec L.P L.ν) fin s e H→c.wp L.P (bodyPostD L.P f R) a w
 | c,.seq a' b',hk,e,H,a,w,ao,hs=>by
   cases c<;>simp only[jY,Bool.false_eq_true] at hk;rename_i c1 c2;simp only[Bool.and_eq_true] at hk;simp only[ju] at hs;refine wp_seq (eH L.qu L.mixed c1 a' hk.1 ao hs ?_);intro ex e' H' a1 w1 hq qC;have hdf:a1.defers=[]:=by obtain⟨_,_,h⟩:=qC;exact h.df
   cases ex with
   | normal =>
     obtain⟨e1,H1,he,hq⟩:=hq;exact uB L eZ c2 b' hk.2 (he _ _ _ _ _ _ _ _ qC) hq
   | exit i=>exact hq.elim
   | ret =>
     show Leaves L.P f a1.tmps R a1.defers .returning w1;rw[hdf];exact eZ _ _ _ _ _ hq qC
 | c,.P7 ss x ys gd rest,hk,e,H,a,w,ao,hs=>by
   cases c<;>(try simp only[jY,Bool.false_eq_true] at hk);rename_i c1 c2;cases c1<;>(try simp only[jY,Bool.false_eq_true] at hk);rename_i id ops draw;simp only[Bool.and_eq_true,Bool.not_eq_true'] at hk;obtain⟨⟨⟨rfl,k1⟩,k2⟩,k3⟩:=hk;cases nU:ops[ops.size - 1]? with
   | none=>rw[nU] at k2;cases k2
   | some o =>
     rw[nU] at k2;simp only[AB,Bool.and_eq_true,Option.isNone_iff_eq_none] at k2;obtain⟨⟨k2,k4⟩,k5⟩:=k2;have da:0 < ops.size:=by
       rcases Nat.eq_zero_or_pos ops.size with h | h;{rw[Array.getElem?_eq_none (by omega)] at nU;cases nU};{exact h}
     obtain⟨K,μ,ao⟩:=ao;simp only[ju] at hs;refine wp_seq (wp_region ?_);rw[CA da];obtain⟨g1,g2⟩:=qB k1;have hl1:(ops.toList.take (ops.size - 1)).length=ops.size - 1:=by rw[List.length_take,Array.length_toList];omega
     refine iy L.qu (List.range (ops.size - 1)) ss (by rw[List.length_range];omega) (fun k hk=>?_) ao hs ?_
     · simp only[List.length_range] at hk;obtain⟨s,s1,s2⟩:=g2 k ops[k] (by rw[List.getElem?_take_of_lt hk];simp)
       exact⟨ops[k],s,by simp[hk],s1,s2⟩
     intro e' H' a1 w1 K1 μ1 oz qC;cases cH:o.op<;>simp only[cH,Bool.false_eq_true] at k2;rename_i c;cases va:c.callee<;>simp only[va,Bool.false_eq_true] at k2;rename_i xo;simp only[Bool.and_eq_true] at k2;split at oz
     case h_2=>exact oz.elim
     rename_i g cq eP hx qT;obtain⟨rfl,hD,oz⟩:=oz;have e1:=aq qC k2.1 hx;simp only[rep] at e1;obtain⟨n,us,n1,n2,n3⟩:=e1;have r0:=ji qC k2.2 qT
     let dd:Deferred:={ target:=.fn (.func n) us.toArray,args:=#[]++c.args.map a1.eval }
     have dI:(execOp a1.eval o).run L.P w1 = .ok (.defer dd) w1:=by
       simp[execOp,cH,resolve,va,n2,Deferred.ofValue,dd]
     simp only[wpOps,nU];rw[if_pos (by simp[Region.wanted,k5])]
     left;unfold Oper.wp;rw[dI,Oper.upon_defer,k4];show c2.wp L.P (bodyPostD L.P f R) { a1 with defers:=dd::a1.defers } w1;have r1:aC L.ν K1 w1 (eP++cq) ((c.args.map a1.eval).toList++us):=cA (by simpa using r0) n3
     have Zi:St [(n,eP++cq)] L.ν w0 K0 H0 N e' H' { a1 with defers:=dd::a1.defers } w1 K1 μ1:=⟨qC.hs,qC.sz,⟨#[]++c.args.map a1.eval,us.toArray,[],by rw[show a1.defers=[] from qC.df],by simpa using r1,rfl⟩,qC.slot,qC.box,qC.inj,qC.ext⟩
     refine eH L.qu L.mixed c2 rest k3 ⟨_,_,Zi⟩ oz ?_;intro ex e2 H2 a2 w2 ⟨hex,e3,H3,cJ,AdY⟩ AdZ;obtain⟨K3,μ3,Zk⟩:=cJ _ _ _ _ _ _ _ _ AdZ;obtain⟨vs,ZO,ZC,d1,d2,d3⟩:=Zk.df;have d3':ZC=[]:=d3;subst d3';have Zl:Leaves L.P f a2.tmps R a2.defers .returning w2:=by
       rw[d1];obtain⟨fd,cd,f1,f2,f3⟩:=Hl L hD AdY n1 Zk.hs d2;obtain⟨fb,b1,b2,b3⟩:=L.qu n g n1;refine⟨by simp,.func n,ZO,n,(vs.toList++ZO.toList).toArray,rfl,?_,(callsD_of_wp (u:=.returning) f1 f2 f3).mono ?_⟩
       · have e1:vs++ZO=(vs.toList++ZO.toList).toArray:=by apply Array.ext';simp
         simp only[invoke];rw[e1];simp only[callFunc,Sem.run_bind,run_program,Result.andThen_ok,b1,b3,b2,Bool.false_eq_true,if_false,Sem.run_pure]
       · rintro en u' w4 ⟨rfl,u,h,H4,K4,rfl,r1,r2,r3,r4⟩;show Leaves L.P f a2.tmps R [] (settle .returning) w4;exact eZ _ _ _ _ _ r4 ⟨K4,μ3,Zk.step r3 r2⟩
     rcases hex with rfl | rfl<;>exact Zl
 | c,.skip,hk,_,_,_,_,_,_=>by cases c<;>simp[jY] at hk
 | c,.bL _,hk,_,_,_,_,_,_=>by cases c<;>simp[jY] at hk
 | c,.bp _ _,hk,_,_,_,_,_,_=>by cases c<;>simp[jY] at hk
 | c,.cond _ _ _,hk,_,_,_,_,_,_=>by cases c<;>simp[jY] at hk
 | c,.block _ _,hk,_,_,_,_,_,_=>by cases c<;>simp[jY] at hk
 | c,.loop _,hk,_,_,_,_,_,_=>by cases c<;>simp[jY] at hk
 | c,.exit _,hk,_,_,_,_,_,_=>by cases c<;>simp[jY] at hk
 | c,.ret,hk,_,_,_,_,_,_=>by cases c<;>simp[jY] at hk
theorem LH{code:Nat→SF}(L:ai code){g:Nat}{args:List HV}{H:ab}{Q:HV→ab→Prop}(h:(code g).aX code (Spec L.P L.ν) args H Q)(hd:(code g).body.Nb=true):Spec L.P L.ν g args H Q:=by
 intro n hn w K us hs hr;obtain⟨f,hf,hk⟩:=L.link n g hn;simp only[lI,hd,Bool.and_eq_true,decide_eq_true_eq,Bool.not_eq_true',if_true] at hk;obtain⟨⟨⟨⟨k1,k2⟩,k3⟩,k4⟩,k5⟩:=hk;cases hb:f.body with
 | none=>rw[hb] at k1;cases k1
 | some c =>
   rw[hb] at k1;simp only at k1;obtain⟨h1,h2⟩:=h;have hlen:=aK hr;have ao:=AD (N:=(code g).N) hs hr k2 (by omega)
   exact calls_of_wp_defers hf hb (uB L (fun D e H a w hf' jL=>Hk (f:=f) k4 hf' jL) c _ k1 ⟨_,_,ao⟩ h2)
end Sm
