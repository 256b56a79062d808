/-
  Bw
-/
import Derived.Test.YtegmmhldpmmkeaaGreatDoorSmLF
set_option linter.unusedVariables false
set_option linter.unusedSimpArgs false
set_option linter.unnecessarySimpa false
namespace Sm
open Go
def VW(H:ab)(x y:HV):Prop:=∀ν K w u,(∀b cs,H b=some (.obj cs)→yl ν K w b cs)→rep ν K w x u→rep ν K w y u
def yn(H:ab):List HV→List HV→Prop
 | [],[]=>True
 | x::xs,y::ys=>VW H x y∧yn H xs ys
 | _,_=>False
theorem yn.rep{H:ab}{ν K w}(hf:∀b cs,H b=some (.obj cs)→yl ν K w b cs):∀{xs ys:List HV} {us:List Value},yn H xs ys→aC ν K w xs us→aC ν K w ys us
 | [],[],us,_,h=>h
 | x::xs,y::ys,us,hw,h=>by
   simp only[aC] at h ⊢;obtain⟨u,dr,h1,h2,h3⟩:=h;exact⟨u,dr,h1,hw.1 _ _ _ _ hf h2,yn.rep hf hw.2 h3⟩
 | [],_::_,_,hw,_=>hw.elim
 | _::_,[],_,hw,_=>hw.elim
theorem VW.refl(H:ab)(x:HV):VW H x x:=fun _ _ _ _ _ h=>h
theorem yn.refl(H:ab):∀xs:List HV,yn H xs xs
 | []=>trivial
 | x::xs=>⟨VW.refl H x,yn.refl H xs⟩
theorem VW.trans{H:ab}{x y z:HV}(h:VW H x y)(k:VW H y z):VW H x z:=fun ν K w u f hr=>k ν K w u f (h ν K w u f hr)
theorem VW.fw{H:ab}{b:Nat}{cs:List HV}{x y:HV}(hb:H b=some (.obj cs))(h:FW b cs x y):VW H x y:=fun ν K w u f hr=>h ν K w u (f b cs hb) hr
theorem VW.of{H:ab}{x y:HV}(h:an x y):VW H x y:=fun ν K w u _ hr=>h ν K w u hr
theorem VW.ag{H:ab}{xs ys:List HV}(h:yn H xs ys)(h1:ys.all HV.one=true):VW H (.ag xs) (.ag ys):=fun ν K w u f hr=>by
 simp only[Sm.rep] at hr ⊢;obtain⟨us,e,_,h3⟩:=hr;exact⟨us,e,h1,h.rep f h3⟩
theorem yn.length{H:ab}:∀{xs ys:List HV},yn H xs ys→xs.length=ys.length
 | [],[],_=>rfl
 | x::xs,y::ys,h=>by simp[yn.length h.2]
 | [],_::_,h=>h.elim
 | _::_,[],h=>h.elim
theorem VW.sl{H:ab}{tk:Tk}{sz:Nat}{xs ys:List HV}(h:yn H xs ys)(h1:ys.all HV.el=true)(h2:∀e∈ys,e.aN=sz):VW H (.sl tk sz xs) (.sl tk sz ys):=fun ν K w u f hr=>by
 simp only[Sm.rep] at hr ⊢;obtain⟨A,cap,aR,e,g1,g2,g3,g4,g5,g6,g7⟩:=hr;have hl:=h.length;refine⟨A,cap,aR,by rw[e,hl],by omega,g2,by rw[←hl];exact g3,h1,h2,h.rep f g6,?_⟩
 rcases g7 with g7 | ⟨b,off,k1,k2,k3⟩;{left;subst g7;exact List.length_eq_zero_iff.mp hl.symm};{right;exact⟨b,off,k1,by rw[←hl];exact k2,k3⟩}
theorem yn.map{α:Type}{H:ab}{f g:α→HV}:∀{l:List α},(∀a∈l,VW H (f a) (g a))→yn H (l.map f) (l.map g)
 | [],_=>trivial
 | a::l,h=>⟨h a (by simp),yn.map fun b hb=>h b (by simp[hb])⟩
def Kv(w:World)(K:Nat→Nat)(b:Nat):Nat:=max (K b) (match w.heap[b]? with
 | some (.cells c _ _)=>c.size
 | _=>0)
theorem NA(w:World)(K:Nat→Nat):Grow w K w (Kv w K):=⟨fun b=>Nat.le_max_left _ _,fun _ _ _=>rfl,fun _ _=>rfl⟩
def US:ab:=fun _=>none
theorem Spec.borrow{P:Program}{ν:Nat→Option Nat}{g:Nat}{args jt:List HV}{H:ab}{x:Value}{Q:HV→ab→Prop}(hv:yn H args jt)
   (hS:Spec P ν g jt US fun r _=>r = .v x) (hQ:Q (.v x) H):Spec P ν g args H Q:=by
 intro n hn w K us hs hr;have hg:=NA w K;have Ju:∀b cs,H b=some (.obj cs)→yl ν (Kv w K) w b cs:=fun b cs hb=>by
   obtain⟨vs,T,h1,h2,h3,h4⟩:=hs.res b _ hb;refine⟨vs.toList.take cs.length,bl (bQ h1) _,h3.grow hg,?_,h4⟩;simp only[Kv,h1,List.length_take,Array.length_toList];omega
 have h0:dS ν w (Kv w K) US:=⟨fun b r h=>(by cases h),fun b hb=>(by simp only[Kv,hs.fresh b hb,Array.getElem?_eq_none hb];rfl),hs.qD.grow hg⟩
 refine(hS n hn w (Kv w K) us h0 (hv.rep Ju (aC.grow hg _ hr))).mono fun e w' ⟨u,h,H1,K1,e1,e2,e3,e4,e5⟩=>?_;subst e5;simp only[rep] at e2;subst e2;have sm:∀b,b < w.heap.size→w'.heap[b]? = w.heap[b]? := fun b hb=>(e4.same b hb rfl).1
 let K2:Nat→Nat:=fun b=>if b < w.heap.size then K b else 0
 have k2:∀b,b < w.heap.size→K2 b=K b:=fun b hb=>by simp[K2,hb]
 have hg2:Grow w K w' K2:=⟨fun b=>by
   rcases Nat.lt_or_ge b w.heap.size with hb | hb;{rw[k2 b hb];exact Nat.le_refl _}
   · rw[hs.fresh b hb];exact Nat.zero_le _,fun b j hj=>by
   rcases Nat.lt_or_ge b w.heap.size with hb | hb;{simp only[World.cell?,sm b hb]}
   · rw[hs.fresh b hb] at hj;omega,fun b yB=>by
   rcases Nat.lt_or_ge b w.heap.size with hb | hb;{exact cS (sm b hb)}
   · rw[hs.fresh b hb] at yB;omega⟩
 refine⟨u,.v u,H,K2,e1,by simp only[rep],⟨fun b r hb=>?_,fun b hb=>?_,hs.qD.grow hg2⟩,⟨e4.os,e4.tape,e4.output,e4.size,e4.drawn,hg2,fun b hb hH=>⟨sm b hb,k2 b hb,hH⟩⟩,hQ⟩
 · have bN:=hs.lt hb;exact(hs.res b r hb).move hg2 (sm b bN) (k2 b bN)
 · have:=e4.size;simp[K2];omega
theorem Spec.dB{P:Program}{ν:Nat→Option Nat}{g:Nat}{args:List HV}{H:ab}{Q:HV→ab→Prop}
   (h:Spec P ν g args H fun r X=>Q r X∨(∃r',an r r'∧Q r' X)∨∃b cs r',X b=some (.obj cs)∧FW b cs r r'∧Q r' (X.bt b none)):Spec P ν g args H Q:=by
 intro n hn w K us hs hr;refine(h n hn w K us hs hr).mono fun e w' ⟨u,r,X,K',e1,e2,e3,e4,e5⟩=>?_;rcases e5 with e5 | ⟨r',h1,h2⟩ | ⟨b,cs,r',hb,hf,hQ⟩;{exact⟨u,r,X,K',e1,e2,e3,e4,e5⟩};{exact⟨u,r',X,K',e1,h1 _ _ _ _ e2,e3,e4,h2⟩}
 · obtain⟨vs,T,r1,r2,r3,r4⟩:=e3.res b _ hb;have bN:=e3.lt hb
   let K2:Nat→Nat:=fun i=>if i=b then vs.size else K' i
   have kb:K2 b=vs.size:=by simp[K2]
   have kn:∀i,i≠b→K2 i=K' i:=fun i hi=>by simp[K2,hi]
   have hg:Grow w' K' w' K2:=⟨fun i=>by
     by_cases hi:i=b
     · subst hi;rw[r2];exact Nat.zero_le _
     · rw[kn i hi];exact Nat.le_refl _,fun _ _ _=>rfl,fun _ _=>rfl⟩
   have Ju:yl ν K2 w' b cs:=⟨vs.toList.take cs.length,bl (bQ r1) _,r3.grow hg,by rw[kb,List.length_take];simp;omega,r4⟩
   refine⟨u,r',X.bt b none,K2,e1,hf _ _ _ _ Ju (rep.grow hg _ e2),⟨fun i q hi=>?_,fun i hi=>?_,e3.qD.grow hg⟩,⟨e4.os,e4.tape,e4.output,e4.size,e4.drawn,e4.grow.trans hg,fun i hi hH=>?_⟩,hQ⟩
   · by_cases yo:i=b
     · subst yo;rw[ab.aB] at hi;cases hi
     · rw[ab.cK _ _ yo] at hi;exact(e3.res i q hi).move hg rfl (kn i yo)
   · rw[kn i (by omega)];exact e3.fresh i hi
   · obtain⟨s1,s2,s3⟩:=e4.same i hi hH;have yo:i≠b:=by rintro rfl;rw[hb] at s3;cases s3
     exact⟨s1,(kn i yo).trans s2,by rw[ab.cK _ _ yo];exact s3⟩
theorem Spec.lay{P:Program}{ν:Nat→Option Nat}{g:Nat}{args jt:List HV}{X:ab}{b:Nat}{cs:List HV}{Q:HV→ab→Prop}(hb:X b=some (.obj cs))(hf:kh b cs args jt)
   (h:Spec P ν g jt (X.bt b none) Q):Spec P ν g args X Q:=by
 intro n hn w K us hs hr;obtain⟨vs,T,r1,r2,r3,r4⟩:=hs.res b _ hb;have bN:=hs.lt hb
 let K2:Nat→Nat:=fun i=>if i=b then vs.size else K i
 have kb:K2 b=vs.size:=by simp[K2]
 have kn:∀i,i≠b→K2 i=K i:=fun i hi=>by simp[K2,hi]
 have hg:Grow w K w K2:=⟨fun i=>by
   by_cases hi:i=b
   · subst hi;rw[r2];exact Nat.zero_le _
   · rw[kn i hi];exact Nat.le_refl _,fun _ _ _=>rfl,fun _ _=>rfl⟩
 have Ju:yl ν K2 w b cs:=⟨vs.toList.take cs.length,bl (bQ r1) _,r3.grow hg,by rw[kb,List.length_take];simp;omega,r4⟩
 have hs2:dS ν w K2 (X.bt b none):=⟨fun i q hi=>by
   by_cases yo:i=b
   · subst yo;rw[ab.aB] at hi;cases hi
   · rw[ab.cK _ _ yo] at hi;exact(hs.res i q hi).move hg rfl (kn i yo),fun i hi=>by rw[kn i (by omega)];exact hs.fresh i hi,hs.qD.grow hg⟩
 refine(h n hn w K2 us hs2 (kh.rep Ju hf (aC.grow hg _ hr))).mono fun e w' ⟨u,r,X',K',e1,e2,e3,e4,e5⟩=>?_;refine⟨u,r,X',K',e1,e2,e3,⟨e4.os,e4.tape,e4.output,e4.size,e4.drawn,hg.trans e4.grow,fun i hi hX=>?_⟩,e5⟩;have yo:i≠b:=by rintro rfl;rw[hX] at hb;cases hb
 obtain⟨s1,s2,s3⟩:=e4.same i hi (by rw[ab.cK _ _ yo];exact hX)
 exact⟨s1,s2.trans (kn i yo),s3⟩
theorem Spec.args{P:Program}{ν:Nat→Option Nat}{g:Nat}{args jt:List HV}{X:ab}{Q:HV→ab→Prop}(hw:bo args jt)(h:Spec P ν g jt X Q):Spec P ν g args X Q:=
 fun n hn w K us hs hr=>h n hn w K us hs (jg hw hr)
end Sm
