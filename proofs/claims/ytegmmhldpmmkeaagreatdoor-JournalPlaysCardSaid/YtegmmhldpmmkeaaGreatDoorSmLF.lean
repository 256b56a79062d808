/-
  X,X2,S
-/
import Derived.Test.YtegmmhldpmmkeaaGreatDoorSmLE
import Derived.IntWalk
set_option linter.unusedVariables false
set_option linter.unusedSimpArgs false
set_option linter.unnecessarySimpa false
namespace Sm
open Go
theorem an.refl(h:HV):an h h:=fun _ _ _ _ h=>h
theorem an.trans{a b c:HV}(h:an a b)(k:an b c):an a c:=fun ν K w u x=>k ν K w u (h ν K w u x)
theorem an.nil(sz:Nat):an (.v (.slice none 0 0)) (.sl .full sz []):=by
 intro ν K w u hr;simp only[rep] at hr ⊢;exact⟨none,0,[],hr,by simp,by simp,rfl,rfl,by simp,by simp[aC],by simp⟩
theorem an.drop(tk:Tk)(sz:Nat)(es:List HV):an (.sl tk sz es) (.sl .no sz es):=by
 intro ν K w u hr;simp only[rep] at hr ⊢;obtain⟨A,cap,aR,h1,h2,h3,h4,h5⟩:=hr;exact⟨A,cap,aR,h1,h2,h3,T_,h5⟩
theorem an.dO(sz:Nat):an (.v (.slice none 0 0)) (.sl .no sz []):=(an.nil sz).trans (an.drop _ _ _)
theorem bo.refl:∀(l:List HV),bo l l
 | []=>trivial
 | a::l=>⟨an.refl a,bo.refl l⟩
theorem an.ag{as bs:List HV}(h:bo as bs)(h1:bs.all HV.one=true):an (.ag as) (.ag bs):=by
 intro ν K w u hr;simp only[rep] at hr ⊢;obtain⟨us,g1,g2,g3⟩:=hr;exact⟨us,g1,h1,jg h g3⟩
theorem an.tu{as bs:List HV}(h:bo as bs):an (.tu as) (.tu bs):=by
 intro ν K w u hr;simp only[rep] at hr ⊢;obtain⟨us,g1,g3⟩:=hr;exact⟨us,g1,jg h g3⟩
theorem ab.ui(H:ab):H.sub H:=fun _ r h=>⟨r,h,.inl rfl⟩
theorem ab.aB(H:ab)(b:Nat)(r:Option rq):(H.bt b r) b=r:=by simp[ab.bt]
theorem ab.cK(H:ab){a b:Nat}(r:Option rq)(h:a≠b):(H.bt b r) a=H a:=by simp[ab.bt,h]
theorem ab.PJ{H:ab}{b:Nat}{r:Option rq}(h:H b=none):H.sub (H.bt b r):=by
 intro a x ha;refine⟨x,?_,.inl rfl⟩;have:a≠b:=by rintro rfl;rw[h] at ha;cases ha
 simp[ab.bt,this,ha]
theorem eb{n:Int}(h0:-9223372036854775808≤n)(h1:n≤9223372036854775807):IntKind.i64.wrap n=n:=IntWalk.i64_in n ⟨h0,h1⟩
def SLe(S S':aJ):Prop:=∀g args H K,S g args H K→S' g args H K
theorem M0{S S':aJ}(h:SLe S S'){o:aw}{e:Env}{H:ab}{K:EV→Env→ab→Prop}(hs:o.step S e H K):o.step S' e H K:=by
 cases o
 case call g args =>
   simp only[aw.step] at hs ⊢;split at hs;{exact h _ _ _ _ hs};{exact hs.elim}
 case er x args =>
   simp only[aw.step] at hs ⊢;split at hs;{exact h _ _ _ _ hs};{exact h _ _ _ _ hs};{exact hs.elim}
 all_goals exact hs
theorem Hm{S S':aJ}(h:SLe S S')(hS:fF S'){o:aF}{e:Env}{H:ab}{K K':Env→ab→Prop}(hK:∀e H,K e H→K' e H)(hs:dm S o e H K):dm S' o e H K':=by
 refine dT hS hK _ _ _ ?_;unfold dm at hs ⊢;split at hs;{exact M0 h hs};{split at hs;{exact⟨fun hb=>M0 h (hs.1 hb),hs.2⟩};{exact hs};{exact hs.elim}}
theorem M1{S S':aJ}(h:SLe S S')(hS:fF S'){K K':Env→ab→Prop}(hK:∀e H,K e H→K' e H):∀{os:List aF} {e:Env} {H:ab},aj S os e H K→aj S' os e H K'
 | [],e,H,hs=>hK _ _ hs
 | o::os,e,H,hs=>Hm h hS (fun e H hk=>M1 h hS hK hk) hs
theorem M3{S S':aJ}(h:SLe S S')(hS:fF S'){L:List dv}{K K':Env→ab→Prop}(hK:∀e H,K e H→K' e H):∀{is:List Nat} {e:Env} {H:ab},aX S L is e H K→aX S' L is e H K'
 | [],e,H,hs=>hK _ _ hs
 | i::is,e,H,hs=>Hm h hS (fun e H hk=>⟨hk.1,M3 h hS hK hk.2⟩) hs
theorem lK{S S':aJ}(h:SLe S S')(hS:fF S'):∀(s:SC) {e:Env} {H:ab} {Q Q':qL→Env→ab→Prop},(∀ex e H,Q ex e H→Q' ex e H)→aH S s e H Q→aH S' s e H Q'
 | .skip,e,H,Q,Q',hQ,hs=>hQ _ _ _ hs
 | .bL ops,e,H,Q,Q',hQ,hs=>M1 h hS (fun e H=>hQ _ _ _) hs
 | .bp perm L,e,H,Q,Q',hQ,hs=>M3 h hS (fun e H=>hQ _ _ _) hs
 | .seq a b,e,H,Q,Q',hQ,hs=>by
   simp only[aH] at hs ⊢;refine lK h hS a ?_ hs;intro ex e H hk;cases ex;{obtain⟨e1,H1,h1,h3⟩:=hk;exact⟨e1,H1,h1,lK h hS b hQ h3⟩};{exact hQ _ _ _ hk};{exact hQ _ _ _ hk}
 | .cond c a b,e,H,Q,Q',hQ,hs=>by
   simp only[aH] at hs ⊢;split at hs;{exact⟨fun ht=>lK h hS a hQ (hs.1 ht),fun ht=>lK h hS b hQ (hs.2 ht)⟩};{exact hs.elim}
 | .block id b,e,H,Q,Q',hQ,hs=>by
   simp only[aH] at hs ⊢;refine lK h hS b ?_ hs;intro ex e H hk;cases ex;{exact hQ _ _ _ hk};{simp only at hk ⊢;split at hk;{rename_i hi;rw[if_pos hi];exact hQ _ _ _ hk};{rename_i hi;rw[if_neg hi];exact hQ _ _ _ hk}};{exact hQ _ _ _ hk}
 | .loop b,e,H,Q,Q',hQ,hs=>by
   simp only[aH] at hs ⊢;obtain⟨I,h0,hr⟩:=hs;refine⟨I,h0,fun n e H hI=>lK h hS b ?_ (hr n e H hI)⟩;intro ex e H hk;cases ex;{exact hk};{exact hQ _ _ _ hk};{exact hQ _ _ _ hk}
 | .exit id,e,H,Q,Q',hQ,hs=>hQ _ _ _ hs
 | .ret,e,H,Q,Q',hQ,hs=>hQ _ _ _ hs
 | .P7 ..,e,H,Q,Q',hQ,hs=>hs.elim
theorem ak{code:Nat→SF}(L:ai code):fF (Spec L.P L.ν):=fun _ _ _ _ _ h h'=>mY h h'
section
variable {S:aJ} {e:Env} {H:ab} {Q:qL→Env→ab→Prop}
def bk(S:aJ)(b:SC)(Q:qL→Env→ab→Prop):qL→Env→ab→Prop:=fun ex e' H'=>match ex with
   | .normal=>∃e1 H1,VS e' H' e1 H1∧aH S b e1 H1 Q
   | ex=>Q ex e' H'
def aA(id:Nat)(Q:qL→Env→ab→Prop):qL→Env→ab→Prop:=fun ex e' H'=>match ex with
   | .exit i=>if i=id then Q .normal e' H' else Q (.exit i) e' H'
   | ex=>Q ex e' H'
def aL(Q:qL→Env→ab→Prop):Env→ab→Prop:=Q .normal
def rK(S:aJ)(os:List aF)(K:Env→ab→Prop)(dst:Option Nat):EV→Env→ab→Prop:=fun x e' H'=>aj S os (e'.put dst x) H' K
def dK(S:aJ)(L:List dv)(rc is:List Nat)(K:Env→ab→Prop):Env→ab→Prop:=fun e' H'=>yk L rc e' H'∧aX S L is e' H' K
theorem rl{id i:Nat}:aA id Q (.exit i) e H=if i=id then Q .normal e H else Q (.exit i) e H:=rfl
theorem cu{os:List aF}{K:Env→ab→Prop}{dst:Option Nat}{x:EV}:rK S os K dst x e H=aj S os (e.put dst x) H K:=rfl
theorem bf{dst:Option Nat}{op:aw}{os:List aF}{K:Env→ab→Prop}:aj S (⟨dst,op,none⟩::os) e H K=op.step S e H (rK S os K dst):=rfl
theorem uC{dst:Option Nat}{op:aw}{t:Nat}{want:Bool}{os:List aF}{K:Env→ab→Prop}:aj S (⟨dst,op,some (t,want)⟩::os) e H K=match e.get t with
     | some (.h (.v (.bool b)))=>(b=want→op.step S (e.put (some t) (.h (.v (.bool want)))) H (rK S os K dst))∧(b=!want→aj S os ((e.put (some t) (.h (.v (.bool (!want))))).put dst (.h .undef)) H K)
     | some (.h (.v (.tuple _)))=>aj S os (e.put dst (.h .undef)) H K
     | _=>False:=rfl
theorem wu{L:List dv}{i:Nat}{is:List Nat}{K:Env→ab→Prop}:aX S L (i::is) e H K=dm S (L[i]!).o e H (dK S L (L[i]!).rc is K):=rfl
theorem wv{perm:List Nat}{L:List dv}:aH S (.bp perm L) e H Q=aX S L (List.range L.length) e H (aL Q):=rfl
theorem Al{a b:SC}:aH S (.seq a b) e H Q=aH S a e H (bk S b Q):=rfl
theorem Jl{c:bj}{a b:SC}:aH S (.cond c a b) e H Q=match e.hv c with
   | some (.v (.bool t))=>(t=true→aH S a e H Q)∧(t=false→aH S b e H Q)
   | _=>False:=rfl
def bn(res:List jZ)(Q:HV→ab→Prop):qL→Env→ab→Prop:=fun ex e H'=>(ex = .normal∨ex = .ret) ∧
   ∃e1 H1,VS e H' e1 H1∧match dM e1 H1 res with
   | some hs=>∃h' uI,an (eQ hs) h'∧uI.sub H1∧Q h' uI
   | none=>False
theorem LI{f:SF}{args:List HV}{Q:HV→ab→Prop}:f.P9 S args H Q=(args.length=f.np∧aH S f.body (oG args) H (bn f.res Q)):=rfl
def bh(hs:Option (List HV))(H':ab)(Q:HV→ab→Prop):Prop:=match hs with
   | some hs=>∃h' uI,an (eQ hs) h'∧uI.sub H'∧Q h' uI
   | none=>False
theorem AE{f:List jZ}{Q:HV→ab→Prop}(h:bh (dM e H f) H Q):bn f Q .normal e H:=⟨.inl rfl,e,H,VS.refl e H,h⟩
theorem M4{f:List jZ}{Q:HV→ab→Prop}(h:bh (dM e H f) H Q):bn f Q .ret e H:=⟨.inr rfl,e,H,VS.refl e H,h⟩
theorem aa{hs:List HV}{Q:HV→ab→Prop}(h:Q (eQ hs) H):bh (some hs) H Q:=⟨_,H,an.refl _,ab.ui H,h⟩
theorem b7{hs:List HV}{Q:HV→ab→Prop}{h':HV}(hw:an (eQ hs) h')(h:Q h' H):bh (some hs) H Q:=⟨_,H,hw,ab.ui H,h⟩
theorem sW{hs:List HV}{Q:HV→ab→Prop}{h':HV}{H':ab}(hw:an (eQ hs) h')(eP:H'.sub H)(h:Q h' H'):bh (some hs) H Q:=⟨_,H',hw,eP,h⟩
theorem Jm{ι:Type}(hS:fF S){b:SC}(E:ι→Env)(J:ι→ab→Prop)(μ:ι→Nat)(i0:ι)(h0:(E i0).le e)(hJ:J i0 H)
   (round:∀i H,J i H→aH S b (E i) H fun ex e' H'=>match ex with
     | .normal=>∃j,μ j < μ i∧(E j).le e'∧J j H'
     | ex=>Q ex e' H'):aH S (.loop b) e H Q:=by
 simp only[aH];refine⟨fun n e H=>∃i,μ i=n∧e=E i∧J i H,⟨_,E i0,H,VS.le h0,i0,rfl,rfl,hJ⟩,?_⟩;rintro n e H ⟨i,rfl,rfl,hi⟩;have hr:=round i H hi;have:∀(ex:qL) (e':Env) (H':ab),(match ex with
     | .normal=>∃j,μ j < μ i∧(E j).le e'∧J j H'
     | ex=>Q ex e' H')→(match ex with
     | .normal=>∃m e1 H1,m < μ i∧VS e' H' e1 H1∧∃i,μ i=m∧e1=E i∧J i H1
     | ex=>Q ex e' H'):=by
   intro ex e' H' h;cases ex with
   | normal =>
     obtain⟨j,h1,h2,h3⟩:=h;exact⟨_,E j,H',h1,VS.le h2,j,rfl,rfl,h3⟩
   | exit k=>exact h
   | ret=>exact h
 exact lK (fun _ _ _ _ h=>h) hS b this hr
def Ni:List (Nat×EV)→Env→Prop
 | [],_=>True
 | (t,x)::r,e=>(∃x',e.get t=some x'∧(x'=x∨CQ x' x))∧Ni r e
def leB:List (Nat×List HV)→Env→Prop
 | [],_=>True
 | (k,cs)::r,e=>(∃bI,e.box k=some bI∧(bI=cs∨bo bI cs∧cs.all HV.one=true))∧leB r e
def uQ(bx:List (Nat×List HV)):List (Nat×EV)→Prop
 | []=>True
 | (_,.lp k _)::r=>(lk bx k).isSome=true∧uQ bx r
 | (_,.h _)::r=>uQ bx r
theorem Hn:∀{l:List (Nat×EV)} {e:Env},Ni l e→∀t x,lk l t=some x→∃x',e.get t=some x'∧(x'=x∨CQ x' x)
 | [],e,_,t,x,h=>by simp[lk] at h
 | (k,y)::r,e,hl,t,x,h=>by
   simp only[lk] at h;split at h;{rename_i hk;subst hk;simp only[Option.some.injEq] at h;subst h;exact hl.1};{exact Hn hl.2 t x h}
theorem Ho:∀{l:List (Nat×List HV)} {e:Env},leB l e→∀t x,lk l t=some x→∃x',e.box t=some x'∧(x'=x∨bo x' x∧x.all HV.one=true)
 | [],e,_,t,x,h=>by simp[lk] at h
 | (k,y)::r,e,hl,t,x,h=>by
   simp only[lk] at h;split at h;{rename_i hk;subst hk;simp only[Option.some.injEq] at h;subst h;exact hl.1};{exact Ho hl.2 t x h}
theorem uD{bx:List (Nat×List HV)}:∀{l:List (Nat×EV)},uQ bx l→∀t k o,lk l t=some (.lp k o)→(lk bx k).isSome=true
 | [],_,t,k,o,h=>by simp[lk] at h
 | (s,.lp k' o')::r,hl,t,k,o,h=>by
   simp only[lk] at h;split at h;{simp only[Option.some.injEq,EV.lp.injEq] at h;obtain⟨rfl,_⟩:=h;exact hl.1};{exact uD hl.2 t k o h}
 | (s,.h y)::r,hl,t,k,o,h=>by
   simp only[lk] at h;split at h;{simp at h};{exact uD (l:=r) hl t k o h}
theorem AcU{l:List (Nat×EV)}{bx:List (Nat×List HV)}(h1:Ni l e)(h2:leB bx e)(h3:uQ bx l):(Env.of l bx).le e:=
 ⟨Hn h1,Ho h2,uD h3⟩
end
abbrev I(n:Int):HV:=.v (.int .i64 n)
abbrev B(b:Bool):HV:=.v (.bool b)
abbrev ptr(b:Nat):HV:=.v (.pointer (some ⟨b,0,none⟩))
def Tok(H:ab)(tk:Tk)(n sz:Nat):Prop:=
 match tk with
 | .full=>True
 | .lR b c=>H b=some (.lR (n*sz) (c*sz))
 | .no=>False
def Fr(bs:List Nat)(H H':ab):Prop:=∀a r,a∉bs→H a=some r→H' a=some r
theorem Fr.get{bs:List Nat}{H H':ab}(h:Fr bs H H'){a:Nat}{r:rq}(ha:a∉bs)(hr:H a=some r):H' a=some r:=h a r ha hr
theorem Fr.refl(bs:List Nat)(H:ab):Fr bs H H:=fun _ _ _ h=>h
theorem Fr.trans{bs:List Nat}{H1 H2 H3:ab}(h:Fr bs H1 H2)(k:Fr bs H2 H3):Fr bs H1 H3:=fun a r ha hr=>k a r ha (h a r ha hr)
theorem Fr.mono{bs cs:List Nat}{H H':ab}(h:Fr bs H H')(hs:∀a∈bs,a∈cs):Fr cs H H':=fun a r ha hr=>h a r (fun hb=>ha (hs a hb)) hr
theorem Fr.new{bs:List Nat}{H:ab}{b:Nat}{r:Option rq}(h:H b=none):Fr bs H (H.bt b r):=by
 intro a x _ ha;have:a≠b:=by rintro rfl;rw[h] at ha;cases ha
 simp[ab.bt,this,ha]
theorem Fr.set{bs:List Nat}{H:ab}{b:Nat}{r:Option rq}(h:b∈bs):Fr bs H (H.bt b r):=by
 intro a x AO ha;have:a≠b:=by rintro rfl;exact AO h
 simp[ab.bt,this,ha]
theorem Tok.fr{bs:List Nat}{H H':ab}{tk:Tk}{n sz:Nat}(h:Tok H tk n sz)(hf:Fr bs H H')(hb:∀b c,tk = .lR b c→b∉bs):Tok H' tk n sz:=by
 cases tk with
 | no=>exact h
 | full=>trivial
 | lR b c=>exact hf b _ (hb b c rfl) h
theorem Tok.ne{H:ab}{b c n sz a:Nat}{cs:List HV}(h:Tok H (.lR b c) n sz)(ha:H a=some (.obj cs)):b≠a:=by
 rintro rfl;simp only[Tok] at h;rw[h] at ha;cases ha
def tb:Tk→List Nat
 | .lR b _=>[b]
 | _=>[]
theorem Tok.fr'{bs:List Nat}{H H':ab}{tk:Tk}{n sz:Nat}(h:Tok H tk n sz)(hf:Fr bs H H')(hb:∀b∈tb tk,b∉bs):Tok H' tk n sz:=
 h.fr hf fun b c e=>hb b (by subst e;simp[tb])
theorem Tok.ne'{H:ab}{tk:Tk}{n sz a:Nat}{cs:List HV}(h:Tok H tk n sz)(ha:H a=some (.obj cs)):∀b∈tb tk,b≠a:=by
 cases tk with
 | lR b c=>intro x hx;simp only[tb,List.mem_cons,List.not_mem_nil,or_false] at hx;subst hx;exact h.ne ha
 | no=>simp[tb]
 | full=>simp[tb]
theorem Tok.held{H:ab}{tk:Tk}{n sz:Nat}(h:Tok H tk n sz):∀b∈tb tk,∃r,H b=some r:=by
 cases tk with
 | lR b c=>intro x hx;simp only[tb,List.mem_cons,List.not_mem_nil,or_false] at hx;subst hx;exact⟨_,h⟩
 | no=>simp[tb]
 | full=>simp[tb]
structure Jx (H H':ab) (tk fC:Tk):Prop where
 fr:Fr (tb tk) H H'
 nw:∀a∈tb fC,a∈tb tk∨H a=none
theorem Jx.refl(H:ab)(tk:Tk):Jx H H tk tk:=⟨Fr.refl _ _,fun a h => .inl h⟩
def jQ(H0:ab)(tk:Tk):Prop:=∀a∈tb tk,H0 a=none
theorem jQ.Ia{H0 H H':ab}{tk fC:Tk}(hf:Fr [] H0 H)(h:jQ H0 tk)(ha:Jx H H' tk fC):jQ H0 fC:=by
 intro a hm;rcases ha.nw a hm with h1 | h1;{exact h a h1}
 · cases hx:H0 a with
   | none=>rfl
   | some r=>rw[hf a r (by simp) hx] at h1;cases h1
theorem Fr.Ia{H0 H H':ab}{tk fC:Tk}{bs:List Nat}(hf:Fr bs H0 H)(h:jQ H0 tk)(ha:Jx H H' tk fC):Fr bs H0 H':=by
 intro a r hn hr;refine ha.fr a r (fun hm=>?_) (hf a r hn hr);rw[h a hm] at hr;cases hr
def Ad2(t1 t2:Tk):Prop:=∀a∈tb t1,a∉tb t2
theorem PK{S:aJ}{sz bytes:Nat}{x y:bj}{e:Env}{H:ab}{K:EV→Env→ab→Prop}{tk:Tk}{xs ys:List HV}{yA:Tk}(hx:e.hv x=some (.sl tk sz xs))(hy:e.hv y=some (.sl yA sz ys))(ht:Tok H tk xs.length sz)
   (hb:(xs.length+ys.length)*bytes≤140737488355328)
   (hk:∀fC H',Tok H' fC (xs.length+ys.length) sz→Jx H H' tk fC→K (.h (.sl fC sz (xs++ys))) e H'):(aw.app sz bytes x y).step S e H K:=by
 refine .inl ?_;simp only[hx,hy,Option.bind_some,rdv];cases tk with
 | no=>exact ht.elim
 | full =>
   refine⟨rfl,fun _=>rfl,fun qT=>?_,fun _=>⟨hb,fun b c rF=>hk _ _ (by simp[Tok,ab.bt]) ⟨Fr.new rF,?_⟩⟩⟩
   · subst qT;simpa using hk .full H T_ (Jx.refl _ _)
   · intro a ha;simp only[tb,List.mem_cons,List.not_mem_nil,or_false] at ha;subst ha;exact .inr rF
 | lR b c =>
   refine⟨rfl,fun _=>rfl,ht,hb,fun b' c' QL=>hk _ _ (by simp[Tok,ab.bt]) ⟨?_,?_⟩⟩
   · have Wa:b∈tb (.lR b c):=by simp[tb]
     refine(Fr.set (r:=Option.none) Wa).trans ?_;rcases QL with rfl | QL;{exact Fr.set Wa};{refine Fr.new ?_;simp only[ab.bt];split;{rfl};{exact QL}}
   · intro a ha;simp only[tb,List.mem_cons,List.not_mem_nil,or_false] at ha ⊢;subst ha;exact QL
theorem PL{S:aJ}{sz bytes:Nat}{x y:bj}{e:Env}{H:ab}{K:EV→Env→ab→Prop}{ys:List HV}{yA:Tk}(hx:e.hv x=some (.v (.slice none 0 0)))(hy:e.hv y=some (.sl yA sz ys))
   (hb:ys.length*bytes≤140737488355328)
   (pU:ys=[]→K (.h (.v (.slice none 0 0))) e H)
   (hk:∀fC H',ys≠[]→Tok H' fC ys.length sz→Jx H H' .full fC→K (.h (.sl fC sz ys)) e H'):(aw.app sz bytes x y).step S e H K:=by
 refine .inl ?_;simp only[hx,hy,Option.bind_some,rdv];refine⟨by simp,pU,fun qT=>⟨hb,fun b c rF=>hk _ _ qT (by simp[Tok,ab.bt]) ⟨Fr.new rF,?_⟩⟩⟩
 intro a ha;simp only[tb,List.mem_cons,List.not_mem_nil,or_false] at ha;subst ha;exact .inr rF
structure Gv (b:Nat) (H H':ab) (tk fC:Tk):Prop where
 fr:Fr (b::tb tk) H H'
 nw:∀a∈tb fC,a∈tb tk∨H a=none
theorem Gv.refl(b:Nat)(H:ab)(tk:Tk):Gv b H H tk tk:=⟨Fr.refl _ _,fun a h => .inl h⟩
theorem Gv.trans{b:Nat}{H H' uI:ab}{t t' t'':Tk}{cs:List HV}(h:Gv b H H' t t')(hb:H' b=some (.obj cs))(k:Gv b H' uI t' t''):Gv b H uI t t'':=by
 refine⟨fun a r ha hr=>?_,fun a ha=>?_⟩;{refine k.fr a r (fun hm=>?_) (h.fr a r ha hr);rcases List.mem_cons.mp hm with rfl | hm;{exact ha (by simp)};{rcases h.nw a hm with h1 | h1;{exact ha (by simp[h1])};{rw[h1] at hr;cases hr}}}
 · rcases k.nw a ha with h1 | h1;{exact h.nw a h1}
   · cases hx:H a with
     | none=>exact .inr rfl
     | some r =>
       left
       by_cases hm:a∈b::tb t
       · rcases List.mem_cons.mp hm with rfl | hm;{rw[hb] at h1;cases h1};{exact hm}
       · rw[h.fr a r hm hx] at h1;cases h1
end Sm
namespace Sm
open Go
def yl(ν:Nat→Option Nat)(K:Nat→Nat)(w:World)(b:Nat)(cs:List HV):Prop:=∃us,cU w b 0 us∧aC ν K w cs us∧us.length≤K b∧cs.all HV.one=true
def FW(b:Nat)(cs:List HV)(x y:HV):Prop:=∀ν K w u,yl ν K w b cs→rep ν K w x u→rep ν K w y u
def kh(b:Nat)(cs:List HV):List HV→List HV→Prop
 | [],[]=>True
 | x::xs,y::ys=>FW b cs x y∧kh b cs xs ys
 | _,_=>False
def FE(b:Nat)(cs:List HV):EV→EV→Prop
 | .h x,.h y=>FW b cs x y
 | _,_=>False
def RF(b:Nat)(cs:List HV):rq→rq→Prop
 | .obj c0,.obj c1=>kh b cs c0 c1∧c1.all HV.one=true
 | _,_=>False
theorem kh.rep{ν K w b cs}(hf:yl ν K w b cs):∀{xs ys:List HV} {us:List Value},kh b cs xs ys→aC ν K w xs us→aC ν K w ys us
 | [],[],us,_,h=>h
 | x::xs,y::ys,us,hw,h=>by
   simp only[aC] at h ⊢;obtain⟨u,dr,h1,h2,h3⟩:=h;exact⟨u,dr,h1,hw.1 _ _ _ _ hf h2,kh.rep hf hw.2 h3⟩
 | [],_::_,_,hw,_=>hw.elim
 | _::_,[],_,hw,_=>hw.elim
theorem FW.refl(b:Nat)(cs:List HV)(x:HV):FW b cs x x:=fun _ _ _ _ _ h=>h
theorem kh.refl(b:Nat)(cs:List HV):∀xs:List HV,kh b cs xs xs
 | []=>trivial
 | x::xs=>⟨FW.refl b cs x,kh.refl b cs xs⟩
theorem FW.of{b cs x y}(h:an x y):FW b cs x y:=fun ν K w u _ hr=>h ν K w u hr
theorem FW.trans{b cs x y z}(h:FW b cs x y)(k:FW b cs y z):FW b cs x z:=fun ν K w u f hr=>k ν K w u f (h ν K w u f hr)
theorem VS.freeze{e e1:Env}{H H1:ab}{b:Nat}{cs:List HV}(hb:H b=some (.obj cs))
   (LB:∀t x,e1.get t=some x→∃y,e.get t=some y∧(y=x∨FE b cs y x))
   (OX:∀k c1,e1.box k=some c1→∃c0,e.box k=some c0∧(c0=c1∨kh b cs c0 c1∧c1.all HV.one=true))
   (z7:∀t k o,e1.get t=some (.lp k o)→(e.box k).isSome=true→(e1.box k).isSome=true)
   (hH:∀a r',H1 a=some r'→a≠b∧∃r,H a=some r∧(r=r'∨RF b cs r r')):VS e H e1 H1:=by
 rintro D ν w0 K0 H0 N a w ⟨K,μ,ao⟩;obtain⟨us,T,r1,r2,r3,r4⟩:=ao.hs.res b _ hb;have bN:=ao.hs.lt hb
 let K':Nat→Nat:=fun i=>if i=b then us.size else K i
 have kb:K' b=us.size:=by simp[K']
 have kn:∀i,i≠b→K' i=K i:=fun i hi=>by simp[K',hi]
 have hg:Grow w K w K':=⟨fun i=>by
   by_cases hi:i=b
   · subst hi;rw[r2];exact Nat.zero_le _
   · rw[kn i hi];exact Nat.le_refl _,fun _ _ _=>rfl,fun _ _=>rfl⟩
 have hf:yl ν K' w b cs:=⟨us.toList.take cs.length,bl (bQ r1) _,r3.grow hg,by rw[kb,List.length_take];simp;omega,r4⟩
 have oF:∀i,H i=none→i≠b:=fun i hi=>by rintro rfl;rw[hi] at hb;cases hb
 have hn1:∀i,H i=none→H1 i=none:=fun i hi=>by
   cases h1:H1 i with
   | none=>rfl
   | some r=>obtain⟨_,r0,h2,_⟩:=hH i r h1;rw[hi] at h2;cases h2
 refine⟨K',μ,⟨⟨fun i r' hi=>?_,fun i hi=>?_,ao.hs.qD.grow hg⟩,ao.sz,ao.df.grow hg,fun t x hx=>?_,fun k c1 hk=>?_,fun i j c c' hi hj A4=>?_,?_⟩⟩
 · obtain⟨yo,r,h2,h3⟩:=hH i r' hi;have h4:=(ao.hs.res i r h2).move hg rfl (kn i yo);rcases h3 with rfl | h3;{exact h4}
   · cases r with
     | lR _ _=>exact h3.elim
     | mp _ _=>exact h3.elim
     | it _ _ _ _=>exact h3.elim
     | obj c0 =>
       cases r' with
       | lR _ _=>exact h3.elim
       | mp _ _=>exact h3.elim
       | it _ _ _ _=>exact h3.elim
       | obj c1 =>
         obtain⟨dr,T',g1,g2,g3,g4⟩:=h4;exact⟨dr,T',g1,g2,(by have g9:=kh.rep hf h3.1 g3;have e9:=(aK g3).symm.trans (aK g9);rw[e9] at g9;exact g9),h3.2⟩
 · rw[kn i (by omega)];exact ao.hs.fresh i hi
 · obtain⟨y,h1,h2⟩:=LB t x hx;obtain⟨g1,g2⟩:=ao.slot t y h1;rcases h2 with rfl | h2
   · refine⟨g1.grow hg,?_⟩;cases y with
     | h z=>trivial
     | lp k o=>exact z7 t k o hx g2
   · cases y with
     | lp _ _=>exact h2.elim
     | h y =>
       cases x with
       | lp _ _=>exact h2.elim
       | h x=>exact⟨h2 _ _ _ _ hf (rep.grow hg y g1),T_⟩
 · obtain⟨c0,h1,h2⟩:=OX k c1 hk;obtain⟨b1,b2,dr,T',b3,b4,b5,b6⟩:=ao.box k c0 h1;refine⟨b1,hn1 _ b2,dr,T',b3,(kn _ (oF _ b2)).trans b4,?_⟩;rcases h2 with rfl | h2;{exact⟨b5.grow hg,b6⟩};{exact⟨kh.rep hf h2.1 (b5.grow hg),h2.2⟩}
 · obtain⟨d,h1,_⟩:=OX i c hi;obtain⟨d',h2,_⟩:=OX j c' hj;exact ao.inj i j _ _ h1 h2 A4
 · have hx:=ao.ext;refine⟨hx.os,hx.tape,hx.output,hx.size,hx.drawn,hx.grow.trans hg,fun i hi hi0=>?_⟩;obtain⟨s1,s2,s3⟩:=hx.same i hi hi0;exact⟨s1,(kn i (oF i s3)).trans s2,hn1 i s3⟩
theorem BL{ν K w}:∀(es:List HV) {us:List Value},es.all HV.el=true→aC ν K w (es.flatMap HV.cells) us→∃aR,aC ν K w es aR∧flat aR=us
 | [],us,_,h=>by simp[aC] at h;subst h;exact⟨[],rfl,rfl⟩
 | e::es,us,ha,h=>by
   simp only[List.all_cons,Bool.and_eq_true] at ha;rw[List.flatMap_cons] at h;have hl:=aK h;have h1:=cB e.cells.length h;have h2:=cC e.cells.length h;rw[List.take_left] at h1;rw[List.drop_left] at h2;obtain⟨aR,g1,g2⟩:=BL es ha.2 h2;have hl1:=aK h1;have key:∃u,rep ν K w e u∧u.cells.toList=us.take e.cells.length:=by
     cases e with
     | ag cs =>
       refine⟨.agg (us.take (HV.ag cs).cells.length).toArray,?_,by simp[Value.cells]⟩
       simp only[rep];exact⟨_,rfl,by simpa[HV.el] using ha.1,h1⟩
     | tu vs=>simp[HV.el,HV.one] at ha
     | v x =>
       simp only[HV.cells,aC] at h1;obtain⟨u,dr,e1,e2,e3⟩:=h1;subst e3;refine⟨u,e2,?_⟩;have:=cF ha.1 e2;have ho:=lh (by simpa[HV.el] using ha.1) e2
       cases u<;>simp_all[Value.cells,Value.oneCell',HV.cells]
     | sl tk sz es' =>
       simp only[HV.cells,aC] at h1;obtain⟨u,dr,e1,e2,e3⟩:=h1;subst e3;refine⟨u,e2,?_⟩;have ho:=lh (by simpa[HV.el] using ha.1) e2
       cases u<;>simp_all[Value.cells,Value.oneCell',HV.cells]
     | rp cs =>
       simp only[HV.cells,aC] at h1;obtain⟨u,dr,e1,e2,e3⟩:=h1;subst e3;refine⟨u,e2,?_⟩;have ho:=lh (by simpa[HV.el] using ha.1) e2
       cases u<;>simp_all[Value.cells,Value.oneCell',HV.cells]
     | fn g cq =>
       simp only[HV.cells,aC] at h1;obtain⟨u,dr,e1,e2,e3⟩:=h1;subst e3;refine⟨u,e2,?_⟩;have ho:=lh (by simpa[HV.el] using ha.1) e2
       cases u<;>simp_all[Value.cells,Value.oneCell',HV.cells]
     | fm g r =>
       simp only[HV.cells,aC] at h1;obtain⟨u,dr,e1,e2,e3⟩:=h1;subst e3;refine⟨u,e2,?_⟩;have ho:=lh (by simpa[HV.el] using ha.1) e2
       cases u<;>simp_all[Value.cells,Value.oneCell',HV.cells]
   obtain⟨u,k1,k2⟩:=key;refine⟨u::aR,⟨u,aR,rfl,k1,g1⟩,?_⟩;rw[flat,List.flatMap_cons,k2];rw[flat] at g2;rw[g2,List.take_append_drop]
theorem FW.slice{b n c sz:Nat}{cs es:List HV}(kQ:cs.take (n*sz)=es.flatMap HV.cells)(hle:n*sz≤cs.length)(hn:es.length=n)(hc:n≤c)(hm:c≤maxLen)(eB:es.all HV.el=true)(da:∀e∈es,e.aN=sz) :
   FW b cs (.v (.slice (some ⟨b,0,none⟩) n c)) (.sl .no sz es):=by
 rintro ν K w u ⟨us,f1,f2,f3,f4⟩ hr;simp only[rep] at hr;subst hr hn;have h1:=cB (es.length*sz) f2;rw[kQ] at h1;obtain⟨aR,g1,g2⟩:=BL es eB h1;have hl:=aK f2;simp only[rep];refine⟨_,c,aR,rfl,hc,hm,T_,eB,da,g1,.inr ⟨b,0,rfl,by omega,?_⟩⟩
 rw[g2];exact bl f1 _
theorem FW.ptr{b:Nat}{cs:List HV}:FW b cs (.v (.pointer (some ⟨b,0,none⟩))) (.rp cs):=by
 rintro ν K w u ⟨us,f1,f2,f3,f4⟩ hr;simp only[rep] at hr ⊢;subst hr;exact⟨b,0,us,rfl,f4,f2,by omega,f1⟩
end Sm
