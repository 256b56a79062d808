/-
  Y
-/
import Derived.Test.YtegmmhldpmmkeaaGreatDoorSmLF
set_option linter.unusedVariables false
namespace Sm
open Go
def lq{α:Type}:List (Nat×α)→Nat→Option α
 | [],_=>none
 | (k,h)::r,t=>match Nat.beq k t with
   | true=>some h
   | false=>lq r t
theorem Hp{α:Type}:∀(l:List (Nat×α)),lq l=lk l
 | []=>rfl
 | (k,h)::r=>by
   funext t;simp only[lq,lk,Hp r]
   by_cases hk:k=t
   · subst hk;rw[Nat.beq_refl,if_pos rfl]
   · rw[if_neg hk];have:Nat.beq k t=false:=by
       cases hb:Nat.beq k t with
       | false=>rfl
       | true=>exact absurd (Nat.eq_of_beq_eq_true hb) hk
     rw[this]
theorem nh{α:Type}(k:Nat)(h:α)(r:List (Nat×α)):lq ((k,h)::r)=bt (lq r) k h:=by
 funext t;simp only[Hp,lk,bt]
def M(sl:List (Nat×EV))(bx:List (Nat×List HV)):Env:=⟨lq sl,lq bx⟩
theorem Ad0(sl bx):M sl bx=Env.of sl bx:=by simp only[M,Env.of,Hp]
theorem dp(d:Nat)(x:EV)(sl bx):(M sl bx).put (some d) x=M ((d,x)::sl) bx:=by simp only[M,Env.put,nh]
theorem CC(x:EV)(sl bx):(M sl bx).put none x=M sl bx:=rfl
theorem CD(k:Nat)(cs:List HV)(sl bx):(M sl bx).fI k cs=M sl ((k,cs)::bx):=by simp only[M,Env.fI,nh]
def uU:Nat→List HV→List (Nat×EV)
 | _,[]=>[]
 | i,h::r=>(i,.h h)::uU (i+1) r
theorem AF:∀(l:List HV) (i t:Nat),lk (uU i l) (i+t)=(l[t]?).map .h
 | [],i,t=>by simp[uU,lk]
 | h::r,i,0=>by simp[uU,lk]
 | h::r,i,t+1=>by
   have:=AF r (i+1) t;simp only[uU,lk,List.getElem?_cons_succ];rw[if_neg (by omega),←this]
   congr 1;omega
theorem xl(args:List HV):oG args=M (uU 0 args) []:=by
 have:lq (uU 0 args)=fun t=>(args[t]?).map .h:=by
   funext t;rw[Hp];have:=AF args 0 t
   rwa [Nat.zero_add] at this
 simp only[oG,M,this];rfl
theorem Hq(a b:Int):(a≥b)=(b≤a):=rfl
theorem Hr(a b:Int):(a > b)=(b < a):=rfl
theorem nf:(∀agg n off cs,cP agg n off cs=if off+n≤cs.length then ZB agg ((cs.drop off).take n) else none)
   ∧ (∀cs,ZB true cs=some (.ag cs))∧(∀h,ZB false [h]=some h)
   ∧ (∀(cs:List HV) off,bu cs off []=cs)∧(∀(cs:List HV) off v vs,bu cs off (v::vs)=bu (cs.set off v) (off+1) vs)
   ∧ (∀cs,(HV.ag cs).cells=cs)∧(∀x,(HV.v x).cells=[.v x])∧(∀a b c,(HV.sl a b c).cells=[.sl a b c])∧(∀cs,(HV.rp cs).cells=[.rp cs])∧(∀g cs,(HV.fn g cs).cells=[.fn g cs])
   ∧ (∀cs,(HV.ag cs).el=cs.all HV.one)∧(∀x,(HV.v x).el=x.oneCell')∧(∀a b c,(HV.sl a b c).el=true)∧(∀cs,(HV.rp cs).el=true)∧(∀g cs,(HV.fn g cs).el=true)
   ∧ (∀x,(HV.v x).one=x.oneCell')∧(∀a b c,(HV.sl a b c).one=true)∧(∀cs,(HV.rp cs).one=true)∧(∀g cs,(HV.fn g cs).one=true)
   ∧ (∀cs,(HV.ag cs).aN=cs.length)∧(∀x,(HV.v x).aN=1)∧(∀a b c,(HV.sl a b c).aN=1)∧(∀cs,(HV.rp cs).aN=1)∧(∀g cs,(HV.fn g cs).aN=1)
   ∧ (∀k n,(Value.int k n).oneCell'=true)∧(∀b,(Value.bool b).oneCell'=true)∧(∀b,(Value.string b).oneCell'=true)∧(∀a,(Value.pointer a).oneCell'=true)∧(∀a n c,(Value.slice a n c).oneCell'=true)
   ∧ (∀(a:HV) as,(a::as).length=as.length+1)∧(([]:List HV).length=0)
   ∧ (∀n (a:HV) as,(a::as).drop (n+1)=as.drop n)∧(∀as:List HV,as.drop 0=as)∧(∀n (a:HV) as,(a::as).take (n+1)=a::as.take n)∧(∀as:List HV,as.take 0=[])
   ∧ (∀(a b:HV) as,(a::as).set 0 b=b::as)∧(∀n (a b:HV) as,(a::as).set (n+1) b=a::as.set n b)
   ∧ (∀(f:HV→Bool) a as,(a::as).all f=(f a&&as.all f))∧(∀f:HV→Bool,([]:List HV).all f=true)
   ∧ (∀a b:Option HV,(if True then a else b)=a)∧(∀n,0+n=n)∧(∀n:Nat,(n≤n)=True)∧(∀b,(b&&true)=b)∧(∀b,(true&&b)=b):=by
 refine⟨fun _ _ _ _=>rfl,fun _=>rfl,fun _=>rfl,fun _ _=>by cases ‹List HV›<;>rfl,fun _ _ _ _=>rfl,fun _=>rfl,fun _=>rfl,fun _ _ _=>rfl,fun _=>rfl,fun _ _=>rfl,fun _=>rfl,fun _=>rfl,fun _ _ _=>rfl,fun _=>rfl,fun _ _=>rfl,fun _=>rfl,fun _ _ _=>rfl,fun _=>rfl,fun _ _=>rfl,fun _=>rfl,fun _=>rfl,fun _ _ _=>rfl,fun _=>rfl,fun _ _=>rfl,fun _ _=>rfl,fun _=>rfl,fun _=>rfl,fun _=>rfl,fun _ _ _=>rfl,fun _ _=>rfl,rfl,fun _ _ _=>rfl,fun _=>rfl,fun _ _ _=>rfl,fun _=>by simp,fun _ _ _=>rfl,fun _ _ _ _=>rfl,fun _ _ _=>rfl,fun _=>rfl,fun _ _=>if_pos T_,fun _=>Nat.zero_add _,fun _=>eq_true (Nat.le_refl _),fun b=>by cases b<;>rfl,fun b=>by cases b<;>rfl⟩
def BR(t:Bool)(P Q:Prop):Prop:=(t=true→P)∧(t=false→Q)
theorem sd{P Q:Prop}(h:P):BR true P Q:=⟨fun _=>h,fun h=>by cases h⟩
theorem pz{P Q:Prop}(h:Q):BR false P Q:=⟨(fun h=>by cases h),fun _=>h⟩
theorem Hs{t:Bool}{P Q:Prop}(h:t=true→P)(k:t=false→Q):BR t P Q:=⟨h,k⟩
theorem Zm{t:Bool}{P Q:Prop}(h:BR t Q P):BR (!t) P Q:=by cases t with
 | true=>exact⟨fun e=>(by cases e),fun _=>h.1 rfl⟩
 | false=>exact⟨fun _=>h.2 rfl,fun e=>(by cases e)⟩
section
variable {S:aJ} {sl:List (Nat×EV)} {bx:List (Nat×List HV)} {e:Env} {H:ab} {Q:qL→Env→ab→Prop} {K:Env→ab→Prop} {os:List aF} {d:Nat} {o:aw}
theorem ah{code:Nat→SF}(L:ai code){g np N:Nat}{res:List jZ}{body:SC}{args:List HV}{R:HV→ab→Prop}(hc:code g=⟨np,N,res,body⟩)(hn:args.length=np)
   (h:aH (Spec L.P L.ν) body (M (uU 0 args) []) H (bn res R)) (hd:body.Nb=false:=by rfl):Spec L.P L.ν g args H R:=by
 refine PI L ?_ (by rw[hc];exact hd)
 rw[hc,LI];exact⟨hn,by rw[xl];exact h⟩
theorem xQ(h:Q .normal e H):aH S .skip e H Q:=h
theorem Ht{ops:List aF}(h:aj S ops e H (aL Q)):aH S (.bL ops) e H Q:=h
theorem xR{perm:List Nat}{L:List dv}{is:List Nat}(hi:List.range L.length=is)(h:aX S L is e H (aL Q)):aH S (.bp perm L) e H Q:=by
 rw[wv,hi];exact h
theorem oN{a b:SC}(h:aH S a e H (bk S b Q)):aH S (.seq a b) e H Q:=h
theorem se{id:Nat}{b:SC}(h:aH S b e H (aA id Q)):aH S (.block id b) e H Q:=h
theorem tf{id:Nat}(h:Q (.exit id) e H):aH S (.exit id) e H Q:=h
theorem Hu(h:Q .ret e H):aH S .ret e H Q:=h
theorem uE{c:bj}{a b:SC}{t:Bool}(hc:e.hv c=some (.v (.bool t)))(h:BR t (aH S a e H Q) (aH S b e H Q)):aH S (.cond c a b) e H Q:=by
 rw[Jl,hc];exact h
theorem C0(h:Q .normal e H):aL Q e H:=h
theorem s_n{b:SC}(h:aH S b e H Q):bk S b Q .normal e H:=⟨e,H,VS.refl e H,h⟩
theorem U2{b:SC}{e1:Env}{H1:ab}(hv:VS e H e1 H1)(h:aH S b e1 H1 Q):bk S b Q .normal e H:=⟨e1,H1,hv,h⟩
theorem VZ{b:SC}{i:Nat}(h:Q (.exit i) e H):bk S b Q (.exit i) e H:=h
theorem s_r{b:SC}(h:Q .ret e H):bk S b Q .ret e H:=h
theorem U9{id:Nat}(h:Q .normal e H):aA id Q .normal e H:=h
theorem b_r{id:Nat}(h:Q .ret e H):aA id Q .ret e H:=h
theorem Wb{id:Nat}(h:Q .normal e H):aA id Q (.exit id) e H:=by rw[rl,if_pos rfl];exact h
theorem b_x{id i:Nat}(hi:Nat.beq i id=false)(h:Q (.exit i) e H):aA id Q (.exit i) e H:=by
 rw[rl,if_neg (by rintro rfl;rw[Nat.beq_refl] at hi;cases hi)];exact h
theorem OI{res:List jZ}{R:HV→ab→Prop}{hs:List HV}(hr:dM e H res=some hs)(h:bh (some hs) H R):bn res R .normal e H:=by
 exact AE (by rw[hr];exact h)
theorem f_r{res:List jZ}{R:HV→ab→Prop}{hs:List HV}(hr:dM e H res=some hs)(h:bh (some hs) H R):bn res R .ret e H:=by
 exact M4 (by rw[hr];exact h)
theorem ax(h:K e H):aj S [] e H K:=h
theorem Jo{x:EV}{KK:EV→Env→ab→Prop}(hc:o.calm=true)(hv:o.ev e H=some x)(h:KK x e H):o.step S e H KK:=by
 cases o<;>first | (simp only[aw.step,hv];exact h) | (simp only[aw.calm,Bool.false_eq_true] at hc)
theorem aG{x:EV}(hc:o.calm=true)(hv:o.ev (M sl bx) H=some x)(h:aj S os (M ((d,x)::sl) bx) H K):aj S (⟨some d,o,none⟩::os) (M sl bx) H K:=by
 rw[bf];refine Jo hc hv ?_;rw[cu,dp];exact h
def G3(b want:Bool)(P0 P1 Q0 Q1:Prop):Prop:=(b=want→P0∨P1)∧(b=!want→Q0∨Q1)
theorem Hv{P0 P1 Q0 Q1:Prop}(h:P0):G3 true true P0 P1 Q0 Q1:=⟨fun _ => .inl h,fun h=>by cases h⟩
theorem vE{P0 P1 Q0 Q1:Prop}(h:P0):G3 false false P0 P1 Q0 Q1:=⟨fun _ => .inl h,fun h=>by cases h⟩
theorem Hw{P0 P1 Q0 Q1:Prop}(h:Q0):G3 true false P0 P1 Q0 Q1:=⟨(fun h=>by cases h),fun _ => .inl h⟩
theorem Hx{P0 P1 Q0 Q1:Prop}(h:Q0):G3 false true P0 P1 Q0 Q1:=⟨(fun h=>by cases h),fun _ => .inl h⟩
theorem M5{b w w':Bool}{P0 P1 Q0 Q1:Prop}(hw:(!w)=w')(h:G3 b w' P0 P1 Q0 Q1):G3 (!b) w P0 P1 Q0 Q1:=by
 subst hw;refine⟨fun e=>h.1 (by subst e;simp),fun e=>h.2 (by cases b<;>cases w<;>simp_all)⟩
theorem AcV{b:Bool}{P0 P1 Q0 Q1:Prop}(h:b=true→P1)(k:b=false→Q1):G3 b true P0 P1 Q0 Q1:=⟨fun e => .inr (h e),fun e => .inr (k e)⟩
theorem AcW{b:Bool}{P0 P1 Q0 Q1:Prop}(h:b=false→P1)(k:b=true→Q1):G3 b false P0 P1 Q0 Q1:=⟨fun e => .inr (h e),fun e => .inr (k e)⟩
theorem M6{t:Nat}{x:EV}(h:(M sl bx).get t=some x):M ((t,x)::sl) bx=M sl bx:=by
 simp only[M,nh];congr 1;funext i;simp only[bt];split;{rename_i hi;subst hi;exact h.symm};{rfl}
theorem PN{t d:Nat}{x y:EV}(h:(M sl bx).get t=some x):M ((d,y)::(t,x)::sl) bx=M ((d,y)::sl) bx:=by
 have:=M6 (bx:=bx) h;simp only[M,nh,Env.mk.injEq,and_true] at this ⊢;rw[this]
theorem lv{t:Nat}{want b w':Bool}(hg:(M sl bx).get t=some (.h (.v (.bool b))))(hw:(!want)=w')
   (h:G3 b want (aj S (⟨some d,o,none⟩::os) (M sl bx) H K) (aj S (⟨some d,o,none⟩::os) (M ((t,.h (.v (.bool want)))::sl) bx) H K)
     (aj S os (M ((d,.h .undef)::sl) bx) H K) (aj S os (M ((d,.h .undef)::(t,.h (.v (.bool w')))::sl) bx) H K)) :
   aj S (⟨some d,o,some (t,want)⟩::os) (M sl bx) H K:=by
 subst hw;rw[uC,hg];simp only[dp];refine⟨fun e=>?_,fun e=>?_⟩;{rcases h.1 e with h' | h';{subst e;rw[M6 hg];exact h'};{exact h'}};{rcases h.2 e with h' | h';{subst e;rw[PN hg];exact h'};{exact h'}}
theorem PO{k:I6}{x y:bj}{a b:HV}{t:Bool}(hx:(M sl bx).hv x=some a)(hy:(M sl bx).hv y=some b)(he:eqv k a b=some t)(h:aj S os (M ((d,.h (B t))::sl) bx) H K):aj S (⟨some d,.eq k false x y,none⟩::os) (M sl bx) H K:=
 aG rfl (by simp only[aw.ev,hx,hy,he];rfl) h
theorem zo{k:I6}{x y:bj}{a b:HV}{t t':Bool}(hx:(M sl bx).hv x=some a)(hy:(M sl bx).hv y=some b)(he:eqv k a b=some t)(ht:(!t)=t')(h:aj S os (M ((d,.h (B t'))::sl) bx) H K):aj S (⟨some d,.eq k true x y,none⟩::os) (M sl bx) H K:=
 aG rfl (by subst ht;simp only[aw.ev,hx,hy,he];rfl) h
theorem Hy{x:bj}{t t':Bool}(hx:(M sl bx).hv x=some (B t))(ht:(!t)=t')(h:aj S os (M ((d,.h (B t'))::sl) bx) H K):aj S (⟨some d,.not x,none⟩::os) (M sl bx) H K:=
 aG rfl (by subst ht;simp only[aw.ev,hx]) h
theorem Hz{op:BinOp}{x y:bj}{a b:Int}{t:Bool}(hx:(M sl bx).hv x=some (I a))(hy:(M sl bx).hv y=some (I b))(ht:ic op .i64 a .i64 b=some (B t))(h:aj S os (M ((d,.h (B t))::sl) bx) H K):aj S (⟨some d,.int op x y,none⟩::os) (M sl bx) H K:=
 aG rfl (by simp only[aw.ev,hx,hy,ht,Option.map_some]) h
theorem pA{t:Nat}{want:Bool}{vs:Array Value}(hg:(M sl bx).get t=some (.h (.v (.tuple vs))))(h:aj S os (M ((d,.h .undef)::sl) bx) H K) :
   aj S (⟨some d,o,some (t,want)⟩::os) (M sl bx) H K:=by
 rw[uC,hg];simp only[dp];exact h
theorem vO{agg:Bool}{n b off:Nat}{a:bj}{cs:List HV}{v:HV}(ha:e.fg a=some (.h (.v (.pointer (some ⟨b,off,none⟩)))))(hH:H b=some (.obj cs))(hv:cP agg n off cs=some v):(aw.load agg n a).ev e H=some (.h v):=by
 simp only[aw.ev,ha,hH,hv,Option.map_some]
theorem bz{agg:Bool}{n b off:Nat}{a:bj}{cs:List HV}{v:HV}(ha:(M sl bx).fg a=some (.h (.v (.pointer (some ⟨b,off,none⟩)))))(hH:H b=some (.obj cs))(hv:cP agg n off cs=some v)
   (h:aj S os (M ((d,.h v)::sl) bx) H K):aj S (⟨some d,.load agg n a,none⟩::os) (M sl bx) H K:=aG rfl (vO ha hH hv) h
theorem M7{agg:Bool}{n k off:Nat}{a:bj}{cs:List HV}{v:HV}(ha:e.fg a=some (.lp k off))(hH:e.box k=some cs)(hv:cP agg n off cs=some v):(aw.load agg n a).ev e H=some (.h v):=by
 simp only[aw.ev,ha,hH,hv,Option.map_some]
theorem PQ{agg:Bool}{n:Nat}{a:bj}{cs:List HV}{v:HV}(ha:e.fg a=some (.h (.rp cs)))(hv:cP agg n 0 cs=some v):(aw.load agg n a).ev e H=some (.h v):=by
 simp only[aw.ev,ha,hv,Option.map_some]
theorem ay{agg:Bool}{n k off:Nat}{a:bj}{cs:List HV}{v:HV}(ha:(M sl bx).fg a=some (.lp k off))(hH:(M sl bx).box k=some cs)(hv:cP agg n off cs=some v)
   (h:aj S os (M ((d,.h v)::sl) bx) H K):aj S (⟨some d,.load agg n a,none⟩::os) (M sl bx) H K:=aG rfl (M7 ha hH hv) h
theorem ed{agg:Bool}{n:Nat}{a:bj}{cs:List HV}{v:HV}(ha:(M sl bx).fg a=some (.h (.rp cs)))(hv:cP agg n 0 cs=some v)
   (h:aj S os (M ((d,.h v)::sl) bx) H K):aj S (⟨some d,.load agg n a,none⟩::os) (M sl bx) H K:=aG rfl (PQ ha hv) h
theorem Zn{sz:Nat}{x i:bj}{tk:Tk}{es:List HV}{k:IntKind}{j:Nat}{z:Int}{h0:HV}{cs:List HV}(hx:e.hv x=some (.sl tk sz es))(hi:e.hv i=some (.v (.int k z)))(hz:z=(j:Int))(hj:es[j]? = some h0)(hc:h0.cells=cs) :
   (aw.idx sz x i).ev e H=some (.h (.rp cs)):=by
 subst hz;simp only[aw.ev,hx,hi,Int.toNat_natCast,hj,Option.map_some,hc];rw[if_pos ⟨trivial,Int.natCast_nonneg j⟩]
theorem eK{sz:Nat}{x i:bj}{tk:Tk}{es:List HV}{k:IntKind}{j:Nat}{z:Int}{h0:HV}{cs:List HV}(hx:(M sl bx).hv x=some (.sl tk sz es))(hi:(M sl bx).hv i=some (.v (.int k z)))(hz:z=(j:Int))(hj:es[j]? = some h0)(hc:h0.cells=cs)
   (h:aj S os (M ((d,.h (.rp cs))::sl) bx) H K):aj S (⟨some d,.idx sz x i,none⟩::os) (M sl bx) H K:=aG rfl (Zn hx hi hz hj hc) h
theorem Zo{x:bj}{tk:Tk}{sz:Nat}{es:List HV}{n:Nat}(hx:e.hv x=some (.sl tk sz es))(hn:es.length=n):(aw.len x).ev e H=some (.h (I n)):=by
 subst hn;simp only[aw.ev,hx]
theorem HA{x:bj}{tk:Tk}{sz:Nat}{es:List HV}{n:Nat}(hx:(M sl bx).hv x=some (.sl tk sz es))(hn:es.length=n)(h:aj S os (M ((d,.h (I n))::sl) bx) H K) :
   aj S (⟨some d,.len x,none⟩::os) (M sl bx) H K:=aG rfl (Zo hx hn) h
theorem PR{x y:bj}{a b:Int}(hx:e.hv x=some (I a))(hy:e.hv y=some (I b))(hb:-9223372036854775808≤a+b∧a+b≤9223372036854775807):(aw.int .add x y).ev e H=some (.h (I (a+b))):=by
 simp only[aw.ev,hx,hy,ic,if_true,Option.map_some,eb hb.1 hb.2]
theorem PS{x y:bj}{a b:Int}(hx:e.hv x=some (I a))(hy:e.hv y=some (I b))(hb:-9223372036854775808≤a - b∧a - b≤9223372036854775807):(aw.int .sub x y).ev e H=some (.h (I (a - b))):=by
 simp only[aw.ev,hx,hy,ic,if_true,Option.map_some,eb hb.1 hb.2]
theorem PT{x y:bj}{a b:Int}(hx:e.hv x=some (I a))(hy:e.hv y=some (I b))(hb:-9223372036854775808≤a*b∧a*b≤9223372036854775807):(aw.int .mul x y).ev e H=some (.h (I (a*b))):=by
 simp only[aw.ev,hx,hy,ic,if_true,Option.map_some,eb hb.1 hb.2]
theorem HB{x y:bj}{a b:Int}(hx:(M sl bx).hv x=some (I a))(hy:(M sl bx).hv y=some (I b))(hb:-9223372036854775808≤a+b∧a+b≤9223372036854775807)
   (h:aj S os (M ((d,.h (I (a+b)))::sl) bx) H K):aj S (⟨some d,.int .add x y,none⟩::os) (M sl bx) H K:=aG rfl (PR hx hy hb) h
theorem HC{x y:bj}{a b:Int}(hx:(M sl bx).hv x=some (I a))(hy:(M sl bx).hv y=some (I b))(hb:-9223372036854775808≤a - b∧a - b≤9223372036854775807)
   (h:aj S os (M ((d,.h (I (a - b)))::sl) bx) H K):aj S (⟨some d,.int .sub x y,none⟩::os) (M sl bx) H K:=aG rfl (PS hx hy hb) h
theorem HD{x y:bj}{a b:Int}(hx:(M sl bx).hv x=some (I a))(hy:(M sl bx).hv y=some (I b))(hb:-9223372036854775808≤a*b∧a*b≤9223372036854775807)
   (h:aj S os (M ((d,.h (I (a*b)))::sl) bx) H K):aj S (⟨some d,.int .mul x y,none⟩::os) (M sl bx) H K:=aG rfl (PT hx hy hb) h
theorem xS{x:bj}{k:IntKind}{a:Int}(hx:(M sl bx).hv x=some (.v (.int k a)))(hb:-9223372036854775808≤a∧a≤9223372036854775807)(h:aj S os (M ((d,.h (I a))::sl) bx) H K):aj S (⟨some d,.conv .i64 x,none⟩::os) (M sl bx) H K:=
 aG rfl (by simp only[aw.ev,hx,eb hb.1 hb.2]) h
theorem HE{x y:bj}{a b:Int}(hx:(M sl bx).hv x=some (I a))(hy:(M sl bx).hv y=some (I b))(hb:0≤a∧0 < b)(h:aj S os (M ((d,.h (I (a % b)))::sl) bx) H K):aj S (⟨some d,.int .rem x y,none⟩::os) (M sl bx) H K:=
 aG rfl (by
   simp only[aw.ev,hx,hy,ic];rw[if_pos ⟨trivial,by omega⟩,Int.tmod_eq_emod_of_nonneg hb.1,Option.map_some]) h
theorem HF{x y:bj}{a b:Int}(hx:(M sl bx).hv x=some (I a))(hy:(M sl bx).hv y=some (I b))(h:aj S os (M ((d,.h (I (max a b)))::sl) bx) H K):aj S (⟨some d,.mm true x y,none⟩::os) (M sl bx) H K:=by
 have e:(if b > a then b else a)=max a b:=by rw[Int.max_def];split<;>split<;>omega
 exact aG rfl (by simp only[aw.ev,hx,hy,if_true,e]) h
theorem HG{x y:bj}{a b:Int}(hx:(M sl bx).hv x=some (I a))(hy:(M sl bx).hv y=some (I b))(h:aj S os (M ((d,.h (I (min a b)))::sl) bx) H K):aj S (⟨some d,.mm false x y,none⟩::os) (M sl bx) H K:=by
 have e:(if b < a then b else a)=min a b:=by rw[Int.min_def];split<;>split<;>omega
 exact aG rfl (by simp only[aw.ev,hx,hy,if_true,if_false,Bool.false_eq_true,e]) h
theorem sg{k:Nat}{cs:List HV}(hk:(M sl bx).box k=none)(h:aj S os (M ((d,.lp k 0)::sl) ((k,cs)::bx)) H K):aj S (⟨some d,.alloc (some k) cs,none⟩::os) (M sl bx) H K:=by
 rw[bf];refine⟨hk,?_⟩;rw[cu,CD,dp];exact h
theorem oI{cs:List HV}(h:∀b,H b=none→aj S os (M ((d,.h (ptr b))::sl) bx) (H.bt b (some (.obj cs))) K):aj S (⟨some d,.alloc none cs,none⟩::os) (M sl bx) H K:=by
 rw[bf];intro b hb;rw[cu,dp];exact h b hb
theorem ep{k n:Nat}{x:bj}{v:HV}{cs:List HV}(hx:(M sl bx).hv x=some v)(hc:v.cells=cs)(h1:v.aN=n)(h2:v.el=true)(hk:(M sl bx).box k=none)(h:aj S os (M ((d,.lp k 0)::sl) ((k,cs)::bx)) H K):aj S (⟨some d,.box (some k) n x,none⟩::os) (M sl bx) H K:=by
 rw[bf];simp only[aw.step,hx];refine⟨h1,h2,hk,?_⟩;rw[cu,CD,dp,hc];exact h
theorem Zp{n:Nat}{x:bj}{v:HV}{cs:List HV}(hx:(M sl bx).hv x=some v)(hc:v.cells=cs)(h1:v.aN=n)(h2:v.el=true)(h:∀b,H b=none→aj S os (M ((d,.h (ptr b))::sl) bx) (H.bt b (some (.obj cs))) K):aj S (⟨some d,.box none n x,none⟩::os) (M sl bx) H K:=by
 rw[bf];simp only[aw.step,hx];refine⟨h1,h2,fun b hb=>?_⟩;rw[cu,dp,hc];exact h b hb
theorem kU{n:Nat}{x:bj}{v:HV}{cs:List HV}(hx:(M sl bx).hv x=some v)(hc:v.cells=cs)(h1:v.aN=n)(h2:v.el=true)(h:∀b X,H b=none→X b=some (.obj cs)→Fr [] H X→H.sub X→aj S os (M ((d,.h (ptr b))::sl) bx) X K):aj S (⟨some d,.box none n x,none⟩::os) (M sl bx) H K:=
 Zp hx hc h1 h2 fun b hb=>h b _ hb (ab.aB _ _ _) (Fr.new hb) (ab.PJ hb)
theorem mq{sz:Nat}{ps:List bj}{hs:List HV}(hp:(M sl bx).cJ ps=some hs)(h1:hs.all HV.el=true)(h2:hs.all (fun h=>Nat.beq h.aN sz)=true)(h:aj S os (M ((d,.h (.sl .full sz hs))::sl) bx) H K):aj S (⟨some d,.aO sz ps,none⟩::os) (M sl bx) H K:=by
 rw[bf];simp only[aw.step,hp];refine⟨h1,fun x hx=>Nat.eq_of_beq_eq_true (List.all_eq_true.mp h2 x hx),?_⟩;rw[cu,dp];exact h
theorem bS{n k off:Nat}{a x:bj}{v:HV}{cs bI:List HV}(hx:(M sl bx).hv x=some v)(h1:v.aN=n)(h2:v.el=true)(ha:(M sl bx).fg a=some (.lp k off))(hk:(M sl bx).box k=some cs)(hl:Nat.ble (off+n) cs.length=true)(hc:bu cs off v.cells=bI)
   (h:aj S os (M sl ((k,bI)::bx)) H K):aj S (⟨none,.store n a x,none⟩::os) (M sl bx) H K:=by
 rw[bf];simp only[aw.step,hx,ha,hk];refine⟨h1,h2,Nat.le_of_ble_eq_true hl,?_⟩;rw[cu,CD,CC,hc];exact h
theorem tG{n b off:Nat}{a x:bj}{v:HV}{cs bI:List HV}(hx:(M sl bx).hv x=some v)(h1:v.aN=n)(h2:v.el=true)(ha:(M sl bx).fg a=some (.h (.v (.pointer (some ⟨b,off,none⟩)))))(hk:H b=some (.obj cs))(hl:Nat.ble (off+n) cs.length=true)(hc:bu cs off v.cells=bI)
   (h:aj S os (M sl bx) (H.bt b (some (.obj bI))) K):aj S (⟨none,.store n a x,none⟩::os) (M sl bx) H K:=by
 rw[bf];simp only[aw.step,hx,ha,hk];refine⟨h1,h2,Nat.le_of_ble_eq_true hl,?_⟩;rw[cu,CC,hc];exact h
theorem bH{n b off:Nat}{a x:bj}{v:HV}{cs bI:List HV}(hx:(M sl bx).hv x=some v)(h1:v.aN=n)(h2:v.el=true)(ha:(M sl bx).fg a=some (.h (.v (.pointer (some ⟨b,off,none⟩)))))(hk:H b=some (.obj cs))(hl:Nat.ble (off+n) cs.length=true)(hc:bu cs off v.cells=bI)
   (h:∀X,X b=some (.obj bI)→Fr [b] H X→aj S os (M sl bx) X K):aj S (⟨none,.store n a x,none⟩::os) (M sl bx) H K:=
 tG hx h1 h2 ha hk hl hc (h _ (ab.aB _ _ _) (Fr.set (by simp)))
theorem af{g:Nat}{args:List bj}{hs:List HV}(ha:(M sl bx).cJ args=some hs)(h:S g hs H fun r H'=>aj S os (M ((d,.h r)::sl) bx) H' K):aj S (⟨some d,.call g args,none⟩::os) (M sl bx) H K:=by
 rw[bf];simp only[aw.step,ha];have:(fun(h:HV) (H':ab)=>rK S os K (some d) (EV.h h) (M sl bx) H')=fun r H'=>aj S os (M ((d,.h r)::sl) bx) H' K:=by
   funext r H';rw[cu,dp]
 rw[this];exact h
theorem oP{x:bj}{g:Nat}{cq:List HV}{args:List bj}{hs:List HV}(hx:(M sl bx).hv x=some (.fn g cq))(ha:(M sl bx).cJ args=some hs)(h:S g (hs++cq) H fun r H'=>aj S os (M ((d,.h r)::sl) bx) H' K):aj S (⟨some d,.er x args,none⟩::os) (M sl bx) H K:=by
 rw[bf];simp only[aw.step,hx,ha];have:(fun(h:HV) (H':ab)=>rK S os K (some d) (EV.h h) (M sl bx) H')=fun r H'=>aj S os (M ((d,.h r)::sl) bx) H' K:=by
   funext r H';rw[cu,dp]
 rw[this];exact h
theorem PU{x:bj}{g:Nat}{r0:HV}{args:List bj}{hs:List HV}(hx:(M sl bx).hv x=some (.fm g r0))(ha:(M sl bx).cJ args=some hs)(h:S g (r0::hs) H fun r H'=>aj S os (M ((d,.h r)::sl) bx) H' K):aj S (⟨some d,.er x args,none⟩::os) (M sl bx) H K:=by
 rw[bf];simp only[aw.step,hx,ha];have:(fun(h:HV) (H':ab)=>rK S os K (some d) (EV.h h) (M sl bx) H')=fun r H'=>aj S os (M ((d,.h r)::sl) bx) H' K:=by
   funext r H';rw[cu,dp]
 rw[this];exact h
theorem vk{sz bytes:Nat}{x y:bj}{tk yA:Tk}{xs ys:List HV}(hx:(M sl bx).hv x=some (.sl tk sz xs))(hy:(M sl bx).hv y=some (.sl yA sz ys))(ht:Tok H tk xs.length sz)
   (hb:(xs.length+ys.length)*bytes≤140737488355328)
   (hk:∀fC H',Tok H' fC (xs.length+ys.length) sz→Jx H H' tk fC→aj S os (M ((d,.h (.sl fC sz (xs++ys)))::sl) bx) H' K):aj S (⟨some d,.app sz bytes x y,none⟩::os) (M sl bx) H K:=by
 rw[bf];refine PK hx hy ht hb fun fC H' h1 h2=>?_;rw[cu,dp];exact hk fC H' h1 h2
theorem Ko{sz bytes:Nat}{x y:bj}{yA:Tk}{ys:List HV}(hx:(M sl bx).hv x=some (.v (.slice none 0 0)))(hy:(M sl bx).hv y=some (.sl yA sz ys))
   (hb:ys.length*bytes≤140737488355328)
   (pU:ys=[]→aj S os (M ((d,.h (.v (.slice none 0 0)))::sl) bx) H K)
   (hk:∀fC H',ys≠[]→Tok H' fC ys.length sz→Jx H H' .full fC→aj S os (M ((d,.h (.sl fC sz ys))::sl) bx) H' K):aj S (⟨some d,.app sz bytes x y,none⟩::os) (M sl bx) H K:=by
 rw[bf];refine PL hx hy hb (fun h0=>?_) fun fC H' h1 h2 h3=>?_;{rw[cu,dp];exact pU h0};{rw[cu,dp];exact hk fC H' h1 h2 h3}
theorem sR{L:List dv}(h:K e H):aX S L [] e H K:=h
def DK(S:aJ)(L:List dv)(rc is:List Nat)(K:Env→ab→Prop):Env→ab→Prop:=fun e H=>yk L rc e H∧aX S L is e H K
theorem xT{L:List dv}{i:Nat}{is:List Nat}{o:aF}{rc:List Nat}(hi:L[i]! = ⟨o,rc⟩)(h:aj S [o] e H (DK S L rc is K)):aX S L (i::is) e H K:=by
 rw[wu,hi];exact h
theorem uF(hS:fF S){L:List dv}(hL:L.all (fun x=>x.rc.isEmpty)=true):∀(is:List Nat) (e:Env) (H:ab),(∀i∈is,i < L.length)→aj S (is.map fun i=>(L[i]!).o) e H K→aX S L is e H K
 | [],e,H,_,h=>h
 | i::is,e,H,hi,h=>by
   have QA:(L[i]!).rc=[]:=by
     have bN:=hi i (by simp)
     have:=List.all_eq_true.mp hL L[i] (List.getElem_mem bN);rw[getElem!_pos L i bN];simpa using this
   rw[wu];have hm:∀(e':Env) (H':ab),aj S (is.map fun i=>(L[i]!).o) e' H' K→yk L (L[i]!).rc e' H'∧aX S L is e' H' K:=
     fun e' H' h'=>⟨by rw[QA];trivial,uF hS hL is e' H' (fun j hj=>hi j (by simp[hj])) h'⟩
   refine dT hS (K:=fun e' H'=>aj S (is.map fun i=>(L[i]!).o) e' H' K) (fun e' H' h'=>hm e' H' h') _ _ _ ?_;exact h
theorem Jp{L:List dv}:(List.range L.length).map (fun i=>(L[i]!).o)=L.map (·.o):=by
 apply List.ext_getElem;{simp}
 · intro i h1 h2;have:i < L.length:=by simpa using h2
   simp[this]
theorem pB(hS:fF S){perm:List Nat}{L:List dv}{ops:List aF}(hL:L.all (fun x=>x.rc.isEmpty)=true)(ho:L.map (·.o)=ops)(h:aj S ops e H (aL Q)):aH S (.bp perm L) e H Q:=by
 rw[wv];refine uF hS hL _ e H (fun i hi=>List.mem_range.mp hi) ?_;rw[Jp,ho];exact h
theorem oc{L:List dv}{is:List Nat}(h:aX S L is e H K):DK S L [] is K e H:=⟨trivial,h⟩
theorem ee{L:List dv}{z:Nat}{rc is:List Nat}{o:aF}{r:List Nat}(hi:L[z]! = ⟨o,r⟩)(h1:AZ o e H)(h:DK S L rc is K e H):DK S L (z::rc) is K e H:=⟨⟨by rw[hi];exact h1,h.1⟩,h.2⟩
theorem AG{d:Nat}{o:aw}{x:EV}(h:o.ev e H=some x)(hg:e.get d=some x):AZ ⟨some d,o,none⟩ e H:=h.trans hg.symm
theorem tU{d t:Nat}{w:Bool}{o:aw}{x:EV}(h:o.ev e H=some x)(hg:e.get d=some x):AZ ⟨some d,o,some (t,w)⟩ e H:=fun _=>h.trans hg.symm
theorem bw{JE:List (Nat×EV)}{JF:List (Nat×List HV)}(h1:Ni JE e)(h2:leB JF e)(h3:uQ JF JE):(M JE JF).le e:=by rw[Ad0];exact AcU h1 h2 h3
theorem Hg:Ni [] e:=trivial
theorem xP{t:Nat}{x x':EV}{r:List (Nat×EV)}(h:e.get t=some x')(hx:x'=x)(k:Ni r e):Ni ((t,x)::r) e:=⟨⟨x',h,.inl hx⟩,k⟩
theorem Lj{t:Nat}{x x':HV}{r:List (Nat×EV)}(h:e.get t=some (.h x'))(hx:an x' x)(k:Ni r e):Ni ((t,.h x)::r) e:=⟨⟨.h x',h,.inr hx⟩,k⟩
theorem rY:leB [] e:=trivial
theorem BQ{t:Nat}{x x':List HV}{r:List (Nat×List HV)}(h:e.box t=some x')(hx:x'=x)(k:leB r e):leB ((t,x)::r) e:=⟨⟨x',h,.inl hx⟩,k⟩
theorem Qz{t:Nat}{x x':List HV}{r:List (Nat×List HV)}(h:e.box t=some x')(hx:bo x' x)(h1:x.all HV.one=true)(k:leB r e):leB ((t,x)::r) e:=⟨⟨x',h,.inr ⟨hx,h1⟩⟩,k⟩
theorem CE{ι:Type}(hS:fF S){b:SC}(E:ι→List (Nat×EV))(F:ι→List (Nat×List HV))(J:ι→ab→Prop)(μ:ι→Nat)(i0:ι)(h0:(M (E i0) (F i0)).le e)(hJ:J i0 H)
   (round:∀i H,J i H→aH S b (M (E i) (F i)) H fun ex e' H'=>match ex with
     | .normal=>∃j,μ j < μ i∧(M (E j) (F j)).le e'∧J j H'
     | ex=>Q ex e' H'):aH S (.loop b) e H Q:=
 Jm hS (fun i=>M (E i) (F i)) J μ i0 h0 hJ round
def RK{ι:Type}(E:ι→List (Nat×EV))(F:ι→List (Nat×List HV))(J:ι→ab→Prop)(μ:ι→Nat)(i:ι)(Q:qL→Env→ab→Prop):qL→Env→ab→Prop:=fun ex e' H'=>match ex with
     | .normal=>∃j,μ j < μ i∧(M (E j) (F j)).le e'∧J j H'
     | ex=>Q ex e' H'
theorem aV{ι:Type}(hS:fF S){b:SC}(E:ι→List (Nat×EV))(F:ι→List (Nat×List HV))(J:ι→ab→Prop)(μ:ι→Nat)(i0:ι)(h0:(M (E i0) (F i0)).le e)(hJ:J i0 H)
   (round:∀i H,J i H→aH S b (M (E i) (F i)) H (RK E F J μ i Q)):aH S (.loop b) e H Q:=CE hS E F J μ i0 h0 hJ round
theorem dG{ι:Type}{E:ι→List (Nat×EV)}{F:ι→List (Nat×List HV)}{J:ι→ab→Prop}{μ:ι→Nat}{i:ι}(j:ι)(hm:μ j < μ i)(hJ:J j H)(hl:(M (E j) (F j)).le e):RK E F J μ i Q .normal e H:=⟨j,hm,hl,hJ⟩
theorem V9{ι:Type}{E:ι→List (Nat×EV)}{F:ι→List (Nat×List HV)}{J:ι→ab→Prop}{μ:ι→Nat}{i:ι}{x:Nat}(h:Q (.exit x) e H):RK E F J μ i Q (.exit x) e H:=h
theorem k_r{ι:Type}{E:ι→List (Nat×EV)}{F:ι→List (Nat×List HV)}{J:ι→ab→Prop}{μ:ι→Nat}{i:ι}(h:Q .ret e H):RK E F J μ i Q .ret e H:=h
def JK{ι:Type}(E:ι→List (Nat×EV))(F:ι→List (Nat×List HV))(J:ι→ab→Prop)(Q:qL→Env→ab→Prop):qL→Env→ab→Prop:=fun ex e' H'=>match ex with
     | .normal=>∃j,(M (E j) (F j)).le e'∧J j H'
     | ex=>Q ex e' H'
theorem fS{ι:Type}(hS:fF S){a b:SC}(E:ι→List (Nat×EV))(F:ι→List (Nat×List HV))(J:ι→ab→Prop)(h1:aH S a e H (JK E F J Q))(h2:∀i H,J i H→aH S b (M (E i) (F i)) H Q):aH S (.seq a b) e H Q:=by
 rw[Al];refine lK (fun _ _ _ _ h=>h) hS a ?_ h1;intro ex e' H' hk;cases ex;{obtain⟨j,g1,g2⟩:=hk;exact⟨_,H',VS.le g1,h2 j H' g2⟩};{exact hk};{exact hk}
theorem lU{ι:Type}{E:ι→List (Nat×EV)}{F:ι→List (Nat×List HV)}{J:ι→ab→Prop}(j:ι)(hJ:J j H)(hl:(M (E j) (F j)).le e):JK E F J Q .normal e H:=⟨j,hl,hJ⟩
theorem j_e{ι:Type}{E:ι→List (Nat×EV)}{F:ι→List (Nat×List HV)}{J:ι→ab→Prop}{x:Nat}(h:Q (.exit x) e H):JK E F J Q (.exit x) e H:=h
theorem j_r{ι:Type}{E:ι→List (Nat×EV)}{F:ι→List (Nat×List HV)}{J:ι→ab→Prop}(h:Q .ret e H):JK E F J Q .ret e H:=h
theorem rQ{x:bj}{tk:Tk}{sz:Nat}{es:List HV}(hx:(M sl bx).hv x=some (.sl tk sz es))(h:∀t:Bool,(t=true→es=[])→aj S os (M ((d,.h (B t))::sl) bx) H K):aj S (⟨some d,.nd (.ka false) [x],none⟩::os) (M sl bx) H K:=by
 rw[bf];have hh:(M sl bx).cJ [x]=some [.sl tk sz es]:=by simp[Env.cJ,hx]
 simp only[aw.step,hh,rv];intro t ht;rw[cu,dp];exact h t ht
theorem pC{ne:Bool}{x:bj}{n c:Nat}{b:Bool}(hx:(M sl bx).hv x=some (.v (.slice none n c)))(hb:(!ne)=b)(h:aj S os (M ((d,.h (B b))::sl) bx) H K):aj S (⟨some d,.nd (.ka ne) [x],none⟩::os) (M sl bx) H K:=by
 rw[bf];have hh:(M sl bx).cJ [x]=some [.v (.slice none n c)]:=by simp[Env.cJ,hx]
 simp only[aw.step,hh,rv];rw[cu,dp,hb];exact h
end
end Sm
