/-
  A,B,C,D,E
-/
import Derived.Below
import Derived.Calls
import Derived.Tactics
import Derived.Laws.OwnMore
import Derived.Laws.Rows
import Derived.Deep.Draws
import Derived.RowKit3
import Derived.Lib.Bytealg
import Derived.Lib.Overlaps
set_option linter.unusedVariables false
set_option linter.unusedSimpArgs false
namespace Sm
theorem T_:True:=trivial
open Go
inductive Tk where
 | no | lR (b cap:Nat) | full
 deriving DecidableEq,Inhabited
inductive HV where
 | v (x:Value)
 | sl (tk:Tk) (sz:Nat) (es:List HV)
 | rp (cs:List HV)
 | fn (g:Nat) (cq:List HV)
 | fm (g:Nat) (r:HV)
 | ag (cs:List HV)
 | tu (vs:List HV)
 deriving Inhabited
def HV.one:HV→Bool
 | .v x=>x.oneCell'
 | .sl ..=>true
 | .rp _=>true
 | .fn ..=>true
 | .fm ..=>true
 | _=>false
def HV.aN:HV→Nat
 | .ag cs=>cs.length
 | _=>1
def HV.el:HV→Bool
 | .ag cs=>cs.all HV.one
 | h=>h.one
def HV.cells:HV→List HV
 | .ag cs=>cs
 | h=>[h]
def cU(w:World)(b off:Nat)(us:List Value):Prop:=∀j x,us[j]? = some x→w.cell? ⟨b,off+j,none⟩=some x
def flat(aR:List Value):List Value:=aR.flatMap fun v=>v.cells.toList
def sE(tk:Tk)(A:Option Addr)(n cap:Nat):Prop:=
 match tk with
 | .no=>True
 | .lR b c=>A=some ⟨b,0,none⟩∧cap=c
 | .full=>cap=n
def lS:Nat:=1000000
def pK(ν:Nat→Option Nat)(n g:Nat):Prop:=ν n=some g∧n < lS
mutual
def rep(ν:Nat→Option Nat)(K:Nat→Nat)(w:World):HV→Value→Prop
 | .v x,u=>u=x
 | .sl tk sz es,u=>∃A cap aR,u = .slice A es.length cap∧es.length≤cap∧cap≤maxLen∧sE tk A es.length cap ∧
     es.all HV.el=true∧(∀e∈es,e.aN=sz)∧aC ν K w es aR ∧
     (es=[]∨∃b off,A=some ⟨b,off,none⟩∧off+es.length*sz≤K b∧cU w b off (flat aR))
 | .rp cs,u=>∃b off us,u = .pointer (some ⟨b,off,none⟩)∧cs.all HV.one=true∧aC ν K w cs us∧off+us.length≤K b∧cU w b off us
 | .fn g cq,u=>∃n us,pK ν n g∧u = .func (.func n) #[] us.toArray∧aC ν K w cq us
 | .fm g r,u=>∃n u',pK ν n g∧u = .func (.func n) #[u'] #[]∧rep ν K w r u'
 | .ag cs,u=>∃us,u = .agg us.toArray∧cs.all HV.one=true∧aC ν K w cs us
 | .tu vs,u=>∃us,u = .tuple us.toArray∧aC ν K w vs us
def aC(ν:Nat→Option Nat)(K:Nat→Nat)(w:World):List HV→List Value→Prop
 | [],us=>us=[]
 | h::hs,us=>∃u dr,us=u::dr∧rep ν K w h u∧aC ν K w hs dr
end
def uh(w:World)(b:Nat):Nat:=match w.heap[b]? with
 | some (.cells cs _ _)=>cs.size
 | _=>0
theorem cS{w w':World}{b:Nat}(h:w'.heap[b]? = w.heap[b]?):uh w' b=uh w b:=by unfold uh;rw[h]
structure Grow (w:World) (K:Nat→Nat) (w':World) (K':Nat→Nat):Prop where
 le:∀b,K b≤K' b
 cell:∀b j,j < K b→w'.cell? ⟨b,j,none⟩=w.cell? ⟨b,j,none⟩
 sz:∀b,0 < K b→uh w' b=uh w b
theorem Grow.refl(w:World)(K:Nat→Nat):Grow w K w K:=⟨fun _=>Nat.le_refl _,fun _ _ _=>rfl,fun _ _=>rfl⟩
theorem Grow.trans{w K w1 K1 w2 K2}(h:Grow w K w1 K1)(k:Grow w1 K1 w2 K2):Grow w K w2 K2:=
 ⟨fun b=>Nat.le_trans (h.le b) (k.le b),fun b j hj=>(k.cell b j (Nat.lt_of_lt_of_le hj (h.le b))).trans (h.cell b j hj),fun b hb=>(k.sz b (Nat.lt_of_lt_of_le hb (h.le b))).trans (h.sz b hb)⟩
theorem cU.grow{w K w' K' b off us}(hg:Grow w K w' K')(hb:off+us.length≤K b)(h:cU w b off us):cU w' b off us:=by
 intro j x hx;have hj:j < us.length:=by
   rcases Nat.lt_or_ge j us.length with h | h;{exact h};{rw[List.getElem?_eq_none h] at hx;cases hx}
 rw[hg.cell b (off+j) (by omega)]
 exact h j x hx
theorem aK{ν K w}:∀{hs:List HV} {us:List Value},aC ν K w hs us→us.length=hs.length
 | [],us,h=>by simp[aC] at h;simp[h]
 | h::hs,us,hr=>by
   simp only[aC] at hr;obtain⟨u,dr,rfl,_,h2⟩:=hr;simp[aK h2]
theorem cF{ν K w h u}(he:h.el=true)(hr:rep ν K w h u):u.cells.size=h.aN:=by
 cases h with
 | v x =>
   simp only[rep] at hr;subst hr;cases u<;>simp[HV.el,HV.one,Value.oneCell',Value.cells,HV.aN] at *
 | sl tk sz es=>simp only[rep] at hr;obtain⟨A,cap,aR,rfl,_⟩:=hr;rfl
 | rp cs=>simp only[rep] at hr;obtain⟨b,off,us,rfl,_⟩:=hr;rfl
 | fn g cq=>simp only[rep] at hr;obtain⟨n,us,_,rfl,_⟩:=hr;rfl
 | fm g r=>simp only[rep] at hr;obtain⟨n,us,_,rfl,_⟩:=hr;rfl
 | ag cs=>simp only[rep] at hr;obtain⟨us,rfl,_,h2⟩:=hr;simp[Value.cells,HV.aN,aK h2]
 | tu vs=>simp[HV.el,HV.one] at he
theorem b9{ν K w sz}:∀{es:List HV} {aR:List Value},aC ν K w es aR→es.all HV.el=true→(∀e∈es,e.aN=sz)→(flat aR).length=es.length*sz
 | [],aR,h,_,_=>by simp[aC] at h;simp[h,flat]
 | e::es,aR,hr,ha,hs=>by
   simp only[aC] at hr;obtain⟨u,dr,rfl,h1,h2⟩:=hr;simp only[List.all_cons,Bool.and_eq_true] at ha;have ih:=b9 h2 ha.2 (fun e he=>hs e (by simp[he]))
   have h3:=cF ha.1 h1;have h4:=hs e (by simp)
   simp only[flat,List.flatMap_cons,List.length_append,Array.length_toList,h3,h4] at ih ⊢;rw[ih,List.length_cons,Nat.add_mul];omega
mutual
theorem rep.grow{ν K w K' w'}(hg:Grow w K w' K'):∀(h:HV) {u:Value},rep ν K w h u→rep ν K' w' h u
 | .v x,u,hr=>by simpa[rep] using hr
 | .sl tk sz es,u,hr=>by
   simp only[rep] at hr ⊢;obtain⟨A,cap,aR,h1,h2,h3,h4,h5,h6,h7,h8⟩:=hr;have gA:=b9 h7 h5 h6;refine⟨A,cap,aR,h1,h2,h3,h4,h5,h6,aC.grow hg es h7,?_⟩;rcases h8 with h8 | ⟨b,off,hA,hK,hc⟩;{exact .inl h8};{exact .inr ⟨b,off,hA,Nat.le_trans hK (hg.le b),hc.grow hg (by rw[gA];exact hK)⟩}
 | .rp cs,u,hr=>by
   simp only[rep] at hr ⊢;obtain⟨b,off,us,h1,h2,h3,h4,h5⟩:=hr;exact⟨b,off,us,h1,h2,aC.grow hg cs h3,Nat.le_trans h4 (hg.le b),h5.grow hg h4⟩
 | .fn g cq,u,hr=>by
   simp only[rep] at hr ⊢;obtain⟨n,us,h1,h2,h3⟩:=hr;exact⟨n,us,h1,h2,aC.grow hg cq h3⟩
 | .fm g r,u,hr=>by
   simp only[rep] at hr ⊢;obtain⟨n,u',h1,h2,h3⟩:=hr;exact⟨n,u',h1,h2,rep.grow hg r h3⟩
 | .ag cs,u,hr=>by
   simp only[rep] at hr ⊢;obtain⟨us,h1,h2,h3⟩:=hr;exact⟨us,h1,h2,aC.grow hg cs h3⟩
 | .tu vs,u,hr=>by
   simp only[rep] at hr ⊢;obtain⟨us,h1,h3⟩:=hr;exact⟨us,h1,aC.grow hg vs h3⟩
theorem aC.grow{ν K w K' w'}(hg:Grow w K w' K'):∀(hs:List HV) {us:List Value},aC ν K w hs us→aC ν K' w' hs us
 | [],us,hr=>by simpa[aC] using hr
 | h::hs,us,hr=>by
   simp only[aC] at hr ⊢;obtain⟨u,dr,h1,h2,h3⟩:=hr;exact⟨u,dr,h1,rep.grow hg h h2,aC.grow hg hs h3⟩
end
inductive rq where
 | obj (cs:List HV)
 | lR (e c:Nat)
 | mp (es:List (Value×HV×Nat)) (clock:Nat)
 | it (m:Option Nat) (since:Nat) (seen:List Nat) (last:Nat)
 deriving Inhabited
def fh(ν:Nat→Option Nat)(K:Nat→Nat)(w:World):List (Value×HV×Nat)→List MapEntry→Prop
 | [],us=>us=[]
 | e::es,us=>∃u dr,us=⟨e.1,u,e.2.2⟩::dr∧rep ν K w e.2.1 u∧fh ν K w es dr
theorem fh.grow{ν K w K' w'}(hg:Grow w K w' K'):∀(es:List (Value×HV×Nat)) {us:List MapEntry},fh ν K w es us→fh ν K' w' es us
 | [],us,h=>h
 | e::es,us,h=>by
   obtain⟨u,dr,h1,h2,h3⟩:=h;exact⟨u,dr,h1,rep.grow hg _ h2,fh.grow hg es h3⟩
abbrev ab:=Nat→Option rq
def uZ(ν:Nat→Option Nat)(K:Nat→Nat)(w:World)(b:Nat):rq→Prop
 | .obj cs=>∃us T,w.heap[b]? = some (.cells us T (0,0))∧K b=0∧aC ν K w cs (us.toList.take cs.length)∧cs.all HV.one=true
 | .lR e c=>∃us T,w.heap[b]? = some (.cells us T (0,0))∧K b=e∧e≤us.size∧c≤us.size
 | .mp es clock=>∃us:Array MapEntry,w.heap[b]? = some (.map us clock)∧K b=0∧fh ν K w es us.toList
 | .it m since seen last=>w.heap[b]? = some (.mapIter m since seen.toArray last)∧K b=0
theorem aC.full{ν K w}{cs:List HV}{us:List Value}(h:aC ν K w cs us):aC ν K w cs (us.take cs.length):=by
 rw[List.take_of_length_le (Nat.le_of_eq (aK h))];exact h
def Ac7(l:List Nat):List HV:=l.map fun n:Nat => .v (.int .u32 (n:Int))
def Ac8(l:List Nat):List HV:=l.map fun n:Nat => .v (.int .u64 (n:Int))
def gh(c:Nat):Nat:=if c % 2=1 then (c / 2) ^^^ 3988292384 else c / 2
def AX:List Nat:=(List.range 16).map fun i=>gh (gh (gh (gh i)))
def JY:List Nat:=(List.range 20).map fun i=>10 ^ i
def CP(j:Nat):List HV:=if j=0 then Ac7 AX else if j=1 then Ac8 JY else []
def yj(ν:Nat→Option Nat)(K:Nat→Nat)(w:World):Prop:=∀n j,ν (lS+n)=some (lS+j)→rep ν K w (.rp (CP j)) (.pointer (some ⟨n,0,none⟩))∧0 < K n∧uh w n=(CP j).length
theorem yj.grow{ν K w K' w'}(h:yj ν K w)(hg:Grow w K w' K'):yj ν K' w':=fun n j hn=>⟨(h n j hn).1.grow hg,Nat.lt_of_lt_of_le (h n j hn).2.1 (hg.le n),(hg.sz n (h n j hn).2.1).trans (h n j hn).2.2⟩
structure dS (ν:Nat→Option Nat) (w:World) (K:Nat→Nat) (H:ab):Prop where
 res:∀b r,H b=some r→uZ ν K w b r
 fresh:∀b,w.heap.size≤b→K b=0
 qD:yj ν K w
def quiet(ν:Nat→Option Nat):Prop:=∀n,ν n≠some 90
structure Ext (φ:Prop) (w:World) (K:Nat→Nat) (H:ab) (w':World) (K':Nat→Nat) (H':ab):Prop where
 os:w'.os=w.os
 tape:w'.tape=w.tape
 output:w'.output=w.output
 size:w.heap.size≤w'.heap.size
 drawn:φ→w.drawn≤w'.drawn
 grow:Grow w K w' K'
 same:∀b,b < w.heap.size→H b=none→w'.heap[b]? = w.heap[b]? ∧ K' b=K b∧H' b=none
theorem Ext.refl{φ:Prop}(w K H):Ext φ w K H w K H:=⟨rfl,rfl,rfl,Nat.le_refl _,fun _=>Nat.le_refl _,Grow.refl _ _,fun _ _ h=>⟨rfl,rfl,h⟩⟩
theorem Ext.trans{φ:Prop}{w K H w1 K1 H1 w2 K2 H2}(h:Ext φ w K H w1 K1 H1)(k:Ext φ w1 K1 H1 w2 K2 H2):Ext φ w K H w2 K2 H2:=
 ⟨k.os.trans h.os,k.tape.trans h.tape,k.output.trans h.output,Nat.le_trans h.size k.size,fun q=>Nat.le_trans (h.drawn q) (k.drawn q),h.grow.trans k.grow,fun b hb hH=>by
   obtain⟨a1,a2,a3⟩:=h.same b hb hH;obtain⟨b1,b2,b3⟩:=k.same b (Nat.lt_of_lt_of_le hb h.size) a3;exact⟨b1.trans a1,b2.trans a2,b3⟩⟩
theorem JZ{ν K w b r}(h:uZ ν K w b r):b < w.heap.size:=by
 have key:∀o,w.heap[b]? = some o→b < w.heap.size:=fun o ho=>by
   rcases Nat.lt_or_ge b w.heap.size with h | h;{exact h};{rw[Array.getElem?_eq_none h] at ho;cases ho}
 cases r with
 | obj cs=>obtain⟨us,T,h1,_⟩:=h;exact key _ h1
 | lR e c=>obtain⟨us,T,h1,_⟩:=h;exact key _ h1
 | mp es c=>obtain⟨us,h1,_⟩:=h;exact key _ h1
 | it m s seen l=>exact key _ h.1
theorem dS.lt{ν w K H b r}(h:dS ν w K H)(hb:H b=some r):b < w.heap.size:=JZ (h.res b r hb)
theorem dS.c9{ν w K H b}(h:dS ν w K H)(hb:w.heap.size≤b):H b=none:=by
 cases hh:H b with
 | none=>rfl
 | some r=>have:=h.lt hh;omega
inductive EV where
 | h (x:HV)
 | lp (k off:Nat)
 deriving Inhabited
inductive bj where
 | s (t:Nat)
 | c (v:Value)
 | f (g:Nat)
 | g (j:Nat)
 deriving Inhabited
def lk{α:Type}:List (Nat×α)→Nat→Option α
 | [],_=>none
 | (k,h)::r,t=>if k=t then some h else lk r t
def bt{α:Type}(f:Nat→Option α)(d:Nat)(x:α):Nat→Option α:=fun i=>if d=i then some x else f i
structure Env where
 sl:Nat→Option EV
 bx:Nat→Option (List HV)
def Env.get(e:Env)(t:Nat):Option EV:=e.sl t
def Env.box(e:Env)(k:Nat):Option (List HV):=e.bx k
def Env.put(e:Env)(d:Option Nat)(x:EV):Env:=
 match d with
 | some d=>⟨bt e.sl d x,e.bx⟩
 | none=>e
def Env.fI(e:Env)(k:Nat)(cs:List HV):Env:=⟨e.sl,bt e.bx k cs⟩
def Env.of(sl:List (Nat×EV))(bx:List (Nat×List HV)):Env:=⟨lk sl,lk bx⟩
def Env.fg(e:Env):bj→Option EV
 | .s t=>e.get t
 | .c v=>some (.h (.v v))
 | .f g=>some (.h (.fn g []))
 | .g j=>some (.h (.rp (CP j)))
def Env.hv(e:Env)(x:bj):Option HV:=
 match e.fg x with
 | some (.h h)=>some h
 | _=>none
def Env.cJ(e:Env):List bj→Option (List HV)
 | []=>some []
 | x::xs=>match e.hv x,e.cJ xs with
   | some h,some hs=>some (h::hs)
   | _,_=>none
def ab.bt(H:ab)(b:Nat)(r:Option rq):ab:=fun a=>if a=b then r else H a
def an(h h':HV):Prop:=∀ν K w u,rep ν K w h u→rep ν K w h' u
def bo:List HV→List HV→Prop
 | [],[]=>True
 | a::as,b::bs=>an a b∧bo as bs
 | _,_=>False
def CQ:EV→EV→Prop
 | .h a,.h b=>an a b
 | _,_=>False
def P4:rq→rq→Prop
 | .obj bI,.obj cs=>bo bI cs∧cs.all HV.one=true
 | _,_=>False
def ab.sub(H H':ab):Prop:=∀b r,H b=some r→∃r',H' b=some r'∧(r'=r∨P4 r' r)
def bu{α:Type}:List α→Nat→List α→List α
 | cs,_,[]=>cs
 | cs,off,v::vs=>bu (cs.set off v) (off+1) vs
def ic(op:BinOp)(k:IntKind)(a:Int)(k':IntKind)(b:Int):Option HV:=
 match op with
 | .add=>if k=k' then some (.v (.int k (k.wrap (a+b)))) else none
 | .sub=>if k=k' then some (.v (.int k (k.wrap (a - b)))) else none
 | .mul=>if k=k' then some (.v (.int k (k.wrap (a*b)))) else none
 | .quo=>if k=k'∧b≠0 then some (.v (.int k (k.wrap (a.tdiv b)))) else none
 | .rem=>if k=k'∧b≠0 then some (.v (.int k (a.tmod b))) else none
 | .and=>if k=k' then some (.v (.int k (k.wrap (BitVec.ofInt k.bits a &&& BitVec.ofInt k.bits b).toNat))) else none
 | .or=>if k=k' then some (.v (.int k (k.wrap (BitVec.ofInt k.bits a ||| BitVec.ofInt k.bits b).toNat))) else none
 | .xor=>if k=k' then some (.v (.int k (k.wrap (BitVec.ofInt k.bits a ^^^ BitVec.ofInt k.bits b).toNat))) else none
 | .andNot=>if k=k' then some (.v (.int k (k.wrap (BitVec.ofInt k.bits a &&& ~~~BitVec.ofInt k.bits b).toNat))) else none
 | .shl=>if 0≤b then some (.v (.int k (k.wrap (a*2 ^ (min b.toNat k.bits))))) else none
 | .shr=>if 0≤b then some (.v (.int k (a.fdiv (2 ^ (min b.toNat k.bits))))) else none
 | .eql=>if k=k' then some (.v (.bool (a==b))) else none
 | .neq=>if k=k' then some (.v (.bool (a != b))) else none
 | .lss=>if k=k' then some (.v (.bool (decide (a < b)))) else none
 | .leq=>if k=k' then some (.v (.bool (decide (a≤b)))) else none
 | .gtr=>if k=k' then some (.v (.bool (decide (a > b)))) else none
 | .geq=>if k=k' then some (.v (.bool (decide (a≥b)))) else none
def qJ(op:BinOp)(x y:ByteArray):Option HV:=
 match op with
 | .add=>if x.size+y.size≤9223372036854775807 then some (.v (.string (x++y))) else none
 | .eql=>some (.v (.bool (x.toList==y.toList)))
 | .neq=>some (.v (.bool (!(x.toList==y.toList))))
 | .lss=>some (.v (.bool (Op.bytesLess x.toList y.toList)))
 | .leq=>some (.v (.bool (Op.bytesLess x.toList y.toList||x.toList==y.toList)))
 | .gtr=>some (.v (.bool (!(Op.bytesLess x.toList y.toList||x.toList==y.toList))))
 | .geq=>some (.v (.bool (!(Op.bytesLess x.toList y.toList))))
 | _=>none
inductive Lf where
 | b | i | s
 deriving DecidableEq,Inhabited
def eqs(k:Lf)(x y:HV):Option Bool:=
 match k,x,y with
 | .i,.v (.int k a),.v (.int k' b)=>if k=k' then some (a==b) else none
 | .b,.v (.bool a),.v (.bool b)=>some (a==b)
 | .s,.v (.string a),.v (.string b)=>some (a==b)
 | _,_,_=>none
def nN:List Lf→List HV→List HV→Option Bool
 | [],[],[]=>some true
 | k::ks,x::xs,y::ys=>match eqs k x y,nN ks xs ys with
   | some a,some b=>some (a&&b)
   | _,_=>none
 | _,_,_=>none
inductive I6 where
 | bool | ptr | fnc | gy | ag (ks:List Lf)
 deriving DecidableEq,Inhabited
def eqv(k:I6)(x y:HV):Option Bool:=
 match k with
 | .bool=>match x,y with
   | .v (.bool a),.v (.bool b)=>some (a==b)
   | _,_=>none
 | .ag ks=>match x,y with
   | .ag xs,.ag ys=>nN ks xs ys
   | _,_=>none
 | .ptr=>match x,y with
   | .v (.pointer none),.v (.pointer b)=>some b.isNone
   | .v (.pointer (some _)),.v (.pointer none)=>some false
   | .rp _,.v (.pointer none)=>some false
   | _,_=>none
 | .fnc=>match x,y with
   | .v .nilFunc,.v .nilFunc=>some true
   | .fn _ _,.v .nilFunc=>some false
   | _,_=>none
 | .gy=>match x,y with
   | .v (.slice none _ _),.v (.slice none _ _)=>some true
   | .sl _ sz (_::_),.v (.slice none _ _)=>if sz=0 then none else some false
   | _,_=>none
inductive HZ where
 | ka (ne:Bool)
 | cap
 | AY | ZA
 | LU | J0
 deriving DecidableEq,Inhabited
def gL(b:UInt8):HV:=.v (.int .u8 b.toNat)
def bP(s:ByteArray):List HV:=s.data.toList.map gL
def gY:List HV→Option (List UInt8)
 | []=>some []
 | .v (.int .u8 n)::es=>if 0≤n∧n≤255 then (gY es).map (n.toNat.toUInt8::·) else none
 | _=>none
theorem sk:∀{es:List HV} {l:List UInt8},gY es=some l→es=bP ⟨l.toArray⟩
 | [],l,h=>by simp only[gY,Option.some.injEq] at h;subst h;rfl
 | x::es,l,h=>by
   unfold gY at h;split at h;{rename_i h1;cases h1}
   · rename_i n es' h1;cases h1;split at h
     · rename_i hn;cases hu:gY es with
       | none=>simp[hu] at h
       | some l' =>
         simp only[hu,Option.map_some,Option.some.injEq] at h;subst h;have:=sk hu;simp only[bP,List.map_cons] at this ⊢;rw[this];congr 1;simp only[gL,HV.v.injEq,Value.int.injEq,true_and];have:n.toNat.toUInt8.toNat=n.toNat:=by simp[Nat.toUInt8];omega
         rw[this];omega
     · cases h
   · cases h
theorem qK:∀l:List UInt8,gY (l.map gL)=some l
 | []=>rfl
 | b::l=>by
   have h:=b.toNat_lt;have ih:=qK l;rw[List.map_cons];unfold gY gL;simp only;rw[if_pos (by omega)]
   have e:List.map (fun b=>HV.v (Value.int IntKind.u8 ↑b.toNat)) l=l.map gL:=rfl;rw[e,ih];simp
def rv(f:HZ)(hs:List HV)(H:ab)(K:HV→Prop):Prop:=
 match f,hs with
 | .ka ne,[.v (.slice none _ _)]=>K (.v (.bool (!ne)))
 | .ka ne,[.sl _ _ es]=>∀t,(t=true→es=[])→K (.v (.bool (if ne then !t else t)))
 | .cap,[.v (.slice _ _ c)]=>K (.v (.int .i64 c))
 | .cap,[.sl _ _ es]=>∀c:Nat,es.length≤c→c≤maxLen→K (.v (.int .i64 c))
 | .AY,[.sl _ 1 es]=>∃s,es=bP s∧K (.v (.string s))
 | .AY,[.v (.slice none 0 0)]=>K (.v (.string ⟨#[]⟩))
 | .AY,[.v (.slice (some ⟨b,off,none⟩) n _)]=>match H b with
   | some (.obj cs)=>off+n≤cs.length∧∃s,(cs.drop off).take n=bP s∧K (.v (.string s))
   | _=>False
 | .LU,[.v (.string s),.v (.int .u8 c)]=>K (.v (.int .i64 (Lib.indexByte s.data.toList c.toNat.toUInt8)))
 | .J0,[.v (.string s),.v (.int .u8 c)]=>K (.v (.int .i64 (Lib.countByte s.data.toList c.toNat.toUInt8:Nat)))
 | .ZA,[.v (.string s)]=>s.size≤140737488355328∧K (.sl .no 1 (bP s))
 | _,_=>False
theorem sF{f:HZ}{hs:List HV}{H:ab}{K K':HV→Prop}(hK:∀h,K h→K' h)(h:rv f hs H K):rv f hs H K':=by
 unfold rv at h ⊢;split at h;{exact hK _ h};{exact fun t ht=>hK _ (h t ht)};{exact hK _ h};{exact fun c h1 h2=>hK _ (h c h1 h2)};{obtain⟨s,h1,h2⟩:=h;exact⟨s,h1,hK _ h2⟩};{exact hK _ h}
 · rename_i b off n _;show (match H b with
     | some (.obj cs)=>off+n≤cs.length∧∃s,(cs.drop off).take n=bP s∧K' (.v (.string s))
     | _=>False)
   revert h;split;{rintro⟨h0,s,h1,h2⟩;exact⟨h0,s,h1,hK _ h2⟩};{exact id}
 · exact hK _ h
 · exact hK _ h
 · exact⟨h.1,hK _ h.2⟩
 · exact h.elim
def ZB(agg:Bool)(cs:List HV):Option HV:=
 if agg then some (.ag cs) else match cs with
   | [h]=>some h
   | _=>none
def cP(agg:Bool)(n off:Nat)(cs:List HV):Option HV:=
 if off+n≤cs.length then ZB agg ((cs.drop off).take n) else none
inductive UH where
 | mk
 | CF (s ok agg:Bool) (zero:List HV)
 | bt (s:Bool)
 | del (s:Bool)
 | len
 | PY
 | UB
 | UD
 | IQ
 | Zv (t:Nat)
 | tas (t:Nat)
 | ka (ne:Bool)
 | mkm (g:Nat)
 | Nu (sz:Nat)
 | JT (n sz:Nat) (agg:Bool)
 deriving Inhabited
abbrev oC:=Value×HV×Nat
def M'(s:Bool):Value→Value→Option Bool
 | .string a,.string b=>if s then some (a==b) else none
 | .int k a,.int k' b=>if s then none else if k=k' then some (a==b) else none
 | _,_=>none
def l6(s:Bool)(k:Value):List oC→Nat→Option (Option (Nat×HV))
 | [],_=>some none
 | e::es,i=>match M' s k e.1 with
   | some true=>some (some (i,e.2.1))
   | some false=>l6 s k es (i+1)
   | none=>none
def isKey(s:Bool):Value→Bool
 | .string _=>s
 | .int _ _=>!s
 | _=>false
def sv(agg:Bool)(z:List HV):HV:=if agg then .ag z else z.headD (.v .nilFunc)
def Jr(ok:Bool)(h:HV)(b:Bool):HV:=if ok then .tu [h,.v (.bool b)] else h
def wA(o:Option (Option (Nat×HV)))(P:Nat×HV→Prop)(Q:Prop):Prop:=match o with
 | some (some p)=>P p
 | some none=>Q
 | none=>False
theorem pN{o:Option (Option (Nat×HV))}{P P':Nat×HV→Prop}{Q Q':Prop}(h1:∀a,P a→P' a)(h2:Q→Q')(h:wA o P Q):wA o P' Q':=by
 unfold wA at h ⊢;split at h;{exact h1 _ h};{exact h2 h};{exact h}
def fG(f:UH)(hs:List HV)(H:ab)(K:HV→ab→Prop):Prop:=
 match f,hs with
 | .mk,[]=>∀b,H b=none→K (.v (.map (some b))) (H.bt b (some (.mp [] 0)))
 | .CF s ok agg z,[.v (.map none),.v k]=>isKey s k=true∧∃h',an (Jr ok (sv agg z) false) h'∧K h' H
 | .CF s ok agg z,[.v (.map (some b)),.v k]=>isKey s k=true∧∃es c,H b=some (.mp es c)∧wA (l6 s k es 0) (fun p=>K (Jr ok p.2 true) H) (∃h',an (Jr ok (sv agg z) false) h'∧K h' H)
 | .bt s,[.v (.map (some b)),.v k,h]=>isKey s k=true∧∃es c,H b=some (.mp es c)∧wA (l6 s k es 0) (fun p=>K (.v Go.undef) (H.bt b (some (.mp (es.modify p.1 fun e=>(k,h,e.2.2)) c)))) (K (.v Go.undef) (H.bt b (some (.mp (es++[(k,h,c)]) (c+1)))))
 | .del s,[.v (.map none),.v k]=>isKey s k=true∧K (.tu []) H
 | .del s,[.v (.map (some b)),.v k]=>isKey s k=true∧∃es c,H b=some (.mp es c)∧wA (l6 s k es 0) (fun p=>K (.tu []) (H.bt b (some (.mp (es.eraseIdx p.1) c)))) (K (.tu []) (H.bt b (some (.mp es c))))
 | .len,[.v (.map none)]=>K (.v (.int .i64 0)) H
 | .len,[.v (.map (some b))]=>∃es c,H b=some (.mp es c)∧K (.v (.int .i64 es.length)) H
 | .PY,[.v (.map none)]=>∀b,H b=none→K (.v (.pointer (some ⟨b,0,none⟩))) (H.bt b (some (.it none 0 [] 0)))
 | .PY,[.v (.map (some m))]=>∃es c,H m=some (.mp es c)∧∀b,H b=none→K (.v (.pointer (some ⟨b,0,none⟩))) (H.bt b (some (.it (some m) c [] c)))
 | .UB,[.v (.pointer (some ⟨b,0,none⟩))]=>match H b with
   | some (.it none _ _ _)=>K (.tu [.v (.bool false)]) H
   | some (.it (some m) since seen last)=>∃es c,H m=some (.mp es c)∧(seen=[]∨es=[]∨∃e∈es,e.2.2 < last) ∧
       (∀e∈es,e.2.2∉seen→K (.tu [.v (.bool true),.v e.1,e.2.1]) (H.bt b (some (.it (some m) since (seen++[e.2.2]) c)))) ∧
       ((∀e∈es,e.2.2 < since→e.2.2∈seen)→K (.tu [.v (.bool false)]) H)
   | _=>False
 | .UD,[.v (.pointer (some ⟨b,0,none⟩))]=>∃m since seen n c es e,H b=some (.it (some m) since (seen++[n]) c)∧H m=some (.mp es c)∧es.find? (fun e=>e.2.2==n)=some e∧K (.tu [.v e.1,e.2.1]) H
 | .IQ,[.v (.iface t (.map (some m)))]=>∃es c,H m=some (.mp es c)∧∀b,H b=none→K (.v (.iface t (.map (some b)))) (H.bt b (some (.mp es c)))
 | .Zv t,[.v x]=>K (.v (.iface t x)) H
 | .tas t,[.v (.iface t' x)]=>t=t'∧K (.v x) H
 | .ka ne,[.v (.map m)]=>K (.v (.bool (if ne then m.isSome else m.isNone))) H
 | .mkm g,[r]=>K (.fm g r) H
 | .Nu sz,hs=>hs.all HV.el=true∧(∀h∈hs,h.aN=sz)∧K (.ag (hs.flatMap HV.cells)) H
 | .JT n sz agg,[.ag cs,.v (.int _ i)]=>0≤i∧i < n∧∃h,cP agg sz (i.toNat*sz) cs=some h∧K h H
 | _,_=>False
theorem pO{f:UH}{hs:List HV}{H:ab}{K K':HV→ab→Prop}(hK:∀h H,K h H→K' h H)(h:fG f hs H K):fG f hs H K':=by
 unfold fG at h ⊢;split at h;{exact fun b hb=>hK _ _ (h b hb)};{obtain⟨h0,h',h1,h2⟩:=h;exact⟨h0,h',h1,hK _ _ h2⟩};{obtain⟨h0,es,c,h1,h2⟩:=h;exact⟨h0,es,c,h1,pN (fun _=>hK _ _) (fun⟨h',h3,h4⟩=>⟨h',h3,hK _ _ h4⟩) h2⟩};{obtain⟨h0,es,c,h1,h2⟩:=h;exact⟨h0,es,c,h1,pN (fun _=>hK _ _) (hK _ _) h2⟩};{exact⟨h.1,hK _ _ h.2⟩};{obtain⟨h0,es,c,h1,h2⟩:=h;exact⟨h0,es,c,h1,pN (fun _=>hK _ _) (hK _ _) h2⟩};{exact hK _ _ h};{obtain⟨es,c,h1,h2⟩:=h;exact⟨es,c,h1,hK _ _ h2⟩};{exact fun b hb=>hK _ _ (h b hb)};{obtain⟨es,c,h1,h2⟩:=h;exact⟨es,c,h1,fun b hb=>hK _ _ (h2 b hb)⟩};{split at h;{exact hK _ _ h};{obtain⟨es,c,h1,h2,h3,h4⟩:=h;exact⟨es,c,h1,h2,fun e he hn=>hK _ _ (h3 e he hn),fun hn=>hK _ _ (h4 hn)⟩};{exact h.elim}};{obtain⟨m,since,seen,n,c,es,e,h1,h2,h3,h4⟩:=h;exact⟨m,since,seen,n,c,es,e,h1,h2,h3,hK _ _ h4⟩};{obtain⟨es,c,h1,h2⟩:=h;exact⟨es,c,h1,fun b hb=>hK _ _ (h2 b hb)⟩};{exact hK _ _ h};{exact⟨h.1,hK _ _ h.2⟩};{exact hK _ _ h};{exact hK _ _ h};{exact⟨h.1,h.2.1,hK _ _ h.2.2⟩};{obtain⟨h1,h2,x,h3,h4⟩:=h;exact⟨h1,h2,x,h3,hK _ _ h4⟩};{exact h.elim}
inductive Zz where
 | m (f:UH)
 | UI (sz bytes:Nat) (zero:List HV)
 | copy (sz:Nat)
 | clear (sz:Nat) (zero:List HV)
 | ovl (sz:Nat)
 | bsl (sz:Nat)
 | HU (sz bytes:Nat) (zero:List HV)
 | mark
 deriving Inhabited
def mW(H:ab)(sz:Nat):HV→Option (Nat×List HV)
 | .sl _ iB es=>if iB=sz then some (es.length,es.flatMap HV.cells) else none
 | .v (.slice none 0 0)=>some (0,[])
 | .v (.slice (some ⟨b,off,none⟩) n _)=>match H b with
   | some (.obj cs)=>if off+n*sz≤cs.length then some (n,(cs.drop off).take (n*sz)) else none
   | _=>none
 | .v (.string s)=>if sz=1 then some (s.size,bP s) else none
 | _=>none
def iC(H:ab)(sz bytes n:Nat)(cs:List HV)(K:HV→ab→Prop):Prop:=
 n*bytes≤140737488355328∧∀b c zs,H b=none→n≤c→c≤maxLen→zs.length=(c - n)*sz→zs.all HV.one=true →
   K (.v (.slice (some ⟨b,0,none⟩) n c)) (H.bt b (some (.obj (cs++zs))))
def nW(sz bytes:Nat)(x y:HV)(H:ab)(K:HV→ab→Prop):Prop:=
 match mW H sz y with
 | none=>False
 | some (m,ys)=>match x with
   | .v (.slice none 0 0)=>(m=0→K x H)∧(m≠0→iC H sz bytes m ys K)
   | .sl .full iB xs=>iB=sz∧(m=0→K x H)∧(m≠0→iC H sz bytes (xs.length+m) (xs.flatMap HV.cells++ys) K)
   | .v (.slice (some ⟨b,off,none⟩) n c)=>∃cs,H b=some (.obj cs)∧n≤c∧off+c*sz≤cs.length ∧
       (n+m≤c→K (.v (.slice (some ⟨b,off,none⟩) (n+m) c)) (H.bt b (some (.obj (bu cs (off+n*sz) ys))))) ∧
       (c < n+m→iC H sz bytes (n+m) ((cs.drop off).take (n*sz)++ys) K)
   | _=>False
def iX(f:Zz)(hs:List HV)(H:ab)(K:HV→ab→Prop):Prop:=
 match f,hs with
 | .UI sz bytes zero,[.v (.int .i64 l),.v (.int .i64 c)]=>0≤l∧l≤c∧c*bytes≤140737488355328∧zero.length=sz ∧
     ∀b,H b=none→K (.v (.slice (some ⟨b,0,none⟩) l.toNat c.toNat)) (H.bt b (some (.obj (List.replicate c.toNat zero).flatten)))
 | .copy sz,[.v (.slice (some ⟨b,off,none⟩) n _),y]=>match mW H sz y,H b with
   | some (m,ys),some (.obj cs)=>off+n*sz≤cs.length∧K (.v (.int .i64 (min m n:Nat))) (H.bt b (some (.obj (bu cs off (ys.take (min m n*sz))))))
   | _,_=>False
 | .clear sz zero,[.v (.slice (some ⟨b,off,none⟩) n _)]=>match H b with
   | some (.obj cs)=>off+n*sz≤cs.length∧zero.length=sz∧K (.tu []) (H.bt b (some (.obj (bu cs off (List.replicate n zero).flatten))))
   | _=>False
 | .clear _ _,[.v (.slice none 0 0)]=>K (.tu []) H
 | .ovl sz,[.sl _ iB es,.v (.slice (some ⟨b,_,none⟩) _ _)]=>es≠[]∧iB=sz∧0 < sz∧(∃cs,H b=some (.obj cs))∧K (.v (.bool false)) H
 | .HU sz bytes zero,[.v (.slice none 0 0),.v (.int .i64 k)]=>0 < k∧zero.length=sz∧iC H sz bytes k.toNat (List.replicate k.toNat zero).flatten K
 | .HU sz bytes zero,[.v (.slice (some ⟨b,off,none⟩) n c),.v (.int .i64 k)]=>match H b with
   | some (.obj cs)=>0 < k∧c < n+k.toNat∧n≤c∧off+n*sz≤cs.length∧zero.length=sz∧iC H sz bytes (n+k.toNat) ((cs.drop off).take (n*sz)++(List.replicate k.toNat zero).flatten) K
   | _=>False
 | .bsl sz,hs=>hs.all HV.el=true∧(∀h∈hs,h.aN=sz)∧∀b,H b=none→K (.v (.slice (some ⟨b,0,none⟩) hs.length hs.length)) (H.bt b (some (.obj (hs.flatMap HV.cells))))
 | .mark,[.v (.slice (some ⟨b,0,none⟩) n c)]=>∃cs,H b=some (.obj cs)∧cs.length=n∧n≤c∧c≤maxLen∧K (.sl .no 1 cs) (H.bt b none)
 | .m f,hs=>fG f hs H K
 | _,_=>False
theorem ie{H:ab}{sz bytes n:Nat}{cs:List HV}{K K':HV→ab→Prop}(hK:∀h H,K h H→K' h H)(h:iC H sz bytes n cs K):iC H sz bytes n cs K':=
 ⟨h.1,fun b c zs h1 h2 h3 h4 h5=>hK _ _ (h.2 b c zs h1 h2 h3 h4 h5)⟩
theorem pP{sz bytes:Nat}{x y:HV}{H:ab}{K K':HV→ab→Prop}(hK:∀h H,K h H→K' h H)(h:nW sz bytes x y H K):nW sz bytes x y H K':=by
 unfold nW at h ⊢;split at h;{exact h.elim};{split at h;{exact⟨fun hm=>hK _ _ (h.1 hm),fun hm=>ie hK (h.2 hm)⟩};{exact⟨h.1,fun hm=>hK _ _ (h.2.1 hm),fun hm=>ie hK (h.2.2 hm)⟩};{obtain⟨cs,h1,h2,h3,h4,h5⟩:=h;exact⟨cs,h1,h2,h3,fun hm=>hK _ _ (h4 hm),fun hm=>ie hK (h5 hm)⟩};{exact h.elim}}
theorem pQ{f:Zz}{hs:List HV}{H:ab}{K K':HV→ab→Prop}(hK:∀h H,K h H→K' h H)(h:iX f hs H K):iX f hs H K':=by
 unfold iX at h ⊢;split at h;{exact⟨h.1,h.2.1,h.2.2.1,h.2.2.2.1,fun b hb=>hK _ _ (h.2.2.2.2 b hb)⟩};{split at h;{exact⟨h.1,hK _ _ h.2⟩};{exact h.elim}};{split at h;{exact⟨h.1,h.2.1,hK _ _ h.2.2⟩};{exact h.elim}};{exact hK _ _ h};{exact⟨h.1,h.2.1,h.2.2.1,h.2.2.2.1,hK _ _ h.2.2.2.2⟩};{exact⟨h.1,h.2.1,ie hK h.2.2⟩};{split at h;{exact⟨h.1,h.2.1,h.2.2.1,h.2.2.2.1,h.2.2.2.2.1,ie hK h.2.2.2.2.2⟩};{exact h.elim}};{exact⟨h.1,h.2.1,fun b hb=>hK _ _ (h.2.2 b hb)⟩};{obtain⟨cs,h1,h2,h3,h4,h5⟩:=h;exact⟨cs,h1,h2,h3,h4,hK _ _ h5⟩};{exact pO hK h};{exact h.elim}
inductive aw where
 | mv (x:bj)
 | pick (c a b:bj)
 | int (op:BinOp) (x y:bj)
 | str (op:BinOp) (x y:bj)
 | eq (k:I6) (ne:Bool) (x y:bj)
 | not (x:bj)
 | neg (x:bj)
 | conv (k:IntKind) (x:bj)
 | sG (x:bj)
 | JN (x:bj)
 | alloc (loc:Option Nat) (cs:List HV)
 | box (loc:Option Nat) (n:Nat) (x:bj)
 | build (zero:List HV) (ps:List (Nat×Nat×bj))
 | aO (sz:Nat) (ps:List bj)
 | load (agg:Bool) (n:Nat) (x:bj)
 | store (n:Nat) (a x:bj)
 | gw (x:bj)
 | dZ (off:Nat) (x:bj)
 | field (agg:Bool) (off n:Nat) (x:bj)
 | idx (sz:Nat) (x i:bj)
 | sH (len sz:Nat) (x i:bj)
 | jr (x i:bj)
 | len (x:bj)
 | dF (x:bj)
 | app (sz bytes:Nat) (x y:bj)
 | call (g:Nat) (args:List bj)
 | er (x:bj) (args:List bj)
 | iD (g:Nat) (cq:List bj)
 | ext (x:bj) (i:Nat)
 | gy (sz:Nat) (x:bj) (lo hi mx:Option bj)
 | sI (x:bj) (lo hi:Option bj)
 | mm (mx:Bool) (x y:bj)
 | nd (f:HZ) (xs:List bj)
 | cH (f:Zz) (xs:List bj)
 | ba (s ok agg:Bool) (zero:List HV) (x k:bj)
 | P5 (x:bj)
 | P6 (n sz:Nat) (x:bj) (lo hi:Option bj)
 | dead
 deriving Inhabited
def iE(e:Env)(d:Nat):Option bj→Option Int
 | none=>some d
 | some x=>match e.hv x with
   | some (.v (.int _ n))=>some n
   | _=>none
def fQ:List HV→List (Nat×Nat×Option HV)→Option (List HV)
 | z,[]=>some z
 | z,(off,n,some h)::r=>if h.aN=n∧h.el=true∧off+n≤z.length then fQ (bu z off h.cells) r else none
 | _,(_,_,none)::_=>none
def rdv:HV→Option (Nat×List HV)
 | .sl _ sz es=>some (sz,es)
 | .v (.slice none 0 0)=>some (0,[])
 | _=>none
def aw.ev(o:aw)(e:Env)(H:ab):Option EV:=
 match o with
 | .mv x=>e.fg x
 | .pick c a b=>match e.hv c with
   | some (.v (.bool t))=>if t then e.fg a else e.fg b
   | _=>none
 | .int op x y=>match e.hv x,e.hv y with
   | some (.v (.int k a)),some (.v (.int k' b))=>(ic op k a k' b).map .h
   | _,_=>none
 | .str op x y=>match e.hv x,e.hv y with
   | some (.v (.string a)),some (.v (.string b))=>(qJ op a b).map .h
   | _,_=>none
 | .eq k ne x y=>match e.hv x,e.hv y with
   | some a,some b=>(eqv k a b).map fun t => .h (.v (.bool (if ne then !t else t)))
   | _,_=>none
 | .not x=>match e.hv x with
   | some (.v (.bool t))=>some (.h (.v (.bool !t)))
   | _=>none
 | .neg x=>match e.hv x with
   | some (.v (.int k n))=>some (.h (.v (.int k (k.wrap (0 - n)))))
   | _=>none
 | .conv k x=>match e.hv x with
   | some (.v (.int _ n))=>some (.h (.v (.int k (k.wrap n))))
   | _=>none
 | .sG x=>match e.hv x with
   | some (.v (.string s))=>some (.h (.v (.string s)))
   | _=>none
 | .JN x=>match e.hv x with
   | some (.sl _ 1 es)=>(gY es).map fun l => .h (.v (.string ⟨l.toArray⟩))
   | some (.v (.slice none 0 0))=>some (.h (.v (.string ⟨#[]⟩)))
   | _=>none
 | .build z ps=>(fQ z (ps.map fun p=>(p.1,p.2.1,e.hv p.2.2))).map fun cs => .h (.ag cs)
 | .load agg n x=>match e.fg x with
   | some (.h (.v (.pointer (some ⟨b,off,none⟩))))=>match H b with
     | some (.obj cs)=>(cP agg n off cs).map .h
     | _=>none
   | some (.h (.rp cs))=>(cP agg n 0 cs).map .h
   | some (.lp k off)=>match e.box k with
     | some cs=>(cP agg n off cs).map .h
     | none=>none
   | _=>none
 | .gw x=>match e.fg x with
   | some (.h (.v (.pointer (some a))))=>some (.h (.v (.pointer (some a))))
   | some (.h (.rp cs))=>some (.h (.rp cs))
   | some (.lp k off)=>some (.lp k off)
   | some (.h (.fn g cq))=>some (.h (.fn g cq))
   | some (.h (.fm g r))=>some (.h (.fm g r))
   | _=>none
 | .dZ off x=>match e.fg x with
   | some (.h (.v (.pointer (some ⟨b,o,none⟩))))=>some (.h (.v (.pointer (some ⟨b,o+off,none⟩))))
   | some (.h (.rp cs))=>if off≤cs.length then some (.h (.rp (cs.drop off))) else none
   | some (.lp k o)=>some (.lp k (o+off))
   | _=>none
 | .field agg off n x=>match e.hv x with
   | some (.ag cs)=>(cP agg n off cs).map .h
   | _=>none
 | .idx sz x i=>match e.hv x,e.hv i with
   | some (.sl _ iB es),some (.v (.int _ n))=>if iB=sz∧0≤n then (es[n.toNat]?).map fun h => .h (.rp h.cells) else none
   | some (.v (.slice (some ⟨b,off,none⟩) l _)),some (.v (.int _ n))=>if 0≤n∧n < l then some (.h (.v (.pointer (some ⟨b,off+n.toNat*sz,none⟩)))) else none
   | _,_=>none
 | .sH l sz x i=>match e.fg x,e.hv i with
   | some (.h (.v (.pointer (some ⟨b,off,none⟩)))),some (.v (.int _ n))=>if 0≤n∧n < l then some (.h (.v (.pointer (some ⟨b,off+n.toNat*sz,none⟩)))) else none
   | some (.lp k off),some (.v (.int _ n))=>if 0≤n∧n < l then some (.lp k (off+n.toNat*sz)) else none
   | some (.h (.rp cs)),some (.v (.int _ n))=>if 0≤n∧n < l∧n.toNat*sz≤cs.length then some (.h (.rp (cs.drop (n.toNat*sz)))) else none
   | _,_=>none
 | .jr x i=>match e.hv x,e.hv i with
   | some (.v (.string s)),some (.v (.int _ n))=>if h:0≤n∧n.toNat < s.size then some (.h (.v (.int .u8 (s[n.toNat]'h.2).toNat))) else none
   | _,_=>none
 | .len x=>match e.hv x with
   | some (.sl _ _ es)=>some (.h (.v (.int .i64 es.length)))
   | some (.v (.slice _ n _))=>some (.h (.v (.int .i64 n)))
   | _=>none
 | .dF x=>match e.hv x with
   | some (.v (.string s))=>some (.h (.v (.int .i64 s.size)))
   | _=>none
 | .iD g cq=>(e.cJ cq).map fun hs => .h (.fn g hs)
 | .ext x i=>match e.hv x with
   | some (.tu vs)=>(vs[i]?).map .h
   | _=>none
 | .sI x lo hi=>match e.hv x with
   | some (.v (.string s))=>match iE e 0 lo,iE e s.size hi with
     | some l,some h=>if 0≤l∧l≤h∧h≤s.size then some (.h (.v (.string (s.extract l.toNat h.toNat)))) else none
     | _,_=>none
   | _=>none
 | .gy sz x lo hi mx=>match e.hv x with
   | some (.v (.slice none 0 0))=>match iE e 0 lo,iE e 0 hi,iE e 0 mx with
     | some l,some h,some m=>if l=0∧h=0∧m=0 then some (.h (.v (.slice none 0 0))) else none
     | _,_,_=>none
   | some (.v (.slice (some ⟨b,off,none⟩) n c))=>match iE e 0 lo,iE e n hi,iE e c mx with
     | some l,some h,some m=>if 0≤l∧l≤h∧h≤m∧m≤c then some (.h (.v (.slice (some ⟨b,if m=l then off else off+l.toNat*sz,none⟩) (h.toNat - l.toNat) (m.toNat - l.toNat)))) else none
     | _,_,_=>none
   | some (.sl tk iB es)=>match iE e 0 lo,iE e es.length hi with
     | some l,some h=>if iB=sz∧0≤l∧l≤h∧h≤es.length then
         match mx with
         | none=>some (.h (.sl (if h=es.length∧l=0 then tk else .no) sz ((es.drop l.toNat).take (h.toNat - l.toNat))))
         | some m=>match e.hv m with
           | some (.v (.int _ m))=>if m=h then some (.h (.sl .full sz ((es.drop l.toNat).take (h.toNat - l.toNat)))) else none
           | _=>none
       else none
     | _,_=>none
   | _=>none
 | .P5 x=>match e.hv x with
   | some (.v (.int k n))=>(ic .xor k (if k.signed then -1 else k.max) k n).map .h
   | _=>none
 | .P6 n sz x lo hi=>match e.hv x with
   | some (.v (.pointer (some ⟨b,off,none⟩)))=>match iE e 0 lo,iE e n hi with
     | some l,some h=>if 0≤l∧l≤h∧h≤n then some (.h (.v (.slice (some ⟨b,if n=l.toNat then off else off+l.toNat*sz,none⟩) (h.toNat - l.toNat) (n - l.toNat)))) else none
     | _,_=>none
   | _=>none
 | .mm mx x y=>match e.hv x,e.hv y with
   | some (.v (.int k a)),some (.v (.int k' b))=>if k=k' then some (.h (.v (.int k (if mx then (if b > a then b else a) else (if b < a then b else a))))) else none
   | _,_=>none
 | .ba s ok agg zero x k=>match e.hv x,e.hv k with
   | some (.v (.map (some b))),some (.v kv)=>if isKey s kv then match H b with
       | some (.mp es _)=>match l6 s kv es 0 with
         | some (some p)=>some (.h (Jr ok p.2 true))
         | some none=>some (.h (Jr ok (sv agg zero) false))
         | none=>none
       | _=>none
     else none
   | _,_=>none
 | _=>none
def aw.calm:aw→Bool
 | .alloc .. | .box .. | .aO .. | .store .. | .app .. | .call .. | .er .. | .nd .. | .cH ..=>false
 | _=>true
abbrev aJ:=Nat→List HV→ab→(HV→ab→Prop)→Prop
def HV.undef:HV:=.v Go.undef
def aw.step(S:aJ)(o:aw)(e:Env)(H:ab)(K:EV→Env→ab→Prop):Prop:=
 match o with
 | .alloc loc cs=>match loc with
   | some k=>e.box k=none∧K (.lp k 0) (e.fI k cs) H
   | none=>∀b,H b=none→K (.h (.v (.pointer (some ⟨b,0,none⟩)))) e (H.bt b (some (.obj cs)))
 | .box loc n x=>match e.hv x with
   | some h=>h.aN=n∧h.el=true∧match loc with
     | some k=>e.box k=none∧K (.lp k 0) (e.fI k h.cells) H
     | none=>∀b,H b=none→K (.h (.v (.pointer (some ⟨b,0,none⟩)))) e (H.bt b (some (.obj h.cells)))
   | none=>False
 | .aO sz ps=>match e.cJ ps with
   | some hs=>hs.all HV.el=true∧(∀h∈hs,h.aN=sz)∧K (.h (.sl .full sz hs)) e H
   | none=>False
 | .store n a x=>match e.hv x with
   | some h=>h.aN=n∧h.el=true∧match e.fg a with
     | some (.h (.v (.pointer (some ⟨b,off,none⟩))))=>match H b with
       | some (.obj cs)=>off+n≤cs.length∧K (.h .undef) e (H.bt b (some (.obj (bu cs off h.cells))))
       | _=>False
     | some (.lp k off)=>match e.box k with
       | some cs=>off+n≤cs.length∧K (.h .undef) (e.fI k (bu cs off h.cells)) H
       | none=>False
     | _=>False
   | none=>False
 | .app sz bytes x y=>(match e.hv x,(e.hv y).bind rdv with
   | some (.v (.slice none 0 0)),some (iB,ys)=>(ys≠[]→iB=sz)∧(ys=[]→K (.h (.v (.slice none 0 0))) e H) ∧
       (ys≠[]→ys.length*bytes≤140737488355328∧∀b c,H b=none→K (.h (.sl (.lR b c) sz ys)) e (H.bt b (some (.lR (ys.length*sz) (c*sz)))))
   | some (.sl .full UR xs),some (iB,ys)=>UR=sz∧(ys≠[]→iB=sz)∧(ys=[]→K (.h (.sl .full sz xs)) e H) ∧
       (ys≠[]→(xs.length+ys.length)*bytes≤140737488355328∧∀b c,H b=none→K (.h (.sl (.lR b c) sz (xs++ys))) e (H.bt b (some (.lR ((xs.length+ys.length)*sz) (c*sz)))))
   | some (.sl (.lR b c) UR xs),some (iB,ys)=>UR=sz∧(ys≠[]→iB=sz)∧H b=some (.lR (xs.length*sz) (c*sz))∧(xs.length+ys.length)*bytes≤140737488355328 ∧
       ∀b' c',(b'=b∨H b'=none) →
         K (.h (.sl (.lR b' c') sz (xs++ys))) e ((H.bt b none).bt b' (some (.lR ((xs.length+ys.length)*sz) (c'*sz))))
   | _,_=>False)∨(match e.hv x,e.hv y with
   | some x,some y=>nW sz bytes x y H fun h H'=>K (.h h) e H'
   | _,_=>False)
 | .call g args=>match e.cJ args with
   | some hs=>S g hs H (fun h H'=>K (.h h) e H')
   | none=>False
 | .er x args=>match e.hv x,e.cJ args with
   | some (.fn g cq),some hs=>S g (hs++cq) H (fun h H'=>K (.h h) e H')
   | some (.fm g r),some hs=>S g (r::hs) H (fun h H'=>K (.h h) e H')
   | _,_=>False
 | .cH f xs=>match e.cJ xs with
   | some hs=>iX f hs H fun h H'=>K (.h h) e H'
   | none=>False
 | .nd f xs=>match e.cJ xs with
   | some hs=>rv f hs H fun h=>K (.h h) e H
   | none=>False
 | o=>match o.ev e H with
   | some x=>K x e H
   | none=>False
structure aF where
 dst:Option Nat
 op:aw
 guard:Option (Nat×Bool)
 deriving Inhabited
def dm(S:aJ)(o:aF)(e:Env)(H:ab)(K:Env→ab→Prop):Prop:=
 match o.guard with
 | none=>o.op.step S e H fun x e' H'=>K (e'.put o.dst x) H'
 | some (t,want)=>match e.get t with
   | some (.h (.v (.bool b))) =>
     (b=want→o.op.step S (e.put (some t) (.h (.v (.bool want)))) H fun x e' H'=>K (e'.put o.dst x) H') ∧
     (b=!want→K ((e.put (some t) (.h (.v (.bool (!want))))).put o.dst (.h .undef)) H)
   | some (.h (.v (.tuple _)))=>K (e.put o.dst (.h .undef)) H
   | _=>False
def aj(S:aJ):List aF→Env→ab→(Env→ab→Prop)→Prop
 | [],e,H,K=>K e H
 | o::os,e,H,K=>dm S o e H fun e' H'=>aj S os e' H' K
structure dv where
 o:aF
 rc:List Nat
 deriving Inhabited
def AZ(x:aF)(e:Env)(H:ab):Prop:=
 match x.dst,x.guard with
 | some d,none=>x.op.ev e H=e.get d
 | some d,some (t,want)=>e.get t=some (.h (.v (.bool want)))→x.op.ev e H=e.get d
 | none,_=>False
def yk(L:List dv):List Nat→Env→ab→Prop
 | [],_,_=>True
 | z::zs,e,H=>AZ (L[z]!).o e H∧yk L zs e H
def aX(S:aJ)(L:List dv):List Nat→Env→ab→(Env→ab→Prop)→Prop
 | [],e,H,K=>K e H
 | i::is,e,H,K=>dm S (L[i]!).o e H fun e' H'=>yk L (L[i]!).rc e' H'∧aX S L is e' H' K
inductive SC where
 | skip
 | bL (ops:List aF)
 | bp (perm:List Nat) (ops:List dv)
 | seq (a b:SC)
 | cond (c:bj) (thn els:SC)
 | block (id:Nat) (body:SC)
 | loop (body:SC)
 | exit (id:Nat)
 | ret
 | P7 (ops:List aF) (x:bj) (args:List bj) (gd:Nat) (rest:SC)
 deriving Inhabited
def SC.Nb:SC→Bool
 | .seq _ b=>b.Nb
 | .P7 ..=>true
 | _=>false
inductive qL where
 | normal | exit (id:Nat) | ret
 deriving DecidableEq
structure Env.le (L e:Env):Prop where
 sl:∀t x,L.get t=some x→∃x',e.get t=some x'∧(x'=x∨CQ x' x)
 bx:∀k cs,L.box k=some cs→∃bI,e.box k=some bI∧(bI=cs∨bo bI cs∧cs.all HV.one=true)
 lp:∀t k o,L.get t=some (.lp k o)→(L.box k).isSome=true
inductive jZ where
 | t (s:Nat)
 | cell (s:Nat) (agg:Bool) (n:Nat)
structure SF where
 np:Nat
 N:Nat
 res:List jZ
 body:SC
def jZ.val(e:Env)(H:ab):jZ→Option HV
 | .t s=>e.hv (.s s)
 | .cell s agg n=>match (aw.load agg n (.s s)).ev e H with
   | some (.h h)=>some h
   | _=>none
def dM(e:Env)(H:ab):List jZ→Option (List HV)
 | []=>some []
 | r::rs=>match r.val e H,dM e H rs with
   | some h,some hs=>some (h::hs)
   | _,_=>none
def eQ:List HV→HV
 | [h]=>h
 | hs => .tu hs
def oG(args:List HV):Env:=⟨fun t=>(args[t]?).map .h,fun _=>none⟩
end Sm
set_option linter.unnecessarySimpa false
namespace Sm
open Go
def bO(ν:Nat→Option Nat)(K:Nat→Nat)(w:World)(μ:Nat→Nat):EV→Value→Prop
 | .h x,u=>rep ν K w x u
 | .lp k off,u=>u = .pointer (some ⟨μ k,off,none⟩)
def EV.live(e:Env):EV→Prop
 | .lp k _=>(e.box k).isSome=true
 | .h _=>True
def Aaq(ν:Nat→Option Nat)(B:Nat)(H:ab)(w:World)(K:Nat→Nat)(b:Nat)(cs:List HV):Prop:=
 B≤b∧H b=none∧∃us T,w.heap[b]? = some (.cells us T (0,0))∧K b=0∧aC ν K w cs us.toList∧cs.all HV.one=true
def DL(ν:Nat→Option Nat)(K:Nat→Nat)(w:World):List (Nat×List HV)→List Deferred→Prop
 | [],ds=>ds=[]
 | p::D,ds=>∃us dr ZC,ds={ target:=.fn (.func p.1) dr,args:=us }::ZC∧aC ν K w p.2 (us.toList++dr.toList)∧DL ν K w D ZC
theorem DL.grow{ν K w K' w'}(hg:Grow w K w' K'):∀{D:List (Nat×List HV)} {ds:List Deferred},DL ν K w D ds→DL ν K' w' D ds
 | [],ds,h=>h
 | p::D,ds,⟨us,dr,ZC,e1,e2,e3⟩=>⟨us,dr,ZC,e1,e2.grow hg,DL.grow hg e3⟩
structure St (D:List (Nat×List HV)) (ν:Nat→Option Nat) (w0:World) (K0:Nat→Nat) (H0:ab) (N:Nat) (e:Env) (H:ab) (a:Act) (w:World) (K:Nat→Nat) (μ:Nat→Nat):Prop where
 hs:dS ν w K H
 sz:a.tmps.size=N
 df:DL ν K w D a.defers
 slot:∀t x,e.get t=some x→bO ν K w μ x (a.tmps.getD t undef)∧x.live e
 box:∀k cs,e.box k=some cs→Aaq ν w0.heap.size H w K (μ k) cs
 inj:∀k k' cs bI,e.box k=some cs→e.box k'=some bI→μ k=μ k'→k=k'
 ext:Ext (quiet ν) w0 K0 H0 w K H
def Spec(P:Program)(ν:Nat→Option Nat):aJ:=fun g args H Q =>
 ∀n,pK ν n g→∀w K us,dS ν w K H→aC ν K w args us →
   Calls P n us.toArray w fun en w'=>∃u h H' K',en = .returned u∧rep ν K' w' h u∧dS ν w' K' H'∧Ext (quiet ν) w K H w' K' H'∧Q h H'
theorem bO.grow{ν K w K' w' μ}(hg:Grow w K w' K'):∀(x:EV) {u},bO ν K w μ x u→bO ν K' w' μ x u
 | .h x,u,h=>rep.grow hg x h
 | .lp k o,u,h=>h
theorem ij{e:Env}{t:Nat}{x:EV}(h:e.get t=some x):e.put (some t) x=e:=by
 cases e with
 | mk sl bx =>
   simp only[Env.put,Env.get] at h ⊢;congr 1;funext i;simp only[bt];split;{rename_i hi;subst hi;exact h.symm};{rfl}
theorem jq{w:World}{b:Nat}{o:Obj}(h:w.heap[b]? = some o):b < w.heap.size:=by
 rcases Nat.lt_or_ge b w.heap.size with h' | h';{exact h'};{rw[Array.getElem?_eq_none h'] at h;cases h}
section
variable {D:List (Nat×List HV)} {ν:Nat→Option Nat} {w0:World} {K0:Nat→Nat} {H0:ab} {N:Nat} {e:Env} {H:ab} {a:Act} {w:World} {K μ:Nat→Nat}
theorem St.put(h:St D ν w0 K0 H0 N e H a w K μ){d:Option Nat}{x:EV}{u:Value}(hd:∀t,d=some t→t < N)(hr:bO ν K w μ x u)(hl:x.live e) :
   St D ν w0 K0 H0 N (e.put d x) H (a.put d u) w K μ:=by
 cases d with
 | none=>exact h
 | some t =>
   have ht:=hd t rfl;refine⟨h.hs,by simpa[Act.put] using h.sz,by simpa[Act.put] using h.df,?_,h.box,h.inj,h.ext⟩
   intro s y hy;simp only[Env.get,Env.put,bt] at hy;have CR:∀z:EV,z.live e→z.live (e.put (some t) x):=by
     intro z hz;cases z<;>simpa[EV.live,Env.put,Env.box] using hz
   by_cases ao:t=s
   · subst ao;simp only[if_true,Option.some.injEq] at hy;subst hy;refine⟨?_,CR _ hl⟩;have da:=h.sz;simp only[Act.put,Array.getD_eq_getD_getElem?];rw[Array.getElem?_setIfInBounds_self_of_lt (by omega)]
     simpa using hr
   · rw[if_neg ao] at hy;obtain⟨h1,h2⟩:=h.slot s y hy;refine⟨?_,CR _ h2⟩;simp only[Act.put,Array.getD_eq_getD_getElem?] at h1 ⊢;rw[Array.getElem?_setIfInBounds_ne ao];exact h1
theorem St.step{w':World}{K':Nat→Nat}{H':ab}(h:St D ν w0 K0 H0 N e H a w K μ)(hx:Ext (quiet ν) w K H w' K' H')(eP:dS ν w' K' H') :
   St D ν w0 K0 H0 N e H' a w' K' μ:=by
 refine⟨eP,h.sz,h.df.grow hx.grow,fun t x AK=>⟨(h.slot t x AK).1.grow hx.grow,(h.slot t x AK).2⟩,fun k cs hk=>?_,h.inj,h.ext.trans hx⟩;obtain⟨h1,h2,us,T,h3,h4,h5,h6⟩:=h.box k cs hk;obtain⟨s1,s2,s3⟩:=hx.same _ (jq h3) h2;exact⟨h1,s3,us,T,s1.trans h3,s2.trans h4,h5.grow hx.grow,h6⟩
theorem Ext.draw{φ:Prop}(w:World)(K:Nat→Nat)(H:ab)(n:Nat)(hn:w.drawn≤n):Ext φ w K H { w with drawn:=n } K H:=
 ⟨rfl,rfl,rfl,Nat.le_refl _,fun _=>hn,⟨fun _=>Nat.le_refl _,fun _ _ _=>rfl,fun _ _=>rfl⟩,fun _ _ h=>⟨rfl,rfl,h⟩⟩
theorem dS.draw{n:Nat}(h:dS ν w K H):dS ν { w with drawn:=n } K H:=by
 refine⟨fun b r hb=>?_,h.fresh,h.qD.grow ⟨fun _=>Nat.le_refl _,fun _ _ _=>rfl,fun _ _=>rfl⟩⟩;have hg:Grow w K { w with drawn:=n } K:=⟨fun _=>Nat.le_refl _,fun _ _ _=>rfl,fun _ _=>rfl⟩;have h1:=h.res b r hb;cases r with
 | obj cs=>obtain⟨us,T,h2,h3,h4,h5⟩:=h1;exact⟨us,T,h2,h3,h4.grow hg,h5⟩
 | lR t c=>exact h1
 | mp es c=>obtain⟨us,h2,h3,h4⟩:=h1;exact⟨us,h2,h3,fh.grow hg _ h4⟩
 | it m s seen l=>exact h1
theorem St.draw{n:Nat}(h:St D ν w0 K0 H0 N e H a w K μ)(hn:w.drawn≤n):St D ν w0 K0 H0 N e H a { w with drawn:=n } K μ:=h.step (Ext.draw w K H n hn) h.hs.draw
theorem uZ.move{w':World}{K':Nat→Nat}{b:Nat}{r:rq}(hg:Grow w K w' K')(hb:w'.heap[b]? = w.heap[b]?)(hk:K' b=K b)(h:uZ ν K w b r):uZ ν K' w' b r:=by
 cases r with
 | obj cs=>obtain⟨us,T,h2,h3,h4,h5⟩:=h;exact⟨us,T,hb.trans h2,hk.trans h3,h4.grow hg,h5⟩
 | lR t c=>obtain⟨us,T,h2,h3,h4⟩:=h;exact⟨us,T,hb.trans h2,hk.trans h3,h4⟩
 | mp es c=>obtain⟨us,h2,h3,h4⟩:=h;exact⟨us,hb.trans h2,hk.trans h3,fh.grow hg _ h4⟩
 | it m s seen l=>exact⟨hb.trans h.1,hk.trans h.2⟩
theorem dh(o:Obj){b:Nat}(h:b < w.heap.size):(w.alloc o).heap[b]? = w.heap[b]? := heap_alloc_old w o b h
theorem H5(o:Obj){b j:Nat}(h:b < w.heap.size):(w.alloc o).cell? ⟨b,j,none⟩=w.cell? ⟨b,j,none⟩:=World.cell?_alloc_lt w o _ h
theorem mT(hs:dS ν w K H)(o:Obj):Grow w K (w.alloc o) K:=
 ⟨fun _=>Nat.le_refl _,fun b j hj=>by
   rcases Nat.lt_or_ge b w.heap.size with h | h;{exact H5 o h}
   · rw[hs.fresh b h] at hj;omega,fun b hb=>by
   rcases Nat.lt_or_ge b w.heap.size with h | h;{exact cS (dh o h)}
   · rw[hs.fresh b h] at hb;omega⟩
theorem l9(hs:dS ν w K H)(us:Array Value)(T:TypeId)(n:Nat)(hn:n≤us.size)(fr:Nat×Nat:=(0,0)) :
   Ext (quiet ν) w K H (w.alloc (.cells us T fr)) (fun b=>if b=w.heap.size then n else K b) H∧dS ν (w.alloc (.cells us T fr)) (fun b=>if b=w.heap.size then n else K b) H:=by
 have hg:Grow w K (w.alloc (.cells us T fr)) (fun b=>if b=w.heap.size then n else K b):=
   ⟨fun b=>by by_cases h:b=w.heap.size<;>simp[h,hs.fresh],fun b j hj=>(mT hs _).cell b j hj,fun b hb=>(mT hs _).sz b hb⟩
 refine⟨⟨rfl,rfl,rfl,by simp,fun _=>Nat.le_refl _,hg,fun b hb hH=>⟨dh _ hb,by rw[if_neg (by omega)],hH⟩⟩,⟨fun b r hb=>?_,fun b hb=>?_,hs.qD.grow hg⟩⟩
 · have bN:=hs.lt hb;exact(hs.res b r hb).move hg (dh _ bN) (by rw[if_neg (by omega)])
 · simp only[World.size_alloc] at hb;rw[if_neg (by omega)];exact hs.fresh b (by omega)
theorem ke(hs:dS ν w K H)(us:Array Value)(T:TypeId)(cs:List HV)(hr:aC ν K w cs us.toList)(h1:cs.all HV.one=true) :
   Ext (quiet ν) w K H (w.alloc (.cells us T)) K (H.bt w.heap.size (some (.obj cs)))∧dS ν (w.alloc (.cells us T)) K (H.bt w.heap.size (some (.obj cs))):=by
 have hg:=mT hs (.cells us T);refine⟨⟨rfl,rfl,rfl,by simp,fun _=>Nat.le_refl _,hg,fun b hb hH=>⟨dh _ hb,rfl,by rw[ab.bt,if_neg (by omega)];exact hH⟩⟩,⟨fun b r hb=>?_,fun b hb=>?_,hs.qD.grow hg⟩⟩
 · by_cases h:b=w.heap.size
   · subst h;simp only[ab.bt,if_true,Option.some.injEq] at hb;subst hb;exact⟨us,T,heap_alloc_new w _,hs.fresh _ (Nat.le_refl _),aC.full (hr.grow hg),h1⟩
   · rw[ab.bt,if_neg h] at hb;exact(hs.res b r hb).move hg (dh _ (hs.lt hb)) rfl
 · simp only[World.size_alloc] at hb;exact hs.fresh b (by omega)
theorem J1(hs:dS ν w K H)(us:Array Value)(T:TypeId)(n c:Nat)(hn:n≤us.size)(hc:c≤us.size) :
   Ext (quiet ν) w K H (w.alloc (.cells us T)) (fun b=>if b=w.heap.size then n else K b) (H.bt w.heap.size (some (.lR n c))) ∧
   dS ν (w.alloc (.cells us T)) (fun b=>if b=w.heap.size then n else K b) (H.bt w.heap.size (some (.lR n c))):=by
 obtain⟨h1,h2⟩:=l9 hs us T n hn;refine⟨⟨rfl,rfl,rfl,by simp,fun _=>Nat.le_refl _,h1.grow,fun b hb hH=>⟨dh _ hb,by rw[if_neg (by omega)],by rw[ab.bt,if_neg (by omega)];exact hH⟩⟩,⟨fun b r hb=>?_,h2.fresh,h2.qD⟩⟩
 by_cases h:b=w.heap.size
 · subst h;simp only[ab.bt,if_true,Option.some.injEq] at hb;subst hb;exact⟨us,T,heap_alloc_new w _,by simp,hn,hc⟩
 · rw[ab.bt,if_neg h] at hb;exact h2.res b r hb
theorem St.J2(h:St D ν w0 K0 H0 N e H a w K μ)(us:Array Value)(T:TypeId)(k:Nat)(cs:List HV)(hk:e.box k=none)(hr:aC ν K w cs us.toList)(h1:cs.all HV.one=true) :
   St D ν w0 K0 H0 N (e.fI k cs) H a (w.alloc (.cells us T)) K (fun i=>if i=k then w.heap.size else μ i):=by
 have hg:=mT h.hs (.cells us T);have eP:dS ν (w.alloc (.cells us T)) K H:=⟨fun b r hb=>(h.hs.res b r hb).move hg (dh _ (h.hs.lt hb)) rfl,fun b hb=>h.hs.fresh b (by simp at hb;omega),h.hs.qD.grow hg⟩
 have hx:Ext (quiet ν) w K H (w.alloc (.cells us T)) K H:=⟨rfl,rfl,rfl,by simp,fun _=>Nat.le_refl _,hg,fun b hb hH=>⟨dh _ hb,rfl,hH⟩⟩
 have h2:=h.step hx eP;refine⟨eP,h.sz,h.df.grow hg,fun t x AK=>?_,fun i bI hi=>?_,fun i j c c' hi hj A4=>?_,h2.ext⟩
 · obtain⟨s1,s2⟩:=h2.slot t x AK;cases x with
   | h x=>exact⟨s1,T_⟩
   | lp i o =>
     have eJ:i≠k:=by rintro rfl;simp[EV.live,hk] at s2
     refine⟨by simpa[bO,eJ] using s1,?_⟩
     simp only[EV.live,Env.fI,Env.box,bt] at s2 ⊢;rw[if_neg (fun e=>eJ e.symm)];exact s2
 · simp only[Env.fI,Env.box,bt] at hi
   by_cases sJ:k=i
   · subst sJ;simp only[if_true,Option.some.injEq] at hi;subst hi;refine⟨by simpa using h.ext.size,by simpa using h.hs.c9 (Nat.le_refl _),us,T,by simpa using heap_alloc_new w _,by simpa using h.hs.fresh _ (Nat.le_refl _),hr.grow hg,h1⟩
   · rw[if_neg sJ] at hi;have:=h2.box i bI hi;have wE:¬i=k:=fun e=>sJ e.symm;simpa[wE] using this
 · have lt:∀i c,e.box i=some c→μ i < w.heap.size:=fun i c hi=>by
     obtain⟨_,_,us,T,h3,_⟩:=h.box i c hi;exact jq h3
   simp only[Env.fI,Env.box,bt] at hi hj
   by_cases sJ:k=i<;>by_cases ZD:k=j
   · exact sJ.symm.trans ZD
   · rw[if_neg ZD] at hj;have:=lt j _ hj;have ZE:¬j=k:=fun e=>ZD e.symm;simp only[sJ.symm,if_true,if_neg ZE] at A4;omega
   · rw[if_neg sJ] at hi;have:=lt i _ hi;have wE:¬i=k:=fun e=>sJ e.symm;simp only[ZD.symm,if_true,if_neg wE] at A4;omega
   · rw[if_neg sJ] at hi;rw[if_neg ZD] at hj;have ZE:¬j=k:=fun e=>ZD e.symm;have wE:¬i=k:=fun e=>sJ e.symm;simp only[if_neg ZE,if_neg wE] at A4;exact h.inj i j _ _ hi hj A4
end
def P8(D:List (Nat×List HV))(ν:Nat→Option Nat)(w0:World)(K0:Nat→Nat)(H0:ab)(N:Nat)(e:Env)(H:ab)(a:Act)(w:World):Prop:=∃K μ,St D ν w0 K0 H0 N e H a w K μ
def VS(e:Env)(H:ab)(e1:Env)(H1:ab):Prop:=∀(D:List (Nat×List HV)) (ν:Nat→Option Nat) (w0:World) (K0:Nat→Nat) (H0:ab) (N:Nat) (a:Act) (w:World),P8 D ν w0 K0 H0 N e H a w→P8 D ν w0 K0 H0 N e1 H1 a w
theorem VS.refl(e:Env)(H:ab):VS e H e H:=fun _ _ _ _ _ _ _ _ h=>h
theorem VS.trans{e:Env}{H:ab}{e1:Env}{H1:ab}{e2:Env}{H2:ab}(h:VS e H e1 H1)(k:VS e1 H1 e2 H2):VS e H e2 H2:=fun _ _ _ _ _ _ _ _ x=>k _ _ _ _ _ _ _ _ (h _ _ _ _ _ _ _ _ x)
def aH(S:aJ):SC→Env→ab→(qL→Env→ab→Prop)→Prop
 | .skip,e,H,Q=>Q .normal e H
 | .bL ops,e,H,Q=>aj S ops e H (Q .normal)
 | .bp _ ops,e,H,Q=>aX S ops (List.range ops.length) e H (Q .normal)
 | .seq a b,e,H,Q=>aH S a e H fun ex e' H'=>match ex with
   | .normal=>∃e1 H1,VS e' H' e1 H1∧aH S b e1 H1 Q
   | ex=>Q ex e' H'
 | .cond c a b,e,H,Q=>match e.hv c with
   | some (.v (.bool t))=>(t=true→aH S a e H Q)∧(t=false→aH S b e H Q)
   | _=>False
 | .block id b,e,H,Q=>aH S b e H fun ex e' H'=>match ex with
   | .exit i=>if i=id then Q .normal e' H' else Q (.exit i) e' H'
   | ex=>Q ex e' H'
 | .loop b,e,H,Q=>∃I:Nat→Env→ab→Prop,(∃n e1 H1,VS e H e1 H1∧I n e1 H1) ∧
     ∀n e H,I n e H→aH S b e H fun ex e' H'=>match ex with
       | .normal=>∃m e1 H1,m < n∧VS e' H' e1 H1∧I m e1 H1
       | ex=>Q ex e' H'
 | .exit id,e,H,Q=>Q (.exit id) e H
 | .ret,e,H,Q=>Q .ret e H
 | .P7 ..,_,_,_=>False
def SF.P9(S:aJ)(f:SF)(args:List HV)(H:ab)(Q:HV→ab→Prop):Prop:=
 args.length=f.np∧aH S f.body (oG args) H fun ex e H'=>(ex = .normal∨ex = .ret) ∧
   ∃e1 H1,VS e H' e1 H1∧match dM e1 H1 f.res with
   | some hs=>∃h' uI,an (eQ hs) h'∧uI.sub H1∧Q h' uI
   | none=>False
def kS(res:List jZ)(Q:HV→ab→Prop)(e:Env)(H:ab):Prop:=
 ∃e1 H1,VS e H e1 H1∧match dM e1 H1 res with
   | some hs=>∃h' uI,an (eQ hs) h'∧uI.sub H1∧Q h' uI
   | none=>False
def ju(C:Nat→SF)(S:aJ)(fin:Env→ab→Prop):SC→Env→ab→Prop
 | .P7 ops x ys gd rest,e,H=>aj S ops e H fun e' H'=>match e'.hv x,e'.cJ ys with
   | some (.fn g cq),some hs=>g=gd∧(C gd).body.Nb=false∧aH S rest e' H' fun ex e2 H2=>(ex = .normal∨ex = .ret)∧∃e3 H3,VS e2 H2 e3 H3∧(C gd).P9 S (hs++cq) H3 fun _ H4=>fin e3 H4
   | _,_=>False
 | .seq a b,e,H=>aH S a e H fun ex e' H'=>match ex with
   | .normal=>∃e1 H1,VS e' H' e1 H1∧ju C S fin b e1 H1
   | .ret=>fin e' H'
   | .exit _=>False
 | s,e,H=>aH S s e H fun ex e' H'=>(ex = .normal∨ex = .ret)∧fin e' H'
def SF.aX(C:Nat→SF)(S:aJ)(f:SF)(args:List HV)(H:ab)(Q:HV→ab→Prop):Prop:=
 args.length=f.np∧ju C S (kS f.res Q) f.body (oG args) H
end Sm
namespace Sm
open Go
def NB:Value→Value→Bool
 | .bool a,.bool b=>decide (a=b)
 | .int k a,.int k' b=>decide (k=k')&&decide (a=b)
 | .string a,.string b=>decide (a=b)
 | .pointer none,.pointer none=>true
 | .slice none 0 0,.slice none 0 0=>true
 | .map none,.map none=>true
 | .nilFunc,.nilFunc=>true
 | .nilIface,.nilIface=>true
 | _,_=>false
theorem CT{u v:Value}(h:NB u v=true):u=v∧v.oneCell'=true:=by
 unfold NB at h;split at h<;>simp_all[Value.oneCell']
def au(ν:Nat→Option Nat):Operand→bj→Bool
 | .tmp t,.s t'=>decide (t=t')
 | .const v,.c v'=>NB v v'
 | .func f,.f g=>decide (ν f=some g)&&decide (f < lS)
 | .global n,.g j=>decide (ν (lS+n)=some (lS+j))&&(CP j).all HV.one
 | _,_=>false
def j0(ν:Nat→Option Nat):List Operand→List bj→Bool
 | [],[]=>true
 | x::xs,y::ys=>au ν x y&&j0 ν xs ys
 | _,_=>false
def eC(ν:Nat→Option Nat):Option Operand→Option bj→Bool
 | none,none=>true
 | some x,some y=>au ν x y
 | _,_=>false
def cX(P:Program)(T:TypeId):Option Nat:=(P.info? T).map (·.size)
def dJ(P:Program)(T:TypeId):Option Bool:=(P.underlying T).map fun d=>match d with
 | .struct _=>true
 | .array _ _=>true
 | _=>false
def elemOf(P:Program)(T:TypeId):Option TypeId:=match P.underlying T with
 | some (.slice e)=>some e
 | _=>none
def nL(P:Program)(T:TypeId):Option (Nat×TypeId):=match P.underlying T with
 | some (.array n e)=>some (n,e)
 | _=>none
def jO(P:Program)(T:TypeId)(f:Nat):Option Field:=match P.underlying T with
 | some (.struct fs)=>fs[f]?
 | _=>none
def isStr(P:Program)(T:TypeId):Bool:=match P.underlying T with
 | some .string=>true
 | _=>false
def wH(P:Program)(T:TypeId):Option IntKind:=match P.underlying T with
 | some (.int k)=>some k
 | _=>none
def CK:List Value→List HV→Bool
 | [],[]=>true
 | u::us,.v x::cs=>NB u x&&CK us cs
 | _,_=>false
def iY(P:Program)(ν:Nat→Option Nat)(T:TypeId):List (Nat×Operand)→List (Nat×Nat×bj)→Bool
 | [],[]=>true
 | (i,x)::xs,(off,n,y)::ys=>(match jO P T i with
     | some f=>decide (f.offset=off)&&decide (cX P f.type=some n)
     | none=>false)&&au ν x y&&iY P ν T xs ys
 | _,_=>false
def l7(ν:Nat→Option Nat)(k:Nat):List (Nat×Operand)→List bj→Bool
 | [],[]=>true
 | (i,x)::xs,y::ys=>decide (i=k)&&au ν x y&&l7 ν (k+1) xs ys
 | _,_=>false
def yp(P:Program)(chk:TypeId→Option (List Lf)):Nat→List Field→Option (List Lf)
 | _,[]=>some []
 | off,f::fs=>if (f.name == "_")=false∧f.offset=off then match chk f.type with
     | some ks=>(yp P chk (off+ks.length) fs).map (ks++·)
     | none=>none
   else none
def ki(P:Program):Nat→TypeId→Option (List Lf)
 | 0,_=>none
 | d+1,t=>match P.underlying t with
   | some .bool=>if cX P t=some 1 then some [.b] else none
   | some (.int _)=>if cX P t=some 1 then some [.i] else none
   | some .string=>if cX P t=some 1 then some [.s] else none
   | some (.struct fs)=>if P.stoodInHeld t=false then match yp P (ki P d) 0 fs.toList with
       | some ks=>if cX P t=some ks.length then some ks else none
       | none=>none
     else none
   | some (.array n e)=>match ki P d e with
     | some ks=>if cX P t=some (n*ks.length) then some (List.replicate n ks).flatten else none
     | none=>none
   | _=>none
def sM(P:Program)(t:TypeId):I6→Bool
 | .bool=>match P.underlying t with
   | some .bool=>true
   | _=>false
 | .ptr=>match P.underlying t with
   | some (.pointer _)=>true
   | _=>false
 | .fnc=>match P.underlying t with
   | some (.func _ _ _)=>true
   | _=>false
 | .gy=>match P.underlying t with
   | some (.slice _)=>true
   | _=>false
 | .ag ks=>decide (ki P 20 t=some ks)&&!P.eqGuardType P.depth t&&decide (dJ P t=some true)
def wI(P:Program)(t:TypeId):Bool:=match P.underlying t with
 | some (.int _)=>false
 | some _=>true
 | none=>false
def A6:Operand→Bool
 | .const (.slice none 0 0)=>true
 | _=>false
def qH(P:Program)(n:Nat)(name origin:String):Bool:=match P.funcs[n]? with
 | some f=>decide (f.name=name)&&decide (f.origin=origin)&&f.body.isNone
 | none=>false
def gV(P:Program)(T:TypeId):Bool:=match P.underlying T with
 | some (.slice e)=>(match P.underlying e with
   | some (.int .u8)=>true
   | _=>false)
 | _=>false
def J3(P:Program)(ν:Nat→Option Nat)(o:Op)(f:HZ)(xs:List bj):Bool:=
 match f,o,xs with
 | .cap,.call c,[x']=>(match c.callee,c.args.toList,c.argTypes.toList with
   | .builtin .cap,[x],[t]=>(elemOf P t).isSome&&au ν x x'
   | _,_,_=>false)
 | .LU,.call c,[x',y']=>(match c.callee,c.args.toList with
   | .value (.func n),[x,y]=>qH P n "internal/bytealg.IndexByteString" "" && au ν x x'&&au ν y y'
   | _,_=>false)
 | .J0,.call c,[x',y']=>(match c.callee,c.args.toList with
   | .value (.func n),[x,y]=>qH P n "internal/bytealg.CountString" "" && au ν x x'&&au ν y y'
   | _,_=>false)
 | .AY,.convert src dst x,[x']=>gV P src&&isStr P dst&&au ν x x'
 | .ZA,.convert src dst x,[x']=>isStr P src&&gV P dst&&au ν x x'
 | .ka ne,.binOp op t x y _,[x']=>decide (op=if ne then .neq else .eql)&&A6 y&&sM P t .gy&&au ν x x'
 | _,_,_=>false
def yh(P:Program)(e:TypeId)(sz bytes:Nat)(zero:List HV):Bool:=match P.info? e with
 | some i=>decide (i.size=sz)&&decide (i.bytes=bytes)&&decide (0 < sz)&&decide (0 < bytes)&&(match i.zero with
   | some z=>CK z.cells.toList zero&&decide (z.cells.size=sz)
   | none=>false)
 | none=>false
def mapOf(P:Program)(T:TypeId):Option (TypeId×TypeId):=match P.underlying T with
 | some (.map k e)=>some (k,e)
 | _=>none
def lZ(P:Program)(s:Bool)(T:TypeId):Bool:=match P.underlying T with
 | some .string=>s
 | some (.int _)=>!s
 | _=>false
def pJ(P:Program)(T:TypeId)(agg:Bool)(zero:List HV):Bool:=match (P.info? T).bind (·.zero) with
 | some (.agg cs)=>agg&&CK cs.toList zero
 | some z=>!agg&&CK [z] zero
 | none=>false
def vb(P:Program)(T:TypeId):Bool:=match P.underlying T with
 | some (.interface _)=>true
 | _=>false
def AW(P:Program)(ν:Nat→Option Nat)(o:Op)(f:UH)(xs:List bj):Bool:=
 match f,o,xs with
 | .mk,.makeMap _ none,[]=>true
 | .CF s ok agg zero,.lookup T x k NC,[x',k']=>decide (ok=NC)&&(match mapOf P T with
   | some (kt,el)=>lZ P s kt&&pJ P el agg zero
   | none=>false)&&au ν x x'&&au ν k k'
 | .bt s,.mapUpdate T m k x,[m',k',x']=>(match mapOf P T with
   | some (kt,_)=>lZ P s kt
   | none=>false)&&au ν m m'&&au ν k k'&&au ν x x'
 | .bt s,.insert T m k x,[m',k',x']=>(match mapOf P T with
   | some (kt,_)=>lZ P s kt
   | none=>false)&&au ν m m'&&au ν k k'&&au ν x x'
 | .del s,.call c,[m',k']=>(match c.callee,c.args.toList,c.argTypes.toList with
   | .builtin .delete,[m,k],t::_=>(match mapOf P t with
     | some (kt,_)=>lZ P s kt
     | none=>false)&&au ν m m'&&au ν k k'
   | _,_,_=>false)
 | .len,.call c,[m']=>(match c.callee,c.args.toList,c.argTypes.toList with
   | .builtin .len,[m],[t]=>(mapOf P t).isSome&&au ν m m'
   | _,_,_=>false)
 | .PY,.range T x,[x']=>(mapOf P T).isSome&&au ν x x'
 | .UB,.next x s,[x']=>!s&&au ν x x'
 | .UD,.entry x,[x']=>au ν x x'
 | .IQ,.call c,[x']=>(match c.callee,c.args.toList with
   | .value (.func n),[x]=>qH P n "maps.clone" "" && au ν x x'
   | _,_=>false)
 | .Zv t,.makeInterface T x,[x']=>decide (T=t)&&(P.underlying T).isSome&&!vb P T&&au ν x x'
 | .tas t,.typeAssert x _ T ok,[x']=>decide (T=t)&&!ok&&(P.underlying T).isSome&&!vb P T&&au ν x x'
 | .ka ne,.binOp op t x y _,[x']=>decide (op=if ne then .neq else .eql)&&(match y with
   | .const (.map none)=>true
   | _=>false)&&(mapOf P t).isSome&&au ν x x'
 | .mkm g,.makeFunc (.func f) first cq,[r']=>(match first.toList with
   | [r]=>au ν r r'
   | _=>false)&&cq.isEmpty&&decide (ν f=some g∧f < lS)
 | .Nu sz,.build T ps,qs=>(match nL P T with
   | some (n,el)=>decide (cX P el=some sz)&&decide (n=qs.length)&&(match (P.info? T).bind (·.zero) with
     | some z=>decide (z.cells.size=n*sz)
     | none=>false)&&l7 ν 0 ps.toList qs
   | none=>false)
 | .JT n sz agg,.index T x i,[x',i']=>(match nL P T with
   | some (m,el)=>decide (m=n)&&decide (cX P el=some sz)&&decide (dJ P el=some agg)&&(agg||decide (sz=1))
   | none=>false)&&au ν x x'&&au ν i i'
 | _,_,_=>false
def wD(P:Program)(ν:Nat→Option Nat)(o:Op)(f:Zz)(xs:List bj):Bool:=
 match f,o,xs with
 | .UI sz bytes zero,.makeSlice T l c,[l',c']=>(match elemOf P T with
   | some e=>yh P e sz bytes zero
   | none=>false)&&au ν l l'&&au ν c c'
 | .ovl sz,.call c,[x',y']=>(match c.callee,c.args.toList with
   | .value (.func n),[x,y]=>(match P.funcs[n]? with
     | some f=>decide (f.origin = "slices.overlaps")&&decide (f.name = "slices.overlaps[sumpter/api.Entry]")&&f.body.isNone&&(match f.params[0]? with
       | some t=>(match elemOf P t with
         | some e=>decide (cX P e=some sz)
         | none=>false)
       | none=>false)
     | none=>false)&&au ν x x'&&au ν y y'
   | _,_=>false)
 | .HU sz bytes zero,.call c,[x',y']=>(match c.callee,c.args.toList,c.argTypes.toList with
   | .builtin .append,[x,y],[t,tn]=>(match elemOf P t with
     | some e=>yh P e sz bytes zero
     | none=>false)&&(match P.underlying tn with
     | some (.int _)=>true
     | _=>false)&&au ν x x'&&au ν y y'
   | _,_,_=>false)
 | .bsl sz,.buildSlice T len ps,qs=>(match elemOf P T with
   | some e=>decide (cX P e=some sz)&&decide (0 < sz)&&decide (len*sz≤2 ^ 24)&&decide (len=qs.length)&&(match (P.info? e).bind (·.zero) with
     | some z=>decide (z.cells.size=sz)
     | none=>false)&&l7 ν 0 ps.toList qs
   | none=>false)
 | .mark,.convert src dst x,[x']=>decide (src=dst)&&gV P src&&au ν x x'
 | .copy sz,.call c,[x',y']=>(match c.callee,c.args.toList,c.argTypes.toList with
   | .builtin .copy,[x,y],[t,t']=>(match elemOf P t with
     | some e=>decide (cX P e=some sz)
     | none=>false)&&au ν x x'&&au ν y y'
   | _,_,_=>false)
 | .clear sz zero,.call c,[x']=>(match c.callee,c.args.toList,c.argTypes.toList with
   | .builtin .clear,[x],[t]=>(match elemOf P t with
     | some e=>(match P.info? e with
       | some i=>yh P e sz i.bytes zero
       | none=>false)
     | none=>false)&&au ν x x'
   | _,_,_=>false)
 | .m f,o,xs=>AW P ν o f xs
 | _,_,_=>false
def J4(P:Program)(ν:Nat→Option Nat)(o:Oper)(s:aw):Bool:=
 match o.op,s with
 | .move x,.mv y=>au ν x y
 | .assign x,.mv y=>au ν x y
 | .pick c a b,.pick c' a' b'=>au ν c c'&&au ν a a'&&au ν b b'
 | .binOp op _ x y _,.int op' x' y'=>decide (op=op')&&au ν x x'&&au ν y y'
 | .binOp op _ x y _,.str op' x' y'=>decide (op=op')&&au ν x x'&&au ν y y'
 | .binOp .eql t x y _,.eq k false x' y'=>sM P t k&&au ν x x'&&au ν y y'
 | .binOp .neq t x y _,.eq k true x' y'=>sM P t k&&au ν x x'&&au ν y y'
 | .unOp .not _ x,.not y=>au ν x y
 | .unOp .neg _ x,.neg y=>au ν x y
 | .convert src dst x,.conv k y=>(P.underlying src).isSome&&decide (wH P dst=some k)&&au ν x y
 | .convert src dst x,.sG y=>(P.underlying src).isSome&&isStr P dst&&au ν x y
 | .convert src dst x,.JN y=>gV P src&&isStr P dst&&au ν x y
 | .alloc T,.alloc _ cs=>match (P.info? T).bind (·.zero) with
   | some z=>CK z.cells.toList cs
   | none=>false
 | .box T x,.box _ n y=>au ν x y
 | .build T ps,.build z qs=>(match (P.info? T).bind (·.zero) with
   | some zv=>CK zv.cells.toList z
   | none=>false)&&(match P.underlying T with
   | some (.struct fs)=>fs.toList.all fun f=>(cX P f.type).isSome
   | some (.array _ el)=>ps.toList.isEmpty&&(cX P el).isSome
   | _=>false)&&iY P ν T ps.toList qs
 | .buildSlice T len ps,.aO sz qs=>match elemOf P T with
   | some e=>decide (cX P e=some sz)&&decide (0 < sz)&&decide (len*sz≤2 ^ 24)&&decide (len=qs.length)&&(match (P.info? e).bind (·.zero) with
     | some z=>decide (z.cells.size=sz)
     | none=>false)&&l7 ν 0 ps.toList qs
   | none=>false
 | .load T x,.load agg n y=>decide (cX P T=some n)&&decide (dJ P T=some agg)&&(agg||decide (n=1))&&au ν x y
 | .store T a x,.store n a' x'=>decide (cX P T=some n)&&au ν a a'&&au ν x x'
 | .nilCheck x,.gw y=>au ν x y
 | .fieldAddr T x f,.dZ off y=>(match jO P T f with
   | some fd=>decide (fd.offset=off)&&(match cX P fd.type with
     | some (_+1)=>true
     | _=>false)
   | none=>false)&&au ν x y
 | .field T x f,.field agg off n y=>(match jO P T f with
   | some fd=>decide (fd.offset=off)&&decide (cX P fd.type=some n)&&decide (dJ P fd.type=some agg)&&(agg||decide (n=1))
   | none=>false)&&au ν x y
 | .indexAddr T x i,.idx sz y j=>(match elemOf P T with
   | some e=>decide (cX P e=some sz)
   | none=>false)&&au ν x y&&au ν i j
 | .indexAddr T x i,.sH len sz y j=>(match nL P T with
   | some (n,e)=>decide (n=len)&&decide (cX P e=some sz)
   | none=>false)&&au ν x y&&au ν i j
 | .index T x i,.jr y j=>isStr P T&&au ν x y&&au ν i j
 | .call c,.len y=>match c.callee,c.args.toList,c.argTypes.toList with
   | .builtin .len,[x],[t]=>(elemOf P t).isSome&&au ν x y
   | _,_,_=>false
 | .call c,.dF y=>match c.callee,c.args.toList,c.argTypes.toList with
   | .builtin .len,[x],[t]=>isStr P t&&au ν x y
   | _,_,_=>false
 | .call c,.app sz bytes x' y'=>match c.callee,c.args.toList,c.argTypes.toList with
   | .builtin .append,[x,y],[t,t']=>(match elemOf P t with
     | some e=>(match P.info? e with
       | some i=>decide (i.size=sz)&&decide (i.bytes=bytes)&&decide (0 < sz)&&decide (0 < bytes)&&(match i.zero with
         | some z=>decide (z.cells.size=sz)&&z.cells.all Value.oneCell'
         | none=>false)
       | none=>false)
     | none=>false)&&wI P t'&&au ν x x'&&au ν y y'
   | _,_,_=>false
 | .call c,.mm mx x' y'=>match c.callee,c.args.toList with
   | .builtin .max,[x,y]=>mx&&au ν x x'&&au ν y y'
   | .builtin .min,[x,y]=>!mx&&au ν x x'&&au ν y y'
   | _,_=>false
 | .call c,.call g ys=>match c.callee with
   | .value (.func f)=>decide (ν f=some g∧f < lS)&&j0 ν c.args.toList ys
   | _=>false
 | .call c,.er y ys=>match c.callee with
   | .value x=>au ν x y&&j0 ν c.args.toList ys
   | _=>false
 | .makeFunc (.func f) first cq,.iD g ys=>first.isEmpty&&decide (ν f=some g∧f < lS)&&j0 ν cq.toList ys
 | .extract x i,.ext y j=>decide (i=j)&&au ν x y
 | .slice T x lo hi mx,.gy sz x' x9 fo mx'=>(match elemOf P T with
   | some e=>decide (cX P e=some sz)
   | none=>false)&&au ν x x'&&eC ν lo x9&&eC ν hi fo&&eC ν mx mx'&&(mx.isNone||hi.isSome)
 | .slice T x lo hi none,.sI x' x9 fo=>isStr P T&&au ν x x'&&eC ν lo x9&&eC ν hi fo
 | .lookup T x k NC,.ba s ok agg zero x' k'=>decide (ok=NC)&&(match mapOf P T with
   | some (kt,el)=>lZ P s kt&&pJ P el agg zero
   | none=>false)&&au ν x x'&&au ν k k'
 | .unOp .xor _ x,.P5 y=>au ν x y
 | .slice T x lo hi none,.P6 n sz x' x9 fo=>(match nL P T with
   | some (m,el)=>decide (m=n)&&decide (cX P el=some sz)
   | none=>false)&&au ν x x'&&eC ν lo x9&&eC ν hi fo
 | op,.nd f xs=>J3 P ν op f xs
 | op,.cH f xs=>wD P ν op f xs
 | _,.dead=>true
 | _,_=>false
section
variable {P:Program} {w:World}
theorem run_sizeOf{T n}(h:cX P T=some n):(Go.sizeOf T).run P w = .ok n w:=by
 unfold cX at h;cases hi:P.info? T with
 | none=>simp[hi] at h
 | some i=>simp[hi] at h;simp[Go.sizeOf,typeInfo,hi,h]
theorem jh{T b}(h:dJ P T=some b):(isAgg T).run P w = .ok b w:=by
 unfold dJ at h;cases hu:P.underlying T with
 | none=>simp[hu] at h
 | some d =>
   simp only[hu,Option.map_some,Option.some.injEq] at h;simp only[isAgg,Sem.run_bind,run_underlying hu,Result.andThen_ok];cases d<;>simp_all
theorem cw{T e}(h:elemOf P T=some e):P.underlying T=some (.slice e):=by
 unfold elemOf at h;split at h<;>simp_all
theorem jN{T n e}(h:nL P T=some (n,e)):P.underlying T=some (.array n e):=by
 unfold nL at h;split at h<;>simp_all
theorem j6{T f fd}(h:jO P T f=some fd):∃fs,P.underlying T=some (.struct fs)∧fs[f]? = some fd:=by
 unfold jO at h;split at h<;>simp_all
theorem fi{T}(h:isStr P T=true):P.underlying T=some .string:=by
 unfold isStr at h;split at h<;>simp_all
theorem yq{T k}(h:wH P T=some k):P.underlying T=some (.int k):=by
 unfold wH at h;split at h<;>simp_all
end
theorem fk{P:Program}{T k e}(h:mapOf P T=some (k,e)):P.underlying T=some (.map k e):=by
 unfold mapOf at h;split at h<;>simp_all
theorem iT{ν K w}:∀{us:List Value} {cs:List HV},CK us cs=true→aC ν K w cs us∧cs.all HV.one=true
 | [],[],_=>by simp[aC]
 | [],_::_,h=>by simp[CK] at h
 | _::_,[],h=>by simp[CK] at h
 | u::us,c::cs,h=>by
   cases c<;>simp only[CK,Bool.and_eq_true,Bool.false_eq_true] at h;obtain⟨h1,h2⟩:=h;obtain⟨rfl,h3⟩:=CT h1;obtain⟨h4,h5⟩:=iT (ν:=ν) (K:=K) (w:=w) h2;exact⟨⟨u,us,rfl,by simp[rep],h4⟩,by simp only[List.all_cons,Bool.and_eq_true];exact⟨h3,h5⟩⟩
section
variable {P:Program} {D:List (Nat×List HV)} {ν:Nat→Option Nat} {w0:World} {K0:Nat→Nat} {H0:ab} {N:Nat} {e:Env} {H:ab} {a:Act} {w:World} {K μ:Nat→Nat}
theorem bY(h:St D ν w0 K0 H0 N e H a w K μ){x:Operand}{y:bj}(hk:au ν x y=true){z:EV}(hz:e.fg y=some z) :
   bO ν K w μ z (a.eval x)∧z.live e:=by
 cases x<;>cases y<;>simp only[au,Bool.false_eq_true] at hk;{rename_i t t';simp only[decide_eq_true_eq] at hk;subst hk;exact h.slot _ _ hz};{obtain⟨rfl,_⟩:=CT hk;simp only[Env.fg,Option.some.injEq] at hz;subst hz;exact⟨by simp[bO,rep,Act.eval],T_⟩};{simp only[Bool.and_eq_true,decide_eq_true_eq] at hk;simp only[Env.fg,Option.some.injEq] at hz;subst hz;exact⟨(h.hs.qD _ _ hk.1).1,T_⟩};{simp only[Bool.and_eq_true,decide_eq_true_eq] at hk;simp only[Env.fg,Option.some.injEq] at hz;subst hz;exact⟨by simp only[bO,rep,Act.eval];exact⟨_,[],hk,rfl,by simp[aC]⟩,T_⟩}
theorem aq(h:St D ν w0 K0 H0 N e H a w K μ){x:Operand}{y:bj}(hk:au ν x y=true){z:HV}(hz:e.hv y=some z) :
   rep ν K w z (a.eval x):=by
 unfold Env.hv at hz;split at hz;{simp only[Option.some.injEq] at hz;subst hz;rename_i h1;exact(bY h hk h1).1};{cases hz}
theorem ji(h:St D ν w0 K0 H0 N e H a w K μ):∀{xs:List Operand} {ys:List bj},j0 ν xs ys=true→∀{zs:List HV},e.cJ ys=some zs→aC ν K w zs (xs.map a.eval)
 | [],[],_,zs,hz=>by simp[Env.cJ] at hz;subst hz;simp[aC]
 | [],_::_,hk,_,_=>by simp[j0] at hk
 | _::_,[],hk,_,_=>by simp[j0] at hk
 | x::xs,y::ys,hk,zs,hz=>by
   simp only[j0,Bool.and_eq_true] at hk;simp only[Env.cJ] at hz;split at hz;{rename_i h' eP h1 h2;simp only[Option.some.injEq] at hz;subst hz;exact⟨_,_,rfl,aq h hk.1 h1,ji h hk.2 h2⟩};{cases hz}
end
end Sm
namespace Sm
open Go
theorem ti{ν K w}:∀{hs:List HV} {us:List Value},aC ν K w hs us→∀{i:Nat} {h:HV},hs[i]? = some h→∃u,us[i]? = some u∧rep ν K w h u
 | [],us,_,i,h,hi=>by simp at hi
 | g::hs,us,hr,i,h,hi=>by
   obtain⟨u,dr,rfl,h1,h2⟩:=hr;cases i with
   | zero=>simp at hi;subst hi;exact⟨u,rfl,h1⟩
   | succ i=>simpa using ti h2 (by simpa using hi)
theorem cC{ν K w}:∀(n:Nat) {hs:List HV} {us:List Value},aC ν K w hs us→aC ν K w (hs.drop n) (us.drop n)
 | 0,_,_,h=>h
 | n+1,[],us,h=>by simp[aC] at h;subst h;simp[aC]
 | n+1,g::hs,us,hr=>by
   obtain⟨u,dr,rfl,h1,h2⟩:=hr;simpa using cC n h2
theorem cB{ν K w}:∀(n:Nat) {hs:List HV} {us:List Value},aC ν K w hs us→aC ν K w (hs.take n) (us.take n)
 | 0,_,_,h=>by simp[aC]
 | n+1,[],us,h=>by simp[aC] at h;subst h;simp[aC]
 | n+1,g::hs,us,hr=>by
   obtain⟨u,dr,rfl,h1,h2⟩:=hr;exact⟨u,dr.take n,by simp,h1,cB n h2⟩
theorem cA{ν K w}:∀{hs eP:List HV} {us dr:List Value},aC ν K w hs us→aC ν K w eP dr→aC ν K w (hs++eP) (us++dr)
 | [],_,us,dr,h,h'=>by simp[aC] at h;subst h;simpa using h'
 | g::hs,_,us,dr,hr,h'=>by
   obtain⟨u,L6,rfl,h1,h2⟩:=hr;exact⟨u,L6++dr,by simp,h1,cA h2 h'⟩
theorem jl{ν K w h u}(he:h.el=true)(hr:rep ν K w h u):aC ν K w h.cells u.cells.toList∧h.cells.all HV.one=true:=by
 cases h with
 | ag cs=>simp only[rep] at hr;obtain⟨us,rfl,h1,h2⟩:=hr;exact⟨by simpa[HV.cells,Value.cells] using h2,h1⟩
 | tu vs=>simp[HV.el,HV.one] at he
 | v x =>
   simp only[rep] at hr;subst hr;have hx:u.oneCell'=true:=he;have:u.cells=#[u]:=by cases u<;>simp_all[Value.oneCell',Value.cells]
   exact⟨by rw[this];simp[HV.cells,aC,rep],by simp only[HV.cells,List.all_cons,List.all_nil,Bool.and_true];exact hx⟩
 | sl tk sz es =>
   have yM:=hr;simp only[rep] at hr;obtain⟨A,cap,aR,rfl,_⟩:=hr;exact⟨by simp only[HV.cells,Value.cells,aC];exact⟨_,[],rfl,yM,rfl⟩,rfl⟩
 | rp cs =>
   have yM:=hr;simp only[rep] at hr;obtain⟨b,off,us,rfl,_⟩:=hr;exact⟨by simp only[HV.cells,Value.cells,aC];exact⟨_,[],rfl,yM,rfl⟩,rfl⟩
 | fn g cq =>
   have yM:=hr;simp only[rep] at hr;obtain⟨n,us,_,rfl,_⟩:=hr;exact⟨by simp only[HV.cells,Value.cells,aC];exact⟨_,[],rfl,yM,rfl⟩,rfl⟩
 | fm g r =>
   have yM:=hr;simp only[rep] at hr;obtain⟨n,us,_,rfl,_⟩:=hr;exact⟨by simp only[HV.cells,Value.cells,aC];exact⟨_,[],rfl,yM,rfl⟩,rfl⟩
theorem p8(h:HV):h.cells.length=h.aN:=by cases h<;>rfl
theorem yN{ν K w sz}:∀{es:List HV} {aR:List Value},aC ν K w es aR→es.all HV.el=true→(∀e∈es,e.aN=sz)→∀{i:Nat} {h:HV},es[i]? = some h →
   ∃u,rep ν K w h u∧h.el=true∧aR[i]? = some u∧∀j x,u.cells.toList[j]? = some x→(flat aR)[i*sz+j]? = some x
 | [],_,_,_,_,i,h,hi=>by simp at hi
 | g::es,aR,hr,ha,hs,i,h,hi=>by
   obtain⟨u,dr,rfl,h1,h2⟩:=hr;simp only[List.all_cons,Bool.and_eq_true] at ha;have da:=cF ha.1 h1;have hg:=hs g (by simp)
   cases i with
   | zero =>
     simp at hi;subst hi;refine⟨u,h1,ha.1,rfl,fun j x hx=>?_⟩;have hj:j < u.cells.toList.length:=by
       rcases Nat.lt_or_ge j u.cells.toList.length with h | h;{exact h};{rw[List.getElem?_eq_none h] at hx;cases hx}
     simp only[flat,List.flatMap_cons,Nat.zero_mul,Nat.zero_add];rw[List.getElem?_append_left hj];exact hx
   | succ i =>
     obtain⟨v,hv1,Mf,hv3,hv4⟩:=yN h2 ha.2 (fun e he=>hs e (by simp[he])) (i:=i) (h:=h) (by simpa using hi)
     refine⟨v,hv1,Mf,by simpa using hv3,fun j x hx=>?_⟩
     simp only[flat,List.flatMap_cons];have hl:u.cells.toList.length=sz:=by rw[Array.length_toList,da,hg]
     rw[List.getElem?_append_right (by rw[hl,Nat.add_mul];omega),hl]
     have:=hv4 j x hx;simp only[flat] at this;rw[show (i+1)*sz+j - sz=i*sz+j by rw[Nat.add_mul];omega]
     exact this
theorem bQ{w:World}{b:Nat}{us:Array Value}{T fr}(h:w.heap[b]? = some (.cells us T fr)):cU w b 0 us.toList:=by
 intro j x hx;simp only[Nat.zero_add];rw[cell_of_row w b j us T fr h];simpa using hx
theorem dL{w:World}{b o:Nat}{us:List Value}(h:cU w b o us)(k:Nat):cU w b (o+k) (us.drop k):=by
 intro j x hx;rw[List.getElem?_drop] at hx;have:=h (k+j) x hx
 rwa [show o+k+j=o+(k+j) by omega]
theorem bl{w:World}{b o:Nat}{us:List Value}(h:cU w b o us)(k:Nat):cU w b o (us.take k):=by
 intro j x hx;refine h j x ?_;rw[List.getElem?_take] at hx;split at hx;{exact hx};{cases hx}
theorem cZ(b o n:Nat):Addr.add ⟨b,o,none⟩ n=⟨b,o+n,none⟩:=by unfold Addr.add;split<;>simp_all
section
variable {P:Program} {w:World}
theorem Bv{T:TypeId}{n:Nat}{agg:Bool}(hn:cX P T=some n)(ha:dJ P T=some agg)(h1:(agg||decide (n=1))=true){b o:Nat}{us:List Value}
   (hl:us.length=n) (hc:cU w b o us) :
   ∃u,(Instr.loadAt T (.pointer (some ⟨b,o,none⟩))).run P w = .ok u w∧(if agg then u = .agg us.toArray else us=[u]):=by
 cases agg with
 | true =>
   refine⟨.agg us.toArray,?_,by simp⟩
   simp only[Instr.loadAt,Instr.sureAddr,pure_bind,loadVar,Sem.run_bind,jh ha,Result.andThen_ok,if_true,run_sizeOf hn];have:=run_loadCells_list (P:=P) w ⟨b,o,none⟩ us (fun j v hj=>by rw[cZ];exact hc j v hj)
   rw[hl] at this;simp[this]
 | false =>
   simp at h1;subst h1
   match us,hl with
   | [u],_ =>
     refine⟨u,?_,by simp⟩
     have hu:w.cell? ⟨b,o,none⟩=some u:=by simpa using hc 0 u rfl
     simp[Instr.loadAt,Instr.sureAddr,loadVar,jh ha,hu]
end
theorem yO{ν:Nat→Option Nat}{K:Nat→Nat}{w:World}{P:Program}{T:TypeId}{n:Nat}{agg:Bool}(hn:cX P T=some n)(ha:dJ P T=some agg)(h1:(agg||decide (n=1))=true)
   {b o off:Nat} {cs:List HV} {us:List Value} (hr:aC ν K w cs us) (gu:cs.all HV.one=true) (hc:cU w b o us) {x:HV} (hx:cP agg n off cs=some x) :
   ∃u,(Instr.loadAt T (.pointer (some ⟨b,o+off,none⟩))).run P w = .ok u w∧rep ν K w x u:=by
 unfold cP at hx;split at hx
 case isFalse=>cases hx
 case isTrue hle =>
   have hlen:=aK hr;have yM:=cB n (cC off hr);obtain⟨u,JU,CJ⟩:=Bv (P:=P) (w:=w) hn ha h1 (us:=(us.drop off).take n) (by rw[List.length_take,List.length_drop];omega) (bl (dL hc off) n)
   refine⟨u,JU,?_⟩;unfold ZB at hx;cases agg with
   | true =>
     simp only[if_true,Option.some.injEq] at hx CJ;subst hx;subst CJ;refine⟨_,rfl,?_,yM⟩;rw[List.all_eq_true] at gu ⊢;exact fun z hz=>gu z (List.mem_of_mem_drop (List.mem_of_mem_take hz))
   | false =>
     simp only[Bool.false_eq_true,if_false] at hx CJ;split at hx;{rename_i g hg;simp only[Option.some.injEq] at hx;subst hx;rw[hg,CJ] at yM;obtain⟨v,vs,h3,h4,h5⟩:=yM;simp only[List.cons.injEq] at h3;rw[h3.1];exact h4};{cases hx}
theorem Aap{h:HV}(he:h.one=true):h.el=true:=by cases h<;>simp_all[HV.one,HV.el]
end Sm
