/-
  D18,D19,D20,D21,D22,D23,D24,D25
-/
import Derived.Test.YtegmmhldpmmkeaaGreatDoorSmDC
import Derived.Test.YtegmmhldpmmkeaaGreatDoorSmTB
set_option linter.unusedVariables false
set_option linter.unusedSimpArgs false
set_option maxRecDepth 10000
set_option maxHeartbeats 1000000
namespace Sm
open Go
attribute [local irreducible] aH aj aX bk aA aL bn DK RK JK BR G3 bh Spec Tok Fr CV
end Sm
namespace Sm
open Go
abbrev nI:HV:=.v (.pointer none)
attribute [local irreducible] aH aj aX bk aA aL bn DK RK JK BR G3 bh Spec Tok Fr CV
end Sm
namespace Sm
open Go
def du(n:Nm):HV:=.ag [S n.path,B n.dir,I n.id]
def pX(c:di):HV:=.ag [.sl .no 3 (c.gone.map du),.sl .no 3 (c.cN.map du)]
def fP(f:Fl):HV:=.ag [S f.b,I f.safe]
def ec(d:Dk):HV:=.ag [I d.room,.sl .no 3 (d.sure.map du),.sl .no 2 (d.loose.map pX),.sl .no 2 (d.f.map fP),B d.down,I d.ops,I d.aD,B d.done,I d.aE]
theorem aY:(∀n:Nm,du n = .ag [S n.path,B n.dir,I n.id])∧(∀c:di,pX c = .ag [.sl .no 3 (c.gone.map du),.sl .no 3 (c.cN.map du)])∧(∀f:Fl,fP f = .ag [S f.b,I f.safe])∧(∀d:Dk,ec d = .ag [I d.room,.sl .no 3 (d.sure.map du),.sl .no 2 (d.loose.map pX),.sl .no 2 (d.f.map fP),B d.down,I d.ops,I d.aD,B d.done,I d.aE])∧(∀e:ry,dX e = .ag [S e.path,B e.dir,.sl .no 1 (e.data.map U)]):=⟨fun _=>rfl,fun _=>rfl,fun _=>rfl,fun _=>rfl,fun _=>rfl⟩
def GA(H0 H:ab)(sz:Nat)(v:HV)(es:List HV):Prop:=(v = .v (.slice none 0 0)∧es=[])∨∃tk,v = .sl tk sz es∧Tok H tk es.length sz∧jQ H0 tk
theorem GA.nil(H0 H:ab)(sz:Nat):GA H0 H sz (.v (.slice none 0 0)) []:=.inl ⟨rfl,rfl⟩
theorem GA.fr{H0 H X:ab}{sz:Nat}{v:HV}{es:List HV}(h:GA H0 H sz v es)(hf:Fr [] H X):GA H0 X sz v es:=by
 rcases h with h | ⟨tk,h1,h2,h3⟩;{exact .inl h};{exact .inr ⟨tk,h1,h2.fr' hf (by simp),h3⟩}
theorem GA.Bi{H0 H:ab}{sz:Nat}{v:HV}{es:List HV}(h:GA H0 H sz v es):an v (.sl .no sz es):=by
 rcases h with⟨rfl,rfl⟩ | ⟨tk,rfl,h2,h3⟩;{exact an.dO sz};{exact an.drop _ _ _}
theorem GA.full(H0 H:ab)(sz:Nat)(es:List HV):GA H0 H sz (.sl .full sz es) es:=.inr ⟨.full,rfl,Tok.ful _ _ _,by simp[jQ,tb]⟩
theorem eU{S':aJ}{sl:List (Nat×EV)}{bx:List (Nat×List HV)}{H0 H:ab}{K:Env→ab→Prop}{os:List aF}{d sz bytes:Nat}{x y:bj}{yA:Tk}{v:HV}{es ys:List HV}(hG:GA H0 H sz v es)(hf:Fr [] H0 H)(hx:(M sl bx).hv x=some v)(hy:(M sl bx).hv y=some (.sl yA sz ys))(hl:(es.length+ys.length)*bytes≤140737488355328)
   (hk:∀v' X,GA H0 X sz v' (es++ys)→Fr [] H0 X→aj S' os (M ((d,.h v')::sl) bx) X K):aj S' (⟨some d,.app sz bytes x y,none⟩::os) (M sl bx) H K:=by
 rcases hG with⟨rfl,rfl⟩ | ⟨tk,rfl,h2,h3⟩
 · refine Ko hx hy (by simpa using hl) (fun h0=>?_) fun fC X h0 h1 h4=>?_
   · subst h0;exact hk _ _ (GA.nil _ _ _) hf
   · exact hk _ _ (.inr ⟨fC,by simp,by simpa using h1,(show jQ H0 .full by simp[jQ,tb]).Ia hf h4⟩) (hf.Ia (show jQ H0 .full by simp[jQ,tb]) h4)
 · refine vk hx hy h2 hl fun fC X h1 h4=>?_;exact hk _ _ (.inr ⟨fC,rfl,by simpa using h1,h3.Ia hf h4⟩) (hf.Ia h3 h4)
theorem Ky{α:Type}{p:α→Bool}:∀{l:List α} {i:Nat},i≤l.length→(∀y∈l.take i,p y=true)→(∀h:i < l.length,p l[i]=false)→l.takeWhile p=l.take i∧l.dropWhile p=l.drop i
 | [],i,h,_,_=>by simp at h;subst h;simp
 | a::l,0,_,_,h=>by
   have:=h (by simp)
   simp only[List.getElem_cons_zero] at this;simp[this]
 | a::l,i+1,h1,h2,h3=>by
   have ha:p a=true:=h2 a (by simp)
   have:=Ky (l:=l) (i:=i) (by simpa using h1) (fun y hy=>h2 y (by simp[hy])) (fun h=>h3 (Nat.succ_lt_succ h))
   simp[ha,this.1,this.2]
attribute [local irreducible] aH aj aX bk aA aL bn DK RK JK BR G3 bh Spec Tok Fr CV
theorem Bj(L:ai code)(l:List Nm)(x:Nm)(hl:l.length < 1048576)(ho:∀e∈l,e.path.length≤1048576)(hx:x.path.length≤1048576):aU L 370 [.sl .no 3 (l.map du),du x] (.sl .no 3 ((eR l x).map du)):=by
 intro H K hk;refine ah L Dv rfl ?_;refine J_ aY ?_;refine aV (ak L) (fun(i:Nat)=>[(0,.h (.sl .no 3 (l.map du))),(3,.lp 0 0),(5,.h (I i))]) (fun _=>[(0,[S x.path,B x.dir,I x.id])])
   (fun i H'=>i≤l.length∧Fr [] H H'∧∀y∈l.take i,ck y.path x.path=true) (fun i=>l.length - i) 0 ?_ ⟨by simp,Fr.refl _ _,by simp⟩ ?_
 · exact E_
 rintro i H' ⟨hi,hf,gO⟩;refine J_ aY ?_;cases c1:decide ((i:Int) < (l.length:Int))
 case false =>
   have fo:i=l.length:=by
     have:¬i < l.length:=by simpa using c1
     omega
   have hla:eR l x=l.take i++[x]++l.drop i:=by
     obtain⟨e1,e2⟩:=Ky hi gO (fun h=>by omega)
     rw[eR,e1,e2];simp
   refine J_ aY ?_;apply wK (k:=i);rfl;rfl;rfl;(focus (simp;omega));refine J_ aY ?_;apply wL (k:=i);rfl;rfl;rfl;(focus (simp;omega));refine J_ aY ?_;rw[←List.map_take,←List.map_drop];refine eU (GA.nil H H' 3) hf rfl rfl (by simp;omega) fun v1 X1 g1 f1=>?_
   refine J_ aY ?_;refine eU (ys:=[du x]) g1 f1 rfl rfl (by simp;omega) fun v2 X2 g2 f2=>?_
   refine J_ aY ?_;refine eU g2 f2 rfl rfl (by simp;omega) fun v3 X3 g3 f3=>?_
   have e3:[]++(l.take i).map du++[du x]++(l.drop i).map du=(eR l x).map du:=by rw[hla];simp
   rw[e3] at g3;refine J_ aY ?_;exact b7 g3.Bi (hk X3 f3)
 have fo:i < l.length:=by simpa using c1
 have kR:=List.getElem_mem fo;have hs:=List.take_succ_eq_append_getElem fo;have Qi:∀h:i < l.length,l[i]=l[i]:=fun _=>rfl;refine K_ aY ?_;refine Bk L l[i].path x.path (ho _ kR) hx H' _ fun H2 f2=>?_;have Zx:=hf.trans f2;refine J_ aY ?_;cases c2:ck l[i].path x.path
 case true =>
   refine J_ aY ?_;refine dG (i+1) (by omega) ⟨by omega,Zx,fun y hy=>?_⟩ ?_
   · rw[hs] at hy;rcases List.mem_append.mp hy with hy | hy;{exact gO y hy};{rw[List.mem_singleton] at hy;subst hy;exact c2}
   · exact E_
 case false =>
   have hla:eR l x=l.take i++[x]++l.drop i:=by
     obtain⟨e1,e2⟩:=Ky hi gO (fun _=>c2);rw[eR,e1,e2];simp
   refine J_ aY ?_;apply wK (k:=i);rfl;rfl;rfl;(focus (simp;omega));refine J_ aY ?_;apply wL (k:=i);rfl;rfl;rfl;(focus (simp;omega));refine J_ aY ?_;rw[←List.map_take,←List.map_drop];refine eU (GA.nil H H2 3) Zx rfl rfl (by simp;omega) fun v1 X1 g1 f1=>?_
   refine J_ aY ?_;refine eU (ys:=[du x]) g1 f1 rfl rfl (by simp;omega) fun v2 X2 g2 f2=>?_
   refine J_ aY ?_;refine eU g2 f2 rfl rfl (by simp;omega) fun v3 X3 g3 f3=>?_
   have e3:[]++(l.take i).map du++[du x]++(l.drop i).map du=(eR l x).map du:=by rw[hla];simp
   rw[e3] at g3;refine J_ aY ?_;exact b7 g3.Bi (hk X3 f3)
end Sm
namespace Sm
open Go
theorem Kz{α:Type}{p:α→Bool}{l:List α}{i:Nat}(h:i < l.length):(l.take (i+1)).any p=((l.take i).any p||p l[i]):=by
 rw[List.take_succ_eq_append_getElem h,List.any_append];simp only[List.any_cons,List.any_nil,Bool.or_false]
theorem Bl{α β:Type}{f:β→α→β}{l:List α}{i:Nat}{b:β}(h:i < l.length):(l.take (i+1)).foldl f b=f ((l.take i).foldl f b) l[i]:=by
 rw[List.take_succ_eq_append_getElem h,List.foldl_append];rfl
theorem Ie(cs:List Nm):∀l:List Nm,(cs.foldl eR l).length=l.length+cs.length:=by
 induction cs with
 | nil=>intro l;rfl
 | cons c cs ih=>intro l;rw[List.foldl_cons,ih,ve,List.length_cons];omega
theorem Ig{P:Nm→Prop}(cs:List Nm):∀l:List Nm,(∀x∈l,P x)→(∀x∈cs,P x)→∀x∈cs.foldl eR l,P x:=by
 induction cs with
 | nil=>intro l h _;exact h
 | cons c cs ih =>
   intro l h hc;rw[List.foldl_cons];refine ih _ (fun x hx=>?_) (fun x hx=>hc x (by simp[hx]))
   rcases (vd).mp hx with h1 | h1;{subst h1;exact hc _ (by simp)};{exact h x h1}
attribute [local irreducible] aH aj aX bk aA aL bn DK RK JK BR G3 bh Spec Tok Fr CV GA
theorem Bn(L:ai code)(l:List Nm)(c:di)(hl:l.length < 1048000)(ho:∀e∈l,e.path.length≤1048576)(hc:∀e∈c.cN,e.path.length≤1048576):aU L 368 [.sl .no 3 (l.map du),pX c] (.sl .no 3 ((iF l c).map du)):=by
 intro H K hk;have hgl:c.gone.length≤2:=by unfold di.gone;split<;>simp
 have va:c.cN.length≤1:=by unfold di.cN;split<;>simp
 refine ah L Dw rfl ?_;refine J_ aY ?_;refine aV (ak L) (fun(q:Nat×HV)=>[(0,.h (.sl .no 3 (l.map du))),(3,.lp 0 0),(5,.h q.2),(6,.h (I q.1))]) (fun _=>[(0,[.sl .no 3 (c.gone.map du),.sl .no 3 (c.cN.map du)])])
   (fun q H'=>q.1≤l.length∧Fr [] H H'∧GA H H' 3 q.2 (((l.take q.1).filter fun n=>!eS c n).map du)) (fun q=>l.length - q.1) (0,_) ?_ ⟨by simp,Fr.refl _ _,GA.nil _ _ _⟩ ?_
 · exact E_
 rintro⟨i,v⟩ H' ⟨hi,hf,hg⟩;dsimp only at hi hf hg ⊢;refine J_ aY ?_;(refine ct aY ?_ ?_<;>intro h)
 · have fo:i < l.length:=by simpa using h
   have hs:=List.take_succ_eq_append_getElem fo;have kR:=List.getElem_mem fo;have gA:=List.length_filter_le (fun n=>!eS c n) (l.take i);rw[List.length_take] at gA;refine J_ aY ?_;refine aV (ak L) (fun(k:Nat)=>[(0,.h (.sl .no 3 (l.map du))),(3,.lp 0 0),(5,.h v),(6,.h (I i)),(7,.h (B ((c.gone.take k).any fun g=>g.path==l[i].path))),(8,.h (I k))]) (fun _=>[(0,[.sl .no 3 (c.gone.map du),.sl .no 3 (c.cN.map du)])])
     (fun k X=>k≤c.gone.length∧X=H') (fun k=>c.gone.length - k) 0 ?_ ⟨by simp,rfl⟩ ?_
   · exact E_
   rintro k X ⟨gF,rfl⟩;refine J_ aY ?_;(refine ct aY ?_ ?_<;>intro h2)
   · have ja:k < c.gone.length:=by simpa using h2
     have jJ:=Kz (p:=fun g:Nm=>g.path==l[i].path) ja;refine J_ aY ?_;cases c1:(c.gone.take k).any fun g=>g.path==l[i].path
     case true =>
       rw[c1,Bool.true_or] at jJ;refine J_ aY ?_;refine dG (k+1) (by omega) ⟨by omega,rfl⟩ ?_
       (refine bw ?_ ?_ ?_<;>(repeat refine bE (And.intro aY jJ) ?_)<;>exact bA)
     rw[c1,Bool.false_or] at jJ;refine J_ aY ?_;refine dG (k+1) (by omega) ⟨by omega,rfl⟩ ?_
     (refine bw ?_ ?_ ?_<;>(repeat refine bE (And.intro aY jJ) ?_)<;>exact bA)
   have ja:k=c.gone.length:=by
     have:¬k < c.gone.length:=by simpa using h2
     omega
   subst ja;rw[List.take_length];have NQ:(c.gone.any fun g=>g.path==l[i].path)=eS c l[i]:=rfl;rw[NQ];refine J_ aY ?_;cases c3:eS c l[i]
   case true =>
     simp only[Bool.not_true];refine J_ aY ?_;refine dG (i+1,v) (by simp only;omega) ⟨by simp only;omega,hf,?_⟩ ?_
     · simp only[hs,List.filter_append,List.map_append];simpa[c3] using hg
     · exact E_
   simp only[Bool.not_false];refine J_ aY ?_;refine eU (ys:=[du l[i]]) hg hf rfl rfl (by simp only[List.length_map,List.length_cons,List.length_nil];omega) fun v1 X1 g1 f1=>?_
   refine J_ aY ?_;refine dG (i+1,v1) (by simp only;omega) ⟨by simp only;omega,f1,?_⟩ ?_
   · simp only[hs,List.filter_append,List.map_append];simpa[c3] using g1
   · exact E_
 have fo:i=l.length:=by
   have:¬i < l.length:=by simpa using h
   omega
 subst fo;rw[List.take_length] at hg;have gA:=List.length_filter_le (fun n=>!eS c n) l;have hof:∀e∈l.filter (fun n=>!eS c n),e.path.length≤1048576:=fun e he=>ho e (List.mem_filter.mp he).1;unfold iF at hk;generalize l.filter (fun n=>!eS c n)=m at *;refine J_ aY ?_;refine aV (ak L) (fun(q:Nat×HV)=>[(3,.lp 0 0),(5,.h q.2),(9,.h (I q.1))]) (fun _=>[(0,[.sl .no 3 (c.gone.map du),.sl .no 3 (c.cN.map du)])])
   (fun q X=>q.1≤c.cN.length∧Fr [] H X∧an q.2 (.sl .no 3 (((c.cN.take q.1).foldl eR m).map du))) (fun q=>c.cN.length - q.1) (0,v) ?_ ⟨by simp,hf,hg.Bi⟩ ?_
 · exact E_
 rintro⟨k,w⟩ X ⟨gF,Dq,hw⟩;dsimp only at gF Dq hw ⊢;refine J_ aY ?_;(refine ct aY ?_ ?_<;>intro h2)
 · have ja:k < c.cN.length:=by simpa using h2
   have hft:=Bl (f:=eR) (b:=m) ja;have NR:=Ie (c.cN.take k) m;rw[List.length_take] at NR;refine K_ aY ?_;refine eM (eP:=[.sl .no 3 (((c.cN.take k).foldl eR m).map du),du c.cN[k]]) (show bo [w,du c.cN[k]] _ from⟨hw,an.refl _,T_⟩) ?_;refine Bj L ((c.cN.take k).foldl eR m) c.cN[k] (by omega) (Ig _ _ hof fun x hx=>hc x (List.mem_of_mem_take hx)) (hc _ (List.getElem_mem ja)) X _ fun X2 f2=>?_
   refine J_ aY ?_;refine dG (k+1,_) (by simp only;omega) ⟨by simp only;omega,Dq.trans f2,by rw[hft];exact an.refl _⟩ ?_
   exact E_
 have ja:k=c.cN.length:=by
   have:¬k < c.cN.length:=by simpa using h2
   omega
 subst ja;rw[List.take_length] at hw;refine J_ aY ?_;exact b7 hw (hk X Dq)
end Sm
namespace Sm
open Go
def yD(o:Option Nm):Nm:=o.getD ⟨[],false,0⟩
theorem Dk.WF.Adm{d:Dk}{n m:Nat}(h:d.WF n m)(i:Nat):(br d.sure (d.loose.take i)).length≤n∧∀x∈br d.sure (d.loose.take i),dq x.path=0:=by
 have h1:=kT (d.loose.take i) d.sure;have h2:(d.loose.take i).length≤d.loose.length:=by rw[List.length_take];omega
 have:=h.len;exact⟨by omega,kx (P:=fun x=>dq x.path=0) (fun x hx=>(h.ids x hx).2.2) fun c hc x hx=>((h.sG c (List.mem_of_mem_take hc)).1 x hx).2.2⟩
theorem Ih{α:Type}{p:α→Bool}{l:List α}{i:Nat}(h:i < l.length)(hn:∀y∈l.take i,p y=false)(hp:p l[i]=true):l.find? p=some l[i]:=by
 rw[List.find?_eq_some_iff_getElem];exact⟨hp,i,h,rfl,fun j hj=>by
   have:=hn (l[j]'(by omega)) (List.mem_take_iff_getElem.mpr ⟨j,by omega,rfl⟩)
   rw[this];rfl⟩
attribute [local irreducible] aH aj aX bk aA aL bn DK RK JK BR G3 bh Spec Tok Fr CV GA
theorem gj(L:ai code)(d:Dk)(n m:Nat)(hw:d.WF n m)(hn:n < 1048000):aU L 352 [ec d] (.sl .no 3 (d.now.map du)):=by
 intro H K hk;have B2:=hw.len;refine ah L Dx rfl ?_;refine J_ aY ?_;refine aV (ak L) (fun(q:Nat)=>[(1,.lp 0 0),(3,.h (.sl .no 3 ((br d.sure (d.loose.take q)).map du))),(4,.h (I q))]) (fun _=>[(0,[I d.room,.sl .no 3 (d.sure.map du),.sl .no 2 (d.loose.map pX),.sl .no 2 (d.f.map fP),B d.down,I d.ops,I d.aD,B d.done,I d.aE])])
   (fun q X=>q≤d.loose.length∧Fr [] H X) (fun q=>d.loose.length - q) 0 ?_ ⟨by simp,Fr.refl _ _⟩ ?_
 · exact E_
 rintro k X ⟨gF,hf⟩;refine J_ aY ?_;(refine ct aY ?_ ?_<;>intro h2)
 · have ja:k < d.loose.length:=by simpa using h2
   have hs:=qP (l:=d.sure) ja;have ht:=hw.Adm k;refine K_ aY ?_;refine Bn L (br d.sure (d.loose.take k)) d.loose[k] (by omega) (fun e he=>by have:=mi (ht.2 e he);omega) (fun e he=>by have:=mi ((hw.sG _ (List.getElem_mem ja)).1 e he).2.2;omega) X _ fun X2 f2=>?_
   rw[←hs];refine J_ aY ?_;refine dG (k+1) (by omega) ⟨by omega,hf.trans f2⟩ ?_
   exact E_
 have ja:k=d.loose.length:=by
   have:¬k < d.loose.length:=by simpa using h2
   omega
 subst ja;have rA:br d.sure (d.loose.take d.loose.length)=d.now:=by rw[List.take_length];rfl
 rw[rA];refine J_ aY ?_;exact aa (hk X hf)
theorem eE(L:ai code)(d:Dk)(p:List UInt8)(n m:Nat)(hw:d.WF n m)(hn:n < 1048000):aU L 358 [ec d,S p] (.tu [du (yD (bG d.now p)),B (bG d.now p).isSome]):=by
 intro H K hk;have hlen:=hw.eT;refine ah L Dy rfl ?_;refine K_ aY ?_;refine gj L d n m hw hn H _ fun X1 f1=>?_;refine J_ aY ?_;unfold bG at hk;generalize d.now=l at *;refine aV (ak L) (fun(q:Nat)=>[(1,.h (S p)),(4,.lp 1 0),(5,.h (B false)),(6,.h (.sl .no 3 (l.map du))),(7,.h (I q))]) (fun _=>[(1,[S [],B false,I 0])])
   (fun q X=>q≤l.length∧X=X1∧∀y∈l.take q,(y.path==p)=false) (fun q=>l.length - q) 0 ?_ ⟨by simp,rfl,by simp⟩ ?_
 · exact E_
 rintro k X ⟨gF,rfl,gO⟩;refine J_ aY ?_;(refine ct aY ?_ ?_<;>intro h2)
 · have ja:k < l.length:=by simpa using h2
   have hs:=List.take_succ_eq_append_getElem ja;refine J_ aY ?_;cases c1:l[k].path==p
   case true =>
     have QE:=Ih (p:=fun n:Nm=>n.path==p) ja gO c1;rw[QE] at hk;refine J_ aY ?_;exact aa (hk X f1)
   refine J_ aY ?_;refine dG (k+1) (by omega) ⟨by omega,rfl,fun y hy=>?_⟩ ?_
   · rw[hs] at hy;rcases List.mem_append.mp hy with hy | hy;{exact gO y hy};{rw[List.mem_singleton] at hy;subst hy;exact c1}
   · exact E_
 have ja:k=l.length:=by
   have:¬k < l.length:=by simpa using h2
   omega
 subst ja;rw[List.take_length] at gO;have QE:l.find? (fun n=>n.path==p)=none:=List.find?_eq_none.mpr fun x hx=>by rw[gO x hx];decide
 rw[QE] at hk;refine J_ aY ?_;exact aa (hk X f1)
theorem s7(L:ai code)(d:Dk)(p:List UInt8)(hp:p.length≤1048576)(n m:Nat)(hw:d.WF n m)(hn:n < 1048000):aU L 360 [ec d,S p] (I (iG d.now p)):=by
 intro H K hk;unfold iG at hk;refine ah L Dz rfl ?_;refine K_ aY ?_;refine oK L p hp _ _ ?_;refine J_ aY ?_;cases c1:fJ p==[]
 case true =>
   rw[if_pos (by simpa using c1)] at hk
   refine J_ aY ?_;exact aa (hk H (Fr.refl _ _))
 rw[if_neg (by simpa using c1)] at hk
 refine K_ aY ?_;refine eE L d (fJ p) n m hw hn H _ fun X1 f1=>?_;cases c2:bG d.now (fJ p) with
 | none =>
   rw[c2] at hk;simp only[yD,Option.getD,Option.isSome];refine J_ aY ?_;exact aa (hk X1 f1)
 | some x =>
   rw[c2] at hk;simp only[yD,Option.getD,Option.isSome];refine J_ aY ?_;cases c3:x.dir
   case true =>
     simp only[c3,if_true,Bool.not_true] at hk ⊢;refine J_ aY ?_;exact aa (hk X1 f1)
   simp only[c3,Bool.false_eq_true,if_false,Bool.not_false] at hk ⊢;refine J_ aY ?_;exact aa (hk X1 f1)
theorem iq(L:ai code)(d:Dk)(p:List UInt8)(n m:Nat)(hw:d.WF n m)(hn:n < 1048000):aU L 355 [ec d,S p] (.tu [du (yD (bG d.now p)),I (bZ d.now p)]):=by
 intro H K hk;unfold bZ at hk;refine ah L DA rfl ?_;refine K_ aY ?_;refine eE L d p n m hw hn H _ fun X1 f1=>?_;cases c2:bG d.now p with
 | none =>
   rw[c2] at hk;simp only[yD,Option.getD,Option.isSome] at hk ⊢;refine J_ aY ?_;exact aa (hk X1 f1)
 | some x =>
   rw[c2] at hk;obtain⟨xp,xd,xi⟩:=x;simp only[yD,Option.getD,Option.isSome] at hk ⊢;refine J_ aY ?_;cases xd
   case true =>
     simp only[if_true] at hk ⊢;refine J_ aY ?_;exact aa (hk X1 f1)
   simp only[Bool.false_eq_true,if_false] at hk ⊢;refine J_ aY ?_;exact aa (hk X1 f1)
end Sm
namespace Sm
open Go
theorem GA.one{H0 H:ab}{sz:Nat}{v:HV}{es:List HV}(h:GA H0 H sz v es):v.one=true∧v.el=true∧v.aN=1∧v.cells=[v]:=by
 rcases h with⟨rfl,rfl⟩ | ⟨tk,rfl,_⟩<;>exact⟨rfl,rfl,rfl,rfl⟩
theorem yE:∀(vs:List HV) (A B C:List HV),B.length=vs.length→bu (A++B++C) A.length vs=A++vs++C
 | [],A,B,C,h=>by
   have:B=[]:=List.eq_nil_of_length_eq_zero (by simpa using h)
   subst this;simp[bu]
 | v::vs,A,[],C,h=>by simp at h
 | v::vs,A,b::B,C,h=>by
   rw[bu];have e1:(A++b::B++C).set A.length v=(A++[v])++B++C:=by simp
   rw[e1];have:=yE vs (A++[v]) B C (by simpa using h)
   rw[List.length_append,List.length_singleton] at this;rw[this];simp
theorem oL{α:Type}{g:α→HV}{k:Nat}(hg:∀a,(g a).cells.length=k){l:List α}{i:Nat}(h:i < l.length)(a:α)(zs:List HV) :
   bu ((l.map g).flatMap HV.cells++zs) (i*k) (g a).cells=((l.set i a).map g).flatMap HV.cells++zs:=by
 have hl:l=l.take i++l[i]::l.drop (i+1):=by rw[←List.drop_eq_getElem_cons h,List.take_append_drop]
 have hlen:∀m:List α,((m.map g).flatMap HV.cells).length=m.length*k:=by
   intro m
   induction m with
   | nil=>simp
   | cons x m ih=>rw[List.map_cons,List.flatMap_cons,List.length_append,ih,hg,List.length_cons,Nat.succ_mul];omega
 have h1:((l.map g).flatMap HV.cells++zs)=((l.take i).map g).flatMap HV.cells++(g l[i]).cells++(((l.drop (i+1)).map g).flatMap HV.cells++zs):=by
   conv=>lhs;rw[hl]
   simp only[List.map_append,List.map_cons,List.flatMap_append,List.flatMap_cons,List.append_assoc]
 have h2:l.set i a=l.take i++a::l.drop (i+1):=List.set_eq_take_append_cons_drop.trans (by rw[if_pos h])
 have h3:(((l.take i).map g).flatMap HV.cells).length=i*k:=by rw[hlen,List.length_take];congr 1;omega
 rw[h1,h2,←h3,yE _ _ _ _ (by rw[hg,hg])]
 simp
theorem Qj{sl:List (Nat×EV)}{bx:List (Nat×List HV)}{H:ab}{k b:Nat}{L7 QF cs:List HV}(hk:(M sl bx).box k=some L7)(hb:H b=some (.obj cs))(hw:kh b cs L7 QF)(h1:QF.all HV.one=true):VS (M sl bx) H (M sl ((k,QF)::bx)) (H.bt b none):=by
 have NS:∀j,(M sl ((k,QF)::bx)).box j=if k=j then some QF else (M sl bx).box j:=fun j=>by
   simp only[M,nh,bt,Env.box]
 refine VS.freeze hb (fun s x hs=>⟨x,hs,.inl rfl⟩) (fun j c1 hj=>?_) (fun s j o hs hj=>?_) (fun a r' ha=>?_)
 · rw[NS] at hj
   by_cases ZE:k=j
   · subst ZE;rw[if_pos rfl] at hj;simp only[Option.some.injEq] at hj;subst hj;exact⟨L7,hk,.inr ⟨hw,h1⟩⟩
   · rw[if_neg ZE] at hj;exact⟨c1,hj,.inl rfl⟩
 · rw[NS];split;{rfl};{exact hj}
 · simp only[ab.bt] at ha;split at ha;{cases ha};{rename_i AO;exact⟨AO,r',ha,.inl rfl⟩}
theorem uO(d:Dk)(c:di):ec (d.lT c) = .ag [I d.room,.sl .no 3 (d.sure.map du),.sl .no 2 ((d.loose++[c]).map pX),.sl .no 2 (d.f.map fP),B d.down,I d.ops,I d.aD,B d.done,I d.aE]:=rfl
theorem oe(l:List Fl)(k:Nat)(h:l.length=k):((l.map fP).flatMap HV.cells).length=k*2:=by
 subst h
 induction l with
 | nil=>rfl
 | cons x l ih=>rw[List.map_cons,List.flatMap_cons,List.length_append,ih,List.length_cons];show 2+_=_;omega
attribute [local irreducible] aH aj aX bk aA aL bn DK RK JK BR G3 bh Spec Tok Fr CV GA
theorem gl(L:ai code)(d:Dk)(p:List UInt8)(hp:p.length≤1048576):aU L 354 [ec d,S p] (I (d.asked p)):=by
 intro H K hk;unfold Dk.asked at hk;refine ah L DB rfl ?_;refine J_ aY ?_;cases c1:d.down
 case true =>
   rw[if_pos c1] at hk;refine J_ aY ?_;exact aa (hk H (Fr.refl _ _))
 rw[if_neg (by simp[c1])] at hk
 refine K_ aY ?_;refine mu L p hp H _ fun X1 f1=>?_;refine J_ aY ?_;exact aa (hk X1 f1)
theorem gC(L:ai code)(d:Dk)(c:di)(hl:d.loose.length < 1048576):aU L 359 [ec d,.sl .no 3 (c.gone.map du),.sl .no 3 (c.cN.map du)] (ec (d.lT c)):=by
 intro H K hk;rw[uO] at hk;refine ah L DC rfl ?_;refine J_ aY ?_;refine eU (GA.nil H H 2) (Fr.refl _ _) rfl rfl (by simp;omega) fun v1 X1 g1 f1=>?_
 refine J_ aY ?_;refine eU (ys:=[pX c]) g1 f1 rfl rfl (by simp;omega) fun v2 X2 g2 f2=>?_
 have e2:[]++d.loose.map pX++[pX c]=(d.loose++[c]).map pX:=by simp
 rw[e2] at g2;have h2:=g2.one;refine J_ aY ?_;apply bS;rfl;(focus exact h2.2.2.1);(focus exact h2.2.1);rfl;rfl;rfl;(focus (rw[h2.2.2.2]));have e0:bu [I d.room,HV.sl .no 3 (d.sure.map du),.sl .no 2 (d.loose.map pX),.sl .no 2 (d.f.map fP),B d.down,I d.ops,I d.aD,B d.done,I d.aE] (0+2) [v2]=[I d.room,HV.sl .no 3 (d.sure.map du),v2,.sl .no 2 (d.f.map fP),B d.down,I d.ops,I d.aD,B d.done,I d.aE]:=rfl;rw[e0];refine J_ aY ?_;apply bS;rfl;rfl;(focus (show (HV.ag _).el=true;simp only[HV.el,List.all_cons,h2.1,List.take,List.drop];rfl));rfl;rfl;rfl;rfl;refine J_ aY ?_;have hwk:an (.ag [I d.room,.sl .no 3 (d.sure.map du),v2,.sl .no 2 (d.f.map fP),B d.down,I d.ops,I d.aD,B d.done,I d.aE]) (.ag [I d.room,.sl .no 3 (d.sure.map du),.sl .no 2 ((d.loose++[c]).map pX),.sl .no 2 (d.f.map fP),B d.down,I d.ops,I d.aD,B d.done,I d.aE]):=
   an.ag ⟨an.refl _,an.refl _,g2.Bi,an.refl _,an.refl _,an.refl _,an.refl _,an.refl _,an.refl _,T_⟩ rfl
 exact b7 hwk (hk X2 f2)
theorem pY(L:ai code)(d:Dk)(i:Nat)(f:Fl)(hi:i < d.f.length)(hl:d.f.length < 1048576):aU L 356 [ec d,I i,fP f] (ec { d with f:=d.f.set i f }):=by
 intro H K hk;refine ah L DD rfl ?_;refine J_ aY ?_;apply Bo;rfl;rfl;rfl;(focus (rw[List.length_map];omega));(focus (rw[List.length_map];omega));intro b c zs X h1 h2 h3 h4 h5 h6 f6;rw[List.length_map] at *;refine J_ aY ?_;apply dj;rfl;rfl;(focus omega);apply bU;rfl;rfl;rfl;rfl;(focus exact h6);(focus (rw[List.length_append,oe _ _ rfl];omega));intro Y y1 y2;have e5:(d.f.map fP).flatMap HV.cells++zs=(d.f.map fP).flatMap HV.cells++zs:=rfl;have e6:bu ((d.f.map fP).flatMap HV.cells++zs) (0+(i:Int).toNat*2) (HV.ag [S f.b,I f.safe]).cells=((d.f.set i f).map fP).flatMap HV.cells++zs:=by
   rw[Nat.zero_add];exact oL (g:=fP) (k:=2) (fun _=>rfl) hi f zs
 rw[e6] at y1;have gA:(((d.f.set i f).map fP).flatMap HV.cells).length=d.f.length*2:=oe _ _ (by simp)
 have hfw:FW b (((d.f.set i f).map fP).flatMap HV.cells++zs) (.v (.slice (some ⟨b,0,none⟩) d.f.length c)) (.sl .no 2 ((d.f.set i f).map fP)):=by
   refine FW.slice ?_ ?_ (by simp) h2 h3 ?_ ?_
   · rw[List.take_append_of_le_length (by omega),List.take_of_length_le (by omega)]
   · rw[List.length_append];omega
   · rw[List.all_eq_true];intro x hx;obtain⟨y,_,rfl⟩:=List.mem_map.mp hx;rfl
   · intro x hx;obtain⟨y,_,rfl⟩:=List.mem_map.mp hx;rfl
 have hvw:kh b (((d.f.set i f).map fP).flatMap HV.cells++zs) [I d.room,HV.sl .no 3 (d.sure.map du),.sl .no 2 (d.loose.map pX),.v (.slice (some ⟨b,0,none⟩) d.f.length c),B d.down,I d.ops,I d.aD,B d.done,I d.aE]
   [I d.room,HV.sl .no 3 (d.sure.map du),.sl .no 2 (d.loose.map pX),.sl .no 2 ((d.f.set i f).map fP),B d.down,I d.ops,I d.aD,B d.done,I d.aE]:=
   ⟨FW.refl _ _ _,FW.refl _ _ _,FW.refl _ _ _,hfw,FW.refl _ _ _,FW.refl _ _ _,FW.refl _ _ _,FW.refl _ _ _,FW.refl _ _ _,T_⟩
 refine ax (C0 (U2 (Qj (k:=0) rfl y1 hvw rfl) ?_));have rN:Fr [] H (Y.bt b none):=Fr.dB (f6.own h1 y2) h1;refine J_ aY ?_;exact aa (hk _ rN)
end Sm
namespace Sm
open Go
theorem vn{n:Int}(h:0≤n):cV n=n - 1:=by unfold cV;rw[if_neg (by omega)]
theorem vo{n:Int}(h:¬0≤n)(h1:-1≤n):cV n=n:=by unfold cV;rw[if_pos (by omega)];omega
attribute [local irreducible] aH aj aX bk aA aL bn DK RK JK BR G3 bh Spec Tok Fr CV GA
theorem eF(L:ai code)(d e:Dk)(n m:Nat)(hw:d.WF n m)(hn:n < 1048000):aU L 357 [ec d,ec e] (.tu [ec (d.step e).1,I (d.step e).2]):=by
 intro H K hk;have h1:=hw.fa;have h2:=hw.wr;have h3:=hw.op;refine ah L DE rfl ?_;refine J_ aY ?_;cases c1:d.aD==0<;>(refine J_ aY ?_)
 all_goals (cases c2:d.aE==0<;>(refine J_ aY ?_))
 all_goals (cases c3:decide (0≤d.aD))
 all_goals (try (exfalso;simp only[beq_iff_eq,decide_eq_false_iff_not] at c1 c3;omega))
 all_goals (refine J_ aY ?_)
 all_goals (cases c4:decide (0≤d.aE))
 all_goals (try (exfalso;simp only[beq_iff_eq,decide_eq_false_iff_not] at c2 c4;omega))
 all_goals (refine J_ aY ?_)
 all_goals (cases c5:d.done)
 all_goals (try simp only[Bool.not_true,Bool.not_false])
 all_goals (refine J_ aY ?_)
 all_goals (simp only[beq_iff_eq,beq_eq_false_iff_ne,ne_eq,decide_eq_true_eq,decide_eq_false_iff_not] at c1 c2 c3 c4)
 all_goals (refine aa ?_;have gG:=hk H (Fr.refl _ _);unfold Dk.step at gG)
 all_goals (first | rw[if_pos c1] at gG | rw[if_neg c1] at gG)
 all_goals (try (first | rw[if_pos c2] at gG | rw[if_neg c2] at gG))
 all_goals (try (first | rw[if_pos c5] at gG | rw[if_neg (by rw[c5];decide)] at gG))
 all_goals (first | rw[vn c3] at gG | rw[vo c3 h1.1] at gG)
 all_goals (first | rw[vn c4] at gG | rw[vo c4 h2.1] at gG)
 all_goals (try rw[c5] at gG)
 all_goals exact gG
end Sm
namespace Sm
open Go
theorem QH{v1 v2 v3:HV}{d:Dk}(h1:an v1 (.sl .no 3 (d.sure.map du)))(h2:an v2 (.sl .no 2 (d.loose.map pX)))(h3:an v3 (.sl .no 2 (d.f.map fP))) :
   an (.ag [I d.room,v1,v2,v3,B d.down,I d.ops,I d.aD,B d.done,I d.aE]) (ec d):=
 an.ag ⟨an.refl _,h1,h2,h3,an.refl _,an.refl _,an.refl _,an.refl _,an.refl _,T_⟩ rfl
attribute [local irreducible] aH aj aX bk aA aL bn DK RK JK BR G3 bh Spec Tok Fr CV GA
theorem s9(L:ai code)(d:Dk)(p:List UInt8)(dir:Bool)(hp:p.length≤1048576)(n m:Nat)(hw:d.WF n m)(hn:n < 1048000):aU L 353 [ec d,S p,B dir] (.tu [ec (d.put p dir).1,I (d.put p dir).2]):=by
 intro H K hk;unfold Dk.put at hk;have gA:=hw.fl;have NR:=hw.len;refine ah L DG rfl ?_;refine K_ aY ?_;refine gl L d p hp H _ fun X1 f1=>?_;cases c1:d.asked p==0
 case false =>
   have ZK:(d.asked p != 0)=true:=by rw[bne,c1];rfl
   rw[if_pos (by simpa using ZK)] at hk
   repeat (refine gk (And.intro aY (And.intro c1 ZK)) ?_)
   (apply af;rfl);refine eE L d p n m hw hn X1 _ fun X2 f2=>?_
   repeat (refine gk (And.intro aY (And.intro c1 ZK)) ?_)
   exact aa (hk X2 (f1.trans f2))
 have e1:d.asked p=0:=by simpa using c1
 rw[if_neg (by simp[e1])] at hk
 rw[e1];refine K_ aY ?_;refine s7 L d p hp n m hw hn X1 _ fun X2 f2=>?_;cases c2:iG d.now p==0
 case false =>
   have c2n:(iG d.now p != 0)=true:=by rw[bne,c2];rfl
   rw[if_pos (by simpa using c2n)] at hk
   refine K_ aY ?_;refine eE L d p n m hw hn X2 _ fun X3 f3=>?_
   repeat (refine gk (And.intro aY (And.intro c2 c2n)) ?_)
   exact aa (hk X3 ((f1.trans f2).trans f3))
 have e2:iG d.now p=0:=by simpa using c2
 rw[if_neg (by simp[e2])] at hk
 rw[e2];refine K_ aY ?_;refine eE L d p n m hw hn X2 _ fun X3 f3=>?_;have Jz:=(f1.trans f2).trans f3;refine J_ aY ?_;cases c3:(bG d.now p).isSome
 case true =>
   rw[c3,if_pos rfl] at hk;refine J_ aY ?_;exact aa (hk X3 Jz)
 rw[c3,if_neg (by decide)] at hk
 cases dir
 case true =>
   simp only[if_true] at hk;refine K_ aY ?_;refine eM (eP:=[ec d,.sl .no 3 ((di.mk ⟨p,true,0⟩).gone.map du),.sl .no 3 ((di.mk ⟨p,true,0⟩).cN.map du)]) (show bo [ec d,.v (.slice none 0 0),.sl .full 3 [du ⟨p,true,0⟩]] _ from⟨an.refl _,an.dO 3,an.drop _ _ _,T_⟩) ?_;refine gC L d (.mk ⟨p,true,0⟩) (by omega) X3 _ fun X4 f4=>?_
   refine K_ aY ?_;refine eF L d _ n m hw hn X4 _ fun X5 f5=>?_;refine J_ aY ?_;exact aa (hk X5 ((Jz.trans f4).trans f5))
 simp only[Bool.false_eq_true,if_false] at hk;refine J_ aY ?_;refine eU (GA.full H X3 2 []) Jz rfl rfl (by simp;omega) fun v1 X4 g4 f4=>?_
 refine J_ aY ?_;refine eU (ys:=[fP ⟨[],0⟩]) g4 f4 rfl rfl (by simp;omega) fun v2 X5 g5 f5=>?_
 have e5:[]++d.f.map fP++[fP ⟨[],0⟩]=(d.f++[(⟨[],0⟩:Fl)]).map fP:=by simp
 rw[e5] at g5;have h5:=g5.one;refine J_ aY ?_;apply bS;rfl;(focus exact h5.2.2.1);(focus exact h5.2.1);rfl;rfl;rfl;(focus (rw[h5.2.2.2]));have e0:bu [I d.room,HV.sl .no 3 (d.sure.map du),.sl .no 2 (d.loose.map pX),.sl .no 2 (d.f.map fP),B d.down,I d.ops,I d.aD,B d.done,I d.aE] (0+3) [v2]=[I d.room,HV.sl .no 3 (d.sure.map du),.sl .no 2 (d.loose.map pX),v2,B d.down,I d.ops,I d.aD,B d.done,I d.aE]:=rfl;rw[e0];refine K_ aY ?_;refine eM (eP:=[ec { d with f:=d.f++[⟨[],0⟩] },.sl .no 3 ((di.mk ⟨p,false,d.f.length⟩).gone.map du),.sl .no 3 ((di.mk ⟨p,false,d.f.length⟩).cN.map du)])
   (show bo [.ag [I d.room,.sl .no 3 (d.sure.map du),.sl .no 2 (d.loose.map pX),v2,B d.down,I d.ops,I d.aD,B d.done,I d.aE],.v (.slice none 0 0),.sl .full 3 [du ⟨p,false,d.f.length⟩]] _ from⟨QH (d:={ d with f:=d.f++[⟨[],0⟩] }) (an.refl _) (an.refl _) g5.Bi,an.dO 3,an.drop _ _ _,T_⟩) ?_
 refine gC L { d with f:=d.f++[⟨[],0⟩] } (.mk ⟨p,false,d.f.length⟩) (by show d.loose.length < _;omega) X5 _ fun X6 f6=>?_
 refine K_ aY ?_;refine eF L d _ n m hw hn X6 _ fun X7 f7=>?_;refine J_ aY ?_;exact aa (hk X7 ((f5.trans f6).trans f7))
theorem oM(L:ai code)(d:Dk)(p:List UInt8)(hp:p.length≤1048576)(n m:Nat)(hw:d.WF n m)(hn:n < 1048000):aU L 320 [ec d,S p] (.tu [ec (d.put p false).1,I (d.put p false).2]):=by
 intro H K hk;refine ah L DH rfl ?_;refine K_ aY ?_;refine s9 L d p false hp n m hw hn H _ fun X1 f1=>?_;refine J_ aY ?_;exact aa (hk X1 f1)
theorem yF(L:ai code)(d:Dk)(p:List UInt8)(hp:p.length≤1048576)(n m:Nat)(hw:d.WF n m)(hn:n < 1048000):aU L 324 [ec d,S p] (.tu [ec (d.put p true).1,I (d.put p true).2]):=by
 intro H K hk;refine ah L DI rfl ?_;refine K_ aY ?_;refine s9 L d p true hp n m hw hn H _ fun X1 f1=>?_;refine J_ aY ?_;exact aa (hk X1 f1)
end Sm
