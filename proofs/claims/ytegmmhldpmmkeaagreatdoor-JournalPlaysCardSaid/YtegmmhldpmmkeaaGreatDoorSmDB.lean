/-
  D8,D9,D10,D11,D12,D13,D14
-/
import Derived.Test.YtegmmhldpmmkeaaGreatDoorSmTC
set_option linter.unusedVariables false
set_option linter.unusedSimpArgs false
set_option maxRecDepth 10000
set_option maxHeartbeats 1000000
namespace Sm
open Go
def iQ(l:List Fl)(i:Nat)(v w:HV)(zs:List HV):List HV:=eY (l.take i)++(v::w::(eY (l.drop (i+1))++zs))
section
variable {l:List Fl} {i:Nat} {v w v':HV} {zs:List HV}
theorem jb(h:i < l.length):(eY (l.take i)).length=i*2:=by rw[fL,List.length_take];congr 1;omega
theorem nZ(h:i < l.length):eY l++zs=iQ l i (.sl .no 1 (l[i].b.map U)) (I l[i].safe) zs:=by
 rw[td h,iQ];simp
theorem mh(h:i < l.length):(iQ l i v w zs).set (i*2) v'=iQ l i v' w zs:=by
 rw[iQ,List.set_append_right _ _ (by rw[jb h];exact Nat.le_refl _),jb h,Nat.sub_self];rfl
theorem sT(h:i < l.length):(iQ l i v w zs).set (i*2+1) v'=iQ l i v v' zs:=by
 rw[iQ,List.set_append_right _ _ (by rw[jb h];omega),jb h,show i*2+1 - i*2=1 by omega];rfl
theorem Ks(h:i < l.length):(iQ l i v w zs)[i*2]? = some v:=by
 rw[iQ,List.getElem?_append_right (by rw[jb h];exact Nat.le_refl _),jb h,Nat.sub_self];rfl
theorem yC(h:i < l.length):(iQ l i v w zs)[i*2+1]? = some w:=by
 rw[iQ,List.getElem?_append_right (by rw[jb h];omega),jb h,show i*2+1 - i*2=1 by omega];rfl
theorem jP(h:i < l.length):i*2+2≤(iQ l i v w zs).length:=by
 rw[iQ,List.length_append,jb h];simp only[List.length_cons];omega
theorem Eg(h:i < l.length)(f:Fl):eY (l.set i f)++zs=iQ l i (.sl .no 1 (f.b.map U)) (I f.safe) zs:=by
 have h2:i < (l.set i f).length:=by simpa using h
 rw[nZ h2,iQ];simp[iQ,List.take_set_of_le,List.drop_set_of_lt]
theorem wU(hv:v.one=true)(hw:w.one=true)(hz:zs.all HV.one=true):(iQ l i v w zs).all HV.one=true:=by
 rw[iQ,List.all_append,te,List.all_cons,List.all_cons,List.all_append,te,hv,hw,hz];rfl
end
def BV(H:ab)(v:HV)(l:List UInt8):Prop:=(∃tk,v = .sl tk 1 (l.map U))∨(v = .v (.slice none 0 0)∧l=[])∨∃a c zs,v = .v (.slice (some ⟨a,0,none⟩) l.length c)∧H a=some (.obj (l.map U++zs))
theorem oh(l:List UInt8):(l.map U).flatMap HV.cells=l.map U:=by
 induction l with
 | nil=>rfl
 | cons a l ih=>rw[List.map_cons,List.flatMap_cons,ih];rfl
theorem BV.mW{H:ab}{v:HV}{l:List UInt8}(h:BV H v l):Sm.mW H 1 v=some (l.length,l.map U):=by
 rcases h with⟨tk,rfl⟩ | ⟨rfl,rfl⟩ | ⟨a,c,zs,rfl,h⟩;{simp only[Sm.mW,if_true,List.length_map,oh]};{rfl}
 · simp only[Sm.mW,h,Nat.zero_add,Nat.mul_one,List.drop_zero];rw[if_pos (by simp)]
   rw[List.take_append_of_le_length (by simp),List.take_of_length_le (by simp)]
theorem BV.fr{H X:ab}{bs:List Nat}{v:HV}{l:List UInt8}(h:BV H v l)(hf:Fr bs H X)(hb:∀a∈eI v,a∉bs):BV X v l:=by
 rcases h with h | h | ⟨a,c,zs,rfl,h⟩;{exact .inl h};{exact .inr (.inl h)};{exact .inr (.inr ⟨a,c,zs,rfl,hf.get (hb a (by simp[eI])) h⟩)}
theorem J'{S':aJ}{sl:List (Nat×EV)}{bx:List (Nat×List HV)}{H:ab}{K:Env→ab→Prop}{os:List aF}{d:Nat}{x:bj}{v:HV}{l:List UInt8}(hx:(M sl bx).hv x=some v)(hv:BV H v l)(h:aj S' os (M ((d,.h (I l.length))::sl) bx) H K):aj S' (⟨some d,.len x,none⟩::os) (M sl bx) H K:=by
 refine aG rfl ?_ h;rcases hv with⟨tk,rfl⟩ | ⟨rfl,rfl⟩ | ⟨a,c,zs,rfl,_⟩;{simp only[aw.ev,hx,List.length_map]};{simp only[aw.ev,hx];rfl};{simp only[aw.ev,hx]}
theorem BV.one{H:ab}{v:HV}{l:List UInt8}(h:BV H v l):v.one=true∧v.el=true∧v.aN=1∧v.cells=[v]:=by
 rcases h with⟨tk,rfl⟩ | ⟨rfl,rfl⟩ | ⟨a,c,zs,rfl,_⟩<;>exact⟨rfl,rfl,rfl,rfl⟩
def CB(H:ab)(v:HV)(l:List UInt8):Prop:=(v = .v (.slice none 0 0)∧l=[])∨(v = .sl .full 1 []∧l=[])∨∃a c zs,v = .v (.slice (some ⟨a,0,none⟩) l.length c)∧H a=some (.obj (l.map U++zs))∧l.length≤c∧c≤maxLen∧zs.length=c - l.length
theorem A9{S':aJ}{sl:List (Nat×EV)}{bx:List (Nat×List HV)}{H:ab}{K:Env→ab→Prop}{os:List aF}{d:Nat}{x y:bj}{v yv:HV}{l ys:List UInt8}(hx:(M sl bx).hv x=some v)(hC:CB H v l)(hy:(M sl bx).hv y=some yv)(hY:BV H yv ys)(hl:l.length+ys.length≤140737488355328)
   (hk:∀v' X,CB X v' (l++ys)→Fr (eI v) H X→(∀a∈eI v',a∈eI v∨H a=none)→aj S' os (M ((d,.h v')::sl) bx) X K):aj S' (⟨some d,.app 1 1 x y,none⟩::os) (M sl bx) H K:=by
 have hr:=hY.mW;rcases hC with⟨rfl,rfl⟩ | ⟨rfl,rfl⟩ | ⟨a,c,zs,rfl,h1,h2,h3,h4⟩
 · cases ys with
   | nil =>
     rw[bf];refine .inr ?_;simp only[hx,hy,nW,hr];refine⟨fun _=>?_,fun h=>absurd rfl h⟩;rw[cu,dp];exact hk _ H (.inl ⟨rfl,rfl⟩) (Fr.refl _ _) (by simp[eI])
   | cons u us =>
     refine KH hx hy hr (by simp) (by simpa using hl) fun b' c' zs X k1 k2 k3 k4 k5 k6 k7=>?_
     refine hk _ X (.inr (.inr ⟨b',c',zs,rfl,k6,k2,k3,by rw[k4];simp⟩)) (k7.mono (by simp)) (fun a ha=>?_)
     simp only[eI,List.mem_singleton] at ha;subst ha;exact .inr k1
 · cases ys with
   | nil =>
     rw[bf];refine .inr ?_;simp only[hx,hy,nW,hr];refine⟨trivial,fun _=>?_,fun h=>absurd rfl h⟩;rw[cu,dp];exact hk _ H (.inr (.inl ⟨rfl,rfl⟩)) (Fr.refl _ _) (by simp[eI])
   | cons u us =>
     refine Bo hx hy hr (by simp) (by simpa using hl) fun b' c' zs X k1 k2 k3 k4 k5 k6 k7=>?_
     refine hk _ X (.inr (.inr ⟨b',c',zs,rfl,k6,k2,k3,by rw[k4];simp⟩)) (k7.mono (by simp)) (fun a ha=>?_)
     simp only[eI,List.mem_singleton] at ha;subst ha;exact .inr k1
 · refine Bt hx hy hr h1 h2 (by simp;omega) (by simpa using hl) (fun hc X k1 k2=>?_) fun hc b' c' pZ X k1 k2 k3 k4 k5 k6 k7=>?_
   · rw[←List.length_append];refine hk _ X (.inr (.inr ⟨a,c,zs.drop ys.length,rfl,?_,by simpa using hc,h3,by simp[h4];omega⟩)) (k2.mono (by simp[eI])) (fun a' ha => .inl ha)
     rw[k1];congr 2;rw[iV _ _ _ (by simp;omega)]
     simp only[Nat.zero_add,Nat.mul_one,List.length_map,List.map_append];have e1:(l.map U++zs).take l.length=l.map U:=by rw[List.take_append_of_le_length (by simp),List.take_of_length_le (by simp)]
     have e2:(l.map U++zs).drop (l.length+ys.length)=zs.drop ys.length:=by
       rw[List.drop_append,List.drop_eq_nil_of_le (by simp),List.nil_append,List.length_map]
       congr 1;omega
     rw[e1,e2]
   · rw[←List.length_append];refine hk _ X (.inr (.inr ⟨b',c',pZ,rfl,?_,by simpa using k2,k3,by rw[k4];simp⟩)) (k7.mono (by simp)) (fun a' ha=>?_)
     · rw[k6];simp only[Nat.mul_one,List.drop_zero,List.map_append];rw[List.take_append_of_le_length (by simp),List.take_of_length_le (by simp)]
     · simp only[eI,List.mem_singleton] at ha;subst ha;exact .inr k1
theorem UX{res:List jZ}{R:HV→ab→Prop}{hs:List HV}{e e1:Env}{H H1:ab}(hv:VS e H e1 H1)(hr:dM e1 H1 res=some hs)(h:bh (some hs) H1 R):bn res R .normal e H:=
 ⟨.inl rfl,e1,H1,hv,by rw[hr];exact h⟩
def GV(H:ab)(v:HV)(l:List UInt8):Prop:=an v (.sl .no 1 (l.map U))∨∃a c zs,v = .v (.slice (some ⟨a,0,none⟩) l.length c)∧H a=some (.obj (l.map U++zs))∧l.length≤c∧c≤maxLen
theorem CB.gv{H:ab}{v:HV}{l:List UInt8}(h:CB H v l):GV H v l:=by
 rcases h with⟨rfl,rfl⟩ | ⟨rfl,rfl⟩ | ⟨a,c,zs,h⟩;{exact .inl (an.dO 1)};{exact .inl (an.drop _ _ _)};{exact .inr ⟨a,c,zs,h.1,h.2.1,h.2.2.1,h.2.2.2.1⟩}
theorem CB.one{H:ab}{v:HV}{l:List UInt8}(h:CB H v l):v.one=true∧v.el=true∧v.aN=1∧v.cells=[v]:=by
 rcases h with⟨rfl,rfl⟩ | ⟨rfl,rfl⟩ | ⟨a,c,zs,rfl,_⟩<;>exact⟨rfl,rfl,rfl,rfl⟩
theorem GV.fr{H X:ab}{bs:List Nat}{v:HV}{l:List UInt8}(h:GV H v l)(hf:Fr bs H X)(hb:∀a∈eI v,a∉bs):GV X v l:=by
 rcases h with h | ⟨a,c,zs,rfl,h,h2⟩;{exact .inl h};{exact .inr ⟨a,c,zs,rfl,hf.get (hb a (by simp[eI])) h,h2⟩}
theorem kh.app{b:Nat}{cs:List HV}:∀{x y z u:List HV},kh b cs x y→kh b cs z u→kh b cs (x++z) (y++u)
 | [],[],_,_,_,h=>h
 | x::a,y::b,_,_,h,k=>⟨h.1,kh.app h.2 k⟩
 | [],_::_,_,_,h,_=>h.elim
 | _::_,[],_,_,h,_=>h.elim
theorem wJ{H X:ab}{b:Nat}{h:Hd}{d:Dk}{fb c i:Nat}{zs:List HV}{v:HV}{nb:List UInt8}{s:Nat}(hD:KD H b h d)(he:h.fv = .v (.slice (some ⟨fb,0,none⟩) d.f.length c))(hc:d.f.length≤c∧c≤maxLen∧zs.length=(c - d.f.length)*2∧zs.all HV.one=true)(hi:i < d.f.length)
   (hX:X fb=some (.obj (iQ d.f i v (I s) zs))) (hf:Fr [fb] H X) (hn:∀a∈eI v,H a=none) (hg:GV X v nb):∃Y,(∀e,VS e X (M [] []) Y)∧KD Y b h { d with f:=d.f.set i ⟨nb,s⟩ }∧Own H Y (h.bs b) (h.bs b):=by
 have rI:=hD.nd;simp only[Hd.bs,he,eI,List.nodup_cons,List.mem_cons,List.not_mem_nil,or_false,not_or] at rI;obtain⟨⟨q1,q2,q3⟩,⟨q4,q5⟩,q6,q7⟩:=rI;have CN:fb∈h.bs b:=by simp[Hd.bs,he,eI]
 have key:∀Y:ab,Fr [fb] H Y→Y fb=some (.obj (iQ d.f i (.sl .no 1 (nb.map U)) (I s) zs))→KD Y b h { d with f:=d.f.set i ⟨nb,s⟩ }∧Own H Y (h.bs b) (h.bs b):=by
   intro Y fY hY;refine⟨⟨fY.get (by simpa using q3) hD.ob,hD.su.fr fY (by simpa using q5),hD.no.fr fY (by simpa using q6),.inr ⟨fb,c,zs,?_,?_,?_,hc.2.1,?_,hc.2.2.2⟩,hD.nd⟩,Own.set fY (by simpa using CN)⟩
   · rw[he];simp
   · rw[hY];simp only;rw[Eg hi]
   · simpa using hc.1
   · simpa using hc.2.2.1
 rcases hg with hw | ⟨a,ca,za,rfl,ha,HW,A5⟩
 · have mz:(X.bt fb (some (.obj (iQ d.f i (.sl .no 1 (nb.map U)) (I s) zs)))).sub X:=
     kY hX (bo.app (bo.refl _) ⟨hw,an.refl _,bo.refl _⟩) (wU rfl rfl hc.2.2.2)
   refine⟨_,fun e=>VS.of ⟨fun t x hx=>by simp[M,Env.get,lq] at hx,fun k cs hx=>by simp[M,Env.box,lq] at hx,fun t k o hx=>by simp[M,Env.get,lq] at hx⟩ mz,key _ (hf.trans (Fr.set (by simp))) (ab.aB _ _ _)⟩
 · have NZ:H a=none:=hn a (by simp[eI])
   have Ado:a≠fb:=fun e=>by
     obtain⟨r,hr⟩:=hD.held fb CN;rw[←e,NZ] at hr;cases hr
   refine⟨(X.bt a none).bt fb (some (.obj (iQ d.f i (.sl .no 1 (nb.map U)) (I s) zs))),fun e=>VS.freeze ha (fun t x hx=>by simp[M,Env.get,lq] at hx) (fun k cs hx=>by simp[M,Env.box,lq] at hx) (fun t k o hx=>by simp[M,Env.get,lq] at hx) (fun x r hx=>?_),key _ ?_ (ab.aB _ _ _)⟩
   · by_cases hxf:x=fb
     · subst hxf;rw[ab.aB] at hx;cases hx;refine⟨Ado.symm,_,hX,.inr ⟨kh.app (kh.refl _ _ _) ⟨FW.slice (sz:=1) ?_ (by simp) (by simp) HW A5 ?_ ?_,FW.refl _ _ _,kh.refl _ _ _⟩,wU rfl rfl hc.2.2.2⟩⟩
       · rw[oh,Nat.mul_one,List.take_append_of_le_length (by simp),List.take_of_length_le (by simp)]
       · simp[HV.el,HV.one,Value.oneCell']
       · intro x hx;obtain⟨u,_,rfl⟩:=List.mem_map.mp hx;rfl
     · rw[ab.cK _ _ hxf] at hx
       by_cases Wd:x=a
       · subst Wd;rw[ab.aB] at hx;cases hx
       · rw[ab.cK _ _ Wd] at hx;exact⟨Wd,r,hx,.inl rfl⟩
   · refine fun x r hx hr=>?_;simp only[List.mem_cons,List.not_mem_nil,or_false] at hx;have Wd:x≠a:=fun e=>by rw[e,NZ] at hr;cases hr
     rw[ab.cK _ _ hx,ab.cK _ _ Wd];exact hf x r (by simpa using hx) hr
theorem sZ{H X:ab}{b:Nat}{h:Hd}{d:Dk}{fb c i:Nat}{zs:List HV}{v:HV}{nb:List UInt8}{s:Nat}(hD:KD H b h d)(he:h.fv = .v (.slice (some ⟨fb,0,none⟩) d.f.length c))(hc:d.f.length≤c∧c≤maxLen∧zs.length=(c - d.f.length)*2∧zs.all HV.one=true)(hi:i < d.f.length)
   (hX:X fb=some (.obj (iQ d.f i v (I s) zs))) (hf:Fr [fb] H X) (hw:an v (.sl .no 1 (nb.map U))):∃Y,(∀e,VS e X e Y)∧KD Y b h { d with f:=d.f.set i ⟨nb,s⟩ }∧Own H Y (h.bs b) (h.bs b):=by
 have rI:=hD.nd;simp only[Hd.bs,he,eI,List.nodup_cons,List.mem_cons,List.not_mem_nil,or_false,not_or] at rI;obtain⟨⟨q1,q2,q3⟩,⟨q4,q5⟩,q6,q7⟩:=rI;have CN:fb∈h.bs b:=by simp[Hd.bs,he,eI]
 have mz:(X.bt fb (some (.obj (iQ d.f i (.sl .no 1 (nb.map U)) (I s) zs)))).sub X:=
   kY hX (bo.app (bo.refl _) ⟨hw,an.refl _,bo.refl _⟩) (wU rfl rfl hc.2.2.2)
 have fY:Fr [fb] H (X.bt fb (some (.obj (iQ d.f i (.sl .no 1 (nb.map U)) (I s) zs)))):=hf.trans (Fr.set (by simp))
 refine⟨_,fun e=>VS.sub mz,⟨fY.get (by simpa using q3) hD.ob,hD.su.fr fY (by simpa using q5),hD.no.fr fY (by simpa using q6),.inr ⟨fb,c,zs,?_,?_,?_,hc.2.1,?_,hc.2.2.2⟩,hD.nd⟩,Own.set fY (by simpa using CN)⟩
 · rw[he];simp
 · rw[ab.aB];simp only;rw[Eg hi]
 · simpa using hc.1
 · simpa using hc.2.2.1
end Sm
namespace Sm
open Go
attribute [local irreducible] aH aj aX bk aA aL bn DK RK JK BR G3 bh Spec Tok Fr CV
theorem mg(L:ai code)(tk:Tk)(l:List UInt8)(hl:l.length≤140737488355328)(H:ab)(K)(hk:∀v X,CB X v l→Fr [] H X→(∀a∈eI v,H a=none)→K v X):Spec L.P L.ν 186 [.sl tk 1 (l.map U)] H K:=by
 refine ah L rP rfl ?_;refine J_ aI ?_;refine rQ rfl fun t ht=>?_;cases t
 · refine J_ aI ?_;refine A9 (v:=.sl .full 1 []) (l:=[]) rfl (.inr (.inl ⟨rfl,rfl⟩)) rfl (.inl ⟨tk,rfl⟩) (by simpa using hl) fun v X h1 h2 h3=>?_
   rw[List.nil_append] at h1;refine J_ aI ?_;exact aa (hk v X h1 h2 (fun a ha=>(h3 a ha).resolve_left (by simp[eI])))
 · have hl:l=[]:=by simpa using ht rfl
   subst hl;refine J_ aI ?_;exact aa (hk (.v (.slice none 0 0)) H (.inl ⟨rfl,rfl⟩) (Fr.refl _ _) (by simp[eI]))
theorem nY(L:ai code)(b:Nat)(h:Hd)(d:Dk)(p:List UInt8)(gf gg:Nat)(cf cg:List HV)(may:Fl→Int)(g:Fl→Fl)(n m:Nat)(hw:d.WF n m)(hn:n < 1048576)(hp:p.length≤1048576)(H:ab)(hD:KD H b h d)
   (Ba:∀i,i < d.f.length→∀X,KD X b h d→Fr [] H X→∀K,(∀Y,Fr [] X Y→K (I (may (d.f.getD i default))) Y)→Spec L.P L.ν gf ([ZL h.fv i]++cf) X K)
   (hdo:∀i,i < d.f.length→may (d.f.getD i default)=0→∀ops aD aE down X,KD X b h (d.lN ops aD aE down)→Own H X (h.bs b) (h.bs b)→∀K,(∀Y h' r,KD Y b h' ({ d with f:=d.f.set i (g (d.f.getD i default)) }.lN ops aD aE down)→Own X Y (h.bs b) (h'.bs b)→K r Y)→Spec L.P L.ν gg ([ZL h.fv i]++cg) X K)
   (K) (hk:∀Y h',KD Y b h' (d.jv p may g).1→Own H Y (h.bs b) (h'.bs b)→K (I (d.jv p may g).2) Y):Spec L.P L.ν 339 [ptr b,S p,.fn gf cf,.fn gg cg] H K:=by
 unfold Dk.jv at hk;have hlen:=hw.len;have cH:=hw.op;refine ah L Eh rfl ?_;refine J_ aI ?_;refine AM aI ?_;intro c7 X1 h7 x7 f1 _;have oy:=hD.dt f1;have n7:=hD.new h7;refine K_ aI ?_;refine jx L b h d .full [p] (by simpa using hp) (by simp) X1 oy _ fun X4 f4=>?_
 rw[sU];have fa:=f1.trans f4;have iR:=oy.dt f4;have x7c:=f4.get (by simp) x7
 refine J_ aI ?_;cases c1:(d.asked p != 0)
 case true =>
   have fR:d.asked p≠0:=by simpa using c1
   rw[if_pos fR] at hk
   repeat (refine gk (And.intro aI c1) ?_)
   exact aa (hk X4 h iR (Own.of _ fa))
 have fR:¬d.asked p≠0:=by simpa using c1
 rw[if_neg fR] at hk
 repeat (refine gk (And.intro aI c1) ?_)
 (apply af;rfl);refine jy L b h d p hw.eh (fun x hx=>(hw.ei x hx).2.1) X4 iR _ ?_;cases c2:(bZ d.now p != 0)
 case true =>
   have pE:bZ d.now p≠0:=by simpa using c2
   rw[if_pos pE] at hk;rw[if_neg pE];refine J_ aI ?_;refine oI fun ca JW=>?_;have NK:Fr [] X4 (X4.bt ca (some (.obj [.v (.pointer none)]))):=Fr.new JW;generalize NL:X4.bt ca (some (.obj [.v (.pointer none)]))=X5 at NK;have xa:X5 ca=some (.obj [.v (.pointer none)]):=by rw[←NL,ab.aB]
   refine J_ aI ?_;refine rJ aI ?_;intro X6 x6 f6;have fb:=(fa.trans NK).own (fa.bM JW) f6
   repeat (refine gk (And.intro aI c2) ?_)
   exact aa (hk X6 h (hD.dt fb) (Own.of _ fb))
 have pE:bZ d.now p=0:=by simpa using c2
 rw[if_neg (by simp[pE])] at hk
 rw[if_pos pE];have hi:mc d.now p < d.f.length:=by
   unfold bZ at pE;unfold mc;cases hg:bG d.now p with
   | none=>rw[hg] at pE;cases pE
   | some x =>
     rw[hg] at pE;simp only at pE ⊢;cases Bb:x.dir;{exact(hw.ei x (dN hg).1).2.1 Bb};{rw[Bb] at pE;cases pE}
 obtain⟨fb,c,nG⟩:∃fb c,h.fv = .v (.slice (some ⟨fb,0,none⟩) d.f.length c):=by
   rcases hD.fs with⟨_,h0⟩ | ⟨fb,c,zs,e1,_⟩;{rw[h0] at hi;exact absurd hi (Nat.not_lt_zero _)};{exact⟨fb,c,e1⟩}
 have Qo:=Ba _ hi;have AaF:=hdo _ hi;rw[me nG] at Qo AaF ⊢;refine J_ aI ?_;refine oI fun ca JW=>?_;have NK:Fr [] X4 (X4.bt ca (some (.obj [.v (.pointer none)]))):=Fr.new JW;generalize NL:X4.bt ca (some (.obj [.v (.pointer none)]))=X5 at NK;have xa:X5 ca=some (.obj [.v (.pointer none)]):=by rw[←NL,ab.aB]
 refine J_ aI ?_;refine rJ aI ?_;intro X6 x6 f6;have na:=hD.new (fa.bM JW);have fb6:Fr [] H X6:=(fa.trans NK).own (fa.bM JW) f6;have h7a:c7≠ca:=fun e=>by subst e;rw[JW] at x7c;cases x7c
 have x7d:=f6.get (by simpa using h7a) (NK.get (by simp) x7c)
 have Qh:=hD.dt fb6
 repeat (refine gk (And.intro aI c2) ?_)
 apply oP;rfl;rfl;refine Qo X6 Qh fb6 _ fun X7 f7=>?_;have x7e:=f7.get (by simp) x7d
 have x6e:=f7.get (by simp) x6
 have U3:=Qh.dt f7;have f07:=fb6.trans f7;refine J_ aI ?_;cases c3:(may (d.f.getD (mc d.now p) default) != 0)
 case true =>
   have yx:may (d.f.getD (mc d.now p) default)≠0:=by simpa using c3
   rw[if_pos yx] at hk
   repeat (refine gk (And.intro aI c3) ?_)
   exact aa (hk X7 h U3 (Own.of _ f07))
 have yx:¬may (d.f.getD (mc d.now p) default)≠0:=by simpa using c3
 rw[if_neg yx] at hk
 repeat (refine gk (And.intro aI c3) ?_)
 (apply af;rfl);refine kC L b h d { d with f:=d.f.set (mc d.now p) (g (d.f.getD (mc d.now p) default)) } (by omega) hw.fa hw.wr rfl _ X7 U3 (fun ops aD aE down X hX oX K1 gF=>?_) _ fun Y h' hY oY=>?_
 · refine yu ?_;have y7:=oX.get n7 x7e;have y6:=oX.get na x6e;refine ah L Ei rfl ?_;refine J_ aI ?_;apply oP;rfl;rfl;refine AaF (by simpa using yx) ops aD aE down X hX ((Own.of _ f07).trans oX) _ fun Y h' r hY oY=>?_
   refine J_ aI ?_;exact aa (gF Y h' _ hY oY)
 · refine J_ aI ?_;exact aa (hk Y h' hY ((Own.of _ f07).trans oY))
end Sm
namespace Sm
open Go
theorem BV.own{H X:ab}{bs rz:List Nat}{v:HV}{l:List UInt8}(h:BV H v l)(k:Own H X bs rz)(hb:∀a∈eI v,a∉bs):BV X v l:=h.fr k.fr hb
theorem UU{S:aJ}{sl:List (Nat×EV)}{bx:List (Nat×List HV)}{H:ab}{K:Env→ab→Prop}{os:List aF}{d:Nat}{x:bj}{v:HV}(hx:(M sl bx).hv x=some v)(hc:v.el=true∧v.aN=1∧v.cells=[v])
   (h:∀b X,H b=none→X b=some (.obj [v])→Fr [] H X→H.sub X→aj S os (M ((d,.h (ptr b))::sl) bx) X K):aj S (⟨some d,.box none 1 x,none⟩::os) (M sl bx) H K:=
 kU hx hc.2.2 hc.2.1 hc.1 h
attribute [local irreducible] aH aj aX bk aA aL bn DK RK JK BR G3 bh Spec Tok Fr CV
theorem kV(L:ai code)(b:Nat)(h:Hd)(d:Dk)(p:List UInt8)(bv:HV)(l:List UInt8)(n m:Nat)(hw:d.WF n m)(hn:n < 1048576)(qM:n*m≤1152921504606846976)(hm:m+l.length≤140737488355328)(hp:p.length≤1048576)(H:ab)(hD:KD H b h d)(hb:BV H bv l)(Mb:∀a∈eI bv,a∉h.bs b)
   (K) (hk:∀Y h',KD Y b h' (d.append p l).1→Own H Y (h.bs b) (h'.bs b)→K (I (d.append p l).2) Y):Spec L.P L.ν 302 [ptr b,S p,bv] H K:=by
 have gu:=hb.one;have HX:=CW hw;have hrm:=hw.rm;refine ah L CX rfl ?_;refine J_ aI ?_;refine AM aI ?_;intro c3 X1 h3 x3 f1 _;have n3:=hD.new h3;have lL:=hb.fr f1 (by simp)
 refine J_ aI ?_;refine UU rfl ⟨gu.2.1,gu.2.2.1,gu.2.2.2⟩ fun c5 X2 h5 x5 f2 _=>?_;have n5:=hD.new (f1.bM h5);have NH:=f2.get (by simp) x3
 have fa:=f1.trans f2;have lW:=hD.dt fa;have A7:=lL.fr f2 (by simp)
 refine K_ aI ?_;refine nY L b h d p 340 341 [ptr c5,ptr c3] [ptr c5] (fun _=>if d.room - d.used < l.length then 10 else 0) (fun f=>⟨f.b++l,f.safe⟩) n m hw hn hp X2 lW (fun i hi X hX fX K1 gF=>?_) (fun i hi _ ops aD aE down X hX oX K1 gF=>?_) _ fun Y h' hY oY=>?_
 · have y3:=fX.get (by simp) NH
   have y5:=fX.get (by simp) x5
   have ob:=hX.ob;have hbX:=A7.fr fX (by simp)
   refine ah L CY rfl ?_;refine J_ aI ?_;refine J' rfl hbX ?_;refine K_ aI ?_;refine A8 L b h d n m hw qM X hX _ fun Y fY=>?_;have z3:=fY.get (by simp) y3
   have z5:=fY.get (by simp) y5
   have zb:=fY.get (by simp) ob
   refine J_ aI ?_;have gG:=gF Y fY;cases c1:decide (d.room - (d.used:Int) < (l.length:Int))
   case true =>
     rw[if_pos (by simpa using c1)] at gG
     repeat (refine gk (And.intro aI c1) ?_)
     exact aa gG
   rw[if_neg (by simpa using c1)] at gG
   repeat (refine gk (And.intro aI c1) ?_)
   exact aa gG
 · have y5:=oX.get n5 x5;have hbX:=A7.own oX Mb;have ZF:KD X b h (d.lN ops aD aE down):=hX;obtain⟨fb,c,zs,nG,k1,k2⟩:∃fb c zs,h.fv = .v (.slice (some ⟨fb,0,none⟩) d.f.length c)∧X fb=some (.obj (eY d.f++zs))∧d.f.length≤c∧c≤maxLen∧zs.length=(c - d.f.length)*2∧zs.all HV.one=true:=by
     rcases hX.fs with⟨_,h0⟩ | h0;{have h0':d.f=[]:=h0;rw[h0'] at hi;exact absurd hi (Nat.not_lt_zero _)};{exact h0}
   rw[me nG,getD_at hi] at *;have da:=hw.sz _ (List.getElem_mem hi);refine ah L CZ rfl ?_;refine J_ aI ?_;apply bz;rfl;(focus exact k1);(focus exact fK hi (by simp) zs)
   refine K_ aI ?_;refine mg L .no d.f[i].b (by omega) X _ fun v1 X1' HW g1 gn1=>?_
   have y5':=g1.get (by simp) y5
   have k1':=g1.get (by simp) k1
   have Ade:=hbX.fr g1 (by simp)
   refine J_ aI ?_;refine A9 rfl HW rfl Ade (by omega) fun v2 X2' A5 g2 gn2=>?_
   have Ka:=A5.one;have Adf:fb∉eI v1:=fun hm=>by have:=gn1 _ hm;rw[k1] at this;cases this
   have k2':=g2.get Adf k1';rw[nZ hi] at k2';have gX:Fr [] X X2':=by
     refine Fr.sQ fun a r _ hr=>?_;refine g2.get (fun hm=>?_) (g1.get (by simp) hr)
     have:=gn1 _ hm;rw[hr] at this;cases this
   have gn:∀a∈eI v2,X a=none:=fun a ha=>by
     rcases gn2 a ha with h1 | h1;{exact gn1 a h1};{exact g1.bM h1}
   refine J_ aI ?_;apply bU;rfl;(focus exact Ka.2.2.1);(focus exact Ka.2.1);rfl;(focus exact k2');(focus (have:=jP (v:=.sl .no 1 (d.f[i].b.map U)) (w:=I d.f[i].safe) (zs:=zs) hi;omega));intro X3 UW f3;have x3f:X3 fb=some (.obj (iQ d.f i v2 (I d.f[i].safe) zs)):=by
     rw[UW,Ka.2.2.2];have e:bu (iQ d.f i (.sl .no 1 (d.f[i].b.map U)) (I d.f[i].safe) zs) (i*2+0) [v2]=(iQ d.f i (.sl .no 1 (d.f[i].b.map U)) (I d.f[i].safe) zs).set (i*2) v2:=rfl;rw[e,mh hi]
   have Mf:∀a∈eI v2,a∉[fb]:=fun a ha hm=>by
     rw[List.mem_singleton] at hm;subst hm;have:=gn _ ha;rw[k1] at this;cases this
   obtain⟨Y,cJ,hY,oY⟩:=wJ (s:=d.f[i].safe) hX nG k2 hi x3f ((gX.mono (by simp)).trans f3) gn (A5.gv.fr f3 Mf)
   refine ax (oc (sR (C0 (UX (cJ _) rfl (aa (gF Y h _ hY oY))))))
 · refine J_ aI ?_;exact aa (hk Y h' hY ((Own.of _ fa).trans oY))
end Sm
namespace Sm
open Go
theorem KD.row{X:ab}{b:Nat}{h:Hd}{d:Dk}(hX:KD X b h d){i:Nat}(hi:i < d.f.length):∃fb c zs,h.fv = .v (.slice (some ⟨fb,0,none⟩) d.f.length c)∧X fb=some (.obj (eY d.f++zs))∧d.f.length≤c∧c≤maxLen∧zs.length=(c - d.f.length)*2∧zs.all HV.one=true:=by
 rcases hX.fs with⟨_,h0⟩ | h0;{rw[h0] at hi;exact absurd hi (Nat.not_lt_zero _)};{exact h0}
attribute [local irreducible] aH aj aX bk aA aL bn DK RK JK BR G3 bh Spec Tok Fr CV
theorem pS(L:ai code)(b:Nat)(h:Hd)(d:Dk)(p:List UInt8)(k:Int)(n m:Nat)(hw:d.WF n m)(hn:n < 1048576)(hp:p.length≤1048576)(H:ab)(hD:KD H b h d)
   (K) (hk:∀Y h',KD Y b h' (d.cut p k).1→Own H Y (h.bs b) (h'.bs b)→K (I (d.cut p k).2) Y):Spec L.P L.ν 301 [ptr b,S p,I k] H K:=by
 refine ah L C1 rfl ?_;refine J_ aI ?_;refine AM aI ?_;intro c5 X2 h5 x5 fa _;have n5:=hD.new h5;have lW:=hD.dt fa;refine K_ aI ?_;refine nY L b h d p 337 338 [ptr c5] [ptr c5] (fun f=>if k < 0∨k > f.b.length then 13 else 0) (fun f=>⟨f.b.take k.toNat,min k.toNat f.safe⟩) n m hw hn hp X2 lW (fun i hi X hX fX K1 gF=>?_) (fun i hi Ba ops aD aE down X hX oX K1 gF=>?_) _ fun Y h' hY oY=>?_
 · have y5:=fX.get (by simp) x5
   obtain⟨fb,c,zs,nG,k1,k2⟩:=hX.row hi;rw[me nG,getD_at hi] at *;have gG:=gF X (Fr.refl _ _);refine ah L C2 rfl ?_;refine J_ aI ?_;cases c1:decide (k < 0)
   case true =>
     rw[if_pos (.inl (by simpa using c1))] at gG
     refine J_ aI ?_;exact aa gG
   refine J_ aI ?_;apply bz;rfl;(focus exact k1);(focus exact fK hi (by simp) zs)
   refine J_ aI ?_;cases c2:decide ((d.f[i].b.length:Int) < k)
   case true =>
     rw[if_pos (.inr (by simpa using c2))] at gG
     refine J_ aI ?_;exact aa gG
   rw[if_neg (by simp at c1 c2;omega)] at gG
   refine J_ aI ?_;exact aa gG
 · have y5:=oX.get n5 x5;obtain⟨fb,c,zs,nG,k1,k2⟩:=hX.row hi;have AN:(d.lN ops aD aE down).f=d.f:=rfl;rw[AN] at nG k1 k2;rw[me nG,getD_at hi] at *;have da:=hw.sz _ (List.getElem_mem hi);have UY:0≤k∧k≤d.f[i].b.length:=by
     by_cases hc:k < 0∨k > (d.f[i].b.length:Int)
     · rw[if_pos hc] at Ba;cases Ba
     · omega
   refine ah L C3 rfl ?_;refine J_ aI ?_;apply bz;rfl;(focus exact k1);(focus exact fK hi (by simp) zs)
   refine J_ aI ?_;apply sS (k:=k.toNat);rfl;rfl;rfl;(focus omega);(focus omega);(focus (simp;omega));rw[←List.map_take];refine J_ aI ?_;apply bz;rfl;(focus exact k1);(focus exact jw hi (by simp) zs)
   refine J_ aI ?_;rw[nZ hi] at k1;apply bU;rfl;rfl;rfl;rfl;(focus exact k1);(focus (have:=jP (v:=.sl .no 1 (d.f[i].b.map U)) (w:=I d.f[i].safe) (zs:=zs) hi;omega));intro X3 x3 f3;have Adg:c5≠fb:=fun e=>n5 (by simp[Hd.bs,nG,eI,e])
   have y5':=f3.get (by simpa using Adg) y5
   have NH:X3 fb=some (.obj (iQ d.f i (.sl .full 1 ((d.f[i].b.take k.toNat).map U)) (I d.f[i].safe) zs)):=by
     rw[x3];have e:bu (iQ d.f i (.sl .no 1 (d.f[i].b.map U)) (I d.f[i].safe) zs) (i*2+0) (HV.sl .full 1 ((d.f[i].b.take k.toNat).map U)).cells=(iQ d.f i (.sl .no 1 (d.f[i].b.map U)) (I d.f[i].safe) zs).set (i*2) (.sl .full 1 ((d.f[i].b.take k.toNat).map U)):=rfl;rw[e,mh hi]
   refine J_ aI ?_;apply bU;rfl;rfl;rfl;rfl;(focus exact NH);(focus (have:=jP (v:=.sl .full 1 ((d.f[i].b.take k.toNat).map U)) (w:=I d.f[i].safe) (zs:=zs) hi;omega));intro X4 x4 f4;have e4:min k (d.f[i].safe:Int)=((min k.toNat d.f[i].safe:Nat):Int):=by omega
   have x4':X4 fb=some (.obj (iQ d.f i (.sl .full 1 ((d.f[i].b.take k.toNat).map U)) (I ((min k.toNat d.f[i].safe:Nat):Int)) zs)):=by
     rw[x4,←e4];have e:bu (iQ d.f i (.sl .full 1 ((d.f[i].b.take k.toNat).map U)) (I d.f[i].safe) zs) (i*2+1) (I (min k (d.f[i].safe:Int))).cells=(iQ d.f i (.sl .full 1 ((d.f[i].b.take k.toNat).map U)) (I d.f[i].safe) zs).set (i*2+1) (I (min k (d.f[i].safe:Int))):=rfl;rw[e,sT hi]
   obtain⟨Y,cJ,hY,oY⟩:=wJ (s:=min k.toNat d.f[i].safe) hX nG k2 hi x4' (f3.trans f4) (by simp[eI]) (.inl (an.drop _ _ _))
   refine ax (oc (sR (C0 (UX (cJ _) rfl (aa (gF Y h _ hY oY))))))
 · refine J_ aI ?_;exact aa (hk Y h' hY ((Own.of _ fa).trans oY))
theorem kW(L:ai code)(b:Nat)(h:Hd)(d:Dk)(p:List UInt8)(n m:Nat)(hw:d.WF n m)(hn:n < 1048576)(hp:p.length≤1048576)(H:ab)(hD:KD H b h d)
   (K) (hk:∀Y h',KD Y b h' (d.sync p).1→Own H Y (h.bs b) (h'.bs b)→K (I (d.sync p).2) Y):Spec L.P L.ν 303 [ptr b,S p] H K:=by
 refine ah L C4 rfl ?_;refine K_ aI ?_;refine nY L b h d p 342 343 [] [] (fun f=>0) (fun f=>⟨f.b,f.b.length⟩) n m hw hn hp H hD (fun i hi X hX fX K1 gF=>?_) (fun i hi Ba ops aD aE down X hX oX K1 gF=>?_) _ fun Y h' hY oY=>?_;{refine ah L C5 rfl ?_;refine J_ aI ?_;exact aa (gF X (Fr.refl _ _))}
 · obtain⟨fb,c,zs,nG,k1,k2⟩:=hX.row hi;have AN:(d.lN ops aD aE down).f=d.f:=rfl;rw[AN] at nG k1 k2;rw[me nG,getD_at hi] at *;have da:=hw.sz _ (List.getElem_mem hi);refine ah L C6 rfl ?_;refine J_ aI ?_;apply bz;rfl;(focus exact k1);(focus exact fK hi (by simp) zs)
   refine J_ aI ?_;rw[nZ hi] at k1;apply bU;rfl;rfl;rfl;rfl;(focus exact k1);(focus (have:=jP (v:=.sl .no 1 (d.f[i].b.map U)) (w:=I d.f[i].safe) (zs:=zs) hi;omega));intro X3 x3 f3;have NH:X3 fb=some (.obj (iQ d.f i (.sl .no 1 (d.f[i].b.map U)) (I d.f[i].b.length) zs)):=by
     rw[x3];have e:bu (iQ d.f i (.sl .no 1 (d.f[i].b.map U)) (I d.f[i].safe) zs) (i*2+1) (I (d.f[i].b.length:Int)).cells=(iQ d.f i (.sl .no 1 (d.f[i].b.map U)) (I d.f[i].safe) zs).set (i*2+1) (I (d.f[i].b.length:Int)):=rfl;rw[e,sT hi]
   obtain⟨Y,cJ,hY,oY⟩:=wJ (s:=d.f[i].b.length) hX nG k2 hi NH f3 (by simp[eI]) (.inl (an.refl _))
   refine ax (C0 (UX (cJ _) rfl (aa (gF Y h _ hY oY))))
 · refine J_ aI ?_;exact aa (hk Y h' hY oY)
end Sm
namespace Sm
open Go
theorem mi{p:List UInt8}(h:dq p=0):p.length≤128:=by
 unfold dq at h;split at h;{cases h};{omega}
theorem Aau{d:Dk}{n m:Nat}(hw:d.WF n m){x:Nm}(b:List UInt8):Nc d.now (.mv x (bG d.now b) b):=by
 refine⟨fun z hz n hn he=>?_,?_⟩;{simp only[di.cN,List.mem_singleton] at hz;subst hz;have hg:=mX hw.eh.nd hn;rw[he] at hg;simp only at hg;simp[eS,hg,di.gone]}
 · cases hg:bG d.now b with
   | none=>trivial
   | some y=>exact(dN hg).2
theorem Kb(d:Dk)(a b:List UInt8):H7 d [a,b]=if d.asked a≠0 then d.asked a else dq b:=by
 unfold H7 Dk.asked;cases d.down
 · simp only[yr]
   by_cases h1:dq a=0
   · by_cases h2:dq b=0<;>simp[h1,h2]
   · simp[h1]
 · rfl
theorem Aav{sl:List (Nat×EV)}{bx:List (Nat×List HV)}{H:ab}{t b:Nat}{cs:List HV}(hx:(M sl bx).get t=some (.h (ptr b)))(hb:H b=some (.obj cs)):VS (M sl bx) H (M ((t,.h (.rp cs))::sl) bx) (H.bt b none):=by
 refine VS.freeze hb (fun s x hs=>?_) (fun k c1 hk=>⟨c1,hk,.inl rfl⟩) (fun s k o hs hk=>hk) fun a r ha=>?_;{rw[gN] at hs;split at hs;{rename_i e;subst e;simp only[Option.some.injEq] at hs;subst hs;exact⟨_,hx,.inr FW.ptr⟩};{exact⟨x,hs,.inl rfl⟩}}
 · by_cases h:a=b
   · subst h;rw[ab.aB] at ha;cases ha
   · rw[ab.cK _ _ h] at ha;exact⟨h,r,ha,.inl rfl⟩
attribute [local irreducible] aH aj aX bk aA aL bn DK RK JK BR G3 bh Spec Tok Fr CV
theorem mj(L:ai code)(b:Nat)(l:List Nm)(H:ab)(hM:PM H b l)(K)(hk:∀b' X,H b'=none→PM X b' l→Fr [] H X→K (.v (.map (some b'))) X):Spec L.P L.ν 329 [.v (.map (some b))] H K:=by
 obtain⟨m,hp,hm⟩:=hM;refine ah L C7 rfl ?_;refine J_ aI ?_;refine gi rfl ?_;show aj _ _ (M ((4,.h (B false))::_) _) _ _;refine J_ aI ?_;refine gi rfl ?_;show aj _ _ (M ((6,.h (.v (.iface clT (.map (some b)))))::_) _) _ _;refine J_ aI ?_;refine gi rfl (UZ hm fun b' X h1 h2 f1=>?_);refine J_ aI ?_;refine gi rfl ⟨rfl,?_⟩;refine J_ aI ?_;exact aa (hk b' X h1 ⟨m,hp,h2⟩ f1)
theorem kX(L:ai code)(b:Nat)(h:Hd)(d:Dk)(p:List UInt8)(n m:Nat)(hw:d.WF n m)(hn:n < 1048576)(hp:p.length≤1048576)(H:ab)(hD:KD H b h d)
   (K) (hk:∀Y h',KD Y b h' (d.remove p).1→Own H Y (h.bs b) (h'.bs b)→K (I (d.remove p).2) Y):Spec L.P L.ν 298 [ptr b,S p] H K:=by
 unfold Dk.remove at hk;have hlen:=hw.len;have cH:=hw.op;refine ah L C8 rfl ?_;refine J_ aI ?_;refine AM aI ?_;intro c2 X1 h2 x2 f1 _;refine J_ aI ?_;refine AM aI ?_;intro c3 X2 h3 x3 f2 _;have x2a:=f2.get (by simp) x2
 have fa:=f1.trans f2;have lW:=hD.dt fa;have n2:=hD.new h2;have n3:=hD.new (f1.bM h3);clear x2;refine K_ aI ?_;refine jx L b h d .full [p] (by simpa using hp) (by simp) X2 lW _ fun X4 f4=>?_
 rw[sU];have fb:=fa.trans f4;have iR:=lW.dt f4;have ob4:=iR.ob;have ZG:=f4.get (by simp) x2a
 have NI:=f4.get (by simp) x3
 clear x2a x3;refine J_ aI ?_;cases c1:(d.asked p != 0)
 case true =>
   have fR:d.asked p≠0:=by simpa using c1
   rw[if_pos fR] at hk
   repeat (refine gk (And.intro aI c1) ?_)
   exact aa (hk X4 h iR (Own.of _ fb))
 have fR:¬d.asked p≠0:=by simpa using c1
 rw[if_neg fR] at hk
 repeat (refine gk (And.intro aI c1) ?_)
 apply sV iR.no hw.eh;rfl;refine J_ aI ?_;cases g2:bG d.now p with
 | none =>
   rw[g2] at hk;simp only[Option.isSome_none,Bool.not_false];refine J_ aI ?_;exact aa (hk X4 h iR (Own.of _ fb))
 | some x =>
   rw[g2] at hk;simp only at hk;simp only[Option.isSome_some,Bool.not_true];refine J_ aI ?_;obtain⟨mm,hpm,hm⟩:=iR.no;refine gi rfl (Kd hm fun it X5 hit hI f5=>?_);refine J_ aI ?_;refine aV (ak L) (fun(q:List Nm)=>[(2,.h (ptr c2)),(3,.h (ptr c3)),(31,.h (ptr it))]) (fun _=>[]) (fun q X=>Nd X it h.mn Nm.path ZH mm q∧Fr [] X4 X∧q.any (fun n=>fJ n.path==p)=false) (fun q=>mm.length - q.length) [] ?_ ⟨hI,f5,rfl⟩ ?_;{exact E_};rintro done X ⟨hI,hf,jJ⟩;have y2:=hf.get (by simp) ZG
   have y3:=hf.get (by simp) NI
   refine J_ aI ?_;refine gi rfl (Ke hI hI.ne (fun hpd=>?_) fun a X1 ha Mg Qc f1=>?_)
   · have Mh:d.now.any (fun n=>fJ n.path==p)=false:=by
       rw[List.any_eq_false] at jJ ⊢;exact fun y hy=>jJ y ((hpd.trans hpm).mem_iff.mpr hy)
     rw[Mh] at hk;simp only[Bool.false_eq_true,if_false] at hk;have Qd:=iR.dt hf;refine K_ aI ?_;refine kC L b h d (d.lT (.rm x)) (by omega) hw.fa hw.wr rfl _ X Qd (fun ops aD aE down X hX oX K1 gF=>?_) _ fun Y h' hY oY=>?_
     · refine yu ?_;have z2:=oX.get n2 y2;have z3:=oX.get n3 y3;have Mi:x.path=p:=(dN g2).2;refine ah L C9 rfl ?_;refine K_ aI ?_;refine Spec.args (jt:=[ptr b,ml (.rm x)]) ⟨an.refl _,an.ag (bs:=[.sl .no 1 [S x.path],.sl .no 1 [.v (.pointer none)]]) ⟨by rw[Mi];exact an.drop _ _ _,an.drop _ _ _,T_⟩ rfl,T_⟩ ?_
       refine iZ L b h (d.lN ops aD aE down) (.rm x) hw.eh ⟨by simp[di.cN],T_⟩ (by show d.loose.length < _;omega) X hX _ fun Y hY oY=>?_
       refine J_ aI ?_;exact aa (gF Y h _ hY oY)
     · refine J_ aI ?_;exact aa (hk Y h' hY ((Own.of _ (fb.trans hf)).trans oY))
   have Nf:Fr [] X4 X1:=hf.own hit f1;have hlen:=Qc.len;rw[List.length_append,List.length_cons,List.length_nil] at hlen;have hpa:=mi (hw.ei a (hpm.mem_iff.mp ha)).2.2;have y2':=Nf.get (by simp) ZG
   have y3':=Nf.get (by simp) NI
   refine J_ aI ?_;refine gi rfl (Kf Qc ?_);refine K_ aI ?_;refine qN L a.path (by omega) _ _ ?_
   refine J_ aI ?_;cases c3:(fJ a.path==p)
   case true =>
     have Adh:d.now.any (fun n=>fJ n.path==p)=true:=List.any_eq_true.mpr ⟨a,hpm.mem_iff.mp ha,c3⟩;rw[Adh] at hk;simp only[if_true] at hk;refine J_ aI ?_;exact aa (hk X1 h (iR.dt Nf) (Own.of _ (fb.trans Nf)))
   refine J_ aI ?_;refine dG (done++[a]) (by simp;omega) ⟨Qc,Nf,by rw[List.any_append,jJ];simpa using c3⟩ ?_
   exact E_
end Sm
namespace Sm
open Go
theorem Kg{H:ab}{v:HV}{l:List Fl}(h:FS H v l):v.one=true:=by
 rcases h with⟨rfl,_⟩ | ⟨fb,c,zs,rfl,_⟩<;>rfl
attribute [local irreducible] aH aj aX bk aA aL bn DK RK JK BR G3 bh Spec Tok Fr CV
theorem nO(L:ai code)(b:Nat)(h:Hd)(d:Dk)(p q:List UInt8)(n m:Nat)(hw:d.WF n m)(hn:n < 1048576)(hp:p.length≤1048576)(hq:q.length≤1048576)(H:ab)(hD:KD H b h d)
   (K) (hk:∀Y h',KD Y b h' (d.rename p q).1→Own H Y (h.bs b) (h'.bs b)→K (I (d.rename p q).2) Y):Spec L.P L.ν 309 [ptr b,S p,S q] H K:=by
 unfold Dk.rename at hk;have hlen:=hw.len;have cH:=hw.op;refine ah L C' rfl ?_;refine J_ aI ?_;refine AM aI ?_;intro c3 X1 h3 x3 f1 _;refine J_ aI ?_;refine AM aI ?_;intro c4 X2 h4 x4 f2 _;have Mj:=f2.get (by simp) x3
 refine J_ aI ?_;refine AM aI ?_;intro c5 X3 h5 x5 f3 _;have NI:=f3.get (by simp) Mj
 have x4b:=f3.get (by simp) x4
 have f0:=(f1.trans f2).trans f3;have yw:=hD.dt f0;have n3:=hD.new h3;have n4:=hD.new (f1.bM h4);have n5:=hD.new ((f1.trans f2).bM h5);clear x3 x4 Mj;refine K_ aI ?_;refine jx L b h d .full [p,q] (by simpa using ⟨hp,hq⟩) (by simp) X3 yw _ fun X4 f4=>?_
 rw[Kb];have fa:=f0.trans f4;have iR:=yw.dt f4;have ob4:=iR.ob;have x3c:=f4.get (by simp) NI
 have x4c:=f4.get (by simp) x4b
 have x5c:=f4.get (by simp) x5
 have o4:=Own.of (h.bs b) fa;clear NI x4b x5;cases c1:(d.asked p != 0)
 case true =>
   have fR:d.asked p≠0:=by simpa using c1
   rw[if_pos fR] at hk;rw[if_pos fR]
   repeat (refine gk (And.intro aI c1) ?_)
   exact aa (hk X4 h iR o4)
 have fR:¬d.asked p≠0:=by simpa using c1
 rw[if_neg fR] at hk;rw[if_neg fR];refine J_ aI ?_;cases c2:(dq q != 0)
 case true =>
   have pE:dq q≠0:=by simpa using c2
   rw[if_pos pE] at hk
   repeat (refine gk (And.intro aI c2) ?_)
   exact aa (hk X4 h iR o4)
 have pE:¬dq q≠0:=by simpa using c2
 rw[if_neg pE] at hk
 repeat (refine gk (And.intro aI c2) ?_)
 (apply af;rfl);refine jy L b h d p hw.eh (fun x hx=>(hw.ei x hx).2.1) X4 iR _ ?_;cases e2:(bZ d.now p != 0)
 case true =>
   have uJ:bZ d.now p≠0:=by simpa using e2
   rw[if_pos uJ] at hk;rw[if_neg uJ]
   repeat (refine gk (And.intro aI e2) ?_)
   exact aa (hk X4 h iR o4)
 have uJ:bZ d.now p=0:=by simpa using e2
 rw[if_neg (by simp[uJ])] at hk
 rw[if_pos uJ]
 repeat (refine gk (And.intro aI e2) ?_)
 (apply af;rfl);refine oH L b h d q hq hw.eh X4 iR _ ?_;refine J_ aI ?_;cases yx:(iG d.now q != 0)
 case true =>
   have U0:iG d.now q≠0:=by simpa using yx
   rw[if_pos U0] at hk
   repeat (refine gk (And.intro aI yx) ?_)
   exact aa (hk X4 h iR o4)
 have U0:¬iG d.now q≠0:=by simpa using yx
 rw[if_neg U0] at hk
 repeat (refine gk (And.intro aI yx) ?_)
 apply sV iR.no hw.eh;rfl;have Adi:(bG d.now q).any (·.dir)=(if (bG d.now q).isSome then uN (bG d.now q) else false):=by cases bG d.now q<;>rfl
 rw[Adi] at hk;refine J_ aI ?_;cases e3:(bG d.now q).isSome&&uN (bG d.now q)
 case true =>
   rw[Bool.and_eq_true] at e3;obtain⟨e4,e5⟩:=e3;rw[e4,e5] at hk ⊢;simp only[if_true] at hk;refine J_ aI ?_;exact aa (hk X4 h iR o4)
 have e4:(if (bG d.now q).isSome then uN (bG d.now q) else false)=false:=by
   cases h1:(bG d.now q).isSome;{rfl};{rw[h1] at e3;simpa using e3}
 rw[e4] at hk;simp only[Bool.false_eq_true,if_false] at hk;obtain⟨x,gx⟩:∃x,bG d.now p=some x:=by
   unfold bZ at uJ;cases hg:bG d.now p with
   | none=>rw[hg] at uJ;cases uJ
   | some x=>exact⟨x,rfl⟩
 have Bb:x.dir=false:=by
   unfold bZ at uJ;rw[gx] at uJ;cases Bb:x.dir;{rfl};{simp[Bb] at uJ}
 rw[gx] at hk;simp only at hk;have rI:ZI (some x) = .ag [B false,I x.id]:=by simp[uN,Bb,idO]
 have hor:(bG d.now q).isSome=false∨((bG d.now q).isSome=true∧uN (bG d.now q)=false):=by
   cases h1:(bG d.now q).isSome;{exact .inl rfl};{rw[h1] at e4;exact .inr ⟨rfl,e4⟩}
 rcases hor with h1 | ⟨h1,h2⟩
 all_goals
   rw[h1]
   try rw[h2]
   refine J_ aI ?_;refine aG rfl (U1 iR.no hw.eh rfl rfl) ?_;rw[gx,rI];refine J_ aI ?_;refine oI fun cx NJ=>?_;have NK:Fr [] X4 (X4.bt cx (some (.obj [.v (.bool false),.v (.int .i64 0)]))):=Fr.new NJ;generalize NL:X4.bt cx (some (.obj [.v (.bool false),.v (.int .i64 0)]))=X5 at NK;have xa:X5 cx=some (.obj [.v (.bool false),.v (.int .i64 0)]):=by rw[←NL,ab.aB]
   refine J_ aI ?_;refine rJ aI ?_;intro X6 x6 f6;have f7:Fr [] X4 (X6.bt cx none):=(NK.own NJ f6).dB NJ;refine ax (C0 (U2 (Aav (t:=13) rfl x6) ?_));generalize X6.bt cx none=X7 at f7;have y3:=f7.get (by simp) x3c
   have y4:=f7.get (by simp) x4c
   have y5:=f7.get (by simp) x5c
   have U3:=iR.dt f7;refine K_ aI ?_;refine kC L b h d (d.lT (.mv x (bG d.now q) q)) (by omega) hw.fa hw.wr rfl _ X7 U3 (fun ops aD aE down X hX oX K1 gF=>?_) _ fun Y h' hY oY=>?_
   · refine yu ?_;have z3:=oX.get n3 y3;have z4:=oX.get n4 y4;have z5:=oX.get n5 y5;have Mi:x.path=p:=(dN gx).2;refine ah L Da rfl ?_;refine K_ aI ?_;refine Spec.args (jt:=[ptr b,ml (.mv x (bG d.now q) q)]) ⟨an.refl _,an.ag (bs:=[.sl .no 1 [S x.path,S q],.sl .no 1 [.v (.pointer none),.rp [B false,I x.id]]]) ⟨by rw[Mi];exact an.drop _ _ _,an.drop _ _ _,T_⟩ rfl,T_⟩ ?_
     refine iZ L b h (d.lN ops aD aE down) (.mv x (bG d.now q) q) hw.eh (Aau hw q) (by show d.loose.length < _;omega) X hX _ fun Y hY oY=>?_
     refine J_ aI ?_;exact aa (gF Y h _ hY oY)
   · refine J_ aI ?_;exact aa (hk Y h' hY ((Own.of _ (fa.trans f7)).trans oY))
end Sm
namespace Sm
open Go
attribute [local irreducible] aH aj aX bk aA aL bn DK RK JK BR G3 bh Spec Tok Fr CV
theorem jz(L:ai code)(b:Nat)(h:Hd)(d:Dk)(n m:Nat)(hw:d.WF n m)(hn:n < 1048576)(H:ab)(hD:KD H b h d)
   (K) (hk:∀Y h',KD Y b h' d.aM.1→Own H Y (h.bs b) (h'.bs b)→K (I d.aM.2) Y):Spec L.P L.ν 304 [ptr b] H K:=by
 unfold Dk.aM at hk;have cH:=hw.op;refine ah L Db rfl ?_;refine J_ aI ?_;refine AM aI ?_;intro c1 X1 h1 x1 f1 _;have n1:=hD.new h1;have oy:=hD.dt f1;refine K_ aI ?_;refine il L b h d X1 oy _ fun X2 f2=>?_;have fa:=f1.trans f2;have lW:=hD.dt fa;have x1':=f2.get (by simp) x1
 cases fR:d.down
 case true =>
   rw[if_pos fR] at hk;refine J_ aI ?_;exact aa (hk X2 h lW (Own.of _ fa))
 rw[if_neg (by simp[fR])] at hk
 simp only[Bool.false_eq_true,if_false];refine K_ aI ?_;refine kC L b h d { d with sure:=d.now,loose:=[] } (by omega) hw.fa hw.wr rfl _ X2 lW (fun ops aD aE down X hX oX K1 gF=>?_) _ fun Y h' hY oY=>?_
 · refine yu ?_;have y1:=oX.get n1 x1';have ob:=hX.ob;have rI:=hX.nd;simp only[Hd.bs,List.nodup_cons,List.mem_cons,not_or] at rI;obtain⟨⟨q1,q2,q3⟩,⟨q4,q5⟩,q6,q7⟩:=rI;refine ah L Dc rfl ?_;refine K_ aI ?_;refine mj L h.mn d.now X hX.no _ fun m' X1' hm' hM' g1=>?_;have y1':=g1.get (by simp) y1
   have ob':=g1.get (by simp) ob
   have nm:=hX.new hm';simp only[Hd.bs,List.mem_cons,not_or] at nm;have n1b:c1≠b:=fun e=>n1 (by simp[Hd.bs,e])
   refine J_ aI ?_;refine rJ aI ?_;intro X3 x3 f3;have Ad4:=f3.get (by simpa using n1b) y1'
   refine J_ aI ?_;refine rJ aI ?_;intro X4 x4 f4;have fX:Fr [b] X X4:=((g1.mono (by simp)).trans f3).trans f4
   have Jw:Fr [b] X1' X4:=f3.trans f4;refine ax (oc (sR (C0 (OI rfl (sW (h':=.tu []) (an.refl _) (kY (cs:=[I d.room,.v (.map (some m')),.v (.map (some h.mn)),.sl .no 2 [],h.fv,B down,I ops,I aD,B d.done,I aE]) x4 ⟨an.refl _,an.refl _,an.refl _,an.dO 2,an.refl _,an.refl _,an.refl _,an.refl _,an.refl _,an.refl _,T_⟩ ?_) (gF _ ⟨m',h.mn,h.fv⟩ _ ?_ ?_))))));{have:=Kg hX.fs;simp only[List.all_cons,this];rfl}
   · generalize hZ:X4.bt b (some (.obj [I d.room,.v (.map (some m')),.v (.map (some h.mn)),.sl .no 2 [],h.fv,B down,I ops,I aD,B d.done,I aE]))=Z;have fZ:Fr [b] X Z:=by rw[←hZ];exact fX.trans (Fr.set (by simp))
     have fZ1:Fr [b] X1' Z:=by rw[←hZ];exact Jw.trans (Fr.set (by simp))
     refine⟨by rw[←hZ,ab.aB];rfl,hM'.fr fZ1 (by simpa using nm.1),hX.no.fr fZ (by simpa using fun e=>q2 e.symm),hX.fs.fr fZ (fun a ha hm=>by rw[List.mem_singleton] at hm;subst hm;exact q3 ha),?_⟩
     simp only[Hd.bs,List.nodup_cons,List.mem_cons,not_or];exact⟨⟨fun e=>nm.1 e.symm,q2,q3⟩,⟨nm.2.2.1,nm.2.2.2⟩,q6,q7⟩
   · have o1:Own X X1' (h.bs b) ((⟨m',h.mn,h.fv⟩:Hd).bs b):=⟨g1.mono (by simp),fun a ha=>by
       simp only[Hd.bs,List.mem_cons] at ha ⊢;rcases ha with rfl | rfl | rfl | ha;{simp};{exact .inr hm'};{simp}
       · simp[ha]⟩
     exact o1.trans (Own.set (cs:=[b]) (Jw.trans (Fr.set (by simp))) (by simp[Hd.bs]))
 · refine J_ aI ?_;exact aa (hk Y h' hY ((Own.of _ fa).trans oY))
theorem Bd(L:ai code)(b:Nat)(h:Hd)(d:Dk)(k:Int)(done:Bool)(H:ab)(hD:KD H b h d)
   (K) (hk:∀Y,KD Y b h (d.fail k done).1→Own H Y (h.bs b) (h.bs b)→K (I (d.fail k done).2) Y):Spec L.P L.ν 310 [ptr b,I k,B done] H K:=by
 unfold Dk.fail at hk;refine ah L Dd rfl ?_;refine K_ aI ?_;refine il L b h d H hD _ fun X2 f2=>?_;have lW:=hD.dt f2;have ob:=lW.ob;cases fR:d.down
 case true =>
   rw[fR] at hk;refine J_ aI ?_;exact aa (hk X2 lW (Own.of _ f2))
 rw[fR] at hk ob;simp only[Bool.false_eq_true,if_false] at hk ⊢;refine J_ aI ?_;cases c2:decide (k < 0)
 case true =>
   rw[if_pos (by simpa using c2)] at hk
   refine J_ aI ?_;exact aa (hk X2 lW (Own.of _ f2))
 rw[if_neg (by simpa using c2)] at hk
 refine J_ aI ?_;refine rJ aI ?_;intro X3 x3 f3;refine J_ aI ?_;refine rJ aI ?_;intro X4 x4 f4;have f34:=f3.trans f4;refine J_ aI ?_;exact aa (hk X4 (lW.cell f34 x4 rfl rfl rfl) ((Own.of _ f2).trans (Own.cell f34)))
theorem yy(L:ai code)(b:Nat)(h:Hd)(d:Dk)(k:Int)(H:ab)(hD:KD H b h d)
   (K) (hk:∀Y,KD Y b h (d.fault k).1→Own H Y (h.bs b) (h.bs b)→K (I (d.fault k).2) Y):Spec L.P L.ν 311 [ptr b,I k] H K:=by
 unfold Dk.fault at hk;refine ah L De rfl ?_;refine K_ aI ?_;refine il L b h d H hD _ fun X2 f2=>?_;have lW:=hD.dt f2;have ob:=lW.ob;cases fR:d.down
 case true =>
   rw[fR] at hk;refine J_ aI ?_;exact aa (hk X2 lW (Own.of _ f2))
 rw[fR] at hk ob;simp only[Bool.false_eq_true,if_false] at hk ⊢;refine J_ aI ?_;cases c2:decide (k < 0)
 case true =>
   rw[if_pos (by simpa using c2)] at hk
   refine J_ aI ?_;exact aa (hk X2 lW (Own.of _ f2))
 rw[if_neg (by simpa using c2)] at hk
 refine J_ aI ?_;refine rJ aI ?_;intro X3 x3 f3;refine J_ aI ?_;exact aa (hk X3 (lW.cell f3 x3 rfl rfl rfl) ((Own.of _ f2).trans (Own.cell f3)))
theorem sY(L:ai code)(b:Nat)(h:Hd)(d:Dk)(H:ab)(hD:KD H b h d)(K)(hk:K (B d.down) H):Spec L.P L.ν 314 [ptr b] H K:=by
 have ob:=hD.ob;refine ah L Df rfl ?_;refine J_ aI ?_;exact aa hk
theorem pT(L:ai code)(b:Nat)(h:Hd)(d:Dk)(H:ab)(hD:KD H b h d)(K)(hk:K (I d.ops) H):Spec L.P L.ν 315 [ptr b] H K:=by
 have ob:=hD.ob;refine ah L Dg rfl ?_;refine J_ aI ?_;exact aa hk
theorem NM{d:Dk}{n m:Nat}(hw:d.WF n m){p:List UInt8}(h:bZ d.now p=0):mc d.now p < d.f.length:=by
 unfold bZ at h;unfold mc;cases hg:bG d.now p with
 | none=>rw[hg] at h;cases h
 | some x =>
   rw[hg] at h;simp only at h ⊢;cases Bb:x.dir;{exact(hw.ei x (dN hg).1).2.1 Bb};{rw[Bb] at h;cases h}
theorem Be(L:ai code)(b:Nat)(h:Hd)(d:Dk)(p:List UInt8)(n m:Nat)(hw:d.WF n m)(hm:m≤140737488355328)(H:ab)(hD:KD H b h d)(K)(hk:∀v X,CB X v (d.read p).1→Fr [] H X→(∀a∈eI v,H a=none)→K (.tu [v,I (d.read p).2]) X):Spec L.P L.ν 300 [ptr b,S p] H K:=by
 unfold Dk.read at hk;refine ah L Dh rfl ?_;refine K_ aI ?_;refine il L b h d H hD _ fun X2 f2=>?_;have lW:=hD.dt f2;cases fR:d.down
 case true =>
   rw[fR] at hk;simp only[if_true] at hk ⊢;refine J_ aI ?_;exact aa (hk (.v (.slice none 0 0)) X2 (.inl ⟨rfl,rfl⟩) f2 (by simp[eI]))
 rw[fR] at hk;simp only[Bool.false_eq_true,if_false] at hk ⊢;refine K_ aI ?_;refine jy L b h d p hw.eh (fun x hx=>(hw.ei x hx).2.1) X2 lW _ ?_;cases e2:(bZ d.now p != 0)
 case true =>
   have uJ:bZ d.now p≠0:=by simpa using e2
   rw[if_pos uJ] at hk;rw[if_neg uJ]
   repeat (refine gk (And.intro aI e2) ?_)
   exact aa (hk (.v (.slice none 0 0)) X2 (.inl ⟨rfl,rfl⟩) f2 (by simp[eI]))
 have uJ:bZ d.now p=0:=by simpa using e2
 rw[if_neg (by simp[uJ])] at hk
 rw[if_pos uJ];have hi:=NM hw uJ;obtain⟨fb,c,zs,nG,k1,k2⟩:=lW.row hi;rw[getD_at hi] at hk;rw[me nG];have da:=hw.sz _ (List.getElem_mem hi)
 repeat (refine gk (And.intro aI e2) ?_)
 apply bz;rfl;(focus exact k1);(focus exact fK hi (by simp) zs)
 refine K_ aI ?_;refine mg L .no _ (by omega) X2 _ fun v X hc fX hn=>?_
 refine J_ aI ?_;exact aa (hk v X hc (f2.trans fX) fun a ha=>f2.bM (hn a ha))
theorem vi(L:ai code)(k:Int)(H:ab)(K)(hk:∀b h X,(∀a∈h.bs b,H a=none)→KD X b h (eD k)→Fr [] H X→K (ptr b) X):Spec L.P L.ν 294 [I k] H K:=by
 refine ah L Di rfl ?_;refine J_ aI ?_;refine gi rfl fun m1 Kh=>?_;have h1:MP (H.bt m1 (some (.mp [] 0))) m1 Nm.path ZH []:=MP.new;have g1:Fr [] H (H.bt m1 (some (.mp [] 0))):=Fr.new Kh;generalize H.bt m1 (some (.mp [] 0))=X1 at h1 g1;refine J_ aI ?_;refine gi rfl fun m2 AL=>?_;have h2:MP (X1.bt m2 (some (.mp [] 0))) m2 Nm.path ZH []:=MP.new;have g2:Fr [] X1 (X1.bt m2 (some (.mp [] 0))):=Fr.new AL;have Adj:m1≠m2:=fun e=>by obtain⟨r,hr⟩:=h1.held;rw[e,AL] at hr;cases hr
 generalize X1.bt m2 (some (.mp [] 0))=X2 at h2 g2;have Ki:=h1.fr g2 (by simp)
 refine J_ aI ?_;refine AM aI ?_;intro b X3 hb x3 f3 _;have Adk:=Ki.fr f3 (by simp)
 have Adl:=h2.fr f3 (by simp)
 have lL:b≠m1:=fun e=>by obtain⟨r,hr⟩:=Ki.held;rw[←e,hb] at hr;cases hr
 have A7:b≠m2:=fun e=>by obtain⟨r,hr⟩:=h2.held;rw[←e,hb] at hr;cases hr
 have gH:Fr [] H X3:=(g1.trans g2).trans f3;refine J_ aI ?_;refine sW (h':=ptr b) (an.refl _) (kY (cs:=[I (eD k).room,.v (.map (some m1)),.v (.map (some m2)),.sl .no 2 [],.v (.slice none 0 0),B false,I 0,I (-1),B false,I (-1)]) x3 ⟨an.refl _,an.refl _,an.refl _,an.dO 2,an.refl _,an.refl _,an.refl _,an.refl _,an.refl _,an.refl _,T_⟩ rfl) (hk b ⟨m1,m2,.v (.slice none 0 0)⟩ _ ?_ ?_ ?_);{intro a ha;simp only[Hd.bs,eI,List.mem_cons,List.not_mem_nil,or_false] at ha;rcases ha with rfl | rfl | rfl;{exact(g1.trans g2).bM hb};{exact Kh};{exact g1.bM AL}}
 · have fb:Fr [b] X3 (X3.bt b (some (.obj [I (eD k).room,.v (.map (some m1)),.v (.map (some m2)),.sl .no 2 [],.v (.slice none 0 0),B false,I 0,I (-1),B false,I (-1)]))):=Fr.set (by simp)
   refine⟨ab.aB _ _ _,⟨[],List.Perm.refl _,Adk.fr fb (by simpa using lL.symm)⟩,⟨[],List.Perm.refl _,Adl.fr fb (by simpa using A7.symm)⟩,.inl ⟨rfl,rfl⟩,?_⟩
   simp[Hd.bs,eI,lL,A7,Adj]
 · exact gH.own ((g1.trans g2).bM hb) (Fr.set (by simp))
end Sm
