/-
  J18,J19,J20,J21,J22,J23,J24,J25
-/
import Derived.Test.YtegmmhldpmmkeaaGreatDoorSmJC
set_option linter.unusedVariables false
set_option linter.unusedSimpArgs false
set_option maxRecDepth 10000
set_option maxHeartbeats 4000000
namespace Sm
open Go
structure nJ (α:Type) where
 f:α→HV
 sz:Nat
 nc:∀x,(f x).aN=sz
 el:∀x,(f x).el=true
def nK:nJ Rc:=⟨bc,37,fun _=>rfl,fun _=>rfl⟩
def gz:nJ Pt:=⟨bB,36,fun _=>rfl,fun _=>rfl⟩
def aP{α:Type}(T:nJ α)(l:List α):List HV:=(l.map T.f).flatMap HV.cells
theorem bJ{α:Type}(T:nJ α)(l:List α):(aP T l).length=l.length*T.sz:=by
 unfold aP;rw[mH (fun e he=>by obtain⟨x,_,rfl⟩:=List.mem_map.mp he;exact T.nc x),List.length_map]
theorem ly{α:Type}(T:nJ α)(a b:List α):aP T (a++b)=aP T a++aP T b:=by simp[aP]
theorem elG{α:Type}(T:nJ α)(l:List α):(l.map T.f).all HV.el=true:=by simp[T.el]
theorem ncG{α:Type}(T:nJ α)(l:List α):∀e∈l.map T.f,e.aN=T.sz:=fun e he=>by obtain⟨x,_,rfl⟩:=List.mem_map.mp he;exact T.nc x
def OG{α:Type}(T:nJ α)(H0 X:ab)(v:HV)(l:List α):Prop:=(v = .v (.slice none 0 0)∧l=[])∨(v = .sl .full T.sz []∧l=[])∨∃b c zs,v = .v (.slice (some ⟨b,0,none⟩) l.length c)∧H0 b=none∧X b=some (.obj (aP T l++zs))∧l.length*T.sz+zs.length=c*T.sz∧l.length≤c∧c≤maxLen
theorem OG.nil{α:Type}(T:nJ α)(H0 X:ab):OG T H0 X (.v (.slice none 0 0)) []:=.inl ⟨rfl,rfl⟩
theorem tI{α:Type}(T:nJ α)(X:ab)(tk:Tk)(l:List α):mW X T.sz (.sl tk T.sz (l.map T.f))=some (l.length,aP T l):=by
 simp only[mW,if_true,List.length_map,aP]
theorem OG.up{α:Type}{T:nJ α}{H H1 X:ab}{v:HV}{l:List α}(h:OG T H1 X v l)(f:Fr [] H H1):OG T H X v l:=by
 rcases h with h | h | ⟨b,c,zs,h1,h2,h3⟩;{exact .inl h};{exact .inr (.inl h)};{exact .inr (.inr ⟨b,c,zs,h1,f.bM h2,h3⟩)}
theorem OG.fr{α:Type}{T:nJ α}{H X Y:ab}{v:HV}{l:List α}{bs:List Nat}(h:OG T H X v l)(f:Fr bs X Y)(hb:∀b,H b=none→X b≠none→b∉bs):OG T H Y v l:=by
 rcases h with h | h | ⟨b,c,zs,h1,h2,h3,h4⟩;{exact .inl h};{exact .inr (.inl h)};{exact .inr (.inr ⟨b,c,zs,h1,h2,f.get (hb b h2 (by rw[h3];simp)) h3,h4⟩)}
theorem OG.dt{α:Type}{T:nJ α}{H X Y:ab}{v:HV}{l:List α}(h:OG T H X v l)(f:Fr [] X Y):OG T H Y v l:=h.fr f (by simp)
theorem fT{α:Type}{T:nJ α}{S':aJ}{sl:List (Nat×EV)}{bx:List (Nat×List HV)}{H0 H:ab}{K:Env→ab→Prop}{os:List aF}{d sz bytes:Nat}{x y:bj}{v w:HV}{l r:List α}
   (hG:OG T H0 H v l) (hf:Fr [] H0 H) (da:T.sz=sz) (hx:(M sl bx).hv x=some v) (hy:(M sl bx).hv y=some w) (hr:mW H T.sz w=some (r.length,aP T r)) (hl:(l.length+r.length)*bytes≤140737488355328)
   (h:∀v' X,OG T H0 X v' (l++r)→Fr [] H0 X→Fr (rC v) H X→aj S' os (M ((d,.h v')::sl) bx) X K) :
   aj S' (⟨some d,.app sz bytes x y,none⟩::os) (M sl bx) H K:=by
 subst da;rw[bf];simp only[aw.step,hx,hy];refine .inr ?_;have up:∀{X:ab},Fr [] H X→Fr (rC v) H X:=fun f a r' _ hr=>f a r' (by simp) hr
 have fin:∀v' X,OG T H0 X v' (l++r)→Fr [] H0 X→Fr (rC v) H X→rK S' os K (some d) (.h v') (M sl bx) X:=fun v' X g1 g2 g4=>by rw[cu,dp];exact h v' X g1 g2 g4
 have new:∀(cs:List HV),cs=aP T (l++r)→iC H T.sz bytes (l.length+r.length) cs fun a X=>rK S' os K (some d) (.h a) (M sl bx) X:=fun cs kQ=>⟨hl,fun b c zs hb h1 h2 h3 h4=>by
   subst kQ;refine fin _ _ (.inr (.inr ⟨b,c,zs,by rw[List.length_append],hf.bM hb,ab.aB _ _ _,?_,by rw[List.length_append];omega,h2⟩)) (hf.trans (Fr.new hb)) (up (Fr.new hb))
   rw[List.length_append,h3,←Nat.add_mul];congr 1;omega⟩
 unfold nW;rw[hr];simp only;rcases hG with⟨rfl,rfl⟩ | ⟨rfl,rfl⟩ | ⟨b,c,zs,rfl,hb,hX,hc,zr,hm⟩
 · refine⟨fun h0=>?_,fun h0=>by have:=new _ rfl;rw[List.length_nil,Nat.zero_add] at this;exact this⟩
   have:r=[]:=List.eq_nil_of_length_eq_zero h0;subst this;exact fin _ _ (OG.nil T _ _) hf (up (Fr.refl _ _))
 · refine⟨rfl,fun h0=>?_,fun h0=>?_⟩;{have:r=[]:=List.eq_nil_of_length_eq_zero h0;subst this;exact fin _ _ (.inr (.inl ⟨rfl,rfl⟩)) hf (up (Fr.refl _ _))};{have:=new _ rfl;exact this}
 · refine⟨_,hX,zr,by rw[List.length_append,bJ];omega,fun gm=>?_,fun gm=>?_⟩
   · have hz:(aP T r).length≤zs.length:=by
       rw[bJ];have:(l.length+r.length)*T.sz≤c*T.sz:=Nat.mul_le_mul_right _ gm;rw[Nat.add_mul] at this;omega
     have e:bu (aP T l++zs) (0+l.length*T.sz) (aP T r)=aP T (l++r)++zs.drop (aP T r).length:=by
       rw[Nat.zero_add,ly];have h2:=gD (A:=aP T l) (X:=zs.take (aP T r).length) (Y:=aP T r) (Z:=zs.drop (aP T r).length) (i:=l.length*T.sz) (bJ T l) (by rw[List.length_take];omega)
       rw[List.append_assoc,List.take_append_drop] at h2;exact h2
     refine fin _ _ (.inr (.inr ⟨b,c,zs.drop (aP T r).length,by rw[List.length_append],hb,by rw[ab.aB,e],?_,by rw[List.length_append];exact gm,hm⟩)) ?_ ?_
     · rw[List.length_append,List.length_drop,bJ,Nat.add_mul];rw[bJ] at hz;omega
     · exact hf.own hb (Fr.set (by simp))
     · exact Fr.set (by simp[rC])
   · have e:((aP T l++zs).drop 0).take (l.length*T.sz)++aP T r=aP T (l++r):=by
       rw[List.drop_zero,List.take_left' (bJ T l),ly]
     exact new _ e
theorem OG.dB{α:Type}{T:nJ α}{H X:ab}{v:HV}{l:List α}(h:OG T H X v l)(f:Fr [] H X){Q:HV→ab→Prop}(hk:∀Y,Fr [] H Y→Q (.sl .no T.sz (l.map T.f)) Y) :
   Q v X∨(∃r',an v r'∧Q r' X)∨∃b cs r',X b=some (.obj cs)∧FW b cs v r'∧Q r' (X.bt b none):=by
 rcases h with⟨rfl,rfl⟩ | ⟨rfl,rfl⟩ | ⟨b,c,zs,rfl,hb,hX,hc,zr,hm⟩;{exact .inr (.inl ⟨_,an.dO T.sz,hk X f⟩)};{exact .inr (.inl ⟨_,an.drop _ _ _,hk X f⟩)}
 · refine .inr (.inr ⟨b,_,.sl .no T.sz (l.map T.f),hX,FW.slice ?_ ?_ (by simp) zr hm (elG T l) (ncG T l),hk _ (f.dB hb)⟩)
   · rw[List.take_left' (bJ T l)];rfl
   · rw[List.length_append,bJ];omega
theorem OG.E2{α:Type}{T:nJ α}{H X:ab}{v:HV}{l:List α}{pZ:List HV}(h:OG T H X v l)(f:Fr [] H X){Q:HV→ab→Prop}(hk:∀Y,Fr [] H Y→Q (.tu (.sl .no T.sz (l.map T.f)::pZ)) Y) :
   Q (.tu (v::pZ)) X∨(∃r',an (.tu (v::pZ)) r'∧Q r' X)∨∃b cs r',X b=some (.obj cs)∧FW b cs (.tu (v::pZ)) r'∧Q r' (X.bt b none):=by
 rcases h with⟨rfl,rfl⟩ | ⟨rfl,rfl⟩ | ⟨b,c,zs,rfl,hb,hX,hc,zr,hm⟩;{exact .inr (.inl ⟨_,an.tu (show bo (.v (.slice none 0 0)::pZ) (.sl .no T.sz ([].map T.f)::pZ) from⟨an.dO T.sz,bo.refl _⟩),hk X f⟩)};{exact .inr (.inl ⟨_,an.tu (show bo (.sl .full T.sz ([].map T.f)::pZ) (.sl .no T.sz ([].map T.f)::pZ) from⟨an.drop _ _ _,bo.refl _⟩),hk X f⟩)}
 · refine .inr (.inr ⟨b,_,.tu (.sl .no T.sz (l.map T.f)::pZ),hX,FW.tu ⟨FW.slice ?_ ?_ (by simp) zr hm (elG T l) (ncG T l),kh.refl _ _ _⟩,hk _ (f.dB hb)⟩)
   · rw[List.take_left' (bJ T l)];rfl
   · rw[List.length_append,bJ];omega
def RG{α:Type}(T:nJ α)(X:ab)(v:HV)(l:List α):Prop:=(v = .v (.slice none 0 0)∧l=[])∨(∃tk,v = .sl tk T.sz (l.map T.f))∨∃b c zs,v = .v (.slice (some ⟨b,0,none⟩) l.length c)∧X b=some (.obj (aP T l++zs))∧l.length≤c
theorem OG.rg{α:Type}{T:nJ α}{H0 X:ab}{v:HV}{l:List α}(h:OG T H0 X v l):RG T X v l:=by
 rcases h with⟨rfl,rfl⟩ | ⟨rfl,rfl⟩ | ⟨b,c,zs,rfl,hb,hX,hc,zr,hm⟩;{exact .inl ⟨rfl,rfl⟩};{exact .inr (.inl ⟨_,rfl⟩)};{exact .inr (.inr ⟨b,c,zs,rfl,hX,zr⟩)}
theorem RG.sl{α:Type}(T:nJ α)(X:ab)(tk:Tk)(l:List α):RG T X (.sl tk T.sz (l.map T.f)) l:=.inr (.inl ⟨tk,rfl⟩)
theorem RG.fr{α:Type}{T:nJ α}{X Y:ab}{v:HV}{l:List α}(h:RG T X v l)(f:Fr [] X Y):RG T Y v l:=by
 rcases h with h | h | ⟨b,c,zs,h1,h2,h3⟩;{exact .inl h};{exact .inr (.inl h)};{exact .inr (.inr ⟨b,c,zs,h1,f.get (by simp) h2,h3⟩)}
theorem Lr{α:Type}{T:nJ α}{S':aJ}{sl:List (Nat×EV)}{bx:List (Nat×List HV)}{H:ab}{K:Env→ab→Prop}{os:List aF}{d:Nat}{x:bj}{w:HV}{l:List α}
   (hx:(M sl bx).hv x=some w) (hr:RG T H w l) (h:aj S' os (M ((d,.h (I l.length))::sl) bx) H K):aj S' (⟨some d,.len x,none⟩::os) (M sl bx) H K:=by
 refine aG rfl ?_ h;rcases hr with⟨rfl,rfl⟩ | ⟨tk,rfl⟩ | ⟨b,c,cs,rfl,_⟩;{simp only[aw.ev,hx];rfl};{simp only[aw.ev,hx,List.length_map]};{simp only[aw.ev,hx]}
theorem vG{α:Type}(T:nJ α):∀(l:List α) (j:Nat) (x:α) (zs:List HV),l[j]? = some x→((aP T l++zs).drop (j*T.sz)).take T.sz=(T.f x).cells
 | [],j,x,zs,h=>by simp at h
 | y::l,0,x,zs,h=>by
   simp only[List.getElem?_cons_zero,Option.some.injEq] at h;subst h;rw[Nat.zero_mul,List.drop_zero,show aP T (y::l)=(T.f y).cells++aP T l from rfl,List.append_assoc];exact List.take_left' ((p8 _).trans (T.nc y))
 | y::l,j+1,x,zs,h=>by
   rw[List.getElem?_cons_succ] at h;rw[show aP T (y::l)=(T.f y).cells++aP T l from rfl,List.append_assoc,Nat.succ_mul,Nat.add_comm (j*T.sz) T.sz];rw[←List.drop_drop,List.drop_left' ((p8 _).trans (T.nc y))];exact vG T l j x zs h
def PG(X:ab)(p:HV)(cs:List HV):Prop:=p = .rp cs∨∃b off full zs,p = .v (.pointer (some ⟨b,off,none⟩))∧X b=some (.obj full)∧off≤full.length∧full.drop off=cs++zs
theorem PG.fr{X Y:ab}{p:HV}{cs:List HV}(h:PG X p cs)(f:Fr [] X Y):PG Y p cs:=by
 rcases h with h | ⟨b,off,full,zs,h1,h2,h3⟩;{exact .inl h};{exact .inr ⟨b,off,full,zs,h1,f.get (by simp) h2,h3⟩}
theorem xf{α:Type}{T:nJ α}{S':aJ}{sl:List (Nat×EV)}{bx:List (Nat×List HV)}{H:ab}{K:Env→ab→Prop}{os:List aF}{d sz:Nat}{x i:bj}{w:HV}{l:List α}{j:Nat}{z:Int}{a:α}
   (hs:T.sz=sz) (hx:(M sl bx).hv x=some w) (hr:RG T H w l) (hi:(M sl bx).hv i=some (I z)) (hz:z=(j:Int)) (hj:l[j]? = some a)
   (h:∀p,PG H p (T.f a).cells→aj S' os (M ((d,.h p)::sl) bx) H K):aj S' (⟨some d,.idx sz x i,none⟩::os) (M sl bx) H K:=by
 subst hs hz;have bN:j < l.length:=by
   rcases Nat.lt_or_ge j l.length with h | h;{exact h};{rw[List.getElem?_eq_none h] at hj;cases hj}
 rcases hr with⟨rfl,rfl⟩ | ⟨tk,rfl⟩ | ⟨b,c,zs,rfl,hX,hc⟩;{simp at bN}
 · refine aG (x:=.h (.rp (T.f a).cells)) rfl ?_ (h _ (.inl rfl));simp only[aw.ev,hx,hi,Int.toNat_natCast];rw[if_pos ⟨trivial,by omega⟩,List.getElem?_map,hj]
   rfl
 · refine aG (x:=.h (.v (.pointer (some ⟨b,j*T.sz,none⟩)))) rfl ?_ (h _ (.inr ⟨b,j*T.sz,_,(aP T l++zs).drop (j*T.sz+T.sz),rfl,hX,?_,?_⟩));{simp only[aw.ev,hx,hi,Int.toNat_natCast];rw[if_pos ⟨by omega,by omega⟩,Nat.zero_add]};{rw[List.length_append,bJ];have:=Nat.mul_le_mul_right T.sz (Nat.le_of_lt bN);omega};{rw[←List.drop_drop,←vG T l j a zs hj,List.take_append_drop]}
theorem Ls{S':aJ}{sl:List (Nat×EV)}{bx:List (Nat×List HV)}{H:ab}{K:Env→ab→Prop}{os:List aF}{d k:Nat}{x:bj}{p:HV}{cs:List HV}
   (hx:(M sl bx).fg x=some (.h p)) (hp:PG H p cs) (hk:k≤cs.length)
   (h:∀p',PG H p' (cs.drop k)→aj S' os (M ((d,.h p')::sl) bx) H K):aj S' (⟨some d,.dZ k x,none⟩::os) (M sl bx) H K:=by
 rcases hp with rfl | ⟨b,off,full,zs,rfl,hX,ho,hd⟩;{refine aG (x:=.h (.rp (cs.drop k))) rfl ?_ (h _ (.inl rfl));simp only[aw.ev,hx];rw[if_pos hk]};{refine aG (x:=.h (.v (.pointer (some ⟨b,off+k,none⟩)))) rfl ?_ (h _ (.inr ⟨b,off+k,full,zs,rfl,hX,?_,?_⟩));{simp only[aw.ev,hx]};{have:=congrArg List.length hd;rw[List.length_drop,List.length_append] at this;omega};{rw[←List.drop_drop,hd,List.drop_append_of_le_length hk]}}
theorem rX{S':aJ}{sl:List (Nat×EV)}{bx:List (Nat×List HV)}{H:ab}{K:Env→ab→Prop}{os:List aF}{d n:Nat}{agg:Bool}{x:bj}{p v:HV}{cs:List HV}
   (hx:(M sl bx).fg x=some (.h p)) (hp:PG H p cs) (hv:cP agg n 0 cs=some v)
   (h:aj S' os (M ((d,.h v)::sl) bx) H K):aj S' (⟨some d,.load agg n x,none⟩::os) (M sl bx) H K:=by
 rcases hp with rfl | ⟨b,off,full,zs,rfl,hX,ho,hd⟩;{exact ed hx hv h}
 · refine bz hx hX ?_ h;unfold cP at hv ⊢;split at hv
   · next hn =>
     rw[if_pos (by have:=congrArg List.length hd;rw[List.length_drop,List.length_append] at this;omega)]
     rw[hd,List.take_append_of_le_length (by omega)]
     exact hv
   · cases hv
theorem OG.one{α:Type}{T:nJ α}{H X:ab}{v:HV}{l:List α}(h:OG T H X v l):v.aN=1:=by
 rcases h with⟨rfl,rfl⟩ | ⟨rfl,rfl⟩ | ⟨b,c,zs,rfl,_⟩<;>rfl
theorem OG.el{α:Type}{T:nJ α}{H X:ab}{v:HV}{l:List α}(h:OG T H X v l):v.el=true:=by
 rcases h with⟨rfl,rfl⟩ | ⟨rfl,rfl⟩ | ⟨b,c,zs,rfl,_⟩<;>rfl
theorem OG.cel{α:Type}{T:nJ α}{H X:ab}{v:HV}{l:List α}(h:OG T H X v l):v.cells=[v]:=by
 rcases h with⟨rfl,rfl⟩ | ⟨rfl,rfl⟩ | ⟨b,c,zs,rfl,_⟩<;>rfl
theorem OG.vH{α:Type}{T:nJ α}{H X:ab}{v:HV}{l:List α}(h:OG T H X v l)(n:Int):(HV.ag [v,I n]).el=true:=by
 rcases h with⟨rfl,rfl⟩ | ⟨rfl,rfl⟩ | ⟨b,c,zs,rfl,_⟩<;>rfl
theorem RG.vH{α:Type}{T:nJ α}{X:ab}{v:HV}{l:List α}(h:RG T X v l)(n:Int):(HV.ag [v,I n]).el=true:=by
 rcases h with⟨rfl,rfl⟩ | ⟨tk,rfl⟩ | ⟨b,c,zs,rfl,_⟩<;>rfl
def zR:Rc:=⟨0,0,[],[],0,0⟩
def cj(b:List UInt8):List UInt8:=(b.drop (ar b).2.1.toNat).take (ar b).1.toNat
def aQ(b:List UInt8):Rc×Int×Int:=
 bif (ar b).2.2 != 0 then (zR,0,(ar b).2.2) else bif decide (512 < (ar b).1) then (zR,0,4) else bif decide ((b.length:Int) - (ar b).2.1 < (ar b).1) then (zR,0,3) else
 bif (cv (cj b)).2 != 0 then (zR,0,4) else bif (jT (cv (cj b)).1).2 then ((jT (cv (cj b)).1).1,(ar b).2.1+(ar b).1,0) else (zR,0,4)
def iM(b:List UInt8):Rc×Int×Int:=
 bif (ar b).2.2 != 0 then (zR,0,(ar b).2.2) else bif decide (512 < (ar b).1) then (zR,0,4) else bif decide ((b.length:Int) - (ar b).2.1 < (ar b).1) then (zR,0,3) else
 bif (cv (cj b)).2 != 0 then (zR,0,4) else bif (cD (cv (cj b)).1).2.done==0 then
   bif (cY (cD (cv (cj b)).1).1).2 != 0 then (zR,0,4) else bif (cY (cD (cv (cj b)).1).1).1==b.take ((ar b).2.1+(ar b).1).toNat then ((cD (cv (cj b)).1).1,(ar b).2.1+(ar b).1,0) else (zR,0,4)
 else (zR,0,4)
theorem vI(l:List UInt8):(cv l).1.length≤l.length:=by
 unfold cv;split;{exact Nat.zero_le _};{split;{simp only[List.length_take];omega};{exact Nat.zero_le _}}
theorem BK(l:List UInt8):(cD l).1.path.length≤l.length:=by
 rw[tH rfl rfl];have h1:=Rd.xe ⟨l,0⟩;have h2:=Rd.BB (Rd.mk l 0).byte.1 1099511627776;cases ((Rd.mk l 0).byte.2.toNat:Int)==0;{cases ((Rd.mk l 0).byte.2.toNat:Int)==1<;>exact Nat.zero_le _};{exact Nat.le_trans (Rd.rW _ _).2 (Nat.le_trans h2 h1)}
attribute [local irreducible] aH aj aX bk aA aL bn DK RK JK BR G3 bh Spec Tok Fr CV
theorem zt(L:ai code)(tk:Tk)(l:List UInt8)(hl:l.length≤1048576):aU L 431 [.sl tk 1 (l.map U)] (.tu [bc (aQ l).1,I (aQ l).2.1,I (aQ l).2.2]):=by
 intro H K hk;refine ah L E3 rfl ?_;unfold aQ at hk;have hb:=jm l;refine C_ ?_;refine nR L tk l hl H _ fun X fX=>?_;refine G_ ?_;cases c1:(ar l).2.2 != 0
 · rw[c1] at hk;have e1:(ar l).2.2=0:=by simpa using c1
   have hle:=cM l e1;refine G_ ?_;cases c2:decide (512 < (ar l).1)
   · rw[c2] at hk;refine G_ ?_;cases c3:decide ((l.length:Int) - (ar l).2.1 < (ar l).1)
     · rw[c3] at hk;have c3:=of_decide_eq_false c3;have c2:=of_decide_eq_false c2;have hp:(cj l).length≤1048576:=by simp only[cj,List.length_take,List.length_drop];omega
       have ho:=Nat.le_trans (vI (cj l)) hp;have e2:(((l.drop (ar l).2.1.toNat).take (((ar l).2.1+(ar l).1).toNat - (ar l).2.1.toNat)))=cj l:=by
         unfold cj;congr 1;omega
       refine G_ ?_;apply Lh (a:=(ar l).2.1.toNat) (h:=((ar l).2.1+(ar l).1).toNat);rfl;(focus (show some _=_;congr 1;omega));(focus (show some _=_;congr 1;omega));(focus omega);(focus omega);intro t2;rw[e2];(apply af;rfl);refine Iz L t2 (cj l) hp X _ fun Y fY=>?_;generalize cv (cj l)=o at *;refine G_ ?_;cases c4:o.2 != 0;{rw[c4] at hk;refine C_ ?_;refine BC L _ o.1 ho Y _ fun Z fZ=>?_;generalize jT o.1=q at *;refine G_ ?_;refine av (v:=bc q.1) (bI:=dE q.1) rfl rfl rfl rfl rfl rfl rfl rfl ?_;refine G_ ?_;cases c5:q.2;{rw[c5] at hk;rw[Bool.not_false];refine G_ ?_;refine aG (x:=.h (bc zR)) rfl rfl ?_;refine G_ ?_;refine av (v:=bc zR) (bI:=dE zR) rfl rfl rfl rfl rfl rfl rfl rfl ?_;refine G_ ?_;exact aa (hk _ (fX.trans (fY.trans fZ)))};{rw[c5] at hk;rw[Bool.not_true];refine G_ ?_;apply ay (v:=bc q.1);rfl;rfl;rfl;refine G_ ?_;refine av (v:=bc q.1) (bI:=dE q.1) rfl rfl rfl rfl rfl rfl rfl rfl ?_;refine G_ ?_;exact aa (hk _ (fX.trans (fY.trans fZ)))}};{rw[c4] at hk;refine G_ ?_;refine aG (x:=.h (bc zR)) rfl rfl ?_;refine G_ ?_;refine av (v:=bc zR) (bI:=dE zR) rfl rfl rfl rfl rfl rfl rfl rfl ?_;refine G_ ?_;exact aa (hk _ (fX.trans fY))}
     · rw[c3] at hk;refine G_ ?_;refine aG (x:=.h (bc zR)) rfl rfl ?_;refine G_ ?_;refine av (v:=bc zR) (bI:=dE zR) rfl rfl rfl rfl rfl rfl rfl rfl ?_;refine G_ ?_;exact aa (hk _ fX)
   · rw[c2] at hk;refine G_ ?_;refine aG (x:=.h (bc zR)) rfl rfl ?_;refine G_ ?_;refine av (v:=bc zR) (bI:=dE zR) rfl rfl rfl rfl rfl rfl rfl rfl ?_;refine G_ ?_;exact aa (hk _ fX)
 · rw[c1] at hk;refine G_ ?_;refine aG (x:=.h (bc zR)) rfl rfl ?_;refine G_ ?_;refine av (v:=bc zR) (bI:=dE zR) rfl rfl rfl rfl rfl rfl rfl rfl ?_;refine G_ ?_;exact aa (hk _ fX)
theorem IG(L:ai code)(tk:Tk)(l:List UInt8)(hl:l.length≤1048576):aU L 453 [.sl tk 1 (l.map U)] (.tu [bc (iM l).1,I (iM l).2.1,I (iM l).2.2]):=by
 intro H K hk;refine ah L E4 rfl ?_;unfold iM at hk;have hb:=jm l;refine C_ ?_;refine pc L tk l hl H _ fun X fX=>?_;refine G_ ?_;cases c1:(ar l).2.2 != 0
 · rw[c1] at hk;have e1:(ar l).2.2=0:=by simpa using c1
   have hle:=cM l e1;refine G_ ?_;cases c2:decide (512 < (ar l).1)
   · rw[c2] at hk;refine G_ ?_;cases c3:decide ((l.length:Int) - (ar l).2.1 < (ar l).1)
     · rw[c3] at hk;have c3:=of_decide_eq_false c3;have c2:=of_decide_eq_false c2;have hp:(cj l).length≤1048576:=by simp only[cj,List.length_take,List.length_drop];omega
       have ho:=Nat.le_trans (vI (cj l)) hp;have e2:(((l.drop (ar l).2.1.toNat).take (((ar l).2.1+(ar l).1).toNat - (ar l).2.1.toNat)))=cj l:=by
         unfold cj;congr 1;omega
       refine G_ ?_;apply Lh (a:=(ar l).2.1.toNat) (h:=((ar l).2.1+(ar l).1).toNat);rfl;(focus (show some _=_;congr 1;omega));(focus (show some _=_;congr 1;omega));(focus omega);(focus omega);intro t2;rw[e2];(apply af;rfl);refine BA L t2 (cj l) hp X _ fun Y fY=>?_;generalize cv (cj l)=o at *;refine C_ ?_;refine zq L _ o.1 ho Y _ fun Z fZ=>?_;have hpp:=Nat.le_trans (BK o.1) ho;generalize cD o.1=q at *;refine G_ ?_;refine av (v:=bc q.1) (bI:=dE q.1) rfl rfl rfl rfl rfl rfl rfl rfl ?_;refine G_ ?_;apply ay (v:=bc q.1);rfl;rfl;rfl;(apply af;rfl);refine pb L q.1 hpp Z _ fun W fW=>?_;generalize cY q.1=c at *;refine G_ ?_;have fin:Fr [] H W:=fX.trans (fY.trans (fZ.trans fW));cases c4:o.2 != 0;{rw[c4] at hk;refine G_ ?_;cases c5:q.2.done==0;{rw[c5] at hk;rw[Bool.not_false];refine G_ ?_;refine aG (x:=.h (bc zR)) rfl rfl ?_;refine G_ ?_;refine av (v:=bc zR) (bI:=dE zR) rfl rfl rfl rfl rfl rfl rfl rfl ?_;refine G_ ?_;exact aa (hk _ fin)};{rw[c5] at hk;rw[Bool.not_true];refine G_ ?_;cases c6:c.2 != 0;{rw[c6] at hk;refine G_ ?_;refine zm rfl ?_;refine G_ ?_;apply oU (h:=((ar l).2.1+(ar l).1).toNat);rfl;(focus (show some _=_;congr 1;omega));(focus omega);intro t3;refine G_ ?_;refine zm rfl ?_;refine G_ ?_;cases c7:c.1==l.take ((ar l).2.1+(ar l).1).toNat;{rw[c7] at hk;rw[Bool.not_false];refine G_ ?_;refine aG (x:=.h (bc zR)) rfl rfl ?_;refine G_ ?_;refine av (v:=bc zR) (bI:=dE zR) rfl rfl rfl rfl rfl rfl rfl rfl ?_;refine G_ ?_;exact aa (hk _ fin)};{rw[c7] at hk;rw[Bool.not_true];refine G_ ?_;apply ay (v:=bc q.1);rfl;rfl;rfl;refine G_ ?_;refine av (v:=bc q.1) (bI:=dE q.1) rfl rfl rfl rfl rfl rfl rfl rfl ?_;refine G_ ?_;exact aa (hk _ fin)}};{rw[c6] at hk;refine G_ ?_;refine aG (x:=.h (bc zR)) rfl rfl ?_;refine G_ ?_;refine av (v:=bc zR) (bI:=dE zR) rfl rfl rfl rfl rfl rfl rfl rfl ?_;refine G_ ?_;exact aa (hk _ fin)}}}
       · rw[c4] at hk;refine G_ ?_;refine aG (x:=.h (bc zR)) rfl rfl ?_;refine G_ ?_;refine av (v:=bc zR) (bI:=dE zR) rfl rfl rfl rfl rfl rfl rfl rfl ?_;refine G_ ?_;exact aa (hk _ fin)
     · rw[c3] at hk;refine G_ ?_;refine aG (x:=.h (bc zR)) rfl rfl ?_;refine G_ ?_;refine av (v:=bc zR) (bI:=dE zR) rfl rfl rfl rfl rfl rfl rfl rfl ?_;refine G_ ?_;exact aa (hk _ fX)
   · rw[c2] at hk;refine G_ ?_;refine aG (x:=.h (bc zR)) rfl rfl ?_;refine G_ ?_;refine av (v:=bc zR) (bI:=dE zR) rfl rfl rfl rfl rfl rfl rfl rfl ?_;refine G_ ?_;exact aa (hk _ fX)
 · rw[c1] at hk;refine G_ ?_;refine aG (x:=.h (bc zR)) rfl rfl ?_;refine G_ ?_;refine av (v:=bc zR) (bI:=dE zR) rfl rfl rfl rfl rfl rfl rfl rfl ?_;refine G_ ?_;exact aa (hk _ fX)
end Sm
namespace Sm
open Go
def Adv(f:List UInt8→Rc×Int×Int):Prop:=∀b,b≠[]→(f b).2.2=0→1≤(f b).2.1∧(f b).2.1≤b.length
def fM(f:List UInt8→Rc×Int×Int):Nat→List UInt8→List Rc×Int×Int:=fun n b=>match n with
 | 0=>([],0,0)
 | n+1=>if b=[] then ([],0,0) else if (f b).2.2=0 then ((f b).1::(fM f n (b.drop (f b).2.1.toNat)).1,(f b).2.1+(fM f n (b.drop (f b).2.1.toNat)).2.1,(fM f n (b.drop (f b).2.1.toNat)).2.2) else ([],0,(f b).2.2)
theorem vJ(f:List UInt8→Rc×Int×Int)(n:Nat):fM f n []=([],0,0):=by cases n<;>simp[fM]
theorem qh{f:List UInt8→Rc×Int×Int}{n:Nat}{b:List UInt8}(hb:b≠[])(h:(f b).2.2≠0):fM f (n+1) b=([],0,(f b).2.2):=by rw[fM,if_neg hb,if_neg h]
theorem tJ{f:List UInt8→Rc×Int×Int}{n:Nat}{b:List UInt8}(hb:b≠[])(h:(f b).2.2=0):fM f (n+1) b=((f b).1::(fM f n (b.drop (f b).2.1.toNat)).1,(f b).2.1+(fM f n (b.drop (f b).2.1.toNat)).2.1,(fM f n (b.drop (f b).2.1.toNat)).2.2):=by rw[fM,if_neg hb,if_pos h]
theorem tK{f:List UInt8→Rc×Int×Int}(ha:Adv f):∀(n m:Nat) (b:List UInt8),b.length≤n→b.length≤m→fM f n b=fM f m b
 | n,m,[],_,_=>by rw[vJ,vJ]
 | n+1,m+1,c::b,hn,hm=>by
   by_cases h:(f (c::b)).2.2=0
   · have h1:=ha (c::b) (by simp) h
     rw[tJ (by simp) h,tJ (by simp) h]
     have hl:((c::b).drop (f (c::b)).2.1.toNat).length≤b.length:=by simp only[List.length_drop,List.length_cons];omega
     rw[tK ha n m _ (by simp only[List.length_cons] at hn;omega) (by simp only[List.length_cons] at hm;omega)]
   · rw[qh (by simp) h,qh (by simp) h]
 | 0,_,c::b,hn,_=>by simp at hn
 | _,0,c::b,_,hm=>by simp at hm
def scan(f:List UInt8→Rc×Int×Int)(b:List UInt8):List Rc×Int×Int:=fM f b.length b
theorem zw(f:List UInt8→Rc×Int×Int):scan f []=([],0,0):=rfl
theorem tL{f:List UInt8→Rc×Int×Int}{b:List UInt8}(hb:b≠[])(h:(f b).2.2≠0):scan f b=([],0,(f b).2.2):=by
 cases b with
 | nil=>exact absurd rfl hb
 | cons c b=>exact qh (by simp) h
theorem xg{f:List UInt8→Rc×Int×Int}(ha:Adv f){b:List UInt8}(hb:b≠[])(h:(f b).2.2=0):scan f b=((f b).1::(scan f (b.drop (f b).2.1.toNat)).1,(f b).2.1+(scan f (b.drop (f b).2.1.toNat)).2.1,(scan f (b.drop (f b).2.1.toNat)).2.2):=by
 cases b with
 | nil=>exact absurd rfl hb
 | cons c b =>
   have h1:=ha (c::b) (by simp) h
   unfold scan;rw[List.length_cons,tJ (by simp) h]
   rw[tK ha b.length _ _ (by simp only[List.length_drop,List.length_cons];omega) (Nat.le_refl _)]
theorem Oy(c:UInt8):1≤iN c:=by
 exact Nat.one_le_two_pow
theorem Lv(l:List UInt8)(h:(cG l).2.2=0):1≤(cG l).2.1:=by
 cases l with
 | nil=>simp[cG] at h
 | cons c r =>
   rw[cG] at h ⊢;split
   · next h2=>rw[if_pos h2] at h;simp at h
   · have:=Oy c;simp only;omega
theorem tM(l:List UInt8)(h:(ar l).2.2=0):1≤(ar l).2.1:=by
 unfold ar at h ⊢;split
 · next h2=>rw[if_pos h2] at h;simp at h
 · next h2=>rw[if_neg h2] at h;exact Lv l h
theorem om:Adv aQ:=by
 intro b hb h;have hs:=jm b;unfold aQ at h ⊢;cases c1:(ar b).2.2 != 0
 · have e1:(ar b).2.2=0:=by simpa using c1
   have h1:=tM b e1;have h2:=cM b e1;cases c2:decide (512 < (ar b).1);{cases c3:decide ((b.length:Int) - (ar b).2.1 < (ar b).1);{have yx:=of_decide_eq_false c3;rw[c1,c2,c3] at h;cases c4:(cv (cj b)).2 != 0;{rw[c4] at h;cases c5:(jT (cv (cj b)).1).2;{rw[c5] at h;cases h};{simp only[cond_true,cond_false];omega}};{rw[c4] at h;cases h}};{rw[c1,c2,c3] at h;cases h}};{rw[c1,c2] at h;cases h}
 · rw[c1] at h;have:(ar b).2.2=0:=h;rw[this] at c1;cases c1
theorem zx:Adv iM:=by
 intro b hb h;have hs:=jm b;unfold iM at h ⊢;cases c1:(ar b).2.2 != 0
 · have e1:(ar b).2.2=0:=by simpa using c1
   have h1:=tM b e1;have h2:=cM b e1;cases c2:decide (512 < (ar b).1);{cases c3:decide ((b.length:Int) - (ar b).2.1 < (ar b).1);{have yx:=of_decide_eq_false c3;rw[c1,c2,c3] at h;cases c4:(cv (cj b)).2 != 0;{rw[c4] at h;cases c5:(cD (cv (cj b)).1).2.done==0;{rw[c5] at h;cases h};{rw[c5] at h;cases c6:(cY (cD (cv (cj b)).1).1).2 != 0;{rw[c6] at h;cases c7:(cY (cD (cv (cj b)).1).1).1==b.take ((ar b).2.1+(ar b).1).toNat;{rw[c7] at h;cases h};{simp only[cond_true,cond_false];omega}};{rw[c6] at h;cases h}}};{rw[c4] at h;cases h}};{rw[c1,c2,c3] at h;cases h}};{rw[c1,c2] at h;cases h}
 · rw[c1] at h;have:(ar b).2.2=0:=h;rw[this] at c1;cases c1
attribute [local irreducible] aH aj aX bk aA aL bn DK RK JK BR G3 bh Spec Tok Fr CV
theorem BN(L:ai code)(tk:Tk)(l:List UInt8)(hl:l.length≤1048576):aU L 399 [.sl tk 1 (l.map U)] (.tu [.sl .no 37 ((scan aQ l).1.map bc),I (scan aQ l).2.1,I (scan aQ l).2.2]):=by
 intro H K hk;refine Spec.dB ?_;refine ah L E8 rfl ?_;refine G_ ?_;refine aV (ak L) (fun(q:List Rc×HV×Nat)=>[(0,.h (.sl tk 1 (l.map U))),(5,.h q.2.1),(6,.h (I q.2.2))]) (fun _=>[]) (fun q X=>OG nK H X q.2.1 q.1∧Fr [] H X∧q.1.length≤q.2.2∧q.2.2≤l.length∧scan aQ l=(q.1++(scan aQ (l.drop q.2.2)).1,q.2.2+(scan aQ (l.drop q.2.2)).2.1,(scan aQ (l.drop q.2.2)).2.2)) (fun q=>l.length - q.2.2) ([],.v (.slice none 0 0),0) ?_ ⟨OG.nil _ _ _,Fr.refl _ _,by simp,by simp,by simp⟩ ?_
 · exact E_
 rintro⟨out,v,at_⟩ X ⟨hO,fX,h1,h2,hS⟩;dsimp only at hO h1 h2 hS ⊢;refine G_ ?_;(refine ct T_ ?_ ?_<;>intro h)
 · have bN:at_ < l.length:=by have:=of_decide_eq_true h;omega
   have eJ:l.drop at_≠[]:=by intro e;have:=congrArg List.length e;simp only[List.length_drop,List.length_nil] at this;omega
   have hld:(l.drop at_).length≤1048576:=by simp only[List.length_drop];omega
   refine G_ ?_;refine rU rfl rfl (by omega) fun t2=>?_
   refine C_ ?_;refine zt L t2 (l.drop at_) hld X _ fun Y fY=>?_;refine G_ ?_;refine av (v:=bc (aQ (l.drop at_)).1) (bI:=dE (aQ (l.drop at_)).1) rfl rfl rfl rfl rfl rfl rfl rfl ?_;refine G_ ?_;have lO:=hO.dt fY;cases c1:(aQ (l.drop at_)).2.2 != 0
   · have e1:(aQ (l.drop at_)).2.2=0:=by simpa using c1
     have ha:=om _ eJ e1;rw[xg om eJ e1] at hS;simp only[List.length_drop] at ha;have e4:(l.drop at_).drop (aQ (l.drop at_)).2.1.toNat=l.drop (at_+(aQ (l.drop at_)).2.1.toNat):=by rw[List.drop_drop]
     rw[e4] at hS;generalize hq:aQ (l.drop at_)=q at *;refine G_ ?_;apply ay (v:=bc q.1);rfl;rfl;rfl;refine G_ ?_;refine fT (T:=nK) (r:=[q.1]) lO (fX.trans fY) rfl rfl rfl rfl (by simp only[List.length_cons,List.length_nil];omega) fun v' Z je fZ _=>?_
     refine G_ ?_;rw[show (at_:Int)+q.2.1=((at_+q.2.1.toNat:Nat):Int) by omega]
     refine dG (out++[q.1],v',at_+q.2.1.toNat) (by dsimp only;omega) ⟨je,fZ,by simp only[List.length_append,List.length_cons,List.length_nil];omega,by dsimp only;omega,?_⟩ ?_
     · rw[hS];simp only[List.append_assoc,List.cons_append,List.nil_append,Prod.mk.injEq,true_and,and_true];omega
     exact E_
   · have e1:(aQ (l.drop at_)).2.2≠0:=by simpa using c1
     rw[tL eJ e1,List.append_nil] at hS;rw[hS] at hk;refine G_ ?_;refine aa (lO.E2 (fX.trans fY) fun Z fZ=>?_);have:=hk Z fZ;rw[Int.add_zero] at this;exact this
 · have kF:at_=l.length:=by have:=of_decide_eq_false h;omega
   subst kF;rw[List.drop_length,zw,List.append_nil] at hS;rw[hS] at hk;refine G_ ?_;refine aa (hO.E2 fX fun Z fZ=>?_);have:=hk Z fZ;rw[Int.add_zero] at this;exact this
theorem zy(L:ai code)(tk:Tk)(l:List UInt8)(hl:l.length≤1048576):aU L 440 [.sl tk 1 (l.map U)] (.tu [.sl .no 37 ((scan iM l).1.map bc),I (scan iM l).2.1,I (scan iM l).2.2]):=by
 intro H K hk;refine Spec.dB ?_;refine ah L E9 rfl ?_;refine G_ ?_;refine aV (ak L) (fun(q:List Rc×HV×Nat)=>[(0,.h (.sl tk 1 (l.map U))),(5,.h q.2.1),(6,.h (I q.2.2))]) (fun _=>[]) (fun q X=>OG nK H X q.2.1 q.1∧Fr [] H X∧q.1.length≤q.2.2∧q.2.2≤l.length∧scan iM l=(q.1++(scan iM (l.drop q.2.2)).1,q.2.2+(scan iM (l.drop q.2.2)).2.1,(scan iM (l.drop q.2.2)).2.2)) (fun q=>l.length - q.2.2) ([],.v (.slice none 0 0),0) ?_ ⟨OG.nil _ _ _,Fr.refl _ _,by simp,by simp,by simp⟩ ?_
 · exact E_
 rintro⟨out,v,at_⟩ X ⟨hO,fX,h1,h2,hS⟩;dsimp only at hO h1 h2 hS ⊢;refine G_ ?_;(refine ct T_ ?_ ?_<;>intro h)
 · have bN:at_ < l.length:=by have:=of_decide_eq_true h;omega
   have eJ:l.drop at_≠[]:=by intro e;have:=congrArg List.length e;simp only[List.length_drop,List.length_nil] at this;omega
   have hld:(l.drop at_).length≤1048576:=by simp only[List.length_drop];omega
   refine G_ ?_;refine rU rfl rfl (by omega) fun t2=>?_
   refine C_ ?_;refine IG L t2 (l.drop at_) hld X _ fun Y fY=>?_;refine G_ ?_;refine av (v:=bc (iM (l.drop at_)).1) (bI:=dE (iM (l.drop at_)).1) rfl rfl rfl rfl rfl rfl rfl rfl ?_;refine G_ ?_;have lO:=hO.dt fY;cases c1:(iM (l.drop at_)).2.2 != 0
   · have e1:(iM (l.drop at_)).2.2=0:=by simpa using c1
     have ha:=zx _ eJ e1;rw[xg zx eJ e1] at hS;simp only[List.length_drop] at ha;have e4:(l.drop at_).drop (iM (l.drop at_)).2.1.toNat=l.drop (at_+(iM (l.drop at_)).2.1.toNat):=by rw[List.drop_drop]
     rw[e4] at hS;generalize hq:iM (l.drop at_)=q at *;refine G_ ?_;apply ay (v:=bc q.1);rfl;rfl;rfl;refine G_ ?_;refine fT (T:=nK) (r:=[q.1]) lO (fX.trans fY) rfl rfl rfl rfl (by simp only[List.length_cons,List.length_nil];omega) fun v' Z je fZ _=>?_
     refine G_ ?_;rw[show (at_:Int)+q.2.1=((at_+q.2.1.toNat:Nat):Int) by omega]
     refine dG (out++[q.1],v',at_+q.2.1.toNat) (by dsimp only;omega) ⟨je,fZ,by simp only[List.length_append,List.length_cons,List.length_nil];omega,by dsimp only;omega,?_⟩ ?_
     · rw[hS];simp only[List.append_assoc,List.cons_append,List.nil_append,Prod.mk.injEq,true_and,and_true];omega
     exact E_
   · have e1:(iM (l.drop at_)).2.2≠0:=by simpa using c1
     rw[tL eJ e1,List.append_nil] at hS;rw[hS] at hk;refine G_ ?_;refine aa (lO.E2 (fX.trans fY) fun Z fZ=>?_);have:=hk Z fZ;rw[Int.add_zero] at this;exact this
 · have kF:at_=l.length:=by have:=of_decide_eq_false h;omega
   subst kF;rw[List.drop_length,zw,List.append_nil] at hS;rw[hS] at hk;refine G_ ?_;refine aa (hO.E2 fX fun Z fZ=>?_);have:=hk Z fZ;rw[Int.add_zero] at this;exact this
end Sm
namespace Sm
open Go
def j7(s:ek):List HV:=[.sl .no 36 (s.parts.map bB),I s.next]
def fD(s:ek):HV:=.ag (j7 s)
def zP:Pt:=⟨0,[],[],0,0⟩
attribute [local irreducible] aH aj aX bk aA aL bn DK RK JK BR G3 bh Spec Tok Fr CV
theorem qX(L:ai code)(tk:Tk)(l:List Pt)(hl:l.length≤1048576)(H:ab)(K:HV→ab→Prop)(hk:∀v X,OG gz H X v l→Fr [] H X→K v X):Spec L.P L.ν 402 [.sl tk 36 (l.map bB)] H K:=by
 refine ah L E' rfl ?_;refine G_ ?_;refine rQ rfl fun t ht=>?_;cases t
 · refine G_ ?_;refine fT (T:=gz) (l:=[]) (r:=l) (v:=.sl .full 36 []) (.inr (.inl ⟨rfl,rfl⟩)) (Fr.refl _ _) rfl rfl rfl (tI gz _ _ l) (by simp only[List.length_nil];omega) fun v X hO fX _=>?_
   refine G_ ?_;exact aa (hk _ _ hO fX)
 · have hl:l=[]:=by simpa using ht rfl
   subst hl;refine G_ ?_;exact aa (hk _ _ (OG.nil _ _ _) (Fr.refl _ _))
theorem zA(L:ai code)(F:HV)(f:Pt→Bool)(v:HV)(l:List Pt)(hl:l.length≤1048576)(H:ab)(hG:RG gz H v l)(hF:∀p∈l,∀X,Fr [] H X→∀K,(∀X',Fr [] X X'→K (B (f p)) X')→CV L F [bB p] X K)(K:HV→ab→Prop)(hk:∀X,Fr [] H X→K (I (firstIdx f l)) X):Spec L.P L.ν 416 [v,F] H K:=by
 refine ah L Fa rfl ?_;refine G_ ?_;refine Lr rfl hG ?_;refine G_ ?_;refine aV (ak L) (fun(j:Nat)=>[(0,.h v),(1,.h F),(7,.h (I l.length)),(8,.h (I j))]) (fun _=>[]) (fun j X=>Fr [] H X∧∃h:j≤l.length,∀i (hj:i < j),f (l[i]'(by omega))=false) (fun j=>l.length - j) 0 ?_ ⟨Fr.refl _ _,by omega,fun j hj=>by omega⟩ ?_
 · exact E_
 rintro j X ⟨fX,hj,hb⟩;refine G_ ?_;(refine ct T_ ?_ ?_<;>intro h)
 · have bN:j < l.length:=by have:=of_decide_eq_true h;omega
   refine G_ ?_;refine xf (T:=gz) rfl rfl (hG.fr fX) rfl rfl (List.getElem?_eq_getElem bN) fun p hp=>?_;refine rX (v:=bB l[j]) rfl hp rfl ?_;apply rO L;rfl;rfl;refine hF l[j] (List.getElem_mem bN) X fX _ fun Y fY=>?_;refine G_ ?_;cases c1:f l[j]
   · refine G_ ?_;refine dG (j+1) (by omega) ⟨fX.trans fY,by omega,fun i hi=>?_⟩ ?_
     · rcases Nat.lt_or_ge i j with h3 | h3;{exact hb i h3}
       · have:i=j:=by omega
         subst this;exact c1
     · exact E_
   · refine G_ ?_;have:=hk Y (fX.trans fY);rw[eN bN c1 (fun i hi=>hb i hi)] at this;exact aa this
 · have kF:j=l.length:=by have:=of_decide_eq_false h;omega
   subst kF;refine G_ ?_;have:=hk X fX;rw[firstIdx_none (fun i hi=>hb i hi)] at this;exact aa this
end Sm
namespace Sm
open Go
def ir(l:List Pt)(p:List UInt8):Pt×Bool:=match l.find? (fun x=>x.path==p) with
 | some x=>(x,true)
 | none=>(zP,false)
def eG(l:List Pt)(n:Int)(r:Rc):List Pt×Int×Bool:=bif (ir l r.path).2||(decide (r.id < n)||decide (64≤(l.length:Int))) then (l,n,false) else (l++[⟨r.id,r.path,r.sum,r.size,0⟩],r.id+1,true)
theorem bW{z z':List HV}{off n:Nat}{h:HV}{r:List (Nat×Nat×Option HV)}(h1:h.aN=n)(h2:h.el=true)(h3:Nat.ble (off+n) z.length=true)(h4:bu z off h.cells=z'):fQ z ((off,n,some h)::r)=fQ z' r:=by
 rw[fQ,if_pos ⟨h1,h2,Nat.le_of_ble_eq_true h3⟩,h4]
theorem vK(a:Pt)(s:List UInt8):bu (hU a) 2 (fq s)=hU ⟨a.id,a.path,s,a.size,a.off⟩:=by
 have h:=gD (A:=[I a.id,S a.path]) (X:=fq a.sum) (Y:=fq s) (Z:=[I a.size,I a.off]) (i:=2) rfl rfl;exact h
theorem II(a:Rc)(s:List UInt8):bu (dE a) 3 (fq s)=dE ⟨a.kind,a.id,a.path,s,a.size,a.off⟩:=by
 have h:=gD (A:=[U a.kind,I a.id,S a.path]) (X:=fq a.sum) (Y:=fq s) (Z:=[I a.size,I a.off]) (i:=3) rfl rfl;exact h
section
variable {S':aJ} {sl:List (Nat×EV)} {bx:List (Nat×List HV)} {H:ab} {K:Env→ab→Prop} {os:List aF} {d:Nat}
theorem Lw{z:List HV}{x0 x1 x2 x3:bj}{id size:Int}{p s:List UInt8}(hz:z=hU zP)(h0:(M sl bx).hv x0=some (I id))(h1:(M sl bx).hv x1=some (S p))(h2:(M sl bx).hv x2=some (.ag (fq s)))(h3:(M sl bx).hv x3=some (I size))
   (h:aj S' os (M ((d,.h (bB ⟨id,p,s,size,0⟩))::sl) bx) H K):aj S' (⟨some d,.build z [(0,1,x0),(1,1,x1),(2,32,x2),(34,1,x3)],none⟩::os) (M sl bx) H K:=by
 subst hz;refine aG rfl ?_ h;simp only[aw.ev,List.map_cons,List.map_nil,h0,h1,h2,h3];have e:fQ (hU zP) [(0,1,some (I id)),(1,1,some (S p)),(2,32,some (HV.ag (fq s))),(34,1,some (I size))]=some (hU ⟨id,p,s,size,0⟩):=
   (bW (z:=hU zP) (z':=hU ⟨id,[],[],0,0⟩) (h:=I id) rfl rfl rfl rfl).trans <| (bW (z':=hU ⟨id,p,[],0,0⟩) (h:=S p) rfl rfl rfl rfl).trans <| (bW (z':=hU ⟨id,p,s,0,0⟩) (h:=.ag (fq s)) rfl rfl rfl (vK ⟨id,p,[],0,0⟩ s)).trans <| (bW (z':=hU ⟨id,p,s,size,0⟩) (h:=I size) rfl rfl rfl rfl).trans rfl
 rw[e];rfl
theorem zB{z:List HV}{x0 x1 x2 x3 x4:bj}{k:UInt8}{id size:Int}{p s:List UInt8}(hz:z=dE zR)(hk:(M sl bx).hv x0=some (U k))(h0:(M sl bx).hv x1=some (I id))(h1:(M sl bx).hv x2=some (S p))(h2:(M sl bx).hv x3=some (.ag (fq s)))(h3:(M sl bx).hv x4=some (I size))
   (h:aj S' os (M ((d,.h (bc ⟨k,id,p,s,size,0⟩))::sl) bx) H K):aj S' (⟨some d,.build z [(0,1,x0),(1,1,x1),(2,1,x2),(3,32,x3),(35,1,x4)],none⟩::os) (M sl bx) H K:=by
 subst hz;refine aG rfl ?_ h;simp only[aw.ev,List.map_cons,List.map_nil,hk,h0,h1,h2,h3];have e:fQ (dE zR) [(0,1,some (U k)),(1,1,some (I id)),(2,1,some (S p)),(3,32,some (HV.ag (fq s))),(35,1,some (I size))]=some (dE ⟨k,id,p,s,size,0⟩):=
   (bW (z:=dE zR) (z':=dE ⟨k,0,[],[],0,0⟩) (h:=U k) rfl rfl rfl rfl).trans <| (bW (z':=dE ⟨k,id,[],[],0,0⟩) (h:=I id) rfl rfl rfl rfl).trans <| (bW (z':=dE ⟨k,id,p,[],0,0⟩) (h:=S p) rfl rfl rfl rfl).trans <| (bW (z':=dE ⟨k,id,p,s,0,0⟩) (h:=.ag (fq s)) rfl rfl rfl (II ⟨k,id,p,[],0,0⟩ s)).trans <| (bW (z':=dE ⟨k,id,p,s,size,0⟩) (h:=I size) rfl rfl rfl rfl).trans rfl
 rw[e];rfl
end
attribute [local irreducible] aH aj aX bk aA aL bn DK RK JK BR G3 bh Spec Tok Fr CV
theorem IJ(L:ai code)(tk:Tk)(l:List Pt)(n:Int)(hl:l.length≤1048576)(H:ab)(K:HV→ab→Prop)(hk:∀v X,OG gz H X v l→Fr [] H X→K (.ag [v,I n]) X):Spec L.P L.ν 414 [.ag [.sl tk 36 (l.map bB),I n]] H K:=by
 refine ah L Fb rfl ?_;refine C_ ?_;refine qX L tk l hl H _ fun v X hO fX=>?_;refine G_ ?_;refine bS (bI:=[v,I n]) rfl hO.one hO.el rfl rfl rfl (by simp only[bu,hO.cel];rfl) ?_
 refine G_ ?_;apply ay (v:=.ag [v,I n]);rfl;rfl;rfl;refine G_ ?_;refine av (v:=.ag [v,I n]) (bI:=[v,I n]) rfl rfl (hO.vH _) rfl rfl rfl rfl rfl ?_;refine G_ ?_;exact aa (hk v X hO fX)
theorem zC(L:ai code)(x:Pt)(p:List UInt8)(b:Nat)(H:ab)(hb:H b=some (.obj [S p]))(K:HV→ab→Prop)(hk:K (B (x.path==p)) H):Spec L.P L.ν 449 [bB x,ptr b] H K:=by
 refine ah L Fc rfl ?_;refine G_ ?_;refine ep (v:=bB x) (cs:=hU x) rfl rfl rfl rfl rfl ?_;refine G_ ?_;exact aa hk
theorem zD(L:ai code)(x:Pt)(r:Rc)(b:Nat)(H:ab)(hb:H b=some (.obj (dE r)))(K:HV→ab→Prop)(hk:K (B (x.id==r.id)) H):Spec L.P L.ν 415 [bB x,ptr b] H K:=by
 refine ah L Fe rfl ?_;refine G_ ?_;refine ep (v:=bB x) (cs:=hU x) rfl rfl rfl rfl rfl ?_;refine G_ ?_;exact aa hk
theorem BO(L:ai code)(v:HV)(l:List Pt)(n:Int)(p:List UInt8)(hl:l.length≤1048576)(H:ab)(hG:RG gz H v l)(K:HV→ab→Prop)(hk:∀X,Fr [] H X→K (.tu [bB (ir l p).1,B (ir l p).2]) X):Spec L.P L.ν 433 [.ag [v,I n],S p] H K:=by
 refine ah L Ff rfl ?_;refine G_ ?_;refine ep (v:=.ag [v,I n]) (cs:=[v,I n]) rfl rfl rfl (hG.vH _) rfl ?_;refine G_ ?_;refine kU (v:=S p) (cs:=[S p]) rfl rfl rfl rfl fun b X hb hX fX sX=>?_;refine C_ ?_;refine zA L (.fn 449 [ptr b]) (fun x=>x.path==p) v l hl X (hG.fr fX) (fun x hx Y fY K' hK'=>?_) _ fun Y fY=>?_;{unfold CV;exact zC L x p b Y (fY.get (by simp) hX) _ (hK' Y (Fr.refl _ _))};have Oz:=fX.trans fY;refine G_ ?_;rcases jC (fun(x:Pt)=>x.path==p) l with⟨e1,e2⟩ | ⟨i,hi,e1,e2,_⟩
 · have e3:ir l p=(zP,false):=by unfold ir;rw[e2]
   rw[e3] at hk;rw[e1,show decide ((-1:Int) < 0)=true from rfl];refine G_ ?_;refine aG (x:=.h (bB zP)) rfl rfl ?_;refine av (v:=bB zP) (bI:=hU zP) rfl rfl rfl rfl rfl rfl rfl rfl ?_;refine G_ ?_;exact aa (hk Y Oz)
 · have e3:ir l p=(l[i],true):=by unfold ir;rw[e2]
   rw[e3] at hk;have e4:decide ((i:Int) < 0)=false:=decide_eq_false (by omega)
   rw[e1,e4];refine G_ ?_;refine xf (T:=gz) rfl rfl (hG.fr Oz) rfl rfl (List.getElem?_eq_getElem hi) fun q hq=>?_;refine rX (v:=bB l[i]) rfl hq rfl ?_;refine av (v:=bB l[i]) (bI:=hU l[i]) rfl rfl rfl rfl rfl rfl rfl rfl ?_;refine G_ ?_;exact aa (hk Y Oz)
theorem xh(L:ai code)(v:HV)(l:List Pt)(n:Int)(r:Rc)(hl:l.length≤1048576)(hid:r.id≤1099511627776)(Aea:0≤r.id)(H0 H:ab)(hG:OG gz H0 H v l)(f0:Fr [] H0 H)(K:HV→ab→Prop)(hk:∀v' X,OG gz H0 X v' (eG l n r).1→Fr [] H0 X→K (.tu [.ag [v',I (eG l n r).2.1],B (eG l n r).2.2]) X):Spec L.P L.ν 417 [.ag [v,I n],bc r] H K:=by
 refine ah L Fg rfl ?_;unfold eG at hk;refine G_ ?_;refine ep (v:=.ag [v,I n]) (cs:=[v,I n]) rfl rfl rfl (hG.vH _) rfl ?_;refine G_ ?_;refine ep (v:=bc r) (cs:=dE r) rfl rfl rfl rfl rfl ?_;refine G_ ?_;apply ay (v:=.ag [v,I n]);rfl;rfl;rfl;refine C_ ?_;refine BO L v l n r.path hl H hG.rg _ fun X fX=>?_;have hO:=hG.dt fX;have f1:=f0.trans fX;refine G_ ?_;refine av (v:=bB (ir l r.path).1) (bI:=hU (ir l r.path).1) rfl rfl rfl rfl rfl rfl rfl rfl ?_;refine G_ ?_;cases c1:(ir l r.path).2
 case true =>
   rw[c1] at hk;refine G_ ?_;apply ay (v:=.ag [v,I n]);rfl;rfl;rfl;refine av (v:=.ag [v,I n]) (bI:=[v,I n]) rfl rfl (hO.vH _) rfl rfl rfl rfl rfl ?_;refine G_ ?_;exact aa (hk v X hO f1)
 rw[c1] at hk;refine G_ ?_;cases c2:decide (r.id < n)
 case true =>
   rw[c2] at hk;refine G_ ?_;apply ay (v:=.ag [v,I n]);rfl;rfl;rfl;refine av (v:=.ag [v,I n]) (bI:=[v,I n]) rfl rfl (hO.vH _) rfl rfl rfl rfl rfl ?_;refine G_ ?_;exact aa (hk v X hO f1)
 rw[c2] at hk;refine G_ ?_;refine Lr rfl hO.rg ?_;refine G_ ?_;cases c3:decide (64≤(l.length:Int))
 case true =>
   rw[c3] at hk;refine G_ ?_;apply ay (v:=.ag [v,I n]);rfl;rfl;rfl;refine av (v:=.ag [v,I n]) (bI:=[v,I n]) rfl rfl (hO.vH _) rfl rfl rfl rfl rfl ?_;refine G_ ?_;exact aa (hk v X hO f1)
 rw[c3] at hk;have c3:=of_decide_eq_false c3;refine G_ ?_;apply ay (v:=.ag (fq r.sum));rfl;rfl;rfl;refine G_ ?_;refine Lw (s:=r.sum) rfl rfl rfl rfl rfl ?_;refine G_ ?_;refine fT (T:=gz) (r:=[⟨r.id,r.path,r.sum,r.size,0⟩]) hO f1 rfl rfl rfl rfl (by simp only[List.length_cons,List.length_nil];omega) fun v' Z je fZ _=>?_
 refine G_ ?_;refine bS (bI:=[v',I n]) rfl je.one je.el rfl rfl rfl (by simp only[bu,je.cel];rfl) ?_
 refine G_ ?_;refine bS (bI:=[v',I (r.id+1)]) rfl rfl rfl rfl rfl rfl rfl ?_;refine G_ ?_;apply ay (v:=.ag [v',I (r.id+1)]);rfl;rfl;rfl;refine av (v:=.ag [v',I (r.id+1)]) (bI:=[v',I (r.id+1)]) rfl rfl (je.vH _) rfl rfl rfl rfl rfl ?_;refine G_ ?_;exact aa (hk v' Z je fZ)
end Sm
namespace Sm
open Go
theorem OG.gP{α:Type}{T:nJ α}{H X:ab}{v:HV}{l:List α}{n:Int}{pZ:List HV}(h:OG T H X v l)(f:Fr [] H X){Q:HV→ab→Prop}(hk:∀Y,Fr [] H Y→Q (.tu (.ag [.sl .no T.sz (l.map T.f),I n]::pZ)) Y) :
   Q (.tu (.ag [v,I n]::pZ)) X∨(∃r',an (.tu (.ag [v,I n]::pZ)) r'∧Q r' X)∨∃b cs r',X b=some (.obj cs)∧FW b cs (.tu (.ag [v,I n]::pZ)) r'∧Q r' (X.bt b none):=by
 have wk:∀{a b:HV},b.one=true→an a b→an (.tu (.ag [a,I n]::pZ)) (.tu (.ag [b,I n]::pZ)):=fun {a b} h1 hw=>an.tu ⟨an.ag ⟨hw,an.refl _,T_⟩ (by simp[h1];rfl),bo.refl _⟩
 rcases h with⟨rfl,rfl⟩ | ⟨rfl,rfl⟩ | ⟨b,c,zs,rfl,hb,hX,hc,zr,hm⟩;{exact .inr (.inl ⟨_,wk rfl (an.dO T.sz),hk X f⟩)};{exact .inr (.inl ⟨_,wk rfl (an.drop _ _ _),hk X f⟩)}
 · refine .inr (.inr ⟨b,_,.tu (.ag [.sl .no T.sz (l.map T.f),I n]::pZ),hX,FW.tu ⟨FW.ag ⟨FW.slice ?_ ?_ (by simp) zr hm (elG T l) (ncG T l),FW.refl _ _ _,T_⟩ rfl,kh.refl _ _ _⟩,hk _ (f.dB hb)⟩)
   · rw[List.take_left' (bJ T l)];rfl
   · rw[List.length_append,bJ];omega
theorem OG.AaY{α:Type}{T:nJ α}{H X:ab}{v:HV}{l:List α}{n:Int}(h:OG T H X v l)(f:Fr [] H X){Q:HV→ab→Prop}(hk:∀Y,Fr [] H Y→Q (.ag [.sl .no T.sz (l.map T.f),I n]) Y) :
   Q (.ag [v,I n]) X∨(∃r',an (.ag [v,I n]) r'∧Q r' X)∨∃b cs r',X b=some (.obj cs)∧FW b cs (.ag [v,I n]) r'∧Q r' (X.bt b none):=by
 have wk:∀{a b:HV},b.one=true→an a b→an (.ag [a,I n]) (.ag [b,I n]):=fun {a b} h1 hw=>an.ag ⟨hw,an.refl _,T_⟩ (by simp[h1];rfl)
 rcases h with⟨rfl,rfl⟩ | ⟨rfl,rfl⟩ | ⟨b,c,zs,rfl,hb,hX,hc,zr,hm⟩;{exact .inr (.inl ⟨_,wk rfl (an.dO T.sz),hk X f⟩)};{exact .inr (.inl ⟨_,wk rfl (an.drop _ _ _),hk X f⟩)}
 · refine .inr (.inr ⟨b,_,.ag [.sl .no T.sz (l.map T.f),I n],hX,FW.ag ⟨FW.slice ?_ ?_ (by simp) zr hm (elG T l) (ncG T l),FW.refl _ _ _,T_⟩ rfl,hk _ (f.dB hb)⟩)
   · rw[List.take_left' (bJ T l)];rfl
   · rw[List.length_append,bJ];omega
theorem lz{α:Type}(T:nJ α){l:List α}{i:Nat}(h:i < l.length):aP T l=aP T (l.take i)++(T.f l[i]).cells++aP T (l.drop (i+1)):=by
 have h1:=List.take_append_drop i l;rw[List.drop_eq_getElem_cons h] at h1;have h2:=congrArg (aP T) h1;rw[←h2,ly,List.append_assoc];rfl
theorem Lx{H:ab}{b off m c sz:Nat}{cs:List HV}(hb:H b=some (.obj cs))(h:off+m*sz≤cs.length):mW H sz (.v (.slice (some ⟨b,off,none⟩) m c))=some (m,(cs.drop off).take (m*sz)):=by
 simp only[mW,hb];rw[if_pos h]
attribute [local irreducible] aH aj aX bk aA aL bn DK RK JK BR G3 bh Spec Tok Fr CV
theorem xj(L:ai code)(b n c i:Nat)(l:List Pt)(zs:List HV)(H:ab)(hb:H b=some (.obj (aP gz l++zs)))(hz:l.length*36+zs.length=c*36)(NR:l.length=n)(CO:n≤c)(Zy:c≤maxLen)(hn:n≤1048576)(hi:i < n)(K:HV→ab→Prop)
   (hk:∀X pZ,X b=some (.obj (aP gz (l.take i++l.drop (i+1))++pZ))→(l.take i++l.drop (i+1)).length*36+pZ.length=c*36→Fr [b] H X→K (.v (.slice (some ⟨b,0,none⟩) (n - 1) c)) X) :
   Spec L.P L.ν 418 [.v (.slice (some ⟨b,0,none⟩) n c),I i,I (i+1:Nat)] H K:=by
 have hl:=NR;have va:(aP gz l).length=l.length*36:=bJ gz l;have OA:(aP gz l++zs).length=c*36:=by rw[List.length_append,va];omega
 refine ah L Fh rfl ?_;refine G_ ?_;apply xk;rfl;rfl;rfl;rfl;(focus omega);refine G_ ?_;have c1:((i:Int)==((i+1:Nat):Int))=false:=by simp only[beq_eq_false_iff_ne,ne_eq];omega
 rw[c1];refine G_ ?_;apply w7;rfl;rfl;(focus omega);refine G_ ?_;apply xk;rfl;rfl;rfl;rfl;(focus omega);simp only[Int.toNat_natCast];have hA:(aP gz (l.take i)).length=i*36:=by rw[bJ,List.length_take];congr 1;omega
 have hB:(aP gz (l.drop (i+1))).length=(n - (i+1))*36:=by rw[bJ,List.length_drop,hl];rfl
 have hX3:(bB (l[i]'(by omega))).cells.length=36:=rfl
 have hAB:aP gz l=aP gz (l.take i)++(bB (l[i]'(by omega))).cells++aP gz (l.drop (i+1)):=lz gz (by omega)
 have eZ:aP gz (l.take i++l.drop (i+1))=aP gz (l.take i)++aP gz (l.drop (i+1)):=ly _ _ _;have Ly:(l.take i++l.drop (i+1)).length=n - 1:=by rw[List.length_append,List.length_take,List.length_drop];omega
 generalize aP gz (l.take i)=A at hA hAB eZ;generalize aP gz (l.drop (i+1))=Bc at hB hAB eZ;generalize (bB (l[i]'(by omega))).cells=X3 at hX3 hAB
 rw[hAB] at hb OA;have htl:A.length+X3.length+Bc.length+zs.length=c*36:=by simp only[List.length_append] at OA;exact OA
 generalize ho:(if (c:Int)=((i+1:Nat):Int) then 0 else 0+(i+1)*36)=off
 have Lz:off+(n - (i+1))*36≤(A++X3++Bc++zs).length:=by rw[OA,←ho];split<;>omega
 have LA:((A++X3++Bc++zs).drop off).take ((n - (i+1))*36)=Bc:=by
   rw[←ho];split
   · have e0:n - (i+1)=0:=by omega
     have e1:Bc=[]:=List.length_eq_zero_iff.mp (by omega)
     rw[e0,e1];simp
   · rw[Nat.zero_add,List.append_assoc,List.drop_left' (by rw[List.length_append];omega),List.take_left' hB]
 apply Bt;rfl;rfl;(focus exact Lx hb Lz);(focus exact hb);(focus omega);(focus omega);(focus omega);(focus skip)
 case gG=>intro hc;omega
 intro _ Y hY fY;have e2:i+(n - (i+1))=n - 1:=by omega
 rw[LA,Nat.zero_add] at hY;rw[e2];have hRl:((X3++Bc).drop Bc.length).length=36:=by rw[List.length_drop,List.length_append];omega
 have hY':Y b=some (.obj (A++Bc++(X3++Bc).drop Bc.length++zs)):=by
   have e3:A++X3++Bc++zs=A++(X3++Bc).take Bc.length++((X3++Bc).drop Bc.length++zs):=by
     rw[←List.append_assoc,List.append_assoc A (List.take _ _),List.take_append_drop];simp only[List.append_assoc]
   rw[hY,e3,gD hA (by rw[List.length_take,List.length_append];omega)]
   simp only[List.append_assoc]
 generalize (X3++Bc).drop Bc.length=R at hRl hY';refine G_ ?_;apply OC (a:=n - 1) (e:=n);rfl;rfl;rfl;rfl;rfl;(focus omega);(focus omega);(focus omega);apply VQ;rfl;(focus exact hY');(focus (simp only[List.length_append,hRl];omega));rfl;intro Z hZ fZ;refine G_ ?_;have Lt:(List.replicate (n - (n - 1)) (hU zP)).flatten=hU zP:=by rw[show n - (n - 1)=1 by omega];simp
 have Zw:(hU zP).length=36:=rfl;refine aa (hk Z (hU zP++zs) ?_ ?_ (fY.trans fZ))
 · have hZ':Z b=some (.obj (bu (A++Bc++R++zs) (0+(n - 1)*36) (List.replicate (n - (n - 1)) (hU zP)).flatten)):=hZ;have h9:bu (A++Bc++R++zs) (0+(n - 1)*36) (hU zP)=A++Bc++hU zP++zs:=gD (A:=A++Bc) (X:=R) (Y:=hU zP) (by rw[List.length_append];omega) (by rw[hRl,Zw])
   rw[hZ',Lt,h9,eZ,List.append_assoc (A++Bc)]
 · rw[Ly,List.length_append,Zw];omega
def dz(l:List Pt)(i:Nat)(o:Int):List Pt:=l.set i ⟨(l.getD i zP).id,(l.getD i zP).path,(l.getD i zP).sum,(l.getD i zP).size,o⟩
theorem nS{l:List Pt}{i:Nat}(h:i < l.length)(o:Int)(zs:List HV):bu (aP gz l++zs) (i*36+35) [I o]=aP gz (dz l i o)++zs:=by
 have hg:l.getD i zP=l[i]:=by simp[List.getD,h]
 have hA:(aP gz (l.take i)).length=i*36:=by rw[bJ,List.length_take];congr 1;omega
 have e1:aP gz l=aP gz (l.take i)++((hU l[i]).take 35++[I l[i].off])++aP gz (l.drop (i+1)):=lz gz h;have h2:i < (dz l i o).length:=by simpa[dz] using h
 have e2:aP gz (dz l i o)=aP gz (l.take i)++((hU l[i]).take 35++[I o])++aP gz (l.drop (i+1)):=by
   rw[lz gz h2];have e3:(dz l i o).take i=l.take i:=by simp[dz,List.take_set_of_le]
   have e4:(dz l i o).drop (i+1)=l.drop (i+1):=by simp[dz,List.drop_set_of_lt]
   have e5:(dz l i o)[i]=⟨l[i].id,l[i].path,l[i].sum,l[i].size,o⟩:=by simp only[dz,hg,List.getElem_set_self]
   rw[e3,e4,e5];rfl
 have e6:aP gz l++zs=(aP gz (l.take i)++(hU l[i]).take 35)++[I l[i].off]++(aP gz (l.drop (i+1))++zs):=by rw[e1];simp only[List.append_assoc]
 have hP:((hU l[i]).take 35).length=35:=rfl;rw[e6,gD (A:=aP gz (l.take i)++(hU l[i]).take 35) (X:=[I l[i].off]) (Y:=[I o]) (by rw[List.length_append,hA,hP]) rfl,e2]
 simp only[List.append_assoc]
def qY(s:ek)(r:Rc):Int:=firstIdx (fun x=>x.id==r.id) s.parts
def JG(s:ek)(r:Rc):Pt:=s.parts.getD (qY s r).toNat zP
def bF(s:ek)(r:Rc):ek×Bool:=
 bif (r.kind.toNat:Int)==0 then (⟨(eG s.parts s.next r).1,(eG s.parts s.next r).2.1⟩,(eG s.parts s.next r).2.2)
 else bif (r.kind.toNat:Int)==4 then (bif decide (r.id < s.next) then (s,false) else (⟨s.parts,r.id+1⟩,true))
 else bif (r.kind.toNat:Int)==1 then (bif decide (qY s r < 0) then (s,false) else bif decide (r.off < (JG s r).off) then (s,false) else bif decide ((JG s r).size < r.off) then (s,false) else (⟨dz s.parts (qY s r).toNat r.off,s.next⟩,true))
 else bif (r.kind.toNat:Int)==2||(r.kind.toNat:Int)==3 then (bif decide (qY s r < 0) then (s,false) else (⟨s.parts.take (qY s r).toNat++s.parts.drop ((qY s r).toNat+1),s.next⟩,true))
 else (s,false)
theorem tN{s:ek}{r:Rc}(h:decide (qY s r < 0)=false):∃i:Nat,∃hi:i < s.parts.length,qY s r=i∧JG s r=s.parts[i]:=by
 have h:=of_decide_eq_false h;rcases jC (fun(x:Pt)=>x.id==r.id) s.parts with⟨e1,e2⟩ | ⟨i,hi,e1,e2⟩;{unfold qY at h;rw[e1] at h;omega};{have e3:qY s r=i:=e1;refine⟨i,hi,e3,?_⟩;unfold JG;rw[e3,Int.toNat_natCast];simp[List.getD,hi]}
theorem OG.obj{α:Type}{T:nJ α}{H0 X:ab}{v:HV}{l:List α}(h:OG T H0 X v l)(hl:l≠[]):∃b c zs,v = .v (.slice (some ⟨b,0,none⟩) l.length c)∧H0 b=none∧X b=some (.obj (aP T l++zs))∧l.length*T.sz+zs.length=c*T.sz∧l.length≤c∧c≤maxLen:=by
 rcases h with⟨rfl,rfl⟩ | ⟨rfl,rfl⟩ | h;{exact absurd rfl hl};{exact absurd rfl hl};{exact h}
theorem tO(L:ai code)(s:ek)(r:Rc)(hl:s.parts.length≤1048576)(h0:0≤r.id)(h1:r.id≤1099511627776):aU L 385 [fD s,bc r] (.tu [fD (bF s r).1,B (bF s r).2]):=by
 intro H K hk;refine Spec.dB ?_;refine ah L Fi rfl ?_;unfold bF at hk;refine G_ ?_;refine ep (v:=fD s) (cs:=j7 s) rfl rfl rfl rfl rfl ?_;refine G_ ?_;refine kU (v:=bc r) (cs:=dE r) rfl rfl rfl rfl fun b X hb hX fX sX=>?_;refine G_ ?_;apply ay (v:=fD s);rfl;rfl;rfl;refine C_ ?_;refine IJ L .no s.parts s.next hl X _ fun v Y hO fY=>?_;have hY:Y b=some (.obj (dE r)):=fY.get (by simp) hX
 refine G_ ?_;refine av (v:=.ag [v,I s.next]) (bI:=[v,I s.next]) rfl rfl (hO.vH _) rfl rfl rfl rfl rfl ?_;refine C_ ?_;refine zA L (.fn 415 [ptr b]) (fun x=>x.id==r.id) v s.parts hl Y hO.rg (fun x hx Z fZ K' hK'=>?_) _ fun Z fZ=>?_;{unfold CV;exact zD L x r b Z (fZ.get (by simp) hY) _ (hK' Z (Fr.refl _ _))};have hZ:Z b=some (.obj (dE r)):=fZ.get (by simp) hY
 have hO:=(hO.up fX).dt fZ;have pF:=fX.trans (fY.trans fZ);rw[show firstIdx (fun x=>x.id==r.id) s.parts=qY s r from rfl];refine G_ ?_;cases c1:(r.kind.toNat:Int)==0
 case true =>
   rw[c1] at hk;refine G_ ?_;apply ay (v:=.ag [v,I s.next]);rfl;rfl;rfl;apply bz (v:=bc r);rfl;(focus exact hZ);rfl;(apply af;rfl);refine xh L v s.parts s.next r hl h1 h0 H Z hO pF _ fun v' W je fW=>?_;refine G_ ?_;refine av (v:=.ag [v',I (eG s.parts s.next r).2.1]) (bI:=[v',I (eG s.parts s.next r).2.1]) rfl rfl (je.vH _) rfl rfl rfl rfl rfl ?_;refine G_ ?_;exact aa (je.gP fW fun Y fY=>hk Y fY)
 rw[c1] at hk;refine G_ ?_;cases c2:(r.kind.toNat:Int)==4
 case true =>
   rw[c2] at hk;refine G_ ?_;cases c3:decide (r.id < s.next)
   case true =>
     rw[c3] at hk;refine G_ ?_;apply ay (v:=.ag [v,I s.next]);rfl;rfl;rfl;refine av (v:=.ag [v,I s.next]) (bI:=[v,I s.next]) rfl rfl (hO.vH _) rfl rfl rfl rfl rfl ?_;refine G_ ?_;exact aa (hO.gP pF fun Y fY=>hk Y fY)
   rw[c3] at hk;refine G_ ?_;refine bS (bI:=[v,I (r.id+1)]) rfl rfl rfl rfl rfl rfl rfl ?_;refine G_ ?_;apply ay (v:=.ag [v,I (r.id+1)]);rfl;rfl;rfl;refine av (v:=.ag [v,I (r.id+1)]) (bI:=[v,I (r.id+1)]) rfl rfl (hO.vH _) rfl rfl rfl rfl rfl ?_;refine G_ ?_;exact aa (hO.gP pF fun Y fY=>hk Y fY)
 rw[c2] at hk;refine G_ ?_;cases c3:(r.kind.toNat:Int)==1
 case true =>
   rw[c3] at hk;refine G_ ?_;cases c4:decide (qY s r < 0)
   case true =>
     rw[c4] at hk;refine G_ ?_;apply ay (v:=.ag [v,I s.next]);rfl;rfl;rfl;refine av (v:=.ag [v,I s.next]) (bI:=[v,I s.next]) rfl rfl (hO.vH _) rfl rfl rfl rfl rfl ?_;refine G_ ?_;exact aa (hO.gP pF fun Y fY=>hk Y fY)
   rw[c4] at hk;obtain⟨i,hi,e1,e2⟩:=tN c4;rw[e2] at hk;have hi? : s.parts[i]? = some s.parts[i]:=List.getElem?_eq_getElem hi;refine G_ ?_;refine xf (T:=gz) rfl rfl hO.rg rfl e1 hi? fun p hp=>?_;refine G_ ?_;refine Ls rfl hp (Nat.le_of_ble_eq_true rfl) fun p2 Qn=>?_;refine G_ ?_;refine rX (v:=I s.parts[i].off) rfl Qn rfl ?_;refine G_ ?_;cases c5:decide (r.off < s.parts[i].off)
   case true =>
     rw[c5] at hk;refine G_ ?_;apply ay (v:=.ag [v,I s.next]);rfl;rfl;rfl;refine av (v:=.ag [v,I s.next]) (bI:=[v,I s.next]) rfl rfl (hO.vH _) rfl rfl rfl rfl rfl ?_;refine G_ ?_;exact aa (hO.gP pF fun Y fY=>hk Y fY)
   rw[c5] at hk;refine G_ ?_;refine xf (T:=gz) rfl rfl hO.rg rfl e1 hi? fun p3 hp3=>?_;refine G_ ?_;refine Ls rfl hp3 (Nat.le_of_ble_eq_true rfl) fun p4 hp4=>?_;refine G_ ?_;refine rX (v:=I s.parts[i].size) rfl hp4 rfl ?_;refine G_ ?_;cases c6:decide (s.parts[i].size < r.off)
   case true =>
     rw[c6] at hk;refine G_ ?_;apply ay (v:=.ag [v,I s.next]);rfl;rfl;rfl;refine av (v:=.ag [v,I s.next]) (bI:=[v,I s.next]) rfl rfl (hO.vH _) rfl rfl rfl rfl rfl ?_;refine G_ ?_;exact aa (hO.gP pF fun Y fY=>hk Y fY)
   rw[c6] at hk;have eJ:s.parts≠[]:=by intro e;rw[e] at hi;simp at hi
   obtain⟨bb,c,zs,rfl,Qy,hZb,Ik,zr,hm⟩:=hO.obj eJ;refine G_ ?_;refine dj rfl rfl (by rw[e1];omega) ?_
   refine G_ ?_;have e3:0+(qY s r).toNat*36+35=i*36+35:=by rw[e1];simp
   rw[e3];have hlen:(aP gz s.parts++zs).length=c*36:=by rw[List.length_append,bJ];exact Ik
   refine bH (bI:=aP gz (dz s.parts i r.off)++zs) rfl rfl rfl rfl hZb (Nat.ble_eq_true_of_le (by rw[hlen];omega)) (nS hi r.off zs) fun X' ZF fX'=>?_
   refine G_ ?_;apply ay (v:=.ag [.v (.slice (some ⟨bb,0,none⟩) s.parts.length c),I s.next]);rfl;rfl;rfl;refine av (v:=.ag [.v (.slice (some ⟨bb,0,none⟩) s.parts.length c),I s.next]) (bI:=[.v (.slice (some ⟨bb,0,none⟩) s.parts.length c),I s.next]) rfl rfl rfl rfl rfl rfl rfl rfl ?_;refine G_ ?_;have yf:(dz s.parts i r.off).length=s.parts.length:=by simp[dz]
   have je:OG gz H X' (.v (.slice (some ⟨bb,0,none⟩) s.parts.length c)) (dz s.parts i r.off):=.inr (.inr ⟨bb,c,zs,by rw[yf],Qy,ZF,by rw[yf];exact Ik,by rw[yf];exact zr,hm⟩)
   rw[e1,Int.toNat_natCast] at hk;exact aa (je.gP (pF.own Qy fX') fun Y fY=>hk Y fY)
 rw[c3] at hk;refine I_ ?_;refine fS (ak L) (fun(_:Unit)=>[(2,.lp 0 0),(3,.h (ptr b)),(4,.lp 2 0),(6,.h (I (qY s r))),(70,.h (B ((r.kind.toNat:Int)==2||(r.kind.toNat:Int)==3)))]) (fun _=>[(0,[v,I s.next]),(2,[.v (.slice none 0 0),I 0])]) (fun _ V=>V=Z) ?_ ?_;{refine I_ ?_;cases c5:(r.kind.toNat:Int)==2;{refine I_ ?_;refine lU () rfl ?_;exact E_};{refine I_ ?_;refine lU () rfl ?_;exact E_}};rintro - V rfl;cases c5:(r.kind.toNat:Int)==2||(r.kind.toNat:Int)==3
 case false =>
   rw[c5] at hk;refine G_ ?_;apply ay (v:=.ag [v,I s.next]);rfl;rfl;rfl;refine av (v:=.ag [v,I s.next]) (bI:=[v,I s.next]) rfl rfl (hO.vH _) rfl rfl rfl rfl rfl ?_;refine G_ ?_;exact aa (hO.gP pF fun Y fY=>hk Y fY)
 rw[c5] at hk;refine G_ ?_;cases c4:decide (qY s r < 0)
 case true =>
   rw[c4] at hk;refine G_ ?_;apply ay (v:=.ag [v,I s.next]);rfl;rfl;rfl;refine av (v:=.ag [v,I s.next]) (bI:=[v,I s.next]) rfl rfl (hO.vH _) rfl rfl rfl rfl rfl ?_;refine G_ ?_;exact aa (hO.gP pF fun Y fY=>hk Y fY)
 rw[c4] at hk;obtain⟨i,hi,e1,e2⟩:=tN c4;have eJ:s.parts≠[]:=by intro e;rw[e] at hi;simp at hi
 obtain⟨bb,c,zs,rfl,Qy,hZb,Ik,zr,hm⟩:=hO.obj eJ;rw[e1,Int.toNat_natCast] at hk;rw[e1];refine C_ ?_;refine xj L bb s.parts.length c i s.parts zs V hZb Ik rfl zr hm hl hi _ fun X' pZ ZF AdB fX'=>?_;have yf:(s.parts.take i++s.parts.drop (i+1)).length=s.parts.length - 1:=by rw[List.length_append,List.length_take,List.length_drop];omega
 have je:OG gz H X' (.v (.slice (some ⟨bb,0,none⟩) (s.parts.length - 1) c)) (s.parts.take i++s.parts.drop (i+1)):=.inr (.inr ⟨bb,c,pZ,by rw[yf],Qy,ZF,AdB,by rw[yf];omega,hm⟩)
 refine G_ ?_;refine bS (bI:=[.v (.slice (some ⟨bb,0,none⟩) (s.parts.length - 1) c),I s.next]) rfl rfl rfl rfl rfl rfl rfl ?_;refine G_ ?_;apply ay (v:=.ag [.v (.slice (some ⟨bb,0,none⟩) (s.parts.length - 1) c),I s.next]);rfl;rfl;rfl;refine av (v:=.ag [.v (.slice (some ⟨bb,0,none⟩) (s.parts.length - 1) c),I s.next]) (bI:=[.v (.slice (some ⟨bb,0,none⟩) (s.parts.length - 1) c),I s.next]) rfl rfl rfl rfl rfl rfl rfl rfl ?_;refine G_ ?_;exact aa (je.gP (pF.own Qy fX') fun Y fY=>hk Y fY)
end Sm
namespace Sm
open Go
def bK:ek→List Rc→ek×Int
 | s,[]=>(s,0)
 | s,r::l=>if (bF s r).2 then ((bK (bF s r).1 l).1,1+(bK (bF s r).1 l).2) else (s,0)
def z0:ek:=⟨[],0⟩
theorem vL(s:ek)(r:Rc):(bF s r).1.parts.length≤s.parts.length+1:=by
 unfold bF eG dz;cases (r.kind.toNat:Int)==0;{cases (r.kind.toNat:Int)==4;{cases (r.kind.toNat:Int)==1;{cases (r.kind.toNat:Int)==2||(r.kind.toNat:Int)==3;{exact Nat.le_succ _};{cases decide (qY s r < 0);{simp only[cond_true,cond_false,List.length_append,List.length_take,List.length_drop];omega};{exact Nat.le_succ _}}};{cases decide (qY s r < 0);{cases decide (r.off < (JG s r).off);{cases decide ((JG s r).size < r.off);{simp only[cond_true,cond_false,List.length_set];omega};{exact Nat.le_succ _}};{exact Nat.le_succ _}};{exact Nat.le_succ _}}};{cases decide (r.id < s.next)<;>exact Nat.le_succ _}};{cases (ir s.parts r.path).2||(decide (r.id < s.next)||decide (64≤(s.parts.length:Int)));{simp only[cond_true,cond_false,List.length_append,List.length_cons,List.length_nil];omega};{exact Nat.le_succ _}}
def iO:Int→List Pt→List Rc
 | _,[]=>[]
 | n,p::l=>⟨0,p.id,p.path,p.sum,p.size,0⟩::((bif decide (0 < p.off) then [⟨1,p.id,[],[],0,p.off⟩] else [])++iO n l)
def jD:Int→List Pt→Int
 | n,[]=>n
 | _,p::l=>jD (p.id+1) l
def bD(s:ek):List Rc:=iO 0 s.parts++bif decide (jD 0 s.parts < s.next) then [⟨4,s.next - 1,[],[],0,0⟩] else []
attribute [local irreducible] aH aj aX bk aA aL bn DK RK JK BR G3 bh Spec Tok Fr CV
theorem BP(L:ai code)(tk:Tk)(l:List Rc)(hl:l.length≤1000000)(hid:∀r∈l,0≤r.id∧r.id≤1099511627776):aU L 400 [.sl tk 37 (l.map bc)] (.tu [fD (bK z0 l).1,I (bK z0 l).2]):=by
 intro H K hk;refine ah L Fj rfl ?_;refine G_ ?_;refine aV (ak L) (fun(q:Nat×ek)=>[(0,.h (.sl tk 37 (l.map bc))),(2,.lp 0 0),(4,.lp 1 0),(9,.h (.sl tk 37 (l.map bc))),(10,.h (I l.length)),(11,.h (I q.1))]) (fun q=>[(0,[.v (.slice none 0 0),I 0]),(1,j7 q.2)]) (fun q X=>Fr [] H X∧q.1≤l.length∧q.2.parts.length≤q.1∧(bK z0 l).1=(bK q.2 (l.drop q.1)).1∧(bK z0 l).2=q.1+(bK q.2 (l.drop q.1)).2) (fun q=>l.length - q.1) (0,z0) ?_ ⟨Fr.refl _ _,by simp,by simp[z0],rfl,by simp⟩ ?_
 · refine bw ?_ (BQ rfl rfl (Qz rfl ⟨an.dO 36,an.refl _,T_⟩ rfl rY)) ?_<;>(repeat refine bE T_ ?_)<;>exact bA
 rintro⟨j,s⟩ X ⟨fX,hj,hs,e1,e2⟩;dsimp only at hj hs e1 e2 ⊢;refine G_ ?_;(refine ct T_ ?_ ?_<;>intro h)
 · have bN:j < l.length:=by have:=of_decide_eq_true h;omega
   have hr:=hid l[j] (List.getElem_mem bN);rw[List.drop_eq_getElem_cons bN,bK] at e1 e2;refine G_ ?_;refine eK (cs:=dE l[j]) rfl rfl rfl (by rw[List.getElem?_map,List.getElem?_eq_getElem bN];rfl) rfl ?_
   refine ed (v:=bc l[j]) rfl rfl ?_;refine G_ ?_;refine av (v:=bc l[j]) (bI:=dE l[j]) rfl rfl rfl rfl rfl rfl rfl rfl ?_;refine G_ ?_;apply ay (v:=fD s);rfl;rfl;rfl;apply ay (v:=bc l[j]);rfl;rfl;rfl;(apply af;rfl);refine tO L s l[j] (by omega) hr.1 hr.2 X _ fun Y fY=>?_
   have LB:=vL s l[j];refine G_ ?_;refine av (v:=fD (bF s l[j]).1) (bI:=j7 (bF s l[j]).1) rfl rfl rfl rfl rfl rfl rfl rfl ?_;refine G_ ?_;cases c1:(bF s l[j]).2
   · rw[if_neg (by rw[c1];simp)] at e1 e2
     rw[Bool.not_false];refine G_ ?_;apply ay (v:=fD s);rfl;rfl;rfl;refine G_ ?_;refine av (v:=fD s) (bI:=j7 s) rfl rfl rfl rfl rfl rfl rfl rfl ?_;refine G_ ?_;have:=hk Y (fX.trans fY);rw[e1,e2] at this;dsimp only at this;rw[Int.add_zero] at this;exact aa this
   · rw[if_pos c1] at e1 e2;rw[Bool.not_true];refine G_ ?_;apply ay (v:=fD (bF s l[j]).1);rfl;rfl;rfl;refine av (v:=fD (bF s l[j]).1) (bI:=j7 (bF s l[j]).1) rfl rfl rfl rfl rfl rfl rfl rfl ?_;refine G_ ?_;refine dG (j+1,(bF s l[j]).1) (by dsimp only;omega) ⟨fX.trans fY,bN,by dsimp only;omega,e1,?_⟩ ?_
     · rw[e2];dsimp only;omega
     · exact E_
 · have kF:j=l.length:=by have:=of_decide_eq_false h;omega
   subst kF;rw[List.drop_length,bK] at e1 e2;refine G_ ?_;apply ay (v:=fD s);rfl;rfl;rfl;refine G_ ?_;refine av (v:=fD s) (bI:=j7 s) rfl rfl rfl rfl rfl rfl rfl rfl ?_;refine G_ ?_;have:=hk X fX;rw[e1,e2] at this;dsimp only at this;rw[Int.add_zero] at this;exact aa this
theorem qZ(L:ai code)(s:ek)(hs:s.parts.length≤100000)(hi:∀p∈s.parts,p.id≤4611686018427387904 ∧ -4611686018427387904≤p.id)(hn:s.next≤4611686018427387904 ∧ -4611686018427387904≤s.next):aU L 405 [fD s] (.sl .no 37 ((bD s).map bc)):=by
 intro H K hk;refine Spec.dB ?_;refine ah L Fk rfl ?_;refine G_ ?_;refine ep (v:=fD s) (cs:=j7 s) rfl rfl rfl rfl rfl ?_;refine G_ ?_;refine aV (ak L) (fun(q:Nat×HV×List Rc×Int)=>[(1,.lp 0 0),(3,.h q.2.1),(4,.h (I q.2.2.2)),(8,.h (.sl .no 36 (s.parts.map bB))),(9,.h (I s.parts.length)),(10,.h (I q.1))]) (fun _=>[(0,j7 s)]) (fun q X=>OG nK H X q.2.1 q.2.2.1∧Fr [] H X∧q.1≤s.parts.length∧q.2.2.1.length≤2*q.1∧iO 0 s.parts=q.2.2.1++iO 0 (s.parts.drop q.1)∧jD 0 s.parts=jD q.2.2.2 (s.parts.drop q.1)∧q.2.2.2≤4611686018427387905 ∧ -4611686018427387905≤q.2.2.2) (fun q=>s.parts.length - q.1) (0,.v (.slice none 0 0),[],0) ?_ ⟨OG.nil _ _ _,Fr.refl _ _,by simp,by simp,rfl,rfl,by simp,by simp⟩ ?_
 · exact E_
 rintro⟨j,v,out,nx⟩ X ⟨hO,fX,hj,hl,e1,e2,n1,n2⟩;dsimp only at hO hj hl e1 e2 n1 n2 ⊢;refine G_ ?_;(refine ct T_ ?_ ?_<;>intro h)
 · have bN:j < s.parts.length:=by have:=of_decide_eq_true h;omega
   have hb:=hi s.parts[j] (List.getElem_mem bN);rw[List.drop_eq_getElem_cons bN,iO] at e1;rw[List.drop_eq_getElem_cons bN,jD] at e2;generalize hp:s.parts[j]=p at *;refine G_ ?_;refine eK (cs:=hU p) rfl rfl rfl (by rw[List.getElem?_map,List.getElem?_eq_getElem bN,hp];rfl) rfl ?_
   refine ed (v:=bB p) rfl rfl ?_;refine G_ ?_;refine av (v:=bB p) (bI:=hU p) rfl rfl rfl rfl rfl rfl rfl rfl ?_;refine G_ ?_;apply ay (v:=.ag (fq p.sum));rfl;rfl;rfl;refine G_ ?_;refine zB (s:=p.sum) (k:=0) rfl rfl rfl rfl rfl rfl ?_;refine G_ ?_;refine fT (T:=nK) (r:=[⟨0,p.id,p.path,p.sum,p.size,0⟩]) hO fX rfl rfl rfl rfl (by simp only[List.length_cons,List.length_nil];omega) fun v' Z je fZ _=>?_
   refine I_ ?_;refine fS (ak L) (fun(w:HV×List Rc)=>[(1,.lp 0 0),(3,.h w.1),(6,.lp 1 0),(8,.h (.sl .no 36 (s.parts.map bB))),(9,.h (I s.parts.length)),(10,.h (I j))]) (fun _=>[(0,j7 s),(1,hU p)]) (fun w V=>OG nK H V w.1 w.2∧Fr [] H V∧w.2.length≤2*j+2∧iO 0 s.parts=w.2++iO 0 (s.parts.drop (j+1))) ?_ ?_
   · refine I_ ?_;cases c1:decide (0 < p.off)
     · rw[c1] at e1;refine I_ ?_;refine lU (v',out++[⟨0,p.id,p.path,p.sum,p.size,0⟩]) ⟨je,fZ,by simp only[List.length_append,List.length_cons,List.length_nil];omega,by rw[e1];simp only[cond_false,List.append_assoc,List.cons_append,List.nil_append]⟩ ?_
       exact E_
     · rw[c1] at e1;refine G_ ?_;refine aG (x:=.h (bc ⟨1,p.id,[],[],0,p.off⟩)) rfl rfl ?_;refine G_ ?_;refine fT (T:=nK) (r:=[⟨1,p.id,[],[],0,p.off⟩]) je fZ rfl rfl rfl rfl (by simp only[List.length_append,List.length_cons,List.length_nil];omega) fun v2 Z2 lO VR _=>?_
       refine I_ ?_;refine lU (v2,out++[⟨0,p.id,p.path,p.sum,p.size,0⟩]++[⟨1,p.id,[],[],0,p.off⟩]) ⟨lO,VR,by simp only[List.length_append,List.length_cons,List.length_nil];omega,by rw[e1];simp only[cond_true,List.append_assoc,List.cons_append,List.nil_append]⟩ ?_
       exact E_
   rintro⟨w,o2⟩ V ⟨lO,fV,l2,e3⟩;dsimp only at lO l2 e3 ⊢;refine G_ ?_;refine dG (j+1,w,o2,p.id+1) (by dsimp only;omega) ⟨lO,fV,bN,by dsimp only;omega,e3,e2,by dsimp only;omega,by dsimp only;omega⟩ ?_
   exact E_
 · have kF:j=s.parts.length:=by have:=of_decide_eq_false h;omega
   subst kF;rw[List.drop_length,iO,List.append_nil] at e1;rw[List.drop_length,jD] at e2;have gG:∀X',Fr [] H X'→K (.sl .no 37 ((out++(bif decide (nx < s.next) then [⟨4,s.next - 1,[],[],0,0⟩] else []:List Rc)).map bc)) X':=by
     unfold bD at hk;rw[e1,e2] at hk;exact hk
   refine I_ ?_;refine fS (ak L) (fun(w:HV)=>[(3,.h w)]) (fun _=>[]) (fun w V=>OG nK H V w (out++(bif decide (nx < s.next) then [⟨4,s.next - 1,[],[],0,0⟩] else []:List Rc))∧Fr [] H V) ?_ ?_
   · refine I_ ?_;cases c1:decide (nx < s.next)
     · refine I_ ?_;refine lU v ⟨by dsimp only[cond_false];rw[List.append_nil];exact hO,fX⟩ ?_
       exact E_
     · refine G_ ?_;refine aG (x:=.h (bc ⟨4,s.next - 1,[],[],0,0⟩)) rfl rfl ?_;refine G_ ?_;refine fT (T:=nK) (r:=[⟨4,s.next - 1,[],[],0,0⟩]) hO fX rfl rfl rfl rfl (by simp only[List.length_append,List.length_cons,List.length_nil];omega) fun v2 Z2 lO VR _=>?_
       refine I_ ?_;refine lU v2 ⟨lO,VR⟩ ?_;exact E_
   rintro w V ⟨lO,fV⟩;refine G_ ?_;exact aa (lO.dB fV fun Y fY=>gG Y fY)
end Sm
namespace Sm
open Go
def bX:List Rc→List UInt8
 | []=>[]
 | r::l=>bif (cY r).2 != 0 then [] else (cY r).1++bX l
theorem lA(r:Rc):(cY r).1.length≤1100:=by
 unfold cY;cases c:cz r != 0
 · have h:cz r=0:=by simpa using c
   have h4:=(eW h).2.2.2.1;have h1:=oj h4;dsimp only[cond_false];unfold ft eV ej;generalize hx:aW r++By (uR (aW r))=x;have zZ:x.length=(aW r).length+4:=by rw[←hx,List.length_append,lr]
   have:=cW (x.length:Int);rw[List.length_append];omega
 · exact Nat.zero_le _
theorem OD{code:Nat→SF}(L:ai code){f:HV}{xs:List HV}{H:ab}{K K':HV→ab→Prop}(hq:∀h X,K h X→K' h X)(h:CV L f xs H K):CV L f xs H K':=by
 unfold CV at h ⊢;cases f<;>first | exact mY hq h | exact h.elim
attribute [local irreducible] aH aj aX bk aA aL bn DK RK JK BR G3 bh Spec Tok Fr CV
theorem vM(L:ai code)(tk:Tk)(l:List Rc)(hl:l.length≤1000000)(hp:∀r∈l,r.path.length≤1048576)(H:ab)(K:HV→ab→Prop)(hk:∀v X,OB H X v (bX l)→Fr [] H X→K v X):Spec L.P L.ν 401 [.sl tk 37 (l.map bc)] H K:=by
 refine ah L Fm rfl ?_;refine G_ ?_;refine aV (ak L) (fun(q:Nat×HV×List UInt8)=>[(0,.h (.sl tk 37 (l.map bc))),(3,.h q.2.1),(8,.h (.sl tk 37 (l.map bc))),(9,.h (I l.length)),(10,.h (I q.1))]) (fun _=>[]) (fun q X=>OB H X q.2.1 q.2.2∧Fr [] H X∧q.1≤l.length∧q.2.2.length≤q.1*1100∧bX l=q.2.2++bX (l.drop q.1)) (fun q=>l.length - q.1) (0,.v (.slice none 0 0),[]) ?_ ⟨OB.nil _ _,Fr.refl _ _,by simp,by simp,rfl⟩ ?_
 · exact E_
 rintro⟨j,v,b⟩ X ⟨hO,fX,hj,hb,e1⟩;dsimp only at hO hj hb e1 ⊢;refine G_ ?_;(refine ct T_ ?_ ?_<;>intro h)
 · have bN:j < l.length:=by have:=of_decide_eq_true h;omega
   rw[List.drop_eq_getElem_cons bN,bX] at e1;have Jv:=lA l[j];refine G_ ?_;refine eK (cs:=dE l[j]) rfl rfl rfl (by rw[List.getElem?_map,List.getElem?_eq_getElem bN];rfl) rfl ?_
   refine ed (v:=bc l[j]) rfl rfl ?_;refine G_ ?_;refine av (v:=bc l[j]) (bI:=dE l[j]) rfl rfl rfl rfl rfl rfl rfl rfl ?_;refine G_ ?_;apply ay (v:=bc l[j]);rfl;rfl;rfl;(apply af;rfl);refine zp L l[j] (hp _ (List.getElem_mem bN)) X _ fun Y fY=>?_;have hO:=hO.fr fY;generalize cY l[j]=s at *;refine G_ ?_;cases c1:s.2 != 0
   · rw[c1] at e1;dsimp only[cond_false] at e1;refine G_ ?_;refine fH hO (fX.trans fY) rfl rfl (iK _ _ _) (by omega) fun v' Z je fZ _=>?_
     refine G_ ?_;refine dG (j+1,v',b++s.1) (by dsimp only;omega) ⟨je,fZ,bN,by simp only[List.length_append];omega,by rw[e1,List.append_assoc]⟩ ?_
     exact E_
   · rw[c1] at e1;dsimp only[cond_true] at e1;rw[List.append_nil] at e1;rw[e1] at hk;refine G_ ?_;exact aa (hk _ _ hO (fX.trans fY))
 · have kF:j=l.length:=by have:=of_decide_eq_false h;omega
   subst kF;rw[List.drop_length,bX,List.append_nil] at e1;rw[e1] at hk;refine G_ ?_;exact aa (hk _ _ hO fX)
def lB(L:ai code)(K:HV→ab→Prop):List HV→ab→Prop
 | [],H=>K (I 0) H
 | f::fs,H=>CV L f [] H fun r X=>∃e:Int,r=I e∧(e≠0→K (I e) X)∧(e=0→lB L K fs X)
theorem wa(L:ai code)(fs:List HV)(hl:fs.length≤1000)(hf:∀f∈fs,f.cells=[f])(H:ab)(K:HV→ab→Prop)(hk:lB L K fs H):Spec L.P L.ν 411 [.sl .full 1 fs] H K:=by
 refine ah L Fo rfl ?_;refine G_ ?_;refine aV (ak L) (fun(j:Nat)=>[(0,.h (.sl .full 1 fs)),(6,.h (.sl .full 1 fs)),(7,.h (I fs.length)),(8,.h (I j))]) (fun _=>[]) (fun j X=>j≤fs.length∧lB L K (fs.drop j) X) (fun j=>fs.length - j) 0 ?_ ⟨by omega,hk⟩ ?_
 · exact E_
 rintro j X ⟨hj,hS⟩;refine G_ ?_;(refine ct T_ ?_ ?_<;>intro h)
 · have bN:j < fs.length:=by have:=of_decide_eq_true h;omega
   rw[List.drop_eq_getElem_cons bN,lB] at hS;refine G_ ?_;refine eK (cs:=[fs[j]]) rfl rfl rfl (List.getElem?_eq_getElem bN) (hf _ (List.getElem_mem bN)) ?_;refine ed (v:=fs[j]) rfl rfl ?_;refine G_ ?_;apply rO L;rfl;rfl;refine OD L (fun r Y hr=>?_) hS;obtain⟨e,rfl,h1,h2⟩:=hr;refine G_ ?_;cases c1:e != 0
   · have c1:e=0:=by simpa using c1
     subst c1;refine G_ ?_;refine dG (j+1) (by omega) ⟨bN,h2 rfl⟩ ?_
     exact E_
   · have c1:e≠0:=by simpa using c1
     refine G_ ?_;exact aa (h1 c1)
 · have kF:j=fs.length:=by have:=of_decide_eq_false h;omega
   subst kF;rw[List.drop_length,lB] at hS;refine G_ ?_;exact aa hS
end Sm
