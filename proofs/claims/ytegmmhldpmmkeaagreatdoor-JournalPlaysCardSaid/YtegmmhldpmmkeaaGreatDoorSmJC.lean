/-
  J14,YR,J15,J16,J17
-/
import Derived.Test.YtegmmhldpmmkeaaGreatDoorSmJB
import Derived.Test.YtegmmhldpmmkeaaGreatDoorSmLH
set_option linter.unusedVariables false
set_option linter.unusedSimpArgs false
set_option maxRecDepth 10000
set_option maxHeartbeats 2000000
namespace Sm
open Go
def RB(X:ab)(w:HV)(l:List UInt8):Prop:=(∃tk,w = .sl tk 1 (l.map U))∨(w = .v (.slice none 0 0)∧l=[])∨∃b off c cs,w = .v (.slice (some ⟨b,off,none⟩) l.length c)∧X b=some (.obj cs)∧off+l.length≤cs.length∧(cs.drop off).take l.length=l.map U
theorem RB.mW{X:ab}{w:HV}{l:List UInt8}(h:RB X w l):mW X 1 w=some (l.length,l.map U):=by
 rcases h with⟨tk,rfl⟩ | ⟨rfl,rfl⟩ | ⟨b,off,c,cs,rfl,hX,hle,he⟩;{exact iK l _ _};{rfl};{simp only[Sm.mW,hX];rw[if_pos (by omega),Nat.mul_one,he]}
theorem RB.fr{X Y:ab}{w:HV}{l:List UInt8}(h:RB X w l)(f:Fr [] X Y):RB Y w l:=by
 rcases h with h | h | ⟨b,off,c,cs,h1,hX,h2⟩;{exact .inl h};{exact .inr (.inl h)};{exact .inr (.inr ⟨b,off,c,cs,h1,f.get (by simp) hX,h2⟩)}
theorem OB.rb{H X:ab}{v:HV}{l:List UInt8}(h:OB H X v l):RB X v l:=by
 rcases h with⟨rfl,rfl⟩ | rfl | ⟨b,c,zs,rfl,_,hX,_⟩;{exact .inr (.inl ⟨rfl,rfl⟩)};{exact .inl ⟨_,rfl⟩};{exact .inr (.inr ⟨b,0,c,_,rfl,hX,by simp,by rw[List.drop_zero,List.take_left' (by simp)]⟩)}
theorem RB.sl(X:ab)(tk:Tk)(l:List UInt8):RB X (.sl tk 1 (l.map U)) l:=.inl ⟨tk,rfl⟩
theorem RB.one{X:ab}{w:HV}{l:List UInt8}(h:RB X w l):w.one=true∧w.el=true∧w.aN=1∧w.cells=[w]:=by
 rcases h with⟨tk,rfl⟩ | ⟨rfl,rfl⟩ | ⟨b,off,c,cs,rfl,_⟩<;>exact⟨rfl,rfl,rfl,rfl⟩
theorem Le{S':aJ}{sl:List (Nat×EV)}{bx:List (Nat×List HV)}{H:ab}{K:Env→ab→Prop}{os:List aF}{d:Nat}{x:bj}{w:HV}{l:List UInt8}
   (hx:(M sl bx).hv x=some w) (hr:RB H w l) (h:aj S' os (M ((d,.h (I l.length))::sl) bx) H K):aj S' (⟨some d,.len x,none⟩::os) (M sl bx) H K:=by
 refine aG rfl ?_ h;rcases hr with⟨tk,rfl⟩ | ⟨rfl,rfl⟩ | ⟨b,off,c,cs,rfl,_⟩;{simp only[aw.ev,hx,List.length_map]};{simp only[aw.ev,hx];rfl};{simp only[aw.ev,hx]}
def Iu(X:ab):List HV→List (List UInt8)→Prop
 | [],[]=>True
 | w::ws,l::ls=>RB X w l∧Iu X ws ls
 | _,_=>False
theorem Iu.len{X:ab}:∀{ws:List HV} {ls:List (List UInt8)},Iu X ws ls→ws.length=ls.length
 | [],[],_=>rfl
 | _::_,_::_,h=>by rw[List.length_cons,List.length_cons,h.2.len]
 | [],_::_,h=>h.elim
 | _::_,[],h=>h.elim
theorem Iu.fr{X Y:ab}(f:Fr [] X Y):∀{ws:List HV} {ls:List (List UInt8)},Iu X ws ls→Iu Y ws ls
 | [],[],_=>trivial
 | _::_,_::_,h=>⟨h.1.fr f,Iu.fr f h.2⟩
 | [],_::_,h=>h.elim
 | _::_,[],h=>h.elim
theorem Iu.get{X:ab}:∀{ws:List HV} {ls:List (List UInt8)} (h:Iu X ws ls) {i:Nat} (hi:i < ws.length) (Oh:i < ls.length),RB X ws[i] ls[i]
 | _::_,_::_,h,0,_,_=>h.1
 | _::ws,_::ls,h,i+1,hi,Oh=>Iu.get h.2 (by simpa using hi) (by simpa using Oh)
 | [],_,_,i,hi,_=>by simp at hi
 | _::_,[],h,_,_,_=>h.elim
theorem Lg{S':aJ}{sl:List (Nat×EV)}{bx:List (Nat×List HV)}{H:ab}{K:Env→ab→Prop}{os:List aF}{d:Nat}{x:bj}{A:Option Addr}{n c:Nat}
   (hx:(M sl bx).cJ [x]=some [.v (.slice A n c)]) (h:aj S' os (M ((d,.h (I c))::sl) bx) H K):aj S' (⟨some d,.nd .cap [x],none⟩::os) (M sl bx) H K:=by
 rw[bf];simp only[aw.step,hx,rv];rw[cu,dp];exact h
theorem Oi{S':aJ}{sl:List (Nat×EV)}{bx:List (Nat×List HV)}{H:ab}{K:Env→ab→Prop}{os:List aF}{d:Nat}{x y:bj}{k:Nat}
   (hx:(M sl bx).cJ [x,y]=some [.v (.slice none 0 0),I k]) (h0:0 < k) (hk:k≤140737488355328)
   (h:∀b c zs X,H b=none→k≤c→c≤maxLen→zs.length=c→X b=some (.obj zs)→Fr [] H X→aj S' os (M ((d,.h (.v (.slice (some ⟨b,0,none⟩) k c)))::sl) bx) X K) :
   aj S' (⟨some d,.cH (.HU 1 1 [.v (.int .u8 0)]) [x,y],none⟩::os) (M sl bx) H K:=by
 rw[bf];simp only[aw.step,hx,iX];refine⟨by omega,rfl,by rw[Int.toNat_natCast];omega,fun b c zs hb h1 h2 h3 h4=>?_⟩
 rw[Int.toNat_natCast] at *;rw[cu,dp];exact h b c _ _ hb h1 h2 (by rw[Ld,List.length_append,List.length_replicate,h3];omega) (ab.aB _ _ _) (Fr.new hb)
theorem oU{S':aJ}{sl:List (Nat×EV)}{bx:List (Nat×List HV)}{H:ab}{K:Env→ab→Prop}{os:List aF}{d:Nat}{x:bj}{hi:Option bj}{tk:Tk}{l:List UInt8}{h:Nat}
   (hx:(M sl bx).hv x=some (.sl tk 1 (l.map U))) (h2:iE (M sl bx) (l.map U).length hi=some (h:Int)) (VI:h≤l.length)
   (hk:∀fC,aj S' os (M ((d,.h (.sl fC 1 ((l.take h).map U)))::sl) bx) H K) :
   aj S' (⟨some d,.gy 1 x none hi none,none⟩::os) (M sl bx) H K:=
 iL (l:=0) hx rfl h2 (by omega) (by simpa using VI) fun fC=>by rw[List.drop_zero,Nat.sub_zero,←List.map_take];exact hk fC
theorem rU{S':aJ}{sl:List (Nat×EV)}{bx:List (Nat×List HV)}{H:ab}{K:Env→ab→Prop}{os:List aF}{d:Nat}{x:bj}{lo:Option bj}{tk:Tk}{l:List UInt8}{h:Nat}
   (hx:(M sl bx).hv x=some (.sl tk 1 (l.map U))) (h1:iE (M sl bx) 0 lo=some (h:Int)) (VI:h≤l.length)
   (hk:∀fC,aj S' os (M ((d,.h (.sl fC 1 ((l.drop h).map U)))::sl) bx) H K) :
   aj S' (⟨some d,.gy 1 x lo none none,none⟩::os) (M sl bx) H K:=
 iL (h:=(l.map U).length) hx h1 rfl (by simpa using VI) (by omega) fun fC=>by rw[List.length_map,←List.map_drop,List.take_of_length_le (by simp)];exact hk fC
theorem Lh{S':aJ}{sl:List (Nat×EV)}{bx:List (Nat×List HV)}{H:ab}{K:Env→ab→Prop}{os:List aF}{d:Nat}{x:bj}{lo hi:Option bj}{tk:Tk}{l:List UInt8}{a h:Nat}
   (hx:(M sl bx).hv x=some (.sl tk 1 (l.map U))) (h1:iE (M sl bx) 0 lo=some (a:Int)) (h2:iE (M sl bx) (l.map U).length hi=some (h:Int)) (hah:a≤h) (VI:h≤l.length)
   (hk:∀fC,aj S' os (M ((d,.h (.sl fC 1 (((l.drop a).take (h - a)).map U)))::sl) bx) H K) :
   aj S' (⟨some d,.gy 1 x lo hi none,none⟩::os) (M sl bx) H K:=
 iL hx h1 h2 hah (by simpa using VI) fun fC=>by rw[←List.map_drop,←List.map_take];exact hk fC
theorem nr{ls:List (List UInt8)}{q:Nat}(h:q < ls.length):(ls.take (q+1)).flatten=(ls.take q).flatten++ls[q]:=by
 rw[List.take_succ_eq_append_getElem h,List.flatten_append,List.flatten_cons,List.flatten_nil,List.append_nil]
theorem p6(ls:List (List UInt8))(q:Nat):(ls.take q).flatten.length≤ls.flatten.length:=by
 conv=>rhs;rw[←List.take_append_drop q ls,List.flatten_append,List.length_append]
 omega
attribute [local irreducible] aH aj aX bk aA aL bn DK RK JK BR G3 bh Spec Tok Fr CV
theorem Iv(L:ai code)(n:Nat)(hn:n≤140737488355328)(H:ab)(K:HV→ab→Prop)(hk:∀v X,OB H X v []→vt v→Fr [] H X→K v X):Spec L.P L.ν 479 [.v (.slice none 0 0),I n] H K:=by
 refine ah L EE rfl ?_;refine H_ ?_;rw[decide_eq_false (show ¬(n:Int) < 0 by omega)]
 refine H_ ?_;refine Lg rfl ?_;refine H_ ?_;cases c1:decide (0 < (n:Int) - (0 - 0));{refine H_ ?_;exact aa (hk _ _ (OB.nil _ _) trivial (Fr.refl _ _))}
 · have JA:0 < n:=by have:=of_decide_eq_true c1;omega
   refine H_ ?_;refine Lg rfl ?_;refine H_ ?_;rw[show (n:Int) - (((0:Nat):Int) - ((0:Nat):Int))=(n:Int) by omega]
   refine Oi rfl JA hn fun b c zs X hb h1 h2 h3 hX fX=>?_;refine H_ ?_;refine w7 rfl rfl ⟨by omega,by omega⟩ ?_
   refine H_ ?_;refine aa (hk _ _ (.inr (.inr ⟨b,c,zs,rfl,hb,hX,by simpa using h3,h2⟩)) trivial fX)
theorem zg(L:ai code)(tk:Tk)(ws:List HV)(ls:List (List UInt8))(hn:ws.length≤1048576)(hs:ls.flatten.length≤1099511627776)(H:ab)(K:HV→ab→Prop)(hr:Iu H ws ls)(hk:∀v X,OB H X v ls.flatten→Fr [] H X→K v X):Spec L.P L.ν 465 [.sl tk 1 ws] H K:=by
 have hlen:=hr.len;refine ah L EF rfl ?_;refine H_ ?_;refine aV (ak L) (fun(q:Nat)=>[(0,.h (.sl tk 1 ws)),(3,.h (I (ls.take q).flatten.length)),(9,.h (.sl tk 1 ws)),(10,.h (I ws.length)),(11,.h (I q))]) (fun _=>[]) (fun q X=>X=H∧q≤ws.length) (fun q=>ws.length - q) 0 ?_ ⟨rfl,by omega⟩ ?_
 · exact E_
 rintro q X ⟨rfl,hq⟩;refine H_ ?_;(refine ct T_ ?_ ?_<;>intro h)
 · have ni:q < ws.length:=by have:=of_decide_eq_true h;omega
   have hg:=hr.get ni (by omega)
   have ho:=hg.one;have hle:=p6 ls (q+1);rw[nr (by omega),List.length_append] at hle
   refine H_ ?_;apply eK (j:=q);rfl;rfl;rfl;(focus exact List.getElem?_eq_getElem ni);(focus exact ho.2.2.2);refine H_ ?_;refine Le rfl hg ?_;refine H_ ?_;have e9:(((ls.take q).flatten.length:Nat):Int)+(ls[q].length:Nat)=((ls.take (q+1)).flatten.length:Nat):=by rw[nr (by omega),List.length_append];omega
   rw[e9,decide_eq_false (show ¬(((ls.take (q+1)).flatten.length:Nat):Int) < 0 by omega)]
   refine H_ ?_;refine dG (q+1) (by omega) ⟨rfl,ni⟩ ?_
   exact E_
 · have kF:q=ws.length:=by have:=of_decide_eq_false h;omega
   subst kF;refine H_ ?_;have e1:ls.take ws.length=ls:=by rw[hlen,List.take_length]
   rw[e1];(apply af;rfl);refine Iv L _ (by omega) X _ fun v Y hO h2 fY=>?_
   refine H_ ?_;refine aV (ak L) (fun(q:Nat×HV)=>[(0,.h (.sl tk 1 ws)),(6,.h q.2),(25,.h (.sl tk 1 ws)),(26,.h (I ws.length)),(27,.h (I q.1))]) (fun _=>[]) (fun q Y=>OB X Y q.2 (ls.take q.1).flatten∧Fr [] X Y∧q.1≤ws.length) (fun q=>ws.length - q.1) (0,v) ?_ ⟨by simpa using hO,fY,by omega⟩ ?_
   · exact E_
   rintro⟨q,u⟩ Z ⟨hO,fZ,hq⟩;dsimp only at hO hq ⊢;refine H_ ?_;(refine ct T_ ?_ ?_<;>intro h)
   · have ni:q < ws.length:=by have:=of_decide_eq_true h;omega
     have hg:=(hr.get ni (by omega)).fr fZ
     have ho:=hg.one;have hle:=p6 ls (q+1);rw[nr (by omega),List.length_append] at hle
     refine H_ ?_;apply eK (j:=q);rfl;rfl;rfl;(focus exact List.getElem?_eq_getElem ni);(focus exact ho.2.2.2);refine H_ ?_;refine fH hO fZ rfl rfl hg.mW (by omega) fun w W lO fW _=>?_
     rw[←nr (by omega)] at lO
     refine H_ ?_;refine dG (q+1,w) (by dsimp only;omega) ⟨lO,fW,ni⟩ ?_
     exact E_
   · have kF:q=ws.length:=by have:=of_decide_eq_false h;omega
     subst kF;rw[e1] at hO;refine H_ ?_;exact aa (hk _ _ hO fZ)
theorem Iw(L:ai code)(tk:Tk)(ws:List HV)(ls:List (List UInt8))(hn:ws.length≤1048576)(hs:ls.flatten.length≤1099511627776)(H:ab)(K:HV→ab→Prop)(hr:Iu H ws ls)(hk:∀v X,OB H X v ls.flatten→Fr [] H X→K v X):Spec L.P L.ν 447 [.sl tk 1 ws] H K:=by
 refine ah L EG rfl ?_;refine D_ ?_;refine zg L tk ws ls hn hs H _ hr fun v X hO fX=>?_;refine H_ ?_;exact aa (hk _ _ hO fX)
theorem nv(L:ai code)(n:Int)(h0:0≤n)(hn:n < 4611686018427387904):aU L 445 [I n] (.sl .full 1 ((cT n).map U)):=by
 intro H K hk;refine ah L EH rfl ?_;refine D_ ?_;refine Ix L n h0 hn H _ fun X fX=>?_;refine H_ ?_;exact aa (hk _ fX)
theorem Oj(n:Int):0≤dP n∧dP n≤8:=by unfold dP;repeat (first | omega | split)
theorem cW(n:Int):(cT n).length≤8:=by
 unfold cT;rw[tz];have:=Oj n;omega
def eV(s:List UInt8):List UInt8:=cT s.length++s
theorem qc{S':aJ}{sl:List (Nat×EV)}{bx:List (Nat×List HV)}{H0 H:ab}{K:Env→ab→Prop}{os:List aF}{d:Nat}{x y:bj}{w:HV}{l r:List UInt8}{tk:Tk}
   (hf:Fr [] H0 H) (hx:(M sl bx).hv x=some (.sl tk 1 (l.map U))) (JB:tk = .full) (hy:(M sl bx).hv y=some w) (hr:mW H 1 w=some (r.length,r.map U)) (hl:l.length+r.length≤140737488355328)
   (h:∀v' X,OB H0 X v' (l++r)→Fr [] H0 X→(r≠[]→vt v')→aj S' os (M ((d,.h v')::sl) bx) X K) :
   aj S' (⟨some d,.app 1 1 x y,none⟩::os) (M sl bx) H K:=by
 subst JB;exact fH (.inr (.inl rfl)) hf hx hy hr hl fun v' X a b c=>h v' X a b fun eJ=>c (.inr eJ)
theorem tC(L:ai code)(s:List UInt8)(hs:s.length≤1099511627776):aU L 446 [S s] (.sl .no 1 ((eV s).map U)):=by
 intro H K hk;refine Spec.dB ?_;refine ah L EI rfl ?_;refine D_ ?_;refine nv L s.length (by omega) (by omega) H _ fun X fX=>?_
 refine H_ ?_;refine qc fX rfl rfl rfl (Li s X) (by have:=cW (s.length:Int);omega) fun v Y hO fY _=>?_
 refine H_ ?_;exact aa (hO.dB fY fun Z fZ=>hk Z fZ)
theorem AaS{sl:List (Nat×EV)}{bx:List (Nat×List HV)}{t:Nat}{x y:EV}:M ((t,x)::(t,y)::sl) bx=M ((t,x)::sl) bx:=by
 have:∀s,(M ((t,x)::(t,y)::sl) bx).get s=(M ((t,x)::sl) bx).get s:=fun s=>by
   rw[gN,gN,gN];split<;>rfl
 have h2:lq ((t,x)::(t,y)::sl)=lq ((t,x)::sl):=funext this;simp only[M,h2]
theorem OB.vs{H X:ab}{v:HV}{l:List UInt8}{sl JE:List (Nat×EV)}{bx JF:List (Nat×List HV)}{t:Nat}(h:OB H X v l)(f:Fr [] H X)(hx:(M sl bx).get t=some (.h v))
   (h1:Ni JE (M sl bx)) (h2:leB JF (M sl bx)) (h3:uQ JF JE) :
   ∃Y,VS (M sl bx) X (M ((t,.h (.sl .no 1 (l.map U)))::JE) JF) Y∧Fr [] H Y:=by
 have hp:∀w:HV,uQ JF ((t,.h w)::JE):=fun w=>h3;have hw:∀{w:HV},an v w→VS (M sl bx) X (M ((t,.h w)::JE) JF) X:=fun {w} hw=>VS.le (bw (Lj hx hw h1) h2 (hp w));rcases h with⟨rfl,rfl⟩ | rfl | ⟨b,c,zs,rfl,hb,hX,hc,hm⟩;{exact⟨X,hw (an.dO 1),f⟩};{exact⟨X,hw (an.drop _ _ _),f⟩}
 · have h9:=Qw (sl:=(t,.h (.v (.slice (some ⟨b,0,none⟩) l.length c)))::JE) (bx:=JF) (t:=t) (sz:=1) (es:=l.map U) (by rw[gN,if_pos rfl]) hX (by rw[mD,Nat.mul_one,List.take_left' (by simp)]) (by simp) (by simp) (by omega) hm (Ol l) (Om l)
   rw[AaS] at h9;exact⟨_,(hw (an.refl _)).trans h9,f.dB hb⟩
theorem zh(L:ai code)(tk:Tk)(l:List UInt8)(hl:l.length≤1099511627776)(H:ab)(K:HV→ab→Prop)(hk:∀v X,OB H X v l→Fr [] H X→K v X):Spec L.P L.ν 186 [.sl tk 1 (l.map U)] H K:=by
 refine ah L rP rfl ?_;refine H_ ?_;refine rQ rfl fun t ht=>?_;cases t
 · refine H_ ?_;refine qc (l:=[]) (Fr.refl _ _) rfl rfl rfl (iK l _ _) (by simp;omega) fun v X hO fX _=>?_
   refine H_ ?_;exact aa (hk _ _ hO fX)
 · have hl:l=[]:=by simpa using ht rfl
   subst hl;refine H_ ?_;exact aa (hk _ _ (OB.nil _ _) (Fr.refl _ _))
def uR(l:List UInt8):Nat:=4294967295 ^^^ iJ 4294967295 l
theorem rV(l:List UInt8):uR l < 4294967296:=Nat.xor_lt_two_pow (n:=32) (by omega) (oT _ (by omega))
theorem lr(c:Nat):(By c).length=4:=rfl
def ej(l:List UInt8):List UInt8:=l++By (uR l)
theorem Iy(L:ai code)(tk:Tk)(l:List UInt8)(hl:l.length≤1048576):aU L 448 [.sl tk 1 (l.map U)] (.sl .no 1 ((ej l).map U)):=by
 intro H K hk;refine Spec.dB ?_;refine ah L EJ rfl ?_;refine D_ ?_;refine zh L _ l (by omega) H _ fun v X hO fX=>?_
 refine D_ ?_;refine Ex L _ l hl X _ fun Y fY=>?_;refine D_ ?_;refine tx L (uR l) (rV l) Y _ fun Z fZ=>?_;refine H_ ?_;refine fH (hO.fr (fY.trans fZ)) (fX.trans (fY.trans fZ)) rfl rfl (iK _ _ _) (by rw[lr];omega) fun w W lO fW _=>?_
 refine H_ ?_;exact aa (lO.dB fW fun _ f=>hk _ f)
theorem Bz(L:ai code)(tk:Tk)(l:List UInt8)(hl:l.length≤1048576):aU L 468 [.sl tk 1 (l.map U)] (.sl .no 1 ((ej l).map U)):=by
 intro H K hk;refine Spec.dB ?_;refine ah L EK rfl ?_;refine H_ ?_;refine qc (l:=[]) (Fr.refl _ _) rfl rfl rfl (iK l _ _) (by simp;omega) fun v X hO fX _=>?_
 refine D_ ?_;refine zf L _ l hl X _ fun Y fY=>?_;refine D_ ?_;refine qW L (uR l) (rV l) Y _ fun Z fZ=>?_;refine H_ ?_;refine fH (hO.fr (fY.trans fZ)) (fX.trans (fY.trans fZ)) rfl rfl (iK _ _ _) (by rw[lr];simp;omega) fun w W lO fW _=>?_
 refine H_ ?_;exact aa (lO.dB fW fun _ f=>hk _ f)
theorem lu(L:ai code)(n:Int)(h0:0≤n)(hn:n < 4611686018427387904)(H:ab)(K:HV→ab→Prop)(hk:∀v X,OB H X v (cT n)→Fr [] H X→K v X):Spec L.P L.ν 466 [I n] H K:=by
 refine ah L EL rfl ?_;refine D_ ?_;refine zi L n h0 hn H _ fun v X hO fX=>?_;refine H_ ?_;exact aa (hk _ _ hO fX)
theorem tD(L:ai code)(s:List UInt8)(hs:s.length≤1099511627776):aU L 467 [S s] (.sl .no 1 ((eV s).map U)):=by
 intro H K hk;refine Spec.dB ?_;refine ah L EM rfl ?_;refine D_ ?_;refine lu L s.length (by omega) (by omega) H _ fun u X hO fX=>?_
 refine H_ ?_;refine fH hO fX rfl rfl (Li s X) (by have:=cW (s.length:Int);omega) fun v Y hO fY _=>?_
 refine H_ ?_;exact aa (hO.dB fY fun Z fZ=>hk Z fZ)
def cv(l:List UInt8):List UInt8×Int:=if l.length < 4 then ([],3) else if By (uR (l.take (l.length - 4)))==l.drop (l.length - 4) then (l.take (l.length - 4),0) else ([],14)
theorem zj{l:List UInt8}(h:l.length < 4):cv l=([],3):=by rw[cv,if_pos h]
theorem zk{l:List UInt8}(h:¬l.length < 4):cv l=if By (uR (l.take (l.length - 4)))==l.drop (l.length - 4) then (l.take (l.length - 4),0) else ([],14):=by rw[cv,if_neg h]
theorem Iz(L:ai code)(tk:Tk)(l:List UInt8)(hl:l.length≤1048576):aU L 443 [.sl tk 1 (l.map U)] (.tu [.sl .no 1 ((cv l).1.map U),I (cv l).2]):=by
 intro H K hk;refine ah L EN rfl ?_;refine H_ ?_;cases c1:decide ((l.length:Int) - 4 < 0)
 · have h4:¬l.length < 4:=by have:=of_decide_eq_false c1;omega
   rw[zk h4] at hk;rw[show (l.length:Int) - 4=((l.length - 4:Nat):Int) by omega]
   have ht:(l.take (l.length - 4)).length≤1048576:=by rw[List.length_take];omega
   refine H_ ?_;refine oU rfl rfl (by omega) fun t1=>?_
   refine H_ ?_;refine rU rfl rfl (by omega) fun t2=>?_
   (apply af;rfl);refine Ex L _ _ ht H _ fun X fX=>?_;refine D_ ?_;refine tx L _ (rV (l.take (l.length - 4))) X _ fun Y fY=>?_;refine D_ ?_;refine beq_spec L .full t2 (By (uR (l.take (l.length - 4)))) (l.drop (l.length - 4)) Y _ ?_;cases c2:By (uR (l.take (l.length - 4)))==l.drop (l.length - 4);{rw[c2] at hk;refine H_ ?_;exact b7 (an.tu (show bo [.v (.slice none 0 0),I 14] [.sl .no 1 (([]:List UInt8).map U),I 14] from⟨an.dO 1,an.refl _,T_⟩)) (hk _ (fX.trans fY))}
   · rw[c2] at hk;refine H_ ?_;refine oU rfl rfl (by omega) fun t3=>?_
     refine D_ ?_;refine zl L _ (l.take (l.length - 4)) (by omega) Y _ fun Z fZ=>?_
     refine H_ ?_;exact aa (hk _ (fX.trans (fY.trans fZ)))
 · have h4:l.length < 4:=by have:=of_decide_eq_true c1;omega
   rw[zj h4] at hk;refine H_ ?_;exact b7 (an.tu (show bo [.v (.slice none 0 0),I 3] [.sl .no 1 (([]:List UInt8).map U),I 3] from⟨an.dO 1,an.refl _,T_⟩)) (hk _ (Fr.refl _ _))
theorem BA(L:ai code)(tk:Tk)(l:List UInt8)(hl:l.length≤1048576):aU L 470 [.sl tk 1 (l.map U)] (.tu [.sl .no 1 ((cv l).1.map U),I (cv l).2]):=by
 intro H K hk;refine Spec.dB ?_;refine ah L EO rfl ?_;refine H_ ?_;cases c1:decide ((l.length:Int) < 4)
 · have h4:¬l.length < 4:=by have:=of_decide_eq_false c1;omega
   rw[zk h4] at hk;have ht:(l.take (l.length - 4)).length≤1048576:=by rw[List.length_take];omega
   refine H_ ?_;rw[show (l.length:Int) - 4=((l.length - 4:Nat):Int) by omega]
   refine oU rfl rfl (by omega) fun t1=>?_
   refine H_ ?_;refine rU rfl rfl (by omega) fun t2=>?_
   refine H_ ?_;refine zm rfl ?_;refine D_ ?_;refine zf L _ _ ht H _ fun X fX=>?_;refine D_ ?_;refine qW L _ (rV (l.take (l.length - 4))) X _ fun Y fY=>?_;refine H_ ?_;refine zm rfl ?_;refine H_ ?_;cases c2:By (uR (l.take (l.length - 4)))==l.drop (l.length - 4);{rw[c2] at hk;rw[Bool.not_false];refine H_ ?_;refine aa (.inr (.inl ⟨_,an.tu (show bo [.v (.slice none 0 0),I 14] [.sl .no 1 (([]:List UInt8).map U),I 14] from⟨an.dO 1,an.refl _,T_⟩),hk _ (fX.trans fY)⟩))}
   · rw[c2] at hk;rw[Bool.not_true];refine H_ ?_;refine oU rfl rfl (by omega) fun t3=>?_
     refine H_ ?_;refine qc (l:=[]) (Fr.refl _ _) rfl rfl rfl (iK _ _ _) (by simp;omega) fun v Z hO fZ _=>?_
     refine H_ ?_;exact aa (hO.AaT fZ fun W fW=>hk _ (fX.trans (fY.trans fW)))
 · have h4:l.length < 4:=by have:=of_decide_eq_true c1;omega
   rw[zj h4] at hk;refine H_ ?_;refine aa (.inr (.inl ⟨_,an.tu (show bo [.v (.slice none 0 0),I 3] [.sl .no 1 (([]:List UInt8).map U),I 3] from⟨an.dO 1,an.refl _,T_⟩),hk _ (Fr.refl _ _)⟩))
end Sm
namespace Sm
open Go
def aw.isB:aw→Bool
 | .build _ _=>true
 | .load true _ _=>true
 | _=>false
theorem HP{S':aJ}{sl:List (Nat×EV)}{bx:List (Nat×List HV)}{H:ab}{K:Env→ab→Prop}{os:List aF}{d:Nat}{o:aw}{x:EV}(hc:o.calm=true)(hb:o.isB=false)(hv:o.ev (M sl bx) H=some x)(h:aj S' os (M ((d,x)::sl) bx) H K):aj S' (⟨some d,o,none⟩::os) (M sl bx) H K:=aG hc hv h
theorem gr{r p q:Prop}(c:r)(k:q)(h:r→uG q→p:=by (intro c k;(first | refine oN ?_ | refine Ht ?_ | refine se ?_ | (apply pB (ak _);rfl;(focus (simp only[List.map_cons,List.map_nil]<;>rfl))) | refine xR rfl ?_ | refine ax ?_ | refine C0 ?_ | refine s_n ?_ | refine s_r ?_ | refine VZ ?_ | (apply ay (agg:=false);rfl;rfl;(focus (simp only[c,nf,Nat.reduceAdd,Nat.reduceLeDiff]<;>rfl))) | (apply ed (agg:=false);rfl;(focus (simp only[c,nf,Nat.reduceAdd,Nat.reduceLeDiff]<;>rfl))) | (apply bz (agg:=false);rfl;(focus (first | assumption | (simp only[ab.aB];rfl) | (simp only[ab.aB,ab.cK,ne_eq,not_false_eq_true, *]<;>rfl)));(focus (simp only[c,nf,Nat.reduceAdd,Nat.reduceLeDiff]<;>rfl))) | (apply HA;rfl;(focus (first | (simp only[List.length_map,List.length_append,List.length_cons,List.length_nil,Nat.zero_add,Nat.reduceAdd]<;>rfl) | rfl))) | (apply eK;rfl;rfl;(focus (first | rfl | omega));(focus (first | exact gZ (by omega) | assumption | rfl | (simp only[gZ, *]<;>rfl)));(focus (simp only[c,nf,Nat.reduceAdd,Nat.reduceLeDiff]<;>rfl))) | (apply xU;rfl;(focus (first | (simp only[List.length_map,List.length_append,List.length_cons,List.length_nil,Nat.zero_add,Nat.reduceAdd]<;>rfl) | rfl))) | (apply qx;rfl;rfl;(focus (first | rfl | omega));(focus (first | assumption | exact List.getElem?_eq_getElem (by omega)))) | (apply HH;rfl;rfl;rfl;(focus (omega))) | (apply HI;rfl;rfl) | (apply HJ;rfl;rfl) | (apply HK;rfl;rfl) | (apply HL;rfl;rfl) | (apply HM;rfl) | (apply xV;rfl) | (apply HN;rfl) | (apply xW;rfl) | (apply HB;rfl;rfl;(focus (omega))) | (apply HC;rfl;rfl;(focus (omega))) | (apply HD;rfl;rfl;(focus (omega))) | (apply xS;rfl;(focus (omega))) | (apply HE;rfl;rfl;(focus (omega))) | (apply HF;rfl;rfl) | (apply HG;rfl;rfl) | (apply PO;rfl;rfl;(focus (simp only[eqv,eqs,nN,Option.isNone_some,Option.isNone_none,if_true,ite_true,beq_self_eq_true,Bool.and_true,Bool.true_and,reduceCtorEq]<;>rfl))) | (apply zo;rfl;rfl;(focus (simp only[eqv,eqs,nN,Option.isNone_some,Option.isNone_none,if_true,ite_true,beq_self_eq_true,Bool.and_true,Bool.true_and,reduceCtorEq]<;>rfl));(focus (simp only[Bool.not_true,Bool.not_false]<;>rfl))) | (apply Hy;rfl;(focus (simp only[Bool.not_true,Bool.not_false]<;>rfl))) | (apply Hz;rfl;rfl;(focus (simp only[ic,Int.cast_ofNat_Int,ite_true,if_true,c,Hq,Hr,beq_self_eq_true,bne_self_eq_false,Int.reduceBEq,Int.reduceBNe,Int.reduceLT,Int.reduceLE,Int.reduceGT,Int.reduceGE,decide_true,decide_false]<;>rfl))) | (apply pC;rfl;(focus (simp only[Bool.not_true,Bool.not_false]<;>rfl))) | (apply HP;rfl;rfl;rfl) | (apply pA;rfl) | (apply lv;rfl;(focus (simp only[Bool.not_true,Bool.not_false]<;>rfl));with_reducible (first | refine Hv ?_ | refine vE ?_ | refine Hw ?_ | refine Hx ?_)) | (apply uE;rfl;with_reducible (first | refine sd ?_ | refine pz ?_)) | (apply sg;rfl) | (apply ep;rfl;(focus (simp only[c,nf,Nat.reduceAdd,Nat.reduceLeDiff]<;>rfl));(focus (simp only[c,nf,Nat.reduceAdd,Nat.reduceLeDiff]<;>rfl));(focus (simp only[c,nf,Nat.reduceAdd,Nat.reduceLeDiff]<;>rfl));rfl) | (apply mq;rfl;(focus (simp only[c,nf,Nat.reduceAdd,Nat.reduceLeDiff]<;>rfl));(focus (simp only[c,nf,Nat.reduceAdd,Nat.reduceLeDiff]<;>rfl))) | (apply xT;rfl) | refine oc ?_ | (apply ee;rfl;(focus (first | exact AG rfl rfl | exact tU rfl rfl | (apply nA;rfl;(focus (first | assumption | (simp only[ab.aB];rfl) | (simp only[ab.aB,ab.cK,ne_eq,not_false_eq_true, *]<;>rfl)));(focus (simp only[c,nf,Nat.reduceAdd,Nat.reduceLeDiff]<;>rfl));rfl) | (intro h;cases h)))) | refine sR ?_ | refine U9 ?_ | refine b_r ?_ | refine Wb ?_ | (apply b_x;rfl) | refine V9 ?_ | refine k_r ?_ | refine j_e ?_ | refine j_r ?_ | refine xQ ?_ | refine tf ?_ | refine Hu ?_ | (apply OI;rfl) | (apply f_r;rfl));exact k.out)):p:=h c ⟨k⟩
theorem gs{r p q:Prop}(c:r)(k:q)(h:r→uG q→p:=by (intro c k;(first | refine M8 ?_ | refine M9 ?_ | refine Zq ?_ | refine Ht ?_ | refine se ?_ | (apply pB (ak _);rfl;(focus (simp only[List.map_cons,List.map_nil]<;>rfl))) | refine xR rfl ?_ | refine ax ?_ | refine C0 ?_ | refine s_n ?_ | refine s_r ?_ | refine VZ ?_ | (apply ay (agg:=false);rfl;rfl;(focus (simp only[c,nf,Nat.reduceAdd,Nat.reduceLeDiff]<;>rfl))) | (apply ed (agg:=false);rfl;(focus (simp only[c,nf,Nat.reduceAdd,Nat.reduceLeDiff]<;>rfl))) | (apply bz (agg:=false);rfl;(focus (first | assumption | (simp only[ab.aB];rfl) | (simp only[ab.aB,ab.cK,ne_eq,not_false_eq_true, *]<;>rfl)));(focus (simp only[c,nf,Nat.reduceAdd,Nat.reduceLeDiff]<;>rfl))) | (apply HA;rfl;(focus (first | (simp only[List.length_map,List.length_append,List.length_cons,List.length_nil,Nat.zero_add,Nat.reduceAdd]<;>rfl) | rfl))) | (apply eK;rfl;rfl;(focus (first | rfl | omega));(focus (first | exact gZ (by omega) | assumption | rfl | (simp only[gZ, *]<;>rfl)));(focus (simp only[c,nf,Nat.reduceAdd,Nat.reduceLeDiff]<;>rfl))) | (apply xU;rfl;(focus (first | (simp only[List.length_map,List.length_append,List.length_cons,List.length_nil,Nat.zero_add,Nat.reduceAdd]<;>rfl) | rfl))) | (apply qx;rfl;rfl;(focus (first | rfl | omega));(focus (first | assumption | exact List.getElem?_eq_getElem (by omega)))) | (apply HH;rfl;rfl;rfl;(focus (omega))) | (apply HI;rfl;rfl) | (apply HJ;rfl;rfl) | (apply HK;rfl;rfl) | (apply HL;rfl;rfl) | (apply HM;rfl) | (apply xV;rfl) | (apply HN;rfl) | (apply xW;rfl) | (apply HB;rfl;rfl;(focus (omega))) | (apply HC;rfl;rfl;(focus (omega))) | (apply HD;rfl;rfl;(focus (omega))) | (apply xS;rfl;(focus (omega))) | (apply HE;rfl;rfl;(focus (omega))) | (apply HF;rfl;rfl) | (apply HG;rfl;rfl) | (apply PO;rfl;rfl;(focus (simp only[eqv,eqs,nN,Option.isNone_some,Option.isNone_none,if_true,ite_true,beq_self_eq_true,Bool.and_true,Bool.true_and,reduceCtorEq]<;>rfl))) | (apply zo;rfl;rfl;(focus (simp only[eqv,eqs,nN,Option.isNone_some,Option.isNone_none,if_true,ite_true,beq_self_eq_true,Bool.and_true,Bool.true_and,reduceCtorEq]<;>rfl));(focus (simp only[Bool.not_true,Bool.not_false]<;>rfl))) | (apply Hy;rfl;(focus (simp only[Bool.not_true,Bool.not_false]<;>rfl))) | (apply Hz;rfl;rfl;(focus (simp only[ic,Int.cast_ofNat_Int,ite_true,if_true,c,Hq,Hr,beq_self_eq_true,bne_self_eq_false,Int.reduceBEq,Int.reduceBNe,Int.reduceLT,Int.reduceLE,Int.reduceGT,Int.reduceGE,decide_true,decide_false]<;>rfl))) | (apply pC;rfl;(focus (simp only[Bool.not_true,Bool.not_false]<;>rfl))) | (apply HP;rfl;rfl;rfl) | (apply pA;rfl) | (apply lv;rfl;(focus (simp only[Bool.not_true,Bool.not_false]<;>rfl));with_reducible (first | refine Hv ?_ | refine vE ?_ | refine Hw ?_ | refine Hx ?_)) | (apply uE;rfl;with_reducible (first | refine sd ?_ | refine pz ?_)) | (apply sg;rfl) | (apply ep;rfl;(focus (simp only[c,nf,Nat.reduceAdd,Nat.reduceLeDiff]<;>rfl));(focus (simp only[c,nf,Nat.reduceAdd,Nat.reduceLeDiff]<;>rfl));(focus (simp only[c,nf,Nat.reduceAdd,Nat.reduceLeDiff]<;>rfl));rfl) | (apply mq;rfl;(focus (simp only[c,nf,Nat.reduceAdd,Nat.reduceLeDiff]<;>rfl));(focus (simp only[c,nf,Nat.reduceAdd,Nat.reduceLeDiff]<;>rfl))) | (apply xT;rfl) | refine oc ?_ | (apply ee;rfl;(focus (first | exact AG rfl rfl | exact tU rfl rfl | (apply nA;rfl;(focus (first | assumption | (simp only[ab.aB];rfl) | (simp only[ab.aB,ab.cK,ne_eq,not_false_eq_true, *]<;>rfl)));(focus (simp only[c,nf,Nat.reduceAdd,Nat.reduceLeDiff]<;>rfl));rfl) | (intro h;cases h)))) | refine sR ?_ | refine U9 ?_ | refine b_r ?_ | refine Wb ?_ | (apply b_x;rfl) | refine V9 ?_ | refine k_r ?_ | refine j_e ?_ | refine j_r ?_ | refine xQ ?_ | refine tf ?_ | refine Hu ?_ | (apply OI;rfl) | (apply f_r;rfl));exact k.out)):p:=h c ⟨k⟩
theorem G_{p q:Prop}(k:q)(h:uG q→p:=by (intro k;(repeat refine gr T_ ?_);exact k.out)):p:=h ⟨k⟩
theorem C_{p q:Prop}(k:q)(h:uG q→p:=by (intro k;(repeat refine gr T_ ?_);(apply af;rfl);exact k.out)):p:=h ⟨k⟩
theorem I_{p q:Prop}(k:q)(h:uG q→p:=by (intro k;(repeat refine gs T_ ?_);exact k.out)):p:=h ⟨k⟩
end Sm
set_option maxHeartbeats 4000000
namespace Sm
open Go
structure Rc where
 kind:UInt8
 id:Int
 path:List UInt8
 sum:List UInt8
 size:Int
 off:Int
deriving DecidableEq
structure Pt where
 id:Int
 path:List UInt8
 sum:List UInt8
 size:Int
 off:Int
deriving DecidableEq
structure ek where
 parts:List Pt
 next:Int
deriving DecidableEq
def fq(s:List UInt8):List HV:=[U (s.getD 0 0),U (s.getD 1 0),U (s.getD 2 0),U (s.getD 3 0),U (s.getD 4 0),U (s.getD 5 0),U (s.getD 6 0),U (s.getD 7 0),U (s.getD 8 0),U (s.getD 9 0),U (s.getD 10 0),U (s.getD 11 0),U (s.getD 12 0),U (s.getD 13 0),U (s.getD 14 0),U (s.getD 15 0),U (s.getD 16 0),U (s.getD 17 0),U (s.getD 18 0),U (s.getD 19 0),U (s.getD 20 0),U (s.getD 21 0),U (s.getD 22 0),U (s.getD 23 0),U (s.getD 24 0),U (s.getD 25 0),U (s.getD 26 0),U (s.getD 27 0),U (s.getD 28 0),U (s.getD 29 0),U (s.getD 30 0),U (s.getD 31 0)]
theorem oi(s:List UInt8):fq s=(List.range 32).map fun i=>U (s.getD i 0):=rfl
theorem On{s:List UInt8}(h:s.length=32):fq s=s.map U:=by
 rw[oi];refine List.ext_getElem (by simp[h]) fun i h1 h2=>?_
 have h3:i < s.length:=by simpa using h2
 simp[List.getD,h3]
def dE(r:Rc):List HV:=[U r.kind,I r.id,S r.path,U (r.sum.getD 0 0),U (r.sum.getD 1 0),U (r.sum.getD 2 0),U (r.sum.getD 3 0),U (r.sum.getD 4 0),U (r.sum.getD 5 0),U (r.sum.getD 6 0),U (r.sum.getD 7 0),U (r.sum.getD 8 0),U (r.sum.getD 9 0),U (r.sum.getD 10 0),U (r.sum.getD 11 0),U (r.sum.getD 12 0),U (r.sum.getD 13 0),U (r.sum.getD 14 0),U (r.sum.getD 15 0),U (r.sum.getD 16 0),U (r.sum.getD 17 0),U (r.sum.getD 18 0),U (r.sum.getD 19 0),U (r.sum.getD 20 0),U (r.sum.getD 21 0),U (r.sum.getD 22 0),U (r.sum.getD 23 0),U (r.sum.getD 24 0),U (r.sum.getD 25 0),U (r.sum.getD 26 0),U (r.sum.getD 27 0),U (r.sum.getD 28 0),U (r.sum.getD 29 0),U (r.sum.getD 30 0),U (r.sum.getD 31 0),I r.size,I r.off]
def bc(r:Rc):HV:=.ag (dE r)
def hU(r:Pt):List HV:=[I r.id,S r.path,U (r.sum.getD 0 0),U (r.sum.getD 1 0),U (r.sum.getD 2 0),U (r.sum.getD 3 0),U (r.sum.getD 4 0),U (r.sum.getD 5 0),U (r.sum.getD 6 0),U (r.sum.getD 7 0),U (r.sum.getD 8 0),U (r.sum.getD 9 0),U (r.sum.getD 10 0),U (r.sum.getD 11 0),U (r.sum.getD 12 0),U (r.sum.getD 13 0),U (r.sum.getD 14 0),U (r.sum.getD 15 0),U (r.sum.getD 16 0),U (r.sum.getD 17 0),U (r.sum.getD 18 0),U (r.sum.getD 19 0),U (r.sum.getD 20 0),U (r.sum.getD 21 0),U (r.sum.getD 22 0),U (r.sum.getD 23 0),U (r.sum.getD 24 0),U (r.sum.getD 25 0),U (r.sum.getD 26 0),U (r.sum.getD 27 0),U (r.sum.getD 28 0),U (r.sum.getD 29 0),U (r.sum.getD 30 0),U (r.sum.getD 31 0),I r.size,I r.off]
def bB(r:Pt):HV:=.ag (hU r)
def uS(n:Int):Bool:=decide (0≤n)&&decide (n≤65536)
def jB(k:UInt8)(o:Int):Int:=bif uS o then bif o != 0 then (bif (k.toNat:Int) != 1 then 4 else 0) else 0 else 13
def mE(p:List UInt8)(z:Int):Int:=bif dq p != 0 then dq p else bif IA p pre then 6 else bif uS z then 0 else 13
def VJ:List UInt8:=List.replicate 32 0
def uT(a b:List UInt8):Bool:=[0,1,2,3,4,5,6,7,8,9,10,11,12,13,14,15,16,17,18,19,20,21,22,23,24,25,26,27,28,29,30,31].all fun i=>a.getD i 0==b.getD i 0
def mF(r:Rc):Bool:=r.path==[]&&(uT r.sum []&&r.size==0)
def cz(r:Rc):Int:=bif decide (4 < (r.kind.toNat:Int)) then 2 else bif decide (r.id < 0) then 2 else bif decide (1099511627776 < r.id) then 2 else
 bif (r.kind.toNat:Int)==0 then (bif mE r.path r.size != 0 then mE r.path r.size else jB r.kind r.off) else bif mF r then jB r.kind r.off else 4
def Oo(a b:Rc):Bool:=a.kind==b.kind&&(a.id==b.id&&(a.path==b.path&&(uT a.sum b.sum&&(a.size==b.size&&a.off==b.off))))
def ptB(a b:Pt):Bool:=a.id==b.id&&(a.path==b.path&&(uT a.sum b.sum&&(a.size==b.size&&a.off==b.off)))
def zn(r:Rc):Rc:=⟨r.kind,r.id,[],[],0,r.off⟩
theorem IB(r:Rc):Oo r (zn r)=mF r:=by simp[Oo,zn,mF]
theorem Ueq(a b:UInt8):((a.toNat:Int)==b.toNat)=(a==b):=by
 rw[Bool.eq_iff_iff,beq_iff_eq,beq_iff_eq,Int.ofNat_inj,UInt8.toNat_inj]
theorem AaU(a b:List UInt8):((⟨a.toArray⟩:ByteArray)==⟨b.toArray⟩)=(a==b):=by
 show (a.toArray==b.toArray)=_;simp
theorem Oq(a b:Rc):eqv (.ag [.i,.i,.s,.i,.i,.i,.i,.i,.i,.i,.i,.i,.i,.i,.i,.i,.i,.i,.i,.i,.i,.i,.i,.i,.i,.i,.i,.i,.i,.i,.i,.i,.i,.i,.i,.i,.i]) (bc a) (bc b)=some (Oo a b):=by
 simp only[eqv,bc,dE,nN,eqs,if_true,Ueq,AaU,Oo,uT,List.all_cons,List.all_nil,Bool.and_true,Bool.and_assoc]
theorem Lk(a b:Pt):eqv (.ag [.i,.s,.i,.i,.i,.i,.i,.i,.i,.i,.i,.i,.i,.i,.i,.i,.i,.i,.i,.i,.i,.i,.i,.i,.i,.i,.i,.i,.i,.i,.i,.i,.i,.i,.i,.i]) (bB a) (bB b)=some (ptB a b):=by
 simp only[eqv,bB,hU,nN,eqs,if_true,Ueq,AaU,ptB,uT,List.all_cons,List.all_nil,Bool.and_true,Bool.and_assoc]
theorem EP(a b:List UInt8):eqv (.ag [.i,.i,.i,.i,.i,.i,.i,.i,.i,.i,.i,.i,.i,.i,.i,.i,.i,.i,.i,.i,.i,.i,.i,.i,.i,.i,.i,.i,.i,.i,.i,.i]) (.ag (fq a)) (.ag (fq b))=some (uT a b):=by
 simp only[eqv,fq,nN,eqs,if_true,Ueq,uT,List.all_cons,List.all_nil,Bool.and_true,Bool.and_assoc]
theorem tE{cs ys:List HV}(h:ys.length=cs.length):bu cs 0 ys=ys:=by
 have:∀(ys A:List HV) (cs:List HV),ys.length=cs.length→bu (A++cs) A.length ys=A++ys:=by
   intro ys
   induction ys with
   | nil=>intro A cs h;have:cs=[]:=List.eq_nil_of_length_eq_zero h.symm;subst this;rfl
   | cons y ys ih =>
     intro A cs h;cases cs with
     | nil=>cases h
     | cons c cs =>
       have:=ih (A++[y]) cs (by simpa using h)
       simp only[bu];simpa using this
 exact this ys [] cs h
theorem av{S':aJ}{sl:List (Nat×EV)}{bx:List (Nat×List HV)}{H:ab}{K:Env→ab→Prop}{os:List aF}{n k:Nat}{a x:bj}{v:HV}{cs bI:List HV}(hx:(M sl bx).hv x=some v)(h1:v.aN=n)(h2:v.el=true)(ha:(M sl bx).fg a=some (.lp k 0))(hk:(M sl bx).box k=some cs)(hl:cs.length=n)(hc:v.cells=bI)(hn:bI.length=n)
   (h:aj S' os (M sl ((k,bI)::bx)) H K):aj S' (⟨none,.store n a x,none⟩::os) (M sl bx) H K:=
 bS hx h1 h2 ha hk (by rw[hl,Nat.zero_add];exact Nat.ble_eq_true_of_le (Nat.le_refl _)) (by subst hc;exact tE (by rw[hn,hl])) h
attribute [local irreducible] aH aj aX bk aA aL bn DK RK JK BR G3 bh Spec Tok Fr CV
theorem tF(L:ai code)(n:Int):Pure L 413 [I n] (B (uS n)):=by
 intro H K hk;refine ah L ER rfl ?_;refine H_ ?_;(refine gt T_ ?_ ?_<;>intro h);{have h1:0≤n:=of_decide_eq_true h;refine H_ ?_;refine aa ?_;simpa[uS,h1,eQ] using hk};{have h1:¬0≤n:=of_decide_eq_false h;refine H_ ?_;refine aa ?_;simpa[uS,h1,eQ] using hk}
theorem qd(L:ai code)(n:Int):Pure L 451 [I n] (B (uS n)):=by
 intro H K hk;refine ah L ES rfl ?_;refine H_ ?_;(refine gt T_ ?_ ?_<;>intro h);{have h1:0≤n:=of_decide_eq_true h;refine H_ ?_;refine aa ?_;simpa[uS,h1,eQ] using hk};{have h1:¬0≤n:=of_decide_eq_false h;refine H_ ?_;refine aa ?_;simpa[uS,h1,eQ] using hk}
theorem IC(L:ai code)(r:Rc)(hp:r.path.length≤1048576):aU L 412 [bc r] (I (mE r.path r.size)):=by
 intro H K hk;refine ah L ET rfl ?_;refine H_ ?_;refine ep (v:=bc r) (cs:=dE r) rfl rfl rfl rfl rfl ?_;refine D_ ?_;refine qR L r.path hp H _ fun X fX=>?_;unfold mE at hk;refine H_ ?_;cases c1:dq r.path != 0
 · rw[c1] at hk;refine D_ ?_;refine Ll L r.path X _ ?_;refine H_ ?_;cases c2:IA r.path pre
   · rw[c2] at hk;refine D_ ?_;refine tF L r.size X _ ?_;cases c3:uS r.size
     all_goals
       rw[c3] at hk;refine H_ ?_;exact aa (hk _ fX)
   · rw[c2] at hk;refine H_ ?_;exact aa (hk _ fX)
 · rw[c1] at hk;refine H_ ?_;exact aa (hk _ fX)
theorem mG(L:ai code)(r:Rc)(hp:r.path.length≤1048576):aU L 384 [bc r] (I (cz r)):=by
 intro H K hk;unfold cz at hk;refine ah L EU rfl ?_;refine G_ ?_;refine ep (v:=bc r) (cs:=dE r) rfl rfl rfl rfl rfl ?_;refine G_ ?_;refine aG (x:=.h (bc (zn r))) rfl rfl ?_;refine G_ ?_;refine av (bI:=dE (zn r)) rfl rfl rfl rfl rfl rfl rfl rfl ?_;refine G_ ?_;cases c1:decide (4 < (r.kind.toNat:Int))
 · rw[c1] at hk;refine G_ ?_;cases c2:decide (r.id < 0)
   · rw[c2] at hk;refine G_ ?_;cases c3:decide (1099511627776 < r.id)
     · rw[c3] at hk;refine G_ ?_;cases c4:(r.kind.toNat:Int)==0
       · rw[c4] at hk;refine G_ ?_;refine ay (v:=bc r) rfl rfl rfl ?_;refine ay (v:=bc (zn r)) rfl rfl rfl ?_;refine zo (t:=mF r) rfl rfl ((Oq _ _).trans (by rw[IB])) rfl ?_
         cases c5:mF r;{rw[c5] at hk;rw[Bool.not_false];refine G_ ?_;exact aa (hk _ (Fr.refl _ _))}
         · rw[c5] at hk;rw[Bool.not_true];refine C_ ?_;refine tF L r.off _ _ ?_;unfold jB at hk;cases c6:uS r.off;{rw[c6] at hk;refine G_ ?_;exact aa (hk _ (Fr.refl _ _))}
           · rw[c6] at hk;refine G_ ?_;cases c7:r.off != 0;{rw[c7] at hk;refine G_ ?_;exact aa (hk _ (Fr.refl _ _))}
             · rw[c7] at hk;refine G_ ?_;cases c8:(r.kind.toNat:Int) != 1
               all_goals
                 rw[c8] at hk;refine G_ ?_;exact aa (hk _ (Fr.refl _ _))
       · rw[c4] at hk;refine G_ ?_;refine ay (v:=bc r) rfl rfl rfl ?_;(apply af;rfl);refine IC L r hp H _ fun X fX=>?_;refine G_ ?_;cases c5:mE r.path r.size != 0
         · rw[c5] at hk;refine C_ ?_;refine tF L r.off _ _ ?_;unfold jB at hk;cases c6:uS r.off;{rw[c6] at hk;refine G_ ?_;exact aa (hk _ fX)}
           · rw[c6] at hk;refine G_ ?_;cases c7:r.off != 0;{rw[c7] at hk;refine G_ ?_;exact aa (hk _ fX)}
             · rw[c7] at hk;refine G_ ?_;cases c8:(r.kind.toNat:Int) != 1
               all_goals
                 rw[c8] at hk;refine G_ ?_;exact aa (hk _ fX)
         · rw[c5] at hk;refine G_ ?_;exact aa (hk _ fX)
     · rw[c3] at hk;refine G_ ?_;exact aa (hk _ (Fr.refl _ _))
   · rw[c2] at hk;refine G_ ?_;exact aa (hk _ (Fr.refl _ _))
 · rw[c1] at hk;refine G_ ?_;exact aa (hk _ (Fr.refl _ _))
theorem w8(L:ai code)(r:Rc)(hp:r.path.length≤1048576):aU L 438 [bc r] (I (cz r)):=by
 intro H K hk;unfold cz mE at hk;refine ah L EW rfl ?_;refine G_ ?_;refine ep (v:=bc r) (cs:=dE r) rfl rfl rfl rfl rfl ?_;refine G_ ?_;cases c1:decide (4 < (r.kind.toNat:Int))
 · rw[c1] at hk;refine G_ ?_;cases c2:decide (r.id < 0)
   · rw[c2] at hk;refine G_ ?_;cases c3:decide (1099511627776 < r.id)
     · rw[c3] at hk;refine G_ ?_;cases c4:(r.kind.toNat:Int)==0
       · rw[c4] at hk;unfold mF at hk;refine G_ ?_;cases c5:r.path==[];{rw[c5] at hk;rw[Bool.not_false];refine G_ ?_;exact aa (hk _ (Fr.refl _ _))}
         · rw[c5] at hk;rw[Bool.not_true];refine G_ ?_;apply ay (v:=.ag (fq r.sum));rfl;rfl;rfl;apply lv;rfl;rfl;refine vE ?_;refine aG (x:=.h (.ag (fq []))) rfl rfl ?_;apply lv;rfl;rfl;refine vE ?_;cases c6:uT r.sum []
           · rw[c6] at hk;refine zo (t:=false) (t':=true) rfl rfl ((EP _ _).trans (by rw[c6])) rfl ?_
             refine G_ ?_;exact aa (hk _ (Fr.refl _ _))
           · rw[c6] at hk;refine zo (t:=true) (t':=false) rfl rfl ((EP _ _).trans (by rw[c6])) rfl ?_
             refine G_ ?_;cases c7:r.size==0;{rw[c7] at hk;rw[show (r.size != 0)=!(r.size==0) from rfl,c7,Bool.not_false];refine G_ ?_;exact aa (hk _ (Fr.refl _ _))}
             · rw[c7] at hk;rw[show (r.size != 0)=!(r.size==0) from rfl,c7,Bool.not_true];refine C_ ?_;refine qd L r.off _ _ ?_;unfold jB at hk;cases d6:uS r.off;{rw[d6] at hk;refine G_ ?_;exact aa (hk _ (Fr.refl _ _))}
               · rw[d6] at hk;refine G_ ?_;cases d7:r.off != 0;{rw[d7] at hk;refine G_ ?_;exact aa (hk _ (Fr.refl _ _))}
                 · rw[d7] at hk;refine G_ ?_;cases d8:(r.kind.toNat:Int) != 1
                   all_goals
                     rw[d8] at hk;refine G_ ?_;exact aa (hk _ (Fr.refl _ _))
       · rw[c4] at hk;refine C_ ?_;refine mu L r.path hp H _ fun X fX=>?_;refine G_ ?_;cases c5:dq r.path != 0
         · rw[c5] at hk;refine C_ ?_;refine ID L r.path X _ ?_;cases c6:IA r.path pre
           · rw[c6] at hk;refine C_ ?_;refine qd L r.size X _ ?_;cases c7:uS r.size;{rw[c7] at hk;refine G_ ?_;exact aa (hk _ fX)}
             · rw[c7] at hk;refine C_ ?_;refine qd L r.off _ _ ?_;unfold jB at hk;cases d6:uS r.off;{rw[d6] at hk;refine G_ ?_;exact aa (hk _ fX)}
               · rw[d6] at hk;refine G_ ?_;cases d7:r.off != 0;{rw[d7] at hk;refine G_ ?_;exact aa (hk _ fX)}
                 · rw[d7] at hk;refine G_ ?_;cases d8:(r.kind.toNat:Int) != 1
                   all_goals
                     rw[d8] at hk;refine G_ ?_;exact aa (hk _ fX)
           · rw[c6] at hk;refine G_ ?_;exact aa (hk _ fX)
         · rw[c5] at hk;refine G_ ?_;have:=hk X fX;rw[show (bif true then dq r.path else bif IA r.path pre then 6 else bif uS r.size then 0 else 13)=dq r.path from rfl,c5] at this;exact aa this
     · rw[c3] at hk;refine G_ ?_;exact aa (hk _ (Fr.refl _ _))
   · rw[c2] at hk;refine G_ ?_;exact aa (hk _ (Fr.refl _ _))
 · rw[c1] at hk;refine G_ ?_;exact aa (hk _ (Fr.refl _ _))
end Sm
namespace Sm
open Go
def iS(s:List UInt8):List UInt8:=[s.getD 0 0,s.getD 1 0,s.getD 2 0,s.getD 3 0,s.getD 4 0,s.getD 5 0,s.getD 6 0,s.getD 7 0,s.getD 8 0,s.getD 9 0,s.getD 10 0,s.getD 11 0,s.getD 12 0,s.getD 13 0,s.getD 14 0,s.getD 15 0,s.getD 16 0,s.getD 17 0,s.getD 18 0,s.getD 19 0,s.getD 20 0,s.getD 21 0,s.getD 22 0,s.getD 23 0,s.getD 24 0,s.getD 25 0,s.getD 26 0,s.getD 27 0,s.getD 28 0,s.getD 29 0,s.getD 30 0,s.getD 31 0]
def dA(r:Rc):List UInt8:=bif (r.kind.toNat:Int)==0 then eV r.path++iS r.sum++cT r.size else bif (r.kind.toNat:Int)==1 then cT r.off else []
def aW(r:Rc):List UInt8:=r.kind::cT r.id++dA r
def ft(r:Rc):List UInt8:=eV (ej (aW r))
def cY(r:Rc):List UInt8×Int:=bif cz r != 0 then ([],cz r) else (ft r,0)
theorem eW{r:Rc}(h:cz r=0):r.kind.toNat≤4∧0≤r.id∧r.id≤1099511627776∧r.path.length≤128∧0≤r.size∧r.size≤65536∧0≤r.off∧r.off≤65536:=by
 unfold cz at h;have yP:jB r.kind r.off=0→0≤r.off∧r.off≤65536:=fun h=>by
   unfold jB uS at h;cases c:(decide (0≤r.off)&&decide (r.off≤65536));{rw[c] at h;cases h};{simpa using c}
 cases c1:decide (4 < (r.kind.toNat:Int))
 · cases c2:decide (r.id < 0)
   · cases c3:decide (1099511627776 < r.id)
     · rw[c1,c2,c3] at h;have c1:=of_decide_eq_false c1;have c2:=of_decide_eq_false c2;have c3:=of_decide_eq_false c3;cases c4:(r.kind.toNat:Int)==0;{rw[c4] at h;cases c5:mF r;{rw[c5] at h;cases h};{rw[c5] at h;have h:=yP h;simp only[mF,Bool.and_eq_true,beq_iff_eq] at c5;rw[c5.1,c5.2.2];exact⟨by omega,by omega,by omega,by simp,by omega,by omega,h.1,h.2⟩}}
       · rw[c4] at h;cases c5:mE r.path r.size != 0
         · rw[c5] at h;have h:=yP h;have c5:mE r.path r.size=0:=by simpa using c5
           unfold mE at c5;cases d1:dq r.path != 0
           · rw[d1] at c5;have d1:dq r.path=0:=by simpa using d1
             cases d2:IA r.path pre
             · rw[d2] at c5;cases d3:uS r.size;{rw[d3] at c5;cases c5}
               · simp only[uS,Bool.and_eq_true,decide_eq_true_eq] at d3;refine⟨by omega,by omega,by omega,?_,d3.1,d3.2,h.1,h.2⟩
                 unfold dq at d1
                 by_cases h9:128 < r.path.length
                 · rw[if_pos h9] at d1;cases d1
                 · omega
             · rw[d2] at c5;cases c5
           · rw[d1] at c5;have c5:dq r.path=0:=c5;rw[c5] at d1;cases d1
         · rw[c5] at h;have h:mE r.path r.size=0:=h;rw[h] at c5;cases c5
     · rw[c1,c2,c3] at h;cases h
   · rw[c1,c2] at h;cases h
 · rw[c1] at h;cases h
theorem kG{S':aJ}{sl:List (Nat×EV)}{bx:List (Nat×List HV)}{H:ab}{K:Env→ab→Prop}{os:List aF}{d:Nat}{cs:List HV}(h:∀b X,H b=none→X b=some (.obj cs)→Fr [] H X→aj S' os (M ((d,.h (ptr b))::sl) bx) X K):aj S' (⟨some d,.alloc none cs,none⟩::os) (M sl bx) H K:=
 oI fun b hb=>h b _ hb (ab.aB _ _ _) (Fr.new hb)
theorem vF{S':aJ}{sl:List (Nat×EV)}{bx:List (Nat×List HV)}{H:ab}{K:Env→ab→Prop}{os:List aF}{n b:Nat}{a x:bj}{v:HV}{cs bI:List HV}(hx:(M sl bx).hv x=some v)(h1:v.aN=n)(h2:v.el=true)(ha:(M sl bx).fg a=some (.h (ptr b)))(hk:H b=some (.obj cs))(hl:cs.length=n)(hc:v.cells=bI)(hn:bI.length=n)
   (h:∀X,X b=some (.obj bI)→Fr [b] H X→aj S' os (M sl bx) X K):aj S' (⟨none,.store n a x,none⟩::os) (M sl bx) H K:=
 tG hx h1 h2 ha hk (by rw[hl,Nat.zero_add];exact Nat.ble_eq_true_of_le (Nat.le_refl _)) (by subst hc;exact tE (by rw[hn,hl])) (h _ (ab.aB _ _ _) (Fr.set (by simp)))
def rC:HV→List Nat
 | .v (.slice (some a) _ _)=>[a.block]
 | _=>[]
theorem OB.AaV{H X:ab}{v:HV}{l:List UInt8}(h:OB H X v l){a:Nat}(ha:X a=none):a∉rC v:=by
 rcases h with⟨rfl,rfl⟩ | rfl | ⟨b,c,zs,rfl,_,hX,_⟩;{simp[rC]};{simp[rC]};{simp only[rC,List.mem_singleton];rintro rfl;rw[ha] at hX;cases hX}
theorem VK{S':aJ}{sl:List (Nat×EV)}{bx:List (Nat×List HV)}{H0 H:ab}{K:Env→ab→Prop}{os:List aF}{d:Nat}{x y:bj}{v w:HV}{l r:List UInt8}
   (hG:OB H0 H v l) (hf:Fr [] H0 H) (hx:(M sl bx).hv x=some v) (hy:(M sl bx).hv y=some w) (hr:mW H 1 w=some (r.length,r.map U)) (hl:l.length+r.length≤140737488355328)
   (h:∀v' X,OB H0 X v' (l++r)→Fr [] H0 X→(vt v∨r≠[]→vt v')→Fr (rC v) H X→aj S' os (M ((d,.h v')::sl) bx) X K) :
   aj S' (⟨some d,.app 1 1 x y,none⟩::os) (M sl bx) H K:=by
 rw[bf];simp only[aw.step,hx,hy];refine .inr ?_;have fin:∀v' X,OB H0 X v' (l++r)→Fr [] H0 X→(vt v∨r≠[]→vt v')→Fr (rC v) H X→rK S' os K (some d) (.h v') (M sl bx) X:=fun v' X g1 g2 g3 g4=>by rw[cu,dp];exact h v' X g1 g2 g3 g4
 have up:∀{X:ab},Fr [] H X→Fr (rC v) H X:=fun f a r' _ hr=>f a r' (by simp) hr
 have new:∀(c0:Nat) (cs:List HV),cs=(l++r).map U→iC H 1 1 (l.length+r.length) cs fun a X=>rK S' os K (some d) (.h a) (M sl bx) X:=fun c0 cs kQ=>⟨by omega,fun b c zs hb h1 h2 h3 h4=>by
   subst kQ;refine fin _ _ (.inr (.inr ⟨b,c,zs,by rw[List.length_append],?_,ab.aB _ _ _,by rw[List.length_append,h3];omega,h2⟩)) (hf.trans (Fr.new hb)) (fun _=>trivial) (up (Fr.new hb))
   exact hf.bM hb⟩
 unfold nW;rw[hr];simp only;rcases hG with⟨rfl,rfl⟩ | rfl | ⟨b,c,zs,rfl,hb,hX,hc,hm⟩
 · refine⟨fun h0=>?_,fun h0=>by have:=new 0 _ rfl;rw[List.length_nil,Nat.zero_add] at this;exact this⟩
   have:r=[]:=List.eq_nil_of_length_eq_zero h0;subst this;exact fin _ _ (OB.nil _ _) hf (fun _=>trivial) (up (Fr.refl _ _))
 · refine⟨rfl,fun h0=>?_,fun h0=>?_⟩;{have:r=[]:=List.eq_nil_of_length_eq_zero h0;subst this;exact fin _ _ (.inr (.inl (by rw[List.append_nil]))) hf (fun h=>h.elim id fun h=>absurd rfl h) (up (Fr.refl _ _))};{have:=new 0 _ rfl;rw[List.length_map,mD,←List.map_append];exact this}
 · refine⟨_,hX,by omega,by simp;omega,fun gm=>?_,fun gm=>?_⟩
   · have e:bu (l.map U++zs) (0+l.length*1) (r.map U)=(l++r).map U++zs.drop r.length:=by
       rw[Nat.zero_add,Nat.mul_one,List.map_append];have h2:=gD (A:=l.map U) (X:=zs.take r.length) (Y:=r.map U) (Z:=zs.drop r.length) (i:=l.length) (by simp) (by simp;omega)
       rw[List.append_assoc,List.take_append_drop] at h2;exact h2
     refine fin _ _ (.inr (.inr ⟨b,c,zs.drop r.length,by rw[List.length_append],hb,by rw[ab.aB,e],by rw[List.length_append,List.length_drop];omega,hm⟩)) ?_ ?_ ?_
     · exact hf.own hb (Fr.set (by simp))
     · exact fun _=>trivial
     · exact Fr.set (by simp[rC])
   · have e:((l.map U++zs).drop 0).take (l.length*1)++r.map U=(l++r).map U:=by
       rw[List.drop_zero,Nat.mul_one,List.take_left' (by simp),List.map_append]
     exact new 0 _ e
theorem oj{r:Rc}(h:r.path.length≤128):(aW r).length≤1000:=by
 have l0:=cW r.id;have l1:=cW r.size;have l2:=cW r.off;have l3:=cW (r.path.length:Int);have l4:(iS r.sum).length=32:=rfl;have:(dA r).length≤300:=by
   unfold dA;cases (r.kind.toNat:Int)==0<;>cases (r.kind.toNat:Int)==1<;>simp only[cond_true,cond_false,eV,List.length_append,List.length_nil]<;>omega
 simp only[aW,List.length_append,List.length_cons];omega
attribute [local irreducible] aH aj aX bk aA aL bn DK RK JK BR G3 bh Spec Tok Fr CV
theorem zp(L:ai code)(r:Rc)(hp:r.path.length≤1048576):aU L 432 [bc r] (.tu [.sl .no 1 ((cY r).1.map U),I (cY r).2]):=by
 intro H K hk;refine ah L EX rfl ?_;unfold cY at hk;refine I_ ?_;refine kU (v:=bc r) (cs:=dE r) rfl rfl rfl rfl fun b X hb hX fX sX=>?_;refine I_ ?_;refine oN ?_;refine I_ ?_;apply bz (v:=bc r);rfl;(focus exact hX);rfl;(apply af;rfl);refine mG L r hp X _ fun Y fY=>?_;have hY:Y b=some (.obj (dE r)):=fY.get (by simp) hX
 refine I_ ?_;cases c1:cz r != 0
 · rw[c1] at hk;have c1:cz r=0:=by simpa using c1
   obtain⟨k1,k2,k3,k4,k5,k6,k7,k8⟩:=eW c1;refine I_ ?_;(apply af;rfl);refine nv L r.id (by omega) (by omega) Y _ fun Z fZ=>?_
   have hZ:Z b=some (.obj (dE r)):=fZ.get (by simp) hY
   have l0:=cW r.id;refine I_ ?_;refine qc (H0:=Z) (l:=[r.kind]) (Fr.refl _ _) rfl rfl rfl (iK _ _ _) (by simp;omega) fun v W hO fW Mf=>?_
   have hW:W b=some (.obj (dE r)):=fW.get (by simp) hZ
   have pF:Fr [] H Z:=fX.trans (fY.trans fZ);refine I_ ?_;refine EY (ak L) (fun(w:HV)=>[(5,.h w)]) (fun _=>[]) (fun w V=>OB H V w (aW r)∧Fr [] H V) ?_ ?_
   · refine I_ ?_;cases c2:(r.kind.toNat:Int)==0
     · have e0:dA r=bif (r.kind.toNat:Int)==1 then cT r.off else []:=by rw[dA,c2];rfl
       refine I_ ?_;cases c3:(r.kind.toNat:Int)==1
       · rw[c3] at e0;have e1:[r.kind]++cT r.id=aW r:=by rw[aW,e0];simp
         refine I_ ?_;rw[e1] at hO;refine lU v ⟨hO.up pF,pF.trans fW⟩ ?_;exact E_
       · rw[c3] at e0;have e1:[r.kind]++cT r.id++cT r.off=aW r:=by rw[aW,e0];simp
         have l1:=cW r.off;refine I_ ?_;(apply af;rfl);refine nv L r.off (by omega) (by omega) W _ fun V fV=>?_
         refine I_ ?_;refine fH (hO.fr fV) (fW.trans fV) rfl rfl (iK _ _ _) (by simp;omega) fun v' V' je VL _=>?_
         rw[e1] at je;refine I_ ?_;refine lU v' ⟨je.up pF,pF.trans VL⟩ ?_;exact E_
     · have e0:dA r=eV r.path++iS r.sum++cT r.size:=by rw[dA,c2];rfl
       have e1:[r.kind]++cT r.id++[eV r.path,iS r.sum,cT r.size].flatten=aW r:=by rw[aW,e0];simp
       have l1:=cW r.size;have l2:=cW (r.path.length:Int);have l3:(eV r.path).length≤136:=by rw[eV,List.length_append];omega
       have l4:(iS r.sum).length=32:=rfl;have l5:[eV r.path,iS r.sum,cT r.size].flatten.length≤200:=by simp only[List.flatten_cons,List.flatten_nil,List.length_append,List.length_nil];omega
       refine I_ ?_;(apply af;rfl);refine tC L r.path (by omega) W _ fun V fV=>?_
       have hV:V b=some (.obj (dE r)):=fV.get (by simp) hW
       refine I_ ?_;(apply af;rfl);refine nv L r.size (by omega) (by omega) V _ fun V2 Nj=>?_
       refine I_ ?_;have hV2:V2 b=some (.obj (dE r)):=(fV.trans Nj).get (by simp) hW
       have hR:Iu V2 [.sl .no 1 ((eV r.path).map U),.v (.slice (some ⟨b,3,none⟩) 32 32),.sl .full 1 ((cT r.size).map U)] [eV r.path,iS r.sum,cT r.size]:=
         ⟨RB.sl _ _ _,.inr (.inr ⟨b,3,32,dE r,rfl,hV2,(by show 35≤37;omega),rfl⟩),RB.sl _ _ _,T_⟩
       (apply af;rfl);refine Iw L _ _ _ (by show 3≤1048576;omega) (by omega) V2 _ hR fun w V3 Lm VM=>?_
       refine I_ ?_;have f3:=(fV.trans Nj).trans VM;refine fH (hO.fr f3) (fW.trans f3) rfl rfl (w9 Lm) (by simp only[List.length_append,List.length_cons,List.length_nil];omega) fun v' V' je VL _=>?_
       rw[e1] at je;refine I_ ?_;refine lU v' ⟨je.up pF,pF.trans VL⟩ ?_;exact E_
   · rintro w V0 ⟨hO,f0⟩;have lb:(aW r).length≤1000:=oj k4;obtain⟨V,hv,fV⟩:=hO.vs (sl:=[(5,.h w)]) (bx:=[]) (t:=5) (JE:=[]) (JF:=[]) f0 rfl T_ T_ (by simp[uQ])
     refine⟨_,V,hv,?_⟩;refine C_ ?_;refine Iy L _ (aW r) (by omega) V _ fun V2 Nj=>?_
     refine C_ ?_;refine tC L (ej (aW r)) (by rw[ej,List.length_append,lr];omega) V2 _ fun V3 VM=>?_
     refine G_ ?_;exact aa (hk _ (fV.trans (Nj.trans VM)))
 · rw[c1] at hk;refine G_ ?_;refine b7 (an.tu (show bo [.v (.slice none 0 0),I (cz r)] [.sl .no 1 (([]:List UInt8).map U),I (cz r)] from⟨an.dO 1,an.refl _,T_⟩)) (hk _ (fX.trans fY))
theorem pb(L:ai code)(r:Rc)(hp:r.path.length≤1048576):aU L 450 [bc r] (.tu [.sl .no 1 ((cY r).1.map U),I (cY r).2]):=by
 intro H K hk;refine ah L EZ rfl ?_;unfold cY at hk;refine I_ ?_;refine ep (v:=bc r) (cs:=dE r) rfl rfl rfl rfl rfl ?_;refine I_ ?_;apply ay (v:=bc r);rfl;rfl;rfl;(apply af;rfl);refine w8 L r hp H _ fun Y fY=>?_;refine I_ ?_;refine oN ?_;refine I_ ?_;cases c1:cz r != 0
 · rw[c1] at hk;have c1:cz r=0:=by simpa using c1
   obtain⟨k1,k2,k3,k4,k5,k6,k7,k8⟩:=eW c1;refine I_ ?_;(apply af;rfl);refine lu L r.id (by omega) (by omega) Y _ fun u Z hu fZ=>?_
   have l0:=cW r.id;refine I_ ?_;refine qc (H0:=Z) (l:=[r.kind]) (Fr.refl _ _) rfl rfl rfl (w9 hu) (by simp;omega) fun v W hO fW Mf=>?_
   have pF:Fr [] H Z:=fY.trans fZ;refine I_ ?_;refine EY (ak L) (fun(w:HV)=>[(5,.h w)]) (fun _=>[]) (fun w V=>OB H V w (aW r)∧Fr [] H V) ?_ ?_
   · refine I_ ?_;cases c2:(r.kind.toNat:Int)==0
     · have e0:dA r=bif (r.kind.toNat:Int)==1 then cT r.off else []:=by rw[dA,c2];rfl
       refine I_ ?_;cases c3:(r.kind.toNat:Int)==1
       · rw[c3] at e0;have e1:[r.kind]++cT r.id=aW r:=by rw[aW,e0];simp
         refine I_ ?_;rw[e1] at hO;refine lU v ⟨hO.up pF,pF.trans fW⟩ ?_;exact E_
       · rw[c3] at e0;have e1:[r.kind]++cT r.id++cT r.off=aW r:=by rw[aW,e0];simp
         have l1:=cW r.off;refine I_ ?_;(apply af;rfl);refine lu L r.off (by omega) (by omega) W _ fun u2 V CJ fV=>?_
         refine I_ ?_;refine fH (hO.fr fV) (fW.trans fV) rfl rfl (w9 CJ) (by simp;omega) fun v' V' je VL _=>?_
         rw[e1] at je;refine I_ ?_;refine lU v' ⟨je.up pF,pF.trans VL⟩ ?_;exact E_
     · have e0:dA r=eV r.path++iS r.sum++cT r.size:=by rw[dA,c2];rfl
       have e1:[r.kind]++cT r.id++eV r.path++iS r.sum++cT r.size=aW r:=by rw[aW,e0];simp
       have l1:=cW r.size;have l2:=cW (r.path.length:Int);have l3:(eV r.path).length≤136:=by rw[eV,List.length_append];omega
       have l4:(iS r.sum).length=32:=rfl;refine I_ ?_;apply ay (v:=.ag (fq r.sum));rfl;rfl;rfl;refine kG fun a V ha hV fV=>?_;refine vF (v:=.ag (fq r.sum)) (bI:=fq r.sum) rfl rfl rfl rfl hV rfl rfl rfl fun V1 hV1 fV1=>?_;have f1:Fr [] W V1:=fV.own ha fV1;refine I_ ?_;(apply af;rfl);refine tD L r.path (by omega) V1 _ fun V2 Nj=>?_
       have hV2:V2 a=some (.obj (fq r.sum)):=Nj.get (by simp) hV1
       refine I_ ?_;refine VK (hO.fr (f1.trans Nj)) (fW.trans (f1.trans Nj)) rfl rfl (iK _ _ _) (by simp only[List.length_append,List.length_cons,List.length_nil];omega) fun v3 V3 Lm VM _ g3=>?_
       have hV3:V3 a=some (.obj (fq r.sum)):=g3.get (hO.AaV ha) hV2;have hR:RB V3 (.v (.slice (some ⟨a,0,none⟩) 32 32)) (iS r.sum):=.inr (.inr ⟨a,0,32,_,rfl,hV3,(by show 32≤32;omega),rfl⟩)
       refine I_ ?_;refine fH Lm VM rfl rfl hR.mW (by simp only[List.length_append,List.length_cons,List.length_nil];omega) fun v4 V4 hO4 fV4 _=>?_
       refine I_ ?_;(apply af;rfl);refine lu L r.size (by omega) (by omega) V4 _ fun u5 V5 hu5 fV5=>?_
       refine I_ ?_;refine fH (hO4.fr fV5) (fV4.trans fV5) rfl rfl (w9 hu5) (by simp only[List.length_append,List.length_cons,List.length_nil];omega) fun v' V' je VL _=>?_
       rw[e1] at je;refine I_ ?_;refine lU v' ⟨je.up pF,pF.trans VL⟩ ?_;exact E_
   · rintro w V0 ⟨hO,f0⟩;have lb:(aW r).length≤1000:=oj k4;obtain⟨V,hv,fV⟩:=hO.vs (sl:=[(5,.h w)]) (bx:=[]) (t:=5) (JE:=[]) (JF:=[]) f0 rfl T_ T_ (by simp[uQ])
     refine⟨_,V,hv,?_⟩;refine C_ ?_;refine Bz L _ (aW r) (by omega) V _ fun V2 Nj=>?_
     refine C_ ?_;refine tD L (ej (aW r)) (by rw[ej,List.length_append,lr];omega) V2 _ fun V3 VM=>?_
     refine G_ ?_;exact aa (hk _ (fV.trans (Nj.trans VM)))
 · rw[c1] at hk;refine G_ ?_;refine b7 (an.tu (show bo [.v (.slice none 0 0),I (cz r)] [.sl .no 1 (([]:List UInt8).map U),I (cz r)] from⟨an.dO 1,an.refl _,T_⟩)) (hk _ (fY))
end Sm
namespace Sm
open Go
theorem Rd.BB(r:Rd)(m:Int):(r.num m).1.b.length≤r.b.length:=by
 unfold Rd.num
 repeat (first | (simp only[List.length_drop];omega) | exact Nat.le_refl _ | split)
theorem Rd.xb(r:Rd)(m:Int):(r.raw m).1.b.length≤r.b.length:=by
 unfold Rd.raw
 repeat (first | (simp only[List.length_drop];omega) | exact Nat.le_refl _ | split)
theorem Rd.Ot(r:Rd)(m:Int):(r.raw m).2.length≤r.b.length:=by
 unfold Rd.raw
 repeat (first | (simp only[List.length_take];omega) | exact Nat.zero_le _ | split)
theorem Rd.Qx(r:Rd):(r.raw 32).2=[]∨(r.raw 32).2.length=32:=by
 unfold Rd.raw;split;{exact .inl rfl};{split;{exact .inl rfl};{split;{exact .inl rfl};{right;simp only[List.length_take];omega}}}
theorem Rd.rW(r:Rd)(m:Int):(r.text m).1.b.length≤r.b.length∧(r.text m).2.length≤r.b.length:=by
 unfold Rd.text;split;{exact⟨Nat.le_refl _,Nat.zero_le _⟩};{split;{exact⟨Nat.le_refl _,Nat.zero_le _⟩};{have h1:=Rd.xb ⟨r.b.drop (bC r.b m).2.1.toNat,0⟩ (bC r.b m).1;have h2:=Rd.Ot ⟨r.b.drop (bC r.b m).2.1.toNat,0⟩ (bC r.b m).1;simp only[List.length_drop] at h1 h2;omega}}
theorem Rd.xe(r:Rd):r.byte.1.b.length≤r.b.length:=Rd.xb r 1
def cD(b:List UInt8):Rc×Rd:=
 let k:=(Rd.mk b 0).byte
 let i:=k.1.num 1099511627776
 bif (k.2.toNat:Int)==0 then
   let p:=i.1.text 128
   let s:=p.1.raw 32
   let z:=s.1.num 65536
   (⟨k.2,i.2,p.2,s.2,z.2,0⟩,z.1)
 else bif (k.2.toNat:Int)==1 then
   let o:=i.1.num 65536
   (⟨k.2,i.2,[],[],0,o.2⟩,o.1)
 else (⟨k.2,i.2,[],[],0,0⟩,i.1)
def jT(b:List UInt8):Rc×Bool:=((cD b).1,(cD b).2.done==0&&cz (cD b).1==0)
theorem ny(r:Rc):dE r=[U r.kind,I r.id,S r.path]++(fq r.sum++[I r.size,I r.off]):=rfl
theorem Ln{r:Rc}{s:List UInt8}(h0:r.sum=[])(hs:s=[]∨s.length=32):bu (dE r) 3 ((s.map U).take (min s.length 32*1))=dE { r with sum:=s }:=by
 rcases hs with rfl | hs
 · have e:(([]:List UInt8).map U).take (min ([]:List UInt8).length 32*1)=[]:=by simp
   have e2:({ r with sum:=[] }:Rc)=r:=by cases r;cases h0;rfl
   rw[e,e2];simp only[bu]
 · have e:(s.map U).take (min s.length 32*1)=s.map U:=List.take_of_length_le (by simp[hs])
   rw[e,ny,ny,←On hs,←List.append_assoc,←List.append_assoc];exact gD (by simp only[List.length_cons,List.length_nil]) (by simp only[fq,List.length_cons,List.length_nil])
theorem Lo{s:List UInt8}{q:Nat}(hq:q < s.length)(h32:q < 32):(fq (s.take q)).set q (U s[q])=fq (s.take (q+1)):=by
 rw[oi,oi];refine List.ext_getElem (by simp) fun i h1 h2=>?_
 have h3:i < 32:=by simpa using h2
 rw[List.getElem_set];simp only[List.getElem_map,List.getElem_range];split
 · next h=>subst h;congr 1;simp[List.getD,List.getElem?_take,hq]
 · next h =>
   congr 1;simp only[List.getD,List.getElem?_take]
   by_cases h4:i < q
   · rw[if_pos h4,if_pos (by omega)]
   · rw[if_neg h4,if_neg (by omega)]
theorem IE{cs:List HV}{i:Nat}{v:HV}:bu cs i [v]=cs.set i v:=by simp only[bu]
theorem Lp{k:UInt8}{i z o:Int}{p s:List UInt8}{q:Nat}(hq:q < s.length)(h32:q < 32):bu (dE ⟨k,i,p,s.take q,z,o⟩) (3+q) [U s[q]]=dE ⟨k,i,p,s.take (q+1),z,o⟩:=by
 rw[IE,ny,ny,List.set_append_right _ _ (by simp)]
 simp only[List.length_cons,List.length_nil];rw[show 3+q - (0+1+1+1)=q by omega,List.set_append_left _ _ (by show q < 32;exact h32),Lo hq h32]
theorem Ou{S':aJ}{sl:List (Nat×EV)}{bx:List (Nat×List HV)}{H:ab}{K:Env→ab→Prop}{os:List aF}{d n k off:Nat}{a i:bj}{q:Nat}
   (ha:(M sl bx).fg a=some (.lp k off)) (hi:(M sl bx).hv i=some (I q)) (hq:q < n) (h:aj S' os (M ((d,.lp k (off+q))::sl) bx) H K) :
   aj S' (⟨some d,.sH n 1 a i,none⟩::os) (M sl bx) H K:=by
 refine aG rfl ?_ h;simp only[aw.ev,ha,hi];rw[if_pos (by omega)]
 simp
attribute [local irreducible] aH aj aX bk aA aL bn DK RK JK BR G3 bh Spec Tok Fr CV RD
theorem RD.fr{X Y:ab}{p:Nat}{r:Rd}{bs:List Nat}(h:RD X p r)(f:Fr bs X Y)(hp:p∉bs):RD Y p r:=by
 unfold RD at h ⊢;obtain⟨tk,h⟩:=h;exact⟨tk,f.get hp h⟩
theorem RD.ne{X:ab}{p a:Nat}{r:Rd}(h:RD X p r)(ha:X a=none):a≠p:=by
 unfold RD at h;obtain⟨tk,h⟩:=h;rintro rfl;rw[ha] at h;cases h
theorem tH{l:List UInt8}{kk:Rd×UInt8}{ii:Rd×Int}(h1:(Rd.mk l 0).byte=kk)(h2:kk.1.num 1099511627776=ii):cD l =
   (bif (kk.2.toNat:Int)==0 then ((⟨kk.2,ii.2,(ii.1.text 128).2,((ii.1.text 128).1.raw 32).2,(((ii.1.text 128).1.raw 32).1.num 65536).2,0⟩:Rc),(((ii.1.text 128).1.raw 32).1.num 65536).1)
   else bif (kk.2.toNat:Int)==1 then (⟨kk.2,ii.2,[],[],0,(ii.1.num 65536).2⟩,(ii.1.num 65536).1)
   else (⟨kk.2,ii.2,[],[],0,0⟩,ii.1)):=by
 unfold cD;dsimp only;rw[h1,h2]
theorem BC(L:ai code)(tk:Tk)(l:List UInt8)(hl:l.length≤1048576):aU L 444 [.sl tk 1 (l.map U)] (.tu [bc (jT l).1,B (jT l).2]):=by
 intro H K hk;refine ah L E0 rfl ?_;refine I_ ?_;(apply af;rfl);refine IF L tk l H _ fun p X hp hD fX=>?_;refine I_ ?_;(apply af;rfl);refine BD L p _ hl X hD _ fun Y hDY fY=>?_;generalize gF:(Rd.mk l 0).byte=kk at *;have l1:kk.1.b.length≤1048576:=by rw[←gF];exact Nat.le_trans (Rd.xe _) hl
 refine I_ ?_;(apply af;rfl);refine qe L p _ _ l1 Y hDY _ fun Z ZM fZ=>?_;generalize Lq:kk.1.num 1099511627776=ii at *;have l2:ii.1.b.length≤1048576:=by rw[←Lq];exact Nat.le_trans (Rd.BB _ _) l1
 have hB:=tH gF Lq;refine I_ ?_;refine aG (x:=.h (bc ⟨kk.2,ii.2,[],[],0,0⟩)) rfl rfl ?_;refine I_ ?_;refine kG fun a V ha hV fV=>?_;refine I_ ?_;refine vF (v:=bc ⟨kk.2,ii.2,[],[],0,0⟩) (bI:=dE ⟨kk.2,ii.2,[],[],0,0⟩) rfl rfl rfl rfl hV rfl rfl rfl fun V1 hV1 fV1=>?_;have Ov:a≠p:=ZM.ne ha;have pF:Fr [] H Z:=(fX.own hp fY).own hp fZ;have fHV:Fr [] H V1:=(pF.trans fV).own (pF.bM ha) fV1;have hDV:RD V1 p ii.1:=(ZM.fr fV (by simp)).fr fV1 (by simp[Ov.symm])
 have NZ:H a=none:=pF.bM ha;refine I_ ?_;refine fS (ak L) (fun(_:Unit)=>[(2,.lp 0 0),(4,.h (ptr p)),(5,.h (ptr a))]) (fun _=>[(0,dE ⟨0,0,[],[],0,0⟩)]) (fun _ W=>W a=some (.obj (dE (cD l).1))∧RD W p (cD l).2∧Fr [] H W) ?_ ?_
 · refine I_ ?_;cases c2:(kk.2.toNat:Int)==0
   · rw[c2] at hB;refine I_ ?_;cases c3:(kk.2.toNat:Int)==1
     · rw[c3] at hB;refine I_ ?_;refine lU () ⟨by rw[hB];exact hV1,by rw[hB];exact hDV,fHV⟩ ?_
       exact E_
     · rw[c3] at hB;refine I_ ?_;(apply af;rfl);refine qe L p _ _ l2 V1 hDV _ fun W hDW fW=>?_;have hW:W a=some (.obj (dE ⟨kk.2,ii.2,[],[],0,0⟩)):=fW.get (by simp[Ov]) hV1
       refine I_ ?_;refine bH (bI:=dE ⟨kk.2,ii.2,[],[],0,(ii.1.num 65536).2⟩) rfl rfl rfl rfl hW rfl rfl fun W2 Nk Nl=>?_;refine I_ ?_;refine lU () ⟨by rw[hB];exact Nk,by rw[hB];exact hDW.fr Nl (by simp[Ov.symm]),(fHV.own hp fW).own NZ Nl⟩ ?_
       exact E_
   · rw[c2] at hB;refine I_ ?_;(apply af;rfl);refine BE L p _ _ l2 V1 hDV _ fun W hDW fW=>?_;have hW:W a=some (.obj (dE ⟨kk.2,ii.2,[],[],0,0⟩)):=fW.get (by simp[Ov]) hV1
     have l3:(ii.1.text 128).1.b.length≤1048576:=Nat.le_trans (Rd.rW _ _).1 l2;generalize (ii.1.text 128)=tt at *;refine I_ ?_;refine bH (bI:=dE ⟨kk.2,ii.2,tt.2,[],0,0⟩) rfl rfl rfl rfl hW rfl rfl fun W2 Nk Nl=>?_;have Adx:=hDW.fr Nl (by simp[Ov.symm])
     refine I_ ?_;(apply af;rfl);refine qf L p _ _ l3 W2 Adx _ fun W3 Ady fW3=>?_;have VN:W3 a=some (.obj (dE ⟨kk.2,ii.2,tt.2,[],0,0⟩)):=fW3.get (by simp[Ov]) Nk
     have l4:(tt.1.raw 32).1.b.length≤1048576:=Nat.le_trans (Rd.xb _ _) l3;have hs:=Rd.Qx tt.1;generalize (tt.1.raw 32)=ss at *;refine I_ ?_;apply Ow;rfl;(focus exact Li _ _);(focus exact VN);(focus (show 35≤37;omega));intro W4 BF fW4;have BF:W4 a=some (.obj (dE ⟨kk.2,ii.2,tt.2,ss.2,0,0⟩)):=by
       rw[←Ln (r:=⟨kk.2,ii.2,tt.2,[],0,0⟩) rfl hs];exact BF
     have Adz:=Ady.fr fW4 (by simp[Ov.symm])
     refine I_ ?_;(apply af;rfl);refine qe L p _ _ l4 W4 Adz _ fun W5 AdA fW5=>?_;have hW5:W5 a=some (.obj (dE ⟨kk.2,ii.2,tt.2,ss.2,0,0⟩)):=fW5.get (by simp[Ov]) BF
     generalize (ss.1.num 65536)=zz at *;refine I_ ?_;refine bH (bI:=dE ⟨kk.2,ii.2,tt.2,ss.2,zz.2,0⟩) rfl rfl rfl rfl hW5 rfl rfl fun W6 ZP fW6=>?_;refine I_ ?_;refine lU () ⟨by rw[hB];exact ZP,by rw[hB];exact AdA.fr fW6 (by simp[Ov.symm]),(((((fHV.own hp fW).own NZ Nl).own hp fW3).own NZ fW4).own hp fW5).own NZ fW6⟩ ?_
     exact E_
 · rintro _ W ⟨hW,hDW,fW⟩;have Jv:(cD l).1.path.length≤1048576:=by
     rw[hB];cases (kk.2.toNat:Int)==0;{cases (kk.2.toNat:Int)==1<;>exact Nat.zero_le _};{exact Nat.le_trans (Rd.rW _ _).2 l2}
   unfold jT at hk;generalize cD l=bb at *;refine I_ ?_;apply bz (v:=bc bb.1);rfl;(focus exact hW);rfl;refine I_ ?_;(apply af;rfl);refine BG L p bb.2 W hDW _ ?_;refine I_ ?_;cases c5:bb.2.done==0;{rw[c5] at hk;refine I_ ?_;refine av (v:=bc bb.1) (bI:=dE bb.1) rfl rfl rfl rfl rfl rfl rfl rfl ?_;refine I_ ?_;exact aa (hk _ fW)}
   · rw[c5] at hk;refine I_ ?_;apply bz (v:=bc bb.1);rfl;(focus exact hW);rfl;refine I_ ?_;(apply af;rfl);refine mG L bb.1 Jv W _ fun W2 Nl=>?_;have Nk:W2 a=some (.obj (dE bb.1)):=Nl.get (by simp) hW
     refine I_ ?_;refine av (v:=bc bb.1) (bI:=dE bb.1) rfl rfl rfl rfl rfl rfl rfl rfl ?_;refine I_ ?_;exact aa (hk _ (fW.trans Nl))
theorem zq(L:ai code)(tk0:Tk)(l:List UInt8)(hl:l.length≤1048576):aU L 471 [.sl tk0 1 (l.map U)] (.tu [bc (cD l).1,B ((cD l).2.done==0)]):=by
 intro H K hk;refine eM (show bo [.sl tk0 1 (l.map U)] [.sl .no 1 (l.map U)] from⟨an.drop _ _ _,T_⟩) ?_;refine ah L E1 rfl ?_;refine I_ ?_;refine aG (x:=.h (pG ⟨l,0⟩)) rfl rfl ?_;(apply af;rfl);refine BH L _ hl H _ fun Y fY=>?_;generalize gF:(Rd.mk l 0).byte=kk at *;have l1:kk.1.b.length≤1048576:=by rw[←gF];exact Nat.le_trans (Rd.xe _) hl
 refine I_ ?_;refine av (v:=pG kk.1) (bI:=[.sl .no 1 (kk.1.b.map U),I kk.1.e]) rfl rfl rfl rfl rfl rfl rfl rfl ?_;refine I_ ?_;refine aG (x:=.h (bc ⟨kk.2,0,[],[],0,0⟩)) rfl rfl ?_;refine I_ ?_;refine av (v:=bc ⟨kk.2,0,[],[],0,0⟩) (bI:=dE ⟨kk.2,0,[],[],0,0⟩) rfl rfl rfl rfl rfl rfl rfl rfl ?_;refine I_ ?_;apply ay (v:=pG kk.1);rfl;rfl;rfl;(apply af;rfl);refine nz L _ _ l1 Y _ fun Z fZ=>?_;generalize Lq:kk.1.num 1099511627776=ii at *;have l2:ii.1.b.length≤1048576:=by rw[←Lq];exact Nat.le_trans (Rd.BB _ _) l1
 have hB:=tH gF Lq;refine I_ ?_;refine av (v:=pG ii.1) (bI:=[.sl .no 1 (ii.1.b.map U),I ii.1.e]) rfl rfl rfl rfl rfl rfl rfl rfl ?_;refine I_ ?_;refine bS (bI:=dE ⟨kk.2,ii.2,[],[],0,0⟩) rfl rfl rfl rfl rfl rfl rfl ?_;refine I_ ?_;refine fS (ak L) (fun(_:Unit)=>[(2,.lp 0 0),(4,.lp 1 0),(6,.lp 2 0)]) (fun _=>[(0,dE ⟨0,0,[],[],0,0⟩),(1,[.sl .no 1 ((cD l).2.b.map U),I (cD l).2.e]),(2,dE (cD l).1)]) (fun _ W=>Fr [] H W) ?_ ?_
 · refine I_ ?_;cases c2:(kk.2.toNat:Int)==0;{rw[c2] at hB;refine I_ ?_;cases c3:(kk.2.toNat:Int)==1;{rw[c3] at hB;refine I_ ?_;refine lU () (fY.trans fZ) ?_;rw[hB];exact E_};{rw[c3] at hB;refine I_ ?_;apply ay (v:=pG ii.1);rfl;rfl;rfl;(apply af;rfl);refine nz L _ _ l2 Z _ fun W fW=>?_;generalize (ii.1.num 65536)=zz at *;refine I_ ?_;refine av (v:=pG zz.1) (bI:=[.sl .no 1 (zz.1.b.map U),I zz.1.e]) rfl rfl rfl rfl rfl rfl rfl rfl ?_;refine I_ ?_;refine bS (bI:=dE ⟨kk.2,ii.2,[],[],0,zz.2⟩) rfl rfl rfl rfl rfl rfl rfl ?_;refine I_ ?_;refine lU () (fY.trans (fZ.trans fW)) ?_;rw[hB];exact E_}}
   · rw[c2] at hB;refine I_ ?_;apply ay (v:=pG ii.1);rfl;rfl;rfl;(apply af;rfl);refine BI L _ _ l2 Z _ fun W fW=>?_;have l3:(ii.1.text 128).1.b.length≤1048576:=Nat.le_trans (Rd.rW _ _).1 l2;generalize (ii.1.text 128)=tt at *;refine I_ ?_;refine av (v:=pG tt.1) (bI:=[.sl .no 1 (tt.1.b.map U),I tt.1.e]) rfl rfl rfl rfl rfl rfl rfl rfl ?_;refine I_ ?_;refine bS (bI:=dE ⟨kk.2,ii.2,tt.2,[],0,0⟩) rfl rfl rfl rfl rfl rfl rfl ?_;refine I_ ?_;apply ay (v:=pG tt.1);rfl;rfl;rfl;(apply af;rfl);refine qg L _ _ l3 W _ fun W3 fW3=>?_;have l4:(tt.1.raw 32).1.b.length≤1048576:=Nat.le_trans (Rd.xb _ _) l3;have hs:=Rd.Qx tt.1;generalize (tt.1.raw 32)=ss at *;refine I_ ?_;refine av (v:=pG ss.1) (bI:=[.sl .no 1 (ss.1.b.map U),I ss.1.e]) rfl rfl rfl rfl rfl rfl rfl rfl ?_;refine I_ ?_;have Ad9:ss.2.length≤32:=by rcases hs with h | h<;>rw[h]<;>decide
     refine fS (ak L) (fun(_:Unit)=>[(2,.lp 0 0),(4,.lp 1 0),(6,.lp 2 0)]) (fun _=>[(0,dE ⟨0,0,[],[],0,0⟩),(1,[.sl .no 1 (ss.1.b.map U),I ss.1.e]),(2,dE ⟨kk.2,ii.2,tt.2,ss.2,0,0⟩)]) (fun _ W=>W=W3) ?_ ?_
     · refine I_ ?_;refine aV (ak L) (fun(q:Nat)=>[(2,.lp 0 0),(4,.lp 1 0),(6,.lp 2 0),(7,.h (S ss.2)),(8,.h (I q))]) (fun q=>[(0,dE ⟨0,0,[],[],0,0⟩),(1,[.sl .no 1 (ss.1.b.map U),I ss.1.e]),(2,dE ⟨kk.2,ii.2,tt.2,ss.2.take q,0,0⟩)]) (fun q W=>W=W3∧q≤ss.2.length) (fun q=>ss.2.length - q) 0 ?_ ⟨rfl,by omega⟩ ?_
       · exact E_
       rintro q W4 ⟨rfl,hq⟩;refine G_ ?_;(refine gt T_ ?_ ?_<;>intro h)
       · have ni:q < ss.2.length:=by have:=of_decide_eq_true h;omega
         refine G_ ?_;rw[decide_eq_true (show (q:Int) < 32 by omega)]
         refine G_ ?_;refine Ou rfl rfl (by omega) ?_
         refine bS (bI:=dE ⟨kk.2,ii.2,tt.2,ss.2.take (q+1),0,0⟩) rfl rfl rfl rfl rfl ?_ (Lp ni (by omega)) ?_
         · exact Nat.ble_eq_true_of_le (by show 0+3+q+1≤37;omega)
         refine G_ ?_;refine dG (q+1) (by omega) ⟨rfl,ni⟩ ?_
         exact E_
       · have kF:q=ss.2.length:=by have:=of_decide_eq_false h;omega
         subst kF;refine G_ ?_;refine lU () rfl ?_;rw[List.take_length];exact E_
     · rintro _ W4 rfl;refine I_ ?_;apply ay (v:=pG ss.1);rfl;rfl;rfl;(apply af;rfl);refine nz L _ _ l4 W4 _ fun W5 fW5=>?_;generalize (ss.1.num 65536)=zz at *;refine I_ ?_;refine av (v:=pG zz.1) (bI:=[.sl .no 1 (zz.1.b.map U),I zz.1.e]) rfl rfl rfl rfl rfl rfl rfl rfl ?_;refine I_ ?_;refine bS (bI:=dE ⟨kk.2,ii.2,tt.2,ss.2,zz.2,0⟩) rfl rfl rfl rfl rfl rfl rfl ?_;refine I_ ?_;refine lU () (fY.trans (fZ.trans (fW.trans (fW3.trans fW5)))) ?_;rw[hB];exact E_
 · rintro _ W fW;generalize cD l=bb at *;refine I_ ?_;apply ay (v:=bc bb.1);rfl;rfl;rfl;refine I_ ?_;apply ay (v:=pG bb.2);rfl;rfl;rfl;refine I_ ?_;(apply af;rfl);refine BJ L _ W _ fun W2 Nl=>?_;refine I_ ?_;refine av (v:=bc bb.1) (bI:=dE bb.1) rfl rfl rfl rfl rfl rfl rfl rfl ?_;refine I_ ?_;exact aa (hk _ (fW.trans Nl))
end Sm
