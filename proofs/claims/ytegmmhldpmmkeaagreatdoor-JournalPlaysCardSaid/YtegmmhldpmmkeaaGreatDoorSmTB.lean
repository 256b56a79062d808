/-
  T11,T12,T13,T14,T15,T16,T17,T18,T19,T20,TW
-/
import Derived.Test.YtegmmhldpmmkeaaGreatDoorSmTA
set_option linter.unusedVariables false
set_option linter.unusedSimpArgs false
set_option maxRecDepth 10000
set_option maxHeartbeats 1000000
namespace Sm
open Go
attribute [local irreducible] aH aj aX bk aA aL bn DK RK JK BR G3 bh Spec Tok Fr
end Sm
namespace Sm
open Go
def cE(e:ry):List HV:=[S e.path,B e.dir,.sl .no 1 (e.data.map U)]
def YZ(l:List ry):List HV:=l.flatMap cE
theorem gD{A X Y Z:List HV}{i:Nat}(hi:A.length=i)(hx:X.length=Y.length):bu (A++X++Z) i Y=A++Y++Z:=by
 subst hi;rw[iV _ _ _ (by simp[hx]),←hx]
 have e1:(A++X++Z).take A.length=A:=by rw[List.append_assoc,List.take_left]
 have e2:(A++X++Z).drop (A.length+X.length)=Z:=by rw[←List.length_append,List.drop_left]
 rw[e1,e2]
attribute [local irreducible] aH aj aX bk aA aL bn DK RK JK BR G3 bh Spec Tok Fr
end Sm
namespace Sm
open Go
section
variable {S':aJ} {sl:List (Nat×EV)} {bx:List (Nat×List HV)} {H:ab} {K:Env→ab→Prop} {os:List aF} {d:Nat}
theorem OC{sz:Nat}{x lo hi:bj}{b off n c a e:Nat}{k j:Int}(hx:(M sl bx).hv x=some (.v (.slice (some ⟨b,off,none⟩) n c)))(h1:(M sl bx).hv lo=some (I k))(h2:(M sl bx).hv hi=some (I j))(hk:k=a)(hj:j=e)(ha:a≤e)(hc:a < c)(he:e≤c)
   (h:aj S' os (M ((d,.h (.v (.slice (some ⟨b,off+a*sz,none⟩) (e - a) (c - a))))::sl) bx) H K):aj S' (⟨some d,.gy sz x (some lo) (some hi) none,none⟩::os) (M sl bx) H K:=by
 subst hk hj;refine xk (l:=(a:Int)) (h:=(e:Int)) (m:=(c:Int)) hx (by simp only[iE,h1]) (by simp only[iE,h2]) rfl ⟨by omega,by omega,by omega,by omega⟩ ?_
 rw[if_neg (by omega)]
 simpa using h
theorem Bt{sz bytes:Nat}{x y:bj}{b off n c m:Nat}{yv:HV}{cs ys:List HV}(hx:(M sl bx).hv x=some (.v (.slice (some ⟨b,off,none⟩) n c)))(hy:(M sl bx).hv y=some yv)(hr:mW H sz yv=some (m,ys))(hb:H b=some (.obj cs))
   (hn:n≤c) (hl:off+c*sz≤cs.length) (hm:(n+m)*bytes≤140737488355328)
   (gF:n+m≤c→∀X,X b=some (.obj (bu cs (off+n*sz) ys))→Fr [b] H X→aj S' os (M ((d,.h (.v (.slice (some ⟨b,off,none⟩) (n+m) c)))::sl) bx) X K)
   (gG:c < n+m→∀b' c' zs X,H b'=none→n+m≤c'→c'≤maxLen→zs.length=(c' - (n+m))*sz→zs.all HV.one=true→X b'=some (.obj (((cs.drop off).take (n*sz)++ys)++zs))→Fr [] H X→aj S' os (M ((d,.h (.v (.slice (some ⟨b',0,none⟩) (n+m) c')))::sl) bx) X K) :
   aj S' (⟨some d,.app sz bytes x y,none⟩::os) (M sl bx) H K:=by
 rw[bf];refine .inr ?_;simp only[hx,hy,nW,hr];refine⟨cs,hb,hn,hl,fun h=>?_,fun h=>⟨hm,fun b' c' zs h1 h2 h3 h4 h5=>?_⟩⟩;{rw[cu,dp];exact gF h _ (ab.aB _ _ _) (Fr.set (by simp))};{dsimp only;rw[cu,dp];exact gG h b' c' zs _ h1 h2 h3 h4 h5 (ab.aB _ _ _) (Fr.new h1)}
theorem Bo{sz bytes:Nat}{x y:bj}{m:Nat}{yv:HV}{ys:List HV}(hx:(M sl bx).hv x=some (.sl .full sz []))(hy:(M sl bx).hv y=some yv)(hr:mW H sz yv=some (m,ys))(h0:m≠0)(hm:m*bytes≤140737488355328)
   (gG:∀b' c' zs X,H b'=none→m≤c'→c'≤maxLen→zs.length=(c' - m)*sz→zs.all HV.one=true→X b'=some (.obj (ys++zs))→Fr [] H X→aj S' os (M ((d,.h (.v (.slice (some ⟨b',0,none⟩) m c')))::sl) bx) X K) :
   aj S' (⟨some d,.app sz bytes x y,none⟩::os) (M sl bx) H K:=by
 rw[bf];refine .inr ?_;simp only[hx,hy,nW,hr,List.length_nil,Nat.zero_add,List.flatMap_nil,List.nil_append];refine⟨trivial,fun h=>absurd h h0,fun _=>⟨hm,fun b' c' zs h1 h2 h3 h4 h5=>?_⟩⟩;dsimp only;rw[cu,dp];exact gG b' c' zs _ h1 h2 h3 h4 h5 (ab.aB _ _ _) (Fr.new h1)
theorem Ow{sz:Nat}{x y:bj}{b off n c m:Nat}{yv:HV}{cs ys:List HV}(hx:(M sl bx).cJ [x,y]=some [.v (.slice (some ⟨b,off,none⟩) n c),yv])(hr:mW H sz yv=some (m,ys))(hb:H b=some (.obj cs))(hl:off+n*sz≤cs.length)
   (hk:∀X,X b=some (.obj (bu cs off (ys.take (min m n*sz))))→Fr [b] H X→aj S' os (M ((d,.h (I (min m n:Nat)))::sl) bx) X K):aj S' (⟨some d,.cH (.copy sz) [x,y],none⟩::os) (M sl bx) H K:=by
 rw[bf];simp only[aw.step,hx,iX,hr,hb];refine⟨hl,?_⟩;rw[cu,dp];exact hk _ (ab.aB _ _ _) (Fr.set (by simp))
end
theorem Fr.sQ{bs:List Nat}{H H':ab}(h:∀a r,a∉bs→H a=some r→H' a=some r):Fr bs H H':=h
structure OL (H:ab) (b n c:Nat) (l:List ry):Prop where
 ob:∃zs,H b=some (.obj (YZ l++zs))∧zs.length=(c - n)*3∧zs.all HV.one=true
 len:l.length=n
 nc:n≤c
 cm:c≤maxLen
attribute [local irreducible] aH aj aX bk aA aL bn DK RK JK BR G3 bh Spec Tok Fr
end Sm
namespace Sm
open Go
section
variable {S':aJ} {sl:List (Nat×EV)} {bx:List (Nat×List HV)} {H:ab} {K:Env→ab→Prop} {os:List aF} {d:Nat}
theorem VQ{sz:Nat}{zero:List HV}{x:bj}{b off n c:Nat}{cs:List HV}(hx:(M sl bx).hv x=some (.v (.slice (some ⟨b,off,none⟩) n c)))(hb:H b=some (.obj cs))(hl:off+n*sz≤cs.length)(h4:zero.length=sz)
   (hk:∀X,X b=some (.obj (bu cs off (List.replicate n zero).flatten))→Fr [b] H X→aj S' os (M sl bx) X K):aj S' (⟨none,.cH (.clear sz zero) [x],none⟩::os) (M sl bx) H K:=by
 rw[bf];have hh:(M sl bx).cJ [x]=some [.v (.slice (some ⟨b,off,none⟩) n c)]:=by simp[Env.cJ,hx]
 simp only[aw.step,hh,iX,hb];exact⟨hl,h4,hk _ (ab.aB _ _ _) (Fr.set (by simp))⟩
end
attribute [local irreducible] aH aj aX bk aA aL bn DK RK JK BR G3 bh Spec Tok Fr
end Sm
namespace Sm
open Go
theorem EY{S:aJ}{e:Env}{H:ab}{Q:qL→Env→ab→Prop}{ι:Type}(hS:fF S){a b:SC}(E:ι→List (Nat×EV))(F:ι→List (Nat×List HV))(J:ι→ab→Prop)(h1:aH S a e H (JK E F J Q))(h2:∀i H,J i H→∃e1 H1,VS (M (E i) (F i)) H e1 H1∧aH S b e1 H1 Q):aH S (.seq a b) e H Q:=by
 rw[Al];refine lK (fun _ _ _ _ h=>h) hS a ?_ h1;intro ex e' H' hk;cases ex;{obtain⟨j,g1,g2⟩:=hk;obtain⟨e1,H1,g3,g4⟩:=h2 j H' g2;exact⟨e1,H1,(VS.le g1).trans g3,g4⟩};{exact hk};{exact hk}
theorem Fr.none{H H':ab}{b:Nat}(h:Fr [] H H')(hb:H' b=none):H b=none:=by
 cases e:H b with
 | none=>rfl
 | some r=>have:=h b r (by simp) e;rw[hb] at this;cases this
attribute [local irreducible] aH aj aX bk aA aL bn DK RK JK BR G3 bh Spec Tok Fr
end Sm
namespace Sm
open Go
attribute [local irreducible] aH aj aX bk aA aL bn DK RK JK BR G3 bh Spec Tok Fr
end Sm
namespace Sm
open Go
attribute [local irreducible] aH aj aX bk aA aL bn DK RK JK BR G3 bh Spec Tok Fr
end Sm
namespace Sm
open Go
attribute [local irreducible] aH aj aX bk aA aL bn DK RK JK BR G3 bh Spec Tok Fr
end Sm
namespace Sm
open Go
attribute [local irreducible] aH aj aX bk aA aL bn DK RK JK BR G3 bh Spec Tok Fr
end Sm
namespace Sm
open Go
attribute [local irreducible] aH aj aX bk aA aL bn DK RK JK BR G3 bh Spec Tok Fr
theorem Ct(e:ry):uw e e=true:=by simp[uw]
end Sm
namespace Sm
open Go
theorem qz{ν:Nat→Option Nat}{K:Nat→Nat}{w:World}:∀{hs eP:List HV} {us:List Value},bo hs eP→aC ν K w hs us→aC ν K w eP us
 | [],[],us,_,h=>h
 | a::as,b::bs,us,hw,h=>by
   simp only[aC] at h ⊢;obtain⟨u,dr,h1,h2,h3⟩:=h;exact⟨u,dr,h1,hw.1 _ _ _ _ h2,qz hw.2 h3⟩
 | [],_::_,us,hw,h=>absurd hw (by simp[bo])
 | _::_,[],us,hw,h=>absurd hw (by simp[bo])
theorem eM{P:Program}{ν:Nat→Option Nat}{g:Nat}{hs eP:List HV}{H:ab}{K:HV→ab→Prop}(hw:bo hs eP)(h:Spec P ν g eP H K):Spec P ν g hs H K:=
 fun n hn w K us h1 h2=>h n hn w K us h1 (qz hw h2)
theorem bo.len:∀{as bs:List HV},bo as bs→as.length=bs.length
 | [],[],_=>rfl
 | a::as,b::bs,h=>by simp[bo.len h.2]
 | [],_::_,h=>absurd h (by simp[bo])
 | _::_,[],h=>absurd h (by simp[bo])
theorem an.els{tk:Tk}{sz:Nat}{as bs:List HV}(hw:bo as bs)(g1:bs.all HV.el=true)(g2:∀e∈bs,e.aN=sz):an (.sl tk sz as) (.sl .no sz bs):=by
 intro ν K w u hr;simp only[rep] at hr ⊢;obtain⟨A,cap,aR,h1,h2,h3,h4,h5,h6,h7,h8⟩:=hr;have hl:=hw.len;rw[hl] at h1 h2 h8;refine⟨A,cap,aR,h1,h2,h3,T_,g1,g2,qz hw h7,?_⟩;rcases h8 with h8 | h8;{subst h8;exact .inl (List.length_eq_zero_iff.mp (by simpa using hl.symm))};{exact .inr h8}
section
variable {S':aJ} {sl:List (Nat×EV)} {bx:List (Nat×List HV)} {H:ab} {K:Env→ab→Prop} {os:List aF} {d:Nat}
end
end Sm
