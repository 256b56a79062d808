/-
  Link
-/
import Derived.Test.YtegmmhldpmmkeaaGreatDoorSmLkB
set_option linter.unusedVariables false
set_option maxRecDepth 100000
namespace Sm
open Go
theorem Ci{α:Type}{p:Nat→α→Prop}:∀{l:List (Nat×α)},(∀q∈l,p q.1 q.2)→∀n a,lk l n=some a→p n a
 | [],_,n,a,h=>by simp[lk] at h
 | (k,b)::l,hp,n,a,h=>by
   simp only[lk] at h;split at h;{rename_i hk;subst hk;simp only[Option.some.injEq] at h;subst h;exact hp (k,b) (by simp)};{exact Ci (fun q hq=>hp q (by simp[hq])) n a h}
def Cj(p:Nat→Nat→Prop):List (Nat×Nat)→Prop
 | []=>True
 | q::l=>p q.1 q.2∧Cj p l
theorem ae{p:Nat→Nat→Prop}{a b:Nat}{l:List (Nat×Nat)}(h:p a b)(k:Cj p l):Cj p ((a,b)::l):=⟨h,k⟩
theorem Cj.mem{p:Nat→Nat→Prop}:∀{l:List (Nat×Nat)},Cj p l→∀q∈l,p q.1 q.2
 | [],_,q,hq=>by cases hq
 | r::l,h,q,hq=>by
   rcases List.mem_cons.mp hq with rfl | hq;{exact h.1};{exact Cj.mem h.2 q hq}
theorem Abc:Cj bg we:=by
 unfold we;refine ae AfP ?_;refine ae AfQ ?_;refine ae AdL ?_;refine ae Abd ?_;refine ae Abe ?_;refine ae Abf ?_;refine ae Abg ?_;refine ae Abh ?_;refine ae Abi ?_;refine ae Abj ?_;refine ae Abk ?_;refine ae Abl ?_;refine ae Abm ?_;refine ae Abn ?_;refine ae Abo ?_;refine ae Abp ?_;refine ae Abq ?_;refine ae Abr ?_;refine ae AfM ?_;refine ae Abs ?_;refine ae Abt ?_;refine ae Abu ?_;refine ae Abv ?_;refine ae Abw ?_;refine ae Abx ?_;refine ae Aby ?_;refine ae Abz ?_;refine ae AbA ?_;refine ae AbB ?_;refine ae AbC ?_;refine ae AbD ?_;refine ae AbE ?_;refine ae AbF ?_;refine ae AbG ?_;refine ae AbH ?_;refine ae AbI ?_;refine ae AbJ ?_;refine ae AbK ?_;refine ae AbL ?_;refine ae AbM ?_;refine ae AbN ?_;refine ae AbO ?_;refine ae AbP ?_;refine ae AbQ ?_;refine ae AbR ?_;refine ae AbS ?_;refine ae AbT ?_;refine ae AbU ?_;refine ae AbV ?_;refine ae AbW ?_;refine ae AbX ?_;refine ae AbY ?_;refine ae AbZ ?_;refine ae Ab0 ?_;refine ae Ab1 ?_;refine ae Ab2 ?_;refine ae Ab3 ?_;refine ae Ab4 ?_;refine ae Ab5 ?_;refine ae Ab6 ?_;refine ae Ab7 ?_;refine ae Ab8 ?_;refine ae Ab9 ?_;refine ae Aca ?_;refine ae Acb ?_;refine ae Acd ?_;refine ae Ace ?_;refine ae Acf ?_;refine ae Acg ?_;refine ae Ach ?_;refine ae Aci ?_;refine ae Acj ?_;refine ae Ack ?_;refine ae Acl ?_;refine ae Acm ?_;refine ae Acn ?_;refine ae Aco ?_;refine ae Acp ?_;refine ae Acq ?_;refine ae Acr ?_;refine ae Acs ?_;refine ae Acu ?_;refine ae Acv ?_;refine ae Acw ?_;refine ae Acx ?_;refine ae Acy ?_;refine ae Acz ?_;refine ae AcA ?_
 refine ae Wj ?_;refine ae Wk ?_;refine ae Wl ?_;refine ae Wm ?_;refine ae Wn ?_;refine ae Wo ?_;refine ae Wp ?_;refine ae Wq ?_;refine ae Wr ?_;refine ae Ws ?_;refine ae Wt ?_;refine ae Wu ?_;refine ae Wv ?_;refine ae Ww ?_;refine ae Wx ?_;refine ae Wy ?_;refine ae Wz ?_;refine ae WA ?_;refine ae WB ?_;refine ae WC ?_;refine ae WD ?_;refine ae WE ?_;refine ae WG ?_;refine ae WH ?_;refine ae AfC ?_;refine ae WJ ?_;refine ae WK ?_;refine ae WL ?_;refine ae WM ?_;refine ae WN ?_;refine ae WO ?_;refine ae WQ ?_;refine ae WR ?_;refine ae WS ?_;refine ae WT ?_;refine ae WU ?_;refine ae WV ?_;refine ae WW ?_;refine ae WX ?_;refine ae WY ?_;refine ae WZ ?_;refine ae W0 ?_;refine ae W1 ?_;refine ae W7 ?_;refine ae W8 ?_;refine ae W9 ?_;refine ae Xa ?_;refine ae Xb ?_;refine ae Xc ?_;refine ae Xd ?_;refine ae Xe ?_;refine ae Xf ?_;refine ae Xg ?_;refine ae Xh ?_;refine ae Xi ?_;refine ae Xj ?_;refine ae Xk ?_;refine ae Xl ?_;refine ae Xm ?_;refine ae Xn ?_;refine ae Xo ?_;refine ae Xp ?_;refine ae Xq ?_;refine ae Xr ?_;refine ae Xs ?_;refine ae Xt ?_;refine ae Xu ?_;refine ae Xv ?_;refine ae Xw ?_;refine ae Xx ?_;refine ae Xy ?_;refine ae Xz ?_;refine ae XA ?_;refine ae XB ?_;refine ae XC ?_;refine ae XD ?_;refine ae XE ?_;refine ae XF ?_;refine ae XG ?_;refine ae XH ?_;refine ae XI ?_;refine ae XJ ?_;refine ae XK ?_;refine ae XL ?_;refine ae XM ?_;refine ae XN ?_;refine ae XO ?_;refine ae XP ?_;refine ae XQ ?_;refine ae XR ?_;refine ae XS ?_;refine ae XT ?_;refine ae XU ?_;refine ae XV ?_
 refine ae XW ?_;refine ae XX ?_;refine ae XY ?_;refine ae XZ ?_;refine ae Ya ?_;refine ae Yb ?_;refine ae Yc ?_;refine ae Yd ?_;refine ae Ye ?_;refine ae Yf ?_;refine ae Yg ?_;refine ae Yh ?_;refine ae Yi ?_;refine ae Yj ?_;refine ae Yk ?_;refine ae Yl ?_;refine ae Ym ?_;refine ae Yn ?_;refine ae Yo ?_;refine ae Yp ?_;refine ae Yq ?_;refine ae Yr ?_;refine ae Ys ?_;refine ae Yt ?_;refine ae Yu ?_;refine ae Yv ?_;refine ae Yw ?_;refine ae Yx ?_;refine ae Yy ?_;refine ae Yz ?_;refine ae YA ?_;refine ae YC ?_;refine ae YD ?_;refine ae YE ?_;refine ae YF ?_;refine ae YG ?_;refine ae YH ?_;refine ae YI ?_;refine ae YJ ?_;refine ae YK ?_;refine ae YL ?_;refine ae (fun h=>absurd h (by simp[lS])) ?_
 refine ae (fun h=>absurd h (by simp[lS])) ?_
 exact T_
noncomputable def linked:ai code where
 P:=Go.Proofs.Tryz.prog
 ν:=nu
 mixed:=by kernel_rfl
 link:=fun n g h=>Ci (p:=bg) (l:=we) Abc.mem n g h.1 h.2
end Sm
