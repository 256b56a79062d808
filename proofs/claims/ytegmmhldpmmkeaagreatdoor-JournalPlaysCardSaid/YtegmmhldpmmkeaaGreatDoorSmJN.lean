/-
  J35,J36,J37,J38,J39
-/
import Derived.Test.YtegmmhldpmmkeaaGreatDoorSmJJ
import Derived.Test.YtegmmhldpmmkeaaGreatDoorSmJG
set_option linter.unusedVariables false
set_option linter.unusedSimpArgs false
set_option maxRecDepth 10000
set_option maxHeartbeats 4000000
namespace Sm
open Go
theorem IT(x:Pt)(l:List Pt)(p:List UInt8):ir (x::l) p=if (x.path==p)=true then (x,true) else ir l p:=by
 unfold ir;rw[List.find?_cons];cases h:x.path==p<;>simp
theorem OG.bv{α:Type}{T:nJ α}{H X:ab}{v:HV}{l:List α}{n:Int}(h:OG T H X v l):fQ [.v (.slice none 0 0),.v (.int .i64 0)] [(0,1,some v),(1,1,some (I n))]=some [v,I n]:=
 (bW (z':=[v,.v (.int .i64 0)]) h.one h.el rfl (by rw[h.cel];rfl)).trans <| (bW (z':=[v,I n]) (h:=I n) rfl rfl rfl rfl).trans rfl
theorem tW{α:Type}{T:nJ α}{S':aJ}{sl:List (Nat×EV)}{bx:List (Nat×List HV)}{H H0 X0:ab}{K:Env→ab→Prop}{os:List aF}{d:Nat}{x0 x1:bj}{v:HV}{l:List α}{n:Int}(hO:OG T H0 X0 v l)(h0:(M sl bx).hv x0=some v)(h1:(M sl bx).hv x1=some (I n))
   (h:aj S' os (M ((d,.h (.ag [v,I n]))::sl) bx) H K):aj S' (⟨some d,.build [.v (.slice none 0 0),.v (.int .i64 0)] [(0,1,x0),(1,1,x1)],none⟩::os) (M sl bx) H K:=by
 refine aG rfl ?_ h;simp only[aw.ev,List.map_cons,List.map_nil,h0,h1];rw[hO.bv];rfl
theorem IU{S':aJ}{sl:List (Nat×EV)}{bx:List (Nat×List HV)}{H:ab}{K:Env→ab→Prop}{os:List aF}{d:Nat}{z:List HV}{x0 x1 x2 x3 x4:bj}{id size off:Int}{p s:List UInt8}(hz:z=hU zP)(h0:(M sl bx).hv x0=some (I id))(h1:(M sl bx).hv x1=some (S p))(h2:(M sl bx).hv x2=some (.ag (fq s)))(h3:(M sl bx).hv x3=some (I size))(h4:(M sl bx).hv x4=some (I off))
   (h:aj S' os (M ((d,.h (bB ⟨id,p,s,size,off⟩))::sl) bx) H K):aj S' (⟨some d,.build z [(0,1,x0),(1,1,x1),(2,32,x2),(34,1,x3),(35,1,x4)],none⟩::os) (M sl bx) H K:=by
 subst hz;refine aG rfl ?_ h;simp only[aw.ev,List.map_cons,List.map_nil,h0,h1,h2,h3,h4];have e:fQ (hU zP) [(0,1,some (I id)),(1,1,some (S p)),(2,32,some (HV.ag (fq s))),(34,1,some (I size)),(35,1,some (I off))]=some (hU ⟨id,p,s,size,off⟩):=
   (bW (z:=hU zP) (z':=hU ⟨id,[],[],0,0⟩) (h:=I id) rfl rfl rfl rfl).trans <| (bW (z':=hU ⟨id,p,[],0,0⟩) (h:=S p) rfl rfl rfl rfl).trans <| (bW (z':=hU ⟨id,p,s,0,0⟩) (h:=.ag (fq s)) rfl rfl rfl (vK ⟨id,p,[],0,0⟩ s)).trans <| (bW (z':=hU ⟨id,p,s,size,0⟩) (h:=I size) rfl rfl rfl rfl).trans <| (bW (z':=hU ⟨id,p,s,size,off⟩) (h:=I off) rfl rfl rfl rfl).trans rfl
 rw[e];rfl
attribute [local irreducible] aH aj aX ju FD DR DF kS bk aA aL bn DK RK JK BR G3 bh Spec Tok Fr CV
theorem zL(L:ai code)(s:ek)(p:List UInt8)(hl:s.parts.length≤1048576):aU L 452 [fD s,S p] (.tu [bB (ir s.parts p).1,B (ir s.parts p).2]):=by
 intro H K hk;refine ah L FN rfl ?_;refine G_ ?_;refine ep (v:=fD s) (cs:=j7 s) rfl rfl rfl rfl rfl ?_;refine G_ ?_;refine aV (ak L) (fun(j:Nat)=>[(1,.h (S p)),(2,.lp 0 0),(4,.lp 1 0),(6,.h (I j))]) (fun _=>[(0,j7 s),(1,hU zP)]) (fun j X=>Fr [] H X∧j≤s.parts.length∧ir s.parts p=ir (s.parts.drop j) p) (fun j=>s.parts.length - j) 0 ?_ ⟨Fr.refl _ _,by omega,rfl⟩ ?_
 · exact E_
 rintro j X ⟨fX,hj,hS⟩;refine G_ ?_;(refine ct T_ ?_ ?_<;>intro h)
 · have bN:j < s.parts.length:=by have:=of_decide_eq_true h;omega
   rw[List.drop_eq_getElem_cons bN,IT] at hS;have eB:(s.parts.map bB)[j]? = some (bB s.parts[j]):=by rw[List.getElem?_map,List.getElem?_eq_getElem bN];rfl
   generalize s.parts[j]=x at *;refine G_ ?_;refine eK (cs:=hU x) rfl rfl rfl eB rfl ?_;refine G_ ?_;cases c1:x.path==p
   · rw[if_neg (by rw[c1];simp)] at hS
     refine G_ ?_;refine dG (j+1) (by omega) ⟨fX,bN,hS⟩ ?_
     exact E_
   · rw[if_pos c1] at hS;rw[hS] at hk;refine G_ ?_;refine eK (cs:=hU x) rfl rfl rfl eB rfl ?_;refine ed (v:=bB x) rfl rfl ?_;refine av (v:=bB x) (bI:=hU x) rfl rfl rfl rfl rfl rfl rfl rfl ?_;refine G_ ?_;exact aa (hk X fX)
 · have kF:j=s.parts.length:=by have:=of_decide_eq_false h;omega
   subst kF;rw[List.drop_length] at hS;rw[hS] at hk;refine G_ ?_;refine aG (x:=.h (bB zP)) rfl rfl ?_;refine av (v:=bB zP) (bI:=hU zP) rfl rfl rfl rfl rfl rfl rfl rfl ?_;refine G_ ?_;exact aa (hk X fX)
theorem uV{α:Type}(f:α→Bool)(l:List α)(x:α)(h:f x=true→∀y∈l,f y=false):firstIdx f (l++[x])=if f x=true then (l.length:Int) else firstIdx f l:=by
 split
 · next hx =>
   refine eN (by simp) (by simpa using hx) fun j hj=>?_
   rw[List.getElem_append_left hj];exact h hx _ (List.getElem_mem hj)
 · next hx =>
   have hx:f x=false:=by simpa using hx
   rcases jC f l with⟨e1,e2⟩ | ⟨i,hi,e1,e2,e3,e4⟩;{rw[e1];refine firstIdx_none fun j hj=>?_;rw[List.find?_eq_none] at e2;rcases Nat.lt_or_ge j l.length with h3 | h3;{rw[List.getElem_append_left h3];simpa using e2 _ (List.getElem_mem h3)};{rw[List.getElem_append_right h3];simpa using hx}}
   · rw[e1];refine eN (by simp;omega) (by rw[List.getElem_append_left hi];exact e3) fun j hj=>?_
     rw[List.getElem_append_left (by omega)];exact e4 j hj
theorem zM(L:ai code)(s:ek)(r:Rc)(hs:j8 s)(h0:0≤r.id)(h1:r.id≤1099511627776):aU L 439 [fD s,bc r] (.tu [fD (bF s r).1,B (bF s r).2]):=by
 have hl:=hs.len;intro H K hk;refine Spec.dB ?_;refine ah L FO rfl ?_;unfold bF at hk;refine G_ ?_;refine ep (v:=fD s) (cs:=j7 s) rfl rfl rfl rfl rfl ?_;refine G_ ?_;refine ep (v:=bc r) (cs:=dE r) rfl rfl rfl rfl rfl ?_;refine G_ ?_;refine aV (ak L) (fun(j:Nat)=>[(2,.lp 0 0),(3,.lp 1 0),(4,.lp 2 0),(6,.h (.v (.slice none 0 0))),(7,.h (I (firstIdx (fun x=>x.id==r.id) (s.parts.take j)))),(8,.h (I j))]) (fun _=>[(0,j7 s),(1,dE r),(2,[.v (.slice none 0 0),I 0])]) (fun j X=>Fr [] H X∧j≤s.parts.length) (fun j=>s.parts.length - j) 0 ?_ ⟨Fr.refl _ _,by omega⟩ ?_
 · exact E_
 rintro j X ⟨fX,hj⟩;refine G_ ?_;(refine ct T_ ?_ ?_<;>intro h)
 · have bN:j < s.parts.length:=by have:=of_decide_eq_true h;omega
   have eB:(s.parts.map bB)[j]? = some (bB s.parts[j]):=by rw[List.getElem?_map,List.getElem?_eq_getElem bN];rfl
   have JB:s.parts.take (j+1)=s.parts.take j++[s.parts[j]]:=List.take_succ_eq_append_getElem bN;have U7:firstIdx (fun x=>x.id==r.id) (s.parts.take (j+1))=if (s.parts[j].id==r.id)=true then ((s.parts.take j).length:Int) else firstIdx (fun x=>x.id==r.id) (s.parts.take j):=by
     rw[JB];refine uV _ _ _ fun hx y hy=>?_;obtain⟨i,hi,rfl⟩:=List.getElem_of_mem hy;rw[List.length_take] at hi;have:=(List.pairwise_iff_getElem.mp hs.ids) i j (by omega) bN (by omega)
     have hx:s.parts[j].id=r.id:=by simpa using hx
     rw[List.getElem_take];simp only[beq_eq_false_iff_ne,ne_eq];omega
   have hlj:(s.parts.take j).length=j:=by rw[List.length_take];omega
   rw[hlj] at U7;generalize s.parts[j]=x at *;refine G_ ?_;refine eK (cs:=hU x) rfl rfl rfl eB rfl ?_;refine G_ ?_;cases c1:x.id==r.id
   · rw[if_neg (by rw[c1];simp)] at U7
     refine G_ ?_;refine dG (j+1) (by omega) ⟨fX,bN⟩ ?_
     rw[U7];exact E_
   · rw[if_pos c1] at U7;refine G_ ?_;refine dG (j+1) (by omega) ⟨fX,bN⟩ ?_
     rw[U7];exact E_
 · have kF:j=s.parts.length:=by have:=of_decide_eq_false h;omega
   subst kF;rw[List.take_length];rw[show firstIdx (fun x=>x.id==r.id) s.parts=qY s r from rfl];refine G_ ?_;cases c1:(r.kind.toNat:Int)==0
   case true =>
     rw[c1] at hk;dsimp only[cond_true] at hk;refine G_ ?_;apply ay (v:=fD s);rfl;rfl;rfl;refine C_ ?_;refine zL L s r.path (by omega) X _ fun Y fY=>?_
     have Oz:=fX.trans fY;refine G_ ?_;refine av (v:=bB (ir s.parts r.path).1) (bI:=hU (ir s.parts r.path).1) rfl rfl rfl rfl rfl rfl rfl rfl ?_;refine G_ ?_;have no:(ir s.parts r.path).2=true∨decide (r.id < s.next)=true∨decide (64≤(s.parts.length:Int))=true→∀X',Fr [] H X'→K (.tu [fD s,B false]) X':=fun hh X' f'=>by
       have e:eG s.parts s.next r=(s.parts,s.next,false):=by
         unfold eG;rcases hh with hh | hh | hh<;>rw[hh]<;>simp
       have:=hk X' f';rw[e] at this;exact this
     cases c2:decide (r.id < s.next)
     case true =>
       refine G_ ?_;apply ay (v:=fD s);rfl;rfl;rfl;refine av (v:=fD s) (bI:=j7 s) rfl rfl rfl rfl rfl rfl rfl rfl ?_;refine G_ ?_;exact aa (.inl (no (.inr (.inl c2)) Y Oz))
     refine G_ ?_;cases c3:decide (64≤(s.parts.length:Int))
     case true =>
       refine G_ ?_;apply ay (v:=fD s);rfl;rfl;rfl;refine av (v:=fD s) (bI:=j7 s) rfl rfl rfl rfl rfl rfl rfl rfl ?_;refine G_ ?_;exact aa (.inl (no (.inr (.inr c3)) Y Oz))
     refine G_ ?_;cases c4:(ir s.parts r.path).2
     case true =>
       refine G_ ?_;apply ay (v:=fD s);rfl;rfl;rfl;refine av (v:=fD s) (bI:=j7 s) rfl rfl rfl rfl rfl rfl rfl rfl ?_;refine G_ ?_;exact aa (.inl (no (.inl c4) Y Oz))
     have e:eG s.parts s.next r=(s.parts++[⟨r.id,r.path,r.sum,r.size,0⟩],r.id+1,true):=by
       unfold eG;rw[c2,c3,c4];rfl
     rw[e] at hk;refine G_ ?_;apply ay (v:=.ag (fq r.sum));rfl;rfl;rfl;refine G_ ?_;refine IU (s:=r.sum) rfl rfl rfl rfl rfl rfl ?_;refine G_ ?_;refine fT (T:=gz) (l:=[]) (r:=s.parts) (OG.nil _ _ _) (Fr.refl _ _) rfl rfl rfl (tI gz _ _ s.parts) (by simp only[List.length_nil];omega) fun v Z hO fZ _=>?_
     rw[List.nil_append] at hO;refine G_ ?_;refine fT (T:=gz) (r:=[⟨r.id,r.path,r.sum,r.size,0⟩]) hO fZ rfl rfl rfl rfl (by simp only[List.length_cons,List.length_nil];omega) fun v' W je fW _=>?_
     refine G_ ?_;refine tW je rfl rfl ?_;refine G_ ?_;refine av (v:=.ag [v',I (r.id+1)]) (bI:=[v',I (r.id+1)]) rfl rfl (je.vH _) rfl rfl rfl rfl rfl ?_;refine G_ ?_;exact aa ((je.up Oz).gP (Oz.trans fW) fun V fV=>hk V fV)
   rw[c1] at hk;dsimp only[cond_false] at hk;refine G_ ?_;cases c2:(r.kind.toNat:Int)==4
   case true =>
     rw[c2] at hk;dsimp only[cond_true] at hk;refine G_ ?_;cases c3:decide (r.id < s.next)
     case true =>
       rw[c3] at hk;refine G_ ?_;apply ay (v:=fD s);rfl;rfl;rfl;refine av (v:=fD s) (bI:=j7 s) rfl rfl rfl rfl rfl rfl rfl rfl ?_;refine G_ ?_;exact aa (.inl (hk X fX))
     rw[c3] at hk;refine G_ ?_;refine aG (x:=.h (fD ⟨s.parts,r.id+1⟩)) rfl rfl ?_;refine av (v:=fD ⟨s.parts,r.id+1⟩) (bI:=j7 ⟨s.parts,r.id+1⟩) rfl rfl rfl rfl rfl rfl rfl rfl ?_;refine G_ ?_;exact aa (.inl (hk X fX))
   rw[c2] at hk;dsimp only[cond_false] at hk;refine G_ ?_;cases c3:decide (qY s r < 0)
   case true =>
     have gG:∀X',Fr [] H X'→K (.tu [fD s,B false]) X':=fun X' f'=>by
       have:=hk X' f';cases d1:(r.kind.toNat:Int)==1;{rw[d1] at this;cases d2:(r.kind.toNat:Int)==2||(r.kind.toNat:Int)==3;{rw[d2] at this;exact this};{rw[d2,c3] at this;exact this}};{rw[d1,c3] at this;exact this}
     refine G_ ?_;apply ay (v:=fD s);rfl;rfl;rfl;refine av (v:=fD s) (bI:=j7 s) rfl rfl rfl rfl rfl rfl rfl rfl ?_;refine G_ ?_;exact aa (.inl (gG X fX))
   obtain⟨i,hi,e1,e2⟩:=tN c3;have hi? : (s.parts.map bB)[i]? = some (bB s.parts[i]):=by rw[List.getElem?_map,List.getElem?_eq_getElem hi];rfl
   have eJ:s.parts≠[]:=by intro e;rw[e] at hi;simp at hi
   refine G_ ?_;cases c4:decide (4 < (r.kind.toNat:Int))
   case true =>
     have c4':=of_decide_eq_true c4;rw[show ((r.kind.toNat:Int)==1)=false by simp only[beq_eq_false_iff_ne,ne_eq];omega,show ((r.kind.toNat:Int)==2||(r.kind.toNat:Int)==3)=false by simp only[Bool.or_eq_false_iff,beq_eq_false_iff_ne,ne_eq];omega] at hk
     refine G_ ?_;apply ay (v:=fD s);rfl;rfl;rfl;refine av (v:=fD s) (bI:=j7 s) rfl rfl rfl rfl rfl rfl rfl rfl ?_;refine G_ ?_;exact aa (.inl (hk X fX))
   have c4':=of_decide_eq_false c4;refine G_ ?_;cases c5:(r.kind.toNat:Int)==1
   case true =>
     rw[c5,c3] at hk;dsimp only[cond_true,cond_false] at hk;rw[e2,e1,Int.toNat_natCast] at hk;rw[e1];refine G_ ?_;refine eK (cs:=hU s.parts[i]) rfl rfl rfl hi? rfl ?_;refine G_ ?_;cases c6:decide (r.off < s.parts[i].off)
     case true =>
       rw[c6] at hk;refine G_ ?_;apply ay (v:=fD s);rfl;rfl;rfl;refine av (v:=fD s) (bI:=j7 s) rfl rfl rfl rfl rfl rfl rfl rfl ?_;refine G_ ?_;exact aa (.inl (hk X fX))
     rw[c6] at hk;refine G_ ?_;refine eK (cs:=hU s.parts[i]) rfl rfl rfl hi? rfl ?_;refine G_ ?_;cases c7:decide (s.parts[i].size < r.off)
     case true =>
       rw[c7] at hk;refine G_ ?_;apply ay (v:=fD s);rfl;rfl;rfl;refine av (v:=fD s) (bI:=j7 s) rfl rfl rfl rfl rfl rfl rfl rfl ?_;refine G_ ?_;exact aa (.inl (hk X fX))
     rw[c7] at hk;dsimp only[cond_false] at hk;refine G_ ?_;refine fT (T:=gz) (l:=[]) (r:=s.parts) (OG.nil _ _ _) (Fr.refl _ _) rfl rfl rfl (tI gz _ _ s.parts) (by simp only[List.length_nil];omega) fun v Z hO fZ _=>?_
     rw[List.nil_append] at hO;obtain⟨bb,c,zs,rfl,Qy,hZb,Ik,zr,hm⟩:=hO.obj eJ;refine G_ ?_;refine dj rfl rfl (by omega) ?_
     refine G_ ?_;have e3:0+((i:Int)).toNat*36+35=i*36+35:=by rw[Int.toNat_natCast];simp
     rw[e3];have hlen:(aP gz s.parts++zs).length=c*36:=by rw[List.length_append,bJ];exact Ik
     refine bH (bI:=aP gz (dz s.parts i r.off)++zs) rfl rfl rfl rfl hZb (Nat.ble_eq_true_of_le (by rw[hlen];omega)) (nS hi r.off zs) fun X' ZF fX'=>?_
     have yf:(dz s.parts i r.off).length=s.parts.length:=by simp[dz]
     have je:OG gz H X' (.v (.slice (some ⟨bb,0,none⟩) s.parts.length c)) (dz s.parts i r.off):=.inr (.inr ⟨bb,c,zs,by rw[yf],fX.bM Qy,ZF,by rw[yf];exact Ik,by rw[yf];exact zr,hm⟩)
     refine G_ ?_;refine tW je rfl rfl ?_;refine av (v:=.ag [.v (.slice (some ⟨bb,0,none⟩) s.parts.length c),I s.next]) (bI:=[.v (.slice (some ⟨bb,0,none⟩) s.parts.length c),I s.next]) rfl rfl rfl rfl rfl rfl rfl rfl ?_;refine G_ ?_;exact aa (je.gP ((fX.trans fZ).own (fX.bM Qy) fX') fun Y fY=>hk Y fY)
   rw[c5,show ((r.kind.toNat:Int)==2||(r.kind.toNat:Int)==3)=true by
     have h1:(r.kind.toNat:Int)≠0:=by simpa using c1
     have h2:(r.kind.toNat:Int)≠4:=by simpa using c2
     have h3:(r.kind.toNat:Int)≠1:=by simpa using c5
     simp only[Bool.or_eq_true,beq_iff_eq];omega,c3] at hk
   dsimp only[cond_true,cond_false] at hk;rw[e1,Int.toNat_natCast] at hk;rw[e1];refine G_ ?_;refine iL (l:=0) (h:=i) rfl rfl rfl (Nat.zero_le _) (by rw[List.length_map];omega) fun tk1=>?_
   rw[show ((s.parts.map bB).drop 0).take (i - 0)=(s.parts.take i).map bB by rw[List.drop_zero,Nat.sub_zero,List.map_take]]
   refine G_ ?_;refine iL (l:=i+1) (h:=s.parts.length) rfl rfl (show some (((s.parts.map bB).length:Nat):Int)=_ by rw[List.length_map]) (by omega) (by rw[List.length_map];omega) fun yA=>?_
   rw[show ((s.parts.map bB).drop (i+1)).take (s.parts.length - (i+1))=(s.parts.drop (i+1)).map bB by rw[←List.map_drop,←List.map_take,List.take_of_length_le (by rw[List.length_drop];omega)]]
   refine G_ ?_;refine fT (T:=gz) (l:=[]) (r:=s.parts.take i) (OG.nil _ _ _) (Fr.refl _ _) rfl rfl rfl (tI gz _ _ _) (by simp only[List.length_nil,List.length_take];omega) fun v Z hO fZ _=>?_
   rw[List.nil_append] at hO;refine G_ ?_;refine fT (T:=gz) (r:=s.parts.drop (i+1)) hO fZ rfl rfl rfl (tI gz _ _ _) (by simp only[List.length_take,List.length_drop];omega) fun v' W je fW _=>?_
   refine G_ ?_;refine tW je rfl rfl ?_;refine G_ ?_;refine av (v:=.ag [v',I s.next]) (bI:=[v',I s.next]) rfl rfl (je.vH _) rfl rfl rfl rfl rfl ?_;refine G_ ?_;exact aa ((je.up fX).gP (fX.trans fW) fun V fV=>hk V fV)
end Sm
namespace Sm
open Go
attribute [local irreducible] aH aj aX ju FD DR DF kS bk aA aL bn DK RK JK BR G3 bh Spec Tok Fr CV
theorem zN(L:ai code)(tk:Tk)(l:List Rc)(hl:l.length≤1000000)(QA:∀r∈l,uW r):aU L 441 [.sl tk 37 (l.map bc)] (.tu [fD (bK z0 l).1,I (bK z0 l).2]):=by
 intro H K hk;refine ah L FP rfl ?_;refine G_ ?_;refine aV (ak L) (fun(q:Nat×ek)=>[(0,.h (.sl tk 37 (l.map bc))),(2,.lp 0 0),(4,.lp 1 0),(5,.h (I q.1))]) (fun q=>[(0,[.v (.slice none 0 0),I 0]),(1,j7 q.2)]) (fun q X=>Fr [] H X∧q.1≤l.length∧j8 q.2∧(bK z0 l).1=(bK q.2 (l.drop q.1)).1∧(bK z0 l).2=q.1+(bK q.2 (l.drop q.1)).2) (fun q=>l.length - q.1) (0,z0) ?_ ⟨Fr.refl _ _,by simp,LW,rfl,by simp⟩ ?_
 · refine bw ?_ (BQ rfl rfl (Qz rfl ⟨an.dO 36,an.refl _,T_⟩ rfl rY)) ?_<;>(repeat refine bE T_ ?_)<;>exact bA
 rintro⟨j,s⟩ X ⟨fX,hj,hs,e1,e2⟩;dsimp only at hj hs e1 e2 ⊢;refine G_ ?_;(refine ct T_ ?_ ?_<;>intro h)
 · have bN:j < l.length:=by have:=of_decide_eq_true h;omega
   have hr:=QA l[j] (List.getElem_mem bN);have Ik:=eW hr.1;have hso:=zO hs hr.1 hr.2;rw[List.drop_eq_getElem_cons bN,bK] at e1 e2;refine G_ ?_;refine eK (cs:=dE l[j]) rfl rfl rfl (by rw[List.getElem?_map,List.getElem?_eq_getElem bN];rfl) rfl ?_
   refine G_ ?_;apply ay (v:=fD s);rfl;rfl;rfl;refine ed (v:=bc l[j]) rfl rfl ?_;refine C_ ?_;refine zM L s l[j] hs Ik.2.1 Ik.2.2.1 X _ fun Y fY=>?_;have LB:=vL s l[j];refine G_ ?_;refine av (v:=fD (bF s l[j]).1) (bI:=j7 (bF s l[j]).1) rfl rfl rfl rfl rfl rfl rfl rfl ?_;refine G_ ?_;cases c1:(bF s l[j]).2
   · rw[if_neg (by rw[c1];simp)] at e1 e2
     rw[Bool.not_false];refine G_ ?_;apply ay (v:=fD s);rfl;rfl;rfl;refine G_ ?_;refine av (v:=fD s) (bI:=j7 s) rfl rfl rfl rfl rfl rfl rfl rfl ?_;refine G_ ?_;have:=hk Y (fX.trans fY);rw[e1,e2] at this;dsimp only at this;rw[Int.add_zero] at this;exact aa this
   · rw[if_pos c1] at e1 e2;rw[Bool.not_true];refine G_ ?_;apply ay (v:=fD (bF s l[j]).1);rfl;rfl;rfl;refine av (v:=fD (bF s l[j]).1) (bI:=j7 (bF s l[j]).1) rfl rfl rfl rfl rfl rfl rfl rfl ?_;refine G_ ?_;refine dG (j+1,(bF s l[j]).1) (by dsimp only;omega) ⟨fX.trans fY,bN,hso,e1,?_⟩ ?_
     · rw[e2];dsimp only;omega
     · exact E_
 · have kF:j=l.length:=by have:=of_decide_eq_false h;omega
   subst kF;rw[List.drop_length,bK] at e1 e2;refine G_ ?_;apply ay (v:=fD s);rfl;rfl;rfl;refine G_ ?_;refine av (v:=fD s) (bI:=j7 s) rfl rfl rfl rfl rfl rfl rfl rfl ?_;refine G_ ?_;have:=hk X fX;rw[e1,e2] at this;dsimp only at this;rw[Int.add_zero] at this;exact aa this
theorem xu(L:ai code)(s:ek)(hs:s.parts.length≤100000)(hi:∀p∈s.parts,p.id≤4611686018427387904 ∧ -4611686018427387904≤p.id)(hn:s.next≤4611686018427387904 ∧ -4611686018427387904≤s.next):aU L 434 [fD s] (.sl .no 37 ((bD s).map bc)):=by
 intro H K hk;refine Spec.dB ?_;refine ah L FQ rfl ?_;refine G_ ?_;refine ep (v:=fD s) (cs:=j7 s) rfl rfl rfl rfl rfl ?_;refine G_ ?_;refine aV (ak L) (fun(q:Nat×HV×List Rc×Int)=>[(1,.lp 0 0),(3,.h q.2.1),(4,.h (I q.2.2.2)),(5,.h (I q.1))]) (fun _=>[(0,j7 s)]) (fun q X=>OG nK H X q.2.1 q.2.2.1∧Fr [] H X∧q.1≤s.parts.length∧q.2.2.1.length≤2*q.1∧iO 0 s.parts=q.2.2.1++iO 0 (s.parts.drop q.1)∧jD 0 s.parts=jD q.2.2.2 (s.parts.drop q.1)∧q.2.2.2≤4611686018427387905 ∧ -4611686018427387905≤q.2.2.2) (fun q=>s.parts.length - q.1) (0,.v (.slice none 0 0),[],0) ?_ ⟨OG.nil _ _ _,Fr.refl _ _,by simp,by simp,rfl,rfl,by simp,by simp⟩ ?_
 · exact E_
 rintro⟨j,v,out,nx⟩ X ⟨hO,fX,hj,hl,e1,e2,n1,n2⟩;dsimp only at hO hj hl e1 e2 n1 n2 ⊢;refine G_ ?_;(refine ct T_ ?_ ?_<;>intro h)
 · have bN:j < s.parts.length:=by have:=of_decide_eq_true h;omega
   have hb:=hi s.parts[j] (List.getElem_mem bN);rw[List.drop_eq_getElem_cons bN,iO] at e1;rw[List.drop_eq_getElem_cons bN,jD] at e2;have eB:(s.parts.map bB)[j]? = some (bB s.parts[j]):=by rw[List.getElem?_map,List.getElem?_eq_getElem bN];rfl
   generalize hp:s.parts[j]=p at *;refine G_ ?_;refine eK (cs:=hU p) rfl rfl rfl eB rfl ?_;refine ed (v:=bB p) rfl rfl ?_;refine G_ ?_;refine av (v:=bB p) (bI:=hU p) rfl rfl rfl rfl rfl rfl rfl rfl ?_;refine G_ ?_;apply ay (v:=.ag (fq p.sum));rfl;rfl;rfl;refine G_ ?_;refine zB (s:=p.sum) (k:=0) rfl rfl rfl rfl rfl rfl ?_;refine G_ ?_;refine fT (T:=nK) (r:=[⟨0,p.id,p.path,p.sum,p.size,0⟩]) hO fX rfl rfl rfl rfl (by simp only[List.length_cons,List.length_nil];omega) fun v' Z je fZ _=>?_
   refine I_ ?_;refine fS (ak L) (fun(w:HV×List Rc)=>[(1,.lp 0 0),(3,.h w.1),(6,.lp 1 0),(5,.h (I j))]) (fun _=>[(0,j7 s),(1,hU p)]) (fun w V=>OG nK H V w.1 w.2∧Fr [] H V∧w.2.length≤2*j+2∧iO 0 s.parts=w.2++iO 0 (s.parts.drop (j+1))) ?_ ?_
   · refine I_ ?_;cases c1:decide (0 < p.off)
     · rw[c1] at e1;refine I_ ?_;refine lU (v',out++[⟨0,p.id,p.path,p.sum,p.size,0⟩]) ⟨je,fZ,by simp only[List.length_append,List.length_cons,List.length_nil];omega,by rw[e1];simp only[cond_false,List.append_assoc,List.cons_append,List.nil_append]⟩ ?_
       exact E_
     · rw[c1] at e1;refine G_ ?_;refine aG (x:=.h (bc ⟨1,p.id,[],[],0,p.off⟩)) rfl rfl ?_;refine G_ ?_;refine fT (T:=nK) (r:=[⟨1,p.id,[],[],0,p.off⟩]) je fZ rfl rfl rfl rfl (by simp only[List.length_append,List.length_cons,List.length_nil];omega) fun v2 Z2 lO VR _=>?_
       refine I_ ?_;refine lU (v2,out++[⟨0,p.id,p.path,p.sum,p.size,0⟩]++[⟨1,p.id,[],[],0,p.off⟩]) ⟨lO,VR,by simp only[List.length_append,List.length_cons,List.length_nil];omega,by rw[e1];simp only[cond_true,List.append_assoc,List.cons_append,List.nil_append]⟩ ?_
       exact E_
   rintro⟨w,o2⟩ V ⟨lO,fV,l2,e3⟩;dsimp only at lO l2 e3 ⊢;refine G_ ?_;refine dG (j+1,w,o2,p.id+1) (by dsimp only;omega) ⟨lO,fV,bN,by dsimp only;omega,e3,e2,by dsimp only;omega,by dsimp only;omega⟩ ?_
   exact E_
 · have kF:j=s.parts.length:=by have:=of_decide_eq_false h;omega
   subst kF;rw[List.drop_length,iO,List.append_nil] at e1;rw[List.drop_length,jD] at e2;have gG:∀X',Fr [] H X'→K (.sl .no 37 ((out++(bif decide (nx < s.next) then [⟨4,s.next - 1,[],[],0,0⟩] else []:List Rc)).map bc)) X':=by
     unfold bD at hk;rw[e1,e2] at hk;exact hk
   refine I_ ?_;refine fS (ak L) (fun(w:HV)=>[(3,.h w)]) (fun _=>[]) (fun w V=>OG nK H V w (out++(bif decide (nx < s.next) then [⟨4,s.next - 1,[],[],0,0⟩] else []:List Rc))∧Fr [] H V) ?_ ?_
   · refine I_ ?_;cases c1:decide (nx < s.next)
     · refine I_ ?_;refine lU v ⟨by dsimp only[cond_false];rw[List.append_nil];exact hO,fX⟩ ?_
       exact E_
     · refine G_ ?_;refine aG (x:=.h (bc ⟨4,s.next - 1,[],[],0,0⟩)) rfl rfl ?_;refine G_ ?_;refine fT (T:=nK) (r:=[⟨4,s.next - 1,[],[],0,0⟩]) hO fX rfl rfl rfl rfl (by simp only[List.length_append,List.length_cons,List.length_nil];omega) fun v2 Z2 lO VR _=>?_
       refine I_ ?_;refine lU v2 ⟨lO,VR⟩ ?_;exact E_
   rintro w V ⟨lO,fV⟩;refine G_ ?_;exact aa (lO.dB fV fun Y fY=>gG Y fY)
end Sm
namespace Sm
open Go
attribute [local irreducible] aH aj aX ju FD DR DF kS bk aA aL bn DK RK JK BR G3 bh Spec Tok Fr CV
theorem IV(L:ai code)(d:Dk)(p:List UInt8)(n m:Nat)(hw:d.WF n m)(hn:n < 1048000)(hm:m≤140737488355328):aU L 436 [ec d,S p] (B (d.list.any fun e=>e.path==p)):=by
 intro H K hk;have hl:=vN hw;refine ah L FT rfl ?_;refine G_ ?_;refine ep (v:=ec d) (cs:=(ec d).cells) rfl rfl rfl rfl rfl ?_;refine G_ ?_;apply ay (v:=ec d);rfl;rfl;rfl;(apply af;rfl);refine og L d n m hw hn hm H _ fun X fX=>?_;generalize d.list=l at *;refine G_ ?_;refine aV (ak L) (fun(j:Nat)=>[(1,.h (S p)),(5,.h (.sl .no 3 (l.map dX))),(6,.h (I j))]) (fun _=>[]) (fun j Y=>Y=X∧j≤l.length∧(l.any fun e=>e.path==p)=(l.drop j).any fun e=>e.path==p) (fun j=>l.length - j) 0 ?_ ⟨rfl,by omega,rfl⟩ ?_
 · exact E_
 rintro j Y ⟨rfl,hj,hS⟩;refine G_ ?_;(refine ct T_ ?_ ?_<;>intro h)
 · have bN:j < l.length:=by have:=of_decide_eq_true h;omega
   rw[List.drop_eq_getElem_cons bN,List.any_cons] at hS;have eB:(l.map dX)[j]? = some (dX l[j]):=by rw[List.getElem?_map,List.getElem?_eq_getElem bN];rfl
   generalize l[j]=x at *;refine G_ ?_;refine eK (cs:=cE x) rfl rfl rfl eB rfl ?_;refine G_ ?_;cases c1:x.path==p
   · rw[c1,Bool.false_or] at hS;refine G_ ?_;refine dG (j+1) (by omega) ⟨rfl,bN,hS⟩ ?_
     exact E_
   · rw[c1,Bool.true_or] at hS;rw[hS] at hk;refine G_ ?_;exact aa (hk Y fX)
 · have kF:j=l.length:=by have:=of_decide_eq_false h;omega
   subst kF;rw[List.drop_length,List.any_nil] at hS;rw[hS] at hk;refine G_ ?_;exact aa (hk Y fX)
def xw(l:List Rc):List UInt8:=l.flatMap fun r=>(cY r).1
theorem xy:∀{l:List Rc},(∀r∈l,cz r=0)→xw l=bX l
 | [],_=>rfl
 | r::l,h=>by
   have h0:=h r (by simp)
   have ih:=xy fun x hx=>h x (List.mem_cons_of_mem _ hx);rw[gp h0,←ih];show (cY r).1++xw l=_;unfold cY;rw[h0];rfl
theorem rf(L:ai code)(tk:Tk)(l:List Rc)(hl:l.length≤1000000)(hp:∀r∈l,r.path.length≤1048576):aU L 435 [.sl tk 37 (l.map bc)] (.sl .no 1 ((xw l).map U)):=by
 intro H K hk;refine Spec.dB ?_;refine ah L FU rfl ?_;refine G_ ?_;refine aV (ak L) (fun(q:Nat×HV×List UInt8)=>[(0,.h (.sl tk 37 (l.map bc))),(3,.h q.2.1),(4,.h (I q.1))]) (fun _=>[]) (fun q X=>OB H X q.2.1 q.2.2∧Fr [] H X∧q.1≤l.length∧q.2.2.length≤q.1*1100∧xw l=q.2.2++xw (l.drop q.1)) (fun q=>l.length - q.1) (0,.v (.slice none 0 0),[]) ?_ ⟨OB.nil _ _,Fr.refl _ _,by simp,by simp,rfl⟩ ?_
 · exact E_
 rintro⟨j,v,b⟩ X ⟨hO,fX,hj,hb,e1⟩;dsimp only at hO hj hb e1 ⊢;refine G_ ?_;(refine ct T_ ?_ ?_<;>intro h)
 · have bN:j < l.length:=by have:=of_decide_eq_true h;omega
   rw[List.drop_eq_getElem_cons bN,show ∀(x:Rc) (m:List Rc),xw (x::m)=(cY x).1++xw m from fun _ _=>rfl] at e1;have Jv:=lA l[j];refine G_ ?_;refine eK (cs:=dE l[j]) rfl rfl rfl (by rw[List.getElem?_map,List.getElem?_eq_getElem bN];rfl) rfl ?_
   refine ed (v:=bc l[j]) rfl rfl ?_;(apply af;rfl);refine pb L l[j] (hp _ (List.getElem_mem bN)) X _ fun Y fY=>?_;have hO:=hO.fr fY;generalize cY l[j]=s at *;refine G_ ?_;refine fH hO (fX.trans fY) rfl rfl (iK _ _ _) (by omega) fun v' Z je fZ _=>?_
   refine G_ ?_;refine dG (j+1,v',b++s.1) (by dsimp only;omega) ⟨je,fZ,bN,by simp only[List.length_append];omega,by rw[e1,List.append_assoc]⟩ ?_
   exact E_
 · have kF:j=l.length:=by have:=of_decide_eq_false h;omega
   subst kF;rw[List.drop_length,show xw []=[] from rfl,List.append_nil] at e1;rw[e1] at hk;refine G_ ?_;exact aa (hO.dB fX fun Y fY=>hk Y fY)
end Sm
namespace Sm
open Go
def LX(d:Dk)(j:Jn):List HV:=[I d.room,.sl .no 3 (d.sure.map du),.sl .no 2 (d.loose.map pX),.sl .no 2 (d.f.map fP),B d.down,I d.ops,I d.aD,B d.done,I d.aE,.sl .no 36 (j.s.parts.map bB),I j.s.next,I j.n,B j.dead]
def zQ:List HV:=[I 0,.v (.slice none 0 0),.v (.slice none 0 0),.v (.slice none 0 0),B false,I 0,I 0,B false,I 0,.v (.slice none 0 0),I 0,I 0,B false]
def OH(d:Dk)(j:Jn):HV:=.ag (LX d j)
theorem Ae3{r:Rc}(h:cz r=0):xw [r]=bX [r]:=xy fun x hx=>by rw[List.mem_singleton] at hx;subst hx;exact h
attribute [local irreducible] aH aj aX ju FD DR DF kS bk aA aL bn DK RK JK BR G3 bh Spec Tok Fr CV
theorem A2(L:ai code)(d:Dk)(j:Jn)(e:Int)(n m:Nat)(hw:d.WF n m)(hn:n < 1048000):aU L 437 [OH d j,I e] (.tu [OH (d.remove aT).1 j,I e]):=by
 intro H K hk;refine ah L O5 rfl ?_;refine G_ ?_;refine ep (v:=OH d j) (cs:=LX d j) rfl rfl rfl rfl rfl ?_;refine G_ ?_;apply ay (v:=ec d);rfl;rfl;rfl;(apply af;rfl);refine nP L d aT (by decide) n m hw hn H _ fun X fX=>?_
 generalize d.remove aT=t at *;refine G_ ?_;refine av (v:=ec t.1) (bI:=(ec t.1).cells) rfl rfl rfl rfl rfl rfl rfl rfl ?_;refine G_ ?_;apply ay (v:=ec t.1);rfl;rfl;rfl;refine G_ ?_;refine bS (bI:=LX t.1 j) rfl rfl rfl rfl rfl rfl rfl ?_;refine G_ ?_;apply ay (v:=OH t.1 j);rfl;rfl;rfl;refine G_ ?_;refine av (v:=OH t.1 j) (bI:=LX t.1 j) rfl rfl rfl rfl rfl rfl rfl rfl ?_;refine G_ ?_;exact aa (hk X fX)
theorem AeH(L:ai code)(d:Dk)(j:Jn)(r:Rc)(n m:Nat)(hw:d.WF n m)(hn:n+3 < 1048000)(qM:n*m≤1152921504606846976)(hm:m≤1048576)(hs:j8 j.s)(hp:r.path.length≤1048576)(hj:0≤j.n∧j.n≤1099511627776):aU L 426 [OH d j,bc r] (.tu [OH (ou d j r).1 (ou d j r).2.1,I (ou d j r).2.2]):=by
 intro H K hk;unfold ou at hk;refine ah L OZ rfl ?_;refine G_ ?_;refine ep (v:=OH d j) (cs:=LX d j) rfl rfl rfl rfl rfl ?_;refine G_ ?_;refine ep (v:=bc r) (cs:=dE r) rfl rfl rfl rfl rfl ?_;refine G_ ?_;cases c1:j.dead
 case true =>
   rw[c1] at hk;refine G_ ?_;apply ay (v:=OH d j);rfl;rfl;rfl;refine av (v:=OH d j) (bI:=LX d j) rfl rfl rfl rfl rfl rfl rfl rfl ?_;refine G_ ?_;exact aa (hk H (Fr.refl _ _))
 rw[c1] at hk;dsimp only[cond_false] at hk;refine G_ ?_;apply ay (v:=bc r);rfl;rfl;rfl;(apply af;rfl);refine w8 L r hp H _ fun X1 f1=>?_;refine G_ ?_;cases c2:cz r != 0
 case true =>
   rw[c2] at hk;refine G_ ?_;apply ay (v:=OH d j);rfl;rfl;rfl;refine G_ ?_;refine av (v:=OH d j) (bI:=LX d j) rfl rfl rfl rfl rfl rfl rfl rfl ?_;refine G_ ?_;exact aa (hk X1 f1)
 rw[c2] at hk;dsimp only[cond_false] at hk;have c2:cz r=0:=by simpa using c2
 obtain⟨q1,q2,q3,q4,q5,q6,q7,q8⟩:=eW c2;refine G_ ?_;apply ay (v:=fD j.s);rfl;rfl;rfl;apply ay (v:=bc r);rfl;rfl;rfl;(apply af;rfl);refine zM L j.s r hs q2 q3 X1 _ fun X2 f2=>?_;have f12:=f1.trans f2;generalize bF j.s r=nx at *;refine G_ ?_;refine av (v:=fD nx.1) (bI:=j7 nx.1) rfl rfl rfl rfl rfl rfl rfl rfl ?_;refine G_ ?_;cases c3:nx.2
 case false =>
   rw[c3] at hk;rw[Bool.not_false];refine G_ ?_;apply ay (v:=OH d j);rfl;rfl;rfl;refine av (v:=OH d j) (bI:=LX d j) rfl rfl rfl rfl rfl rfl rfl rfl ?_;refine G_ ?_;exact aa (hk X2 f12)
 rw[c3] at hk;rw[show (!true)=false from rfl] at hk;dsimp only[cond_false] at hk;rw[Bool.not_true];refine G_ ?_;apply ay (v:=bc r);rfl;rfl;rfl;refine C_ ?_;refine rf L .full [r] (by simp) (fun x hx=>by rw[List.mem_singleton] at hx;subst hx;exact hp) X2 _ fun X3 f3=>?_
 have zZ:=zI [r];rw[Ae3 c2];generalize bX [r]=x at *;have zZ:x.length≤1100:=by simpa using zZ
 have w1:=jk hw az x;refine G_ ?_;apply ay (v:=ec d);rfl;rfl;rfl;refine C_ ?_;refine wR L d az x (by decide) n m hw (by omega) qM (by omega) X3 _ fun X4 f4=>?_
 have f14:=f12.trans (f3.trans f4);unfold kI at hk;generalize hA:d.append az x=A at *;refine G_ ?_;refine bS (bI:=LX A.1 j) rfl rfl rfl rfl rfl rfl rfl ?_;have wS:(bif A.2 != 0 then A else A.1.sync az).1.WF (n+2) (m+x.length):=by
   cases A.2 != 0;{exact kZ w1 az};{exact w1.mono (by omega) (Nat.le_refl _)}
 generalize hSS:(bif A.2 != 0 then A else A.1.sync az)=SS at *;refine I_ ?_;refine fS (ak L) (fun(_:Unit)=>[(2,.lp 0 0),(4,.lp 2 0),(6,.h (I SS.2)),(7,.lp 3 0),(9,.h (.sl .no 1 (x.map U)))]) (fun _=>[(0,LX SS.1 j),(2,zQ),(3,j7 nx.1)]) (fun _ V=>Fr [] H V) ?_ ?_
 · refine I_ ?_;cases c4:A.2==0
   · rw[show (A.2 != 0)=true by simp[bne,c4]] at hSS
     have e:SS=A:=hSS.symm;subst e;refine I_ ?_;refine lU () f14 ?_;exact E_
   · rw[show (A.2 != 0)=false by simp[bne,c4]] at hSS
     have e:SS=A.1.sync az:=hSS.symm;subst e;refine G_ ?_;apply ay (v:=ec A.1);rfl;rfl;rfl;(apply af;rfl);refine ta L A.1 az (by decide) (n+1) _ w1 (by omega) (by omega) X4 _ fun X5 f5=>?_
     refine G_ ?_;refine bS (bI:=LX (A.1.sync az).1 j) rfl rfl rfl rfl rfl rfl rfl ?_;refine I_ ?_;refine lU () (f14.trans f5) ?_;exact E_
 rintro - V fV;refine G_ ?_;cases c5:SS.2 != 0
 case true =>
   rw[c5] at hk;dsimp only[cond_true] at hk;refine G_ ?_;apply ay (v:=ec SS.1);rfl;rfl;rfl;refine C_ ?_;refine vp L SS.1 az j.n (by decide) (n+2) _ wS (by omega) (by omega) V _ fun V2 g2=>?_
   generalize SS.1.cut az j.n=T at *;refine G_ ?_;refine av (v:=ec T.1) (bI:=(ec T.1).cells) rfl rfl rfl rfl rfl rfl rfl rfl ?_;refine G_ ?_;apply ay (v:=ec T.1);rfl;rfl;rfl;refine G_ ?_;refine bS (bI:=LX T.1 j) rfl rfl rfl rfl rfl rfl rfl ?_;refine G_ ?_;refine bS (bI:=LX T.1 ⟨j.s,j.n,T.2 != 0⟩) rfl rfl rfl rfl rfl rfl rfl ?_;refine G_ ?_;apply ay (v:=OH T.1 ⟨j.s,j.n,T.2 != 0⟩);rfl;rfl;rfl;refine G_ ?_;refine av (v:=OH T.1 ⟨j.s,j.n,T.2 != 0⟩) (bI:=LX T.1 ⟨j.s,j.n,T.2 != 0⟩) rfl rfl rfl rfl rfl rfl rfl rfl ?_;refine G_ ?_;exact aa (hk V2 (fV.trans g2))
 rw[c5] at hk;dsimp only[cond_false] at hk;refine G_ ?_;apply ay (v:=fD nx.1);rfl;rfl;rfl;refine G_ ?_;refine bS (bI:=LX SS.1 ⟨nx.1,j.n,j.dead⟩) rfl rfl rfl rfl rfl rfl rfl ?_;refine G_ ?_;refine bS (bI:=LX SS.1 ⟨nx.1,j.n+x.length,j.dead⟩) rfl rfl rfl rfl rfl rfl rfl ?_;refine G_ ?_;apply ay (v:=OH SS.1 ⟨nx.1,j.n+x.length,j.dead⟩);rfl;rfl;rfl;refine av (v:=OH SS.1 ⟨nx.1,j.n+x.length,j.dead⟩) (bI:=LX SS.1 ⟨nx.1,j.n+x.length,j.dead⟩) rfl rfl rfl rfl rfl rfl rfl rfl ?_;refine G_ ?_;have:=hk V fV;rw[←c1] at this;exact aa this
end Sm
namespace Sm
open Go
theorem LY{s:ek}(h:j8 s):xw (bD s)=bX (bD s):=xy fun r hr=>(mK h r hr).1
theorem Afc{d:Dk}{x:List UInt8}(h:((bq d).2 != 0)=true):pH d x=bq d:=by
 have e1:nF d=bq d:=by unfold nF;rw[h];rfl
 have e2:oA d x=bq d:=by unfold oA;rw[e1,h];rfl
 have e3:pg d x=bq d:=by unfold pg;rw[e2,h];rfl
 unfold pH;rw[e3,h];rfl
attribute [local irreducible] aH aj aX ju FD DR DF kS bk aA aL bn DK RK JK BR G3 bh Spec Tok Fr CV
theorem zS(L:ai code)(d:Dk)(j:Jn)(hs:j8 j.s):aU L 423 [OH d j] (B (vQ j)):=by
 intro H K hk;have hlen:=hs.len;have Qi:=hs.nx;have zZ:=xq hs;unfold vQ at hk;refine ah L FV rfl ?_;refine G_ ?_;refine ep (v:=OH d j) (cs:=LX d j) rfl rfl rfl rfl rfl ?_;refine G_ ?_;cases c1:decide (2048 < j.n)
 case false =>
   rw[c1] at hk;refine G_ ?_;exact aa (hk H (Fr.refl _ _))
 rw[c1] at hk;refine G_ ?_;apply ay (v:=fD j.s);rfl;rfl;rfl;refine C_ ?_;refine xu L j.s (by omega) (fun p hp=>by have:=hs.lt p hp;omega) (by omega) H _ fun X fX=>?_
 refine C_ ?_;refine rf L .no (bD j.s) (by have:=lC j.s;omega) (fun r hr=>by have:=(eW (mK hs r hr).1).2.2.2.1;omega) X _ fun Y fY=>?_
 rw[LY hs];generalize bX (bD j.s)=x at *;refine G_ ?_;exact aa (hk Y (fX.trans fY))
theorem AeB(L:ai code)(d:Dk)(j:Jn)(n m:Nat)(hw:d.WF n m)(hn:n+10 < 1048000)(qM:(n+2)*m≤1152921504606846976)(hm:m≤1048576)(hs:j8 j.s):aU L 425 [OH d j] (.tu [OH (tT d j).1 (tT d j).2.1,I (tT d j).2.2]):=by
 intro H K hk;have hlen:=hs.len;have Qi:=hs.nx;have zZ:=xq hs;unfold tT at hk;refine ah L O' rfl ?_;refine G_ ?_;refine ep (v:=OH d j) (cs:=LX d j) rfl rfl rfl rfl rfl ?_;refine G_ ?_;cases c1:j.dead
 case true =>
   rw[c1] at hk;refine G_ ?_;apply ay (v:=OH d j);rfl;rfl;rfl;refine av (v:=OH d j) (bI:=LX d j) rfl rfl rfl rfl rfl rfl rfl rfl ?_;refine G_ ?_;exact aa (hk H (Fr.refl _ _))
 rw[c1] at hk;dsimp only[cond_false] at hk;have w1:=jU hw;refine I_ ?_;refine fS (ak L) (fun(_:Unit)=>[(1,.lp 0 0),(2,.lp 1 0)]) (fun _=>[(0,LX (bq d).1 j),(1,zQ)]) (fun _ V=>Fr [] H V∧(bq d).2=0) ?_ ?_
 · refine I_ ?_;apply ay (v:=ec d);rfl;rfl;rfl;(apply af;rfl);refine IV L d aT n m hw (by omega) (by omega) H _ fun X1 f1=>?_
   refine I_ ?_;cases c2:d.list.any fun e=>e.path==aT
   · have et:bq d=(d,0):=by unfold bq;rw[c2];rfl
     refine I_ ?_;refine lU () ⟨f1,by rw[et]⟩ ?_
     rw[et];exact E_
   · have et:bq d=d.remove aT:=by unfold bq;rw[c2];rfl
     refine G_ ?_;apply ay (v:=ec d);rfl;rfl;rfl;(apply af;rfl);refine nP L d aT (by decide) n m hw (by omega) X1 _ fun X2 f2=>?_
     rw[←et];refine G_ ?_;refine bS (bI:=LX (bq d).1 j) rfl rfl rfl rfl rfl rfl rfl ?_;refine G_ ?_;cases c3:(bq d).2 != 0
     · have yx:(bq d).2=0:=by simpa using c3
       refine I_ ?_;refine lU () ⟨f1.trans f2,yx⟩ ?_;exact E_
     · rw[Afc c3,c3] at hk;dsimp only[cond_true] at hk;refine G_ ?_;apply ay (v:=OH (bq d).1 j);rfl;rfl;rfl;refine C_ ?_;refine A2 L (bq d).1 j (bq d).2 (n+1) m w1 (by omega) X2 _ fun X3 f3=>?_
       refine G_ ?_;refine av (v:=OH ((bq d).1.remove aT).1 j) (bI:=LX ((bq d).1.remove aT).1 j) rfl rfl rfl rfl rfl rfl rfl rfl ?_;refine G_ ?_;exact aa (hk X3 (f1.trans (f2.trans f3)))
 rintro - V ⟨fV,ht⟩;have ef1:nF d=(bq d).1.put aT false:=by unfold nF;rw[ht];rfl
 have v1:=BW hw;refine G_ ?_;apply ay (v:=fD j.s);rfl;rfl;rfl;(apply af;rfl);refine xu L j.s (by omega) (fun p hp=>by have:=hs.lt p hp;omega) (by omega) V _ fun X1 f1=>?_
 refine C_ ?_;refine rf L .no (bD j.s) (by have:=lC j.s;omega) (fun r hr=>by have:=(eW (mK hs r hr).1).2.2.2.1;omega) X1 _ fun X2 f2=>?_
 rw[LY hs];generalize bX (bD j.s)=x at *;have v2:=BX hw x;have v3:=BY hw x;have v4:=LK hw x;refine G_ ?_;apply ay (v:=ec (bq d).1);rfl;rfl;rfl;(apply af;rfl);refine oM L (bq d).1 aT (by decide) (n+1) m w1 (by omega) X2 _ fun X3 f3=>?_
 rw[←ef1];refine G_ ?_;refine bS (bI:=LX (nF d).1 j) rfl rfl rfl rfl rfl rfl rfl ?_;have fV:=fV.trans (f1.trans (f2.trans f3));clear f1 f2 f3 ef1;generalize X3=V' at *;refine I_ ?_;refine fS (ak L) (fun(_:Unit)=>[(1,.lp 0 0),(2,.lp 1 0),(4,.h (I (oA d x).2)),(5,.h (.sl .no 1 (x.map U)))]) (fun _=>[(0,LX (oA d x).1 j),(1,zQ)]) (fun _ V=>Fr [] H V) ?_ ?_
 · refine I_ ?_;cases c4:(nF d).2==0
   · have e:oA d x=nF d:=by unfold oA;rw[show ((nF d).2 != 0)=true by simp[bne,c4]];rfl
     rw[e];refine I_ ?_;refine lU () fV ?_;exact E_
   · have e:oA d x=(nF d).1.append aT x:=by unfold oA;rw[show ((nF d).2 != 0)=false by simp[bne,c4]];rfl
     refine G_ ?_;apply ay (v:=ec (nF d).1);rfl;rfl;rfl;refine C_ ?_;refine wR L (nF d).1 aT x (by decide) (n+2) m v1 (by omega) qM (by omega) V' _ fun V2 g2=>?_
     rw[←e];refine G_ ?_;refine bS (bI:=LX (oA d x).1 j) rfl rfl rfl rfl rfl rfl rfl ?_;refine I_ ?_;refine lU () (fV.trans g2) ?_;exact E_
 clear fV;rintro - V fV;refine I_ ?_;refine fS (ak L) (fun(_:Unit)=>[(1,.lp 0 0),(2,.lp 1 0),(4,.h (I (pg d x).2)),(5,.h (.sl .no 1 (x.map U)))]) (fun _=>[(0,LX (pg d x).1 j),(1,zQ)]) (fun _ V=>Fr [] H V) ?_ ?_
 · refine I_ ?_;cases c4:(oA d x).2==0
   · have e:pg d x=oA d x:=by unfold pg;rw[show ((oA d x).2 != 0)=true by simp[bne,c4]];rfl
     rw[e];refine I_ ?_;refine lU () fV ?_;exact E_
   · have e:pg d x=(oA d x).1.sync aT:=by unfold pg;rw[show ((oA d x).2 != 0)=false by simp[bne,c4]];rfl
     refine G_ ?_;apply ay (v:=ec (oA d x).1);rfl;rfl;rfl;refine C_ ?_;refine ta L (oA d x).1 aT (by decide) (n+3) _ v2 (by omega) (by omega) V _ fun V2 g2=>?_
     rw[←e];refine G_ ?_;refine bS (bI:=LX (pg d x).1 j) rfl rfl rfl rfl rfl rfl rfl ?_;refine I_ ?_;refine lU () (fV.trans g2) ?_;exact E_
 clear fV;rintro - V fV;refine I_ ?_;refine fS (ak L) (fun(_:Unit)=>[(1,.lp 0 0),(2,.lp 1 0),(4,.h (I (pH d x).2)),(5,.h (.sl .no 1 (x.map U)))]) (fun _=>[(0,LX (pH d x).1 j),(1,zQ)]) (fun _ V=>Fr [] H V) ?_ ?_
 · refine I_ ?_;cases c4:(pg d x).2==0
   · have e:pH d x=pg d x:=by unfold pH;rw[show ((pg d x).2 != 0)=true by simp[bne,c4]];rfl
     rw[e];refine I_ ?_;refine lU () fV ?_;exact E_
   · have e:pH d x=(pg d x).1.rename aT az:=by unfold pH;rw[show ((pg d x).2 != 0)=false by simp[bne,c4]];rfl
     refine G_ ?_;apply ay (v:=ec (pg d x).1);rfl;rfl;rfl;refine C_ ?_;refine px L (pg d x).1 aT az (by decide) (by decide) (n+4) _ v3 (by omega) V _ fun V2 g2=>?_
     rw[←e];refine G_ ?_;refine bS (bI:=LX (pH d x).1 j) rfl rfl rfl rfl rfl rfl rfl ?_;refine I_ ?_;refine lU () (fV.trans g2) ?_;exact E_
 clear fV;rintro - V fV;generalize pH d x=F at *;refine G_ ?_;cases c5:F.2 != 0
 case true =>
   rw[c5] at hk;dsimp only[cond_true] at hk;refine G_ ?_;apply ay (v:=OH F.1 j);rfl;rfl;rfl;refine C_ ?_;refine A2 L F.1 j F.2 (n+5) _ v4 (by omega) V _ fun Y1 g1=>?_
   refine G_ ?_;refine av (v:=OH (F.1.remove aT).1 j) (bI:=LX (F.1.remove aT).1 j) rfl rfl rfl rfl rfl rfl rfl rfl ?_;refine G_ ?_;exact aa (hk Y1 (fV.trans g1))
 rw[c5] at hk;dsimp only[cond_false] at hk;refine G_ ?_;refine bS (bI:=LX F.1 ⟨j.s,x.length,j.dead⟩) rfl rfl rfl rfl rfl rfl rfl ?_;refine G_ ?_;apply ay (v:=ec F.1);rfl;rfl;rfl;(apply af;rfl);refine mw L F.1 (n+5) _ v4 (by omega) V _ fun Y1 g1=>?_
 generalize F.1.aM=T at *;refine G_ ?_;refine bS (bI:=LX T.1 ⟨j.s,x.length,j.dead⟩) rfl rfl rfl rfl rfl rfl rfl ?_;refine G_ ?_;refine bS (bI:=LX T.1 ⟨j.s,x.length,T.2 != 0⟩) rfl rfl rfl rfl rfl rfl rfl ?_;refine G_ ?_;apply ay (v:=OH T.1 ⟨j.s,x.length,T.2 != 0⟩);rfl;rfl;rfl;refine G_ ?_;refine av (v:=OH T.1 ⟨j.s,x.length,T.2 != 0⟩) (bI:=LX T.1 ⟨j.s,x.length,T.2 != 0⟩) rfl rfl rfl rfl rfl rfl rfl rfl ?_;refine G_ ?_;exact aa (hk Y1 (fV.trans g1))
end Sm
