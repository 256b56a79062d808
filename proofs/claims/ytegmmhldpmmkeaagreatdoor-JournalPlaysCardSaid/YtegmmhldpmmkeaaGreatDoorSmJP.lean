/-
  J44,J45,J46,J47,J48,J49,J50,J51
-/
import Derived.Test.YtegmmhldpmmkeaaGreatDoorSmJO
set_option linter.unusedVariables false
set_option linter.unusedSimpArgs false
set_option maxRecDepth 10000
set_option maxHeartbeats 4000000
namespace Sm
open Go
theorem Aer:∀(f g n:Nat),n < f→n < g→OF f n=OF g n
 | f+1,g+1,n,h,k=>by
   rw[OF,OF]
   by_cases h1:n < 10
   · rw[if_pos h1,if_pos h1]
   · rw[if_neg h1,if_neg h1,Aer f g (n / 10) (by omega) (by omega)]
theorem Afd{n:Nat}(h:n < 10):yX n=[UInt8.ofNat (48+n)]:=by rw[yX,OF,if_pos h]
theorem Afe{n:Nat}(h:¬n < 10):yX n=yX (n / 10)++[UInt8.ofNat (48+n % 10)]:=by
 rw[yX,OF,if_neg h,Aer n (n / 10+1) (n / 10) (by omega) (by omega)];rfl
def AeV(x:Nat)(s:List UInt8):List UInt8:=if x=0∧s≠[] then s else yX x++s
theorem Aes(x:Nat)(s:List UInt8)(h:¬(x=0∧s≠[])):AeV (x / 10) (UInt8.ofNat (48+x % 10)::s)=AeV x s:=by
 unfold AeV;rw[if_neg h]
 by_cases h1:x < 10
 · rw[if_pos ⟨by omega,by simp⟩,Afd h1,Nat.mod_eq_of_lt h1];rfl
 · rw[if_neg (by omega),Afe h1,List.append_assoc];rfl
def Ae4:List UInt8:=[48,49,50,51,52,53,54,55,56,57]
theorem AeO:∀i:Fin 10,(Ae4.drop i.1).take (i.1+1 - i.1)=[UInt8.ofNat (48+i.1)]:=by decide
attribute [local irreducible] aH aj aX ju FD DR DF kS bk aA aL bn DK RK JK BR G3 bh Spec Tok Fr CV
theorem AeC(L:ai code)(n:Nat)(hn:n < 4398046511104):Pure L 397 [I n] (S (LR++yX n)):=by
 intro H K hk;refine ah L O8 rfl ?_;refine G_ ?_;rw[show max (0:Int) (n:Int)=(n:Int) by omega]
 refine G_ ?_;refine aV (ak L) (fun(q:Nat×List UInt8)=>[(3,.h (S q.2)),(4,.h (I q.1))]) (fun _=>[]) (fun q X=>X=H∧q.1≤n∧q.2.length+q.1≤n+1∧AeV q.1 q.2=yX n) (fun q=>2*q.1+if q.2=[] then 1 else 0) (n,[]) ?_ ⟨rfl,Nat.le_refl _,by simp,by unfold AeV;rw[if_neg (by simp)];simp⟩ ?_
 · exact E_
 rintro⟨x,s⟩ X ⟨rfl,hx,hs,hT⟩;dsimp only at hx hs hT ⊢;refine G_ ?_;cases c1:decide (0 < (x:Int))
 case true =>
   have c1:0 < x:=by simpa using c1
   refine G_ ?_;rw[show ((x:Nat):Int) % 10=((x % 10:Nat):Int) by omega]
   refine G_ ?_;refine HH (l:=Ae4) (a:=((x % 10:Nat):Int)) (c:=((x % 10:Nat):Int)+1) rfl rfl rfl ⟨by omega,by omega,by show _≤(10:Int);omega⟩ ?_
   rw[show (Ae4.drop ((x % 10:Nat):Int).toNat).take ((((x % 10:Nat):Int)+1).toNat - ((x % 10:Nat):Int).toNat)=[UInt8.ofNat (48+x % 10)] from AeO ⟨x % 10,by omega⟩]
   refine G_ ?_;refine KA (a:=[UInt8.ofNat (48+x % 10)]) (b:=s) rfl rfl (by simp only[List.length_cons,List.length_nil];omega) ?_
   refine G_ ?_;rw[show (x:Int).tdiv 10=((x / 10:Nat):Int) by rw[Int.tdiv_eq_ediv_of_nonneg (by omega)];omega,eb (n:=((x / 10:Nat):Int)) (by omega) (by omega)]
   refine G_ ?_;refine dG (x / 10,UInt8.ofNat (48+x % 10)::s) (by dsimp only;rw[if_neg (List.cons_ne_nil _ _)];omega) ⟨rfl,by dsimp only;omega,by simp only[List.length_cons];omega,(Aes x s (by omega)).trans hT⟩ ?_
   exact E_
 have c1:x=0:=by simpa using c1
 refine G_ ?_;cases c2:s==[]
 case true =>
   have c2:s=[]:=by simpa using c2
   refine G_ ?_;rw[show ((x:Nat):Int) % 10=((x % 10:Nat):Int) by omega]
   refine G_ ?_;refine HH (l:=Ae4) (a:=((x % 10:Nat):Int)) (c:=((x % 10:Nat):Int)+1) rfl rfl rfl ⟨by omega,by omega,by show _≤(10:Int);omega⟩ ?_
   rw[show (Ae4.drop ((x % 10:Nat):Int).toNat).take ((((x % 10:Nat):Int)+1).toNat - ((x % 10:Nat):Int).toNat)=[UInt8.ofNat (48+x % 10)] from AeO ⟨x % 10,by omega⟩]
   refine G_ ?_;refine KA (a:=[UInt8.ofNat (48+x % 10)]) (b:=s) rfl rfl (by simp only[List.length_cons,List.length_nil];omega) ?_
   refine G_ ?_;rw[show (x:Int).tdiv 10=((x / 10:Nat):Int) by rw[Int.tdiv_eq_ediv_of_nonneg (by omega)];omega,eb (n:=((x / 10:Nat):Int)) (by omega) (by omega)]
   refine G_ ?_;refine dG (x / 10,UInt8.ofNat (48+x % 10)::s) (by dsimp only;rw[if_neg (List.cons_ne_nil _ _),if_pos c2];omega) ⟨rfl,by dsimp only;omega,by simp only[List.length_cons,c2,List.length_nil];omega,(Aes x s (by simp[c2])).trans hT⟩ ?_
   exact E_
 have c2:s≠[]:=by simpa using c2
 unfold AeV at hT;rw[if_pos ⟨c1,c2⟩] at hT;subst hT;refine G_ ?_;refine KA (a:=LR) (b:=yX n) rfl rfl (by simp only[LR,List.length_cons,List.length_nil];omega) ?_
 refine G_ ?_;exact aa hk
end Sm
namespace Sm
open Go
def AfG:List HV:=[I 0,.v (.slice none 0 0),.v (.slice none 0 0),.v (.slice none 0 0),B false,I 0,I 0,B false,I 0]
def lx(e:ry):Bool:=bif e.dir then false else bif decide ((e.path.length:Int) < 10) then false else e.path.take 10==LR
def ix(l:List Pt)(p:List UInt8):Bool:=l.any fun x=>LR++yX x.id.toNat==p
def aS(s:ek):List ry→Dk→Nat→Dk×Nat×Int
 | [],d,n=>(d,n,0)
 | e::l,d,n=>bif lx e&&!ix s.parts e.path then (bif (d.remove e.path).2 != 0 then ((d.remove e.path).1,n,(d.remove e.path).2) else aS s l (d.remove e.path).1 (n+1)) else aS s l d n
def u6(d:Dk)(s:ek):Dk×Int×Int:=
 bif (aS s d.list d 0).2.2 != 0 then ((aS s d.list d 0).1,0,(aS s d.list d 0).2.2) else
 bif decide (0 < ((aS s d.list d 0).2.1:Int)) then
   (bif (aS s d.list d 0).1.aM.2 != 0 then ((aS s d.list d 0).1.aM.1,0,(aS s d.list d 0).1.aM.2) else ((aS s d.list d 0).1.aM.1,((aS s d.list d 0).2.1:Int),0))
 else ((aS s d.list d 0).1,((aS s d.list d 0).2.1:Int),0)
theorem Aet{s:ek}{l:List ry}{i:Nat}(h:i < l.length)(d:Dk)(n:Nat):aS s (l.drop i) d n=bif lx l[i]&&!ix s.parts l[i].path then (bif (d.remove l[i].path).2 != 0 then ((d.remove l[i].path).1,n,(d.remove l[i].path).2) else aS s (l.drop (i+1)) (d.remove l[i].path).1 (n+1)) else aS s (l.drop (i+1)) d n:=by
 rw[List.drop_eq_getElem_cons h,aS]
theorem Aeu{d:Dk}{n m:Nat}(hw:d.WF n m):∀e∈d.list,e.path.length≤1048576:=fun e he=>by
 unfold Dk.list at he;split at he;{simp at he};{obtain⟨x,hx,rfl⟩:=List.mem_map.mp he;have:=(hw.ei x hx).2.2;have:=mi this;show x.path.length≤_;omega}
theorem Aen{l:List Pt}{k:Nat}(h:k < l.length)(p:List UInt8):ix (l.take (k+1)) p=(ix (l.take k) p||(LR++yX l[k].id.toNat==p)):=by
 unfold ix;rw[List.take_add_one,List.any_append,List.getElem?_eq_getElem h];simp
attribute [local irreducible] aH aj aX ju FD DR DF kS bk aA aL bn DK RK JK BR G3 bh Spec Tok Fr CV
theorem Aey(L:ai code)(d:Dk)(s:ek)(n m:Nat)(hw:d.WF n m)(hn:n+n+10 < 1048000)(hm:m≤1048576)(hs:j8 s):aU L 424 [ec d,fD s] (.tu [ec (u6 d s).1,I (u6 d s).2.1,I (u6 d s).2.2]):=by
 intro H K hk;have LB:=hs.len;have B2:=vN hw;have z7:=Aeu hw;refine ah L O9 rfl ?_;refine G_ ?_;refine ep (v:=ec d) (cs:=(ec d).cells) rfl rfl rfl rfl rfl ?_;refine G_ ?_;refine ep (v:=fD s) (cs:=j7 s) rfl rfl rfl rfl rfl ?_;refine G_ ?_;apply ay (v:=ec d);rfl;rfl;rfl;refine C_ ?_;refine og L d n m hw (by omega) (by omega) H _ fun X1 f1=>?_
 unfold u6 at hk;generalize d.list=l at *;refine G_ ?_;refine aV (ak L) (fun(q:Nat×Dk×Nat)=>[(2,.lp 0 0),(3,.lp 1 0),(4,.lp 2 0),(7,.h (.sl .no 3 (l.map dX))),(8,.h (I q.2.2)),(9,.h (I 0)),(10,.h (I q.1))]) (fun q=>[(0,(ec q.2.1).cells),(1,j7 s),(2,AfG)]) (fun q X=>Fr [] H X∧q.1≤l.length∧q.2.2≤q.1∧q.2.1.WF (n+q.1) m∧aS s (l.drop q.1) q.2.1 q.2.2=aS s l d 0) (fun q=>l.length - q.1) (0,d,0) ?_ ⟨f1,by simp,by simp,hw,rfl⟩ ?_
 · exact E_
 clear f1 hw;rintro⟨i,e,t⟩ X ⟨fX,hi,hti,hw,hS⟩;dsimp only at hi hti hw hS ⊢;refine G_ ?_;(refine ct T_ ?_ ?_<;>intro hc)
 · have bN:i < l.length:=by have:=of_decide_eq_true hc;omega
   have eB:(l.map dX)[i]? = some (dX l[i]):=by rw[List.getElem?_map,List.getElem?_eq_getElem bN];rfl
   have Jv:=z7 _ (List.getElem_mem bN);rw[Aet bN] at hS;generalize l[i]=en at *;refine G_ ?_;refine eK (cs:=(dX en).cells) rfl rfl rfl eB rfl ?_;refine G_ ?_;refine eK (cs:=(dX en).cells) rfl rfl rfl eB rfl ?_;refine G_ ?_;cases c1:en.dir
   case true =>
     rw[show lx en=false by unfold lx;rw[c1];rfl,Bool.false_and,cond_false] at hS
     refine G_ ?_;refine dG (i+1,e,t) (by dsimp only;omega) ⟨fX,by dsimp only;omega,by dsimp only;omega,hw.mono (by dsimp only;omega) (Nat.le_refl m),hS⟩ ?_
     exact E_
   refine G_ ?_;cases c2:decide ((en.path.length:Int) < 10)
   case true =>
     rw[show lx en=false by unfold lx;rw[c1,c2];rfl,Bool.false_and,cond_false] at hS
     refine G_ ?_;refine dG (i+1,e,t) (by dsimp only;omega) ⟨fX,by dsimp only;omega,by dsimp only;omega,hw.mono (by dsimp only;omega) (Nat.le_refl m),hS⟩ ?_
     exact E_
   have e2:=of_decide_eq_false c2;refine G_ ?_;generalize hb:(!(List.take (Int.toNat 10 - ((0:Nat):Int).toNat) (List.drop ((0:Nat):Int).toNat en.path)==[46,115,117,109,112,116,101,114,45,116]))=bb;have c3:(en.path.take 10 != LR)=bb:=hb;clear hb;cases bb
   case true =>
     rw[show lx en=false by unfold lx;rw[c1,c2];simpa[bne] using c3,Bool.false_and,cond_false] at hS
     refine G_ ?_;refine dG (i+1,e,t) (by dsimp only;omega) ⟨fX,by dsimp only;omega,by dsimp only;omega,hw.mono (by dsimp only;omega) (Nat.le_refl m),hS⟩ ?_
     exact E_
   rw[show lx en=true by unfold lx;rw[c1,c2];simpa[bne] using c3,Bool.true_and] at hS
   refine G_ ?_;refine aV (ak L) (fun(k:Nat)=>[(2,.lp 0 0),(3,.lp 1 0),(4,.lp 2 0),(7,.h (.sl .no 3 (l.map dX))),(8,.h (I t)),(9,.h (I 0)),(10,.h (I i)),(11,.h (S en.path)),(12,.h (B (ix (s.parts.take k) en.path))),(13,.h (I k))]) (fun k=>[(0,(ec e).cells),(1,j7 s),(2,AfG)]) (fun k Y=>Y=X∧k≤s.parts.length) (fun k=>s.parts.length - k) 0 ?_ ⟨rfl,by simp⟩ ?_
   · exact E_
   rintro k Y ⟨rfl,gF⟩;refine G_ ?_;(refine ct T_ ?_ ?_<;>intro A5)
   · have Afx:k < s.parts.length:=by have:=of_decide_eq_true A5;omega
     have hid:=hs.lt _ (List.getElem_mem Afx);have Qi:=hs.nx;have Nr:=Aen Afx en.path;have Afy:(s.parts.map bB)[k]? = some (bB s.parts[k]):=by rw[List.getElem?_map,List.getElem?_eq_getElem Afx];rfl
     generalize s.parts[k]=pt at *;refine G_ ?_;cases c4:ix (s.parts.take k) en.path
     case true =>
       rw[c4,Bool.true_or] at Nr;refine G_ ?_;refine dG (k+1) (by omega) ⟨rfl,by omega⟩ ?_
       rw[Nr];exact E_
     rw[c4,Bool.false_or] at Nr;refine G_ ?_;refine eK (cs:=(bB pt).cells) rfl rfl rfl Afy rfl ?_;refine C_ ?_;rw[show pt.id=((pt.id.toNat:Nat):Int) by omega]
     refine AeC L pt.id.toNat (by omega) _ _ ?_
     refine G_ ?_;refine dG (k+1) (by omega) ⟨rfl,by omega⟩ ?_
     rw[Nr];exact E_
   have hke:k=s.parts.length:=by have:=of_decide_eq_false A5;omega
   subst hke;rw[List.take_length];refine G_ ?_;cases c4:ix s.parts en.path
   case true =>
     rw[c4,Bool.not_true,cond_false] at hS;refine G_ ?_;refine dG (i+1,e,t) (by dsimp only;omega) ⟨fX,by dsimp only;omega,by dsimp only;omega,hw.mono (by dsimp only;omega) (Nat.le_refl m),hS⟩ ?_
     exact E_
   rw[c4,Bool.not_false,cond_true] at hS;have w2:=pW hw en.path;refine G_ ?_;apply ay (v:=ec e);rfl;rfl;rfl;refine C_ ?_;refine nP L e en.path Jv (n+i) m hw (by omega) Y _ fun Z fZ=>?_
   generalize e.remove en.path=y at *;refine G_ ?_;refine bS (bI:=(ec y.1).cells) rfl rfl rfl rfl rfl rfl rfl ?_;refine G_ ?_;cases c5:y.2 != 0
   case true =>
     rw[c5,cond_true] at hS;rw[←hS,c5,cond_true] at hk;refine G_ ?_;apply ay (v:=ec y.1);rfl;rfl;rfl;refine G_ ?_;refine av (v:=ec y.1) (bI:=(ec y.1).cells) rfl rfl rfl rfl rfl rfl rfl rfl ?_;refine G_ ?_;exact aa (hk Z (fX.trans fZ))
   rw[c5,cond_false] at hS;have Cb:y.2=0:=by simpa using c5
   rw[Cb];refine G_ ?_;refine dG (i+1,y.1,t+1) (by dsimp only;omega) ⟨fX.trans fZ,by dsimp only;omega,by dsimp only;omega,w2.mono (by dsimp only;omega) (Nat.le_refl m),hS⟩ ?_
   exact E_
 have hie:i=l.length:=by have:=of_decide_eq_false hc;omega
 subst hie;rw[List.drop_length,aS] at hS;rw[←hS] at hk;dsimp only at hk;rw[show ((0:Int) != 0)=false from rfl,cond_false] at hk;refine G_ ?_;cases c6:decide (0 < (t:Int))
 case false =>
   rw[c6,cond_false] at hk;refine G_ ?_;apply ay (v:=ec e);rfl;rfl;rfl;refine G_ ?_;refine av (v:=ec e) (bI:=(ec e).cells) rfl rfl rfl rfl rfl rfl rfl rfl ?_;refine G_ ?_;exact aa (hk X fX)
 rw[c6,cond_true] at hk;refine G_ ?_;apply ay (v:=ec e);rfl;rfl;rfl;refine C_ ?_;refine mw L e (n+l.length) m hw (by omega) X _ fun Z fZ=>?_
 generalize e.aM=y at *;refine G_ ?_;refine bS (bI:=(ec y.1).cells) rfl rfl rfl rfl rfl rfl rfl ?_;refine G_ ?_;cases c7:y.2 != 0
 case true =>
   rw[c7,cond_true] at hk;refine G_ ?_;apply ay (v:=ec y.1);rfl;rfl;rfl;refine G_ ?_;refine av (v:=ec y.1) (bI:=(ec y.1).cells) rfl rfl rfl rfl rfl rfl rfl rfl ?_;refine G_ ?_;exact aa (hk Z (fX.trans fZ))
 rw[c7,cond_false] at hk;refine G_ ?_;apply ay (v:=ec y.1);rfl;rfl;rfl;refine G_ ?_;refine av (v:=ec y.1) (bI:=(ec y.1).cells) rfl rfl rfl rfl rfl rfl rfl rfl ?_;refine G_ ?_;exact aa (hk Z (fX.trans fZ))
end Sm
namespace Sm
open Go
def Aff(l:List (List UInt8))(f:List UInt8→Bool):Prop:=∀p,l.any (fun a=>a==p)=f p
theorem Aff.put{l:List (List UInt8)}{f:List UInt8→Bool}(h:Aff l f)(x:List UInt8):Aff (sP id l x) fun p=>f p||(x==p):=fun p=>by
 have hp:=h p;unfold sP;split
 · next hx =>
   rw[List.any_map];have e:(l.any ((fun a=>a==p)∘fun a=>if id a==id x then x else a))=l.any fun a=>a==p:=by
     congr 1;funext a;simp only[Function.comp,id]
     by_cases c:a==x
     · rw[if_pos c];have:=eq_of_beq c;rw[this]
     · rw[if_neg c]
   rw[e,hp];show f p=(f p||(x==p));cases c:x==p;{rw[Bool.or_false]};{have c:=eq_of_beq c;subst c;simp only[id] at hx;rw[Bool.or_true,←hp,hx]}
 · rw[List.any_append,hp];simp
theorem Afg{X:ab}{x:Eo}{l:List UInt8}(h:CB X x.v l):(iH x).el=true:=by
 obtain⟨e,v⟩:=x;change CB X v l at h;rcases h with⟨rfl,rfl⟩ | ⟨rfl,rfl⟩ | ⟨a,c,zs,rfl,h1,h2,h3,h4⟩<;>rfl
theorem Afz(p:List UInt8):IA p LR=(bif decide ((p.length:Int) < 10) then false else p.take 10==LR):=by
 unfold IA
 by_cases h:(p.length:Int) < 10
 · rw[decide_eq_true h,cond_true,decide_eq_false (show ¬LR.length≤p.length by show ¬10≤_;omega),Bool.false_and]
 · rw[decide_eq_false h,cond_false,decide_eq_true (show LR.length≤p.length by show 10≤_;omega),Bool.true_and];rfl
theorem Ae5(l:List (List UInt8))(p:List UInt8):(match l.find? (fun a=>id a==p) with
   | some a=>Jr false (B true) true
   | none=>B false)=B (l.any fun a=>a==p):=by
 induction l with
 | nil=>rfl
 | cons a l ih =>
   rw[List.find?_cons,List.any_cons];simp only[id] at ih ⊢;cases c:a==p;{rw[Bool.false_or];exact ih};{rfl}
theorem Afh{H:ab}{b:Nat}{l:List (List UInt8)}(h:MP H b (id:List UInt8→List UInt8) (fun _=>B true) l)(p:List UInt8){R:HV→ab→Prop}(hk:R (B (l.any fun a=>a==p)) H):fG (.CF true false false [B false]) [.v (.map (some b)),.v (.string ⟨p.toArray⟩)] H R:=by
 refine KB h p false false _ (z':=B false) ?_ (an.refl _);have e:=Ae5 l p;cases hf:l.find? (fun a=>id a==p) with
 | none =>
   rw[hf] at e;have e:B false=_:=e;rw[←e] at hk;exact hk
 | some a =>
   rw[hf] at e;have e:B true=_:=e;rw[←e] at hk;exact hk
attribute [local irreducible] aH aj aX ju FD DR DF kS bk aA aL bn DK RK JK BR G3 bh Spec Tok Fr CV
theorem AeD(L:ai code)(C:JC L)(b:Nat)(h:Hd)(d:Dk)(s:ek)(n m:Nat)(hw:d.WF n m)(hn:n+n+10 < 1048000)(hm:m≤1048576)(hs:j8 s)(H:ab)(hD:KD H b h d)(K:HV→ab→Prop)
   (hk:∀Y h',KD Y b h' (u6 d s).1→Own H Y (h.bs b) (h'.bs b)→K (.tu [I (u6 d s).2.1,I (u6 d s).2.2]) Y):Spec L.P L.ν 394 [ptr b,fD s] H K:=by
 have LB:=hs.len;have B2:=vN hw;have z7:=Aeu hw;refine ah L O3 rfl ?_;refine G_ ?_;refine ep (v:=fD s) (cs:=j7 s) rfl rfl rfl rfl rfl ?_;refine G_ ?_;refine gi rfl fun mb hmb=>?_;have h1:MP (H.bt mb (some (.mp [] 0))) mb (id:List UInt8→List UInt8) (fun _=>B true) []:=MP.new;have g1:Fr [] H (H.bt mb (some (.mp [] 0))):=Fr.new hmb;have nb:=hD.new hmb;generalize H.bt mb (some (.mp [] 0))=X1 at h1 g1;refine G_ ?_;refine aV (ak L) (fun(k:Nat)=>[(0,.h (ptr b)),(3,.lp 0 0),(6,.h (.v (.map (some mb)))),(18,.h (.sl .no 36 (s.parts.map bB))),(19,.h (I s.parts.length)),(20,.h (I k))]) (fun _=>[(0,j7 s)]) (fun k X=>k≤s.parts.length∧Fr [] H X∧∃l,MP X mb (id:List UInt8→List UInt8) (fun _=>B true) l∧Aff l (ix (s.parts.take k))) (fun k=>s.parts.length - k) 0 ?_ ⟨by omega,g1,[],h1,fun p=>rfl⟩ ?_
 · exact E_
 clear h1 g1;rintro k X ⟨gF,fX,l0,hM,hS⟩;refine G_ ?_;(refine ct T_ ?_ ?_<;>intro hc)
 · have bN:k < s.parts.length:=by have:=of_decide_eq_true hc;omega
   have hid:=hs.lt _ (List.getElem_mem bN);have Qi:=hs.nx;have Nr:=fun p=>Aen bN p;have Afy:(s.parts.map bB)[k]? = some (bB s.parts[k]):=by rw[List.getElem?_map,List.getElem?_eq_getElem bN];rfl
   generalize s.parts[k]=pt at *;refine G_ ?_;refine eK (cs:=(bB pt).cells) rfl rfl rfl Afy rfl ?_;refine ed (v:=bB pt) rfl rfl ?_;refine G_ ?_;refine av (v:=bB pt) (bI:=(bB pt).cells) rfl rfl rfl rfl rfl rfl rfl rfl ?_;refine C_ ?_;rw[show pt.id=((pt.id.toNat:Nat):Int) by omega]
   refine B1 L C pt.id.toNat (by omega) X _ fun Y fY=>?_
   have hMY:=hM.fr fY (by simp)
   refine G_ ?_;refine KG rfl (Vg hMY (LR++yX pt.id.toNat) fun Z hZ fZ=>?_);have hmH:H mb=none:=hmb;refine G_ ?_;refine dG (k+1) (by omega) ⟨by omega,(fX.trans fY).own hmH fZ,_,hZ,fun p=>by rw[Nr p];exact hS.put _ p⟩ ?_
   exact E_
 have hke:k=s.parts.length:=by have:=of_decide_eq_false hc;omega
 subst hke;rw[List.take_length] at hS;have Qd:=hD.dt fX;refine C_ ?_;refine od L C.cl b h d n m hw (by omega) (by omega) X Qd _ fun im Y OU hE ZJ fY=>?_
 have hMY:=hM.fr fY (by simp)
 have hDY:=Qd.dt fY;have oY:Own H Y (h.bs b) (h.bs b):=Own.of _ (fX.trans fY);have AfO:∀x∈im,(iH x).el=true:=fun x hx=>Afg (hE x hx).1;have hlen:im.length≤n:=by have:=congrArg List.length OU;rw[List.length_map] at this;omega
 unfold u6 at hk;rw[←OU] at hk z7;refine G_ ?_;refine aV (ak L) (fun(q:Nat×Hd×Dk×Nat)=>[(0,.h (ptr b)),(6,.h (.v (.map (some mb)))),(9,.h (I q.2.2.2)),(30,.h (.sl .no 3 (im.map iH))),(31,.h (I im.length)),(32,.h (I q.1))]) (fun _=>[]) (fun q X=>q.1≤im.length∧q.2.2.2≤q.1∧KD X b q.2.1 q.2.2.1∧Own H X (h.bs b) (q.2.1.bs b)∧MP X mb (id:List UInt8→List UInt8) (fun _=>B true) l0∧mb∉q.2.1.bs b∧q.2.2.1.WF (n+q.1) m∧aS s ((im.map Eo.e).drop q.1) q.2.2.1 q.2.2.2=aS s (im.map Eo.e) d 0) (fun q=>im.length - q.1) (0,h,d,0) ?_ ⟨by simp,by simp,hDY,oY,hMY,nb,hw,rfl⟩ ?_
 · exact E_
 clear hMY hDY oY hE ZJ hM hD Qd fX fY nb hw;rintro⟨i,h2,e,t⟩ Z ⟨hi,hti,ZM,oZ,Cf,F2,hw,r7⟩;dsimp only at hi hti ZM oZ F2 hw r7 ⊢;refine G_ ?_;(refine ct T_ ?_ ?_<;>intro A5)
 · have bN:i < im.length:=by have:=of_decide_eq_true A5;omega
   have AfH:i < (im.map Eo.e).length:=by rw[List.length_map];exact bN
   have eB:(im.map iH)[i]? = some (iH im[i]):=by rw[List.getElem?_map,List.getElem?_eq_getElem bN];rfl
   have Jv:=z7 _ (List.getElem_mem AfH);rw[Aet AfH] at r7;rw[List.getElem_map] at r7 Jv;have he1:=AfO _ (List.getElem_mem bN);generalize im[i]=eo at *;refine G_ ?_;refine eK (cs:=cO eo) rfl rfl rfl eB rfl ?_;refine ed (v:=iH eo) rfl rfl ?_;refine G_ ?_;refine av (v:=iH eo) (bI:=cO eo) rfl rfl he1 rfl rfl rfl rfl rfl ?_;refine G_ ?_;cases c1:eo.e.dir
   case true =>
     rw[show lx eo.e=false by unfold lx;rw[c1];rfl,Bool.false_and,cond_false] at r7
     refine G_ ?_;refine dG (i+1,h2,e,t) (by dsimp only;omega) ⟨by dsimp only;omega,by dsimp only;omega,ZM,oZ,Cf,F2,hw.mono (by dsimp only;omega) (Nat.le_refl m),r7⟩ ?_
     exact E_
   have hT:lx eo.e=IA eo.e.path LR:=by unfold lx;rw[c1,Afz];rfl
   rw[hT] at r7;refine C_ ?_;refine Py L eo.e.path LR _ _ ?_;refine G_ ?_;cases c2:IA eo.e.path LR
   · rw[c2,Bool.false_and,cond_false] at r7;rw[Bool.not_false];refine G_ ?_;refine dG (i+1,h2,e,t) (by dsimp only;omega) ⟨by dsimp only;omega,by dsimp only;omega,ZM,oZ,Cf,F2,hw.mono (by dsimp only;omega) (Nat.le_refl m),r7⟩ ?_
     exact E_
   rw[c2,Bool.true_and] at r7;rw[Bool.not_true];refine G_ ?_;refine gi rfl (Afh Cf eo.e.path ?_);rw[hS];refine G_ ?_;cases c3:ix s.parts eo.e.path
   case true =>
     rw[c3,Bool.not_true,cond_false] at r7;refine G_ ?_;refine dG (i+1,h2,e,t) (by dsimp only;omega) ⟨by dsimp only;omega,by dsimp only;omega,ZM,oZ,Cf,F2,hw.mono (by dsimp only;omega) (Nat.le_refl m),r7⟩ ?_
     exact E_
   rw[c3,Bool.not_false,cond_true] at r7;have w2:=pW hw eo.e.path;refine C_ ?_;refine kX L b h2 e eo.e.path (n+i) m hw (by omega) Jv Z ZM _ fun V h3 hV oV=>?_
   generalize e.remove eo.e.path=y at *;refine G_ ?_;cases c5:y.2 != 0
   case true =>
     rw[c5,cond_true] at r7;rw[←r7,c5,cond_true] at hk;refine G_ ?_;exact aa (hk V h3 hV (oZ.trans oV))
   rw[c5,cond_false] at r7;obtain⟨r0,hr0⟩:=Cf.held;refine G_ ?_;refine dG (i+1,h3,y.1,t+1) (by dsimp only;omega) ⟨by dsimp only;omega,by dsimp only;omega,hV,oZ.trans oV,Cf.fr oV.fr F2,oV.apart F2 hr0,w2.mono (by dsimp only;omega) (Nat.le_refl m),r7⟩ ?_
   exact E_
 have hie:i=im.length:=by have:=of_decide_eq_false A5;omega
 subst hie;rw[List.drop_of_length_le (by rw[List.length_map];exact Nat.le_refl _),aS] at r7
 rw[←r7] at hk;dsimp only at hk;rw[show ((0:Int) != 0)=false from rfl,cond_false] at hk;refine G_ ?_;cases c6:(t:Int)==0
 case true =>
   have c6:t=0:=by simpa using c6
   subst c6;rw[show decide (0 < ((0:Nat):Int))=false from rfl,cond_false] at hk;refine G_ ?_;exact aa (hk Z h2 ZM oZ)
 have c6:t≠0:=by simpa using c6
 rw[decide_eq_true (show 0 < (t:Int) by omega),cond_true] at hk
 refine C_ ?_;refine jz L b h2 e (n+im.length) m hw (by omega) Z ZM _ fun V h3 hV oV=>?_
 generalize e.aM=y at *;refine G_ ?_;cases c7:y.2 != 0
 case true =>
   rw[c7,cond_true] at hk;refine G_ ?_;exact aa (hk V h3 hV (oZ.trans oV))
 rw[c7,cond_false] at hk;refine G_ ?_;exact aa (hk V h3 hV (oZ.trans oV))
end Sm
namespace Sm
open Go
attribute [local irreducible] aH aj aX ju FD DR DF kS bk aA aL bn DK RK JK BR G3 bh Spec Tok Fr CV
theorem Aev(L:ai code)(C:Cl L)(w b:Nat)(h:Hd)(d:Dk)(a:Ac)(jp x0 x1 x2 x3 x4 x5 x6 x7 x8 r9 JH JI JJ:HV)(k:Bool)(n m:Nat)(hw:d.WF n m)(hn:n+10 < 1048000)(hm:m≤900000)(nM:a.d.b.length≤1048576)(hk6:a.kind.toNat % 8=6)
   (H:ab) (hD:KD H b h d) (hW:H w=some (.obj (wC b jp d [x0,x1,x2,x3,x4,x5,x6,x7,x8,r9,JH,JI,JJ] k))) (nw:w∉h.bs b) (K:HV→ab→Prop)
   (pU:(cL (d.ky a.d.n a.d.b)).2.1=none→∀Y h',KD Y b h' (cL (d.ky a.d.n a.d.b)).1→Own H Y (w::h.bs b) (w::h'.bs b)→Y w=some (.obj (wC b nI (cL (d.ky a.d.n a.d.b)).1 (oB (cL (d.ky a.d.n a.d.b)).1) false))→w∉h'.bs b→K (B true) Y)
   (gF:∀j,(cL (d.ky a.d.n a.d.b)).2.1=some j→∀Y h' a',KD Y b h' (cL (d.ky a.d.n a.d.b)).1→KJ Y a' b j→Own H Y (w::h.bs b) (w::a'::h'.bs b)→Y w=some (.obj (wC b (ptr a') (cL (d.ky a.d.n a.d.b)).1 (LX (cL (d.ky a.d.n a.d.b)).1 j) true))→w∉h'.bs b→a'∉h'.bs b→a'≠w→K (B true) Y):Spec L.P L.ν 391 [ptr w,ZX a] H K:=by
 refine ah L FZ rfl ?_;refine G_ ?_;refine ep (v:=ZX a) (cs:=uc a) rfl rfl rfl rfl rfl ?_;refine G_ ?_;apply bz (v:=ec d);rfl;(focus exact hW);rfl;refine G_ ?_;refine bH (bI:=wC b jp d (Aa d r9 JH JI JJ) k) rfl rfl rfl rfl hW rfl rfl fun X1 VY Jw=>?_;have oy:=hD.Nn Jw nw;refine G_ ?_;have r8:((a.kind.toNat:Int).tmod 8)=6:=by rw[Int.tmod_eq_emod_of_nonneg (by omega)];omega
 rw[r8];refine G_ ?_;rw[show ((6:Int)==5)=false from rfl];refine G_ ?_;rw[show ((6:Int)==6)=true from rfl];refine C_ ?_;have wc:=s6 hw a.d.n a.d.b;refine mr L C b h d a.d.n a.d.b n m hw (by omega) (by omega) (by omega) X1 oy _ fun X2 h2 lW o2=>?_
 have Nk:=o2.get nw VY;have QB:=o2.apart nw VY;refine G_ ?_;apply bz (v:=ec d);rfl;(focus exact Nk);rfl;refine C_ ?_;refine qS L d a.d.n a.d.b n m hw (by omega) (by omega) nM X2 _ fun X3 f3=>?_
 have VN:=Nk |> f3.get (by simp)
 generalize d.ky a.d.n a.d.b=e at *;refine G_ ?_;refine bH (bI:=wC b jp e (Aa d r9 JH JI JJ) k) rfl rfl rfl rfl VN rfl rfl fun X4 xJ ZZ=>?_;have iR:=(lW.dt f3).Nn ZZ QB;have o4:Own H X4 (w::h.bs b) (w::h2.bs b):=(Own.at _ Jw).trans (((o2.trans (Own.of _ f3)).cons w).trans (Own.at _ ZZ));refine C_ ?_;refine B6 L C w b h2 e jp _ _ _ _ _ _ _ _ _ _ _ _ _ k n m wc hn hm X4 iR xJ QB _ (fun ho Y h' hY oY fU ri=>?_) (fun j ho Y h' a' hY ZT oY fU ri vX kM=>?_);{refine G_ ?_;exact aa (pU ho Y h' hY (o4.trans oY) fU ri)};{refine G_ ?_;exact aa (gF j ho Y h' a' hY ZT (o4.trans oY) fU ri vX kM)}
theorem AeW(L:ai code)(w b:Nat)(h:Hd)(d:Dk)(a:Ac)(jp x0 x1 x2 x3 x4 x5 x6 x7 x8 r9 JH JI JJ:HV)(h5:a.kind.toNat % 8≠5)(h6:a.kind.toNat % 8≠6)
   (H:ab) (hD:KD H b h d) (hW:H w=some (.obj (wC b jp d [x0,x1,x2,x3,x4,x5,x6,x7,x8,r9,JH,JI,JJ] false))) (nw:w∉h.bs b) (K:HV→ab→Prop)
   (hk:∀Y,KD Y b h d→Own H Y (w::h.bs b) (w::h.bs b)→Y w=some (.obj (wC b jp d (Aa d r9 JH JI JJ) false))→K (B true) Y):Spec L.P L.ν 391 [ptr w,ZX a] H K:=by
 refine ah L FZ rfl ?_;refine G_ ?_;refine ep (v:=ZX a) (cs:=uc a) rfl rfl rfl rfl rfl ?_;refine G_ ?_;apply bz (v:=ec d);rfl;(focus exact hW);rfl;refine G_ ?_;refine bH (bI:=wC b jp d (Aa d r9 JH JI JJ) false) rfl rfl rfl rfl hW rfl rfl fun X1 VY Jw=>?_;have oy:=hD.Nn Jw nw;refine G_ ?_;have r8:((a.kind.toNat:Int).tmod 8)=((a.kind.toNat % 8:Nat):Int):=by rw[Int.tmod_eq_emod_of_nonneg (by omega)];rfl
 rw[r8];generalize a.kind.toNat % 8=kk at *;refine G_ ?_;rw[show ((kk:Int)==5)=false by simp;omega]
 refine G_ ?_;rw[show ((kk:Int)==6)=false by simp;omega]
 refine G_ ?_;exact aa (hk X1 oy (Own.at _ Jw) VY)
theorem AeX(L:ai code)(C:JC L)(w b a:Nat)(h:Hd)(d rd:Dk)(j:Jn)(x:Ac)(n m:Nat)(hw:d.WF n m)(hn:n+n+10 < 1048000)(hm:m≤1048576)(hs:j8 j.s)(hk7:x.kind.toNat % 8=7)
   (H:ab) (hD:KD H b h d) (hJ:KJ H a b j) (hW:H w=some (.obj (wC b (ptr a) d (LX rd j) true))) (nw:w∉h.bs b) (na:a∉h.bs b) (kM:a≠w) (K:HV→ab→Prop)
   (hk:∀Y h',KD Y b h' (u6 d j.s).1→KJ Y a b j→Own H Y (w::a::h.bs b) (w::a::h'.bs b)→Y w=some (.obj (wC b (ptr a) (u6 d j.s).1 (LX d j) true))→w∉h'.bs b→a∉h'.bs b→K (B true) Y):Spec L.P L.ν 391 [ptr w,ZX x] H K:=by
 have LB:=hs.len;refine ah L FZ rfl ?_;refine G_ ?_;refine ep (v:=ZX x) (cs:=uc x) rfl rfl rfl rfl rfl ?_;refine G_ ?_;apply bz (v:=ec d);rfl;(focus exact hW);rfl;refine G_ ?_;refine bH (bI:=wC b (ptr a) d (LX d j) true) rfl rfl rfl rfl hW rfl rfl fun X1 VY Jw=>?_;have oy:=hD.Nn Jw nw;have v8:KJ X1 a b j:=hJ.fr Jw (by simpa using kM)
 refine G_ ?_;have r8:((x.kind.toNat:Int).tmod 8)=7:=by rw[Int.tmod_eq_emod_of_nonneg (by omega)];omega
 rw[r8];refine G_ ?_;rw[show ((7:Int)==5)=false from rfl];refine G_ ?_;rw[show ((7:Int)==6)=false from rfl];refine G_ ?_;rw[show ((7:Int)==7)=true from rfl];refine C_ ?_;refine mI L a b j (by omega) X1 v8 _ fun X2 f2=>?_
 have Nk:=VY |> f2.get (by simp)
 have lW:=oy.dt f2;have vZ:=v8.dt f2;refine ax ?_;refine ee rfl (nA (v:=ptr b) rfl Nk rfl rfl) ?_;refine C_ ?_;refine AeD L C b h d j.s n m hw hn hm hs X2 lW _ fun X3 h3 yw o3=>?_;have VN:=o3.get nw Nk;have ZU:KJ X3 a b j:=o3.get na vZ;have zK:=o3.apart nw Nk;have na3:=o3.apart na vZ;refine G_ ?_;apply bz (v:=ec d);rfl;(focus exact VN);rfl;refine G_ ?_;apply bz (v:=fD j.s);rfl;(focus exact VN);rfl;refine C_ ?_;refine Aey L d j.s n m hw hn hm hs X3 _ fun X4 f4=>?_;have BF:=VN |> f4.get (by simp)
 generalize u6 d j.s=e at *;refine G_ ?_;refine av (v:=ec e.1) (bI:=(ec e.1).cells) rfl rfl rfl rfl rfl rfl rfl rfl ?_;refine G_ ?_;apply ay (v:=ec e.1);rfl;rfl;rfl;refine G_ ?_;refine bH (bI:=wC b (ptr a) e.1 (LX d j) true) rfl rfl rfl rfl BF rfl rfl fun X5 NL wb=>?_;refine G_ ?_;exact aa (hk X5 h3 ((yw.dt f4).Nn wb zK) ((ZU.dt f4).fr wb (by simpa using kM)) ((Own.at _ Jw).trans ((((Own.of _ f2).trans (o3.trans (Own.of _ f4))).cons a).cons w |>.trans (Own.at _ wb))) NL zK na3)
theorem AeY(L:ai code)(C:Cl L)(w b a:Nat)(h:Hd)(d rd:Dk)(j:Jn)(x:Ac)(n m:Nat)(hw:d.WF n m)(hn:n+10 < 1048000)(qM:(n+2)*m≤1152921504606846976)(hm:m≤1048576)(hs:j8 j.s)(hk4:x.kind.toNat % 8=4)
   (H:ab) (hD:KD H b h d) (hJ:KJ H a b j) (hW:H w=some (.obj (wC b (ptr a) d (LX rd j) true))) (nw:w∉h.bs b) (na:a∉h.bs b) (kM:a≠w) (K:HV→ab→Prop)
   (hk:∀Y h',KD Y b h' (tT d j).1→KJ Y a b (tT d j).2.1→Own H Y (w::a::h.bs b) (w::a::h'.bs b)→Y w=some (.obj (wC b (ptr a) (tT d j).1 (LX (tT d j).1 (tT d j).2.1) true))→w∉h'.bs b→a∉h'.bs b→K (B true) Y):Spec L.P L.ν 391 [ptr w,ZX x] H K:=by
 have nwa:w∉a::h.bs b:=fun hm=>by
   rcases List.mem_cons.mp hm with e | hm;{exact kM e.symm};{exact nw hm}
 refine ah L FZ rfl ?_;refine G_ ?_;refine ep (v:=ZX x) (cs:=uc x) rfl rfl rfl rfl rfl ?_;refine G_ ?_;apply bz (v:=ec d);rfl;(focus exact hW);rfl;refine G_ ?_;refine bH (bI:=wC b (ptr a) d (LX d j) true) rfl rfl rfl rfl hW rfl rfl fun X1 VY Jw=>?_;have oy:=hD.Nn Jw nw;have v8:KJ X1 a b j:=hJ.fr Jw (by simpa using kM)
 refine G_ ?_;have r8:((x.kind.toNat:Int).tmod 8)=4:=by rw[Int.tmod_eq_emod_of_nonneg (by omega)];omega
 rw[r8];refine G_ ?_;rw[show ((4:Int)==5)=false from rfl];refine G_ ?_;rw[show ((4:Int)==6)=false from rfl];refine G_ ?_;rw[show ((4:Int)==7)=false from rfl];refine G_ ?_;rw[show ((4:Int)==4)=true from rfl];refine C_ ?_;refine B0 L C a b j h d n m hw (by omega) qM hm X1 oy v8 na hs _ fun X2 h2 lW o2 vZ na2=>?_
 have Nk:=o2.get nwa VY;have QB:=o2.apart nwa VY;refine G_ ?_;apply bz (v:=OH d j);rfl;(focus exact Nk);rfl;refine C_ ?_;refine AeB L d j n m hw hn qM hm hs X2 _ fun X3 f3=>?_;have VN:=Nk |> f3.get (by simp)
 generalize tT d j=e at *;refine G_ ?_;refine av (v:=OH e.1 e.2.1) (bI:=LX e.1 e.2.1) rfl rfl rfl rfl rfl rfl rfl rfl ?_;refine G_ ?_;apply ay (v:=OH e.1 e.2.1);rfl;rfl;rfl;refine G_ ?_;apply ay (v:=ec e.1);rfl;rfl;rfl;refine G_ ?_;refine bH (bI:=wC b (ptr a) d (LX e.1 e.2.1) true) rfl rfl rfl rfl VN rfl rfl fun X4 xJ ZZ=>?_;refine G_ ?_;refine bH (bI:=wC b (ptr a) e.1 (LX e.1 e.2.1) true) rfl rfl rfl rfl xJ rfl rfl fun X5 NL wb=>?_;refine G_ ?_;have zK:w∉h2.bs b:=fun hm=>QB (List.mem_cons_of_mem _ hm);exact aa (hk X5 h2 (((lW.dt f3).Nn ZZ zK).Nn wb zK) (((vZ.dt f3).fr ZZ (by simpa using kM)).fr wb (by simpa using kM)) ((Own.at _ Jw).trans (((o2.trans (Own.of _ f3)).cons w).trans ((Own.at _ ZZ).trans (Own.at _ wb)))) NL zK na2)
theorem AeZ(L:ai code)(w b a:Nat)(h:Hd)(d rd:Dk)(j:Jn)(x:Ac)(n m:Nat)(hw:d.WF n m)(hn:n+10 < 1048000)(qM:n*m≤1152921504606846976)(hm:m≤1048576)(hs:j8 j.s)(hj:0≤j.n∧j.n≤1099511627776)(hp:x.r.path.length≤1048576)(hk4:x.kind.toNat % 8 < 4)
   (H:ab) (hD:KD H b h d) (hJ:KJ H a b j) (hW:H w=some (.obj (wC b (ptr a) d (LX rd j) true))) (nw:w∉h.bs b) (na:a∉h.bs b) (kM:a≠w) (K:HV→ab→Prop)
   (hk:∀Y h',KD Y b h' (ou d j x.r).1→KJ Y a b (ou d j x.r).2.1→Own H Y (w::a::h.bs b) (w::a::h'.bs b)→Y w=some (.obj (wC b (ptr a) (ou d j x.r).1 (LX (ou d j x.r).1 (ou d j x.r).2.1) true))→w∉h'.bs b→a∉h'.bs b→K (B true) Y):Spec L.P L.ν 391 [ptr w,ZX x] H K:=by
 have LB:=hs.len;have nwa:w∉a::h.bs b:=fun hm=>by
   rcases List.mem_cons.mp hm with e | hm;{exact kM e.symm};{exact nw hm}
 refine ah L FZ rfl ?_;refine G_ ?_;refine ep (v:=ZX x) (cs:=uc x) rfl rfl rfl rfl rfl ?_;refine G_ ?_;apply bz (v:=ec d);rfl;(focus exact hW);rfl;refine G_ ?_;refine bH (bI:=wC b (ptr a) d (LX d j) true) rfl rfl rfl rfl hW rfl rfl fun X1 VY Jw=>?_;have oy:=hD.Nn Jw nw;have v8:KJ X1 a b j:=hJ.fr Jw (by simpa using kM)
 refine G_ ?_;have r8:((x.kind.toNat:Int).tmod 8)=((x.kind.toNat % 8:Nat):Int):=by rw[Int.tmod_eq_emod_of_nonneg (by omega)];rfl
 rw[r8];generalize x.kind.toNat % 8=kk at *;refine G_ ?_;rw[show ((kk:Int)==5)=false by simp;omega]
 refine G_ ?_;rw[show ((kk:Int)==6)=false by simp;omega]
 refine G_ ?_;rw[show ((kk:Int)==7)=false by simp;omega]
 refine G_ ?_;rw[show ((kk:Int)==4)=false by simp;omega]
 refine G_ ?_;apply ay (v:=bc x.r);rfl;rfl;rfl;refine C_ ?_;refine AeT L x.r _ _ ?_;refine ax ?_;refine ee rfl (nA (v:=ptr a) rfl VY rfl rfl) ?_;refine C_ ?_;refine vP L a b x.r j h d n m hw (by omega) qM hm X1 oy v8 na hj (by omega) hp _ fun X2 h2 lW o2 vZ na2=>?_
 have Nk:=o2.get nwa VY;have QB:=o2.apart nwa VY;refine G_ ?_;apply bz (v:=OH d j);rfl;(focus exact Nk);rfl;refine G_ ?_;apply ay (v:=bc x.r);rfl;rfl;rfl;refine C_ ?_;refine AeH L d j x.r n m hw (by omega) qM hm hs hp hj X2 _ fun X3 f3=>?_
 have VN:=Nk |> f3.get (by simp)
 generalize ou d j x.r=e at *;refine G_ ?_;refine av (v:=OH e.1 e.2.1) (bI:=LX e.1 e.2.1) rfl rfl rfl rfl rfl rfl rfl rfl ?_;refine G_ ?_;apply ay (v:=OH e.1 e.2.1);rfl;rfl;rfl;refine G_ ?_;apply ay (v:=ec e.1);rfl;rfl;rfl;refine G_ ?_;refine bH (bI:=wC b (ptr a) d (LX e.1 e.2.1) true) rfl rfl rfl rfl VN rfl rfl fun X4 xJ ZZ=>?_;refine G_ ?_;refine bH (bI:=wC b (ptr a) e.1 (LX e.1 e.2.1) true) rfl rfl rfl rfl xJ rfl rfl fun X5 NL wb=>?_;refine G_ ?_;have zK:w∉h2.bs b:=fun hm=>QB (List.mem_cons_of_mem _ hm);exact aa (hk X5 h2 (((lW.dt f3).Nn ZZ zK).Nn wb zK) (((vZ.dt f3).fr ZZ (by simpa using kM)).fr wb (by simpa using kM)) ((Own.at _ Jw).trans (((o2.trans (Own.of _ f3)).cons w).trans ((Own.at _ ZZ).trans (Own.at _ wb)))) NL zK na2)
end Sm
namespace Sm
open Go
def Ab(H X:ab)(w b:Nat)(d:Dk)(o:Option Jn):Prop:=∃h rd,KD X b h d∧Fr [] H X∧w∉h.bs b∧(∀c∈w::h.bs b,H c=none)∧match o with
 | none=>X w=some (.obj (wC b nI d (oB rd) false))
 | some j=>∃a,KJ X a b j∧a∉h.bs b∧a≠w∧H a=none∧X w=some (.obj (wC b (ptr a) d (LX rd j) true))
def xH(d:Dk)(o:Option Jn)(x:Ac):Dk×Option Jn:=
 if x.kind.toNat % 8=5 then ((Ng d x.d).1,o) else if x.kind.toNat % 8=6 then ((cL (d.ky x.d.n x.d.b)).1,(cL (d.ky x.d.n x.d.b)).2.1) else
 match o with
 | none=>(d,none)
 | some j=>if x.kind.toNat % 8=7 then ((u6 d j.s).1,some j) else if x.kind.toNat % 8=4 then ((tT d j).1,some (tT d j).2.1) else ((ou d j x.r).1,some (ou d j x.r).2.1)
theorem bm{H X Y:ab}{bs rz:List Nat}(f:Fr [] H X)(nl:∀c∈bs,H c=none)(o:Own X Y bs rz):Fr [] H Y∧∀c∈rz,H c=none:=
 ⟨Fr.sQ fun c r _ hr=>o.get (fun hm=>by rw[nl c hm] at hr;cases hr) (f.get (by simp) hr),fun c hc=>(o.nw c hc).elim (nl c) fun h0=>f.bM h0⟩
theorem Ab.dt{H X Y:ab}{w b:Nat}{d:Dk}{o:Option Jn}(s:Ab H X w b d o)(f:Fr [] X Y):Ab H Y w b d o:=by
 obtain⟨h,rd,k1,k2,k3,k4,k5⟩:=s;refine⟨h,rd,k1.dt f,k2.trans f,k3,k4,?_⟩;cases o with
 | none=>exact f.get (by simp) k5
 | some j =>
   obtain⟨a,a1,a2,a3,a4,a5⟩:=k5;exact⟨a,a1.dt f,a2,a3,a4,f.get (by simp) a5⟩
attribute [local irreducible] aH aj aX ju FD DR DF kS bk aA aL bn DK RK JK BR G3 bh Spec Tok Fr CV
theorem AeE(L:ai code)(C:Cl L)(r:Int)(H:ab)(K:HV→ab→Prop)(hk:∀Y w b,Ab H Y w b (cL (eD r)).1 (cL (eD r)).2.1→K (.tu [ptr w,B true]) Y):Spec L.P L.ν 389 [I r] H K:=by
 refine ah L AeP rfl ?_;refine C_ ?_;refine vi L r H _ fun bd h0 X0 yB AS g0=>?_;refine C_ ?_;refine Ii L r X0 _ fun X1 f1=>?_;have s0:DS H X1 bd h0 (eD r):=⟨AS.dt f1,g0.trans f1,yB⟩;refine G_ ?_;refine aG (x:=.h (.ag (wC bd nI (eD r) zQ false))) rfl rfl ?_;refine kU (v:=.ag (wC bd nI (eD r) zQ false)) (cs:=wC bd nI (eD r) zQ false) rfl rfl rfl rfl fun w X2 IX AN f2 s2=>?_;have kd:=s0.kd.dt f2;have fr:=s0.fr.trans f2;have nl:∀c∈w::h0.bs bd,H c=none:=fun c hc=>by
   rcases List.mem_cons.mp hc with rfl | hc;{exact s0.fr.bM IX};{exact s0.nw c hc}
 have nw:=s0.kd.new IX;refine C_ ?_;refine B6 L C w bd h0 (eD r) nI _ _ _ _ _ _ _ _ _ _ _ _ _ false 0 0 (wN r) (by omega) (by omega) X2 kd AN nw _ (fun ho Y h' hY oY fU ri=>?_) (fun j ho Y h' a hY hJ oY fU ri na kM=>?_)
 · obtain⟨q1,q2⟩:=bm fr nl oY;refine G_ ?_;refine aa (hk Y w bd ?_);rw[ho];exact⟨h',_,hY,q1,ri,q2,fU⟩
 · obtain⟨q1,q2⟩:=bm fr nl oY;refine G_ ?_;refine aa (hk Y w bd ?_);rw[ho];exact⟨h',_,hY,q1,ri,fun c hc=>q2 c (by
     rcases List.mem_cons.mp hc with rfl | hc;· simp
     · simp[hc]),a,hJ,na,kM,q2 a (by simp),fU⟩
theorem Aeo(L:ai code)(C:Cl L)(w b:Nat)(d:Dk)(o:Option Jn)(n m:Nat)(hw:d.WF n m)(hn:n < 1048000)(hm:m≤140737488355328)(hs:∀j,o=some j→j8 j.s)(H X:ab)(hP:Ab H X w b d o)(K:HV→ab→Prop)
   (hk:∀Y,Fr [] X Y→K (B true) Y):Spec L.P L.ν 390 [ptr w] X K:=by
 obtain⟨h,rd,k1,k2,k3,k4,k5⟩:=hP;cases o with
 | none=>exact zV L C w b h d nI _ _ _ _ _ _ _ _ _ _ _ _ _ n m hw hn hm X k1 k5 K hk
 | some j =>
   obtain⟨a,a1,a2,a3,a4,a5⟩:=k5;exact zW L C w b a h d rd j n m hw hn hm (hs j rfl) X k1 a1 a5 K hk
theorem Ae6(L:ai code)(C:JC L)(w b:Nat)(d:Dk)(o:Option Jn)(x:Ac)(n m:Nat)(hw:d.WF n m)(hn:n+n+10 < 1048000)(hm:m≤900000)(hs:∀j,o=some j→j8 j.s∧0≤j.n∧j.n≤1099511627776)
   (nM:x.d.b.length≤300) (hp:x.d.p.length≤300) (hq:x.d.q.length≤300) (hr:x.r.path.length≤300) (H X:ab) (hP:Ab H X w b d o) (K:HV→ab→Prop)
   (hk:∀Y,Ab H Y w b (xH d o x).1 (xH d o x).2→K (B true) Y):Spec L.P L.ν 391 [ptr w,ZX x] X K:=by
 have qM:(n+2)*m≤1152921504606846976:=Nat.le_trans (Nat.mul_le_mul (show n+2≤1048000 by omega) hm) (by decide)
 have AfA:n*m≤1152921504606846976:=Nat.le_trans (Nat.mul_le_mul_right m (show n≤n+2 by omega)) qM
 obtain⟨h,rd,k1,k2,k3,k4,k5⟩:=hP
 by_cases h5:x.kind.toNat % 8=5
 · unfold xH at hk;rw[if_pos h5] at hk;cases o with
   | none =>
     refine qk L C.cl w b h d x nI _ _ _ _ _ _ _ _ _ _ _ _ _ false n m hw (by omega) AfA (by omega) (by omega) (by omega) (by omega) h5 X k1 k5 k3 K fun Y h' hY oY fU ri=>hk Y ?_
     obtain⟨q1,q2⟩:=bm k2 k4 oY;exact⟨h',d,hY,q1,ri,q2,fU⟩
   | some j =>
     obtain⟨a,a1,a2,a3,a4,a5⟩:=k5;have na:a∉w::h.bs b:=fun hm=>by
       rcases List.mem_cons.mp hm with e | hm;{exact a3 e};{exact a2 hm}
     refine qk L C.cl w b h d x (ptr a) _ _ _ _ _ _ _ _ _ _ _ _ _ true n m hw (by omega) AfA (by omega) (by omega) (by omega) (by omega) h5 X k1 a5 k3 K fun Y h' hY oY fU ri=>hk Y ?_
     obtain⟨q1,q2⟩:=bm k2 k4 oY;exact⟨h',d,hY,q1,ri,q2,a,oY.get na a1,fun hm=>oY.apart na a1 (List.mem_cons_of_mem _ hm),a3,a4,fU⟩
 by_cases h6:x.kind.toNat % 8=6
 · unfold xH at hk;rw[if_neg h5,if_pos h6] at hk;have AfI:(cL (d.ky x.d.n x.d.b)).2.1=none→∀Y h',KD Y b h' (cL (d.ky x.d.n x.d.b)).1→Own X Y (w::h.bs b) (w::h'.bs b)→Y w=some (.obj (wC b nI (cL (d.ky x.d.n x.d.b)).1 (oB (cL (d.ky x.d.n x.d.b)).1) false))→w∉h'.bs b→K (B true) Y:=fun ho Y h' hY oY fU ri=>hk Y (by
     obtain⟨q1,q2⟩:=bm k2 k4 oY;rw[ho];exact⟨h',_,hY,q1,ri,q2,fU⟩)
   have AfJ:∀j,(cL (d.ky x.d.n x.d.b)).2.1=some j→∀Y h' a',KD Y b h' (cL (d.ky x.d.n x.d.b)).1→KJ Y a' b j→Own X Y (w::h.bs b) (w::a'::h'.bs b)→Y w=some (.obj (wC b (ptr a') (cL (d.ky x.d.n x.d.b)).1 (LX (cL (d.ky x.d.n x.d.b)).1 j) true))→w∉h'.bs b→a'∉h'.bs b→a'≠w→K (B true) Y:=fun j ho Y h' a' hY hJ oY fU ri na kM=>hk Y (by
     obtain⟨q1,q2⟩:=bm k2 k4 oY;rw[ho];refine⟨h',_,hY,q1,ri,fun c hc=>q2 c ?_,a',hJ,na,kM,q2 a' (by simp),fU⟩
     rcases List.mem_cons.mp hc with rfl | hc;{simp}
     · simp[hc])
   cases o with
   | none=>exact Aev L C.cl w b h d x nI _ _ _ _ _ _ _ _ _ _ _ _ _ false n m hw (by omega) hm (by omega) h6 X k1 k5 k3 K AfI AfJ
   | some j =>
     obtain⟨a,a1,a2,a3,a4,a5⟩:=k5;exact Aev L C.cl w b h d x (ptr a) _ _ _ _ _ _ _ _ _ _ _ _ _ true n m hw (by omega) hm (by omega) h6 X k1 a5 k3 K AfI AfJ
 cases o with
 | none =>
   unfold xH at hk;rw[if_neg h5,if_neg h6] at hk;refine AeW L w b h d x nI _ _ _ _ _ _ _ _ _ _ _ _ _ h5 h6 X k1 k5 k3 K fun Y hY oY fU=>hk Y ?_;obtain⟨q1,q2⟩:=bm k2 k4 oY;exact⟨h,d,hY,q1,k3,q2,fU⟩
 | some j =>
   obtain⟨a,a1,a2,a3,a4,a5⟩:=k5;obtain⟨s1,s2⟩:=hs j rfl;have nl:∀c∈w::a::h.bs b,H c=none:=fun c hc=>by
     rcases List.mem_cons.mp hc with rfl | hc;{exact k4 _ (by simp)};{rcases List.mem_cons.mp hc with rfl | hc;{exact a4};{exact k4 c (List.mem_cons_of_mem _ hc)}}
   have nl2:∀{h':Hd},(∀c∈w::a::h'.bs b,H c=none)→∀c∈w::h'.bs b,H c=none:=fun q c hc=>q c (by
     rcases List.mem_cons.mp hc with rfl | hc;{simp}
     · simp[hc])
   unfold xH at hk;rw[if_neg h5,if_neg h6] at hk;dsimp only at hk
   by_cases h7:x.kind.toNat % 8=7
   · rw[if_pos h7] at hk;refine AeX L C w b a h d rd j x n m hw hn (by omega) s1 h7 X k1 a1 a5 k3 a2 a3 K fun Y h' hY hJ oY fU ri vX=>hk Y ?_
     obtain⟨q1,q2⟩:=bm k2 nl oY;exact⟨h',d,hY,q1,ri,nl2 q2,a,hJ,vX,a3,a4,fU⟩
   rw[if_neg h7] at hk
   by_cases h4:x.kind.toNat % 8=4
   · rw[if_pos h4] at hk;refine AeY L C.cl w b a h d rd j x n m hw (by omega) qM (by omega) s1 h4 X k1 a1 a5 k3 a2 a3 K fun Y h' hY hJ oY fU ri vX=>hk Y ?_
     obtain⟨q1,q2⟩:=bm k2 nl oY;exact⟨h',_,hY,q1,ri,nl2 q2,a,hJ,vX,a3,a4,fU⟩
   · rw[if_neg h4] at hk;refine AeZ L w b a h d rd j x n m hw (by omega) AfA (by omega) s1 s2 (by omega) (by omega) X k1 a1 a5 k3 a2 a3 K fun Y h' hY hJ oY fU ri vX=>hk Y ?_
     obtain⟨q1,q2⟩:=bm k2 nl oY;exact⟨h',_,hY,q1,ri,nl2 q2,a,hJ,vX,a3,a4,fU⟩
end Sm
namespace Sm
open Go
theorem RW.aS{s:ek}:∀{l:List ry} {d:Dk} {n m q:Nat} (t:Nat),RW d n m q→RW (aS s l d t).1 (n+l.length) m q
 | [],d,n,m,q,t,h=>h
 | e::l,d,n,m,q,t,h=>by
   rw[Sm.aS];cases lx e&&!ix s.parts e.path;{exact(RW.aS t h).mono (by simp only[List.length_cons];omega) (Nat.le_refl q)};{rw[cond_true];cases (d.remove e.path).2 != 0;{exact(RW.aS (t+1) (h.remove e.path)).mono (by simp only[List.length_cons];omega) (Nat.le_refl q)};{exact(h.remove e.path).mono (by simp only[List.length_cons];omega) (Nat.le_refl q)}}
theorem RW.AfK{d:Dk}{n m q:Nat}(h:RW d n m q)(s:ek):RW (u6 d s).1 (n+q+1) m q:=by
 have hl:d.list.length≤q:=by
   unfold Dk.list;split;{simp};{rw[List.length_map];exact h.pf.now}
 have h1:=RW.aS (s:=s) (l:=d.list) 0 h;unfold u6;cases (Sm.aS s d.list d 0).2.2 != 0;{rw[cond_false];cases decide (0 < ((Sm.aS s d.list d 0).2.1:Int));{exact h1.mono (by omega) (Nat.le_refl q)};{rw[cond_true];cases (Sm.aS s d.list d 0).1.aM.2 != 0;{exact h1.aM.mono (by omega) (Nat.le_refl q)};{exact h1.aM.mono (by omega) (Nat.le_refl q)}}};{exact h1.mono (by omega) (Nat.le_refl q)}
theorem AeQ{d:Dk}{n m:Nat}(hw:d.WF n m){j:Jn}(h:(cL d).2.1=some j):0≤j.n∧j.n≤(1100*m:Nat):=by
 have hb:=zF (jU hw) az;unfold cL at h;cases c1:(bq d).2 != 0;{rw[c1,cond_false] at h;unfold lP at h;cases c2:(eX (bq d).1).2 != 0;{rw[c2,cond_false] at h;unfold nT at h;cases c3:(eX (bq d).1).1.aM.2 != 0;{rw[c3,cond_false] at h;generalize ((bq d).1.read az).1=b at *;generalize (eX (bq d).1).1.aM.1=y at *;cases c4:(pj (cI b y)).2 != 0;{rw[mM c4] at h;have h:=Option.some.inj h;subst h;have:=Ae7 b;refine⟨this.1,Int.le_trans this.2 ?_⟩;exact Int.ofNat_le.mpr (Nat.mul_le_mul_left 1100 hb)};{rw[kL c4] at h;cases h}};{rw[c3,cond_true] at h;cases h}};{rw[c2,cond_true] at h;cases h}};{rw[c1,cond_true] at h;cases h}
structure WI (d:Dk) (o:Option Jn) (k:Nat):Prop where
 rw:RW d (5+400*k) 65536 (1+3*k)
 jn:∀j,o=some j→j8 j.s∧0≤j.n∧j.n≤(72100000+1100*k:Nat)
theorem WI.begun(r:Int)(hr:r≤65535):WI (cL (eD r)).1 (cL (eD r)).2.1 0:=by
 have h0:RW (eD r) 0 65536 0:=⟨(wN r).mono (Nat.le_refl 0) (by omega),by show max 0 (min r 16777216)≤((65536:Nat):Int);omega,fun k=>by show (br [] (List.take k [])).length≤0;rw[List.take_nil];exact Nat.le_refl 0⟩
 refine⟨h0.open,fun j hj=>⟨L1 hj,?_⟩⟩;have:=AeQ (wN r) hj;omega
theorem WI.step{d:Dk}{o:Option Jn}{k:Nat}(h:WI d o k)(hk:k≤100)(x:Ac)(hx:x.r.sum.length=32)(hn:x.d.n≤9223372036854775807):WI (xH d o x).1 (xH d o x).2 (k+1):=by
 obtain⟨h1,h2⟩:=h;have hj:∀j,o=some j→j8 j.s∧0≤j.n∧j.n≤(72100000+1100*(k+1):Nat):=fun j e=>by
   obtain⟨a,b,c⟩:=h2 j e;exact⟨a,b,by omega⟩
 unfold xH
 by_cases h5:x.kind.toNat % 8=5
 · rw[if_pos h5];exact⟨(h1.Ng x.d hn).mono (by omega) (by omega),hj⟩
 rw[if_neg h5]
 by_cases h6:x.kind.toNat % 8=6
 · rw[if_pos h6];have hc:=h1.ky x.d.n x.d.b;refine⟨hc.open.mono (by omega) (by omega),fun j e=>⟨L1 e,?_⟩⟩
   have:=AeQ hc.wf e;omega
 rw[if_neg h6];cases o with
 | none=>exact⟨h1.mono (by omega) (by omega),fun j e=>by cases e⟩
 | some j =>
   obtain⟨s1,s2,s3⟩:=h2 j rfl;dsimp only
   by_cases h7:x.kind.toNat % 8=7
   · rw[if_pos h7];exact⟨(h1.AfK j.s).mono (by omega) (by omega),hj⟩
   rw[if_neg h7]
   by_cases h4:x.kind.toNat % 8=4
   · rw[if_pos h4];refine⟨(h1.comp j).mono (by omega) (by omega),fun i e=>?_⟩
     have e:=Option.some.inj e;subst e;obtain⟨a,b,c⟩:=Afi (d:=d) (j:=j) (t:=72100000+1100*k) s1 s2 s3 (by omega)
     exact⟨a,b,by omega⟩
   · rw[if_neg h4];refine⟨(h1.add j x.r).mono (by omega) (by omega),fun i e=>?_⟩
     have e:=Option.some.inj e;subst e;obtain⟨a,b,c⟩:=AfB (d:=d) (j:=j) (r:=x.r) (t:=72100000+1100*k) s1 s2 s3 hx;exact⟨a,b,by omega⟩
attribute [local irreducible] aH aj aX ju FD DR DF kS bk aA aL bn DK RK JK BR G3 bh Spec Tok Fr CV
theorem Afn(L:ai code)(C:JC L)(r:Int)(l:List Ac)(hr:0≤r∧r≤65535)(hl:∀a∈l,Afv a∧a.d.n≤9223372036854775807):aU L 498 [.v (.int .u16 r),.sl .no 44 (l.map ZX)] (B true):=by
 intro H K hk;obtain⟨hr0,hr1⟩:=hr;refine ah L AeR rfl ?_;refine C_ ?_;refine AeU L l 40 (by omega) _ _ ?_
 cases c1:AeG l 40
 case false =>
   refine C_ ?_;refine fu L C H _ fun X1 g1=>?_;refine G_ ?_;exact aa (hk X1 g1)
 have NR:=Afa (db:=40) c1;have hsm:=Afb c1;refine C_ ?_;refine AeE L C.cl r H _ fun X0 w b t0=>?_;have w0:=WI.begun r hr1;generalize (cL (eD r)).1=d0 at *;generalize (cL (eD r)).2.1=o0 at *;refine C_ ?_;refine Aeo L C.cl w b d0 o0 _ _ w0.rw.wf (by omega) (by omega) (fun j e=>(w0.jn j e).1) H X0 t0 _ fun X1 f1=>?_
 have t1:=t0.dt f1;clear t0;refine G_ ?_;refine aV (ak L) (fun(q:Nat)=>[(1,.h (.sl .no 44 (l.map ZX))),(5,.h (ptr w)),(7,.h (I q))]) (fun _=>[]) (fun q X=>q≤l.length∧∃d o,Ab H X w b d o∧WI d o q) (fun q=>l.length - q) 0 ?_ ⟨by omega,d0,o0,t1,w0⟩ ?_
 · exact E_
 clear t1 w0;rintro q X ⟨hq,d,o,t,wi⟩;refine G_ ?_;(refine ct T_ ?_ ?_<;>intro hc)
 · have bN:q < l.length:=by have:=of_decide_eq_true hc;omega
   have eB:(l.map ZX)[q]? = some (ZX l[q]):=by rw[List.getElem?_map,List.getElem?_eq_getElem bN];rfl
   obtain⟨ha,hn⟩:=hl _ (List.getElem_mem bN);obtain⟨z1,z2,z3,z4,z5⟩:=hsm _ (List.getElem_mem bN);generalize l[q]=ac at *;have wi2:=wi.step (by omega) ac ha hn
   refine G_ ?_;refine eK (cs:=uc ac) rfl rfl rfl eB rfl ?_;refine ed (v:=ZX ac) rfl rfl ?_;refine C_ ?_;refine Ae6 L C w b d o ac _ _ wi.rw.wf (by omega) (by omega) (fun j e=>by
     obtain⟨a,b,c⟩:=wi.jn j e;exact⟨a,b,by omega⟩) z2 z3 z4 z1 H X t _ fun Y tY=>?_
   generalize (xH d o ac).1=d2 at *;generalize (xH d o ac).2=o2 at *;refine C_ ?_;refine Aeo L C.cl w b d2 o2 _ _ wi2.rw.wf (by omega) (by omega) (fun j e=>(wi2.jn j e).1) H Y tY _ fun Z fZ=>?_
   refine G_ ?_;refine dG (q+1) (by omega) ⟨by omega,d2,o2,tY.dt fZ,wi2⟩ ?_
   exact E_
 obtain⟨h,rd,k1,k2,k3⟩:=t;refine C_ ?_;refine fu L C X _ fun X2 f2=>?_;refine G_ ?_;exact aa (hk X2 (k2.trans f2))
end Sm
namespace Sm
open Go
attribute [local irreducible] aH aj aX ju FD DR DF kS bk aA aL bn DK RK JK BR G3 bh Spec Tok Fr CV
end Sm
namespace Sm
open Go
attribute [local irreducible] aH aj aX ju FD DR DF kS bk aA aL bn DK RK JK BR G3 bh Spec Tok Fr CV
end Sm
