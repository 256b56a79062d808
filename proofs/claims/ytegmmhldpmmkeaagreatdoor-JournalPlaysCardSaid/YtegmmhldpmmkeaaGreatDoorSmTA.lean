/-
  T1,T2,T3,T4,T5,T6,T7,T8,T9,T10
-/
import Derived.Test.YtegmmhldpmmkeaaGreatDoorSmLH
import Derived.Test.YtegmmhldpmmkeaaGreatDoorSmLf
set_option linter.unusedVariables false
set_option linter.unusedSimpArgs false
set_option maxRecDepth 10000
set_option maxHeartbeats 1000000
namespace Sm
open Go
def Pure(L:ai code)(g:Nat)(args:List HV)(r:HV):Prop:=∀H K,K r H→Spec L.P L.ν g args H K
theorem Tok.ful(H:ab)(n sz:Nat):Tok H .full n sz:=trivial
def pq:List UInt8→UInt8→Int
 | [],_ => -1
 | b::l,c=>if 0≤pq l c then pq l c+1 else if b==c then 0 else -1
theorem pr:∀{l:List UInt8} {c:UInt8},(∀k (hk:k < l.length),l[k]≠c)→pq l c = -1
 | [],c,_=>rfl
 | b::l,c,h=>by
   have ih:=pr (l:=l) (c:=c) fun k hk=>h (k+1) (Nat.succ_lt_succ hk);have h0:b≠c:=h 0 (Nat.succ_pos _);rw[pq,ih];simp[h0]
theorem Cp:∀{l:List UInt8} {c:UInt8} {i:Nat} (hi:i < l.length),l[i]=c→(∀k (hk:k < l.length),i < k→l[k]≠c)→pq l c=i
 | [],c,i,hi,_,_=>by simp at hi
 | b::l,c,0,hi,h,hb=>by
   have h0:=pr (l:=l) (c:=c) fun k hk=>hb (k+1) (Nat.succ_lt_succ hk) (by omega)
   have:b=c:=by simpa using h
   rw[pq,h0];simp[this]
 | b::l,c,i+1,hi,h,hb=>by
   have ih:=Cp (l:=l) (c:=c) (i:=i) (by simpa using hi) (by simpa using h) fun k hk sJ=>hb (k+1) (Nat.succ_lt_succ hk) (by omega)
   rw[pq,ih];rw[if_pos (by omega)];omega
theorem Cq:∀(l:List UInt8) (c:UInt8),-1≤pq l c∧pq l c < l.length
 | [],c=>by simp[pq]
 | b::l,c=>by
   have:=Cq l c;rw[pq];simp only[List.length_cons];split;{omega};{split<;>omega}
theorem xN{a b:UInt8}:(((a.toNat:Nat):Int)==((b.toNat:Nat):Int))=(a==b):=by
 rw[Bool.eq_iff_iff];simp only[beq_iff_eq];constructor;{intro h;exact UInt8.toNat_inj.1 (by omega)};{rintro rfl;rfl}
attribute [local irreducible] aH aj aX bk aA aL bn DK RK JK BR G3 bh Spec Tok Fr
theorem uv(L:ai code)(l:List UInt8)(hl:l.length≤1048576):Pure L 187 [S l] (I (pq l 47)):=by
 intro H K hk;refine ah L GY rfl ?_;refine H_ ?_;refine aV (ak L) (fun(k:Nat)=>[(0,.h (S l)),(3,.h (I ((k:Int) - 1)))]) (fun _=>[]) (fun k H'=>H'=H∧k≤l.length∧∀m (hm:m < l.length),k≤m→l[m]≠47) (fun k=>k) l.length ?_ ⟨rfl,by omega,fun m hm h=>by omega⟩ ?_
 · exact E_
 rintro k H' ⟨rfl,Jy,hb⟩;refine H_ ?_;(refine ct T_ ?_ ?_<;>intro h)
 · have gF:1≤k:=by
     have:(0:Int)≤(k:Int) - 1:=by simpa using h
     omega
   refine H_ ?_;apply qx (j:=k - 1);rfl;rfl;(focus omega);(focus exact List.getElem?_eq_getElem (by omega))
   refine H_ ?_;rw[show (47:Int)=((47:UInt8).toNat:Int) from rfl,xN];(refine ct T_ ?_ ?_<;>intro h2)
   · have e:=Cp (c:=47) (show k - 1 < l.length by omega) (by simpa using h2) (fun m hm h3=>hb m hm (by omega))
     refine H_ ?_;have e2:(k:Int) - 1=pq l 47:=by rw[e];omega
     rw[e2];exact aa hk
   · refine H_ ?_;refine dG (k - 1) (by omega) ⟨rfl,by omega,fun m hm h3=>?_⟩ ?_
     · rcases Nat.eq_or_lt_of_le h3 with h4 | h4;{subst h4;simpa using h2};{exact hb m hm (by omega)}
     · have e:(((k - 1:Nat):Int) - 1)=(k:Int) - 1 - 1:=by omega
       (refine bw ?_ ?_ ?_<;>(repeat refine bE e ?_)<;>exact bA)
 · have pU:k=0:=by
     have:¬(0:Int)≤(k:Int) - 1:=by simpa using h
     omega
   subst pU;refine H_ ?_;rw[pr (l:=l) (c:=47) fun m hm=>hb m hm (by omega)] at hk
   exact aa hk
theorem Je(L:ai code)(l:List UInt8)(c:UInt8)(hl:l.length≤1048576):Pure L 206 [S l,U c] (I (pq l c)):=by
 intro H K hk;refine ah L GO rfl ?_;refine H_ ?_;refine aV (ak L) (fun(k:Nat)=>[(0,.h (S l)),(1,.h (U c)),(5,.h (I ((k:Int) - 1)))]) (fun _=>[]) (fun k H'=>H'=H∧k≤l.length∧∀m (hm:m < l.length),k≤m→l[m]≠c) (fun k=>k) l.length ?_ ⟨rfl,by omega,fun m hm h=>by omega⟩ ?_
 · exact E_
 rintro k H' ⟨rfl,Jy,hb⟩;refine H_ ?_;(refine ct T_ ?_ ?_<;>intro h)
 · have gF:1≤k:=by
     have:(0:Int)≤(k:Int) - 1:=by simpa using h
     omega
   refine H_ ?_;apply qx (j:=k - 1);rfl;rfl;(focus omega);(focus exact List.getElem?_eq_getElem (by omega))
   refine H_ ?_;rw[xN];(refine ct T_ ?_ ?_<;>intro h2)
   · have e:=Cp (c:=c) (show k - 1 < l.length by omega) (by simpa using h2) (fun m hm h3=>hb m hm (by omega))
     refine H_ ?_;have e2:(k:Int) - 1=pq l c:=by rw[e];omega
     rw[e2];exact aa hk
   · refine H_ ?_;refine dG (k - 1) (by omega) ⟨rfl,by omega,fun m hm h3=>?_⟩ ?_
     · rcases Nat.eq_or_lt_of_le h3 with h4 | h4;{subst h4;simpa using h2};{exact hb m hm (by omega)}
     · have e:(((k - 1:Nat):Int) - 1)=(k:Int) - 1 - 1:=by omega
       (refine bw ?_ ?_ ?_<;>(repeat refine bE e ?_)<;>exact bA)
 · have pU:k=0:=by
     have:¬(0:Int)≤(k:Int) - 1:=by simpa using h
     omega
   subst pU;refine H_ ?_;rw[pr (l:=l) (c:=c) fun m hm=>hb m hm (by omega)] at hk
   exact aa hk
end Sm
namespace Sm
open Go
attribute [local irreducible] aH aj aX bk aA aL bn DK RK JK BR G3 bh Spec Tok Fr
theorem Am(L:ai code)(l:List UInt8)(hl:l.length≤1048576):Pure L 197 [S l,S [47]] (I (pq l 47)):=by
 intro H K hk;refine ah L GD rfl ?_;refine D_ ?_;refine Je L l 47 hl H _ ?_;refine H_ ?_;exact aa hk
def fJ(l:List UInt8):List UInt8:=l.take (max (pq l 47) 0).toNat
theorem ML(L:ai code)(l:List UInt8)(hl:l.length≤1048576):Pure L 183 [S l] (.tu [S (fJ l),S (l.drop (pq l 47+1).toNat)]):=by
 intro H K hk;have hb:=Cq l 47;refine ah L GG rfl ?_;refine D_ ?_;refine Am L l hl H _ ?_;refine H_ ?_;refine aa ?_;have e1:(l.drop 0).take ((max (pq l 47) 0).toNat - 0)=fJ l:=by simp[fJ]
 have e2:(l.drop (pq l 47+1).toNat).take (l.length - (pq l 47+1).toNat)=l.drop (pq l 47+1).toNat:=by
   rw[List.take_of_length_le];simp
 simp only[Int.toNat_zero,Int.toNat_natCast,e1,e2];exact hk
theorem qN(L:ai code)(l:List UInt8)(hl:l.length≤1048576):Pure L 164 [S l] (S (fJ l)):=by
 intro H K hk;refine ah L GI rfl ?_;refine D_ ?_;refine ML L l hl H _ ?_;refine H_ ?_;exact aa hk
theorem oK(L:ai code)(l:List UInt8)(hl:l.length≤1048576):Pure L 170 [S l] (S (fJ l)):=by
 intro H K hk;have hb:=Cq l 47;refine ah L GN rfl ?_;refine D_ ?_;refine uv L l hl H _ ?_;refine H_ ?_;(refine ct T_ ?_ ?_<;>intro h)
 · have:pq l 47 < 0:=by simpa using h
   have e:fJ l=[]:=by rw[fJ,show max (pq l 47) 0=0 by omega];simp
   rw[e] at hk;refine H_ ?_;exact aa hk
 · have h0:¬pq l 47 < 0:=by simpa using h
   have e:(l.drop 0).take ((pq l 47).toNat - 0)=fJ l:=by rw[fJ,show max (pq l 47) 0=pq l 47 by omega];simp
   refine D_ ?_;refine uv L l hl H _ ?_;refine H_ ?_;refine aa ?_;show K (S ((l.drop 0).take ((pq l 47).toNat - 0))) _;rw[e];exact hk
def IA(s p:List UInt8):Bool:=decide (p.length≤s.length)&&(s.take p.length==p)
theorem MM(L:ai code)(s p:List UInt8):Pure L 212 [S s,S p] (B (IA s p)):=by
 intro H K hk;refine ah L GF rfl ?_;refine H_ ?_;(refine gt T_ ?_ ?_<;>intro h)
 · have h':p.length≤s.length:=by simpa using h
   refine H_ ?_;refine aa ?_;simpa[IA,h',eQ] using hk
 · have h':¬p.length≤s.length:=by simpa using h
   refine H_ ?_;refine aa ?_;simpa[IA,h',eQ] using hk
theorem Py(L:ai code)(s p:List UInt8):Pure L 203 [S s,S p] (B (IA s p)):=by
 intro H K hk;refine ah L GL rfl ?_;refine D_ ?_;refine MM L s p H _ ?_;refine H_ ?_;exact aa hk
def pre:List UInt8:=[46,115,117,109,112,116,101,114]
theorem Ll(L:ai code)(s:List UInt8):Pure L 193 [S s] (B (IA s pre)):=by
 intro H K hk;refine ah L GQ rfl ?_;refine D_ ?_;refine Py L s pre H _ ?_;refine H_ ?_;exact aa hk
theorem ID(L:ai code)(s:List UInt8):Pure L 200 [S s] (B (IA s pre)):=by
 intro H K hk;refine ah L G6 rfl ?_;refine H_ ?_;(refine gt T_ ?_ ?_<;>intro h)
 · have h':8≤s.length:=by simp only[decide_eq_true_eq] at h;omega
   refine H_ ?_;refine aa ?_;simpa[IA,pre,h',eQ] using hk
 · have h':¬8≤s.length:=by simp only[decide_eq_false_iff_not] at h;omega
   refine H_ ?_;refine aa ?_;simpa[IA,pre,h',eQ] using hk
def uX(b:UInt8):Bool:=!((b==47)||decide (b.toNat < 33)||decide (126 < b.toNat))
def dR(l:List UInt8):Bool:=!(decide (l.length < 1)||decide (32 < l.length)||(l==[46])||(l==[46,46]))&&l.all uX
theorem MN(b:UInt8):(((b.toNat:Nat):Int)==47)=(b==47):=xN (a:=b) (b:=47)
theorem Cs(L:ai code)(l:List UInt8)(hl:l.length≤1048576):Pure L 209 [S l] (B (dR l)):=by
 intro H K hk;refine ah L G8 rfl ?_;refine H_ ?_;cases c1:decide ((l.length:Int) < 1)
 case true =>
   have:decide (l.length < 1)=true:=by simp only[decide_eq_true_eq] at c1 ⊢;omega
   rw[show dR l=false by simp only[dR,this,Bool.true_or,Bool.or_true,Bool.not_true,Bool.false_and]] at hk
   refine H_ ?_;exact aa hk
 refine H_ ?_;cases c2:decide ((32:Int) < (l.length:Int))
 case true =>
   have:decide (32 < l.length)=true:=by simp only[decide_eq_true_eq] at c2 ⊢;omega
   rw[show dR l=false by simp only[dR,this,Bool.true_or,Bool.or_true,Bool.not_true,Bool.false_and]] at hk
   refine H_ ?_;exact aa hk
 refine H_ ?_;cases c3:(l==[46])
 case true =>
   rw[show dR l=false by simp only[dR,c3,Bool.true_or,Bool.or_true,Bool.not_true,Bool.false_and]] at hk
   refine H_ ?_;exact aa hk
 refine H_ ?_;cases c4:(l==[46,46])
 case true =>
   rw[show dR l=false by simp only[dR,c4,Bool.true_or,Bool.or_true,Bool.not_true,Bool.false_and]] at hk
   refine H_ ?_;exact aa hk
 have e:dR l=l.all uX:=by
   have h1:decide (l.length < 1)=false:=by simp only[decide_eq_false_iff_not] at c1 ⊢;omega
   have h2:decide (32 < l.length)=false:=by simp only[decide_eq_false_iff_not] at c2 ⊢;omega
   simp only[dR,h1,h2,c3,c4];rfl
 rw[e] at hk;refine H_ ?_;refine aV (ak L) (fun(k:Nat)=>[(0,.h (S l)),(3,.h (I k))]) (fun _=>[]) (fun k H'=>H'=H∧k≤l.length∧∀m (hm:m < l.length),m < k→uX l[m]=true) (fun k=>l.length - k) 0 ?_ ⟨rfl,by omega,fun m hm h=>by omega⟩ ?_
 · exact E_
 rintro k H' ⟨rfl,Jy,hb⟩;refine H_ ?_;(refine ct T_ ?_ ?_<;>intro h)
 · have gF:k < l.length:=by simpa using h
   have bad:uX l[k]=false→l.all uX=false:=fun h=>by
     rw[List.all_eq_false];exact⟨_,List.getElem_mem gF,by simp[h]⟩
   refine H_ ?_;rw[MN];cases d1:(l[k]==47)
   case true =>
     rw[bad (by simp[uX,d1])] at hk
     refine H_ ?_;exact aa hk
   refine H_ ?_;cases d2:decide (((l[k].toNat:Nat):Int) < 33)
   case true =>
     have:decide (l[k].toNat < 33)=true:=by simp only[decide_eq_true_eq] at d2 ⊢;omega
     rw[bad (by simp[uX,this])] at hk
     refine H_ ?_;exact aa hk
   refine H_ ?_;cases d3:decide (((l[k].toNat:Nat):Int) > 126)
   case true =>
     have:decide (126 < l[k].toNat)=true:=by simp only[decide_eq_true_eq] at d3 ⊢;omega
     rw[bad (by simp[uX,this])] at hk
     refine H_ ?_;exact aa hk
   have kK:uX l[k]=true:=by
     have h2:decide (l[k].toNat < 33)=false:=by simp only[decide_eq_false_iff_not] at d2 ⊢;omega
     have h3:decide (126 < l[k].toNat)=false:=by simp only[decide_eq_false_iff_not] at d3 ⊢;omega
     simp[uX,d1,h2,h3]
   refine H_ ?_;refine dG (k+1) (by omega) ⟨rfl,by omega,fun m hm h3=>?_⟩ ?_
   · rcases Nat.lt_or_ge m k with h4 | h4;{exact hb m hm h4}
     · have:m=k:=by omega
       subst this;exact kK
   · exact E_
 · have pU:k=l.length:=by
     have:¬k < l.length:=by simpa using h
     omega
   subst pU;rw[show l.all uX=true by rw[List.all_eq_true];intro x hx;obtain⟨m,hm,rfl⟩:=List.getElem_of_mem hx;exact hb m hm hm] at hk
   refine H_ ?_;exact aa hk
end Sm
namespace Sm
open Go
def lV:List UInt8→List UInt8×List (List UInt8)
 | []=>([],[])
 | b::l=>if b==47 then ([],(lV l).1::(lV l).2) else (b::(lV l).1,(lV l).2)
def fB(l:List UInt8):List (List UInt8):=(lV l).1::(lV l).2
def sc(l:List UInt8):List (List UInt8):=if l=[] then [] else fB l
theorem xO:∀{l:List UInt8},(∀b∈l,b≠47)→fB l=[l]
 | [],_=>rfl
 | b::l,h=>by
   have ih:=xO (l:=l) fun x hx=>h x (by simp[hx])
   have hb:(b==47)=false:=by simpa using h b (by simp)
   simp only[fB,List.cons.injEq] at ih;simp only[fB,lV,hb,Bool.false_eq_true,if_false,ih.1,ih.2]
theorem Ao:∀{a r:List UInt8},(∀b∈a,b≠47)→fB (a++47::r)=a::fB r
 | [],r,_=>by simp[fB,lV]
 | b::a,r,h=>by
   have ih:=Ao (a:=a) (r:=r) fun x hx=>h x (by simp[hx])
   have hb:(b==47)=false:=by simpa using h b (by simp)
   simp only[fB,List.cons.injEq] at ih;simp only[fB,List.cons_append,lV,hb,Bool.false_eq_true,if_false,ih.1];rw[ih.2]
theorem Ap(l:List UInt8):(fB l).length=l.count 47+1:=by
 induction l with
 | nil=>rfl
 | cons b l ih =>
   simp only[fB,List.length_cons] at ih;rw[List.count_cons];cases hb:(b==47);{simp only[fB,lV,hb,Bool.false_eq_true,if_false,List.length_cons];omega};{simp only[fB,lV,hb,if_true,List.length_cons];omega}
theorem Aew{l:List UInt8}{f i:Nat}(hf:f≤i)(hi:i < l.length)(h:l[i]=47)(hb:∀k (hk:k < l.length),f≤k→k < i→l[k]≠47):fB (l.drop f)=(l.drop f).take (i - f)::fB (l.drop (i+1)):=by
 have e:l.drop f=(l.drop f).take (i - f)++47::l.drop (i+1):=by
   have h1:=(List.take_append_drop (i - f) (l.drop f)).symm;rw[List.drop_drop,show f+(i - f)=i by omega,List.drop_eq_getElem_cons hi,h] at h1
   exact h1
 have h2:=Ao (a:=(l.drop f).take (i - f)) (r:=l.drop (i+1)) (fun b Wa=>by
   obtain⟨k,hk,rfl⟩:=List.getElem_of_mem Wa;simp only[List.length_take,List.length_drop] at hk;simp only[List.getElem_take,List.getElem_drop];exact hb (f+k) (by omega) (by omega) (by omega))
 rw[←e] at h2;exact h2
theorem MO{l:List UInt8}{f:Nat}(hb:∀k (hk:k < l.length),f≤k→l[k]≠47):fB (l.drop f)=[l.drop f]:=by
 refine xO fun b Wa=>?_;obtain⟨k,hk,rfl⟩:=List.getElem_of_mem Wa;simp only[List.length_drop] at hk;simp only[List.getElem_drop];exact hb (f+k) (by omega) (by omega)
attribute [local irreducible] aH aj aX bk aA aL bn DK RK JK BR G3 bh Spec Tok Fr
theorem Cu(L:ai code)(l:List UInt8)(hl:l.length≤1048576):Pure L 211 [S l] (B (dR l)):=by
 intro H K hk;refine ah L GC rfl ?_;refine H_ ?_;cases c1:(l==[])
 case true =>
   have:decide (l.length < 1)=true:=by simp only[beq_iff_eq] at c1;subst c1;rfl
   rw[show dR l=false by simp only[dR,this,Bool.true_or,Bool.or_true,Bool.not_true,Bool.false_and]] at hk
   refine H_ ?_;exact aa hk
 refine H_ ?_;cases c2:decide ((32:Int) < (l.length:Int))
 case true =>
   have:decide (32 < l.length)=true:=by simp only[decide_eq_true_eq] at c2 ⊢;omega
   rw[show dR l=false by simp only[dR,this,Bool.true_or,Bool.or_true,Bool.not_true,Bool.false_and]] at hk
   refine H_ ?_;exact aa hk
 refine H_ ?_;cases c3:(l==[46])
 case true =>
   rw[show dR l=false by simp only[dR,c3,Bool.true_or,Bool.or_true,Bool.not_true,Bool.false_and]] at hk
   refine H_ ?_;exact aa hk
 refine H_ ?_;cases c4:(l==[46,46])
 case true =>
   rw[show dR l=false by simp only[dR,c4,Bool.true_or,Bool.or_true,Bool.not_true,Bool.false_and]] at hk
   refine H_ ?_;exact aa hk
 have e:dR l=l.all uX:=by
   have h1:decide (l.length < 1)=false:=by
     simp only[decide_eq_false_iff_not,beq_eq_false_iff_ne,ne_eq] at c1 ⊢;cases l with
     | nil=>exact absurd rfl c1
     | cons _ _=>simp
   have h2:decide (32 < l.length)=false:=by simp only[decide_eq_false_iff_not] at c2 ⊢;omega
   simp only[dR,h1,h2,c3,c4];rfl
 rw[e] at hk;refine H_ ?_;refine aV (ak L) (fun(k:Nat)=>[(0,.h (S l)),(21,.h (I l.length)),(22,.h (I k))]) (fun _=>[]) (fun k H'=>H'=H∧k≤l.length∧∀m (hm:m < l.length),m < k→uX l[m]=true) (fun k=>l.length - k) 0 ?_ ⟨rfl,by omega,fun m hm h=>by omega⟩ ?_
 · exact E_
 rintro k H' ⟨rfl,Jy,hb⟩;refine H_ ?_;(refine ct T_ ?_ ?_<;>intro h)
 · have gF:k < l.length:=by simpa using h
   have bad:uX l[k]=false→l.all uX=false:=fun h=>by
     rw[List.all_eq_false];exact⟨_,List.getElem_mem gF,by simp[h]⟩
   refine H_ ?_;rw[MN];cases d1:(l[k]==47)
   case true =>
     rw[bad (by simp[uX,d1])] at hk
     refine H_ ?_;exact aa hk
   refine H_ ?_;cases d2:decide (((l[k].toNat:Nat):Int)≤32)
   case true =>
     have:decide (l[k].toNat < 33)=true:=by simp only[decide_eq_true_eq] at d2 ⊢;omega
     rw[bad (by simp[uX,this])] at hk
     refine H_ ?_;exact aa hk
   refine H_ ?_;cases d3:decide (((l[k].toNat:Nat):Int) > 126)
   case true =>
     have:decide (126 < l[k].toNat)=true:=by simp only[decide_eq_true_eq] at d3 ⊢;omega
     rw[bad (by simp[uX,this])] at hk
     refine H_ ?_;exact aa hk
   have kK:uX l[k]=true:=by
     have h2:decide (l[k].toNat < 33)=false:=by simp only[decide_eq_false_iff_not] at d2 ⊢;omega
     have h3:decide (126 < l[k].toNat)=false:=by simp only[decide_eq_false_iff_not] at d3 ⊢;omega
     simp[uX,d1,h2,h3]
   refine H_ ?_;refine dG (k+1) (by omega) ⟨rfl,by omega,fun m hm h3=>?_⟩ ?_
   · rcases Nat.lt_or_ge m k with h4 | h4;{exact hb m hm h4}
     · have:m=k:=by omega
       subst this;exact kK
   · exact E_
 · have pU:k=l.length:=by
     have:¬k < l.length:=by simpa using h
     omega
   subst pU;rw[show l.all uX=true by rw[List.all_eq_true];intro x hx;obtain⟨m,hm,rfl⟩:=List.getElem_of_mem hx;exact hb m hm hm] at hk
   refine H_ ?_;exact aa hk
theorem mQ(L:ai code)(l:List UInt8)(hl:l.length≤1048576)(H:ab)(K)(hk:∀H',Fr [] H H'→K (.sl .no 1 ((sc l).map S)) H'):Spec L.P L.ν 191 [S l] H K:=by
 refine ah L G2 rfl ?_;refine H_ ?_;cases c0:(l==[])
 case true =>
   have:l=[]:=by simpa using c0
   subst this;refine H_ ?_;exact b7 (an.dO 1) (hk H (Fr.refl _ _))
 have eJ:l≠[]:=by simpa using c0
 rw[sc,if_neg eJ] at hk;refine H_ ?_;refine aV (ak L) (fun(q:Nat×Nat×Tk×List (List UInt8))=>[(0,.h (S l)),(3,.h (.sl q.2.2.1 1 (q.2.2.2.map S))),(4,.h (I q.2.1)),(5,.h (I q.1))]) (fun _=>[])
   (fun q H'=>q.1≤l.length+1∧Fr [] H H'∧Tok H' q.2.2.1 q.2.2.2.length 1∧jQ H q.2.2.1∧q.2.2.2.length≤q.1 ∧
     ((q.1=l.length+1∧fB l=q.2.2.2)∨(q.2.1≤q.1∧q.1≤l.length∧fB l=q.2.2.2++fB (l.drop q.2.1)∧∀k (hk:k < l.length),q.2.1≤k→k < q.1→l[k]≠47)))
   (fun q=>l.length+1 - q.1) (0,0,.full,[]) ?_ ⟨by simp,Fr.refl _ _,Tok.ful _ _ _,by simp[jQ,tb],by simp,.inr ⟨by simp,by simp,by simp,fun k hk _ h=>by omega⟩⟩ ?_
 · refine bw ?_ ?_ ?_;{refine xP rfl rfl (Lj rfl (an.nil _) (xP rfl rfl (xP rfl rfl Hg)))};{exact rY};{exact bA}
 rintro⟨i,f,tk,out⟩ H' ⟨hi,rN,JB,AR,Lz,ao⟩;simp only at hi rN JB AR Lz ao ⊢;refine H_ ?_;(refine ct T_ ?_ ?_<;>intro h)
 · have fo:i≤l.length:=by simpa using h
   rcases ao with⟨h1,_⟩ | ⟨h1,h2,h3,h4⟩;{omega};refine H_ ?_;cases d1:((i:Int)==(l.length:Int))
   case true =>
     have hil:i=l.length:=by simp only[beq_iff_eq] at d1;omega
     subst hil;have e:=MO (l:=l) (f:=f) fun k hk hf=>h4 k hk hf hk;refine H_ ?_;apply vk;rfl;rfl;(focus (simpa using JB));(focus (simp;omega));intro fC H2 k1 k2;refine H_ ?_;have e2:(l.drop f).take (l.length - f)=l.drop f:=List.take_of_length_le (by simp)
     simp only[Int.toNat_natCast,e2];refine dG (l.length+1,l.length+1,fC,out++[l.drop f]) (by simp only;omega) ⟨by simp,rN.Ia AR k2,by simpa using k1,AR.Ia rN k2,by simp;omega,.inl ⟨by simp,by rw[h3,e]⟩⟩ ?_
     exact E_
   have bN:i < l.length:=by simp only[beq_eq_false_iff_ne,ne_eq] at d1;omega
   refine H_ ?_;rw[MN];cases d2:(l[i]==47)
   · refine H_ ?_;refine dG (i+1,f,tk,out) (by simp only;omega) ⟨by simp only;omega,rN,JB,AR,by simp only;omega,.inr ⟨by simp only;omega,by simp only;omega,h3,fun k hk hf wE=>?_⟩⟩ ?_
     · rcases Nat.lt_or_ge k i with h5 | h5;{exact h4 k hk hf h5}
       · have:k=i:=by omega
         subst this;simpa using d2
     · exact E_
   · have e:=Aew h1 bN (by simpa using d2) h4
     refine H_ ?_;apply vk;rfl;rfl;(focus (simpa using JB));(focus (simp;omega));intro fC H2 k1 k2;refine H_ ?_;simp only[Int.toNat_natCast];refine dG (i+1,i+1,fC,out++[(l.drop f).take (i - f)]) (by simp only;omega) ⟨by simp only;omega,rN.Ia AR k2,by simpa using k1,AR.Ia rN k2,by simp;omega,.inr ⟨by simp,by simp only;omega,by rw[h3,e];simp,fun k hk hf wE=>by simp only at hf wE;omega⟩⟩ ?_
     exact E_
 · have fo:i=l.length+1:=by
     have:¬i≤l.length:=by simpa using h
     omega
   rcases ao with⟨_,h1⟩ | ⟨_,h2,_⟩;{rw[h1] at hk;refine H_ ?_;exact b7 (an.drop _ _ _) (hk H' rN)};{omega}
end Sm
namespace Sm
open Go
theorem Tok.AaC(H:ab)(n sz:Nat):Tok H .full n sz:=trivial
theorem Lc{S':aJ}{sl:List (Nat×EV)}{bx:List (Nat×List HV)}{H:ab}{K:Env→ab→Prop}{os:List aF}{d:Nat}{sz bytes:Nat}{zero:List HV}{x y:bj}{l c:Int}
   (hx:(M sl bx).cJ [x,y]=some [I l,I c]) (h0:0≤l∧l≤c∧c*bytes≤140737488355328) (hz:zero.length=sz)
   (h:∀b X,H b=none→X b=some (.obj (List.replicate c.toNat zero).flatten)→Fr [] H X→aj S' os (M ((d,.h (.v (.slice (some ⟨b,0,none⟩) l.toNat c.toNat)))::sl) bx) X K) :
   aj S' (⟨some d,.cH (.UI sz bytes zero) [x,y],none⟩::os) (M sl bx) H K:=by
 rw[bf];simp only[aw.step,hx,iX];refine⟨h0.1,h0.2.1,h0.2.2,hz,fun b hb=>?_⟩;rw[cu,dp];exact h b _ hb (ab.aB _ _ _) (Fr.new hb)
theorem dj{S':aJ}{sl:List (Nat×EV)}{bx:List (Nat×List HV)}{H:ab}{K:Env→ab→Prop}{os:List aF}{d:Nat}{sz:Nat}{x i:bj}{b off n c:Nat}{k:Int}
   (hx:(M sl bx).hv x=some (.v (.slice (some ⟨b,off,none⟩) n c))) (hi:(M sl bx).hv i=some (I k)) (hb:0≤k∧k < n) (h:aj S' os (M ((d,.h (.v (.pointer (some ⟨b,off+k.toNat*sz,none⟩))))::sl) bx) H K) :
   aj S' (⟨some d,.idx sz x i,none⟩::os) (M sl bx) H K:=
 aG rfl (by simp only[aw.ev,hx,hi];rw[if_pos hb]) h
theorem xk{S':aJ}{sl:List (Nat×EV)}{bx:List (Nat×List HV)}{H:ab}{K:Env→ab→Prop}{os:List aF}{d:Nat}{sz:Nat}{x:bj}{lo hi mx:Option bj}{b off n c:Nat}{l h m:Int}
   (hx:(M sl bx).hv x=some (.v (.slice (some ⟨b,off,none⟩) n c))) (h1:iE (M sl bx) 0 lo=some l) (h2:iE (M sl bx) n hi=some h) (h3:iE (M sl bx) c mx=some m) (hb:0≤l∧l≤h∧h≤m∧m≤c)
   (hk:aj S' os (M ((d,.h (.v (.slice (some ⟨b,if m=l then off else off+l.toNat*sz,none⟩) (h.toNat - l.toNat) (m.toNat - l.toNat))))::sl) bx) H K) :
   aj S' (⟨some d,.gy sz x lo hi mx,none⟩::os) (M sl bx) H K:=
 aG rfl (by simp only[aw.ev,hx,h1,h2,h3];rw[if_pos hb]) hk
theorem gN{sl:List (Nat×EV)}{bx:List (Nat×List HV)}{t s:Nat}{x:EV}:(M ((t,x)::sl) bx).get s=if t=s then some x else (M sl bx).get s:=by
 simp only[M,Env.get,nh,bt]
theorem Qw{sl:List (Nat×EV)}{bx:List (Nat×List HV)}{H:ab}{t b n c sz:Nat}{cs es:List HV}(hx:(M sl bx).get t=some (.h (.v (.slice (some ⟨b,0,none⟩) n c))))(hb:H b=some (.obj cs))
   (kQ:cs.take (n*sz)=es.flatMap HV.cells) (hle:n*sz≤cs.length) (hn:es.length=n) (hc:n≤c) (hm:c≤maxLen) (eB:es.all HV.el=true) (da:∀e∈es,e.aN=sz) :
   VS (M sl bx) H (M ((t,.h (.sl .no sz es))::sl) bx) (H.bt b none):=by
 refine VS.freeze hb (fun s x hs=>?_) (fun k c1 hk=>⟨c1,hk,.inl rfl⟩) (fun s k o hs hk=>hk) (fun a r' ha=>?_)
 · rw[gN] at hs
   by_cases ao:t=s
   · subst ao;rw[if_pos rfl] at hs;simp only[Option.some.injEq] at hs;subst hs;exact⟨_,hx,.inr (FW.slice kQ hle hn hc hm eB da)⟩
   · rw[if_neg ao] at hs;exact⟨x,hs,.inl rfl⟩
 · simp only[ab.bt] at ha;split at ha;{cases ha};{rename_i h;exact⟨h,r',ha,.inl rfl⟩}
theorem Y7{l:List UInt8}:(∀b∈l,b≠47)∧Lib.indexByte l 47 = -1∨∃i,∃h:i < l.length,Lib.indexByte l 47=i∧l[i]=47∧∀k (hk:k < l.length),k < i→l[k]≠47:=by
 induction l with
 | nil=>left;exact⟨by simp,rfl⟩
 | cons b l ih =>
   cases hb:(b==47)
   · rcases ih with⟨h1,h2⟩ | ⟨i,hi,h1,h2,h3⟩
     · left;refine⟨fun x hx=>?_,by simp[Lib.indexByte,hb,h2]⟩
       rcases List.mem_cons.mp hx with rfl | hx;{simpa using hb};{exact h1 x hx}
     · right;refine⟨i+1,by simpa using hi,?_,h2,fun k hk wE=>?_⟩
       · have:¬((i:Int) == -1)=true:=by simp
         simp[Lib.indexByte,hb,h1,this]
       · cases k with
         | zero=>simpa using hb
         | succ k=>exact h3 k (Nat.lt_of_succ_lt_succ hk) (by omega)
   · right;exact⟨0,by simp,by simp[Lib.indexByte,hb],by simpa using hb,fun k hk h=>by omega⟩
attribute [local irreducible] aH aj aX bk aA aL bn DK RK JK BR G3 bh Spec Tok Fr
theorem Cv(L:ai code)(l:List UInt8):Pure L 214 [S l,S [47]] (I (l.count 47:Nat)):=by
 intro H K hk;refine ah L G9 rfl ?_;refine H_ ?_;exact aa hk
theorem Ar(L:ai code)(l:List UInt8):Pure L 221 [S l,U 47] (I (Lib.indexByte l 47)):=by
 intro H K hk;refine ah L G4 rfl ?_;refine H_ ?_;exact aa hk
theorem As(L:ai code)(l:List UInt8):Pure L 219 [S l,S [47]] (I (Lib.indexByte l 47)):=by
 intro H K hk;refine ah L GU rfl ?_;refine H_ ?_;cases c:(([47]:List UInt8)==l);{refine D_ ?_;refine Ar L l H _ ?_;refine H_ ?_;exact aa hk}
 · have:l=[47]:=by simpa using (beq_iff_eq.mp c).symm
   subst this;refine H_ ?_;exact aa hk
theorem Cw(L:ai code)(l:List UInt8):Pure L 218 [S l,S [47]] (I (Lib.indexByte l 47)):=by
 intro H K hk;refine ah L Hb rfl ?_;refine D_ ?_;refine As L l H _ ?_;refine H_ ?_;exact aa hk
end Sm
namespace Sm
open Go
theorem bU{S':aJ}{sl:List (Nat×EV)}{bx:List (Nat×List HV)}{H:ab}{K:Env→ab→Prop}{os:List aF}{n b off:Nat}{a x:bj}{v:HV}{cs:List HV}(hx:(M sl bx).hv x=some v)(h1:v.aN=n)(h2:v.el=true)(ha:(M sl bx).fg a=some (.h (.v (.pointer (some ⟨b,off,none⟩)))))(hk:H b=some (.obj cs))(hl:off+n≤cs.length)
   (h:∀X,X b=some (.obj (bu cs off v.cells))→Fr [b] H X→aj S' os (M sl bx) X K):aj S' (⟨none,.store n a x,none⟩::os) (M sl bx) H K:=
 tG hx h1 h2 ha hk (Nat.ble_eq_true_of_le hl) rfl (h _ (ab.aB _ _ _) (Fr.set (by simp)))
theorem w7{S':aJ}{sl:List (Nat×EV)}{bx:List (Nat×List HV)}{H:ab}{K:Env→ab→Prop}{os:List aF}{d:Nat}{sz:Nat}{x:bj}{hi:Option bj}{b off n c:Nat}{h:Int}
   (hx:(M sl bx).hv x=some (.v (.slice (some ⟨b,off,none⟩) n c))) (h2:iE (M sl bx) n hi=some h) (hb:0≤h∧h≤c)
   (hk:aj S' os (M ((d,.h (.v (.slice (some ⟨b,off,none⟩) h.toNat c)))::sl) bx) H K) :
   aj S' (⟨some d,.gy sz x none hi none,none⟩::os) (M sl bx) H K:=by
 refine xk (l:=0) (h:=h) (m:=(c:Int)) hx rfl h2 rfl ⟨by omega,hb.1,hb.2,by omega⟩ ?_
 simpa using hk
theorem jA{A B:List HV}{x y:HV}{i:Nat}(hi:A.length=i):bu (A++x::B) i [y]=A++y::B:=by
 subst hi;simp[bu]
theorem Fr.own{H0 H H':ab}{b:Nat}(h:Fr [] H0 H)(hb:H0 b=none)(k:Fr [b] H H'):Fr [] H0 H':=fun a r _ hr=>k a r (fun hm=>by simp at hm;subst hm;rw[hb] at hr;cases hr) (h a r (by simp) hr)
theorem Fr.dB{H0 H:ab}{b:Nat}(h:Fr [] H0 H)(hb:H0 b=none):Fr [] H0 (H.bt b none):=fun a r _ hr=>by
 have:a≠b:=by rintro rfl;rw[hb] at hr;cases hr
 simp only[ab.bt,if_neg this];exact h a r (by simp) hr
theorem Km:∀l:List (List UInt8),(l.map S).flatMap HV.cells=l.map S
 | []=>rfl
 | a::l=>by
   have:=Km l;simp only[List.map_cons,List.flatMap_cons,this];rfl
attribute [local irreducible] aH aj aX bk aA aL bn DK RK JK BR G3 bh Spec Tok Fr
theorem Au(L:ai code)(l:List UInt8)(hl:l.length≤1048576)(H:ab)(K)(hk:∀H',Fr [] H H'→K (.sl .no 1 ((fB l).map S)) H'):Spec L.P L.ν 204 [S l,S [47],I 0,I (-1)] H K:=by
 have va:l.count 47≤l.length:=List.count_le_length;have LB:=Ap l;generalize hc:l.count 47=c at va LB;refine ah L GK rfl ?_;refine H_ ?_;rw[show (([47]:List UInt8)==[])=false from rfl];refine D_ ?_;refine Cv L l H _ ?_;rw[hc];have e1:min ((c:Int)+1) ((l.length:Int)+1)=((c+1:Nat):Int):=by omega
 refine H_ ?_;rw[e1];apply Lc;rfl;(focus omega);rfl;intro b X hb hX rN;have e2:(List.replicate ((c+1:Nat):Int).toNat [HV.v (.string ⟨#[]⟩)]).flatten=List.replicate (c+1) (S []):=by
   rw[Int.toNat_natCast];generalize c+1=m
   induction m with
   | zero=>rfl
   | succ m ih=>rw[List.replicate_succ,List.flatten_cons,ih,List.replicate_succ];rfl
 rw[e2] at hX;rw[Int.toNat_natCast];refine H_ ?_;refine aV (ak L) (fun(q:Nat×List UInt8×List (List UInt8))=>[(0,.h (S q.2.1)),(1,.h (S [47])),(2,.h (I 0)),(3,.h (I c)),(9,.h (.v (.slice (some ⟨b,0,none⟩) (c+1) (c+1)))),(10,.h (I q.1))]) (fun _=>[])
   (fun q H'=>H' b=some (.obj (q.2.2.map S++List.replicate (c+1 - q.1) (S [])))∧Fr [] H H'∧q.2.2.length=q.1∧q.1≤c∧fB l=q.2.2++fB q.2.1∧q.2.1.count 47=c - q.1∧q.2.1.length≤l.length)
   (fun q=>c - q.1) (0,l,[]) ?_ ⟨by simpa using hX,rN,rfl,by simp,rfl,by simpa using hc,by simp⟩ ?_
 · have e:(((c+1:Nat):Int) - 1)=(c:Int):=by omega
   (refine bw ?_ ?_ ?_<;>(repeat refine bE e ?_)<;>exact bA)
 rintro⟨i,rest,done⟩ H' ⟨AN,Y',Za,hic,PA,AcL,hrl⟩;simp only at AN Y' Za hic PA AcL hrl ⊢;refine H_ ?_;(refine ct T_ ?_ ?_<;>intro h)
 · have fo:i < c:=by simpa using h
   refine D_ ?_;refine Cw L rest H' _ ?_;rcases Y7 (l:=rest) with⟨h1,_⟩ | ⟨m,hm,h1,h2,h3⟩;{have:=List.count_eq_zero.mpr (fun kR=>h1 47 kR rfl);omega};rw[h1];have e3:decide ((m:Int) < 0)=false:=by simp
   refine J_ e3 ?_;apply dj;rfl;rfl;(focus omega);refine H_ ?_;have Lt:List.replicate (c+1 - i) (S [])=S []::List.replicate (c - i) (S []):=by rw[show c+1 - i=(c - i)+1 by omega,List.replicate_succ]
   apply bU;rfl;rfl;rfl;rfl;(focus exact AN);(focus (simp[Za];omega));intro Y hY hfY;have e4:((i:Int).toNat*1)=i:=by omega
   rw[Lt,Nat.zero_add,e4] at hY;simp only[HV.cells,Int.toNat_natCast,List.drop_zero,Nat.sub_zero,Int.add_zero] at hY;rw[jA (by simpa using Za)] at hY
   refine H_ ?_;have e5:(rest.drop ((m:Int)+((1:Nat):Int)).toNat).take ((rest.length:Int).toNat - ((m:Int)+((1:Nat):Int)).toNat)=rest.drop (m+1):=by
     rw[show ((m:Int)+((1:Nat):Int)).toNat=m+1 by omega,List.take_of_length_le (by simp)]
   have e6:=Aew (l:=rest) (f:=0) (Nat.zero_le m) hm h2 (fun k hk _ wE=>h3 k hk wE);rw[List.drop_zero,Nat.sub_zero] at e6;have e7:(rest.drop (m+1)).count 47=c - (i+1):=by
     have h4:=List.take_append_drop m rest;have h5:(rest.take m).count 47=0:=List.count_eq_zero.mpr fun kR=>by
       obtain⟨k,hk,gG⟩:=List.getElem_of_mem kR;simp only[List.length_take] at hk;rw[List.getElem_take] at gG;exact h3 k (by omega) (by omega) gG
     rw[←h4,List.count_append,h5,List.drop_eq_getElem_cons hm,h2,List.count_cons_self] at AcL;omega
   refine dG (i+1,rest.drop (m+1),done++[rest.take m]) (by simp only;omega) ⟨?_,Y'.own hb hfY,by simp[Za],by simp only;omega,by rw[PA,e6];simp,e7,by simp;omega⟩ ?_
   · rw[hY];simp[show c+1 - (i+1)=c - i by omega]
   · (refine bw ?_ ?_ ?_<;>(repeat refine bE e5 ?_)<;>exact bA)
 · have fo:i=c:=by
     have:¬i < c:=by simpa using h
     omega
   subst fo;have oz:fB rest=[rest]:=xO fun b hb=>by
     rintro rfl;have:=List.count_pos_iff.mpr hb;omega
   rw[oz] at PA;refine H_ ?_;apply dj;rfl;rfl;(focus omega);refine H_ ?_;apply bU;rfl;rfl;rfl;rfl;(focus exact AN);(focus (simp[Za]));intro Y hY hfY;have e4:((i:Int).toNat*1)=i:=by omega
   rw[show i+1 - i=0+1 by omega,List.replicate_succ,Nat.zero_add,e4,show HV.cells (S rest)=[S rest] from rfl,jA (by simpa using Za),List.replicate_zero] at hY
   refine H_ ?_;apply w7;rfl;rfl;(focus omega);refine aG rfl rfl ?_;refine ax ?_;refine C0 ?_;refine U2 (Qw (t:=8) (sz:=1) (es:=(fB l).map S) rfl hY ?_ ?_ ?_ ?_ ?_ ?_ ?_) ?_;{rw[Km,PA,List.take_of_length_le (by simp;omega)];simp};{simp[Za]};{rw[List.length_map,LB];omega};{omega};{simp only[maxLen];omega};{rw[List.all_eq_true];intro q hq;obtain⟨x,_,rfl⟩:=List.mem_map.mp hq;rfl};{intro q hq;obtain⟨x,_,rfl⟩:=List.mem_map.mp hq;rfl};refine H_ ?_;exact aa (hk _ ((Y'.own hb hfY).dB hb))
theorem Av(L:ai code)(l:List UInt8)(hl:l.length≤1048576)(H:ab)(K)(hk:∀H',Fr [] H H'→K (.sl .no 1 ((fB l).map S)) H'):Spec L.P L.ν 195 [S l,S [47]] H K:=by
 refine ah L G7 rfl ?_;refine D_ ?_;refine Au L l hl H _ fun H' hf=>?_;refine H_ ?_;exact aa (hk H' hf)
theorem mR(L:ai code)(l:List UInt8)(hl:l.length≤1048576)(H:ab)(K)(hk:∀H',Fr [] H H'→K (.sl .no 1 ((sc l).map S)) H'):Spec L.P L.ν 181 [S l] H K:=by
 refine ah L G0 rfl ?_;refine H_ ?_;cases c0:(l==[])
 case true =>
   have:l=[]:=by simpa using c0
   subst this;refine H_ ?_;exact b7 (an.dO 1) (hk H (Fr.refl _ _))
 have eJ:l≠[]:=by simpa using c0
 rw[sc,if_neg eJ] at hk;refine D_ ?_;refine Av L l hl H _ fun H' hf=>?_;refine H_ ?_;exact aa (hk H' hf)
end Sm
namespace Sm
open Go
theorem MS:∀a:List UInt8,Op.bytesLess a a=false
 | []=>rfl
 | b::a=>by simp[Op.bytesLess,MS a]
def kP(a b:List UInt8):Int:=if Op.bytesLess a b then -1 else if a==b then 0 else 1
theorem jX{a b:List UInt8}:kP a b=0↔a=b:=by
 unfold kP;constructor;{intro h;split at h;{cases h};{split at h;{rename_i h2;simpa using h2};{cases h}}};{rintro rfl;simp[MS]}
theorem PB{a b:List UInt8}:decide (kP a b < 0)=Op.bytesLess a b:=by
 unfold kP;split;{rename_i h;simp[h]}
 · rename_i h;have:Op.bytesLess a b=false:=by simpa using h
   rw[this];split<;>simp
def cmpL:List (List UInt8)→List (List UInt8)→Int
 | [],[]=>0
 | [],_::_ => -1
 | _::_,[]=>1
 | a::as,b::bs=>if kP a b=0 then cmpL as bs else kP a b
def ck(a b:List UInt8):Bool:=decide (cmpL (sc a) (sc b) < 0)
theorem wj{x y:List (List UInt8)}{i:Nat}(hx:i < x.length)(hy:i < y.length):cmpL (x.drop i) (y.drop i)=if kP x[i] y[i]=0 then cmpL (x.drop (i+1)) (y.drop (i+1)) else kP x[i] y[i]:=by
 rw[List.drop_eq_getElem_cons hx,List.drop_eq_getElem_cons hy,cmpL]
theorem MT{x y:List (List UInt8)}{i:Nat}(hx:i < x.length)(hy:y.length≤i):cmpL (x.drop i) (y.drop i)=1:=by
 rw[List.drop_eq_getElem_cons hx,List.drop_of_length_le hy,cmpL]
theorem MU{x y:List (List UInt8)}{i:Nat}(hx:x.length≤i)(hy:i < y.length):cmpL (x.drop i) (y.drop i) = -1:=by
 rw[List.drop_eq_getElem_cons hy,List.drop_of_length_le hx,cmpL]
theorem MV{x y:List (List UInt8)}{i:Nat}(hx:x.length≤i)(hy:y.length≤i):cmpL (x.drop i) (y.drop i)=0:=by
 rw[List.drop_of_length_le hx,List.drop_of_length_le hy,cmpL]
theorem nE(l:List UInt8):(sc l).length≤l.length+1:=by
 unfold sc;split;{simp};{rw[Ap];have:l.count 47≤l.length:=List.count_le_length;omega}
attribute [local irreducible] aH aj aX bk aA aL bn DK RK JK BR G3 bh Spec Tok Fr
theorem Aw(L:ai code)(a:List UInt8):Pure L 205 [S a] (B false):=by
 intro H K hk;refine ah L GH rfl ?_;refine H_ ?_;rw[show (!(a==a))=false by simp]
 refine H_ ?_;exact aa hk
theorem MW(L:ai code)(a b:List UInt8):Pure L 196 [S a,S b] (I (kP a b)):=by
 intro H K hk;refine ah L G1 rfl ?_;refine D_ ?_;refine Aw L a H _ ?_;refine D_ ?_;refine Aw L b H _ ?_;unfold kP at hk;refine H_ ?_;cases c1:Op.bytesLess a b
 case true =>
   rw[c1] at hk;refine H_ ?_;exact aa hk
 refine H_ ?_;rw[c1];simp only[c1,Bool.false_eq_true,if_false,Bool.false_or] at hk ⊢;cases c2:(a==b);{rw[c2] at hk;simp only[Bool.false_eq_true,if_false,Bool.not_false] at hk ⊢;refine H_ ?_;exact aa hk};{rw[c2] at hk;simp only[if_true,Bool.not_true] at hk ⊢;refine H_ ?_;exact aa hk}
theorem Jf(L:ai code)(t1 t2:Tk)(x y:List (List UInt8))(hx:x.length≤1048577)(hy:y.length≤1048577):Pure L 182 [.sl t1 1 (x.map S),.sl t2 1 (y.map S)] (I (cmpL x y)):=by
 intro H K hk;refine ah L GW rfl ?_;refine H_ ?_;refine aV (ak L) (fun(i:Nat)=>[(0,.h (.sl t1 1 (x.map S))),(1,.h (.sl t2 1 (y.map S))),(9,.h (.sl t1 1 (x.map S))),(10,.h (I x.length)),(11,.h (I i))]) (fun _=>[]) (fun i H'=>H'=H∧i≤x.length∧cmpL x y=cmpL (x.drop i) (y.drop i)∧i≤y.length) (fun i=>x.length - i) 0 ?_ ⟨rfl,by omega,rfl,by omega⟩ ?_
 · exact E_
 rintro i H' ⟨rfl,hix,he,hiy⟩;refine H_ ?_;(refine ct T_ ?_ ?_<;>intro h)
 · have hi:i < x.length:=by simpa using h
   refine H_ ?_;(refine ct T_ ?_ ?_<;>intro h2)
   · have h3:y.length≤i:=by simpa using h2
     rw[he,MT hi h3] at hk;refine H_ ?_;exact aa hk
   · have h3:i < y.length:=by simpa using h2
     rw[wj hi h3] at he;refine D_ ?_;refine MW L x[i] y[i] _ _ ?_;refine H_ ?_;cases c1:(kP x[i] y[i]==0)
     · have c2:(kP x[i] y[i] != 0)=true:=by simpa[bne] using c1
       rw[if_neg (by simpa using c1)] at he
       rw[he] at hk;rw[c2];refine H_ ?_;exact aa hk
     · have c2:(kP x[i] y[i] != 0)=false:=by simpa[bne] using c1
       rw[if_pos (by simpa using c1)] at he
       rw[c2];refine H_ ?_;refine dG (i+1) (by omega) ⟨rfl,by omega,he,by omega⟩ ?_
       exact E_
 · have hi:i=x.length:=by
     have:¬i < x.length:=by simpa using h
     omega
   subst hi;refine H_ ?_;(refine ct T_ ?_ ?_<;>intro h2)
   · have h3:x.length < y.length:=by simpa using h2
     rw[he,MU (Nat.le_refl _) h3] at hk;refine H_ ?_;exact aa hk
   · have h3:¬x.length < y.length:=by simpa using h2
     rw[he,MV (Nat.le_refl _) (by omega)] at hk
     refine H_ ?_;exact aa hk
theorem vj(L:ai code)(a b:List UInt8)(ha:a.length≤1048576)(hb:b.length≤1048576)(H:ab)(K)(hk:∀H',Fr [] H H'→K (B (ck a b)) H'):Spec L.P L.ν 163 [S a,S b] H K:=by
 refine ah L GM rfl ?_;have h1:=nE a;have h2:=nE b;refine D_ ?_;refine mR L a ha H _ fun H1 f1=>?_;refine D_ ?_;refine mR L b hb H1 _ fun H2 f2=>?_;refine D_ ?_;refine Jf L .no .no (sc a) (sc b) (by omega) (by omega) H2 _ ?_
 refine H_ ?_;exact aa (hk H2 (f1.trans f2))
theorem Bk(L:ai code)(a b:List UInt8)(ha:a.length≤1048576)(hb:b.length≤1048576)(H:ab)(K)(hk:∀H',Fr [] H H'→K (B (ck a b)) H'):Spec L.P L.ν 176 [S a,S b] H K:=by
 refine ah L GS rfl ?_;have h1:=nE a;have h2:=nE b;unfold ck at hk;refine D_ ?_;refine mQ L a ha H _ fun H1 f1=>?_;refine D_ ?_;refine mQ L b hb H1 _ fun H2 f2=>?_
 replace hk:=hk H2 (f1.trans f2)
 generalize sc a=x at h1 hk ⊢;generalize sc b=y at h2 hk ⊢;refine H_ ?_;refine aV (ak L) (fun(i:Nat)=>[(5,.h (.sl .no 1 (x.map S))),(6,.h (.sl .no 1 (y.map S))),(7,.h (I i))]) (fun _=>[]) (fun i H'=>H'=H2∧i≤x.length∧cmpL x y=cmpL (x.drop i) (y.drop i)∧i≤y.length) (fun i=>x.length - i) 0 ?_ ⟨rfl,by omega,rfl,by omega⟩ ?_
 · exact E_
 rintro i H' ⟨rfl,hix,he,hiy⟩;have final:¬(i < x.length∧i < y.length)→cmpL x y=if x.length < y.length then -1 else if y.length < x.length then 1 else 0:=fun hn=>by
   rcases Nat.lt_trichotomy x.length y.length with h | h | h;{rw[if_pos h,he,MU (by omega) (by omega)]};{rw[if_neg (by omega),if_neg (by omega),he,MV (by omega) (by omega)]};{rw[if_neg (by omega),if_pos h,he,MT (by omega) (by omega)]}
 have AcM:¬(i < x.length∧i < y.length)→decide (cmpL x y < 0)=decide ((x.length:Int) < (y.length:Int)):=fun hn=>by
   rw[final hn];split;{simp;omega};{split<;>simp<;>omega}
 refine H_ ?_;cases c1:decide ((i:Int) < (x.length:Int))
 case false =>
   rw[AcM (fun h=>by simp only[decide_eq_false_iff_not] at c1;omega)] at hk
   refine H_ ?_;exact aa hk
 refine H_ ?_;cases c2:decide ((i:Int) < (y.length:Int))
 case false =>
   rw[AcM (fun h=>by simp only[decide_eq_false_iff_not] at c2;omega)] at hk
   refine H_ ?_;exact aa hk
 have hi:i < x.length:=by simpa using c1
 have h3:i < y.length:=by simpa using c2
 rw[wj hi h3] at he;refine H_ ?_;cases c3:(x[i]==y[i])
 · rw[if_neg (fun h=>by rw[jX.mp h] at c3;simp at c3)] at he
   rw[he,PB] at hk;simp only[Bool.not_false];refine H_ ?_;exact aa hk
 · rw[if_pos (jX.mpr (by simpa using c3))] at he
   simp only[Bool.not_true];refine H_ ?_;refine dG (i+1) (by omega) ⟨rfl,by omega,he,by omega⟩ ?_
   exact E_
end Sm
namespace Sm
open Go
def firstIdx{α:Type}(f:α→Bool)(l:List α):Int:=if l.any f then (l.findIdx f:Int) else -1
theorem eN{α:Type}{f:α→Bool}{l:List α}{i:Nat}(hi:i < l.length)(hf:f l[i]=true)(hb:∀j (hj:j < i),f (l[j]'(by omega))=false):firstIdx f l=i:=by
 have h1:l.any f=true:=List.any_eq_true.mpr ⟨l[i],List.getElem_mem hi,hf⟩;rw[firstIdx,if_pos h1];have:l.findIdx f=i:=by
   rw[List.findIdx_eq hi];exact⟨hf,fun j hj=>by simpa using hb j hj⟩
 rw[this]
theorem firstIdx_none{α:Type}{f:α→Bool}{l:List α}(hb:∀j (hj:j < l.length),f l[j]=false):firstIdx f l = -1:=by
 have:¬l.any f=true:=by
   rw[List.any_eq_true];rintro⟨x,hx,hf⟩;obtain⟨j,hj,rfl⟩:=List.getElem_of_mem hx;rw[hb j hj] at hf;cases hf
 rw[firstIdx,if_neg this]
theorem ra{α:Type}(f:α→Bool)(l:List α):decide (0≤firstIdx f l)=l.any f:=by
 unfold firstIdx;cases h:l.any f;{simp};{simp}
def dq(l:List UInt8):Int:=if 128 < l.length then 5 else if (sc l).any (fun s=>!dR s) then 6 else if sc l=[] then 6 else if 8 < (sc l).length then 5 else 0
theorem Hh:∀(l:List UInt8),∀s∈fB l,s.length≤l.length
 | [],s,h=>by simp[fB,lV] at h;subst h;simp
 | b::l,s,h=>by
   have ih:=Hh l;simp only[fB,List.mem_cons] at ih;cases hb:(b==47);{simp only[fB,lV,hb,Bool.false_eq_true,if_false,List.mem_cons] at h;rcases h with rfl | h;{have:=ih _ (.inl rfl);simp;omega};{have:=ih s (.inr h);simp;omega}};{simp only[fB,lV,hb,if_true,List.mem_cons] at h;rcases h with rfl | h | h;{simp};{have:=ih s (.inl h);simp;omega};{have:=ih s (.inr h);simp;omega}}
theorem Hi{l s:List UInt8}(h:s∈sc l):s.length≤l.length:=by
 unfold sc at h;split at h;{simp at h};{exact Hh l s h}
attribute [local irreducible] aH aj aX bk aA aL bn DK RK JK BR G3 bh Spec Tok Fr
theorem Jg(L:ai code)(g:Nat)(cq:List HV)(f:List UInt8→Bool)(tk:Tk)(l:List (List UInt8))(hl:l.length≤1048577)(H:ab)(hf:∀p∈l,∀K,K (B (f p)) H→Spec L.P L.ν g (S p::cq) H K)(K)(hk:K (I (firstIdx f l)) H) :
   Spec L.P L.ν 210 [.sl tk 1 (l.map S),.fn g cq] H K:=by
 refine ah L Ha rfl ?_;refine H_ ?_;refine aV (ak L) (fun(i:Nat)=>[(0,.h (.sl tk 1 (l.map S))),(1,.h (.fn g cq)),(7,.h (I l.length)),(8,.h (I i))]) (fun _=>[])
   (fun i H'=>H'=H∧∃h:i≤l.length,∀j (hj:j < i),f (l[j]'(by omega))=false) (fun i=>l.length - i) 0 ?_ ⟨rfl,by omega,fun j hj=>by omega⟩ ?_
 · exact E_
 rintro i H' ⟨rfl,hi,hb⟩;refine H_ ?_;(refine ct T_ ?_ ?_<;>intro h)
 · have fo:i < l.length:=by simpa using h
   refine H_ ?_;(apply oP;rfl;rfl);refine hf l[i] (List.getElem_mem fo) _ ?_;refine H_ ?_;(refine ct T_ ?_ ?_<;>intro h2);{refine H_ ?_;rw[eN fo h2 hb] at hk;exact aa hk}
   · refine H_ ?_;refine dG (i+1) (by omega) ⟨rfl,by omega,fun j hj=>?_⟩ ?_
     · rcases Nat.lt_or_ge j i with h3 | h3;{exact hb j h3}
       · have:j=i:=by omega
         subst this;exact h2
     · exact E_
 · have fo:i=l.length:=by
     have:¬i < l.length:=by simpa using h
     omega
   subst fo;rw[firstIdx_none hb] at hk;refine H_ ?_;exact aa hk
theorem Jh(L:ai code)(g:Nat)(cq:List HV)(f:List UInt8→Bool)(tk:Tk)(l:List (List UInt8))(hl:l.length≤1048577)(H:ab)(hf:∀p∈l,∀K,K (B (f p)) H→Spec L.P L.ν g (S p::cq) H K)(K)(hk:K (B (l.any f)) H) :
   Spec L.P L.ν 201 [.sl tk 1 (l.map S),.fn g cq] H K:=by
 refine ah L G5 rfl ?_;refine D_ ?_;refine Jg L g cq f tk l hl H hf _ ?_;refine H_ ?_;rw[ra];refine H_ ?_;exact aa hk
theorem MX(L:ai code)(l:List UInt8)(hl:l.length≤1048576):Pure L 202 [S l] (B (!dR l)):=by
 intro H K hk;refine ah L G' rfl ?_;refine D_ ?_;refine Cu L l hl H _ ?_;refine H_ ?_;exact aa hk
theorem qR(L:ai code)(l:List UInt8)(hl:l.length≤1048576)(H:ab)(K)(hk:∀H',Fr [] H H'→K (I (dq l)) H'):Spec L.P L.ν 192 [S l] H K:=by
 have h1:=nE l;unfold dq at hk;refine ah L GP rfl ?_;refine H_ ?_;cases c1:decide ((128:Int) < (l.length:Int))
 case true =>
   rw[if_pos (by simp only[decide_eq_true_eq] at c1;omega)] at hk
   refine H_ ?_;exact aa (hk H (Fr.refl _ _))
 rw[if_neg (by simp only[decide_eq_false_iff_not] at c1;omega)] at hk
 refine D_ ?_;refine mR L l hl H _ fun H1 f1=>?_
 replace hk:=hk H1 f1
 have hm:∀s∈sc l,s.length≤1048576:=fun s hs=>Nat.le_trans (Hi hs) hl;generalize sc l=x at h1 hk hm ⊢;refine H_ ?_;cases c2:(((x.length:Nat):Int)==0)
 case true =>
   have:x=[]:=by simp only[beq_iff_eq] at c2;exact List.length_eq_zero_iff.mp (by omega)
   rw[if_neg (by subst this;simp),if_pos this] at hk
   refine H_ ?_;exact aa hk
 have hx:¬x=[]:=by rintro rfl;simp at c2
 refine D_ ?_;refine Jh L 202 [] (fun s=>!dR s) .no x (by omega) H1 (fun p hp K hk=>MX L p (hm p hp) H1 K hk) _ ?_
 cases c3:x.any (fun s=>!dR s)
 case true =>
   rw[if_pos c3] at hk;refine H_ ?_;exact aa hk
 rw[if_neg (by simp[c3]),if_neg hx] at hk
 refine H_ ?_;cases c4:decide ((8:Int) < (x.length:Int))
 case true =>
   rw[if_pos (by simp only[decide_eq_true_eq] at c4;omega)] at hk
   refine H_ ?_;exact aa hk
 rw[if_neg (by simp only[decide_eq_false_iff_not] at c4;omega)] at hk
 refine H_ ?_;exact aa hk
theorem mu(L:ai code)(l:List UInt8)(hl:l.length≤1048576)(H:ab)(K)(hk:∀H',Fr [] H H'→K (I (dq l)) H'):Spec L.P L.ν 199 [S l] H K:=by
 have h1:=nE l;unfold dq at hk;refine ah L GX rfl ?_;refine H_ ?_;cases c1:decide ((128:Int) < (l.length:Int))
 case true =>
   rw[if_pos (by simp only[decide_eq_true_eq] at c1;omega)] at hk
   refine H_ ?_;exact aa (hk H (Fr.refl _ _))
 rw[if_neg (by simp only[decide_eq_false_iff_not] at c1;omega)] at hk
 refine D_ ?_;refine mQ L l hl H _ fun H1 f1=>?_
 replace hk:=hk H1 f1
 have hm:∀s∈sc l,s.length≤1048576:=fun s hs=>Nat.le_trans (Hi hs) hl;generalize sc l=x at h1 hk hm ⊢;refine H_ ?_;refine aV (ak L) (fun(i:Nat)=>[(3,.h (.sl .no 1 (x.map S))),(4,.h (I i))]) (fun _=>[])
   (fun i H'=>H'=H1∧∃h:i≤x.length,∀j (hj:j < i),dR (x[j]'(by omega))=true) (fun i=>x.length - i) 0 ?_ ⟨rfl,by omega,fun j hj=>by omega⟩ ?_
 · exact E_
 rintro i H' ⟨rfl,hi,hb⟩;refine H_ ?_;(refine ct T_ ?_ ?_<;>intro h)
 · have fo:i < x.length:=by simpa using h
   refine D_ ?_;refine Cs L x[i] (hm _ (List.getElem_mem fo)) _ _ ?_;refine H_ ?_;cases c2:dR x[i]
   · rw[if_pos (List.any_eq_true.mpr ⟨x[i],List.getElem_mem fo,by simp[c2]⟩)] at hk
     simp only[Bool.not_false];refine H_ ?_;exact aa hk
   · simp only[Bool.not_true];refine H_ ?_;refine dG (i+1) (by omega) ⟨rfl,by omega,fun j hj=>?_⟩ ?_
     · rcases Nat.lt_or_ge j i with h3 | h3;{exact hb j h3}
       · have:j=i:=by omega
         subst this;exact c2
     · exact E_
 · have fo:i=x.length:=by
     have:¬i < x.length:=by simpa using h
     omega
   subst fo;have jJ:¬x.any (fun s=>!dR s)=true:=by
     rw[List.any_eq_true];rintro⟨s,hs,hf⟩;obtain⟨j,hj,rfl⟩:=List.getElem_of_mem hs;rw[hb j hj] at hf;cases hf
   rw[if_neg jJ] at hk;refine H_ ?_;cases c2:(((x.length:Nat):Int)==0)
   case true =>
     have:x=[]:=by simp only[beq_iff_eq] at c2;exact List.length_eq_zero_iff.mp (by omega)
     rw[if_pos this] at hk;refine H_ ?_;exact aa hk
   have hx:¬x=[]:=by rintro rfl;simp at c2
   rw[if_neg hx] at hk;refine H_ ?_;cases c4:decide ((8:Int) < (x.length:Int))
   case true =>
     rw[if_pos (by simp only[decide_eq_true_eq] at c4;omega)] at hk
     refine H_ ?_;exact aa hk
   rw[if_neg (by simp only[decide_eq_false_iff_not] at c4;omega)] at hk
   refine H_ ?_;exact aa hk
end Sm
namespace Sm
open Go
structure ry where
 path:List UInt8
 dir:Bool
 data:List UInt8
 deriving DecidableEq,Inhabited
def dX(e:ry):HV:=.ag [S e.path,B e.dir,.sl .no 1 (e.data.map U)]
theorem cQ:∀e:ry,dX e = .ag [S e.path,B e.dir,.sl .no 1 (e.data.map U)]:=fun _=>rfl
def aU(L:ai code)(g:Nat)(args:List HV)(r:HV):Prop:=∀H K,(∀H',Fr [] H H'→K r H')→Spec L.P L.ν g args H K
def uw(a b:ry):Bool:=(a.path==b.path)&&((a.dir==b.dir)&&(a.data==b.data))
theorem PC{α:Type}{f:α→Bool}{l:List α}{i:Nat}(hi:i < l.length)(hf:f l[i]=true)(hb:∀j (hj:j < i),f (l[j]'(by omega))=false):l.find? f=some l[i]:=by
 rw[List.find?_eq_some_iff_getElem];exact⟨hf,i,hi,rfl,fun j hj=>by simp[hb j hj]⟩
theorem PD{α:Type}{f:α→Bool}{l:List α}(hb:∀j (hj:j < l.length),f l[j]=false):l.find? f=none:=by
 rw[List.find?_eq_none];intro x hx;obtain⟨j,hj,rfl⟩:=List.getElem_of_mem hx;simp[hb j hj]
theorem jC{α:Type}(f:α→Bool)(l:List α):(firstIdx f l = -1∧l.find? f=none)∨∃i,∃h:i < l.length,firstIdx f l=i∧l.find? f=some l[i]∧f l[i]=true∧∀j (hj:j < i),f (l[j]'(by omega))=false:=by
 cases h:l.any f
 · left;have h2:∀j (hj:j < l.length),f l[j]=false:=fun j hj=>by
     have:=List.any_eq_false.mp h l[j] (List.getElem_mem hj);simpa using this
   exact⟨firstIdx_none h2,PD h2⟩
 · right;have bN:l.findIdx f < l.length:=List.findIdx_lt_length_of_exists (by simpa using List.any_eq_true.mp h)
   have h1:f l[l.findIdx f]=true:=List.findIdx_getElem;have h2:∀j (hj:j < l.findIdx f),f (l[j]'(by omega))=false:=fun j hj=>by simpa using List.not_of_lt_findIdx hj
   exact⟨l.findIdx f,bN,by rw[firstIdx,if_pos h],PC bN h1 h2,h1,h2⟩
theorem Jx.dt{H H':ab}{fC:Tk}(h:Jx H H' .full fC):Fr [] H H':=by simpa[tb] using h.fr
attribute [local irreducible] aH aj aX bk aA aL bn DK RK JK BR G3 bh Spec Tok Fr
theorem zl(L:ai code)(tk:Tk)(l:List UInt8)(hl:l.length≤140737488355328):aU L 186 [.sl tk 1 (l.map U)] (.sl .no 1 (l.map U)):=by
 intro H K hk;refine ah L rP rfl ?_;refine J_ cQ ?_;refine rQ rfl fun t ht=>?_;cases t;{refine J_ cQ ?_;apply vk;rfl;rfl;(focus exact Tok.AaC _ _ _);(focus (simp;omega));intro fC H' h1 h2;refine J_ cQ ?_;exact b7 (an.drop _ _ _) (hk H' h2.dt)}
 · have hl:l=[]:=by simpa using ht rfl
   subst hl;refine J_ cQ ?_;exact b7 (an.dO 1) (hk H (Fr.refl _ _))
theorem beq_spec(L:ai code)(t1 t2:Tk)(a b:List UInt8):Pure L 194 [.sl t1 1 (a.map U),.sl t2 1 (b.map U)] (B (a==b)):=by
 intro H K hk;refine ah L GR rfl ?_;refine J_ cQ ?_;exact aa hk
theorem IK(L:ai code)(g:Nat)(cq:List HV)(f:ry→Bool)(tk:Tk)(l:List ry)(hl:l.length≤1048576)(H:ab)(hf:∀p∈l,∀H' K,Fr [] H H'→(∀uI,Fr [] H' uI→K (B (f p)) uI)→Spec L.P L.ν g (dX p::cq) H' K)(K)(hk:∀H',Fr [] H H'→K (I (firstIdx f l)) H') :
   Spec L.P L.ν 189 [.sl tk 3 (l.map dX),.fn g cq] H K:=by
 refine ah L GJ rfl ?_;refine J_ cQ ?_;refine aV (ak L) (fun(i:Nat)=>[(0,.h (.sl tk 3 (l.map dX))),(1,.h (.fn g cq)),(7,.h (I l.length)),(8,.h (I i))]) (fun _=>[])
   (fun i H'=>Fr [] H H'∧∃h:i≤l.length,∀j (hj:j < i),f (l[j]'(by omega))=false) (fun i=>l.length - i) 0 ?_ ⟨Fr.refl _ _,by omega,fun j hj=>by omega⟩ ?_
 · exact E_
 rintro i H' ⟨rN,hi,hb⟩;refine J_ cQ ?_;(refine ct cQ ?_ ?_<;>intro h)
 · have fo:i < l.length:=by simpa using h
   refine J_ cQ ?_;(apply oP;rfl;rfl);refine hf l[i] (List.getElem_mem fo) H' _ rN fun H2 f2=>?_;refine J_ cQ ?_;(refine ct cQ ?_ ?_<;>intro h2)
   · refine J_ cQ ?_
     replace hk:=hk H2 (rN.trans f2)
     rw[eN fo h2 hb] at hk;exact aa hk
   · refine J_ cQ ?_;refine dG (i+1) (by omega) ⟨rN.trans f2,by omega,fun j hj=>?_⟩ ?_
     · rcases Nat.lt_or_ge j i with h3 | h3;{exact hb j h3}
       · have:j=i:=by omega
         subst this;exact h2
     · exact E_
 · have fo:i=l.length:=by
     have:¬i < l.length:=by simpa using h
     omega
   subst fo
   replace hk:=hk H' rN
   rw[firstIdx_none hb] at hk;refine J_ cQ ?_;exact aa hk
theorem Cx(L:ai code)(a b:ry):Pure L 154 [dX a,dX b] (B (uw a b)):=by
 intro H K hk;unfold uw at hk;refine ah L GZ rfl ?_;refine J_ cQ ?_;cases c1:(a.path==b.path);{rw[c1] at hk;refine J_ cQ ?_;exact aa hk};rw[c1] at hk;refine J_ cQ ?_;cases c2:(a.dir==b.dir)
 · rw[c2] at hk
   repeat (refine gk (And.intro cQ c2) ?_)
   exact aa hk
 rw[c2] at hk
 repeat (refine gk (And.intro cQ c2) ?_)
 exact aa hk
end Sm
namespace Sm
open Go
def mO:List ry→List ry→Bool
 | [],[]=>true
 | a::as,b::bs=>uw a b&&mO as bs
 | _,_=>false
theorem wm:∀{a b:List ry},a.length≠b.length→mO a b=false
 | [],[],h=>absurd rfl h
 | [],_::_,_=>rfl
 | _::_,[],_=>rfl
 | a::as,b::bs,h=>by rw[mO,wm (by simpa using h),Bool.and_false]
theorem Cy{a b:List ry}{i:Nat}(ha:i < a.length)(hb:i < b.length):mO (a.drop i) (b.drop i)=(uw a[i] b[i]&&mO (a.drop (i+1)) (b.drop (i+1))):=by
 rw[List.drop_eq_getElem_cons ha,List.drop_eq_getElem_cons hb,mO]
attribute [local irreducible] aH aj aX bk aA aL bn DK RK JK BR G3 bh Spec Tok Fr
theorem tX(L:ai code)(t1 t2:Tk)(a b:List ry)(hl:a.length≤1048576):Pure L 160 [.sl t1 3 (a.map dX),.sl t2 3 (b.map dX)] (B (mO a b)):=by
 intro H K hk;refine ah L GB rfl ?_;refine J_ cQ ?_;cases c1:(((a.length:Nat):Int) != ((b.length:Nat):Int))
 case true =>
   rw[wm (by intro h;rw[h] at c1;simp at c1)] at hk
   refine J_ cQ ?_;exact aa hk
 have AO:a.length=b.length:=by simp[bne] at c1;omega
 refine J_ cQ ?_;refine aV (ak L) (fun(i:Nat)=>[(0,.h (.sl t1 3 (a.map dX))),(1,.h (.sl t2 3 (b.map dX))),(5,.h (I i))]) (fun _=>[])
   (fun i H'=>H'=H∧i≤a.length∧mO a b=mO (a.drop i) (b.drop i)) (fun i=>a.length - i) 0 ?_ ⟨rfl,by omega,rfl⟩ ?_
 · exact E_
 rintro i H' ⟨rfl,hi,he⟩;refine J_ cQ ?_;(refine ct cQ ?_ ?_<;>intro h)
 · have fo:i < a.length:=by simpa using h
   have Dt:i < b.length:=by omega
   rw[Cy fo Dt] at he;refine K_ cQ ?_;refine Cx L a[i] b[i] _ _ ?_;refine J_ cQ ?_;cases c2:uw a[i] b[i];{rw[c2,Bool.false_and] at he;rw[he] at hk;simp only[Bool.not_false];refine J_ cQ ?_;exact aa hk}
   · rw[c2,Bool.true_and] at he;simp only[Bool.not_true];refine J_ cQ ?_;refine dG (i+1) (by omega) ⟨rfl,by omega,he⟩ ?_
     exact E_
 · have fo:i=a.length:=by
     have:¬i < a.length:=by simpa using h
     omega
   subst fo;rw[List.drop_of_length_le (Nat.le_refl _),List.drop_of_length_le (by omega)] at he
   rw[he] at hk;refine J_ cQ ?_;exact aa hk
end Sm
namespace Sm
open Go
attribute [local irreducible] aH aj aX bk aA aL bn DK RK JK BR G3 bh Spec Tok Fr
end Sm
