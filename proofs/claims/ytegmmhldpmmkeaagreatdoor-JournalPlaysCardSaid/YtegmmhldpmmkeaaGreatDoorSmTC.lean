/-
  T23,T25,T26,T27,T29,T30,T31,T32,D1,D2,D40,D3,D4,D5,D6,D7,D41
-/
import Derived.Test.YtegmmhldpmmkeaaGreatDoorSmTB
import Derived.Test.YtegmmhldpmmkeaaGreatDoorSmLI
import Derived.Test.YtegmmhldpmmkeaaGreatDoorSmLJ
set_option linter.unusedVariables false
set_option linter.unusedSimpArgs false
set_option maxRecDepth 10000
set_option maxHeartbeats 1000000
namespace Sm
open Go
theorem ov:∀l:List ry,mO l l=true
 | []=>rfl
 | a::as=>by rw[mO,Ct,ov as];rfl
theorem An:∀{a b c:List UInt8},Op.bytesLess a b=true→Op.bytesLess b c=true→Op.bytesLess a c=true
 | [],[],_,h,_=>by simp[Op.bytesLess] at h
 | [],_::_,[],_,h=>by simp[Op.bytesLess] at h
 | [],_::_,_::_,_,_=>by simp[Op.bytesLess]
 | _::_,[],_,h,_=>by simp[Op.bytesLess] at h
 | _::_,_::_,[],_,h=>by simp[Op.bytesLess] at h
 | x::a,y::b,z::c,h1,h2=>by
   have ih:=@An a b c;simp only[Op.bytesLess] at h1 h2 ⊢;simp only[Bool.or_eq_true,decide_eq_true_eq,Bool.and_eq_true,beq_iff_eq,UInt8.lt_iff_toNat_lt] at h1 h2 ⊢;rcases h1 with h1 | ⟨rfl,h1⟩;{rcases h2 with h2 | ⟨rfl,h2⟩;{exact .inl (by omega)};{exact .inl h1}};{rcases h2 with h2 | ⟨rfl,h2⟩;{exact .inl h2};{exact .inr ⟨rfl,ih h1 h2⟩}}
theorem mP{a b:List UInt8}:kP a b < 0↔Op.bytesLess a b=true:=by
 unfold kP;cases h:Op.bytesLess a b;{simp only[Bool.false_eq_true,if_false,iff_false];split<;>omega};{simp}
theorem wh:∀x:List (List UInt8),cmpL x x=0
 | []=>rfl
 | a::x=>by rw[cmpL,if_pos (jX.mpr rfl),wh x]
theorem ux:∀{x y z:List (List UInt8)},cmpL x y < 0→cmpL y z < 0→cmpL x z < 0
 | [],[],_,h,_=>by rw[cmpL] at h;omega
 | [],_::_,[],_,h=>by rw[cmpL] at h;omega
 | [],_::_,_::_,_,_=>by rw[cmpL];decide
 | _::_,[],_,h,_=>by rw[cmpL] at h;omega
 | _::_,_::_,[],_,h=>by rw[cmpL] at h;omega
 | a::x,b::y,c::z,h1,h2=>by
   have ih:=@ux x y z;rw[cmpL] at h1 h2 ⊢
   by_cases e1:kP a b=0
   · rw[if_pos e1] at h1;have KX:=jX.mp e1;subst KX
     by_cases e2:kP a c=0
     · rw[if_pos e2] at h2 ⊢;exact ih h1 h2
     · rw[if_neg e2] at h2 ⊢;exact h2
   · rw[if_neg e1] at h1
     by_cases e2:kP b c=0
     · rw[if_pos e2] at h2;have uJ:=jX.mp e2;subst uJ;rw[if_neg e1];exact h1
     · rw[if_neg e2] at h2;have h3:=mP.mpr (An (mP.mp h1) (mP.mp h2));rw[if_neg (by omega)];exact h3
theorem ko(a:List UInt8):ck a a=false:=by simp[ck,wh]
theorem ik{a b c:List UInt8}(h1:ck a b=true)(h2:ck b c=true):ck a c=true:=by
 simp only[ck,decide_eq_true_eq] at *;exact ux h1 h2
theorem qy:∀l:List UInt8,(lV l).1++(lV l).2.flatMap (fun s=>47::s)=l
 | []=>rfl
 | b::l=>by
   have ih:=qy l
   by_cases hb:(b==47)=true
   · simp only[lV,hb,if_true,List.flatMap_cons,List.nil_append,List.cons_append,ih];rw[show b=47 by simpa using hb]
   · simp only[lV,if_neg hb,List.cons_append,ih]
theorem MQ{a b:List UInt8}(h:fB a=fB b):a=b:=by
 simp only[fB,List.cons.injEq] at h;rw[←qy a,←qy b,h.1,h.2]
theorem Pz{a b:List UInt8}(h:sc a=sc b):a=b:=by
 unfold sc at h;split at h
 · split at h
   · simp_all
   · simp[fB] at h
 · split at h;{simp[fB] at h};{exact MQ h}
theorem MR:∀{a b:List UInt8},Op.bytesLess a b=false→a≠b→Op.bytesLess b a=true
 | [],[],_,h=>absurd rfl h
 | [],_::_,h,_=>by simp[Op.bytesLess] at h
 | _::_,[],_,_=>by simp[Op.bytesLess]
 | x::a,y::b,h1,h2=>by
   have ih:=@MR a b;simp only[Op.bytesLess,Bool.or_eq_false_iff,decide_eq_false_iff_not,Bool.and_eq_false_iff,beq_eq_false_iff_ne,UInt8.lt_iff_toNat_lt] at h1;simp only[Op.bytesLess,Bool.or_eq_true,decide_eq_true_eq,Bool.and_eq_true,beq_iff_eq,UInt8.lt_iff_toNat_lt]
   by_cases e:x=y
   · subst e;refine .inr ⟨rfl,ih ?_ fun e2=>h2 (by rw[e2])⟩
     rcases h1.2 with h3 | h3;{exact absurd rfl h3};{exact h3}
   · left;have:x.toNat≠y.toNat:=fun e2=>e (UInt8.toNat_inj.mp e2);omega
theorem Aq:∀{x y:List (List UInt8)},¬cmpL x y < 0→x≠y→cmpL y x < 0
 | [],[],_,h=>absurd rfl h
 | [],_::_,h,_=>by rw[cmpL] at h;omega
 | _::_,[],_,_=>by rw[cmpL];decide
 | a::x,b::y,h1,h2=>by
   have ih:=@Aq x y;rw[cmpL] at h1 ⊢
   by_cases e:a=b
   · subst e;rw[if_pos (jX.mpr rfl)] at h1 ⊢;exact ih h1 fun e2=>h2 (by rw[e2])
   · have e1:kP a b≠0:=fun h=>e (jX.mp h);have e2:kP b a≠0:=fun h=>e (jX.mp h).symm;rw[if_neg e1] at h1;rw[if_neg e2,mP];refine MR ?_ e;cases hb:Op.bytesLess a b;{rfl};{exact absurd (mP.mpr hb) h1}
theorem jj{a b:List UInt8}(h:ck a b=false)(hn:a≠b):ck b a=true:=by
 simp only[ck,decide_eq_true_eq,decide_eq_false_iff_not] at *;exact Aq h fun e=>hn (Pz e)
structure Eo where
 e:ry
 v:HV
 deriving Inhabited
def cO(x:Eo):List HV:=[S x.e.path,B x.e.dir,x.v]
def Y0(l:List Eo):List HV:=l.flatMap cO
def DW(G H:ab)(o:Nat)(v:HV)(d:List UInt8):Prop:=
 (v = .v (.slice none 0 0)∧d=[])∨(v = .sl .full 1 []∧d=[]) ∨
 ∃b c zs,v = .v (.slice (some ⟨b,0,none⟩) d.length c)∧b≠o∧H b=some (.obj (d.map U++zs))∧d.length≤c∧c≤maxLen∧G b=none
theorem DW.one{G H o v d}(h:DW G H o v d):v.one=true:=by
 rcases h with⟨rfl,_⟩ | ⟨rfl,_⟩ | ⟨b,c,zs,rfl,_⟩<;>rfl
theorem Y6{x:Eo}(h:x.v.one=true):(cO x).all HV.one=true:=by
 show (HV.one _&&(HV.one _&&(HV.one x.v&&true)))=true;rw[h];rfl
theorem Aaw{x:Eo}(h:x.v.one=true):(HV.ag (cO x)).el=true:=Y6 h
theorem DW.fr{bs G H H' o v d}(h:DW G H o v d)(hf:Fr bs H H')(hb:bs ⊆ [o]):DW G H' o v d:=by
 rcases h with h | h | ⟨b,c,zs,h1,h2,h3,h4⟩;{exact .inl h};{exact .inr (.inl h)};{exact .inr (.inr ⟨b,c,zs,h1,h2,hf.get (fun h=>h2 (by simpa using hb h)) h3,h4⟩)}
structure OO (H:ab) (b n c:Nat) (l:List Eo):Prop where
 ob:∃zs,H b=some (.obj (Y0 l++zs))∧zs.length=(c - n)*3∧zs.all HV.one=true
 len:l.length=n
 nc:n≤c
 cm:c≤maxLen
attribute [local irreducible] aH aj aX bk aA aL bn DK RK JK BR G3 bh Spec Tok Fr
end Sm
namespace Sm
open Go
structure Nm where
 path:List UInt8
 dir:Bool
 id:Nat
 deriving DecidableEq,Inhabited
structure Fl where
 b:List UInt8
 safe:Nat
 deriving DecidableEq,Inhabited
inductive di where
 | mk (x:Nm)
 | rm (x:Nm)
 | mv (x:Nm) (y:Option Nm) (b:List UInt8)
 deriving DecidableEq,Inhabited
def di.gone:di→List Nm
 | .mk _=>[]
 | .rm x=>[x]
 | .mv x none _=>[x]
 | .mv x (some y) _=>[x,y]
def di.cN:di→List Nm
 | .mk x=>[x]
 | .rm _=>[]
 | .mv x _ b=>[⟨b,false,x.id⟩]
def eR(l:List Nm)(x:Nm):List Nm:=l.takeWhile (fun n=>ck n.path x.path)++x::l.dropWhile (fun n=>ck n.path x.path)
def eS(c:di)(n:Nm):Bool:=c.gone.any fun g=>g.path==n.path
def iF(l:List Nm)(c:di):List Nm:=c.cN.foldl eR (l.filter fun n=>!eS c n)
def br(l:List Nm)(cs:List di):List Nm:=cs.foldl iF l
def SN(l:List Nm):Prop:=l.Pairwise fun x y=>ck x.path y.path=true
def di.fit:di→Prop
 | .mv _ (some y) b=>y.path=b
 | _=>True
def Nc(l:List Nm)(c:di):Prop:=(∀z∈c.cN,∀n∈l,n.path=z.path→eS c n=true)∧c.fit
def bG(l:List Nm)(p:List UInt8):Option Nm:=l.find? (fun n=>n.path==p)
theorem SN.nd{l:List Nm}(h:SN l):(l.map Nm.path).Nodup:=by
 rw[List.Nodup,List.pairwise_map];refine h.imp fun {x y} hxy he=>?_;rw[he,ko] at hxy;cases hxy
theorem SN.filter{l:List Nm}(h:SN l)(p:Nm→Bool):SN (l.filter p):=List.Pairwise.sublist List.filter_sublist h
theorem Aat{l:List Nm}(h:(l.map Nm.path).Nodup){x y:Nm}(hx:x∈l)(hy:y∈l)(he:x.path=y.path):x=y:=by
 obtain⟨i,hi,rfl⟩:=List.getElem_of_mem hx;obtain⟨j,hj,rfl⟩:=List.getElem_of_mem hy;have:=kq h (i:=i) (j:=j) (by simpa using hi) (by simpa using hj) (by simpa using he)
 subst this;rfl
theorem J5{α:Type}{p:α→Bool}:∀{l:List α} {x:α},x∈l.takeWhile p→p x=true
 | [],x,h=>by simp at h
 | a::l,x,h=>by
   rw[List.takeWhile_cons] at h;split at h;{rename_i ha;rcases List.mem_cons.mp h with rfl | h;{exact ha};{exact J5 h}};{simp at h}
theorem vd{l:List Nm}{x n:Nm}:n∈eR l x↔n=x∨n∈l:=by
 unfold eR;rw[List.mem_append,List.mem_cons]
 conv=>rhs;rw[←List.takeWhile_append_dropWhile (p:=fun n=>ck n.path x.path) (l:=l),List.mem_append]
 constructor;{rintro(h | h | h);{exact .inr (.inl h)};{exact .inl h};{exact .inr (.inr h)}};{rintro(h | h | h);{exact .inr (.inl h)};{exact .inl h};{exact .inr (.inr h)}}
theorem ve(l:List Nm)(x:Nm):(eR l x).length=l.length+1:=by
 have h:=congrArg List.length (List.takeWhile_append_dropWhile (p:=fun n=>ck n.path x.path) (l:=l));unfold eR;simp only[List.length_append,List.length_cons] at h ⊢;omega
theorem ND{l:List Nm}(h:SN l)(x:Nm):∀n∈l.dropWhile (fun n=>ck n.path x.path),ck n.path x.path=false:=by
 induction l with
 | nil=>simp
 | cons a l ih =>
   intro n hn;rw[List.dropWhile_cons] at hn;split at hn;{exact ih (List.pairwise_cons.mp h).2 n hn};{rename_i ha;rcases List.mem_cons.mp hn with rfl | hn;{simpa using ha};{have h1:=(List.pairwise_cons.mp h).1 n hn;cases hc:ck n.path x.path;{rfl};{exact absurd (ik h1 hc) ha}}}
theorem J6{l:List Nm}(h:SN l){x:Nm}(hx:∀n∈l,n.path≠x.path):SN (eR l x):=by
 have h0:=h;rw[SN,←List.takeWhile_append_dropWhile (p:=fun n=>ck n.path x.path) (l:=l),List.pairwise_append] at h0;obtain⟨h1,h2,h3⟩:=h0;unfold eR;rw[SN,List.pairwise_append,List.pairwise_cons];have hd:∀n∈l.dropWhile (fun n=>ck n.path x.path),ck x.path n.path=true:=fun n hn=>by
   refine jj (ND h x n hn) ?_;refine hx n ?_;rw[←List.takeWhile_append_dropWhile (p:=fun n=>ck n.path x.path) (l:=l),List.mem_append];exact .inr hn
 refine⟨h1,⟨hd,h2⟩,fun a ha b hb=>?_⟩;have hax:=J5 ha;rcases List.mem_cons.mp hb with rfl | hb;{exact hax};{exact h3 a ha b hb}
theorem sN(c:di):c.cN=[]∨∃z,c.cN=[z]:=by
 cases c with
 | mk x=>exact .inr ⟨_,rfl⟩
 | rm x=>exact .inl rfl
 | mv x y b=>exact .inr ⟨_,rfl⟩
theorem sO{l:List Nm}{c:di}{n:Nm}:n∈iF l c↔n∈c.cN∨(n∈l∧eS c n=false):=by
 unfold iF;rcases sN c with h | ⟨z,h⟩;{rw[h];simp};{rw[h];simp only[List.foldl_cons,List.foldl_nil,vd,List.mem_filter,Bool.not_eq_true',List.mem_cons,List.not_mem_nil,or_false]}
theorem CU{l:List Nm}{c:di}(h:SN l)(hc:Nc l c):SN (iF l c):=by
 unfold iF;rcases sN c with h1 | ⟨z,h1⟩;{rw[h1];exact h.filter _}
 · rw[h1];refine J6 (h.filter _) fun n hn he=>?_;rw[List.mem_filter] at hn;have:=hc.1 z (by rw[h1];simp) n hn.1 he
   simp[this] at hn
theorem J7(l:List Nm)(c:di):(iF l c).length≤l.length+1:=by
 unfold iF;have hf:=List.length_filter_le (fun n=>!eS c n) l;rcases sN c with h1 | ⟨z,h1⟩;{rw[h1,List.foldl_nil];omega};{rw[h1,List.foldl_cons,List.foldl_nil,ve];omega}
theorem kT(cs:List di):∀l:List Nm,(br l cs).length≤l.length+cs.length:=by
 induction cs with
 | nil=>intro l;exact Nat.le_refl _
 | cons c cs ih =>
   intro l;have h1:=ih (iF l c);have h2:=J7 l c;rw[br,List.foldl_cons];rw[br] at h1;simp only[List.length_cons];omega
theorem ma(l:List Nm)(cs:List di)(c:di):br l (cs++[c])=iF (br l cs) c:=by
 rw[br,List.foldl_append];rfl
def chain:List Nm→List di→Prop
 | l,[]=>True
 | l,c::cs=>Nc l c∧chain (iF l c) cs
theorem ea:∀{cs:List di} {l:List Nm},SN l→chain l cs→SN (br l cs)
 | [],l,h,_=>h
 | c::cs,l,h,hc=>by
   rw[br,List.foldl_cons];exact ea (CU h hc.1) hc.2
theorem nX:∀{cs:List di} {l:List Nm} {c:di},chain l cs→Nc (br l cs) c→chain l (cs++[c])
 | [],l,c,_,h=>⟨h,T_⟩
 | d::cs,l,c,hc,h=>⟨hc.1,nX hc.2 h⟩
theorem gM:∀{cs:List di} {l:List Nm} (k:Nat),chain l cs→chain l (cs.take k)
 | [],l,k,h=>by rw[List.take_nil];trivial
 | d::cs,l,0,h=>trivial
 | d::cs,l,k+1,h=>⟨h.1,gM k h.2⟩
theorem dN{l:List Nm}{p:List UInt8}{x:Nm}(h:bG l p=some x):x∈l∧x.path=p:=
 ⟨List.mem_of_find?_eq_some h,by simpa using List.find?_some h⟩
theorem ku{l:List Nm}{p:List UInt8}(h:bG l p=none):∀n∈l,n.path≠p:=fun n hn=>by
 simpa using List.find?_eq_none.mp h n hn
theorem mX{l:List Nm}(hn:(l.map Nm.path).Nodup){x:Nm}(hx:x∈l):bG l x.path=some x:=by
 cases h:bG l x.path with
 | none=>exact absurd rfl (ku h x hx)
 | some y =>
   obtain⟨h1,h2⟩:=dN h;rw[Aat hn h1 hx h2]
theorem pR{l m:List Nm}(hp:m.Perm l)(hn:(l.map Nm.path).Nodup)(p:List UInt8):bG m p=bG l p:=by
 have hm:(m.map Nm.path).Nodup:=(hp.map _).nodup_iff.mpr hn;cases h:bG l p with
 | none =>
   cases h2:bG m p with
   | none=>rfl
   | some y =>
     obtain⟨h3,h4⟩:=dN h2;exact absurd h4 (ku h y (hp.mem_iff.mp h3))
 | some y =>
   obtain⟨h3,rfl⟩:=dN h;exact mX hm (hp.mem_iff.mpr h3)
theorem vf{l:List Nm}(h:(l.map Nm.path).Nodup):l.Nodup:=by
 rw[List.Nodup,List.pairwise_map] at h;exact h.imp fun hxy he=>hxy (by rw[he])
theorem NF{a b:List Nm}(ha:(a.map Nm.path).Nodup)(hb:(b.map Nm.path).Nodup)(h:∀n,n∈a↔n∈b):a.Perm b:=
 (List.perm_ext_iff_of_nodup (vf ha) (vf hb)).mpr h
theorem vg{m:List Nm}(h:(m.map Nm.path).Nodup)(x n:Nm):n∈sP Nm.path m x↔n=x∨(n∈m∧n.path≠x.path):=by
 unfold sP;split
 · rename_i jJ;obtain⟨y,hy,Cb⟩:=List.any_eq_true.mp jJ;have hy3:y.path=x.path:=by simpa using Cb
   rw[List.mem_map];constructor;{rintro⟨a,ha,rfl⟩;split;{exact .inl rfl};{rename_i eJ;exact .inr ⟨ha,by simpa using eJ⟩}};{rintro(rfl | ⟨h1,h2⟩);{exact⟨y,hy,if_pos Cb⟩};{exact⟨n,h1,if_neg (by simpa using h2)⟩}}
 · rename_i jJ;rw[List.mem_append,List.mem_singleton];constructor;{rintro(h1 | h1);{refine .inr ⟨h1,fun he=>jJ (List.any_eq_true.mpr ⟨n,h1,by simpa using he⟩)⟩};{exact .inl h1}};{rintro(h1 | h1);{exact .inr h1};{exact .inl h1.1}}
theorem NG{m:List Nm}(h:(m.map Nm.path).Nodup)(p:Nm→Bool):((m.filter p).map Nm.path).Nodup:=List.Nodup.sublist (List.filter_sublist.map _) h
def di.ps:di→List (List UInt8×Option Nm)
 | .mk x=>[(x.path,some x)]
 | .rm x=>[(x.path,none)]
 | .mv x _ b=>[(x.path,none),(b,some ⟨b,false,x.id⟩)]
def H6(m:List Nm)(q:List UInt8×Option Nm):List Nm:=match q.2 with
 | none=>m.filter fun n=>!(n.path==q.1)
 | some x=>sP Nm.path m x
theorem J8{m:List Nm}(h:(m.map Nm.path).Nodup)(q:List UInt8×Option Nm):((H6 m q).map Nm.path).Nodup:=by
 obtain⟨p,o⟩:=q;cases o with
 | none=>exact NG h _
 | some x=>exact vh h
theorem J9{m l:List Nm}{c:di}(hp:m.Perm l)(hs:SN l)(hc:Nc l c):(c.ps.foldl H6 m).Perm (iF l c):=by
 have hm:(m.map Nm.path).Nodup:=(hp.map _).nodup_iff.mpr hs.nd;have hn:∀qs:List (List UInt8×Option Nm),∀m,(m.map Nm.path).Nodup→((qs.foldl H6 m).map Nm.path).Nodup:=by
   intro qs
   induction qs with
   | nil=>intro m h;exact h
   | cons q qs ih=>intro m h;rw[List.foldl_cons];exact ih _ (J8 h q)
 refine NF (hn _ _ hm) (CU hs hc).nd fun n=>?_;rw[sO];cases c with
 | mk x =>
   simp only[di.ps,List.foldl_cons,List.foldl_nil,H6,vg hm,di.cN,List.mem_cons,List.not_mem_nil,or_false,eS,di.gone,List.any_nil,and_true,hp.mem_iff];constructor;{rintro(h | h);{exact .inl h};{exact .inr h.1}}
   · rintro(h | h);{exact .inl h}
     · refine .inr ⟨h,fun he=>?_⟩;have:=hc.1 x (by simp[di.cN]) n h he
       simp[eS,di.gone] at this
 | rm x =>
   simp only[di.ps,List.foldl_cons,List.foldl_nil,H6,di.cN,List.not_mem_nil,false_or,eS,di.gone,List.any_cons,List.any_nil,Bool.or_false,List.mem_filter,hp.mem_iff];constructor
   · rintro⟨h1,h2⟩;refine⟨h1,?_⟩;have h3:¬n.path=x.path:=by simpa using h2
     simpa using fun he=>h3 he.symm
   · rintro⟨h1,h2⟩;refine⟨h1,?_⟩;have h3:¬x.path=n.path:=by simpa using h2
     simpa using fun he=>h3 he.symm
 | mv x y b =>
   have AL:=J8 hm (x.path,none);have hg:∀n∈l,(eS (.mv x y b) n=false↔n.path≠x.path∧n.path≠b):=by
     intro n hn;cases y with
     | none =>
       simp only[eS,di.gone,List.any_cons,List.any_nil,Bool.or_false];constructor
       · intro h;have h3:¬x.path=n.path:=by simpa using h
         refine⟨fun he=>h3 he.symm,fun he=>?_⟩;have:=hc.1 ⟨b,false,x.id⟩ (by simp[di.cN]) n hn he
         simp only[eS,di.gone,List.any_cons,List.any_nil,Bool.or_false] at this;rw[this] at h;cases h
       · rintro⟨h1,h2⟩;simpa using fun he=>h1 he.symm
     | some y =>
       have hy:y.path=b:=hc.2;simp only[eS,di.gone,List.any_cons,List.any_nil,Bool.or_false,hy];constructor
       · intro h;have h3:¬x.path=n.path∧¬b=n.path:=by simpa using h
         exact⟨fun he=>h3.1 he.symm,fun he=>h3.2 he.symm⟩
       · rintro⟨h1,h2⟩;simpa using ⟨fun he=>h1 he.symm,fun he=>h2 he.symm⟩
   simp only[di.ps,List.foldl_cons,List.foldl_nil];rw[show H6 (H6 m (x.path,none)) (b,some ⟨b,false,x.id⟩)=sP Nm.path (H6 m (x.path,none)) ⟨b,false,x.id⟩ from rfl,vg AL];simp only[H6,List.mem_filter,hp.mem_iff,di.cN,List.mem_cons,List.not_mem_nil,or_false];constructor;{rintro(h | ⟨⟨h1,h2⟩,h3⟩);{exact .inl h};{exact .inr ⟨h1,(hg n h1).mpr ⟨by simpa using h2,h3⟩⟩}};{rintro(h | ⟨h1,h2⟩);{exact .inl h};{obtain⟨h3,h4⟩:=(hg n h1).mp h2;exact .inr ⟨⟨h1,by simpa using h3⟩,h4⟩}}
structure Dk where
 room:Int
 sure:List Nm
 loose:List di
 f:List Fl
 down:Bool
 ops:Nat
 aD:Int
 done:Bool
 aE:Int
 deriving Inhabited
def Dk.now(d:Dk):List Nm:=br d.sure d.loose
def Dk.used(d:Dk):Nat:=(d.now.map fun n=>if n.dir then 0 else (d.f.getD n.id default).b.length).sum
def eD(room:Int):Dk:=⟨max 0 (min room 16777216),[],[],[],false,0,-1,false,-1⟩
structure Dk.WF (d:Dk) (n m:Nat):Prop where
 sn:SN d.sure
 ch:chain d.sure d.loose
 len:d.sure.length+d.loose.length≤n
 fl:d.f.length≤n
 op:d.ops≤n
 ids:∀x∈d.sure,x.id < n∧(x.dir=false→x.id < d.f.length)∧dq x.path=0
 sG:∀c∈d.loose,(∀x∈c.cN,x.id < n∧(x.dir=false→x.id < d.f.length)∧dq x.path=0)∧∀x∈c.gone,x.id < n∧dq x.path=0
 sz:∀x∈d.f,x.b.length≤m∧x.safe≤x.b.length
 rm:0≤d.room∧d.room≤16777216
 fa:-1≤d.aD∧d.aD≤9223372036854775807
 wr:-1≤d.aE∧d.aE≤9223372036854775807
theorem Dk.WF.eh{d:Dk}{n m:Nat}(h:d.WF n m):SN d.now:=ea h.sn h.ch
theorem kx{P:Nm→Prop}:∀{cs:List di} {l:List Nm},(∀x∈l,P x)→(∀c∈cs,∀x∈c.cN,P x)→∀x∈br l cs,P x
 | [],l,h,_=>h
 | c::cs,l,h,hc=>by
   rw[br,List.foldl_cons];refine kx (fun x hx=>?_) (fun d hd=>hc d (List.mem_cons_of_mem _ hd));rcases sO.mp hx with h1 | h1;{exact hc c (by simp) x h1};{exact h x h1.1}
theorem Dk.WF.ei{d:Dk}{n m:Nat}(h:d.WF n m):∀x∈d.now,x.id < n∧(x.dir=false→x.id < d.f.length)∧dq x.path=0:=
 kx h.ids fun c hc=>(h.sG c hc).1
theorem Dk.WF.eT{d:Dk}{n m:Nat}(h:d.WF n m):d.now.length≤n:=Nat.le_trans (kT _ _) h.len
def iG(l:List Nm)(p:List UInt8):Int:=if fJ p=[] then 0 else match bG l (fJ p) with
 | none=>8
 | some x=>if x.dir then 0 else 9
def bZ(l:List Nm)(p:List UInt8):Int:=match bG l p with
 | none=>8
 | some x=>if x.dir then 9 else 0
def mc(l:List Nm)(p:List UInt8):Nat:=match bG l p with
 | none=>0
 | some x=>x.id
def cV(n:Int):Int:=if n = -1 then -1 else n - 1
def Dk.step(d next:Dk):Dk×Int:=
 if d.aD=0 then
   (if d.done then { next with ops:=d.ops+1,aD:=cV d.aD,aE:=cV d.aE,down:=true } else { d with ops:=d.ops+1,aD:=cV d.aD,aE:=cV d.aE,down:=true },11)
 else if d.aE=0 then ({ d with ops:=d.ops+1,aD:=cV d.aD,aE:=cV d.aE },12)
 else ({ next with ops:=d.ops+1,aD:=cV d.aD,aE:=cV d.aE },0)
def Dk.lT(d:Dk)(c:di):Dk:={ d with loose:=d.loose++[c] }
def Dk.asked(d:Dk)(p:List UInt8):Int:=if d.down then 11 else dq p
def Dk.put(d:Dk)(p:List UInt8)(dir:Bool):Dk×Int:=
 if d.asked p≠0 then (d,d.asked p) else if iG d.now p≠0 then (d,iG d.now p) else if (bG d.now p).isSome then (d,7)
 else d.step (Dk.lT { d with f:=if dir then d.f else d.f++[⟨[],0⟩] } (.mk ⟨p,dir,if dir then 0 else d.f.length⟩))
def Dk.jv(d:Dk)(p:List UInt8)(may:Fl→Int)(g:Fl→Fl):Dk×Int:=
 if d.asked p≠0 then (d,d.asked p) else if bZ d.now p≠0 then (d,bZ d.now p) else
 if may (d.f.getD (mc d.now p) default)≠0 then (d,may (d.f.getD (mc d.now p) default))
 else d.step { d with f:=d.f.set (mc d.now p) (g (d.f.getD (mc d.now p) default)) }
def Dk.append(d:Dk)(p b:List UInt8):Dk×Int:=d.jv p (fun _=>if d.room - d.used < b.length then 10 else 0) fun f=>⟨f.b++b,f.safe⟩
def Dk.cut(d:Dk)(p:List UInt8)(n:Int):Dk×Int:=d.jv p (fun f=>if n < 0∨n > f.b.length then 13 else 0) fun f=>⟨f.b.take n.toNat,min n.toNat f.safe⟩
def Dk.sync(d:Dk)(p:List UInt8):Dk×Int:=d.jv p (fun _=>0) fun f=>⟨f.b,f.b.length⟩
def Dk.remove(d:Dk)(p:List UInt8):Dk×Int:=
 if d.asked p≠0 then (d,d.asked p) else match bG d.now p with
 | none=>(d,8)
 | some x=>if d.now.any (fun n=>fJ n.path==p) then (d,10) else d.step (d.lT (.rm x))
def Dk.rename(d:Dk)(a b:List UInt8):Dk×Int:=
 if d.asked a≠0 then (d,d.asked a) else if dq b≠0 then (d,dq b) else if bZ d.now a≠0 then (d,bZ d.now a) else if iG d.now b≠0 then (d,iG d.now b)
 else if (bG d.now b).any (·.dir) then (d,9) else match bG d.now a with
 | none=>(d,0)
 | some x=>d.step (d.lT (.mv x (bG d.now b) b))
def Dk.aM(d:Dk):Dk×Int:=if d.down then (d,11) else d.step { d with sure:=d.now,loose:=[] }
def Dk.fail(d:Dk)(after:Int)(done:Bool):Dk×Int:=if d.down then (d,11) else if after < 0 then (d,2) else ({ d with aD:=after,done:=done },0)
def Dk.fault(d:Dk)(after:Int):Dk×Int:=if d.down then (d,11) else if after < 0 then (d,2) else ({ d with aE:=after },0)
def cy:List Nm→List Fl→List UInt8→List Fl
 | [],f,_=>f
 | n::l,f,dw =>
   if n.dir then cy l f dw
   else
     let x:=f.getD n.id default
     if x.safe < x.b.length∧dw≠[] then
       let s:=x.safe+(dw.headD 0).toNat % (x.b.length - x.safe+1)
       cy l (f.set n.id ⟨x.b.take s,s⟩) dw.tail
     else cy l (f.set n.id ⟨x.b.take x.safe,x.safe⟩) dw
def Dk.ky(d:Dk)(count:Int)(dw:List UInt8):Dk:=
 let l:=br d.sure (d.loose.take (max 0 (min count d.loose.length)).toNat)
 { d with sure:=l,loose:=[],f:=cy l d.f dw,down:=false,aD:=-1,aE:=-1,done:=false }
def Dk.read(d:Dk)(p:List UInt8):List UInt8×Int:=if d.down then ([],11) else if bZ d.now p≠0 then ([],bZ d.now p) else ((d.f.getD (mc d.now p) default).b,0)
def Dk.safe(d:Dk)(p:List UInt8):Nat:=if bZ d.now p≠0 then 0 else (d.f.getD (mc d.now p) default).safe
def Dk.list(d:Dk):List ry:=if d.down then [] else d.now.map fun n=>⟨n.path,n.dir,if n.dir then [] else (d.f.getD n.id default).b⟩
theorem Dk.WF.mono{d:Dk}{n m n' m':Nat}(h:d.WF n m)(hn:n≤n')(hm:m≤m'):d.WF n' m' where
 sn:=h.sn
 ch:=h.ch
 len:=Nat.le_trans h.len hn
 fl:=Nat.le_trans h.fl hn
 op:=Nat.le_trans h.op hn
 ids:=fun x hx=>⟨Nat.lt_of_lt_of_le (h.ids x hx).1 hn,(h.ids x hx).2⟩
 sG:=fun c hc=>⟨fun x hx=>⟨Nat.lt_of_lt_of_le ((h.sG c hc).1 x hx).1 hn,((h.sG c hc).1 x hx).2⟩,fun x hx=>⟨Nat.lt_of_lt_of_le ((h.sG c hc).2 x hx).1 hn,((h.sG c hc).2 x hx).2⟩⟩
 sz:=fun x hx=>⟨Nat.le_trans (h.sz x hx).1 hm,(h.sz x hx).2⟩
 rm:=h.rm
 fa:=h.fa
 wr:=h.wr
theorem gB{n:Int}(h:-1≤n∧n≤9223372036854775807):-1≤cV n∧cV n≤9223372036854775807:=by
 unfold cV;split<;>omega
theorem Dk.WF.lN{d:Dk}{n m:Nat}(h:d.WF n m)(ops:Nat)(aD aE:Int)(down done:Bool)(ho:ops≤n)(hf:-1≤aD∧aD≤9223372036854775807)(hw:-1≤aE∧aE≤9223372036854775807) :
   Dk.WF ⟨d.room,d.sure,d.loose,d.f,down,ops,aD,done,aE⟩ n m:=⟨h.sn,h.ch,h.len,h.fl,ho,h.ids,h.sG,h.sz,h.rm,hf,hw⟩
theorem oJ{d next:Dk}{n m m':Nat}(h:d.WF n m)(h2:next.WF (n+1) m')(hm:m≤m'):(d.step next).1.WF (n+1) m':=by
 have ho:d.ops+1≤n+1:=Nat.succ_le_succ h.op;have h0:=h.mono (Nat.le_succ n) hm;unfold Dk.step;split;{split;{exact h2.lN _ _ _ _ _ ho (gB h.fa) (gB h.wr)};{exact h0.lN _ _ _ _ _ ho (gB h.fa) (gB h.wr)}};{split;{exact h0.lN _ _ _ _ _ ho (gB h.fa) (gB h.wr)};{exact h2.lN _ _ _ _ _ ho (gB h.fa) (gB h.wr)}}
theorem Kt{d:Dk}{p:List UInt8}(h:¬d.asked p≠0):d.down=false∧dq p=0:=by
 unfold Dk.asked at h;cases hd:d.down;{rw[hd] at h;exact⟨rfl,by simpa using h⟩};{rw[hd] at h;simp at h}
theorem Bh{d:Dk}{n m:Nat}(h:d.WF n m){c:di}(hc:Nc d.now c)(h1:∀x∈c.cN,x.id < n+1∧(x.dir=false→x.id < d.f.length)∧dq x.path=0)(h2:∀x∈c.gone,x.id < n+1∧dq x.path=0):(d.lT c).WF (n+1) m:=by
 have h0:=h.mono (Nat.le_succ n) (Nat.le_refl m);refine⟨h0.sn,nX h0.ch hc,?_,h0.fl,h0.op,h0.ids,fun e he=>?_,h0.sz,h0.rm,h0.fa,h0.wr⟩;{have:=h.len;simp only[Dk.lT,List.length_append,List.length_cons,List.length_nil];omega};{rcases List.mem_append.mp he with he | he;{exact h0.sG e he};{rw[List.mem_singleton] at he;subst he;exact⟨h1,h2⟩}}
theorem pV{d:Dk}{n m:Nat}(h:d.WF n m)(p:List UInt8)(dir:Bool):(d.put p dir).1.WF (n+1) m:=by
 have h0:=h.mono (Nat.le_succ n) (Nat.le_refl m);unfold Dk.put;split;{exact h0};rename_i ha;split;{exact h0};split;{exact h0};rename_i hs;have oF:bG d.now p=none:=by
   cases hg:bG d.now p with
   | none=>rfl
   | some x=>rw[hg] at hs;exact absurd rfl hs
 obtain⟨_,hp⟩:=Kt ha;refine oJ h ?_ (Nat.le_refl m);cases dir with
 | true =>
   refine Bh h ⟨fun z hz n hn he=>?_,T_⟩ (fun x hx=>?_) (by simp[di.gone])
   · simp only[di.cN,List.mem_singleton] at hz;subst hz;exact absurd he (ku oF n hn)
   · simp only[di.cN,List.mem_singleton] at hx;subst hx;exact⟨by simp,by simp,hp⟩
 | false =>
   have hf:Dk.WF { d with f:=d.f++[⟨[],0⟩] } (n+1) m:=by
     refine⟨h0.sn,h0.ch,h0.len,by have:=h.fl;simp;omega,h0.op,fun x hx=>?_,fun c hc=>?_,fun x hx=>?_,h0.rm,h0.fa,h0.wr⟩
     · obtain⟨a1,a2,a3⟩:=h0.ids x hx;exact⟨a1,fun hd=>by have:=a2 hd;simp;omega,a3⟩
     · obtain⟨b1,b2⟩:=h0.sG c hc;refine⟨fun x hx=>?_,b2⟩;obtain⟨a1,a2,a3⟩:=b1 x hx;exact⟨a1,fun hd=>by have:=a2 hd;simp;omega,a3⟩
     · rcases List.mem_append.mp hx with hx | hx;{exact h0.sz x hx};{rw[List.mem_singleton] at hx;subst hx;simp}
   refine⟨hf.sn,nX hf.ch ⟨fun z hz n hn he=>?_,T_⟩,?_,hf.fl,hf.op,hf.ids,fun e he=>?_,hf.sz,hf.rm,hf.fa,hf.wr⟩;{simp only[di.cN,List.mem_singleton] at hz;subst hz;exact absurd he (ku oF n hn)};{have:=h.len;simp only[Dk.lT,List.length_append,List.length_cons,List.length_nil];omega}
   · rcases List.mem_append.mp he with he | he;{exact hf.sG e he}
     · rw[List.mem_singleton] at he;subst he;refine⟨fun x hx=>?_,by simp[di.gone]⟩
       simp only[di.cN,List.mem_singleton] at hx;subst hx;have:=h.fl;refine⟨by simp;omega,fun _=>by simp[Dk.lT],hp⟩
theorem Ku{d:Dk}{n m:Nat}(h:d.WF n m)(i:Nat):(d.f.getD i default).b.length≤m∧(d.f.getD i default).safe≤(d.f.getD i default).b.length:=by
 rw[List.getD_eq_getElem?_getD];cases hi:d.f[i]? with
 | none=>exact⟨Nat.zero_le _,Nat.zero_le _⟩
 | some x=>exact h.sz x (List.mem_of_getElem? hi)
theorem wM{d:Dk}{n m m':Nat}(h:d.WF n m)(hm:m≤m')(p:List UInt8)(may:Fl→Int)(g:Fl→Fl)(hg:∀x,x.b.length≤m→x.safe≤x.b.length→may x=0→(g x).b.length≤m'∧(g x).safe≤(g x).b.length):(d.jv p may g).1.WF (n+1) m':=by
 have h0:=h.mono (Nat.le_succ n) hm;unfold Dk.jv;split;{exact h0};split;{exact h0};split;{exact h0};rename_i Ba;refine oJ h ?_ hm;refine⟨h0.sn,h0.ch,h0.len,by simpa using h0.fl,h0.op,fun x hx=>?_,fun c hc=>?_,fun x hx=>?_,h0.rm,h0.fa,h0.wr⟩
 · simpa using h0.ids x hx
 · simpa using h0.sG c hc
 · obtain⟨a1,a2⟩:=Ku h (mc d.now p);rcases List.mem_or_eq_of_mem_set hx with hx | rfl;{exact h0.sz x hx};{exact hg _ a1 a2 (by simpa using Ba)}
theorem jk{d:Dk}{n m:Nat}(h:d.WF n m)(p b:List UInt8):(d.append p b).1.WF (n+1) (m+b.length):=
 wM h (Nat.le_add_right _ _) p _ _ fun x h1 h2 _=>by simp only[List.length_append];omega
theorem Kw{d:Dk}{n m:Nat}(h:d.WF n m)(p:List UInt8)(k:Int):(d.cut p k).1.WF (n+1) m:=
 wM h (Nat.le_refl _) p _ _ fun x h1 h2 h3=>by
   have:¬(k < 0∨k > (x.b.length:Int)):=fun hc=>by rw[if_pos hc] at h3;cases h3
   simp only[List.length_take];omega
theorem kZ{d:Dk}{n m:Nat}(h:d.WF n m)(p:List UInt8):(d.sync p).1.WF (n+1) m:=
 wM h (Nat.le_refl _) p _ _ fun x h1 h2 _=>⟨h1,Nat.le_refl _⟩
theorem pW{d:Dk}{n m:Nat}(h:d.WF n m)(p:List UInt8):(d.remove p).1.WF (n+1) m:=by
 have h0:=h.mono (Nat.le_succ n) (Nat.le_refl m);unfold Dk.remove;split;{exact h0};split;{exact h0};rename_i x hx;split;{exact h0};refine oJ h (Bh h ⟨by simp[di.cN],T_⟩ (by simp[di.cN]) fun y hy=>?_) (Nat.le_refl m)
 simp only[di.gone,List.mem_singleton] at hy;subst hy;obtain⟨a1,a2,a3⟩:=h.ei _ (dN hx).1;exact⟨by omega,a3⟩
theorem vm{d:Dk}{n m:Nat}(h:d.WF n m)(a b:List UInt8):(d.rename a b).1.WF (n+1) m:=by
 have h0:=h.mono (Nat.le_succ n) (Nat.le_refl m);unfold Dk.rename;split;{exact h0};split;{exact h0};rename_i hb;split;{exact h0};rename_i hf;split;{exact h0};split;{exact h0};split;{exact h0};rename_i x hx;obtain⟨x1,x2⟩:=dN hx;obtain⟨a1,a2,a3⟩:=h.ei _ x1;have Bb:x.dir=false:=by
   unfold bZ at hf;rw[hx] at hf;cases hd:x.dir;{rfl};{simp[hd] at hf}
 refine oJ h (Bh h ⟨fun z hz n hn he=>?_,?_⟩ (fun y hy=>?_) fun y hy=>?_) (Nat.le_refl m);{simp only[di.cN,List.mem_singleton] at hz;subst hz;have hg:=mX h.eh.nd hn;rw[he] at hg;simp only at hg;simp[eS,hg,di.gone]}
 · cases hg:bG d.now b with
   | none=>trivial
   | some y=>exact(dN hg).2
 · simp only[di.cN,List.mem_singleton] at hy;subst hy;exact⟨by simp only;omega,fun _=>a2 Bb,by simpa using hb⟩
 · cases hg:bG d.now b with
   | none =>
     rw[hg] at hy;simp only[di.gone,List.mem_singleton] at hy;subst hy;exact⟨by omega,a3⟩
   | some z =>
     rw[hg] at hy;simp only[di.gone,List.mem_cons,List.not_mem_nil,or_false] at hy;obtain⟨b1,b2,b3⟩:=h.ei _ (dN hg).1;rcases hy with rfl | rfl;{exact⟨by omega,a3⟩};{exact⟨by omega,b3⟩}
theorem fp{d:Dk}{n m:Nat}(h:d.WF n m):d.aM.1.WF (n+1) m:=by
 have h0:=h.mono (Nat.le_succ n) (Nat.le_refl m);unfold Dk.aM;split;{exact h0};refine oJ h ⟨h0.eh,T_,?_,h0.fl,h0.op,h0.ei,by simp,h0.sz,h0.rm,h0.fa,h0.wr⟩ (Nat.le_refl m)
 simpa using h0.eT
theorem NP{d:Dk}{n m:Nat}(h:d.WF n m)(a:Int)(ha:a≤9223372036854775807)(b:Bool):(d.fail a b).1.WF n m:=by
 unfold Dk.fail;split;{exact h};split;{exact h};{exact h.lN _ _ _ _ _ h.op ⟨by omega,ha⟩ h.wr}
theorem Kx{d:Dk}{n m:Nat}(h:d.WF n m)(a:Int)(ha:a≤9223372036854775807):(d.fault a).1.WF n m:=by
 unfold Dk.fault;split;{exact h};split;{exact h};{exact h.lN _ _ _ _ _ h.op h.fa ⟨by omega,ha⟩}
theorem ng(m:Nat):∀(l:List Nm) (f:List Fl) (dw:List UInt8),(∀x∈f,x.b.length≤m∧x.safe≤x.b.length)→(cy l f dw).length=f.length∧∀x∈cy l f dw,x.b.length≤m∧x.safe≤x.b.length
 | [],f,dw,h=>⟨rfl,h⟩
 | n::l,f,dw,h=>by
   have hx:(f.getD n.id default).b.length≤m∧(f.getD n.id default).safe≤(f.getD n.id default).b.length:=by
     rw[List.getD_eq_getElem?_getD];cases hi:f[n.id]? with
     | none=>exact⟨Nat.zero_le _,Nat.zero_le _⟩
     | some x=>exact h x (List.mem_of_getElem? hi)
   have key:∀y:Fl,y.b.length≤m→y.safe≤y.b.length→∀x∈f.set n.id y,x.b.length≤m∧x.safe≤x.b.length:=by
     intro y h1 h2 x hx;rcases List.mem_or_eq_of_mem_set hx with hx | rfl;{exact h x hx};{exact⟨h1,h2⟩}
   rw[cy];split;{exact ng m l f dw h}
   · dsimp only;split
     · rename_i hk;have bN:=Nat.mod_lt (dw.headD 0).toNat (show (f.getD n.id default).b.length - (f.getD n.id default).safe+1 > 0 by omega)
       have:=ng m l _ dw.tail (key ⟨(f.getD n.id default).b.take ((f.getD n.id default).safe+(dw.headD 0).toNat % ((f.getD n.id default).b.length - (f.getD n.id default).safe+1)),(f.getD n.id default).safe+(dw.headD 0).toNat % ((f.getD n.id default).b.length - (f.getD n.id default).safe+1)⟩ (by simp only[List.length_take];omega) (by simp only[List.length_take];omega))
       rw[List.length_set] at this;exact this
     · have:=ng m l _ dw (key ⟨(f.getD n.id default).b.take (f.getD n.id default).safe,(f.getD n.id default).safe⟩ (by simp only[List.length_take];omega) (by simp only[List.length_take];omega))
       rw[List.length_set] at this;exact this
theorem s6{d:Dk}{n m:Nat}(h:d.WF n m)(count:Int)(dw:List UInt8):(d.ky count dw).WF n m:=by
 unfold Dk.ky;dsimp only;generalize (max 0 (min count (d.loose.length:Int))).toNat=k;obtain⟨c1,c2⟩:=ng m (br d.sure (d.loose.take k)) d.f dw h.sz;have hl:=kT (d.loose.take k) d.sure;have hk:(d.loose.take k).length≤d.loose.length:=by rw[List.length_take];omega
 have:=h.len;refine⟨ea h.sn (gM k h.ch),T_,by simp only[List.length_nil];omega,by rw[c1];exact h.fl,h.op,?_,by simp,c2,h.rm,⟨by simp only;omega,by simp only;omega⟩,⟨by simp only;omega,by simp only;omega⟩⟩
 rw[c1];exact kx h.ids fun c hc=>(h.sG c (List.mem_of_mem_take hc)).1
theorem wN(room:Int):(eD room).WF 0 0:=
 ⟨List.Pairwise.nil,T_,Nat.le_refl _,Nat.le_refl _,Nat.le_refl _,by simp[eD],by simp[eD],by simp[eD],by simp only[eD];omega,by simp only[eD];omega,by simp only[eD];omega⟩
structure TrN (l:List Nm):Prop where
 par:∀x∈l,fJ x.path≠[]→∃y∈l,y.path=fJ x.path∧y.dir=true
 one:∀x∈l,∀y∈l,x.dir=false→y.dir=false→x.id=y.id→x=y
def Dk.Tr(d:Dk):Prop:=∀k,TrN (br d.sure (d.loose.take k))
theorem Dk.Tr.now{d:Dk}(h:d.Tr):TrN d.now:=by
 have:=h d.loose.length
 rwa [List.take_length] at this
theorem Dk.Tr.of{d e:Dk}(h:d.Tr)(h1:e.sure=d.sure)(h2:e.loose=d.loose):e.Tr:=fun k=>by rw[h1,h2];exact h k
def uN(o:Option Nm):Bool:=match o with
 | some x=>x.dir
 | none=>false
def idO(o:Option Nm):Nat:=match o with
 | some x=>x.id
 | none=>0
abbrev ZH(x:Nm):HV:=.ag [B x.dir,I x.id]
abbrev ZI(o:Option Nm):HV:=.ag [B (uN o),I (idO o)]
def Vc:Option Nm→HV
 | none => .v (.pointer none)
 | some x => .rp [B x.dir,I x.id]
def ml(c:di):HV:=.ag [.sl .no 1 (c.ps.map fun q=>S q.1),.sl .no 1 (c.ps.map fun q=>Vc q.2)]
def PM(H:ab)(b:Nat)(l:List Nm):Prop:=∃m:List Nm,m.Perm l∧MP H b Nm.path ZH m
theorem PM.fr{H H':ab}{bs:List Nat}{b:Nat}{l:List Nm}(h:PM H b l)(hf:Fr bs H H')(hb:b∉bs):PM H' b l:=by
 obtain⟨m,h1,h2⟩:=h;exact⟨m,h1,h2.fr hf hb⟩
theorem PM.held{H:ab}{b:Nat}{l:List Nm}(h:PM H b l):∃r,H b=some r:=by
 obtain⟨m,h1,h2⟩:=h;exact h2.held
theorem sV{S':aJ}{sl:List (Nat×EV)}{bx:List (Nat×List HV)}{H:ab}{K:Env→ab→Prop}{os:List aF}{d b:Nat}{x y:bj}{l:List Nm}{p:List UInt8}(hM:PM H b l)(hn:SN l)(hx:(M sl bx).cJ [x,y]=some [.v (.map (some b)),S p])
   (h:aj S' os (M ((d,.h (.tu [ZI (bG l p),B (bG l p).isSome]))::sl) bx) H K):aj S' (⟨some d,.cH (.m (.CF true true true [.v (.bool false),.v (.int .i64 0)])) [x,y],none⟩::os) (M sl bx) H K:=by
 obtain⟨m,h1,h2⟩:=hM;have hg:=pR h1 hn.nd p;refine gi hx (KB h2 p true true _ (z':=.tu [ZI none,B false]) ?_ ?_);{rw[←hg] at h;unfold bG at h;generalize List.find? (fun n=>n.path==p) m=o at h ⊢;cases o<;>exact h};{simp only[Jr,if_true,sv];exact an.refl _}
theorem NN{S':aJ}{sl:List (Nat×EV)}{bx:List (Nat×List HV)}{H:ab}{K:Env→ab→Prop}{os:List aF}{d b:Nat}{x y:bj}{l:List Nm}{p:List UInt8}(hM:PM H b l)(hn:SN l)(hx:(M sl bx).cJ [x,y]=some [.v (.map (some b)),S p])
   (h:aj S' os (M ((d,.h (ZI (bG l p)))::sl) bx) H K):aj S' (⟨some d,.cH (.m (.CF true false true [.v (.bool false),.v (.int .i64 0)])) [x,y],none⟩::os) (M sl bx) H K:=by
 obtain⟨m,h1,h2⟩:=hM;have hg:=pR h1 hn.nd p;refine gi hx (KB h2 p false true _ (z':=ZI none) ?_ ?_);{rw[←hg] at h;unfold bG at h;generalize List.find? (fun n=>n.path==p) m=o at h ⊢;cases o<;>exact h};{exact an.refl _}
theorem U1{H:ab}{b:Nat}{l:List Nm}{p:List UInt8}{e:Env}{x y:bj}(hM:PM H b l)(hn:SN l)(hx:e.hv x=some (.v (.map (some b))))(hy:e.hv y=some (S p)) :
   (aw.ba true false true [.v (.bool false),.v (.int .i64 0)] x y).ev e H=some (.h (ZI (bG l p))):=by
 obtain⟨m,h1,⟨st,c,h2,h3,h4⟩,h5⟩:=hM;have hg:=pR h1 hn.nd p;rw[←hg];simp only[aw.ev,hx,hy,isKey,if_true,h2];rw[my p m st h3 0];unfold bG;rw[←lf];cases hf:List.findIdx? (fun a=>a.path==p) m with
 | none=>rfl
 | some j =>
   have hj:j < m.length:=(List.findIdx?_eq_some_iff_getElem.mp hf).1;simp only[Option.bind_some,List.getElem?_eq_getElem hj,Option.map_some];rfl
abbrev flC(f:Fl):List HV:=[.sl .no 1 (f.b.map U),I f.safe]
def eY(l:List Fl):List HV:=l.flatMap flC
theorem fL:∀l:List Fl,(eY l).length=l.length*2
 | []=>rfl
 | f::l=>by
   have:=fL l;simp only[eY,List.flatMap_cons,List.length_append,List.length_cons,List.length_nil] at this ⊢;omega
theorem td{l:List Fl}{i:Nat}(h:i < l.length):eY l=eY (l.take i)++flC l[i]++eY (l.drop (i+1)):=by
 have e:=(List.take_append_drop i l).symm;rw[List.drop_eq_getElem_cons h] at e;exact(congrArg eY e).trans (by simp only[eY,List.flatMap_append,List.flatMap_cons,List.append_assoc])
theorem te(l:List Fl):(eY l).all HV.one=true:=by
 rw[List.all_eq_true];intro x hx;obtain⟨f,_,hf⟩:=List.mem_flatMap.mp hx;simp only[List.mem_cons,List.not_mem_nil,or_false] at hf;rcases hf with rfl | rfl<;>rfl
theorem vq{l:List Fl}{i:Nat}(h:i < l.length)(zs:List HV):(eY l++zs).drop (i*2)=flC l[i]++(eY (l.drop (i+1))++zs):=by
 have hl:(eY (l.take i)).length=i*2:=by rw[fL,List.length_take];congr 1;omega
 rw[td h,List.append_assoc,List.append_assoc,List.drop_append_of_le_length (by omega),List.drop_of_length_le (by omega),List.nil_append]
theorem fK{l:List Fl}{i off:Nat}(h:i < l.length)(ho:off=i*2)(zs:List HV):cP false 1 off (eY l++zs)=some (.sl .no 1 (l[i].b.map U)):=by
 subst ho;unfold cP;rw[if_pos (by rw[List.length_append,fL];omega),vq h];rfl
theorem jw{l:List Fl}{i off:Nat}(h:i < l.length)(ho:off=i*2+1)(zs:List HV):cP false 1 off (eY l++zs)=some (I l[i].safe):=by
 subst ho;unfold cP;have:(eY l++zs).drop (i*2+1)=I l[i].safe::(eY (l.drop (i+1))++zs):=by
   rw[←List.drop_drop,vq h];rfl
 rw[if_pos (by rw[List.length_append,fL];omega),this];rfl
def FS(H:ab)(v:HV)(l:List Fl):Prop:=(v = .v (.slice none 0 0)∧l=[]) ∨
 ∃fb c zs,v = .v (.slice (some ⟨fb,0,none⟩) l.length c)∧H fb=some (.obj (eY l++zs))∧l.length≤c∧c≤maxLen∧zs.length=(c - l.length)*2∧zs.all HV.one=true
def eI:HV→List Nat
 | .v (.slice (some a) _ _)=>[a.block]
 | _=>[]
theorem FS.fr{H H':ab}{bs:List Nat}{v:HV}{l:List Fl}(h:FS H v l)(hf:Fr bs H H')(hb:∀a∈eI v,a∉bs):FS H' v l:=by
 rcases h with h | ⟨fb,c,zs,rfl,h2,h3⟩;{exact .inl h};{exact .inr ⟨fb,c,zs,rfl,hf.get (hb fb (by simp[eI])) h2,h3⟩}
theorem FS.held{H:ab}{v:HV}{l:List Fl}(h:FS H v l):∀a∈eI v,∃r,H a=some r:=by
 rcases h with⟨rfl,_⟩ | ⟨fb,c,zs,rfl,h2,h3⟩;{simp[eI]};{intro a ha;simp only[eI,List.mem_singleton] at ha;subst ha;exact⟨_,h2⟩}
structure Hd where
 ms:Nat
 mn:Nat
 fv:HV
def Hd.bs(h:Hd)(b:Nat):List Nat:=b::h.ms::h.mn::eI h.fv
structure KD (H:ab) (b:Nat) (h:Hd) (d:Dk):Prop where
 ob:H b=some (.obj [I d.room,.v (.map (some h.ms)),.v (.map (some h.mn)),.sl .no 2 (d.loose.map ml),h.fv,B d.down,I d.ops,I d.aD,B d.done,I d.aE])
 su:PM H h.ms d.sure
 no:PM H h.mn d.now
 fs:FS H h.fv d.f
 nd:(h.bs b).Nodup
theorem KD.fr{H H':ab}{bs:List Nat}{b:Nat}{h:Hd}{d:Dk}(k:KD H b h d)(hf:Fr bs H H')(hb:∀a∈h.bs b,a∉bs):KD H' b h d:=
 ⟨hf.get (hb b (by simp[Hd.bs])) k.ob,k.su.fr hf (hb _ (by simp[Hd.bs])),k.no.fr hf (hb _ (by simp[Hd.bs])),k.fs.fr hf fun a ha=>hb a (by simp[Hd.bs,ha]),k.nd⟩
theorem KD.dt{H H':ab}{b:Nat}{h:Hd}{d:Dk}(k:KD H b h d)(hf:Fr [] H H'):KD H' b h d:=k.fr hf (by simp)
theorem KD.held{H:ab}{b:Nat}{h:Hd}{d:Dk}(k:KD H b h d):∀a∈h.bs b,∃r,H a=some r:=by
 intro a ha;simp only[Hd.bs,List.mem_cons] at ha;rcases ha with rfl | rfl | rfl | ha;{exact⟨_,k.ob⟩};{exact k.su.held};{exact k.no.held};{exact k.fs.held a ha}
theorem KD.new{H:ab}{b:Nat}{h:Hd}{d:Dk}(k:KD H b h d){c:Nat}(hc:H c=none):c∉h.bs b:=fun hm=>by
 obtain⟨r,hr⟩:=k.held c hm;rw[hc] at hr;cases hr
def ZL(v:HV)(i:Nat):HV:=match v with
 | .v (.slice (some ⟨b,off,none⟩) _ _) => .v (.pointer (some ⟨b,off+i*2,none⟩))
 | _ => .v (.pointer none)
def yr:List (List UInt8)→Int
 | []=>0
 | p::ps=>if dq p≠0 then dq p else yr ps
def H7(d:Dk)(ps:List (List UInt8)):Int:=if d.down then 11 else yr ps
theorem sU(d:Dk)(p:List UInt8):H7 d [p]=d.asked p:=by
 unfold H7 Dk.asked;split;{rfl};{simp only[yr];split;{rfl};{rename_i h;simpa using (by simpa using h:dq p=0).symm}}
attribute [local irreducible] aH aj aX bk aA aL bn DK RK JK BR G3 bh Spec Tok Fr CV
theorem jx(L:ai code)(b:Nat)(h:Hd)(d:Dk)(tk:Tk)(ps:List (List UInt8))(hp:∀p∈ps,p.length≤1048576)(hl:ps.length≤1048576)(H:ab)(hD:KD H b h d)(K)(hk:∀X,Fr [] H X→K (I (H7 d ps)) X):Spec L.P L.ν 333 [ptr b,.sl tk 1 (ps.map S)] H K:=by
 have ob:=hD.ob;unfold H7 at hk;refine ah L D2 rfl ?_;refine J_ cQ ?_;cases c1:d.down
 case true =>
   rw[c1] at hk;refine J_ cQ ?_;exact aa (hk H (Fr.refl _ _))
 rw[c1] at hk;simp only[Bool.false_eq_true,if_false] at hk;refine J_ cQ ?_;refine aV (ak L) (fun(i:Nat)=>[(16,.h (.sl tk 1 (ps.map S))),(17,.h (I ps.length)),(18,.h (I i))]) (fun _=>[]) (fun i X=>i≤ps.length∧Fr [] H X∧yr (ps.drop i)=yr ps) (fun i=>ps.length - i) 0 ?_ ⟨by omega,Fr.refl _ _,rfl⟩ ?_
 · exact E_
 rintro i X ⟨hi,hf,ha⟩;refine J_ cQ ?_;(refine ct cQ ?_ ?_<;>intro hc)
 · have fo:i < ps.length:=by simpa using hc
   rw[List.drop_eq_getElem_cons fo,yr] at ha;refine K_ cQ ?_;refine qR L ps[i] (hp _ (List.getElem_mem fo)) _ _ fun X1 f1=>?_;cases c2:dq ps[i] != 0
   case true =>
     have pE:dq ps[i]≠0:=by simpa using c2
     rw[if_pos pE] at ha;rw[←ha] at hk
     repeat (refine gk (And.intro cQ c2) ?_)
     exact aa (hk X1 (hf.trans f1))
   have pE:¬dq ps[i]≠0:=by simpa using c2
   rw[if_neg pE] at ha
   repeat (refine gk (And.intro cQ c2) ?_)
   refine dG (i+1) (by omega) ⟨by omega,hf.trans f1,ha⟩ ?_
   exact E_
 · have fo:i=ps.length:=by
     have:¬i < ps.length:=by simpa using hc
     omega
   subst fo;rw[List.drop_length,yr] at ha;rw[←ha] at hk;refine J_ cQ ?_;exact aa (hk X hf)
theorem il(L:ai code)(b:Nat)(h:Hd)(d:Dk)(H:ab)(hD:KD H b h d)(K)(hk:∀X,Fr [] H X→K (I (if d.down then 11 else 0)) X):Spec L.P L.ν 333 [ptr b,.v (.slice none 0 0)] H K:=
 Spec.args (jt:=[ptr b,.sl .full 1 (([]:List (List UInt8)).map S)]) ⟨an.refl _,an.nil 1,T_⟩ (jx L b h d .full [] (by simp) (by simp) H hD K hk)
theorem oH(L:ai code)(b:Nat)(h:Hd)(d:Dk)(p:List UInt8)(hp:p.length≤1048576)(hs:SN d.now)(H:ab)(hD:KD H b h d)(K)(hk:K (I (iG d.now p)) H):Spec L.P L.ν 350 [ptr b,S p] H K:=by
 have ob:=hD.ob;unfold iG at hk;refine ah L D3 rfl ?_;refine K_ cQ ?_;refine qN L p hp _ _ ?_;refine J_ cQ ?_;cases c1:(fJ p==[])
 case true =>
   have fR:fJ p=[]:=by simpa using c1
   rw[if_pos fR] at hk;refine J_ cQ ?_;exact aa hk
 have fR:fJ p≠[]:=by simpa using c1
 rw[if_neg fR] at hk;refine J_ cQ ?_;apply sV hD.no hs;rfl;refine J_ cQ ?_;cases c2:bG d.now (fJ p) with
 | none =>
   rw[c2] at hk;simp only[Option.isSome_none,Bool.not_false];refine J_ cQ ?_;exact aa hk
 | some x =>
   rw[c2] at hk;simp only[Option.isSome_some,Bool.not_true];refine J_ cQ ?_;simp only[uN] at hk ⊢;cases c3:x.dir
   case true =>
     rw[c3] at hk;simp only[Bool.not_true];refine J_ cQ ?_;exact aa hk
   rw[c3] at hk;simp only[Bool.not_false];refine J_ cQ ?_;exact aa hk
theorem jy(L:ai code)(b:Nat)(h:Hd)(d:Dk)(p:List UInt8)(hs:SN d.now)(hid:∀x∈d.now,x.dir=false→x.id < d.f.length)(H:ab)(hD:KD H b h d)(K)(hk:K (.tu [if bZ d.now p=0 then ZL h.fv (mc d.now p) else .v (.pointer none),I (bZ d.now p)]) H):Spec L.P L.ν 332 [ptr b,S p] H K:=by
 have ob:=hD.ob;unfold bZ mc at hk;refine ah L D4 rfl ?_;refine J_ cQ ?_;apply sV hD.no hs;rfl;refine J_ cQ ?_;cases c2:bG d.now p with
 | none =>
   rw[c2] at hk;simp only[Option.isSome_none,Bool.not_false];refine J_ cQ ?_;exact aa hk
 | some x =>
   rw[c2] at hk;simp only[Option.isSome_some,Bool.not_true];refine J_ cQ ?_;simp only[uN,idO] at hk ⊢;cases c3:x.dir
   case true =>
     rw[c3] at hk;refine J_ cQ ?_;exact aa hk
   rw[c3] at hk;have bN:=hid x (dN c2).1 c3;rcases hD.fs with⟨_,h0⟩ | ⟨fb,c,zs,e1,h1,_⟩;{rw[h0] at bN;exact absurd bN (Nat.not_lt_zero _)};rw[e1] at ob hk;refine J_ cQ ?_;apply dj;rfl;rfl;(focus omega);refine J_ cQ ?_;refine aa ?_;show K (.tu [_,_]) H;simpa[ZL] using hk
end Sm
namespace Sm
open Go
theorem aI:(∀e:ry,dX e = .ag [S e.path,B e.dir,.sl .no 1 (e.data.map U)])∧Vc none = .v (.pointer none)∧(∀x,Vc (some x) = .rp [B x.dir,I x.id])∧(∀c,ml c = .ag [.sl .no 1 (c.ps.map fun q=>S q.1),.sl .no 1 (c.ps.map fun q=>Vc q.2)]):=⟨fun _=>rfl,rfl,fun _=>rfl,fun _=>rfl⟩
theorem kY{X:ab}{b:Nat}{bI cs:List HV}(hx:X b=some (.obj bI))(hw:bo bI cs)(h1:cs.all HV.one=true):(X.bt b (some (.obj cs))).sub X:=by
 intro a r hr
 by_cases h:a=b
 · subst h;rw[ab.aB] at hr;cases hr;exact⟨_,hx,.inr ⟨hw,h1⟩⟩
 · rw[ab.cK _ _ h] at hr;exact⟨r,hr,.inl rfl⟩
def Dk.lN(d:Dk)(ops:Nat)(aD aE:Int)(down:Bool):Dk:={ d with ops:=ops,aD:=aD,aE:=aE,down:=down }
theorem KD.cell{H X:ab}{b:Nat}{h:Hd}{d d':Dk}(k:KD H b h d)(hf:Fr [b] H X)(hx:X b=some (.obj [I d'.room,.v (.map (some h.ms)),.v (.map (some h.mn)),.sl .no 2 (d'.loose.map ml),h.fv,B d'.down,I d'.ops,I d'.aD,B d'.done,I d'.aE]))
   (e1:d'.sure=d.sure) (e2:d'.now=d.now) (e3:d'.f=d.f):KD X b h d':=by
 have hn:=k.nd;simp only[Hd.bs,List.nodup_cons,List.mem_cons,not_or] at hn;refine⟨hx,by rw[e1];exact k.su.fr hf (by simpa using fun e=>hn.1.1 e.symm),by rw[e2];exact k.no.fr hf (by simpa using fun e=>hn.1.2.1 e.symm),by rw[e3];exact k.fs.fr hf (fun a ha hm=>by rw[List.mem_singleton] at hm;subst hm;exact hn.1.2.2 ha),k.nd⟩
theorem Own.cell{H X:ab}{b:Nat}{h:Hd}(hf:Fr [b] H X):Own H X (h.bs b) (h.bs b):=Own.set hf (by simp[Hd.bs])
theorem mZ{cs:List HV}{off:Nat}{v:HV}(h:cs[off]? = some v):cP false 1 off cs=some v:=by
 obtain⟨hl,he⟩:=List.getElem?_eq_some_iff.mp h;unfold cP;rw[if_pos (by omega),List.drop_eq_getElem_cons hl,he];rfl
theorem sS{S':aJ}{sl:List (Nat×EV)}{bx:List (Nat×List HV)}{H:ab}{K:Env→ab→Prop}{os:List aF}{d:Nat}{sz:Nat}{x hi mx:bj}{tk:Tk}{es:List HV}{n n':Int}{k:Nat}(hx:(M sl bx).hv x=some (.sl tk sz es))(h1:(M sl bx).hv hi=some (I n))(h2:(M sl bx).hv mx=some (I n'))(e1:n=k)(e2:n'=k)(hk:k≤es.length)
   (h:aj S' os (M ((d,.h (.sl .full sz (es.take k)))::sl) bx) H K):aj S' (⟨some d,.gy sz x none (some hi) (some mx),none⟩::os) (M sl bx) H K:=by
 subst e1 e2;refine aG rfl ?_ h;simp only[aw.ev,hx,iE,h1,h2];rw[if_pos ⟨trivial,by omega,by omega,by omega⟩]
 simp
theorem N0:∀{c:di} {q:List UInt8×Option Nm},q∈c.ps→∀x,q.2=some x→x.path=q.1:=by
 intro c q hq x hx;cases c with
 | mk y=>simp only[di.ps,List.mem_singleton] at hq;subst hq;cases hx;rfl
 | rm y=>simp only[di.ps,List.mem_singleton] at hq;subst hq;cases hx
 | mv y z p =>
   simp only[di.ps,List.mem_cons,List.not_mem_nil,or_false] at hq;rcases hq with rfl | rfl;{cases hx};{cases hx;rfl}
theorem Ve(c:di):c.ps.length≤2:=by cases c<;>simp[di.ps]
attribute [local irreducible] aH aj aX bk aA aL bn DK RK JK BR G3 bh Spec Tok Fr CV
theorem vr(L:ai code)(b off:Nat)(cs:List HV)(n:Int)(hn:-1≤n∧n≤9223372036854775807)(H:ab)(hb:H b=some (.obj cs))(hc:cs[off]? = some (I n))(K)(hk:∀X,X b=some (.obj (cs.set off (I (cV n))))→Fr [b] H X→K (B (n==0)) X) :
   Spec L.P L.ν 365 [.v (.pointer (some ⟨b,off,none⟩))] H K:=by
 have hl:=mZ hc;have bN:off < cs.length:=(List.getElem?_eq_some_iff.mp hc).1;refine ah L D8 rfl ?_;refine J_ aI ?_;apply bz;rfl;(focus exact hb);(focus exact hl);refine J_ aI ?_;cases c1:(n == -1)
 case true =>
   have fR:n = -1:=by simpa using c1
   subst fR
   repeat (refine gk (And.intro aI c1) ?_)
   refine aa (hk H ?_ (Fr.refl _ _));have:cs.set off (I (cV (-1)))=cs:=by
     apply List.ext_getElem?;intro i;rw[List.getElem?_set];split;{rename_i e;subst e;rw[hc];rfl};{rfl}
   rw[this];exact hb
 have fR:n ≠ -1:=by simpa using c1
 have ht:cV n=n - 1:=if_neg fR
 repeat (refine gk (And.intro aI c1) ?_)
 apply bz;rfl;(focus exact hb);(focus exact hl);refine J_ aI ?_;apply bH;rfl;rfl;rfl;rfl;(focus exact hb);(focus exact Nat.ble_eq.mpr bN);rfl;intro X x1 f1;refine J_ aI ?_;have x1':X b=some (.obj (cs.set off (I (n - 1)))):=x1;have yf:cP false 1 off (cs.set off (I (n - 1)))=some (I (n - 1)):=mZ (by rw[List.getElem?_set_self bN])
 apply bz;rfl;(focus exact x1');(focus exact yf);refine J_ aI ?_;have e:(n - 1 == -1)=(n==0):=by
   by_cases h:n=0
   · subst h;rfl
   · rw[beq_false_of_ne h,beq_false_of_ne (by omega)]
 rw[e];refine J_ aI ?_;exact aa (hk X (by rw[ht];exact x1') f1)
theorem qQ(L:ai code)(b:Nat)(l:List Nm)(c:di)(hs:SN l)(hc:Nc l c)(H:ab)(hM:PM H b l)(K)(hk:∀X,PM X b (iF l c)→Fr [b] H X→K (.tu []) X):Spec L.P L.ν 330 [.v (.map (some b)),ml c] H K:=by
 obtain⟨m,hp,hm⟩:=hM;have eZ:=J9 hp hs hc;have hlen:=Ve c;refine ah L D9 rfl ?_;refine J_ aI ?_;refine aV (ak L) (fun(i:Nat)=>[(0,.h (.v (.map (some b)))),(3,.lp 0 0),(7,.h (.sl .no 1 (c.ps.map fun q=>S q.1))),(8,.h (I c.ps.length)),(9,.h (I i))]) (fun _=>[(0,[.sl .no 1 (c.ps.map fun q=>S q.1),.sl .no 1 (c.ps.map fun q=>Vc q.2)])])
   (fun i X=>i≤c.ps.length∧Fr [b] H X∧MP X b Nm.path ZH ((c.ps.take i).foldl H6 m)) (fun i=>c.ps.length - i) 0 ?_ ⟨by omega,Fr.refl _ _,by simpa using hm⟩ ?_
 · exact E_
 rintro i X ⟨hi,hf,hX⟩;refine J_ aI ?_;(refine ct aI ?_ ?_<;>intro Ik)
 · have fo:i < c.ps.length:=by simpa using Ik
   have ht:(c.ps.take (i+1)).foldl H6 m=H6 ((c.ps.take i).foldl H6 m) c.ps[i]:=by
     rw[List.take_succ_eq_append_getElem fo,List.foldl_append];rfl
   have hq:=N0 (List.getElem_mem fo);generalize hg:c.ps[i]=q at ht hq;obtain⟨p,o⟩:=q;cases o with
   | none =>
     repeat (refine gk (And.intro aI hg) ?_)
     refine KG rfl (Vf hX p fun X1 h1 f1=>?_);refine J_ aI ?_;refine dG (i+1) (by omega) ⟨by omega,hf.trans f1,by rw[ht];exact h1⟩ ?_
     exact E_
   | some x =>
     have Mi:x.path=p:=hq x rfl;subst Mi
     repeat (refine gk (And.intro aI hg) ?_)
     refine KG rfl (Vg hX x fun X1 h1 f1=>?_);refine J_ aI ?_;refine dG (i+1) (by omega) ⟨by omega,hf.trans f1,by rw[ht];exact h1⟩ ?_
     exact E_
 · have fo:i=c.ps.length:=by
     have:¬i < c.ps.length:=by simpa using Ik
     omega
   subst fo;rw[List.take_length] at hX;refine J_ aI ?_;exact aa (hk X ⟨_,eZ,hX⟩ hf)
theorem iZ(L:ai code)(b:Nat)(h:Hd)(d:Dk)(c:di)(hs:SN d.now)(hc:Nc d.now c)(hl:d.loose.length < 1048576)(H:ab)(hD:KD H b h d)(K)(hk:∀X,KD X b h (d.lT c)→Own H X (h.bs b) (h.bs b)→K (.tu []) X):Spec L.P L.ν 364 [ptr b,ml c] H K:=by
 have ob:=hD.ob;have hn:=hD.nd;simp only[Hd.bs,List.nodup_cons,List.mem_cons,not_or] at hn;refine ah L D' rfl ?_;refine K_ aI ?_;refine qQ L h.mn d.now c hs hc H hD.no _ fun X1 m1 f1=>?_;have Qf:=f1.get (a:=b) (by simpa using hn.1.2.1) ob
 refine J_ aI ?_;apply sS (k:=(d.loose.map ml).length);rfl;rfl;rfl;(focus simp);(focus simp);(focus exact Nat.le_refl _);rw[List.take_length];refine J_ aI ?_;apply vk;rfl;rfl;(focus exact Tok.AaC _ _ _);(focus (simp;omega));intro tk X2 k1 k2;have f2:=k2.dt;have vt:=f2.get (by simp) Qf
 refine J_ aI ?_;refine rJ aI ?_;intro X3 x3 f3;refine J_ aI ?_;have e3:(d.loose.map ml)++[ml c]=(d.lT c).loose.map ml:=by simp[Dk.lT]
 have NH:X3 b=some (.obj [I d.room,.v (.map (some h.ms)),.v (.map (some h.mn)),.sl tk 2 ((d.lT c).loose.map ml),h.fv,B d.down,I d.ops,I d.aD,B d.done,I d.aE]):=by rw[←e3];exact x3
 refine sW (an.refl _) (kY (cs:=[I d.room,.v (.map (some h.ms)),.v (.map (some h.mn)),.sl .no 2 ((d.lT c).loose.map ml),h.fv,B d.down,I d.ops,I d.aD,B d.done,I d.aE]) NH ⟨an.refl _,an.refl _,an.refl _,an.drop _ _ _,an.refl _,an.refl _,an.refl _,an.refl _,an.refl _,an.refl _,T_⟩ ?_) (hk _ ?_ ?_);{rcases hD.fs with⟨e,_⟩ | ⟨fb,c,zs,e,_⟩<;>rw[e]<;>rfl}
 · have f4:Fr [b] X1 (X3.bt b (some (.obj [I d.room,.v (.map (some h.ms)),.v (.map (some h.mn)),.sl .no 2 ((d.lT c).loose.map ml),h.fv,B d.down,I d.ops,I d.aD,B d.done,I d.aE]))):=((f2.mono (by simp)).trans f3).trans (Fr.set (by simp))
   have hbb:∀a,a≠b→a∉[b]:=fun a h=>by simpa using h
   refine⟨ab.aB _ _ _,(hD.su.fr f1 (by simpa using hn.2.1.1)).fr f4 (hbb _ fun e=>hn.1.1 e.symm),?_,(hD.fs.fr f1 fun a ha hm=>?_).fr f4 fun a ha hm=>?_,hD.nd⟩
   · have:(d.lT c).now=iF d.now c:=ma _ _ _;rw[this];exact m1.fr f4 (hbb _ fun e=>hn.1.2.1 e.symm)
   · rw[List.mem_singleton] at hm;subst hm;exact hn.2.2.1 ha
   · rw[List.mem_singleton] at hm;subst hm;exact hn.1.2.2 ha
 · refine Own.set (cs:=[b,h.mn]) ?_ (by simp[Hd.bs])
   exact((f1.mono (by simp)).trans (f2.mono (by simp))).trans ((f3.mono (by simp)).trans (Fr.set (by simp)))
theorem kC(L:ai code)(b:Nat)(h:Hd)(d next:Dk)(ho:d.ops < 4611686018427387904)(hfa:-1≤d.aD∧d.aD≤9223372036854775807)(hwr:-1≤d.aE∧d.aE≤9223372036854775807)(hdn:next.down=d.down)(f:HV)(H:ab)(hD:KD H b h d)
   (hdo:∀ops aD aE down X,KD X b h (d.lN ops aD aE down)→Own H X (h.bs b) (h.bs b)→∀K,(∀Y h' r,KD Y b h' (next.lN ops aD aE down)→Own X Y (h.bs b) (h'.bs b)→K r Y)→CV L f [] X K)
   (K) (hk:∀Y h',KD Y b h' (d.step next).1→Own H Y (h.bs b) (h'.bs b)→K (I (d.step next).2) Y):Spec L.P L.ν 335 [ptr b,f] H K:=by
 have ob:=hD.ob;have tb:=gB hfa;unfold Dk.step at hk;refine ah L Ea rfl ?_;refine J_ aI ?_;refine rJ aI ?_;intro X1 x1 f1;have d1:KD X1 b h (d.lN (d.ops+1) d.aD d.aE d.down):=hD.cell f1 x1 rfl rfl rfl;have Qf:=d1.ob;refine K_ aI ?_;refine vr L b _ _ d.aD hfa X1 Qf rfl _ fun X2 x2 f2=>?_;have d2:KD X2 b h (d.lN (d.ops+1) (cV d.aD) d.aE d.down):=d1.cell f2 x2 rfl rfl rfl;have vt:=d2.ob;refine K_ aI ?_;refine vr L b _ _ d.aE hwr X2 vt rfl _ fun X3 x3 f3=>?_;have d3:KD X3 b h (d.lN (d.ops+1) (cV d.aD) (cV d.aE) d.down):=d2.cell f3 x3 rfl rfl rfl;have ob3:=d3.ob;have o3:Own H X3 (h.bs b) (h.bs b):=Own.cell ((f1.trans f2).trans f3);refine J_ aI ?_;cases c1:(d.aD==0)
 case true =>
   have fR:d.aD=0:=by simpa using c1
   rw[if_pos fR] at hk;refine J_ aI ?_;refine rJ aI ?_;intro X4 x4 f4;have d4:KD X4 b h (d.lN (d.ops+1) (cV d.aD) (cV d.aE) true):=d3.cell f4 x4 rfl rfl rfl;have ob4:=d4.ob;have o4:=o3.trans (Own.cell (h:=h) f4);refine J_ aI ?_;cases c2:d.done
   case false =>
     have e:(d.lN (d.ops+1) (cV d.aD) (cV d.aE) true).done=false:=c2;rw[c2] at hk;simp only[Bool.false_eq_true,if_false] at hk;rw[e];refine J_ aI ?_;exact aa (hk X4 h (by have d5:=d4;unfold Dk.lN at d5;rw[c2] at d5;exact d5) o4)
   have e:(d.lN (d.ops+1) (cV d.aD) (cV d.aE) true).done=true:=c2;rw[c2] at hk;simp only[if_true] at hk;rw[e];refine J_ aI ?_;refine rO L rfl rfl ?_;refine hdo _ _ _ _ X4 d4 o4 _ fun Y h' r d5 o5=>?_;refine J_ aI ?_;exact aa (hk Y h' d5 (o4.trans o5))
 have fR:d.aD≠0:=by simpa using c1
 rw[if_neg fR] at hk;refine J_ aI ?_;cases c2:(d.aE==0)
 case true =>
   have pE:d.aE=0:=by simpa using c2
   rw[if_pos pE] at hk;refine J_ aI ?_;exact aa (hk X3 h d3 o3)
 have pE:d.aE≠0:=by simpa using c2
 rw[if_neg pE] at hk;refine J_ aI ?_;refine rO L rfl rfl ?_;refine hdo _ _ _ _ X3 d3 o3 _ fun Y h' r d5 o5=>?_;rw[←hdn] at d5;refine J_ aI ?_;exact aa (hk Y h' d5 (o3.trans o5))
end Sm
namespace Sm
open Go
theorem Spec.sub{P:Program}{ν:Nat→Option Nat}{g:Nat}{args:List HV}{X X':ab}{Q:HV→ab→Prop}(hs:X'.sub X)(h:Spec P ν g args X' Q):Spec P ν g args X Q:=by
 intro n hn w K us ao hr;refine(h n hn w K us (oO ao hs) hr).mono fun e w' ⟨u,r,Y,K',e1,e2,e3,e4,e5⟩=>?_;exact⟨u,r,Y,K',e1,e2,e3,⟨e4.os,e4.tape,e4.output,e4.size,e4.drawn,e4.grow,fun b hb hX=>e4.same b hb (th hs hX)⟩,e5⟩
theorem Vh{S':aJ}{sl:List (Nat×EV)}{bx:List (Nat×List HV)}{H:ab}{K:Env→ab→Prop}{os:List aF}{d:Nat}{x y:bj}{tk:Tk}{v:HV}{l:List Fl}(hx:(M sl bx).hv x=some v)(hy:(M sl bx).hv y=some (.sl tk 2 [.ag [.v (.slice none 0 0),I 0]]))(hF:FS H v l)(hl:l.length < 1048576)
   (hk:∀fb c zs X,X fb=some (.obj (eY l++[.v (.slice none 0 0),I 0]++zs))→l.length+1≤c→c≤maxLen→zs.length=(c - (l.length+1))*2→zs.all HV.one=true→Fr (eI v) H X→(fb∈eI v∨H fb=none)→aj S' os (M ((d,.h (.v (.slice (some ⟨fb,0,none⟩) (l.length+1) c)))::sl) bx) X K) :
   aj S' (⟨some d,.app 2 32 x y,none⟩::os) (M sl bx) H K:=by
 have hr:mW H 2 (.sl tk 2 [.ag [.v (.slice none 0 0),I 0]])=some (1,[.v (.slice none 0 0),I 0]):=rfl;rcases hF with⟨rfl,rfl⟩ | ⟨fb,c,zs,rfl,h1,h2,h3,h4,h5⟩
 · refine KH hx hy hr (by decide) (by decide) fun b' c' zs X k1 k2 k3 k4 k5 k6 k7=>?_
   exact hk b' c' zs X k6 k2 k3 k4 k5 (k7.mono (by simp)) (.inr k1)
 · refine Bt hx hy hr h1 h2 (by rw[List.length_append,fL,h4];omega) (by omega) (fun hc X k1 k2=>?_) fun hc b' c' pZ X k1 k2 k3 k4 k5 k6 k7=>?_
   · refine hk fb c (zs.drop 2) X ?_ hc h3 (by rw[List.length_drop];omega) (List.all_eq_true.mpr fun x hx=>List.all_eq_true.mp h5 x (List.mem_of_mem_drop hx)) (k2.mono (by simp[eI])) (.inl (by simp[eI]))
     rw[k1];congr 2;rw[iV _ _ _ (by simp only[List.length_append,fL,List.length_cons,List.length_nil];omega)]
     have e1:(eY l++zs).take (0+l.length*2)=eY l:=by rw[Nat.zero_add,←fL,List.take_left]
     rw[e1];congr 1;rw[Nat.zero_add,←fL,List.drop_append];have e2:(eY l).drop ((eY l).length+[HV.v (Value.slice none 0 0),I 0].length)=[]:=List.drop_eq_nil_of_le (by omega)
     rw[e2,List.nil_append];congr 1;simp
   · refine hk b' c' pZ X ?_ k2 k3 k4 k5 (k7.mono (by simp)) (.inr k1)
     rw[k6];have e1:((eY l++zs).drop 0).take (l.length*2)=eY l:=by rw[List.drop_zero,←fL,List.take_left]
     rw[e1]
theorem bo.app:∀{a b c d:List HV},bo a b→bo c d→bo (a++c) (b++d)
 | [],[],_,_,_,h=>h
 | x::a,y::b,_,_,h,k=>⟨h.1,bo.app h.2 k⟩
 | [],_::_,_,_,h,_=>h.elim
 | _::_,[],_,_,h,_=>h.elim
theorem Own.sub{H X:ab}{bs rz cs:List Nat}(h:Own H X bs rz)(hs:∀a∈cs,a∈rz):Own H X bs cs:=⟨h.fr,fun a ha=>h.nw a (hs a ha)⟩
attribute [local irreducible] aH aj aX bk aA aL bn DK RK JK BR G3 bh Spec Tok Fr CV
theorem Bu(L:ai code)(b c3 c4 c5:Nat)(h:Hd)(d:Dk)(p:List UInt8)(dir:Bool)(hs:SN d.now)(hlen:d.loose.length < 1048576)(gA:d.f.length < 1048576)(hp:bG d.now p=none)(X:ab)(hD:KD X b h d)(x3:X c3=some (.obj [ptr b]))(x4:X c4=some (.obj [S p]))(x5:X c5=some (.obj [B dir]))
   (n3:c3∉h.bs b) (n4:c4∉h.bs b) (n5:c5∉h.bs b)
   (K) (hk:∀Y h' r,KD Y b h' (Dk.lT { d with f:=if dir then d.f else d.f++[⟨[],0⟩] } (.mk ⟨p,dir,if dir then 0 else d.f.length⟩))→Own X Y (h.bs b) (h'.bs b)→K r Y):Spec L.P L.ν 366 [ptr c5,ptr c3,ptr c4] X K:=by
 have mo:Nc d.now (.mk ⟨p,dir,if dir then 0 else d.f.length⟩):=⟨fun z hz n hn he=>by
   simp only[di.cN,List.mem_singleton] at hz;subst hz;exact absurd he (ku hp n hn),T_⟩
 refine ah L Eb rfl ?_;refine J_ aI ?_;refine AM aI ?_;intro cx X1 NJ x1 f1 _;have nx:=hD.new NJ;have oy:=hD.dt f1;have Qf:=oy.ob;have NH:=f1.get (by simp) x3
 have x4':=f1.get (by simp) x4
 have x5':=f1.get (by simp) x5
 cases dir with
 | true =>
   simp only[if_true] at hk mo;refine J_ aI ?_
   try simp only[Bool.not_true]
   refine K_ aI ?_;refine Spec.lay (b:=cx) x1 (jt:=[ptr b,ml (.mk ⟨p,true,0⟩)]) ⟨FW.refl _ _ _,FW.ag (ys:=[.sl .no 1 [S p],.sl .no 1 [.rp [B true,I 0]]]) ⟨FW.of (an.drop _ _ _),FW.sl ⟨FW.ptr,T_⟩ rfl (by simp[HV.aN]),T_⟩ rfl,T_⟩ ?_
   refine iZ L b h d _ hs mo (by omega) _ ?_ _ fun Y hY oY=>?_
   · exact oy.fr (bs:=[cx]) (Fr.set (by simp)) (fun a ha hm=>by rw[List.mem_singleton] at hm;subst hm;exact nx ha)
   refine J_ aI ?_;refine aa (hk Y h _ hY (Own.ahead (c:=cx) NJ f1 ?_));have o1:Own X1 (X1.bt cx none) (cx::h.bs b) (h.bs b):=⟨Fr.set (by simp),fun a ha => .inl (by simp[ha])⟩
   exact o1.trans oY
 | false =>
   simp only[Bool.false_eq_true,if_false] at hk mo;have AaE:∀(K':Env→ab→Prop) (sl:List (Nat×EV)) (bx:List (Nat×List HV)) (os:List aF) (dd:Nat) (xx:bj),(M sl bx).hv xx=some h.fv→aj (Spec L.P L.ν) os (M ((dd,.h (I d.f.length))::sl) bx) X1 K'→aj (Spec L.P L.ν) (⟨some dd,.len xx,none⟩::os) (M sl bx) X1 K':=by
     intro K' sl bx os dd xx hxx hr;refine aG rfl ?_ hr;rcases oy.fs with⟨e1,e2⟩ | ⟨fb,c,zs,e1,_⟩;{rw[e1] at hxx;simp only[aw.ev,hxx,e2];rfl};{rw[e1] at hxx;simp only[aw.ev,hxx]}
   try simp only[Bool.not_false]
   refine J_ aI ?_
   try simp only[Bool.not_false]
   refine J_ aI ?_;refine AaE _ _ _ _ _ _ rfl ?_;refine J_ aI ?_;refine rJ aI ?_;intro X2 x2 f2;have lW:=oy.fr (bs:=[cx]) f2 (fun a ha hm=>by rw[List.mem_singleton] at hm;subst hm;exact nx ha)
   have vt:=lW.ob;have n3x:c3≠cx:=fun e=>by subst e;rw[NJ] at x3;cases x3
   have n4x:c4≠cx:=fun e=>by subst e;rw[NJ] at x4;cases x4
   have UW:=f2.get (by simpa using n3x) NH
   have Adn:=f2.get (by simpa using n4x) x4'
   refine J_ aI ?_;refine Vh rfl rfl lW.fs (by omega) fun fb c zs X3 k1 k2 k3 k4 kz k5 k6=>?_
   have nG:∀a∈eI h.fv,a∈h.bs b:=fun a ha=>by simp[Hd.bs,ha]
   have rI:=hD.nd;simp only[Hd.bs,List.nodup_cons,List.mem_cons,not_or] at rI;obtain⟨⟨q1,q2,q3⟩,⟨q4,q5⟩,q6,q7⟩:=rI;have CN:fb≠b∧fb≠h.ms∧fb≠h.mn:=by
     rcases k6 with k6 | k6;{exact⟨fun e=>q3 (e▸k6),fun e=>q5 (e▸k6),fun e=>q6 (e▸k6)⟩};{have:=lW.new k6;simp only[Hd.bs,List.mem_cons,not_or] at this;exact⟨this.1,this.2.1,this.2.2.1⟩}
   have hfx:fb≠cx:=by
     rcases k6 with k6 | k6;{exact fun e=>nx (e▸nG _ k6)};{exact fun e=>by rw[e,x2] at k6;cases k6}
   have g3:=k5.get (fun hm=>n3 (nG _ hm)) UW;have g4:=k5.get (fun hm=>n4 (nG _ hm)) Adn;have gx:=k5.get (fun hm=>nx (nG _ hm)) x2;have gb:=k5.get q3 vt;refine J_ aI ?_;refine rJ aI ?_;intro X4 y4 f4;have n3b:c3≠b:=fun e=>n3 (by simp[Hd.bs,e])
   have n4b:c4≠b:=fun e=>n4 (by simp[Hd.bs,e])
   have nxb:cx≠b:=fun e=>nx (by simp[Hd.bs,e])
   have g3':=f4.get (by simpa using n3b) g3
   have g4':=f4.get (by simpa using n4b) g4
   have gx':=f4.get (by simpa using nxb) gx
   have kf:=f4.get (by simpa using CN.1) k1
   refine K_ aI ?_;refine Spec.lay (b:=cx) gx' (jt:=[ptr b,ml (.mk ⟨p,false,d.f.length⟩)]) ⟨FW.refl _ _ _,FW.ag (ys:=[.sl .no 1 [S p],.sl .no 1 [.rp [B false,I d.f.length]]]) ⟨FW.of (an.drop _ _ _),FW.sl ⟨FW.ptr,T_⟩ rfl (by simp[HV.aN]),T_⟩ rfl,T_⟩ ?_
   have kf2:(X4.bt cx none) fb=some (.obj (eY d.f++[.v (.slice none 0 0),I 0]++zs)):=by rw[ab.cK _ _ hfx];exact kf
   refine Spec.sub (kY (cs:=eY (d.f++[⟨[],0⟩])++zs) kf2 ?_ ?_) ?_
   · have:eY (d.f++[⟨[],0⟩])=eY d.f++[.sl .no 1 [],I 0]:=by simp[eY]
     rw[this];exact bo.app (bo.app (bo.refl _) ⟨an.dO 1,an.refl _,T_⟩) (bo.refl _)
   · rw[List.all_append,te,kz];rfl
   generalize NL:(X4.bt cx none).bt fb (some (.obj (eY (d.f++[⟨[],0⟩])++zs)))=X5;have o5:Own X1 X5 (cx::h.bs b) ((⟨h.ms,h.mn,.v (.slice (some ⟨fb,0,none⟩) (d.f.length+1) c)⟩:Hd).bs b):=by
     have o2:Own X1 X2 (cx::h.bs b) (cx::h.bs b):=Own.set f2 (by simp)
     have o3:Own X2 X3 (cx::h.bs b) (cx::(⟨h.ms,h.mn,.v (.slice (some ⟨fb,0,none⟩) (d.f.length+1) c)⟩:Hd).bs b):=by
       refine⟨k5.mono fun a ha=>by simp[nG a ha],fun a ha=>?_⟩
       simp only[Hd.bs,eI,List.mem_cons,List.not_mem_nil,or_false] at ha ⊢;rcases ha with rfl | rfl | rfl | rfl | rfl;{simp};{simp};{simp};{simp};{rcases k6 with k6 | k6;{exact .inl (.inr (.inr (.inr (.inr k6))))};{exact .inr k6}}
     have o4:Own X3 X5 (cx::(⟨h.ms,h.mn,.v (.slice (some ⟨fb,0,none⟩) (d.f.length+1) c)⟩:Hd).bs b) (cx::(⟨h.ms,h.mn,.v (.slice (some ⟨fb,0,none⟩) (d.f.length+1) c)⟩:Hd).bs b):=by
       refine Own.set (cs:=[b,cx,fb]) ?_ (by simp[Hd.bs,eI])
       rw[←NL];exact((f4.mono (by simp)).trans (Fr.set (by simp))).trans (Fr.set (by simp))
     exact((o2.trans o3).trans o4).sub fun a ha=>by simp[ha]
   have Vi:KD X5 b ⟨h.ms,h.mn,.v (.slice (some ⟨fb,0,none⟩) (d.f.length+1) c)⟩ { d with f:=d.f++[⟨[],0⟩] }:=by
     have h5b:∀a,a≠fb→a≠cx→X5 a=X4 a:=fun a h1 h2=>by rw[←NL,ab.cK _ _ h1,ab.cK _ _ h2]
     have f45:Fr [cx,fb] X4 X5:=Fr.sQ fun a r ha hr=>by
       simp only[List.mem_cons,List.not_mem_nil,or_false,not_or] at ha;rw[h5b a ha.2 ha.1];exact hr
     have n1x:h.ms≠cx:=fun e=>nx (by simp[Hd.bs,←e])
     have n2x:h.mn≠cx:=fun e=>nx (by simp[Hd.bs,←e])
     refine⟨by rw[h5b b CN.1.symm nxb.symm];exact y4,?_,?_,.inr ⟨fb,c,zs,by simp,by rw[←NL,ab.aB],by simpa using k2,k3,by simpa using k4,kz⟩,?_⟩
     · exact((lW.su.fr k5 q5).fr f4 (by simpa using fun e=>q1 e.symm)).fr f45 (by simpa using ⟨n1x,CN.2.1.symm⟩)
     · exact((lW.no.fr k5 q6).fr f4 (by simpa using fun e=>q2 e.symm)).fr f45 (by simpa using ⟨n2x,CN.2.2.symm⟩)
     · simp only[Hd.bs,eI,List.nodup_cons,List.mem_cons,List.not_mem_nil,or_false,not_or,not_false_eq_true,List.nodup_nil,and_true];exact⟨⟨q1,q2,CN.1.symm⟩,⟨q4,CN.2.1.symm⟩,CN.2.2.symm⟩
   refine iZ L b _ { d with f:=d.f++[⟨[],0⟩] } _ hs mo (by show d.loose.length < _;omega) _ Vi _ fun Y hY oY=>?_
   refine J_ aI ?_;exact aa (hk Y _ _ hY (Own.ahead (c:=cx) NJ f1 (o5.trans oY)))
end Sm
namespace Sm
open Go
attribute [local irreducible] aH aj aX bk aA aL bn DK RK JK BR G3 bh Spec Tok Fr CV
theorem vu(L:ai code)(b:Nat)(h:Hd)(d:Dk)(p:List UInt8)(dir:Bool)(n m:Nat)(hw:d.WF n m)(hn:n < 1048576)(hp:p.length≤1048576)(H:ab)(hD:KD H b h d)(K)(hk:∀Y h',KD Y b h' (d.put p dir).1→Own H Y (h.bs b) (h'.bs b)→K (I (d.put p dir).2) Y):Spec L.P L.ν 336 [ptr b,S p,B dir] H K:=by
 unfold Dk.put at hk;refine ah L Ec rfl ?_;refine J_ aI ?_;refine AM aI ?_;intro c3 X1 h3 x3 f1 _;refine J_ aI ?_;refine AM aI ?_;intro c4 X2 h4 x4 f2 _;have Mj:=f2.get (by simp) x3
 refine J_ aI ?_;refine AM aI ?_;intro c5 X3 h5 x5 f3 _;have NI:=f3.get (by simp) Mj
 have x4b:=f3.get (by simp) x4
 have f0:=(f1.trans f2).trans f3;have yw:=hD.dt f0;have n3:=hD.new h3;have n4:=hD.new (f1.bM h4);have n5:=hD.new ((f1.trans f2).bM h5);clear x3 x4 Mj;refine K_ aI ?_;refine jx L b h d .full [p] (by simpa using hp) (by simp) X3 yw _ fun X4 f4=>?_
 rw[sU];have fa:=f0.trans f4;have iR:=yw.dt f4;have ob4:=iR.ob;have x3c:=f4.get (by simp) NI
 have x4c:=f4.get (by simp) x4b
 have x5c:=f4.get (by simp) x5
 refine J_ aI ?_;cases c1:(d.asked p != 0)
 case true =>
   have fR:d.asked p≠0:=by simpa using c1
   rw[if_pos fR] at hk
   repeat (refine gk (And.intro aI c1) ?_)
   exact aa (hk X4 h iR (Own.of _ fa))
 have fR:¬d.asked p≠0:=by simpa using c1
 rw[if_neg fR] at hk
 repeat (refine gk (And.intro aI c1) ?_)
 (apply af;rfl);refine oH L b h d p hp hw.eh X4 iR _ ?_;refine J_ aI ?_;cases c2:(iG d.now p != 0)
 case true =>
   have pE:iG d.now p≠0:=by simpa using c2
   rw[if_pos pE] at hk
   repeat (refine gk (And.intro aI c2) ?_)
   exact aa (hk X4 h iR (Own.of _ fa))
 have pE:¬iG d.now p≠0:=by simpa using c2
 rw[if_neg pE] at hk
 repeat (refine gk (And.intro aI c2) ?_)
 apply sV iR.no hw.eh;rfl;refine J_ aI ?_;cases yx:(bG d.now p).isSome
 case true =>
   rw[yx,if_pos rfl] at hk;refine J_ aI ?_;exact aa (hk X4 h iR (Own.of _ fa))
 rw[yx,if_neg (by decide)] at hk
 have oF:bG d.now p=none:=by simpa using yx
 refine K_ aI ?_;have hlen:=hw.len;have gA:=hw.fl;have cH:=hw.op;refine kC L b h d (Dk.lT { d with f:=if dir then d.f else d.f++[⟨[],0⟩] } (.mk ⟨p,dir,if dir then 0 else d.f.length⟩)) (by omega) hw.fa hw.wr rfl _ X4 iR (fun ops aD aE down X hX oX K1 gF=>?_) _ fun Y h' hY oY=>?_
 · exact yu <| Bu L b c3 c4 c5 h (d.lN ops aD aE down) p dir hw.eh (by show d.loose.length < _;omega) (by show d.f.length < _;omega) oF X hX (oX.get n3 x3c) (oX.get n4 x4c) (oX.get n5 x5c) n3 n4 n5 K1 fun Y h' r hY oY=>gF Y h' r hY oY
 · refine J_ aI ?_;exact aa (hk Y h' hY ((Own.of _ fa).trans oY))
theorem lg(L:ai code)(b:Nat)(h:Hd)(d:Dk)(p:List UInt8)(n m:Nat)(hw:d.WF n m)(hn:n < 1048576)(hp:p.length≤1048576)(H:ab)(hD:KD H b h d)(K)(hk:∀Y h',KD Y b h' (d.put p false).1→Own H Y (h.bs b) (h'.bs b)→K (I (d.put p false).2) Y):Spec L.P L.ν 299 [ptr b,S p] H K:=by
 refine ah L Ed rfl ?_;refine K_ aI ?_;refine vu L b h d p false n m hw hn hp H hD _ fun Y h' hY oY=>?_;refine J_ aI ?_;exact aa (hk Y h' hY oY)
theorem yH(L:ai code)(b:Nat)(h:Hd)(d:Dk)(p:List UInt8)(n m:Nat)(hw:d.WF n m)(hn:n < 1048576)(hp:p.length≤1048576)(H:ab)(hD:KD H b h d)(K)(hk:∀Y h',KD Y b h' (d.put p true).1→Own H Y (h.bs b) (h'.bs b)→K (I (d.put p true).2) Y):Spec L.P L.ν 308 [ptr b,S p] H K:=by
 refine ah L Ee rfl ?_;refine K_ aI ?_;refine vu L b h d p true n m hw hn hp H hD _ fun Y h' hY oY=>?_;refine J_ aI ?_;exact aa (hk Y h' hY oY)
end Sm
namespace Sm
open Go
def uK(f:List Fl)(n:Nm):Nat:=if n.dir then 0 else (f.getD n.id default).b.length
theorem wP(d:Dk):d.used=(d.now.map (uK d.f)).sum:=rfl
theorem Bq{d:Dk}{n m:Nat}(hw:d.WF n m)(x:Nm):uK d.f x≤m:=by
 unfold uK;split;{exact Nat.zero_le _};{exact(Ku hw _).1}
theorem CW{d:Dk}{n m:Nat}(hw:d.WF n m):d.used≤n*m:=by
 rw[wP];exact Nat.le_trans (wQ _ m fun x _=>Bq hw x) (Nat.mul_le_mul_right m hw.eT)
theorem me{v:HV}{fb n c:Nat}(h:v = .v (.slice (some ⟨fb,0,none⟩) n c))(i:Nat):ZL v i = .v (.pointer (some ⟨fb,i*2,none⟩)):=by
 subst h;simp[ZL]
theorem getD_at{f:List Fl}{i:Nat}(h:i < f.length):f.getD i default=f[i]:=by simp[List.getD,h]
attribute [local irreducible] aH aj aX bk aA aL bn DK RK JK BR G3 bh Spec Tok Fr CV
theorem A8(L:ai code)(b:Nat)(h:Hd)(d:Dk)(n m:Nat)(hw:d.WF n m)(qM:n*m≤1152921504606846976)(H:ab)(hD:KD H b h d)(K)(hk:∀X,Fr [] H X→K (I d.used) X):Spec L.P L.ν 313 [ptr b] H K:=by
 have ob:=hD.ob;obtain⟨mm,hp,hm⟩:=hD.no;have hml:mm.length≤n:=by rw[hp.length_eq];exact hw.eT
 refine ah L Ef rfl ?_;refine J_ aI ?_;refine gi rfl (Kd hm fun it X0 hit hI f0=>?_);refine J_ aI ?_;refine aV (ak L) (fun(q:List Nm×Nat)=>[(0,.h (ptr b)),(3,.h (I q.2)),(12,.h (ptr it))]) (fun _=>[]) (fun q X=>Nd X it h.mn Nm.path ZH mm q.1∧Fr [] H X∧q.2=(q.1.map (uK d.f)).sum) (fun q=>mm.length - q.1.length) ([],0) ?_ ⟨hI,f0,rfl⟩ ?_;{exact E_};rintro⟨done,s⟩ X ⟨hI,hf,hs⟩;dsimp only at hI hf hs ⊢;refine J_ aI ?_;refine gi rfl (Ke hI hI.ne (fun hpd=>?_) fun a X1 ha Mg Qc f1=>?_)
 · refine J_ aI ?_;have e:s=d.used:=by
     rw[hs,wP];exact((hpd.trans hp).map _).sum_nat
   rw[e];exact aa (hk X hf)
 have hlen:=Qc.len;rw[List.length_append,List.length_cons,List.length_nil] at hlen;have Nf:Fr [] H X1:=hf.own hit f1;have oz:((done++[a]).map (uK d.f)).sum=s+uK d.f a:=by simp[hs]
 have lL:s+uK d.f a≤1152921504606846976:=by
   rw[←oz];refine Nat.le_trans (wQ _ m fun x _=>Bq hw x) (Nat.le_trans (Nat.mul_le_mul_right m ?_) qM);simp;omega
 refine J_ aI ?_;refine gi rfl (Kf Qc ?_);refine J_ aI ?_;cases c1:a.dir
 case true =>
   have hz:uK d.f a=0:=by simp[uK,c1]
   try simp only[Bool.not_true]
   refine J_ aI ?_;refine dG (done++[a],s) (by simp;omega) ⟨Qc,Nf,by simp only[oz,hz,Nat.add_zero]⟩ ?_
   exact E_
 have hid:=(hw.ei a (hp.mem_iff.mp ha)).2.1 c1;have hz:uK d.f a=d.f[a.id].b.length:=by simp[uK,c1,hid]
 rcases hD.fs with⟨_,h0⟩ | ⟨fb,c,zs,e1,k1,_⟩;{rw[h0] at hid;exact absurd hid (Nat.not_lt_zero _)};have Qf:=Nf.get (by simp) ob
 rw[e1] at Qf;have k2:=Nf.get (by simp) k1
 rw[hz] at lL oz
 try simp only[Bool.not_false]
 refine J_ aI ?_;apply dj;rfl;rfl;(focus omega);refine J_ aI ?_;apply bz;rfl;(focus exact k2);(focus exact fK hid (by simp) zs)
 refine J_ aI ?_;refine dG (done++[a],s+d.f[a.id].b.length) (by simp;omega) ⟨Qc,Nf,oz.symm⟩ ?_
 exact E_
end Sm
namespace Sm
open Go
def tot(f:List Fl):Nat:=(f.map fun x=>x.b.length).sum
end Sm
