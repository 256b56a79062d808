/-
  G6
-/
import Derived.Test.YtegmmhldpmmkeaaGreatDoorSmGA
import Derived.Test.YtegmmhldpmmkeaaGreatDoorSmGB
import Derived.OpenShut
set_option linter.unusedVariables false
set_option linter.unusedSimpArgs false
namespace Sm
open Go
structure ya (P:Program) (ν:Nat→Option Nat) (t:TypeId) {α:Type} (ok:α→Prop) (f:α→List HV) (n:Nat):Prop where
 ap:∀{H:Type} {enc:TypeId×Value→H} {w:World} {base:Nat} {spare:Nat→Bool} {held:Bool} {fuel:Nat} {cs:List Value} {x:DataW H×List MemPlace},DataW.trod enc P w base spare held fuel t cs=some x→∃a,ok a∧aC ν (iI w) w (f a) cs
 one:∀a,(f a).all HV.one=true
 len:∀a,(f a).length=n
section
variable {P:Program} {ν:Nat→Option Nat} {t:TypeId}
theorem Ae8{k:IntKind}(ht:P.underlying t=some (.int k)):ya P ν t (fun a:Int=>(Lit.int k a).wf=true) (fun a=>[.v (.int k a)]) 1:=
 ⟨fun h=>by
   obtain⟨a,e,_,hw⟩:=DataW.trod_int ht h;subst e;exact⟨a,hw,by simp[aC,rep]⟩,fun _=>rfl,fun _=>rfl⟩
theorem N8(ht:P.underlying t=some (.int .i64)):ya P ν t (fun a:Int => -9223372036854775808≤a∧a≤9223372036854775807) (fun a=>[I a]) 1:=
 ⟨fun h=>by
   obtain⟨a,e,_,hw⟩:=DataW.trod_int ht h;subst e;refine⟨a,?_,by simp[aC,rep]⟩
   simp only[Lit.wf,Bool.and_eq_true,decide_eq_true_eq] at hw;exact hw,fun _=>rfl,fun _=>rfl⟩
theorem KN(ht:P.underlying t=some (.int .u8)):ya P ν t (fun _:UInt8=>True) (fun a=>[.v (.int .u8 a.toNat)]) 1:=
 ⟨fun h=>by
   obtain⟨a,e,_,hw⟩:=DataW.trod_int ht h;subst e;simp only[Lit.wf,Bool.and_eq_true,decide_eq_true_eq] at hw;have h2:0≤a∧a≤255:=hw;refine⟨UInt8.ofNat a.toNat,T_,?_⟩;simp only[aC,rep];refine⟨_,[],rfl,?_,rfl⟩;congr 1;rw[UInt8.toNat_ofNat'];omega,fun _=>rfl,fun _=>rfl⟩
theorem KO(ht:P.underlying t=some .bool):ya P ν t (fun _:Bool=>True) (fun a=>[B a]) 1:=
 ⟨fun h=>by
   obtain⟨a,e,_⟩:=DataW.trod_bool ht h;subst e;exact⟨a,T_,by simp[aC,rep]⟩,fun _=>rfl,fun _=>rfl⟩
theorem N9(ht:P.underlying t=some .string):ya P ν t (fun a:List UInt8=>a.length≤9223372036854775807) (fun a=>[.v (.string ⟨a.toArray⟩)]) 1:=
 ⟨fun h=>by
   obtain⟨s,e,_,hs⟩:=DataW.trod_string ht h;subst e;refine⟨s.data.toList,?_,by simp[aC,rep]⟩
   have e:maxLen=9223372036854775807:=by decide
   rw[e] at hs;rw[ByteArray.size,←Array.length_toList] at hs;exact hs,fun _=>rfl,fun _=>rfl⟩
theorem KP{e:TypeId}{α:Type}[Inhabited α]{ok:α→Prop}{f:α→List HV}{sz:Nat}(ht:P.underlying t=some (.slice e))(hc:P.cellsOf e=sz)(hz:0 < sz)(he:ya P ν e ok f sz) :
   ya P ν t (fun l:List α=>∀a∈l,ok a) (fun l=>[.sl .no sz (l.map fun a => .ag (f a))]) 1:=
 ⟨fun {H enc w base spare held fuel cs x} h=>by
   rcases Deep.open_slice ht h with⟨rfl,_⟩ | ⟨a,len,cap,m,n,D,Pl,rfl,hb,hl,hm,We,rfl,hx⟩
   · refine⟨[],by simp,?_⟩
     simp only[aC,rep,List.map_nil];exact⟨_,[],rfl,⟨none,0,[],rfl,by simp,by simp,T_,rfl,by simp,rfl,.inl T_⟩,rfl⟩
   · have hlm:len≤m:=by rw[We];split<;>omega
     have each:∀i,∃q:α×List Value,i < len→ok q.1∧w.cells? base (a.add (i*P.cellsOf e)) (P.cellsOf e)=some q.2∧aC ν (iI w) w (f q.1) q.2:=by
       intro i
       by_cases hi:i < len
       · obtain⟨bI,h1,h2⟩:=hx i (by omega)
         obtain⟨y,g0,g1⟩:=he.ap h2;exact⟨(y,bI),fun _=>⟨g0,h1,g1⟩⟩
       · exact⟨(default,[]),fun h=>absurd h hi⟩
     obtain⟨q,hq⟩:=Classical.axiomOfChoice each;have va:∀i < len,(q i).2.length=sz:=fun i hi=>by
       obtain⟨_,h1,_⟩:=World.cells?_some (hq i hi).2.1;rw[h1,hc]
     refine⟨(List.range len).map fun i=>(q i).1,?_,?_⟩;{intro y hy;simp only[List.mem_map,List.mem_range] at hy;obtain⟨i,hi,rfl⟩:=hy;exact(hq i hi).1};simp only[aC,rep];refine⟨_,[],rfl,⟨some a,cap,(List.range len).map fun i => .agg (q i).2.toArray,by simp,by simpa using hl,hm,T_,?_,?_,?_,?_⟩,rfl⟩
     · rw[List.all_eq_true];intro y hy;simp only[List.map_map,List.mem_map,List.mem_range,Function.comp] at hy;obtain⟨i,hi,rfl⟩:=hy;exact he.one _
     · intro y hy;simp only[List.map_map,List.mem_map,List.mem_range,Function.comp] at hy;obtain⟨i,hi,rfl⟩:=hy;exact he.len _
     · rw[List.map_map];refine tj _ _ _ fun i hi=>?_;have hi:=List.mem_range.mp hi;simp only[Function.comp,rep];exact⟨(q i).2,rfl,he.one _,(hq i hi).2.2⟩
     · rcases Nat.eq_zero_or_pos len with h0 | h0;{left;subst h0;rfl}
       · right;have gA:flat ((List.range len).map fun i=>Value.agg (q i).2.toArray)=(List.range len).flatMap fun i=>(q i).2:=by
           simp[flat,List.flatMap_map,Value.cells]
         have dW:∀i r,i < len→r < sz→w.cell? ((a.add (i*sz)).add r)=(q i).2[r]? := fun i r hi hr=>by
           obtain⟨_,_,h3⟩:=World.cells?_some (hq i hi).2.1;have:=h3 r (by rw[hc];exact hr)
           rwa [hc] at this
         have Qu:∀i r,i < len→r < sz→∃v,(q i).2[r]? = some v:=fun i r hi hr=>⟨_,List.getElem?_eq_getElem (by rw[va i hi];exact hr)⟩
         obtain⟨b,off,sp⟩:=a;have Z0:sp=none:=by
           obtain⟨v,hv⟩:=Qu 0 0 h0 hz;have h1:=dW 0 0 h0 hz;rw[hv] at h1;simp only[Nat.zero_mul,Addr.add,if_true,World.cell?] at h1;cases sp with
           | none=>rfl
           | some k =>
             simp only[Option.isSome_some,if_true] at h1;split at h1<;>cases h1
         subst Z0;have tm:∀(o k:Nat),(⟨b,o,none⟩:Addr).add k=⟨b,o+k,none⟩:=fun o k=>by
           rw[Addr.add];split;{rename_i hk;subst hk;rfl};{rfl}
         refine⟨b,off,rfl,?_,?_⟩
         · obtain⟨v,hv⟩:=Qu (len - 1) (sz - 1) (by omega) (by omega)
           have h1:=dW (len - 1) (sz - 1) (by omega) (by omega)
           rw[hv,tm,tm] at h1;have h2:=wV h1;have h3:(len - 1)*sz+sz=len*sz:=by
             obtain⟨k,rfl⟩:∃k,len=k+1:=⟨len - 1,by omega⟩
             rw[Nat.add_sub_cancel,Nat.succ_mul]
           simp only[List.length_map,List.length_range];omega
         · intro j y hj;rw[gA] at hj;obtain⟨i,r,h1,h2,h3,h4⟩:=yQ hz len va j y hj;have h5:=dW i r h1 h2;rw[tm,tm,h4] at h5;rw[h3,←Nat.add_assoc];exact h5,fun _=>rfl,fun _=>rfl⟩
theorem N'{e:TypeId}{α:Type}[Inhabited α]{ok:α→Prop}{g:α→HV}(ht:P.underlying t=some (.slice e))(hc:P.cellsOf e=1)(he:ya P ν e ok (fun a=>[g a]) 1) :
   ya P ν t (fun l:List α=>∀a∈l,ok a) (fun l=>[.sl .no 1 (l.map g)]) 1:=
 ⟨fun {H enc w base spare held fuel cs x} h=>by
   have hg1:∀a,(g a).one=true:=fun a=>by have:=he.one a;simpa using this
   have hgc:∀a,(g a).aN=1:=fun a=>by have:=hg1 a;cases hga:g a<;>simp_all[HV.aN,HV.one]
   have xZ:∀a,(g a).el=true:=fun a=>by have:=hg1 a;cases hga:g a<;>simp_all[HV.el,HV.one]
   rcases Deep.open_slice1 ht hc h with⟨rfl,_⟩ | ⟨a,len,cap,m,n,V,D,Pl,rfl,hb,hl,hm,We,rfl,hx⟩
   · refine⟨[],by simp,?_⟩
     simp only[aC,rep,List.map_nil];exact⟨_,[],rfl,⟨none,0,[],rfl,by simp,by simp,T_,rfl,by simp,rfl,.inl T_⟩,rfl⟩
   · have hlm:len≤m:=by rw[We];split<;>omega
     have each:∀i,∃q:α,i < len→ok q∧rep ν (iI w) w (g q) (V i):=by
       intro i
       by_cases hi:i < len
       · obtain⟨h1,h2⟩:=hx i (by omega)
         obtain⟨y,g0,g1⟩:=he.ap h2;simp only[aC] at g1;obtain⟨u,us,e1,e2,rfl⟩:=g1;cases e1;exact⟨y,fun _=>⟨g0,e2⟩⟩
       · exact⟨default,fun h=>absurd h hi⟩
     obtain⟨q,hq⟩:=Classical.axiomOfChoice each;refine⟨(List.range len).map q,?_,?_⟩;{intro y hy;simp only[List.mem_map,List.mem_range] at hy;obtain⟨i,hi,rfl⟩:=hy;exact(hq i hi).1};simp only[aC,rep];refine⟨_,[],rfl,⟨some a,cap,(List.range len).map V,by simp,by simpa using hl,hm,T_,?_,?_,?_,?_⟩,rfl⟩
     · rw[List.all_eq_true];intro y hy;obtain⟨z,_,rfl⟩:=List.mem_map.mp hy;exact xZ z
     · intro y hy;obtain⟨z,_,rfl⟩:=List.mem_map.mp hy;exact hgc z
     · rw[List.map_map];refine tj _ _ _ fun i hi=>?_;exact(hq i (List.mem_range.mp hi)).2
     · rcases Nat.eq_zero_or_pos len with h0 | h0;{left;subst h0;rfl}
       · right;have AaH:∀i < len,(V i).cells.toList=[V i]:=fun i hi=>by
           have:=lh (hg1 (q i)) (hq i hi).2;cases hv:V i<;>simp_all[Value.cells,Value.oneCell']
         have gA:flat ((List.range len).map V)=(List.range len).map V:=by
           have:∀l:List Nat,(∀i∈l,i < len)→flat (l.map V)=l.map V:=by
             intro l
             induction l with
             | nil=>intro _;rfl
             | cons i l ih =>
               intro h;have e1:=AaH i (h i (by simp))
               have e2:=ih fun j hj=>h j (by simp[hj])
               simp only[flat,List.map_cons,List.flatMap_cons] at e2 ⊢;rw[e1,e2];rfl
           exact this _ fun i hi=>List.mem_range.mp hi
         have dW:∀i,i < len→w.cell? (a.add i)=some (V i):=fun i hi=>(hx i (by omega)).1
         obtain⟨b,off,sp⟩:=a;have Z0:sp=none:=by
           have h1:=dW 0 h0;simp only[Addr.add,if_true,World.cell?] at h1;cases sp with
           | none=>rfl
           | some k =>
             simp only[Option.isSome_some,if_true] at h1;split at h1<;>cases h1
         subst Z0;have tm:∀(o k:Nat),(⟨b,o,none⟩:Addr).add k=⟨b,o+k,none⟩:=fun o k=>by
           rw[Addr.add];split;{rename_i hk;subst hk;rfl};{rfl}
         refine⟨b,off,rfl,?_,?_⟩
         · have h1:=dW (len - 1) (by omega)
           rw[tm] at h1;have h2:=wV h1;simp only[List.length_map,List.length_range];omega
         · intro j y hj;rw[gA] at hj;have Nh:j < len:=by
             rcases Nat.lt_or_ge j len with h | h;{exact h};{rw[List.getElem?_eq_none (by simpa using h)] at hj;cases hj}
           simp only[List.getElem?_map,List.getElem?_range Nh,Option.map_some,Option.some.injEq] at hj;have h5:=dW j Nh;rw[tm] at h5;rw[h5,hj],fun _=>rfl,fun _=>rfl⟩
theorem ya.as{α β:Type}{ok:α→Prop}{f:α→List HV}{n:Nat}(h:ya P ν t ok f n)(NC:β→Prop)(f':β→List HV)(r:α→β)(h1:∀a,ok a→NC (r a))(h2:∀a,f' (r a)=f a)(h3:∀b,(f' b).all HV.one=true)(h4:∀b,(f' b).length=n):ya P ν t NC f' n:=
 ⟨fun hx=>by
   obtain⟨a,g1,g2⟩:=h.ap hx;exact⟨r a,h1 a g1,by rw[h2];exact g2⟩,h3,h4⟩
structure Fds (P:Program) (ν:Nat→Option Nat) (fs:List Field) (off:Nat) {α:Type} (ok:α→Prop) (f:α→List HV) (n:Nat):Prop where
 ap:∀{H:Type} {enc:TypeId×Value→H} {w:World} {base:Nat} {spare:Nat→Bool} {held:Bool} {fuel:Nat} {cs:List Value} {xs:List (DataW H×List MemPlace)},xs.length=fs.length→cs.length=off+n →
   (∀(i:Nat) (fd:Field),fs[i]? = some fd→DataW.trod enc P w base spare held fuel fd.type ((cs.drop fd.offset).take (P.cellsOf fd.type))=xs[i]?)→∃a,ok a∧aC ν (iI w) w (f a) (cs.drop off)
 one:∀a,(f a).all HV.one=true
 len:∀a,(f a).length=n
theorem Oa{off:Nat}:Fds P ν [] off (fun _:Unit=>True) (fun _=>[]) 0:=
 ⟨fun _ hc _=>⟨(),T_,by simp only[aC];exact List.drop_of_length_le (by omega)⟩,fun _=>rfl,fun _=>rfl⟩
theorem kD{fd:Field}{fs:List Field}{off m n:Nat}{α β:Type}{ok:α→Prop}{NC:β→Prop}{f:α→List HV}{g:β→List HV}(ho:fd.offset=off)(hc:P.cellsOf fd.type=m)(h:ya P ν fd.type ok f m)(k:Fds P ν fs (off+m) NC g n) :
   Fds P ν (fd::fs) off (fun p:α×β=>ok p.1∧NC p.2) (fun p=>f p.1++g p.2) (m+n):=
 ⟨fun {H enc w base spare held fuel cs xs} hx hl hf=>by
   cases xs with
   | nil=>cases hx
   | cons y xs =>
     have h0:=hf 0 fd rfl;rw[ho,hc] at h0;obtain⟨a,a1,a2⟩:=h.ap h0;obtain⟨b,b1,b2⟩:=k.ap (xs:=xs) (by simpa using hx) (by rw[hl,Nat.add_assoc]) (fun i fd' hi=>by have:=hf (i+1) fd' (by simpa using hi);simpa using this)
     refine⟨(a,b),⟨a1,b1⟩,?_⟩;have e:cs.drop off=(cs.drop off).take m++cs.drop (off+m):=by rw[←List.drop_drop,List.take_append_drop]
     rw[e];exact cA a2 b2,fun p=>by rw[List.all_append,h.one,k.one];rfl,fun p=>by rw[List.length_append,h.len,k.len]⟩
theorem Bx{l:List Field}{α:Type}{ok:α→Prop}{f:α→List HV}{n:Nat}(ht:P.underlying t=some (.struct l.toArray))(hc:P.cellsOf t=n)(h:Fds P ν l 0 ok f n):ya P ν t ok f n:=
 ⟨fun {H enc w base spare held fuel cs x} hx=>by
   obtain⟨xs,k,_,_,hl,hx,hf⟩:=DataW.trod_struct ht hx;have:=h.ap (xs:=xs) (by simpa using hx) (by omega) (fun i fd hi=>hf i fd (by simpa using hi))
   simpa using this,h.one,h.len⟩
theorem Vw{w:World}{b:Nat}(h:w.heap.size≤b):iI w b=0:=by simp only[iI,Array.getElem?_eq_none h]
theorem AaI{H:Type}{enc:TypeId×Value→H}{w:World}{base:Nat}{sp:Nat→Bool}{held:Bool}{v:Value}{d:DataW H}{ps:List MemPlace}{α:Type}{ok:α→Prop}{g:α→HV}(ho:ya P ν t ok (fun a=>[g a]) 1)(h:DataW.Trod enc P w base sp held t v d ps)(hv:v.cells=#[v]):∃a,ok a∧rep ν (iI w) w (g a) v:=by
 obtain⟨fuel,hf⟩:=h;obtain⟨a,h1,h2⟩:=ho.ap hf;rw[hv] at h2;simp only[aC] at h2;obtain⟨u,us,e,h3,rfl⟩:=h2;cases e;exact⟨a,h1,h3⟩
theorem Ae0{e:TypeId}{m:Nat}{α:Type}[Inhabited α]{ok:α→Prop}{g:α→HV}(ht:P.underlying t=some (.array m e))(hc:P.cellsOf e=1)(hm:P.cellsOf t=m)(he:ya P ν e ok (fun a=>[g a]) 1) :
   ∀{H:Type} {enc:TypeId×Value→H} {w:World} {base:Nat} {spare:Nat→Bool} {held:Bool} {fuel:Nat} {cs:List Value} {x:DataW H×List MemPlace},DataW.trod enc P w base spare held fuel t cs=some x→∃l:List α,l.length=m∧(∀a∈l,ok a)∧aC ν (iI w) w (l.map g) cs:=by
 intro H enc w base spare held fuel cs x hx;obtain⟨xs,k,_,_,hl,hx,hf⟩:=DataW.trod_array ht hx;rw[hm] at hl;have each:∀i,∃q:α,i < m→ok q∧∃v,cs[i]? = some v∧rep ν (iI w) w (g q) v:=by
   intro i
   by_cases hi:i < m
   · have h2:=hf i hi;rw[hc,Nat.mul_one,List.getElem?_eq_getElem (by omega)] at h2
     obtain⟨y,g0,g1⟩:=he.ap h2;simp only[aC] at g1;obtain⟨u,us,e1,e2,rfl⟩:=g1;have h3:((cs.drop i).take 1)[0]? = some u:=by rw[e1];rfl
     exact⟨y,fun _=>⟨g0,u,by simpa using h3,e2⟩⟩
   · exact⟨default,fun h=>absurd h hi⟩
 obtain⟨q,hq⟩:=Classical.axiomOfChoice each;refine⟨(List.range m).map q,by simp,?_,?_⟩
 · intro y hy;simp only[List.mem_map,List.mem_range] at hy;obtain⟨i,hi,rfl⟩:=hy;exact(hq i hi).1
 have kQ:cs=(List.range m).map fun i=>cs.getD i undef:=by
   apply List.ext_getElem;{simp[hl]};{intro i h1 h2;simp[h1]}
 rw[kQ,List.map_map];refine tj _ _ _ fun i hi=>?_;obtain⟨_,v,h1,h2⟩:=hq i (List.mem_range.mp hi);simp only[Function.comp,List.getD_eq_getElem?_getD,h1,Option.getD_some];exact h2
end
end Sm
