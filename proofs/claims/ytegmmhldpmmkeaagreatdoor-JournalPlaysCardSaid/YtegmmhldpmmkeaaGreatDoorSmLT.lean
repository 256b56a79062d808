/-
  So1
-/
import Derived.Test.YtegmmhldpmmkeaaGreatDoorSmLS
import Derived.Shelf.SlSortCmp.Whole1
set_option linter.unusedVariables false
set_option linter.unusedSimpArgs false
namespace Sm
open Go Go.Proofs Go.Sort
structure rL (P:Program) (n:Nat):Prop where
 non:∀(p:Option Addr) (cap:Nat) (fv:Value) (w:World),Calls P n #[.slice p 0 cap,fv] w fun e w'=>e = .returned (.tuple #[])∧w'=w
 srt:∀{α:Type} [Inhabited α] (enc:α→Value) (_:OneCell enc) (cf:α→α→Int) (_:SWO (ltOf cf)) (g:Nat) (cb:Array Value) (Ja off cap:Nat) (d:Array α) (w:World)
   (_:∀args w,(callFunc g args).run P w = .ok (.enter g args) w) (_:CmpLays1 P g cb enc cf Ja off d.size w) (_:Holds enc w Ja off d) (_:Ja < w.heap.size) (_:d.size < 4611686018427387904),
   Calls P n #[.slice (some ⟨Ja,off,none⟩) d.size cap,.func (.func g) #[] cb] w fun e w' =>
     e = .returned (.tuple #[])∧∃d' n os,PermIn 0 d.size d d'∧SortedIn (ltOf cf) 0 d.size d'∧w'=sortWorld enc w Ja off n d' os
theorem Jb{α:Type}[Inhabited α]{enc:α→Value}{w:World}{b m:Nat}{d:Array α}{os:Array Obj}{us:Array Value}{T:TypeId}{fr:Nat×Nat}(hb:w.heap[b]? = some (.cells us T fr)) :
   (sortWorld enc w b 0 m d os).heap[b]? = some (.cells (putCells enc 0 d us) T fr):=by
 have bN:b < w.heap.size:=jq hb;rw[sortWorld,heap_grow_old _ _ (by simpa using bN)]
 show ((Sort.ahead w m).heap.modify b _)[b]? = _;rw[Array.getElem?_modify];simp only[if_true];show (w.heap[b]?).map _=_;rw[hb];rfl
theorem qt{α:Type}[Inhabited α]{enc:α→Value}{w:World}{b c m:Nat}{d:Array α}{os:Array Obj}(hc:c < w.heap.size)(h:c≠b):(sortWorld enc w b 0 m d os).heap[c]? = w.heap[c]? := by
 rw[sortWorld,heap_grow_old _ _ (by simpa using hc)]
 show ((Sort.ahead w m).heap.modify b _)[c]? = _;rw[Array.getElem?_modify,if_neg (fun e=>h e.symm)];rfl
theorem Jc{α:Type}[Inhabited α](enc:α→Value)(F:Array α)(us:Array Value)(h:F.size≤us.size):(putCells enc 0 F us).toList=F.toList.map enc++us.toList.drop F.size:=by
 apply List.ext_getElem?;intro i;simp only[putCells,Array.getElem?_toList,Array.getElem?_mapIdx,Nat.zero_le,true_and,Nat.zero_add,Nat.sub_zero]
 by_cases hi:i < F.size
 · rw[List.getElem?_append_left (by simpa using hi),List.getElem?_map,Array.getElem?_toList,Array.getElem?_eq_getElem (by omega:i < us.size),Array.getElem?_eq_getElem hi]
   simp[hi]
 · rw[List.getElem?_append_right (by simpa using hi),List.getElem?_drop,Array.getElem?_toList]
   rw[show F.size+(i - (F.toList.map enc).length)=i by simp;omega]
   cases us[i]? <;> simp[hi]
theorem sL{ν:Nat→Option Nat}{K:Nat→Nat}{w:World}:∀{l:List (List UInt8)} {us:List Value},aC ν K w (l.map S) us↔us=l.map (fun p => .string ⟨p.toArray⟩)
 | [],us=>by simp[aC]
 | p::l,us=>by
   simp only[List.map_cons,aC,rep];constructor;{rintro⟨u,dr,rfl,rfl,h⟩;rw[sL.mp h]};{rintro rfl;exact⟨_,_,rfl,rfl,sL.mpr rfl⟩}
theorem Bf{code:Nat→SF}(L Q:ai code){gs gc:Nat}(hQ:Part L Q gc)(ok:List UInt8→Prop)(hs:∀n,L.ν n=some gs→rL L.P n)
   (lt:List UInt8→List UInt8→Bool) (h1:∀x,ok x→lt x x=false) (h2:∀x y z,ok x→ok y→ok z→lt x y=true→lt y z=true→lt x z=true) (h3:∀x y z,ok x→ok y→ok z→lt x y=false→lt y z=false→lt x z=false)
   (cf:List UInt8→List UInt8→Int) (hcf:∀x y,decide (cf x y < 0)=lt x y)
   (YX:∀x y,ok x→ok y→Spec Q.P Q.ν gc [S x,S y] US fun r _=>r=I (cf x y))
   (l:List (List UInt8)) (mo:∀x∈l,ok x) (b n c:Nat) (zs:List HV) (H:ab) (hb:H b=some (.obj (l.map S++zs))) (hn:l.length=n) (hn2:n < 4611686018427387904) (K:HV→ab→Prop)
   (hk:∀(l':List (List UInt8)) X,l'.Perm l→l'.Pairwise (fun x y=>lt y x=false)→X b=some (.obj (l'.map S++zs))→Fr [b] H X→K (.tu []) X) :
   Spec L.P L.ν gs [.v (.slice (some ⟨b,0,none⟩) n c),.fn gc []] H K:=by
 intro nn Qb w Kk us ao hr;obtain⟨u1,L6,rfl,r1,hr⟩:=hr;obtain⟨u2,us2,rfl,r2,hr⟩:=hr;simp only[aC] at hr;subst hr;simp only[rep] at r1 r2;subst r1;obtain⟨mm,L7,g1,rfl,g3⟩:=r2;simp only[aC] at g3;subst g3;have hS:=hs nn Qb.1;obtain⟨vs,T,v1,v2,v3,v4⟩:=ao.res b _ hb;have bN:=ao.lt hb;have hA:=cB (l.map S).length v3;have hZ:=cC (l.map S).length v3;rw[List.take_left,List.take_take,Nat.min_eq_left (by simp)] at hA
 rw[List.drop_left,List.drop_take,show (l.map S++zs).length - (l.map S).length=zs.length by simp] at hZ
 rw[sL,List.length_map,hn] at hA;cases l with
 | nil =>
   simp only[List.length_nil] at hn;subst hn;refine(hS.non _ _ _ w).mono fun e w' ⟨e1,e2⟩=>?_;subst e2;exact⟨.tuple #[],.tu [],H,Kk,e1,by simp[rep,aC],ao,Ext.refl _ _ _,hk [] H (List.Perm.refl _) List.Pairwise.nil hb (Fr.refl _ _)⟩
 | cons x0 l0 =>
   generalize hle:x0::l0=l at *;have YT:ok x0:=mo x0 (by rw[←hle];simp)
   letI:Inhabited {p:List UInt8 // ok p}:=⟨⟨x0,YT⟩⟩
   let enc:{p:List UInt8 // ok p}→Value:=fun p => .string ⟨p.1.toArray⟩
   have AdP:OneCell enc:=fun x=>rfl
   let ds:List {p:List UInt8 // ok p}:=l.attach.map fun x=>⟨x.1,mo x.1 x.2⟩
   have d1:ds.map (·.1)=l:=by simp[ds]
   have hlen:ds.toArray.size=n:=by simp[ds,hn]
   have VG:=aK v3;have Aem:=Array.length_toList (xs:=vs);have cJ:n≤vs.size:=by
     rw[List.length_take,List.length_append,List.length_map,hn] at VG;omega
   have hen:ds.map enc=vs.toList.take n:=by
     rw[hA]
     conv=>rhs;rw[←d1]
     rw[List.map_map (l:=ds)];rfl
   have hH:Holds enc w b 0 ds.toArray:=by
     intro j hj;rw[hlen] at hj;rw[Nat.zero_add];have Nh:j < ds.length:=by simpa[←hlen] using hj
     constructor
     · simp only[World.cell?,v1,Option.isSome_none,Bool.false_eq_true,if_false];have e2:(ds.map enc)[j]? = vs[j]? := by rw[hen,List.getElem?_take,if_pos hj,Array.getElem?_toList]
       rw[←e2,List.getElem?_map,List.getElem?_eq_getElem Nh];have:ds.toArray[j]! = ds[j]:=by rw[getElem!_pos ds.toArray j (by simpa using Nh)];simp
       rw[this];rfl
     · rw[World.frozen?,v1];simp
   have We:=L.qu mm gc g1;have eg:∀args w,(callFunc mm args).run L.P w = .ok (.enter mm args) w:=by
     intro args w;obtain⟨f,hf,hbd,qM⟩:=We;simp only[callFunc,Sem.run_bind,run_program,Result.andThen_ok,hf,qM,hbd,Bool.false_eq_true,if_false,Sem.run_pure]
   have hgW:∀m (dk:Array {p:List UInt8 // ok p}) os,Grow w Kk (sortWorld enc w b 0 m dk os) Kk:=fun m dk os=>⟨fun _=>Nat.le_refl _,fun c j hj=>by
     have u0:c≠b:=by rintro rfl;omega
     have va:c < w.heap.size:=by
       rcases Nat.lt_or_ge c w.heap.size with h | h;{exact h};{rw[ao.fresh c h] at hj;omega}
     simp only[World.cell?,qt va u0],fun c hc0=>by
     have u0:c≠b:=by rintro rfl;omega
     have va:c < w.heap.size:=by
       rcases Nat.lt_or_ge c w.heap.size with h | h;{exact h};{rw[ao.fresh c h] at hc0;omega}
     exact cS (qt va u0)⟩
   have da:∀m (dk:Array {p:List UInt8 // ok p}) (os:Array Obj),w.heap.size≤(sortWorld enc w b 0 m dk os).heap.size:=fun m dk os=>by
     simp[sortWorld,putRow,mapBlock,Sort.ahead,Sort.grow]
   have va:CmpLays1 L.P mm #[] enc (fun x y=>cf x.1 y.1) b 0 ds.toArray.size w:=by
     intro m os dk _ x y;have h0:dS Q.ν (sortWorld enc w b 0 m dk os) Kk US:=⟨fun b r h=>(by cases h),fun c hc=>ao.fresh c (Nat.le_trans (da m dk os) hc),fun n j hn=>absurd hn (hQ.t n j)⟩
     rw[←hQ.P];refine(YX x.1 y.1 x.2 y.2 mm (hQ.c _ g1) (sortWorld enc w b 0 m dk os) Kk [enc x,enc y] h0 ?_).mono ?_;{refine⟨_,_,rfl,?_,_,_,rfl,?_,rfl⟩<;>simp only[rep]<;>rfl};{rintro e w' ⟨u,h,H',K',q1,q2,q3,q4,q5⟩;subst q5;simp only[rep] at q2;subst q2;exact⟨q1,MK hQ.q q4⟩}
   have hO:SWO (ltOf fun(x y:{p:List UInt8 // ok p})=>cf x.1 y.1):=by
     have e:∀x y:{p:List UInt8 // ok p},ltOf (fun(x y:{p:List UInt8 // ok p})=>cf x.1 y.1) x y=lt x.1 y.1:=fun x y=>hcf _ _;exact⟨fun x=>by rw[e];exact h1 _ x.2,fun x y z=>by rw[e,e,e];exact h2 _ _ _ x.2 y.2 z.2,fun x y z=>by rw[e,e,e];exact h3 _ _ _ x.2 y.2 z.2⟩
   have dI:=hS.srt enc AdP (fun x y=>cf x.1 y.1) hO mm #[] b 0 c ds.toArray w eg va hH bN (by rw[hlen];exact hn2)
   rw[hlen] at dI;refine dI.mono ?_;rintro e w' ⟨e1,d',m,os,p1,p2,rfl⟩;have YY:d'.size=n:=p1.1.trans hlen;have QL:=Jb (enc:=enc) (m:=m) (d:=d') (os:=os) v1;have hg:=hgW m d' os;have HT:aC L.ν Kk (sortWorld enc w b 0 m d' os) ((d'.toList.map (·.1)).map S++zs) ((putCells enc 0 d' vs).toList.take ((d'.toList.map (·.1)).map S++zs).length):=by
     rw[Jc _ _ _ (by rw[YY];exact cJ),YY]
     have e9:(d'.toList.map enc++vs.toList.drop n).take ((d'.toList.map (·.1)).map S++zs).length=d'.toList.map enc++(vs.toList.drop n).take zs.length:=by
       rw[List.take_append,List.take_of_length_le (by simp),show ((d'.toList.map (·.1)).map S++zs).length - (d'.toList.map enc).length=zs.length by simp]
     rw[e9];refine cA ?_ ?_;{rw[sL,List.map_map];rfl};{rw[List.length_map,hn] at hZ;exact hZ.grow hg}
   have gu:((d'.toList.map (·.1)).map S++zs).all HV.one=true:=by
     rw[List.all_append,Bool.and_eq_true];constructor;{rw[List.all_eq_true];intro x hx;obtain⟨y,_,rfl⟩:=List.mem_map.mp hx;rfl};{rw[List.all_append,Bool.and_eq_true] at v4;exact v4.2}
   refine⟨.tuple #[],.tu [],H.bt b (some (.obj ((d'.toList.map (·.1)).map S++zs))),Kk,e1,by simp[rep,aC],⟨fun a r ha=>?_,fun a ha=>ao.fresh a (Nat.le_trans (da m d' os) ha),ao.qD.grow hg⟩,⟨rfl,rfl,rfl,da m d' os,?_,hg,fun a ha hH'=>?_⟩,hk (d'.toList.map (·.1)) _ ?_ ?_ (ab.aB _ _ _) (Fr.set (by simp))⟩
   · by_cases AO:a=b
     · subst AO;rw[ab.aB] at ha;cases ha;exact⟨_,T,QL,v2,HT,gu⟩
     · rw[ab.cK _ _ AO] at ha;exact(ao.res a r ha).move hg (qt (ao.lt ha) AO) rfl
   · intro _;simp only[sortWorld,Sort.grow,putRow,mapBlock,Sort.ahead];omega
   · have AO:a≠b:=by rintro rfl;rw[hH'] at hb;cases hb
     exact⟨qt ha AO,rfl,by rw[ab.cK _ _ AO];exact hH'⟩
   · have hp:=p1.2.2;rw[←hlen] at hp;have e2:d'.extract 0 ds.toArray.size=d':=by rw[hlen,←YY];simp
     have e3:ds.toArray.extract 0 ds.toArray.size=ds.toArray:=by simp
     rw[e2,e3] at hp;have:=hp.map (·.1)
     rwa [d1] at this
   · rw[List.pairwise_map,List.pairwise_iff_getElem];intro i j hi hj A4;have Dt:j < d'.size:=by simpa using hj
     have:=p2 i j (Nat.zero_le _) A4 (by omega)
     rw[getElem!_pos d' i (by omega),getElem!_pos d' j Dt] at this
     have e:∀x y:{p:List UInt8 // ok p},ltOf (fun(x y:{p:List UInt8 // ok p})=>cf x.1 y.1) x y=lt x.1 y.1:=fun x y=>hcf _ _;rw[e] at this;simpa using this
theorem yz{code:Nat→SF}(L:ai code){gs gc:Nat}(hs:∀n,L.ν n=some gs→rL L.P n)(H:ab)(K:HV→ab→Prop)(hk:K (.tu []) H):Spec L.P L.ν gs [.v (.slice none 0 0),.fn gc []] H K:=by
 intro nn Qb w Kk us ao hr;obtain⟨u1,L6,rfl,r1,hr⟩:=hr;obtain⟨u2,us2,rfl,r2,hr⟩:=hr;simp only[aC] at hr;subst hr;simp only[rep] at r1;subst r1;refine((hs nn Qb.1).non _ _ _ w).mono fun e w' ⟨e1,e2⟩=>?_;subst e2;exact⟨.tuple #[],.tu [],H,Kk,e1,by simp[rep,aC],ao,Ext.refl _ _ _,hk⟩
end Sm
