/-
  Y4,Y5,Y6
-/
import Derived.Test.YtegmmhldpmmkeaaGreatDoorSmLH
import Derived.Test.YtegmmhldpmmkeaaGreatDoorSmLI
set_option linter.unusedVariables false
set_option linter.unusedSimpArgs false
namespace Sm
open Go
section
variable {S':aJ} {sl:List (Nat×EV)} {bx:List (Nat×List HV)} {H:ab} {K:Env→ab→Prop} {os:List aF} {d:Nat}
theorem gi{f:UH}{xs:List bj}{hs:List HV}(hx:(M sl bx).cJ xs=some hs)(h:fG f hs H fun r X=>aj S' os (M ((d,.h r)::sl) bx) X K):aj S' (⟨some d,.cH (.m f) xs,none⟩::os) (M sl bx) H K:=by
 rw[bf];simp only[aw.step,hx,iX];refine pO (fun r X hr=>?_) h;rw[cu,dp];exact hr
theorem KG{f:UH}{xs:List bj}{hs:List HV}(hx:(M sl bx).cJ xs=some hs)(h:fG f hs H fun r X=>aj S' os (M sl bx) X K):aj S' (⟨none,.cH (.m f) xs,none⟩::os) (M sl bx) H K:=by
 rw[bf];simp only[aw.step,hx,iX];refine pO (fun r X hr=>?_) h;rw[cu,CC];exact hr
end
theorem kq{α:Type}{l:List α}(hn:l.Nodup){i j:Nat}(hi:i < l.length)(hj:j < l.length)(h:l[i]=l[j]):i=j:=by
 have hp:=List.pairwise_iff_getElem.mp hn;rcases Nat.lt_trichotomy i j with h1 | h1 | h1;{exact absurd h (hp i j hi hj h1)};{exact h1};{exact absurd h.symm (hp j i hj hi h1)}
abbrev sK{α:Type}(key:α→List UInt8)(val:α→HV)(l:List α)(st:List Nat):List oC:=List.zipWith (fun a s=>((.string ⟨(key a).toArray⟩:Value),val a,s)) l st
structure MP {α:Type} (H:ab) (b:Nat) (key:α→List UInt8) (val:α→HV) (l:List α):Prop where
 ob:∃st c,H b=some (.mp (sK key val l st) c)∧st.length=l.length∧st.Nodup∧(∀s∈st,s < c)
 nd:(l.map key).Nodup
section
variable {α:Type} {key:α→List UInt8} {val:α→HV}
theorem MP.fr{H H':ab}{bs:List Nat}{b:Nat}{l:List α}(h:MP H b key val l)(hf:Fr bs H H')(hb:b∉bs):MP H' b key val l:=by
 obtain⟨⟨st,c,h1,h2⟩,h3⟩:=h;exact⟨⟨st,c,hf.get hb h1,h2⟩,h3⟩
theorem MP.new{H:ab}{b:Nat}:MP (H.bt b (some (.mp [] 0))) b key val []:=⟨⟨[],0,ab.aB _ _ _,rfl,List.nodup_nil,by simp⟩,List.nodup_nil⟩
theorem PV(p q:List UInt8):M' true (.string ⟨p.toArray⟩) (.string ⟨q.toArray⟩)=some (p==q):=by
 simp only[M',if_true,Option.some.injEq]
 by_cases h:p=q
 · subst h;rw[(MapKept.bytes_beq _ _).mpr rfl];simp
 · have h1:(p==q)=false:=by simpa using h
   rw[h1,Bool.eq_false_iff];intro h2;have h3:=(MapKept.bytes_beq _ _).mp h2;injection h3 with h3;exact h (by simpa using congrArg Array.toList h3)
def sP(key:α→List UInt8)(l:List α)(x:α):List α:=if l.any (fun a=>key a==key x) then l.map (fun a=>if key a==key x then x else a) else l++[x]
theorem my(p:List UInt8):∀(l:List α) (st:List Nat),st.length=l.length→∀i,l6 true (.string ⟨p.toArray⟩) (sK key val l st) i=some ((l.findIdx? (fun a=>key a==p)).bind fun j=>(l[j]?).map fun a=>(i+j,val a))
 | [],[],_,i=>rfl
 | [],_::_,h,i=>by cases h
 | _::_,[],h,i=>by cases h
 | a::l,s::st,h,i=>by
   have ih:=my p l st (by simpa using h) (i+1)
   simp only[sK,List.zipWith_cons_cons,l6,PV] at ih ⊢;have hc:(p==key a)=(key a==p):=by
     by_cases h:p=key a
     · subst h;rfl
     · have h':¬key a=p:=fun e=>h e.symm;rw[beq_false_of_ne h,beq_false_of_ne h']
   rw[hc,List.findIdx?_cons];cases hk:key a==p
   · simp only[Bool.false_eq_true,if_false,ih];cases hf:List.findIdx? (fun a=>key a==p) l with
     | none=>simp
     | some j =>
       simp only[Option.bind_some,Option.map_some,List.getElem?_cons_succ];cases l[j]? <;> simp;omega
   · simp
theorem lf{α:Type}(f:α→Bool):∀l:List α,(l.findIdx? f).bind (fun j=>l[j]?)=l.find? f
 | []=>rfl
 | a::l=>by
   rw[List.findIdx?_cons,List.find?_cons];cases h:f a;{simp only[Bool.false_eq_true,if_false];rw[←lf f l];cases List.findIdx? f l<;>simp};{simp}
theorem KB{H:ab}{b:Nat}{l:List α}(h:MP H b key val l)(p:List UInt8)(ok agg:Bool)(z:List HV){z':HV}{R:HV→ab→Prop}
   (hk:R (match l.find? (fun a=>key a==p) with
     | some a=>Jr ok (val a) true
     | none=>z') H) (hz:an (Jr ok (sv agg z) false) z'):fG (.CF true ok agg z) [.v (.map (some b)),.v (.string ⟨p.toArray⟩)] H R:=by
 obtain⟨⟨st,c,h1,h2,h3⟩,h4⟩:=h;refine⟨rfl,_,c,h1,?_⟩;rw[my p l st h2 0];rw[←lf] at hk;cases hf:List.findIdx? (fun a=>key a==p) l with
 | none=>rw[hf] at hk;exact⟨z',hz,hk⟩
 | some j =>
   rw[hf] at hk;simp only[Option.bind_some] at hk ⊢;have hj:j < l.length:=(List.findIdx?_eq_some_iff_getElem.mp hf).1;rw[List.getElem?_eq_getElem hj] at hk ⊢;exact hk
theorem uH(x:α)(p:List UInt8)(hx:key x=p):∀(l:List α) (st:List Nat) (j:Nat),st.length=l.length→(sK key val l st).modify j (fun e=>((.string ⟨p.toArray⟩:Value),val x,e.2.2))=sK key val (l.set j x) st
 | [],[],j,_=>by cases j<;>rfl
 | [],_::_,_,h=>by cases h
 | _::_,[],_,h=>by cases h
 | a::l,s::st,0,h=>by simp[sK,hx]
 | a::l,s::st,j+1,h=>by
   have:=uH x p hx l st j (by simpa using h)
   simp only[sK,List.zipWith_cons_cons,List.modify_succ_cons,List.set_cons_succ] at this ⊢;rw[this]
theorem Jq{l:List α}{x:α}{j:Nat}(hn:(l.map key).Nodup)(hj:j < l.length)(hk:key l[j]=key x):l.set j x=l.map (fun a=>if key a==key x then x else a):=by
 apply List.ext_getElem;{simp}
 · intro i h1 h2;have hi:i < l.length:=by simpa using h1
   rw[List.getElem_set,List.getElem_map];split;{rename_i e;subst e;rw[if_pos (by simpa using hk)]}
   · rename_i eJ;have:¬key l[i]=key x:=fun e=>by
       rw[←hk] at e;have:=kq hn (i:=i) (j:=j) (by simpa using hi) (by simpa using hj) (by simpa using e)
       omega
     rw[if_neg (by simpa using this)]
theorem vh{l:List α}{x:α}(hn:(l.map key).Nodup):((sP key l x).map key).Nodup:=by
 unfold sP;split
 · have:(l.map fun a=>if key a==key x then x else a).map key=l.map key:=by
     rw[List.map_map];apply List.map_congr_left;intro a _;simp only[Function.comp];split;{rename_i h;exact(by simpa using h:key a=key x).symm};{rfl}
   rw[this];exact hn
 · rename_i h;rw[List.map_append,List.nodup_append];refine⟨hn,by simp,?_⟩
   rintro a ha b hb rfl;simp only[List.map_cons,List.map_nil,List.mem_cons,List.not_mem_nil,or_false] at hb;obtain⟨y,hy,Cb⟩:=List.mem_map.mp ha;exact h (List.any_eq_true.mpr ⟨y,hy,by simp[Cb,hb]⟩)
theorem Vg{H:ab}{b:Nat}{l:List α}(h:MP H b key val l)(x:α){R:HV→ab→Prop}(hk:∀X,MP X b key val (sP key l x)→Fr [b] H X→R (.v Go.undef) X):fG (.bt true) [.v (.map (some b)),.v (.string ⟨(key x).toArray⟩),val x] H R:=by
 have rI:=vh (x:=x) h.nd;obtain⟨⟨st,c,h1,h2,h3,h5⟩,h4⟩:=h;refine⟨rfl,_,c,h1,?_⟩;rw[my (key x) l st h2 0];cases hf:List.findIdx? (fun a=>key a==key x) l with
 | none =>
   have jJ:l.any (fun a=>key a==key x)=false:=by
     rw[List.any_eq_false];intro a ha;have:=List.findIdx?_eq_none_iff.mp hf a ha;simpa using this
   have e:sP key l x=l++[x]:=by rw[sP,jJ];rfl
   refine hk _ ⟨⟨st++[c],c+1,?_,by simp[h2,e],?_,?_⟩,rI⟩ (Fr.set (by simp))
   · rw[ab.aB,e];congr 2;simp only[sK];rw[List.zipWith_append h2.symm];rfl
   · rw[List.nodup_append];refine⟨h3,by simp,?_⟩
     rintro a ha b hb rfl;simp at hb;have:=h5 a ha;omega
   · intro s hs;rcases List.mem_append.mp hs with hs | hs;{have:=h5 s hs;omega};{simp at hs;omega}
 | some j =>
   obtain⟨hj,Nh,_⟩:=List.findIdx?_eq_some_iff_getElem.mp hf;have hj3:key l[j]=key x:=by simpa using Nh
   have jJ:l.any (fun a=>key a==key x)=true:=List.any_eq_true.mpr ⟨l[j],List.getElem_mem hj,Nh⟩;have e:sP key l x=l.set j x:=by rw[sP,jJ,if_pos rfl,Jq h4 hj hj3]
   simp only[Option.bind_some,List.getElem?_eq_getElem hj,Option.map_some,Nat.zero_add];refine hk _ ⟨⟨st,c,?_,by rw[e];simpa using h2,h3,h5⟩,rI⟩ (Fr.set (by simp))
   rw[ab.aB,uH x (key x) rfl l st j h2,e]
structure Nd (H:ab) (i b:Nat) (key:α→List UInt8) (val:α→HV) (l done:List α):Prop where
 ob:∃st c seen,H b=some (.mp (sK key val l st) c)∧st.length=l.length∧st.Nodup∧(∀s∈st,s < c)∧H i=some (.it (some b) c seen c) ∧
   ∃js:List Nat,js.Nodup∧(∀j∈js,j < l.length)∧seen=js.map (fun j=>st.getD j 0)∧done.map some=js.map fun j=>l[j]?
 nd:(l.map key).Nodup
theorem Nd.fr{H H':ab}{bs:List Nat}{i b:Nat}{l done:List α}(h:Nd H i b key val l done)(hf:Fr bs H H')(hb:b∉bs)(hi:i∉bs):Nd H' i b key val l done:=by
 obtain⟨⟨st,c,seen,h1,h2,h3,h4,h5,h6⟩,h7⟩:=h;exact⟨⟨st,c,seen,hf.get hb h1,h2,h3,h4,hf.get hi h5,h6⟩,h7⟩
theorem Kd{H:ab}{b:Nat}{l:List α}(h:MP H b key val l){R:HV→ab→Prop}(hk:∀i X,H i=none→Nd X i b key val l []→Fr [] H X→R (ptr i) X):fG .PY [.v (.map (some b))] H R:=by
 obtain⟨⟨st,c,h1,h2,h3,h5⟩,h4⟩:=h;refine⟨_,c,h1,fun i hi=>hk i _ hi ⟨⟨st,c,[],?_,h2,h3,h5,ab.aB _ _ _,[],List.nodup_nil,by simp,rfl,rfl⟩,h4⟩ (Fr.new hi)⟩
 have:b≠i:=by rintro rfl;rw[hi] at h1;cases h1
 rw[ab.cK _ _ this];exact h1
theorem HO{l:List α}{st:List Nat}{e:oC}(h:e∈sK key val l st)(hl:st.length=l.length):∃j,∃hj:j < l.length,e=(.string ⟨(key l[j]).toArray⟩,val l[j],st.getD j 0):=by
 obtain⟨j,hj,rfl⟩:=List.getElem_of_mem h;have h1:j < l.length:=by simp[sK] at hj;omega
 refine⟨j,h1,?_⟩;have h2:j < st.length:=by omega
 simp[sK,h2]
theorem xX{l:List α}{st:List Nat}{j:Nat}(hj:j < l.length)(hl:st.length=l.length):(sK key val l st)[j]? = some (.string ⟨(key l[j]).toArray⟩,val l[j],st.getD j 0):=by
 have h2:j < st.length:=by omega
 have h3:j < (sK key val l st).length:=by simp[sK];omega
 rw[List.getElem?_eq_getElem h3];simp[sK,h2]
theorem getD_inj{st:List Nat}(hn:st.Nodup){i j:Nat}(hi:i < st.length)(hj:j < st.length)(h:st.getD i 0=st.getD j 0):i=j:=by
 exact kq hn hi hj (by simpa[List.getD,hi,hj] using h)
theorem Ke{H:ab}{i b:Nat}{l done:List α}(h:Nd H i b key val l done)(yo:i≠b){R:HV→ab→Prop}
   (pU:done.Perm l→R (.tu [.v (.bool false)]) H) (gF:∀a X,a∈l→a∉done→Nd X i b key val l (done++[a])→Fr [i] H X→R (.tu [.v (.bool true),.v (.string ⟨(key a).toArray⟩),val a]) X) :
   fG .UB [ptr i] H R:=by
 obtain⟨⟨st,c,seen,h1,h2,h3,h4,h5,js,j1,j2,j3,j4⟩,h7⟩:=h;have LB:∀j∈js,j < st.length:=fun j hj=>by have:=j2 j hj;omega
 show match H i with
   | some (.it none _ _ _)=>R (.tu [.v (.bool false)]) H
   | some (.it (some m) since seen last)=>_
   | _=>False
 rw[h5];refine⟨_,c,h1,?_,fun e he hn=>?_,fun gO=>?_⟩
 · cases hl:sK key val l st with
   | nil=>exact .inr (.inl rfl)
   | cons e es =>
     refine .inr (.inr ⟨e,by simp,?_⟩)
     obtain⟨j,hj,rfl⟩:=HO (key:=key) (val:=val) (l:=l) (st:=st) (e:=e) (by rw[hl];simp) h2
     refine h4 _ ?_;have:j < st.length:=by omega
     simp[List.getD,this]
 · obtain⟨j,hj,rfl⟩:=HO he h2;have hjn:j∉js:=fun hm=>hn (by rw[j3];exact List.mem_map.mpr ⟨j,hm,rfl⟩)
   have AcX:l[j]∉done:=fun hm=>by
     have h8:some l[j]∈done.map some:=List.mem_map.mpr ⟨_,hm,rfl⟩;rw[j4] at h8;obtain⟨k,hk,gG⟩:=List.mem_map.mp h8;have Jy:=j2 k hk;rw[List.getElem?_eq_getElem Jy] at gG;have:=kq h7 (i:=k) (j:=j) (by simpa using Jy) (by simpa using hj) (by simpa using congrArg (Option.map key) gG)
     subst this;exact hjn hk
   refine gF l[j] _ (List.getElem_mem hj) AcX ⟨⟨st,c,seen++[st.getD j 0],?_,h2,h3,h4,ab.aB _ _ _,js++[j],?_,?_,?_,?_⟩,h7⟩ (Fr.set (by simp))
   · rw[ab.cK _ _ yo.symm];exact h1
   · rw[List.nodup_append];refine⟨j1,by simp,?_⟩
     rintro a ha k hk rfl;simp at hk;subst hk;exact hjn ha
   · intro k hk;rcases List.mem_append.mp hk with hk | hk;{exact j2 k hk};{simp at hk;subst hk;exact hj}
   · rw[List.map_append,←j3];rfl
   · rw[List.map_append,List.map_append,j4];simp[List.getElem?_eq_getElem hj]
 · refine pU ?_;have AcY:∀j,j < l.length→j∈js:=fun j hj=>by
     have hjs:j < st.length:=by omega
     have h8:=gO _ (List.mem_of_getElem? (xX (key:=key) (val:=val) hj h2)) (h4 _ (by simp[List.getD,hjs]))
     simp only at h8;rw[j3] at h8;obtain⟨k,hk,gG⟩:=List.mem_map.mp h8;have:=getD_inj h3 (LB k hk) (by omega) gG
     subst this;exact hk
   have hp:js.Perm (List.range l.length):=by
     rw[List.perm_ext_iff_of_nodup j1 List.nodup_range];intro a;rw[List.mem_range];exact⟨j2 a,AcY a⟩
   have Qn:=hp.map (fun j=>l[j]?);rw[←j4] at Qn;have e:(List.range l.length).map (fun j=>l[j]?)=l.map some:=by
     apply List.ext_getElem;{simp};{intro k h8 h9;simp at h9;simp[h9]}
   rw[e] at Qn;have:=Qn.filterMap id;simpa using this
theorem Kf{H:ab}{i b:Nat}{l done:List α}{a:α}(h:Nd H i b key val l (done++[a])){R:HV→ab→Prop}(hk:R (.tu [.v (.string ⟨(key a).toArray⟩),val a]) H):fG .UD [ptr i] H R:=by
 obtain⟨⟨st,c,seen,h1,h2,h3,h4,h5,js,j1,j2,j3,j4⟩,h7⟩:=h;have eJ:js≠[]:=by rintro rfl;simp at j4
 obtain⟨js',j,rfl⟩:∃js' j,js=js'++[j]:=⟨js.dropLast,js.getLast eJ,(List.dropLast_concat_getLast eJ).symm⟩;have hj:=j2 j (by simp)
 rw[List.map_append,List.map_append] at j4;have j5:=(List.append_inj' j4 rfl).2;simp only[List.map_cons,List.map_nil,List.cons.injEq,and_true,List.getElem?_eq_getElem hj,Option.some.injEq] at j5;rw[List.map_append] at j3;refine⟨b,c,_,st.getD j 0,c,_,(.string ⟨(key l[j]).toArray⟩,val l[j],st.getD j 0),by rw[h5,j3];rfl,h1,?_,by rw[←j5];exact hk⟩
 rw[List.find?_eq_some_iff_getElem];have hjl:j < (sK key val l st).length:=by simp[sK];omega
 have hg:=xX (key:=key) (val:=val) hj h2;rw[List.getElem?_eq_getElem hjl] at hg;refine⟨by simp,j,hjl,by simpa using hg,fun k gG=>?_⟩
 have Jy:k < l.length:=by omega
 have hgk:=xX (key:=key) (val:=val) Jy h2;rw[List.getElem?_eq_getElem (by omega)] at hgk
 simp only[Option.some.injEq] at hgk;rw[hgk];have:st.getD k 0≠st.getD j 0:=fun e=>by
   have:=getD_inj h3 (by omega) (by omega) e
   omega
 simpa using this
end
end Sm
set_option maxRecDepth 10000
set_option maxHeartbeats 1000000
namespace Sm
open Go
theorem KA{S':aJ}{sl:List (Nat×EV)}{bx:List (Nat×List HV)}{H:ab}{K:Env→ab→Prop}{os:List aF}{d:Nat}{x y:bj}{a b:List UInt8}(hx:(M sl bx).hv x=some (S a))(hy:(M sl bx).hv y=some (S b))(hl:a.length+b.length≤9223372036854775807)
   (h:aj S' os (M ((d,.h (S (a++b)))::sl) bx) H K):aj S' (⟨some d,.str .add x y,none⟩::os) (M sl bx) H K:=by
 refine aG rfl ?_ h;have e:(⟨a.toArray⟩:ByteArray)++⟨b.toArray⟩=⟨(a++b).toArray⟩:=by
   apply ByteArray.ext;simp
 simp only[aw.ev,hx,hy,qJ,ByteArray.size,List.size_toArray];rw[if_pos hl,e];rfl
theorem KH{S':aJ}{sl:List (Nat×EV)}{bx:List (Nat×List HV)}{H:ab}{K:Env→ab→Prop}{os:List aF}{d:Nat}{sz bytes:Nat}{x y:bj}{m:Nat}{yv:HV}{ys:List HV}(hx:(M sl bx).hv x=some (.v (.slice none 0 0)))(hy:(M sl bx).hv y=some yv)(hr:mW H sz yv=some (m,ys))(h0:m≠0)(hm:m*bytes≤140737488355328)
   (gG:∀b' c' zs X,H b'=none→m≤c'→c'≤maxLen→zs.length=(c' - m)*sz→zs.all HV.one=true→X b'=some (.obj (ys++zs))→Fr [] H X→aj S' os (M ((d,.h (.v (.slice (some ⟨b',0,none⟩) m c')))::sl) bx) X K) :
   aj S' (⟨some d,.app sz bytes x y,none⟩::os) (M sl bx) H K:=by
 rw[bf];refine .inr ?_;simp only[hx,hy,nW,hr];refine⟨fun h=>absurd h h0,fun _=>⟨hm,fun b' c' zs h1 h2 h3 h4 h5=>?_⟩⟩;dsimp only;rw[cu,dp];exact gG b' c' zs _ h1 h2 h3 h4 h5 (ab.aB _ _ _) (Fr.new h1)
def CV{code:Nat→SF}(L:ai code)(f:HV)(xs:List HV)(H:ab)(K:HV→ab→Prop):Prop:=match f with
 | .fn g cq=>Spec L.P L.ν g (xs++cq) H K
 | .fm g r=>Spec L.P L.ν g (r::xs) H K
 | _=>False
theorem rO{code:Nat→SF}(L:ai code){sl:List (Nat×EV)}{bx:List (Nat×List HV)}{H:ab}{K:Env→ab→Prop}{os:List aF}{d:Nat}{x:bj}{f:HV}{args:List bj}{hs:List HV}(hx:(M sl bx).hv x=some f)(ha:(M sl bx).cJ args=some hs)
   (h:CV L f hs H fun r H'=>aj (Spec L.P L.ν) os (M ((d,.h r)::sl) bx) H' K):aj (Spec L.P L.ν) (⟨some d,.er x args,none⟩::os) (M sl bx) H K:=by
 unfold CV at h;split at h;{exact oP hx ha h};{exact PU hx ha h};{exact h.elim}
theorem zm{S':aJ}{sl:List (Nat×EV)}{bx:List (Nat×List HV)}{H:ab}{K:Env→ab→Prop}{os:List aF}{d:Nat}{x:bj}{tk:Tk}{l:List UInt8}(hx:(M sl bx).hv x=some (.sl tk 1 (l.map U)))(h:aj S' os (M ((d,.h (S l))::sl) bx) H K):aj S' (⟨some d,.JN x,none⟩::os) (M sl bx) H K:=by
 refine aG rfl ?_ h;simp only[aw.ev,hx,show gY (l.map U)=some l from qK l];rfl
theorem Qk{S':aJ}{sl:List (Nat×EV)}{bx:List (Nat×List HV)}{H:ab}{K:Env→ab→Prop}{os:List aF}{d:Nat}{x:bj}{l:List UInt8}(hx:(M sl bx).hv x=some (S l))(hl:l.length≤140737488355328)(h:aj S' os (M ((d,.h (.sl .no 1 (l.map U)))::sl) bx) H K):aj S' (⟨some d,.nd .ZA [x],none⟩::os) (M sl bx) H K:=
 AH (hs:=[S l]) (by simp[Env.cJ,hx]) (fun R hR=>by
   simp only[rv];exact⟨by simpa[ByteArray.size] using hl,by
     have e:bP ⟨l.toArray⟩=l.map U:=by simp[bP,gL]
     rw[e];exact hR⟩) h
section
variable {α:Type} {key:α→List UInt8} {val:α→HV}
theorem wx:∀(l:List α) (st:List Nat) (j:Nat),st.length=l.length→(sK key val l st).eraseIdx j=sK key val (l.eraseIdx j) (st.eraseIdx j)
 | [],[],j,_=>by cases j<;>rfl
 | [],_::_,_,h=>by cases h
 | _::_,[],_,h=>by cases h
 | a::l,s::st,0,h=>rfl
 | a::l,s::st,j+1,h=>by
   have:=wx l st j (by simpa using h)
   simp only[sK,List.zipWith_cons_cons,List.eraseIdx_cons_succ] at this ⊢;rw[this]
theorem erase_filter{l:List α}{p:List UInt8}{j:Nat}(hn:(l.map key).Nodup)(hj:j < l.length)(hk:key l[j]=p):l.eraseIdx j=l.filter (fun a=>!(key a==p)):=by
 have Zt:l=l.take j++l[j]::l.drop (j+1):=by
   rw[←List.drop_eq_getElem_cons hj,List.take_append_drop]
 rw[List.eraseIdx_eq_take_drop_succ]
 conv=>rhs;rw[Zt]
 rw[List.filter_append,List.filter_cons_of_neg (by simp[hk])]
 have eJ:∀i (hi:i < l.length),i≠j→key l[i]≠p:=fun i hi A4 he=>A4 (kq hn (i:=i) (j:=j) (by simpa using hi) (by simpa using hj) (by simpa[hk] using he))
 congr 1
 · symm
   rw[List.filter_eq_self];intro a ha;obtain⟨i,hi,rfl⟩:=List.getElem_of_mem ha;have Oh:i < j:=by rw[List.length_take] at hi;omega
   rw[List.getElem_take];simpa using eJ i (by omega) (by omega)
 · symm
   rw[List.filter_eq_self];intro a ha;obtain⟨i,hi,rfl⟩:=List.getElem_of_mem ha;rw[List.length_drop] at hi;rw[List.getElem_drop];simpa using eJ (j+1+i) (by omega) (by omega)
theorem Vf{H:ab}{b:Nat}{l:List α}(h:MP H b key val l)(p:List UInt8){R:HV→ab→Prop}(hk:∀X,MP X b key val (l.filter (fun a=>!(key a==p)))→Fr [b] H X→R (.tu []) X):fG (.del true) [.v (.map (some b)),.v (.string ⟨p.toArray⟩)] H R:=by
 have rI:((l.filter (fun a=>!(key a==p))).map key).Nodup:=List.Nodup.sublist (List.filter_sublist.map _) h.nd;obtain⟨⟨st,c,h1,h2,h3,h5⟩,h4⟩:=h;refine⟨rfl,_,c,h1,?_⟩;rw[my p l st h2 0];cases hf:List.findIdx? (fun a=>key a==p) l with
 | none =>
   have Mh:=List.findIdx?_eq_none_iff.mp hf;have e:l.filter (fun a=>!(key a==p))=l:=List.filter_eq_self.mpr fun a ha=>by simpa using Mh a ha
   refine hk _ ⟨⟨st,c,?_,by rw[e];exact h2,h3,h5⟩,rI⟩ (Fr.set (by simp))
   rw[ab.aB,e]
 | some j =>
   obtain⟨hj,Nh,_⟩:=List.findIdx?_eq_some_iff_getElem.mp hf;have hj3:key l[j]=p:=by simpa using Nh
   have e:=erase_filter h4 hj hj3;simp only[Option.bind_some,List.getElem?_eq_getElem hj,Option.map_some,Nat.zero_add];refine hk _ ⟨⟨st.eraseIdx j,c,?_,?_,h3.sublist (List.eraseIdx_sublist _ _),fun s hs=>h5 s ((List.eraseIdx_sublist _ _).mem hs)⟩,rI⟩ (Fr.set (by simp))
   · rw[ab.aB,wx l st j h2,e]
   · rw[←e,List.length_eraseIdx,List.length_eraseIdx,h2]
theorem UZ{H:ab}{b t:Nat}{l:List α}(h:MP H b key val l){R:HV→ab→Prop}(hk:∀m X,H m=none→MP X m key val l→Fr [] H X→R (.v (.iface t (.map (some m)))) X):fG .IQ [.v (.iface t (.map (some b)))] H R:=by
 obtain⟨⟨st,c,h1,h2⟩,h4⟩:=h;exact⟨_,c,h1,fun m hm=>hk m _ hm ⟨⟨st,c,ab.aB _ _ _,h2⟩,h4⟩ (Fr.new hm)⟩
theorem MP.held{H:ab}{b:Nat}{l:List α}(h:MP H b key val l):∃r,H b=some r:=by
 obtain⟨⟨st,c,h1,_⟩,_⟩:=h;exact⟨_,h1⟩
end
theorem AI{α:Type}[DecidableEq α]:∀{a b:List α},a.Nodup→a ⊆ b→a.length≤b.length
 | [],b,_,_=>Nat.zero_le _
 | x::a,b,hn,hs=>by
   have hx:x∈b:=hs (by simp)
   rw[List.nodup_cons] at hn;have h1:a ⊆ b.erase x:=fun y hy=>(List.mem_erase_of_ne (fun e=>hn.1 (by rw[←e];exact hy))).mpr (hs (by simp[hy]))
   have h2:=AI hn.2 h1;rw[List.length_erase_of_mem hx] at h2;have:=List.length_pos_of_mem hx;simp;omega
theorem Nd.len{α:Type}{key:α→List UInt8}{val:α→HV}{H:ab}{i b:Nat}{l done:List α}(h:Nd H i b key val l done):done.length≤l.length:=by
 obtain⟨⟨st,c,seen,h1,h2,h3,h4,h5,js,j1,j2,j3,j4⟩,h7⟩:=h;have e:=congrArg List.length j4;simp only[List.length_map] at e;rw[e];have:=AI j1 (b:=List.range l.length) (fun j hj=>List.mem_range.mpr (j2 j hj));simpa using this
theorem Nd.ne{α:Type}{key:α→List UInt8}{val:α→HV}{H:ab}{i b:Nat}{l done:List α}(h:Nd H i b key val l done):i≠b:=by
 obtain⟨⟨st,c,seen,h1,h2,h3,h4,h5,_⟩,h7⟩:=h;rintro rfl;rw[h1] at h5;cases h5
theorem wQ{α:Type}(f:α→Nat)(m:Nat):∀{l:List α},(∀a∈l,f a≤m)→(l.map f).sum≤l.length*m
 | [],_=>by simp
 | a::l,h=>by
   have h1:=h a (by simp)
   have h2:=wQ f m (l:=l) (fun b hb=>h b (by simp[hb]))
   rw[List.map_cons,List.sum_cons,List.length_cons,Nat.add_mul];omega
theorem kh.length{b:Nat}{cs:List HV}:∀{xs ys:List HV},kh b cs xs ys→xs.length=ys.length
 | [],[],_=>rfl
 | x::xs,y::ys,h=>by simp[kh.length h.2]
 | [],_::_,h=>h.elim
 | _::_,[],h=>h.elim
theorem FW.ag{b:Nat}{cs xs ys:List HV}(h:kh b cs xs ys)(h1:ys.all HV.one=true):FW b cs (.ag xs) (.ag ys):=fun ν K w u f hr=>by
 simp only[Sm.rep] at hr ⊢;obtain⟨us,e,_,h3⟩:=hr;exact⟨us,e,h1,h.rep f h3⟩
theorem FW.sl{b:Nat}{cs:List HV}{tk:Tk}{sz:Nat}{xs ys:List HV}(h:kh b cs xs ys)(h1:ys.all HV.el=true)(h2:∀e∈ys,e.aN=sz):FW b cs (.sl tk sz xs) (.sl .no sz ys):=fun ν K w u f hr=>by
 simp only[Sm.rep] at hr ⊢;obtain⟨A,cap,aR,e,g1,g2,g3,g4,g5,g6,g7⟩:=hr;have hl:=h.length;refine⟨A,cap,aR,by rw[e,hl],by omega,g2,T_,h1,h2,h.rep f g6,?_⟩
 rcases g7 with g7 | ⟨b,off,k1,k2,k3⟩;{left;subst g7;exact List.length_eq_zero_iff.mp hl.symm};{right;exact⟨b,off,k1,by rw[←hl];exact k2,k3⟩}
structure Own (H H':ab) (bs rz:List Nat):Prop where
 fr:Fr bs H H'
 nw:∀a∈rz,a∈bs∨H a=none
theorem Own.trans{H X Y:ab}{b0 b1 b2:List Nat}(h:Own H X b0 b1)(k:Own X Y b1 b2):Own H Y b0 b2:=by
 refine⟨fun a r ha hr=>?_,fun a ha=>?_⟩;{refine k.fr a r (fun hm=>?_) (h.fr a r ha hr);rcases h.nw a hm with h1 | h1;{exact ha h1};{rw[h1] at hr;cases hr}}
 · rcases k.nw a ha with h1 | h1;{exact h.nw a h1}
   · by_cases hb:a∈b0
     · exact .inl hb
     · cases hx:H a with
       | none=>exact .inr rfl
       | some r=>rw[h.fr a r hb hx] at h1;cases h1
theorem Own.refl(H:ab)(bs:List Nat):Own H H bs bs:=⟨Fr.refl _ _,fun _ h => .inl h⟩
theorem Own.of{H X:ab}(bs:List Nat)(h:Fr [] H X):Own H X bs bs:=⟨h.mono (by simp),fun _ h => .inl h⟩
theorem Own.set{H X:ab}{bs cs:List Nat}(h:Fr cs H X)(hs:∀a∈cs,a∈bs):Own H X bs bs:=⟨h.mono hs,fun _ h => .inl h⟩
theorem Own.get{H X:ab}{bs rz:List Nat}(h:Own H X bs rz){a:Nat}{r:rq}(ha:a∉bs)(hr:H a=some r):X a=some r:=h.fr.get ha hr
theorem Own.apart{H X:ab}{bs rz:List Nat}(h:Own H X bs rz){a:Nat}{r:rq}(ha:a∉bs)(hr:H a=some r):a∉rz:=fun hm=>by
 rcases h.nw a hm with h1 | h1;{exact ha h1};{rw[h1] at hr;cases hr}
theorem Own.ahead{H X Y:ab}{bs rz:List Nat}{c:Nat}(hc:H c=none)(hf:Fr [] H X)(h:Own X Y (c::bs) rz):Own H Y bs rz:=by
 refine⟨fun a r ha hr=>?_,fun a ha=>?_⟩
 · refine h.fr a r (fun hm=>?_) (hf.get (by simp) hr)
   rcases List.mem_cons.mp hm with rfl | hm;{rw[hc] at hr;cases hr};{exact ha hm}
 · rcases h.nw a ha with h1 | h1;{rcases List.mem_cons.mp h1 with rfl | h1;{exact .inr hc};{exact .inl h1}}
   · refine .inr ?_;cases hx:H a with
     | none=>rfl
     | some r=>rw[hf.get (by simp) hx] at h1;cases h1
theorem Fr.bM{H X:ab}{c:Nat}(h:Fr [] H X)(hc:X c=none):H c=none:=by
 cases hx:H c with
 | none=>rfl
 | some r=>rw[h.get (by simp) hx] at hc;cases hc
theorem yu{code:Nat→SF}{L:ai code}{g:Nat}{cq xs:List HV}{H:ab}{K:HV→ab→Prop}(h:Spec L.P L.ν g (xs++cq) H K):CV L (.fn g cq) xs H K:=h
end Sm
