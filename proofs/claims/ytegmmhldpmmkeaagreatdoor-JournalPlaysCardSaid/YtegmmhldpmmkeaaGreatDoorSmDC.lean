/-
  D15,D16,D17
-/
import Derived.Test.YtegmmhldpmmkeaaGreatDoorSmDB
import Derived.Test.YtegmmhldpmmkeaaGreatDoorSmLT
import Derived.Test.YtegmmhldpmmkeaaGreatDoorSmTC
set_option linter.unusedVariables false
set_option linter.unusedSimpArgs false
set_option maxRecDepth 10000
set_option maxHeartbeats 1000000
namespace Sm
open Go
def TS(H X:ab)(v:HV)(l:List (List UInt8)):Prop:=(v = .v (.slice none 0 0)∧l=[]) ∨
 ∃a c zs,v = .v (.slice (some ⟨a,0,none⟩) l.length c)∧X a=some (.obj (l.map S++zs))∧l.length≤c∧c≤maxLen∧H a=none
structure Cl (L:ai code) where
 cl:∀(c b:Nat) (l:List Nm) (H:ab) (K:HV→ab→Prop),H c=some (.obj [.v (.map (some b))])→PM H b l→l.length≤1048576→(∀n∈l,n.path.length≤1048576) →
   (∀v ss X,ss.Perm (l.map Nm.path)→TS H X v ss→Fr [] H X→K v X)→Spec L.P L.ν 90 [.fn 369 [ptr c]] H K
 s1:∀n,L.ν n=some 362→rL L.P n
 Q:ai code
 pt:Part L Q 363
theorem Kj(x y z:List UInt8)(h1:ck x y=false)(h2:ck y z=false):ck x z=false:=by
 by_cases e1:x=y
 · subst e1;exact h2
 by_cases e2:y=z
 · subst e2;exact h1
 have h3:=jj h1 e1;have h4:=jj h2 e2;cases h:ck x z;{rfl};{have:=ik (ik h h4) h3;rw[ko] at this;cases this}
def OK(x y:List UInt8):Int:=if ck x y then -1 else if ck y x then 1 else 0
theorem U4(x y:List UInt8):decide (OK x y < 0)=ck x y:=by
 unfold OK;cases h1:ck x y;{cases h2:ck y x<;>rfl};{rfl}
theorem H8:∀{a b:List (List UInt8)},a.Perm b→a.Pairwise (fun x y=>ck y x=false)→b.Pairwise (fun x y=>ck x y=true)→a=b:=by
 intro a b hp ha hb;have rF:b.Nodup:=hb.imp fun {x y} h e=>by rw[e,ko] at h;cases h
 have han:a.Nodup:=hp.nodup_iff.mpr rF;have ha2:a.Pairwise (fun x y=>ck x y=true):=by
   refine(List.Pairwise.and ha han).imp fun {x y} h=>?_;exact jj (by
     cases hc:ck x y;{exact absurd (jj hc h.2) (by rw[h.1];decide)}
     · exact h.1) (fun e=>h.2 e.symm) |> fun h'=>by
       cases hc:ck x y;{exact absurd (jj hc h.2) (by rw[h.1];decide)};{rfl}
 exact hp.eq_of_pairwise (fun x y _ _ h1 h2=>by have:=ik h1 h2;rw[ko] at this;cases this) ha2 hb
attribute [local irreducible] aH aj aX bk aA aL bn DK RK JK BR G3 bh Spec Tok Fr CV
theorem H9(L:ai code)(x y:List UInt8)(hx:x.length≤1048576)(hy:y.length≤1048576)(H:ab)(K)(hk:∀X,Fr [] H X→K (I (OK x y)) X):Spec L.P L.ν 363 [S x,S y] H K:=by
 unfold OK at hk;refine ah L Dj rfl ?_;refine K_ aI ?_;refine vj L x y hx hy H _ fun X1 f1=>?_;refine J_ aI ?_;cases c1:ck x y
 case true =>
   rw[c1] at hk;refine J_ aI ?_;exact aa (hk X1 f1)
 rw[c1] at hk;simp only[Bool.false_eq_true,if_false] at hk;refine K_ aI ?_;refine vj L y x hy hx X1 _ fun X2 f2=>?_;refine J_ aI ?_;cases c2:ck y x
 case true =>
   rw[c2] at hk;refine J_ aI ?_;exact aa (hk X2 (f1.trans f2))
 rw[c2] at hk;simp only[Bool.false_eq_true,if_false] at hk;refine J_ aI ?_;exact aa (hk X2 (f1.trans f2))
theorem Kl{L:ai code}{g:Nat}{args:List HV}{H:ab}{Q Q':HV→ab→Prop}(hq:∀r X,Q r X→Q' r X)(h:Spec L.P L.ν g args H Q):Spec L.P L.ν g args H Q':=mY hq h
theorem qO(L:ai code)(C:Cl L)(b:Nat)(h:Hd)(d:Dk)(n m:Nat)(hw:d.WF n m)(hn:n < 1048576)(H:ab)(hD:KD H b h d)(K)(hk:∀X,Fr [] H X→K (.sl .no 1 ((d.now.map Nm.path).map S)) X):Spec L.P L.ν 331 [ptr b] H K:=by
 have ob:=hD.ob;have hlen:d.now.length≤n:=hw.eT;have mo:∀x∈d.now.map Nm.path,x.length≤1048576:=fun x hx=>by
   obtain⟨y,hy,rfl⟩:=List.mem_map.mp hx;have:=mi (hw.ei y hy).2.2;omega
 have hsr:(d.now.map Nm.path).Pairwise (fun x y=>ck x y=true):=List.pairwise_map.mpr hw.eh;refine Spec.dB ?_;refine ah L Dl rfl ?_;refine K_ aI ?_;refine Kl (Q:=fun r X=>∃c,H c=none∧r = .fn 369 [ptr c]∧X c=some (.obj [.v (.map (some h.mn))])∧Fr [] H X) ?_ ?_
 rotate_left
 · refine ah L Dm rfl ?_;refine J_ aI ?_;refine AM aI ?_;intro c X hc xc fc _;refine J_ aI ?_;exact aa ⟨c,hc,rfl,xc,fc⟩
 rintro r X1 ⟨c,hc,rfl,xc,f1⟩;have oy:=hD.dt f1;refine K_ aI ?_;refine C.cl c h.mn d.now X1 _ xc oy.no (by omega) (fun x hx=>mo _ (List.mem_map_of_mem hx)) fun v ss X2 hp hT f2=>?_
 have Zx:=f1.trans f2;refine J_ aI ?_;rcases hT with⟨rfl,rfl⟩ | ⟨a,cc,zs,rfl,ha,HW,A5,hc3⟩;{have hz:d.now.map Nm.path=[]:=List.nil_perm.mp hp;refine K_ aI ?_;refine yz L C.s1 X2 _ ?_;refine J_ aI ?_;refine aa (.inr (.inl ⟨_,an.dO 1,?_⟩));have:=hk X2 Zx;rw[hz] at this;exact this}
 · have hl:=hp.length_eq;rw[List.length_map] at hl;refine K_ aI ?_;refine Bf L C.Q C.pt (fun x=>x.length≤1048576) C.s1 ck (fun x _=>ko x) (fun x y z _ _ _=>ik) (fun x y z _ _ _=>Kj x y z) OK U4 (fun x y hx hy=>H9 C.Q x y hx hy US _ fun X _=>rfl) ss (fun x hx=>mo x (hp.mem_iff.mp hx)) a ss.length cc zs X2 ha rfl (by omega) _ fun l' X3 hp' eP h3 f3=>?_
   have he:l'=d.now.map Nm.path:=H8 (hp'.trans hp) eP hsr;subst he;refine J_ aI ?_;refine aa (.inr (.inr ⟨a,_,_,h3,FW.slice (sz:=1) (es:=(d.now.map Nm.path).map S) ?_ ?_ ?_ HW A5 ?_ ?_,?_⟩));{have e1:((d.now.map Nm.path).map S).flatMap HV.cells=(d.now.map Nm.path).map S:=Km _;rw[e1,List.take_append_of_le_length (by simp[hl]),List.take_of_length_le (by simp[hl])]};{simp[hl]};{simp[hl]};{rw[List.all_eq_true];intro x hx;obtain⟨y,_,rfl⟩:=List.mem_map.mp hx;rfl};{intro x hx;obtain⟨y,_,rfl⟩:=List.mem_map.mp hx;rfl};{refine hk _ ?_;have ha2:X1 a=none:=hc3;have f13:Fr [] X1 (X3.bt a none):=Fr.dB (f2.own ha2 f3) ha2;exact f1.trans f13}
end Sm
namespace Sm
open Go
def gSl(tk:Tk)(sz:Nat):List HV→HV
 | [] => .v (.slice none 0 0)
 | x::l => .sl tk sz (x::l)
theorem Kn(tk:Tk)(sz:Nat)(es:List HV):an (gSl tk sz es) (.sl .no sz es):=by
 cases es with
 | nil=>exact an.dO sz
 | cons x l=>exact an.drop _ _ _
theorem Dn{S':aJ}{sl:List (Nat×EV)}{bx:List (Nat×List HV)}{H:ab}{K:Env→ab→Prop}{os:List aF}{d sz bytes:Nat}{x y:bj}{tk yA:Tk}{es:List HV}{e:HV}(ht:Tok H tk es.length sz)(hn:es=[]→tk = .full)(hx:(M sl bx).hv x=some (gSl tk sz es))(hy:(M sl bx).hv y=some (.sl yA sz [e]))(hl:(es.length+1)*bytes≤140737488355328)
   (hk:∀fC X,Jx H X tk fC→Tok X fC (es++[e]).length sz→aj S' os (M ((d,.h (gSl fC sz (es++[e])))::sl) bx) X K):aj S' (⟨some d,.app sz bytes x y,none⟩::os) (M sl bx) H K:=by
 cases es with
 | nil =>
   have e1:=hn rfl;subst e1;exact Ko hx hy (by simpa using hl) (fun h0=>by cases h0) fun fC X _ h1 h2=>hk fC X h2 h1
 | cons a l =>
   refine vk hx hy (by simpa using ht) (by simpa using hl) fun fC X h1 h2=>?_
   exact hk fC X h2 (by simpa using h1)
theorem CB.fr{H X:ab}{bs:List Nat}{v:HV}{l:List UInt8}(h:CB H v l)(hf:Fr bs H X)(hb:∀a∈eI v,a∉bs):CB X v l:=by
 rcases h with h | h | ⟨a,c,zs,rfl,h,h2⟩;{exact .inl h};{exact .inr (.inl h)};{exact .inr (.inr ⟨a,c,zs,rfl,hf.get (hb a (by simp[eI])) h,h2⟩)}
theorem CB.held{H:ab}{v:HV}{l:List UInt8}(h:CB H v l):∀a∈eI v,∃cs,H a=some (.obj cs):=by
 rcases h with⟨rfl,_⟩ | ⟨rfl,_⟩ | ⟨a,c,zs,rfl,h,_⟩;{simp[eI]};{simp[eI]};{intro x hx;simp only[eI,List.mem_singleton] at hx;subst hx;exact⟨_,h⟩}
def iH(x:Eo):HV:=.ag (cO x)
def EB(H X:ab)(l:List Eo):Prop:=∀x∈l,CB X x.v x.e.data∧∀a∈eI x.v,H a=none
theorem EB.fr{H X Y:ab}{bs:List Nat}{l:List Eo}(h:EB H X l)(hf:Fr bs X Y)(hb:∀a∈bs,∀cs,X a≠some (.obj cs)):EB H Y l:=fun x hx=>by
 obtain⟨h1,h2⟩:=h x hx;refine⟨h1.fr hf fun a ha hm=>?_,h2⟩;obtain⟨cs,hc⟩:=h1.held a ha;exact hb a hm cs hc
def ED(l:List Eo):Prop:=l.Pairwise fun x y=>∀a∈eI x.v,a∉eI y.v
theorem ED.push{H X:ab}{l:List Eo}{y:Eo}(h:ED l)(he:EB H X l)(hy:∀a∈eI y.v,X a=none):ED (l++[y]):=by
 unfold ED;rw[List.pairwise_append];refine⟨h,List.pairwise_singleton _ _,fun x hx z hz a ha hm=>?_⟩;rw[List.mem_singleton] at hz;subst hz;obtain⟨cs,hc⟩:=(he x hx).1.held a ha;rw[hy a hm] at hc;cases hc
def nH(f:List Fl)(n:Nm):ry:=⟨n.path,n.dir,if n.dir then [] else (f.getD n.id default).b⟩
theorem rM(d:Dk):d.list=if d.down then [] else d.now.map (nH d.f):=rfl
attribute [local irreducible] aH aj aX bk aA aL bn DK RK JK BR G3 bh Spec Tok Fr CV
theorem od(L:ai code)(C:Cl L)(b:Nat)(h:Hd)(d:Dk)(n m:Nat)(hw:d.WF n m)(hn:n < 1048576)(hm:m≤140737488355328)(H:ab)(hD:KD H b h d)(K)(hk:∀im X,im.map Eo.e=d.list→EB H X im→ED im→Fr [] H X→K (.sl .no 3 (im.map iH)) X):Spec L.P L.ν 312 [ptr b] H K:=by
 rw[rM] at hk;refine ah L Dp rfl ?_;refine K_ aI ?_;refine il L b h d H hD _ fun X1 f1=>?_;have oy:=hD.dt f1;cases c1:d.down
 case true =>
   rw[if_pos c1] at hk;refine J_ aI ?_;exact b7 (an.dO 3) (hk [] X1 rfl (by simp[EB]) List.Pairwise.nil f1)
 rw[if_neg (by simp[c1])] at hk
 simp only[Bool.false_eq_true,if_false];refine K_ aI ?_;refine qO L C b h d n m hw hn X1 oy _ fun X2 f2=>?_;have f12:=f1.trans f2;have hlen:=hw.eT;refine J_ aI ?_;refine aV (ak L) (fun(q:Nat×Tk×List Eo)=>[(0,.h (ptr b)),(3,.h (gSl q.2.1 3 (q.2.2.map iH))),(13,.h (.sl .no 1 ((d.now.map Nm.path).map S))),(14,.h (I d.now.length)),(15,.h (I q.1))]) (fun _=>[])
   (fun q X=>q.1≤d.now.length∧Fr [] H X∧jQ H q.2.1∧EB H X q.2.2∧ED q.2.2∧q.2.2.map Eo.e=(d.now.map (nH d.f)).take q.1∧Tok X q.2.1 (q.2.2.map iH).length 3∧(q.2.2.map iH=[]→q.2.1 = .full)) (fun q=>d.now.length - q.1) (0,.full,[]) ?_ ⟨by simp,f12,by simp[jQ,tb],by simp[EB],List.Pairwise.nil,by simp,Tok.ful _ _ _,fun _=>rfl⟩ ?_
 · (refine bw ?_ ?_ ?_<;>(repeat refine bE aI ?_)<;>exact bA)
 rintro⟨i,tk,im⟩ X ⟨hi,hf,rN,hE,ZJ,hM,ht,so⟩;dsimp only at hi hf rN hE ZJ hM ht so ⊢;have Qd:=hD.dt hf;have obX:=Qd.ob;refine J_ aI ?_;(refine ct aI ?_ ?_<;>intro hc)
 · have fo:i < d.now.length:=by simpa using hc
   have OQ:((d.now.map Nm.path).map S)[i]? = some (S d.now[i].path):=by simp[fo]
   have kR:=List.getElem_mem fo;have hg:=mX hw.eh.nd kR;have mo:=hw.ei _ kR;have Kq:(d.now.map (nH d.f)).take (i+1)=im.map Eo.e++[nH d.f d.now[i]]:=by
     rw[List.take_succ_eq_append_getElem (by simpa using fo),←hM];simp
   have eB:(im.map iH).length=i:=by
     have:=congrArg List.length hM;simp only[List.length_map,List.length_take] at this ⊢;omega
   generalize d.now[i]=x at OQ kR hg mo Kq;refine J_ aI ?_;apply NN Qd.no hw.eh;rfl;rw[hg];refine K_ aI ?_;refine jy L b h d x.path hw.eh (fun x hx=>(hw.ei x hx).2.1) X Qd _ ?_;have U5:bZ d.now x.path=if x.dir then 9 else 0:=by unfold bZ;rw[hg]
   have U6:mc d.now x.path=x.id:=by unfold mc;rw[hg]
   rw[U5,U6];cases c2:x.dir
   case true =>
     have NO:nH d.f x=⟨x.path,true,[]⟩:=by simp[nH,c2]
     simp only[uN,c2];refine J_ aI ?_;refine Dn (es:=im.map iH) (e:=iH ⟨⟨x.path,true,[]⟩,.v (.slice none 0 0)⟩) ht so rfl rfl (by rw[eB];omega) fun fC X' ha ht'=>?_
     have hE':EB H X' (im++[⟨⟨x.path,true,[]⟩,.v (.slice none 0 0)⟩]):=by
       intro y hy;rcases List.mem_append.mp hy with hy | hy;{exact hE.fr ha.fr (fun a OR cs kQ=>absurd rfl (ht.ne' kQ a OR)) y hy};{rw[List.mem_singleton] at hy;subst hy;exact⟨.inl ⟨rfl,rfl⟩,by simp[eI]⟩}
     refine J_ aI ?_;refine dG (i+1,fC,im++[⟨⟨x.path,true,[]⟩,.v (.slice none 0 0)⟩]) (by simp only;omega) ⟨by simp only;omega,hf.Ia rN ha,rN.Ia hf ha,hE',ZJ.push hE (by simp[eI]),by simp only[Kq,NO,List.map_append];rfl,by simpa using ht',by simp⟩ ?_
     exact E_
   have NO:nH d.f x=⟨x.path,false,(d.f.getD x.id default).b⟩:=by simp[nH,c2]
   have hid:=mo.2.1 c2;rw[getD_at hid] at NO;obtain⟨fb,c,zs,nG,k1,k2⟩:=Qd.row hid;rw[nG] at obX;simp only[uN,c2,Bool.false_eq_true,if_false,if_true];rw[me nG];have da:=hw.sz _ (List.getElem_mem hid);refine J_ aI ?_;apply bz;rfl;(focus exact k1);(focus exact fK hid (by simp) zs)
   refine K_ aI ?_;refine mg L .no _ (by omega) X _ fun v X' u0 fX hnv=>?_
   have gu:=u0.one;have hE1:=hE.fr fX (by simp)
   have ht1:=ht.fr' fX (by simp)
   refine J_ aI ?_;apply bS;rfl;(focus exact gu.2.2.1);(focus exact gu.2.1);rfl;rfl;rfl;(focus (rw[gu.2.2.2]));have e0:bu [S x.path,B false,.v (.slice none 0 0)] (0+2) [v]=[S x.path,B false,v]:=rfl;rw[e0];refine J_ aI ?_;apply mq;rfl;(focus (show ((HV.ag (cO ⟨⟨x.path,false,d.f[x.id].b⟩,v⟩)).el&&true)=true;rw[Aaw gu.1];rfl));rfl;refine Dn (es:=im.map iH) (e:=iH ⟨⟨x.path,false,d.f[x.id].b⟩,v⟩) ht1 so rfl rfl (by rw[eB];omega) fun fC X2' ha ht'=>?_
   have Dq:=hf.trans fX;have hE':EB H X2' (im++[⟨⟨x.path,false,d.f[x.id].b⟩,v⟩]):=by
     intro y hy;rcases List.mem_append.mp hy with hy | hy;{exact hE1.fr ha.fr (fun a OR cs kQ=>absurd rfl (ht1.ne' kQ a OR)) y hy};{rw[List.mem_singleton] at hy;subst hy;exact⟨u0.fr ha.fr fun a OR hm=>by obtain⟨cs,kQ⟩:=u0.held a OR;exact absurd rfl (ht1.ne' kQ a hm),fun a ha=>hf.bM (hnv a ha)⟩}
   refine J_ aI ?_;refine dG (i+1,fC,im++[⟨⟨x.path,false,d.f[x.id].b⟩,v⟩]) (by simp only;omega) ⟨by simp only;omega,Dq.Ia rN ha,rN.Ia Dq ha,hE',ZJ.push hE hnv,by simp only[Kq,NO,List.map_append];rfl,by simpa using ht',by simp⟩ ?_
   exact E_
 · have fo:i=d.now.length:=by
     have:¬i < d.now.length:=by simpa using hc
     omega
   subst fo;rw[List.take_of_length_le (by simp)] at hM
   refine J_ aI ?_;exact b7 (Kn _ _ _) (hk im X hM hE ZJ hf)
end Sm
namespace Sm
open Go
theorem wK{S':aJ}{sl:List (Nat×EV)}{bx:List (Nat×List HV)}{H:ab}{K:Env→ab→Prop}{os:List aF}{d:Nat}{sz:Nat}{x hi:bj}{es:List HV}{n:Int}{k:Nat}(hx:(M sl bx).hv x=some (.sl .no sz es))(h1:(M sl bx).hv hi=some (I n))(e1:n=k)(hk:k≤es.length)
   (h:aj S' os (M ((d,.h (.sl .no sz (es.take k)))::sl) bx) H K):aj S' (⟨some d,.gy sz x none (some hi) none,none⟩::os) (M sl bx) H K:=by
 subst e1;refine aG rfl ?_ h;simp only[aw.ev,hx,iE,h1];rw[if_pos ⟨trivial,by omega,by omega,by omega⟩]
 simp
theorem wL{S':aJ}{sl:List (Nat×EV)}{bx:List (Nat×List HV)}{H:ab}{K:Env→ab→Prop}{os:List aF}{d:Nat}{sz:Nat}{x lo:bj}{es:List HV}{n:Int}{k:Nat}(hx:(M sl bx).hv x=some (.sl .no sz es))(h1:(M sl bx).hv lo=some (I n))(e1:n=k)(hk:k≤es.length)
   (h:aj S' os (M ((d,.h (.sl .no sz (es.drop k)))::sl) bx) H K):aj S' (⟨some d,.gy sz x (some lo) none none,none⟩::os) (M sl bx) H K:=by
 subst e1;refine aG rfl ?_ h;simp only[aw.ev,hx,iE,h1];rw[if_pos ⟨trivial,by omega,by omega,by omega⟩]
 simp only[Int.toNat_natCast];congr 3;{split<;>rfl};{exact List.take_of_length_le (by simp)}
theorem vl:∀{cs:List di} {l:List Nm} {i:Nat} (h:i < cs.length),chain l cs→Nc (br l (cs.take i)) cs[i]
 | c::cs,l,0,_,h=>h.1
 | c::cs,l,i+1,hi,h=>vl (cs:=cs) (l:=iF l c) (by simpa using hi) h.2
theorem qP{cs:List di}{l:List Nm}{i:Nat}(h:i < cs.length):br l (cs.take (i+1))=iF (br l (cs.take i)) cs[i]:=by
 rw[List.take_succ_eq_append_getElem h,ma]
def Dk.Bg(d:Dk)(count:Int):Dk:={ d with sure:=br d.sure (d.loose.take (max 0 (min count d.loose.length)).toNat),loose:=[] }
theorem Ib{d:Dk}{n m:Nat}(h:d.WF n m)(count:Int):(d.Bg count).WF n m:=by
 unfold Dk.Bg;generalize (max 0 (min count (d.loose.length:Int))).toNat=k;have hl:=kT (d.loose.take k) d.sure;have hk:(d.loose.take k).length≤d.loose.length:=by rw[List.length_take];omega
 have:=h.len;exact⟨ea h.sn (gM k h.ch),T_,by simp only[List.length_nil];omega,h.fl,h.op,kx h.ids fun c hc=>(h.sG c (List.mem_of_mem_take hc)).1,by simp,h.sz,h.rm,h.fa,h.wr⟩
attribute [local irreducible] aH aj aX bk aA aL bn DK RK JK BR G3 bh Spec Tok Fr CV
theorem mr(L:ai code)(C:Cl L)(b:Nat)(h:Hd)(d:Dk)(count:Int)(dw:List UInt8)(n m:Nat)(hw:d.WF n m)(hn:n < 1048576)(hm:m≤140737488355328)(Jy:dw.length≤9223372036854775807)(H:ab)(hD:KD H b h d)
   (K) (hk:∀Y h',KD Y b h' (d.ky count dw)→Own H Y (h.bs b) (h'.bs b)→K (.tu []) Y):Spec L.P L.ν 297 [ptr b,I count,.sl .no 1 (dw.map U)] H K:=by
 have AU:=Ib hw count;have ob:=hD.ob;have hlen:=hw.len;have rI:=hD.nd;simp only[Hd.bs,List.nodup_cons,List.mem_cons,not_or] at rI;obtain⟨⟨q1,q2,q3⟩,⟨q4,q5⟩,q6,q7⟩:=rI;unfold Dk.ky at hk;unfold Dk.Bg at AU;have UY:(max 0 (min count (d.loose.length:Int))).toNat≤d.loose.length:=by omega
 have wE:max 0 (min count (d.loose.length:Int))=((max 0 (min count (d.loose.length:Int))).toNat:Int):=by omega
 generalize u9:(max 0 (min count (d.loose.length:Int))).toNat=k at hk AU UY wE;dsimp only at hk;refine ah L Dr rfl ?_;refine K_ aI ?_;refine mj L h.ms d.sure H hD.su _ fun m1 X1 Kh hM1 g1=>?_;have Qe:=hD.new Kh;simp only[Hd.bs,List.mem_cons,not_or] at Qe;have Qf:=g1.get (by simp) ob
 refine J_ aI ?_;refine rJ aI ?_;intro X2 x2 g2;have OU:=hM1.fr g2 (by simpa using Qe.1)
 refine J_ aI ?_;apply wK (k:=k);rfl;rfl;(focus exact wE);(focus (simp;exact UY));rw[←List.map_take];refine J_ aI ?_;have hlk:(d.loose.take k).length≤1048576:=by rw[List.length_take];omega
 refine aV (ak L) (fun(i:Nat)=>[(0,.h (ptr b)),(2,.h (.sl .no 1 (dw.map U))),(35,.h (.sl .no 2 ((d.loose.take k).map ml))),(36,.h (I (d.loose.take k).length)),(37,.h (I i))]) (fun _=>[]) (fun i X=>i≤(d.loose.take k).length∧Fr [m1] X2 X∧PM X m1 (br d.sure ((d.loose.take k).take i))) (fun i=>(d.loose.take k).length - i) 0 ?_ ⟨by omega,Fr.refl _ _,by simpa[br] using OU⟩ ?_
 · exact E_
 rintro i X ⟨hi,hf,hM⟩;have ZG:=hf.get (a:=b) (by simpa using fun e=>Qe.1 e.symm) x2
 refine J_ aI ?_;(refine ct aI ?_ ?_<;>intro hc)
 · have fo:i < (d.loose.take k).length:=by simpa using hc
   have hch:=gM k hw.ch;have mo:=vl fo hch;have U7:=ea hw.sn (gM i hch);have Qg:=qP (l:=d.sure) fo;obtain⟨c,hcd⟩:∃c,c=(d.loose.take k)[i]:=⟨_,rfl⟩;rw[←hcd] at mo Qg;refine J_ aI ?_;rw[←hcd];(apply af;rfl);refine qQ L m1 _ c U7 mo X hM _ fun X3 h3 f3=>?_;refine J_ aI ?_;refine dG (i+1) (by omega) ⟨by omega,hf.trans f3,by rw[Qg];exact h3⟩ ?_
   exact E_
 have fo:i=(d.loose.take k).length:=by
   have:¬i < (d.loose.take k).length:=by simpa using hc
   omega
 subst fo;rw[List.take_length] at hM;refine K_ aI ?_;refine mj L m1 _ X hM _ fun m2 X3 AL hM3 g3=>?_;have NI:=g3.get (by simp) ZG
 refine J_ aI ?_;refine rJ aI ?_;intro X4 x4 g4;refine J_ aI ?_;refine rJ aI ?_;intro X5 x5 g5;refine K_ aI ?_;have hs5:(X5.bt b (some (.obj [I d.room,.v (.map (some m2)),.v (.map (some m1)),.sl .no 2 [],h.fv,B d.down,I d.ops,I d.aD,B d.done,I d.aE]))).sub X5:=
   kY x5 ⟨an.refl _,an.refl _,an.refl _,an.dO 2,an.refl _,an.refl _,an.refl _,an.refl _,an.refl _,an.refl _,T_⟩ (by
     have:=Kg hD.fs;simp only[List.all_cons,this];rfl)
 refine Spec.sub hs5 ?_;generalize hX6:X5.bt b (some (.obj [I d.room,.v (.map (some m2)),.v (.map (some m1)),.sl .no 2 [],h.fv,B d.down,I d.ops,I d.aD,B d.done,I d.aE]))=X6;have g6:Fr [b] X3 X6:=by rw[←hX6];exact(g4.trans g5).trans (Fr.set (by simp))
 have b1:b≠m1:=fun e=>Qe.1 e.symm;have g16:Fr [b,m1] X1 X6:=((g2.mono (by simp)).trans (hf.mono (by simp))).trans ((g3.mono (by simp)).trans (g6.mono (by simp)))
 have Ic:m2≠b∧m2≠m1∧m2∉eI h.fv:=by
   refine⟨fun e=>?_,fun e=>?_,fun e=>?_⟩;{rw[e,ZG] at AL;cases AL};{obtain⟨r,hr⟩:=hM.held;rw[←e,AL] at hr;cases hr}
   · obtain⟨r,hr⟩:=(hD.fs.fr g1 (by simp)).held m2 e
     have:=hf.get (a:=m2) (fun hm=>by rw[List.mem_singleton] at hm;exact Qe.2.2.2 (hm▸e)) (g2.get (a:=m2) (fun hm=>by rw[List.mem_singleton] at hm;exact q3 (hm▸e)) hr)
     rw[this] at AL;cases AL
 have Qh:KD X6 b ⟨m2,m1,h.fv⟩ { d with sure:=br d.sure (d.loose.take k),loose:=[] }:=by
   refine⟨by rw[←hX6,ab.aB];rfl,hM3.fr g6 (by simpa using Ic.1),(hM.fr g3 (by simp)).fr g6 (by simpa using Qe.1),(hD.fs.fr g1 (by simp)).fr g16 (fun a ha hm=>?_),?_⟩
   · simp only[List.mem_cons,List.not_mem_nil,or_false] at hm;rcases hm with rfl | rfl;{exact q3 ha};{exact Qe.2.2.2 ha}
   · simp only[Hd.bs,List.nodup_cons,List.mem_cons,not_or];exact⟨⟨fun e=>Ic.1 e.symm,b1,q3⟩,⟨Ic.2.1,Ic.2.2⟩,Qe.2.2.2,q7⟩
 have o6:Own H X6 (h.bs b) ((⟨m2,m1,h.fv⟩:Hd).bs b):=by
   refine⟨Fr.sQ fun a r ha hr=>?_,fun a ha=>?_⟩
   · refine g16.get (fun hm=>?_) (g1.get (by simp) hr)
     simp only[List.mem_cons,List.not_mem_nil,or_false] at hm;rcases hm with rfl | rfl;{exact ha (by simp[Hd.bs])};{rw[Kh] at hr;cases hr}
   · simp only[Hd.bs,List.mem_cons] at ha ⊢;rcases ha with rfl | rfl | rfl | ha;{simp}
     · refine .inr ?_;cases hx:H a with
       | none=>rfl
       | some r =>
         by_cases AO:a=b
         · exact absurd AO Ic.1
         · have:=hf.get (a:=a) (by simpa using Ic.2.1) (g2.get (a:=a) (by simpa using AO) (g1.get (by simp) hx))
           rw[this] at AL;cases AL
     · exact .inr Kh
     · simp[ha]
 clear hX6 hs5 x5 x4 g4 g5 NI hM3 hM hf ZG OU g2 hM1 Qf g16 g6 g3;refine qO L C b _ _ n m AU hn X6 Qh _ fun X7 f7=>?_;have U3:=Qh.dt f7;have o7:=o6.trans (Own.of _ f7);have rA:({ d with sure:=br d.sure (d.loose.take k),loose:=[] }:Dk).now=br d.sure (d.loose.take k):=rfl;rw[rA];have Aax:SN (br d.sure (d.loose.take k)):=AU.sn;have B2:(br d.sure (d.loose.take k)).length≤1048576:=by have:=AU.eT;rw[rA] at this;omega
 have Aay:∀x∈br d.sure (d.loose.take k),x.dir=false→x.id < d.f.length:=fun x hx=>(AU.ids x hx).2.1;generalize br d.sure (d.loose.take k)=l at *;refine J_ aI ?_;refine aV (ak L) (fun(q:Nat×List Fl×List UInt8)=>[(0,.h (ptr b)),(2,.h (.sl .no 1 (q.2.2.map U))),(60,.h (.sl .no 1 ((l.map Nm.path).map S))),(61,.h (I l.length)),(62,.h (I q.1))]) (fun _=>[])
   (fun q X=>q.1≤l.length∧KD X b ⟨m2,m1,h.fv⟩ { d with sure:=l,loose:=[],f:=q.2.1 }∧Own H X (h.bs b) ((⟨m2,m1,h.fv⟩:Hd).bs b)∧cy (l.drop q.1) q.2.1 q.2.2=cy l d.f dw∧q.2.1.length=d.f.length∧(∀x∈q.2.1,x.b.length≤m∧x.safe≤x.b.length)∧q.2.2.length≤9223372036854775807) (fun q=>l.length - q.1) (0,d.f,dw) ?_ ⟨by simp,U3,o7,rfl,rfl,hw.sz,Jy⟩ ?_
 · (refine bw ?_ ?_ ?_<;>(repeat refine bE aI ?_)<;>exact bA)
 clear U3 o7 f7;rintro⟨j,f,kp⟩ X8 ⟨hj,AP,o8,lX,gA,da,Ds⟩;dsimp only at hj AP o8 lX gA da Ds ⊢;have ob8:=AP.ob;refine J_ aI ?_;(refine ct aI ?_ ?_<;>intro OV)
 rotate_left
 · have Dt:j=l.length:=by
     have:¬j < l.length:=by simpa using OV
     omega
   subst Dt;rw[List.drop_length,cy] at lX;rw[←lX] at hk;refine J_ aI ?_;refine rJ aI ?_;intro Y1 y1 e1;refine J_ aI ?_;refine rJ aI ?_;intro Y2 y2 e2;refine J_ aI ?_;refine rJ aI ?_;intro Y3 y3 e3;refine J_ aI ?_;refine rJ aI ?_;intro Y4 y4 e4;have e14:=((e1.trans e2).trans e3).trans e4;refine J_ aI ?_;exact aa (hk Y4 ⟨m2,m1,h.fv⟩ (AP.cell e14 y4 rfl rfl rfl) (o8.trans (Own.cell e14)))
 have Dt:j < l.length:=by simpa using OV
 have OQ:((l.map Nm.path).map S)[j]? = some (S l[j].path):=by simp[Dt]
 rw[List.drop_eq_getElem_cons Dt,cy] at lX;have kR:=List.getElem_mem Dt;have hg:=mX Aax.nd kR;have hid:=Aay _ kR;generalize l[j]=x at OQ lX kR hg hid;refine K_ aI ?_;refine jy L b _ { d with sure:=l,loose:=[],f:=f } x.path Aax (fun y hy OW=>by show y.id < f.length;rw[gA];exact Aay y hy OW) X8 AP _ ?_
 have U5:bZ ({ d with sure:=l,loose:=[],f:=f }:Dk).now x.path=if x.dir then 9 else 0:=by show bZ l x.path=_;unfold bZ;rw[hg]
 have U6:mc ({ d with sure:=l,loose:=[],f:=f }:Dk).now x.path=x.id:=by show mc l x.path=_;unfold mc;rw[hg]
 rw[U5,U6];cases c2:x.dir
 case true =>
   rw[if_pos c2] at lX;refine J_ aI ?_;refine dG (j+1,f,kp) (by simp only;omega) ⟨by simp only;omega,AP,o8,lX,gA,da,Ds⟩ ?_
   exact E_
 rw[if_neg (by simp[c2])] at lX
 have hi:=hid c2;rw[←gA] at hi;obtain⟨fb,c,zs,nG,k1,k2⟩:=AP.row hi;dsimp only at nG k1 k2;rw[getD_at hi] at lX;have U8:=da _ (List.getElem_mem hi);simp only[Bool.false_eq_true,if_false,if_true];rw[me nG];have Ad5:b≠fb:=fun e=>q3 (by rw[nG];simp[eI,e])
 dsimp only at lX;have Ad6:=AP;refine J_ aI ?_;apply bz;rfl;(focus exact k1);(focus exact fK hi (by simp) zs)
 refine J_ aI ?_;apply bz;rfl;(focus exact k1);(focus exact jw hi (by simp) zs)
 refine J_ aI ?_;have Kr:(decide ((0:Int) < (f[x.id].b.length:Int) - (f[x.id].safe:Int))=false∧∃s Du,s=f[x.id].safe∧Du=kp)∨(decide ((0:Int) < (f[x.id].b.length:Int) - (f[x.id].safe:Int))=true∧kp=[]∧∃s Du,s=f[x.id].safe∧Du=kp) ∨
     (decide ((0:Int) < (f[x.id].b.length:Int) - (f[x.id].safe:Int))=true∧∃k0 Du s,kp=k0::Du∧s=f[x.id].safe+k0.toNat % (f[x.id].b.length - f[x.id].safe+1)):=by
   cases hd:decide ((0:Int) < (f[x.id].b.length:Int) - (f[x.id].safe:Int));{exact .inl ⟨rfl,_,_,rfl,rfl⟩}
   · cases kp with
     | nil=>exact .inr (.inl ⟨rfl,rfl,_,_,rfl,rfl⟩)
     | cons k0 ks=>exact .inr (.inr ⟨rfl,k0,ks,_,rfl,rfl⟩)
 rcases Kr with⟨hd,s,Du,Ny,u9⟩ | ⟨hd,pU,s,Du,Ny,u9⟩ | ⟨hd,k0,Du,s,u9,Ny⟩
 · rw[if_neg (by simp at hd;omega)] at lX
   rw[hd];refine J_ aI ?_;apply bz;rfl;(focus exact k1);(focus exact fK hi (by simp) zs)
   refine J_ aI ?_;apply bz;rfl;(focus exact k1);(focus exact jw hi (by simp) zs)
   refine J_ aI ?_;apply bz;rfl;(focus exact k1);(focus exact jw hi (by simp) zs)
   refine J_ aI ?_;apply sS (k:=f[x.id].safe);rfl;rfl;rfl;rfl;rfl;(focus (simp;exact U8.2));rw[←List.map_take];rw[nZ hi] at k1;refine J_ aI ?_;apply bU;rfl;rfl;rfl;rfl;(focus exact k1);(focus (have:=jP (v:=.sl .no 1 (f[x.id].b.map U)) (w:=I f[x.id].safe) (zs:=zs) hi;omega));intro Y9 y9 e9;have QD:Y9 fb=some (.obj (iQ f x.id (.sl .full 1 ((f[x.id].b.take f[x.id].safe).map U)) (I f[x.id].safe) zs)):=by
     rw[y9];have e:bu (iQ f x.id (.sl .no 1 (f[x.id].b.map U)) (I f[x.id].safe) zs) (x.id*2+0) (HV.sl .full 1 ((f[x.id].b.take f[x.id].safe).map U)).cells=(iQ f x.id (.sl .no 1 (f[x.id].b.map U)) (I f[x.id].safe) zs).set (x.id*2) (.sl .full 1 ((f[x.id].b.take f[x.id].safe).map U)):=rfl;rw[e,mh hi]
   obtain⟨Z,cJ,hZ,oZ⟩:=sZ (s:=f[x.id].safe) AP nG k2 hi QD e9 (an.drop _ _ _);refine ax (C0 (U9 (U2 (cJ _) ?_)));refine J_ aI ?_;refine dG (j+1,f.set x.id ⟨f[x.id].b.take f[x.id].safe,f[x.id].safe⟩,kp) (by simp only;omega) ⟨by simp only;omega,hZ,o8.trans oZ,lX,by simpa using gA,fun y hy=>?_,Ds⟩ ?_
   · rcases List.mem_or_eq_of_mem_set hy with hy | rfl;{exact da y hy};{simp only[List.length_take];omega}
   exact E_
 · subst pU;rw[if_neg (by simp)] at lX
   rw[hd];refine J_ aI ?_;apply bz;rfl;(focus exact k1);(focus exact fK hi (by simp) zs)
   refine J_ aI ?_;apply bz;rfl;(focus exact k1);(focus exact jw hi (by simp) zs)
   refine J_ aI ?_;apply bz;rfl;(focus exact k1);(focus exact jw hi (by simp) zs)
   refine J_ aI ?_;apply sS (k:=f[x.id].safe);rfl;rfl;rfl;rfl;rfl;(focus (simp;exact U8.2));rw[←List.map_take];rw[nZ hi] at k1;refine J_ aI ?_;apply bU;rfl;rfl;rfl;rfl;(focus exact k1);(focus (have:=jP (v:=.sl .no 1 (f[x.id].b.map U)) (w:=I f[x.id].safe) (zs:=zs) hi;omega));intro Y9 y9 e9;have QD:Y9 fb=some (.obj (iQ f x.id (.sl .full 1 ((f[x.id].b.take f[x.id].safe).map U)) (I f[x.id].safe) zs)):=by
     rw[y9];have e:bu (iQ f x.id (.sl .no 1 (f[x.id].b.map U)) (I f[x.id].safe) zs) (x.id*2+0) (HV.sl .full 1 ((f[x.id].b.take f[x.id].safe).map U)).cells=(iQ f x.id (.sl .no 1 (f[x.id].b.map U)) (I f[x.id].safe) zs).set (x.id*2) (.sl .full 1 ((f[x.id].b.take f[x.id].safe).map U)):=rfl;rw[e,mh hi]
   obtain⟨Z,cJ,hZ,oZ⟩:=sZ (s:=f[x.id].safe) AP nG k2 hi QD e9 (an.drop _ _ _);refine ax (C0 (U9 (U2 (cJ _) ?_)));refine J_ aI ?_;refine dG (j+1,f.set x.id ⟨f[x.id].b.take f[x.id].safe,f[x.id].safe⟩,[]) (by simp only;omega) ⟨by simp only;omega,hZ,o8.trans oZ,lX,by simpa using gA,fun y hy=>?_,Ds⟩ ?_
   · rcases List.mem_or_eq_of_mem_set hy with hy | rfl;{exact da y hy};{simp only[List.length_take];omega}
   exact E_
 · subst u9;have U':f[x.id].safe < f[x.id].b.length:=by simp at hd;omega
   rw[if_pos ⟨U',by simp⟩] at lX
   simp only[List.headD_cons,List.tail_cons] at lX;rw[←Ny] at lX;rw[hd];have r8:=k0.toNat_lt;have bN:=Nat.mod_lt k0.toNat (show f[x.id].b.length - f[x.id].safe+1 > 0 by omega)
   have hs:s≤f[x.id].b.length:=by omega
   refine J_ aI ?_;(refine ct aI ?_ ?_<;>intro hq)
   rotate_left
   · simp at hq
   refine J_ aI ?_;apply bz;rfl;(focus exact k1);(focus exact jw hi (by simp) zs)
   refine J_ aI ?_;have yB:=Int.emod_nonneg (k0.toNat:Int) (show (f[x.id].b.length:Int) - (f[x.id].safe:Int)+1≠0 by omega)
   have lL:=Int.emod_lt_of_pos (k0.toNat:Int) (show (f[x.id].b.length:Int) - (f[x.id].safe:Int)+1 > 0 by omega)
   have Np:(f[x.id].safe:Int)+(k0.toNat:Int) % ((f[x.id].b.length:Int) - (f[x.id].safe:Int)+1)=(s:Int):=by
     rw[Ny];have e:(f[x.id].b.length:Int) - (f[x.id].safe:Int)+1=((f[x.id].b.length - f[x.id].safe+1:Nat):Int):=by omega
     rw[e,←Int.natCast_emod,←Int.natCast_add]
   rw[Np,eb (by omega) (by omega)]
   rw[nZ hi] at k1;apply bU;rfl;rfl;rfl;rfl;(focus exact k1);(focus (have:=jP (v:=.sl .no 1 (f[x.id].b.map U)) (w:=I f[x.id].safe) (zs:=zs) hi;omega));intro Y8 y8 e8;have y8':Y8 fb=some (.obj (iQ f x.id (.sl .no 1 (f[x.id].b.map U)) (I s) zs)):=by
     rw[y8];have e:bu (iQ f x.id (.sl .no 1 (f[x.id].b.map U)) (I f[x.id].safe) zs) (x.id*2+1) (I (s:Int)).cells=(iQ f x.id (.sl .no 1 (f[x.id].b.map U)) (I f[x.id].safe) zs).set (x.id*2+1) (I (s:Int)):=rfl;rw[e,sT hi]
   refine J_ aI ?_;apply wL (k:=1);rfl;rfl;rfl;(focus simp);rw[List.map_cons,List.drop_succ_cons,List.drop_zero];refine J_ aI ?_;apply bz;rfl;(focus exact y8');(focus exact mZ (Ks hi));refine J_ aI ?_;apply bz;rfl;(focus exact y8');(focus exact mZ (yC hi));refine J_ aI ?_;apply bz;rfl;(focus exact y8');(focus exact mZ (yC hi));refine J_ aI ?_;apply sS (k:=s);rfl;rfl;rfl;rfl;rfl;(focus (simp;exact hs));rw[←List.map_take];refine J_ aI ?_;apply bU;rfl;rfl;rfl;rfl;(focus exact y8');(focus (have:=jP (v:=.sl .no 1 (f[x.id].b.map U)) (w:=I s) (zs:=zs) hi;omega));intro Y9 y9 e9;have QD:Y9 fb=some (.obj (iQ f x.id (.sl .full 1 ((f[x.id].b.take s).map U)) (I s) zs)):=by
     rw[y9];have e:bu (iQ f x.id (.sl .no 1 (f[x.id].b.map U)) (I s) zs) (x.id*2+0) (HV.sl .full 1 ((f[x.id].b.take s).map U)).cells=(iQ f x.id (.sl .no 1 (f[x.id].b.map U)) (I s) zs).set (x.id*2) (.sl .full 1 ((f[x.id].b.take s).map U)):=rfl;rw[e,mh hi]
   obtain⟨Z,cJ,hZ,oZ⟩:=sZ (s:=s) AP nG k2 hi QD (e8.trans e9) (an.drop _ _ _);refine ax (C0 (U9 (U2 (cJ _) ?_)));refine J_ aI ?_;refine dG (j+1,f.set x.id ⟨f[x.id].b.take s,s⟩,Du) (by simp only;omega) ⟨by simp only;omega,hZ,o8.trans oZ,lX,by simpa using gA,fun y hy=>?_,by have h9:=Ds;simp only[List.length_cons] at h9 ⊢;omega⟩ ?_
   · rcases List.mem_or_eq_of_mem_set hy with hy | rfl;{exact da y hy};{simp only[List.length_take];omega}
   exact E_
end Sm
