/-
  It
-/
import Derived.Test.YtegmmhldpmmkeaaGreatDoorSmJJ
import Derived.Lib.ItoaNum
import Derived.Lib.LaidTab
import Derived.Sort.Grow
set_option linter.unusedVariables false
namespace Sm
open Go Go.Sort
def Adu(P:Program)(nn:Nat):Prop:=∀(i:Nat),i < 4398046511104→∀w,Lib.TabIs P w "internal/strconv.uint64pow10" .u64 Lib.pow10Tab→Calls P nn #[.int .i64 i] w fun e w'=>e = .returned (.string ⟨(Lib.decDigits i).toArray⟩)∧∃k os,w'=grow (w.drewN k) os
theorem AeM:∀(f n:Nat),n < f→OF f n=Lib.decDigits n
 | f+1,n,h=>by
   rw[OF,Lib.decDigits]
   by_cases h1:n < 10
   · rw[if_pos h1,dif_pos h1]
   · rw[if_neg h1,dif_neg h1,AeM f (n / 10) (by omega)]
theorem VF(n:Nat):Lib.decDigits n=yX n:=(AeM (n+1) n (by omega)).symm
theorem A3{ν:Nat→Option Nat}{K:Nat→Nat}{w:World}(k:IntKind):∀(l:List Nat) (us:List Value),aC ν K w (l.map fun n:Nat=>HV.v (.int k (n:Int))) us→us=l.map fun n:Nat=>Value.int k (n:Int)
 | [],us,h=>h
 | n::l,us,⟨u,dr,e,h1,h2⟩=>by
   have h1:u = .int k (n:Int):=h1;subst e h1;rw[A3 k l dr h2];rfl
theorem Ae2{w:World}{b n:Nat}(h:uh w b=n)(h0:0 < n):∃cs T fr,w.heap[b]? = some (.cells cs T fr)∧cs.size=n:=by
 unfold uh at h;cases hb:w.heap[b]? with
 | none =>
   rw[hb] at h;have h:0=n:=h;omega
 | some o =>
   rw[hb] at h;cases o with
   | cells cs T fr=>exact⟨cs,T,fr,rfl,h⟩
   | _ =>
     have h:0=n:=h;omega
theorem Afw{P:Program}{ν:Nat→Option Nat}{K:Nat→Nat}{w:World}(h:yj ν K w){g:Nat}{name:String}(hg:P.globalNamed name=some g)(hn:ν (lS+g)=some (lS+1)):Lib.TabIs P w name .u64 Lib.pow10Tab:=by
 obtain⟨h1,h2,h3⟩:=h g 1 hn;have ht:CP 1=JY.map fun n:Nat=>HV.v (.int .u64 (n:Int)):=rfl;have hlen:(CP 1).length=20:=by rw[ht,List.length_map];rfl
 obtain⟨cs,T,fr,c1,c2⟩:=Ae2 h3 (by rw[hlen];omega)
 rw[ht] at h1;obtain⟨b,off,us,e1,_,e2,e3,e4⟩:=h1;have e1:=Option.some.inj (Value.pointer.inj e1);injection e1 with e5 e6;subst e5 e6;have eu:=A3 .u64 JY us e2;subst eu;unfold Lib.TabIs World.var?;rw[hg];show (match w.heap[g]? with | some (.cells cs _ _)=>some cs | _=>none)=_
 rw[c1];show some cs=_;congr 1;have hz:Lib.pow10Tab=JY.map fun n:Nat=>(n:Int):=by decide +kernel
 refine Array.ext (by rw[c2,hlen,hz];simp[JY]) fun i i1 i2=>?_
 have hi:i < JY.length:=by rw[c2,hlen] at i1;exact i1
 have h5:=e4 i (.int .u64 (JY[i]:Nat)) (by rw[List.getElem?_map,List.getElem?_eq_getElem hi];rfl)
 rw[Nat.zero_add] at h5;simp only[World.cell?,c1] at h5;have h6:cs[i]? = some (.int .u64 (JY[i]:Nat)):=by simpa using h5
 rw[Array.getElem?_eq_getElem i1] at h6;rw[Option.some.inj h6];simp[hz]
theorem Od{code:Nat→SF}(L:ai code)(hs:∀nn,L.ν nn=some 428→Adu L.P nn)(hg:∃g,L.P.globalNamed "internal/strconv.uint64pow10" = some g∧L.ν (lS+g)=some (lS+1))(n:Nat)(hn:n < 4398046511104)(H:ab)(K:HV→ab→Prop)(hk:∀X,Fr [] H X→K (S (yX n)) X):Spec L.P L.ν 428 [I n] H K:=by
 intro nn Qb w Kk us ao hr;obtain⟨u1,L6,rfl,r1,hr⟩:=hr;simp only[aC] at hr;subst hr;have r1':u1 = .int .i64 (n:Int):=r1;subst r1';obtain⟨g,g1,g2⟩:=hg;refine(hs nn Qb.1 n hn w (Afw ao.qD g1 g2)).mono ?_;rintro e w' ⟨rfl,k,os,rfl⟩;have hold:∀b,b < w.heap.size→(grow (w.drewN k) os).heap[b]? = w.heap[b]? := fun b hb=>heap_grow_old (w.drewN k) os hb;have da:w.heap.size≤(grow (w.drewN k) os).heap.size:=by simp[grow,World.drewN]
 have hgr:Grow w Kk (grow (w.drewN k) os) Kk:=⟨fun _=>Nat.le_refl _,fun b j hj=>by
   have hb:b < w.heap.size:=by
     rcases Nat.lt_or_ge b w.heap.size with h | h;{exact h};{rw[ao.fresh b h] at hj;omega}
   simp only[World.cell?,hold b hb],fun b yB=>by
   have hb:b < w.heap.size:=by
     rcases Nat.lt_or_ge b w.heap.size with h | h;{exact h};{rw[ao.fresh b h] at yB;omega}
   exact cS (hold b hb)⟩
 refine⟨_,S (yX n),H,Kk,rfl,?_,⟨fun b r hb=>(ao.res b r hb).move hgr (hold b (ao.lt hb)) rfl,fun b hb=>ao.fresh b (Nat.le_trans da hb),ao.qD.grow hgr⟩,⟨rfl,rfl,rfl,da,fun _=>Nat.le_add_right _ _,hgr,fun b hb hH=>⟨hold b hb,rfl,hH⟩⟩,hk H (Fr.refl _ _)⟩;show Value.string _=_;rw[←VF n]
end Sm
