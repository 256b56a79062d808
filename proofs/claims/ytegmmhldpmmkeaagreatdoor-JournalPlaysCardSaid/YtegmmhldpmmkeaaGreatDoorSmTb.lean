/-
  Tb
-/
import Derived.Test.YtegmmhldpmmkeaaGreatDoorSmGC
import Derived.Test.YtegmmhldpmmkeaaGreatDoorSmSr
import Derived.Lib.LaidTab
import Derived.Lib.ItoaMem
import Derived.Stop.LaidErr
set_option linter.unusedVariables false
set_option maxRecDepth 100000
namespace Sm
open Go Go.Proofs Go.RowKit
theorem wo{ν:Nat→Option Nat}{K:Nat→Nat}{w:World}(k:IntKind):∀l:List Nat,aC ν K w (l.map fun n:Nat=>HV.v (.int k (n:Int))) (l.map fun n:Nat=>Value.int k (n:Int))
 | []=>rfl
 | n::l=>⟨_,_,rfl,rfl,wo k l⟩
theorem Ax(k:IntKind):∀l:List Nat,(l.map fun n:Nat=>HV.v (.int k (n:Int))).all HV.one=true
 | []=>rfl
 | n::l=>by rw[List.map_cons,List.all_cons,Ax k l];rfl
theorem Hj{ν:Nat→Option Nat}{P:Program}{W:World}{name:String}{k:IntKind}{l:List Nat}{zs:List Int}{g:Nat}(hz:zs=l.map fun n:Nat=>(n:Int))(h:Lib.TabIs P W name k zs)(hg:P.globalNamed name=some g)(hl:0 < l.length) :
   rep ν (iI W) W (.rp (l.map fun n:Nat=>HV.v (.int k (n:Int)))) (.pointer (some ⟨g,0,none⟩))∧0 < iI W g∧uh W g=(l.map fun n:Nat=>HV.v (.int k (n:Int))).length:=by
 have hc:∀i (hi:i < l.length),W.cell? ⟨g,i,none⟩=some (.int k ((l[i]:Nat):Int)):=fun i hi=>by
   have:=h.cell hg i (by rw[hz,List.length_map];exact hi)
   rw[this,hz];simp[List.getD,hi]
 have da:uh W g=l.length:=by
   have h1:=h;unfold Lib.TabIs World.var? at h1;rw[hg] at h1;have h1:(match W.heap[g]? with | some (.cells cs _ _)=>some cs | _=>none)=_:=h1
   unfold uh;cases hb:W.heap[g]? with
   | none=>rw[hb] at h1;cases h1
   | some o =>
     rw[hb] at h1;cases o with
     | cells cs T fr =>
       have h1:=Option.some.inj h1;show cs.size=_;rw[h1,hz];simp
     | _=>cases h1
 refine⟨⟨g,0,l.map fun n:Nat=>Value.int k (n:Int),rfl,Ax k l,wo k l,?_,fun j x hx=>?_⟩,by have:=wV (hc 0 hl);omega,by rw[da,List.length_map]⟩
 · have:=wV (hc (l.length - 1) (by omega))
   rw[List.length_map];omega
 · rw[List.getElem?_map] at hx;cases hj:l[j]? with
   | none=>rw[hj] at hx;cases hx
   | some n =>
     rw[hj] at hx;obtain⟨bN,rfl⟩:=List.getElem?_eq_some_iff.mp hj;rw[Nat.zero_add,hc j bN];exact hx
def KU:List Int:=AX.map fun n:Nat=>(n:Int)
theorem Oc{W:World}(h1:Lib.TabIs Tryz.prog W "internal/strconv.uint64pow10" .u64 Lib.pow10Tab)(h2:Lib.TabIs Tryz.prog W "sumpter/crc.table" .u32 KU):yj nu (iI W) W:=by
 intro n j h;have hm:=uu h;have gO:(we.all fun p=>decide (p.1 < 1000000)||(p==(1000000,1000001)||p==(1000001,1000000)))=true:=by decide +kernel
 have h3:=List.all_eq_true.mp gO _ hm;simp only[Bool.or_eq_true,beq_iff_eq,Prod.mk.injEq] at h3;have hg:lS=1000000:=rfl;rcases h3 with h3 | h3 | h3;{have h3:lS+n < 1000000:=of_decide_eq_true h3;omega}
 · have e1:n=0:=by omega
   have e2:j=1:=by omega
   subst e1 e2;exact Hj (l:=JY) (by decide +kernel) h1 (by kernel_rfl) (by decide)
 · have e1:n=1:=by omega
   have e2:j=0:=by omega
   subst e1 e2;exact Hj (l:=AX) rfl h2 (by kernel_rfl) (by decide)
end Sm
