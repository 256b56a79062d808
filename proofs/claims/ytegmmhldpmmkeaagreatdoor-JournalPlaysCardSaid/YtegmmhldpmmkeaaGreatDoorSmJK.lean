/-
  J33
-/
import Derived.Test.YtegmmhldpmmkeaaGreatDoorSmJJ
set_option linter.unusedVariables false
set_option linter.unusedSimpArgs false
set_option maxRecDepth 10000
set_option maxHeartbeats 4000000
namespace Sm
open Go
theorem IS(a:List UInt8):uT a a=true:=by simp[uT]
theorem LV(a:Pt):ptB a a=true:=by simp[ptB,IS]
def Afv(a:Ac):Prop:=a.r.sum.length=32
structure QJ (H X:ab) (b a:Nat) (now:ek) (n m:Nat):Prop where
 ex:∃(h:Hd) (d:Dk) (c:List UInt8) (i:Nat),JS H X b a h d ⟨now,(c.length:Int),false⟩∧Quiet 1048576 d now c i n m∧d.aE = -1
structure DJ (H X:ab) (b a:Nat) (now nx:ek) (n m:Nat):Prop where
 ex:∃(h:Hd) (d:Dk) (j:Jn),JS H X b a h d j∧d.WF n m∧((d.down=false∧∃(c:List UInt8) (i:Nat),j=⟨now,(c.length:Int),false⟩∧Quiet 1048576 d now c i n m∧d.aE = -1)∨(d.down=true∧Cr 1048576 m d fun t=>t=now∨t=nx))
 o1:j8 now
 o2:j8 nx
theorem Afa{l:List Ac}{db:Nat}(h:AeG l db=true):l.length≤db:=by
 unfold AeG at h;simp only[Bool.and_eq_true,Bool.not_eq_true',decide_eq_false_iff_not] at h;omega
theorem Afb{l:List Ac}{db:Int}(h:AeG l db=true):∀a∈l,a.r.path.length≤300∧a.d.b.length≤300∧a.d.p.length≤300∧a.d.q.length≤300∧a.r.id≤2199023255552:=by
 unfold AeG at h;simp only[Bool.and_eq_true] at h;intro a ha;have:=List.all_eq_true.mp h.2 a ha;rw[Aeq] at this;simp only[Bool.and_eq_true,Bool.not_eq_true',decide_eq_false_iff_not] at this;omega
attribute [local irreducible] aH aj aX ju FD DR DF kS bk aA aL bn DK RK JK BR G3 bh Spec Tok Fr CV
end Sm
