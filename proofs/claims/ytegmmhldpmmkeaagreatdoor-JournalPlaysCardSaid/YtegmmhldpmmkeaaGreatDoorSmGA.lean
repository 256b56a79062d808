/-
  G1
-/
import Derived.Test.YtegmmhldpmmkeaaGreatDoorSmLF
import Derived.Deep.Slices
import Derived.ChangeSame
import Derived.Carry
set_option linter.unusedVariables false
namespace Sm
open Go
def iI(w:World)(b:Nat):Nat:=match w.heap[b]? with
 | some (.cells c _ _)=>c.size
 | _=>0
theorem wV{w:World}{b j:Nat}{x:Value}(h:w.cell? ⟨b,j,none⟩=some x):j < iI w b:=by
 simp only[World.cell?] at h;simp only[iI];split at h;{rename_i c t fr e;rw[e];simp only[Option.isSome_none,Bool.false_eq_true,if_false] at h;rcases Nat.lt_or_ge j c.size with h' | h';{exact h'};{rw[Array.getElem?_eq_none h'] at h;cases h}};{cases h}
theorem yQ{α:Type}{sz:Nat}{C:Nat→List α}(hz:0 < sz):∀(n:Nat),(∀i < n,(C i).length=sz)→∀j x,((List.range n).flatMap C)[j]? = some x→∃i r,i < n∧r < sz∧j=i*sz+r∧(C i)[r]? = some x
 | 0,_,j,x,h=>by simp at h
 | n+1,hl,j,x,h=>by
   rw[List.range_succ,List.flatMap_append] at h;have hlen:((List.range n).flatMap C).length=n*sz:=by
     clear h
     induction n with
     | zero=>simp
     | succ n ih =>
       rw[List.range_succ,List.flatMap_append,List.length_append,ih fun i hi=>hl i (by omega)]
       simp[hl n (by omega),Nat.succ_mul]
   rcases Nat.lt_or_ge j (n*sz) with hj | hj
   · rw[List.getElem?_append_left (by omega)] at h
     obtain⟨i,r,h1,h2,h3,h4⟩:=yQ hz n (fun i hi=>hl i (by omega)) j x h
     exact⟨i,r,by omega,h2,h3,h4⟩
   · rw[List.getElem?_append_right (by omega),hlen] at h
     simp only[List.flatMap_cons,List.flatMap_nil,List.append_nil] at h;have hr:j - n*sz < (C n).length:=by
       rcases Nat.lt_or_ge (j - n*sz) (C n).length with h' | h';{exact h'};{rw[List.getElem?_eq_none h'] at h;cases h}
     rw[hl n (by omega)] at hr
     exact⟨n,j - n*sz,by omega,hr,by omega,h⟩
theorem tj{α:Type}{ν:Nat→Option Nat}{K:Nat→Nat}{w:World}(g:α→HV)(v:α→Value):∀(l:List α),(∀a∈l,rep ν K w (g a) (v a))→aC ν K w (l.map g) (l.map v)
 | [],_=>by simp[aC]
 | a::l,h=>by
   simp only[List.map_cons,aC];exact⟨v a,l.map v,rfl,h a (by simp),tj g v l fun b hb=>h b (by simp[hb])⟩
end Sm
