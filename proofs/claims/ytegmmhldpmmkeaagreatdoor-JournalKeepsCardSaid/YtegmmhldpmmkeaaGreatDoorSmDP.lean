/-
  D44
-/
import Derived.Test.YtegmmhldpmmkeaaGreatDoorSmDN
import Derived.Test.YtegmmhldpmmkeaaGreatDoorSmDO
set_option linter.unusedVariables false
set_option linter.unusedSimpArgs false
set_option maxRecDepth 10000
set_option maxHeartbeats 2000000
namespace Sm
open Go
theorem FW.tu {b : Nat} {cs xs ys : List HV} (h : FWL b cs xs ys) : FW b cs (.tu xs) (.tu ys) := fun ν K w u f hr => by
 simp only [Sm.rep] at hr ⊢
 obtain ⟨us, e, h3⟩ := hr
 exact ⟨us, e, h.rep f h3⟩
structure Zd (d : Dk) : Prop where
 wf : d.WF 52 4000
 tr : d.Tr
 cl : Quie d
 rm : d.room = 100000
 tt : tot d.f ≤ 4000
 zz : (∃ i x, Zs d 52 4000 4000 i x) ∨ getN d.now zz = none
attribute [local irreducible] csem rsem dsem seqK blockK normK finK DK RK JK BR G3 resK Spec Tok Fr CV GA YB w1 w2 w3 w4 w5 w6 g1 g2
theorem dreadF_spec (L : Linked code) (b : Nat) (h : Hd) (d : Dk) (p : List UInt8) (n m : Nat) (hw : d.WF n m) (hm : m ≤ 140737488355328) (H : Heap) (hD : KD H b h d) (K) (hk : ∀ X, Fr [] H X → K (.tu [.sl .no 1 ((d.read p).1.map U), I (d.read p).2]) X) : Spec L.P L.ν 300 [ptr b, S p] H K := by
 refine Spec.give ?_
 refine dread_spec L b h d p n m hw hm H hD _ fun v X hC f hn => ?_
 rcases hC with ⟨rfl, hl⟩ | ⟨rfl, hl⟩ | ⟨a, c, zs, rfl, h1, h2, h3, h4⟩
 · rw [hl] at hk
   exact .inr (.inl ⟨_, Weak.tu (show WeakL [.v (.slice none 0 0), I (d.read p).2] [.sl .no 1 (([] : List UInt8).map U), I (d.read p).2] from ⟨Weak.nil' 1, Weak.refl _, trivial⟩), hk X f⟩)
 · rw [hl] at hk
   exact .inr (.inl ⟨_, Weak.tu (show WeakL [.sl .full 1 [], I (d.read p).2] [.sl .no 1 (([] : List UInt8).map U), I (d.read p).2] from ⟨Weak.drop _ _ _, Weak.refl _, trivial⟩), hk X f⟩)
 · refine .inr (.inr ⟨a, _, .tu [.sl .no 1 ((d.read p).1.map U), I (d.read p).2], h1, FW.tu ⟨FW.slice (sz := 1) (es := (d.read p).1.map U) ?_ ?_ (by simp) h2 h3 ?_ ?_, FW.refl _ _ _, trivial⟩, hk _ (Fr.give f (hn a (by simp [fvb])))⟩)
   · rw [flat_U, List.take_append_of_le_length (by simp), List.take_of_length_le (by simp)]
   · simp
   · rw [List.all_eq_true]; intro y hy; obtain ⟨z, _, rfl⟩ := List.mem_map.mp hy; rfl
   · intro y hy; obtain ⟨z, _, rfl⟩ := List.mem_map.mp hy; rfl
end Sm
