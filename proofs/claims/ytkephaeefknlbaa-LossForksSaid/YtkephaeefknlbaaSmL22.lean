/-
  A layer of one's own: text L22.
-/
import Derived.Test.YtkephaeefknlbaaSmL21
set_option linter.unusedVariables false
set_option linter.unusedSimpArgs false
set_option maxRecDepth 10000
set_option maxHeartbeats 2000000
namespace Sm
open Go
-- BASE lossU
attribute [local irreducible] csem rsem dsem seqK blockK normK finK DK RK JK BR G3 resK Spec Tok Fr

abbrev nilP : HV := .v (.pointer none)
theorem subT {A B C : Heap} (h : Fr [] A B) (k : Fr [] B C) : A.sub C := (h.trans k).sub
theorem ack_nil (L : Linked code) (tk : Tk) (es : List HV) (n : Int) : Pure L 108 [nilP, .sl tk 2 es, I n] (.tu [.v (.slice none 0 0), I 0, B false, I 1]) := by
  intro H K hk
  refine go_spec L code108 rfl ?_
  repeat (refine gk lossU ?_)
  refine bxk lossU ?_
  intro c0 X0 hc0 g0 f0 s0
  repeat (refine gk lossU ?_)
  exact resK_sub (Weak.refl _) s0 hk
theorem next_nil (L : Linked code) (n : Int) : Pure L 107 [nilP, I n] (.tu [I 0, B false]) := by
  intro H K hk
  refine go_spec L code107 rfl ?_
  repeat (refine gk lossU ?_)
  refine bxk lossU ?_
  intro c0 X0 hc0 g0 f0 s0
  repeat (refine gk lossU ?_)
  exact resK_sub (Weak.refl _) s0 hk
theorem lost_nil (L : Linked code) (x' y' : Int) : Pure L 106 [nilP, I x', I y'] (.v (.slice none 0 0)) := by
  intro H K hk
  refine go_spec L code106 rfl ?_
  repeat (refine gk lossU ?_)
  refine bxk lossU ?_
  intro c0 X0 hc0 g0 f0 s0
  repeat (refine gk lossU ?_)
  refine bxk lossU ?_
  intro c1 X1 hc1 g1 f1 s1
  repeat (refine gk lossU ?_)
  refine bxk lossU ?_
  intro c2 X2 hc2 g2 f2 s2
  have g3 := f2.get (by simp) (f1.get (by simp) g0)
  repeat (refine gk lossU ?_)
  exact resK_sub (Weak.refl _) ((f0.trans f1).trans f2).sub hk
theorem sent_nil (L : Linked code) (p : Pk) : Pure L 109 [nilP, enc p] (I 1) := by
  intro H K hk
  refine go_spec L code109 rfl ?_
  repeat (refine gk lossU ?_)
  exact resK_some hk
theorem len_nil (L : Linked code) : Pure L 110 [nilP] (I 0) := by
  intro H K hk
  refine go_spec L code110 rfl ?_
  repeat (refine gk lossU ?_)
  exact resK_some hk
theorem flying_nil (L : Linked code) : Pure L 111 [nilP] (I 0) := by
  intro H K hk
  refine go_spec L code111 rfl ?_
  repeat (refine gk lossU ?_)
  exact resK_some hk
theorem oldest_nil (L : Linked code) : Pure L 114 [nilP] (.tu [enc zPk, B false]) := by
  intro H K hk
  refine go_spec L code114 rfl ?_
  repeat (refine gk lossU ?_)
  exact resK_some hk
theorem largest_nil (L : Linked code) : Pure L 115 [nilP] (.tu [I 0, B false]) := by
  intro H K hk
  refine go_spec L code115 rfl ?_
  repeat (refine gk lossU ?_)
  exact resK_some hk
theorem fork_nil (L : Linked code) : Pure L 113 [nilP] (nilP) := by
  intro H K hk
  refine go_spec L code113 rfl ?_
  repeat (refine gk lossU ?_)
  exact resK_some hk
end Sm
