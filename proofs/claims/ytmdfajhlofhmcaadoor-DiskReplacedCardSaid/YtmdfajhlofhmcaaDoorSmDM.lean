/-
  A layer of one's own: texts D37,D38.
-/
import Derived.Test.YtmdfajhlofhmcaaDoorSmDL
import Derived.Test.YtmdfajhlofhmcaaDoorSmDB
set_option linter.unusedVariables false
set_option linter.unusedSimpArgs false
set_option maxRecDepth 10000
set_option maxHeartbeats 2000000
namespace Sm
open Go
-- BASE smU
/-- Nothing of what is seen was changed. -/
structure Sv (d e : Dk) : Prop where
  su : e.sure = d.sure
  lo : e.loose = d.loose
  f : e.f = d.f
  dn : e.down = d.down
  op : d.ops ≤ e.ops
theorem Sv.refl (d : Dk) : Sv d d := ⟨rfl, rfl, rfl, rfl, Nat.le_refl _⟩
theorem Sv.list {d e : Dk} (h : Sv d e) : e.list = d.list := by
  rw [list_eq, list_eq, h.dn, h.f]
  show (if d.down = true then [] else (appAll e.sure e.loose).map _) = _
  rw [h.su, h.lo]; rfl
/-- Behind a crash, with a fault to come. -/
def faulty (d : Dk) : Dk := { d.crash 99 [] with wrong := 0 }
/-- Entries that stand apart from a disk. -/
def EA (X : Heap) (b : Nat) (h : Hd) (l : List Eo) : Prop := ∀ x ∈ l, CB X x.v x.e.data ∧ ∀ a ∈ fvb x.v, a ∉ h.bs b
theorem EA.of {H X : Heap} {b : Nat} {h : Hd} {d : Dk} {l : List Eo} (he : EB H X l) (k : KD H b h d) : EA X b h l := fun x hx => ⟨(he x hx).1, fun a ha hm => by
  obtain ⟨r, hr⟩ := k.held a hm
  rw [(he x hx).2 a ha] at hr; cases hr⟩
theorem EA.own {X Y : Heap} {b : Nat} {h h' : Hd} {l : List Eo} (he : EA X b h l) (o : Own X Y (h.bs b) (h'.bs b)) : EA Y b h' l := fun x hx => ⟨(he x hx).1.own o (he x hx).2, (he x hx).1.apart o (he x hx).2⟩
theorem EA.fr0 {X Y : Heap} {b : Nat} {h : Hd} {l : List Eo} (he : EA X b h l) (f : Fr [] X Y) : EA Y b h l := fun x hx => ⟨(he x hx).1.fr f (by simp), (he x hx).2⟩
attribute [local irreducible] csem rsem dsem seqK blockK normK finK DK RK JK BR G3 resK Spec Tok Fr CV GA YB w1 w2 w3 w4 w5 w6 g1 g2

end Sm

set_option linter.unusedVariables false
set_option linter.unusedSimpArgs false
set_option maxHeartbeats 2000000
namespace Sm
open Go
/-- All that is there fits. -/
def Dk.Fits (d : Dk) : Prop := (d.used : Int) ≤ d.room
end Sm
