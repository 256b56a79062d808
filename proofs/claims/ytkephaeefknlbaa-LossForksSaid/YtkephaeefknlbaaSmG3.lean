/-
  A layer of one's own: text G3.
-/
import Derived.Test.YtkephaeefknlbaaSmG2
import Derived.WalkKit
import Derived.ProofKit
import Derived.OpenShut
set_option linter.unusedVariables false
namespace Sm
open Go
def noRes : Heap := fun _ => none
theorem hsat_start (ν : Nat → Option Nat) (w : World) : hsat ν w (sizes' w) noRes :=
  ⟨fun b r h => (by cases h), fun b hb => (by simp only [sizes', Array.getElem?_eq_none hb])⟩
theorem frozen_none {w : World} {a : Addr} (h : w.heap.size ≤ a.block) : w.frozen? a = false := by
  rw [World.frozen?, Array.getElem?_eq_none h]
theorem keptSame {w w' : World} (h1 : w'.os = w.os) (h2 : w'.output = w.output) (h : ∀ i, i < w.heap.size → w'.heap[i]? = w.heap[i]?) : w.keptBut w' (fun _ => False) := by
  refine ⟨h1, h2, fun i hi => ?_⟩
  rw [h i hi]
  split
  · rename_i c t fr c' t' fr' e1 e2
    rw [e1] at e2; cases e2
    exact ⟨rfl, rfl, rfl, fun _ _ => rfl⟩
  · rename_i es cl es' cl' e1 e2
    rw [e1] at e2; cases e2
    exact .inr ⟨rfl, rfl⟩
  · rfl
theorem Ext.grown {w w' : World} {K K' : Nat → Nat} {H' : Heap} (h : Ext w K noRes w' K' H') : RowKit.Grown w w' := by
  refine ⟨keptSame h.os h.output fun i hi => (h.same i hi rfl).1, fun a => ?_, h.size⟩
  rcases Nat.lt_or_ge a.block w.heap.size with hl | hl
  · rw [World.frozen?, World.frozen?, (h.same a.block hl rfl).1]
  · rw [frozen_none hl]
    exact h.fz a (frozen_none hl)
/-- From a contract that answers true to the walk of a law. -/
theorem walk_of {P : Program} {ν : Nat → Option Nat} {g n : Nat} {args : List HV} {us : List Value} {w : World} (hn : ν n = some g) (hS : Spec P ν g args noRes fun r _ => r = B true) (hr : repL ν (sizes' w) w args us) :
    Calls P n us.toArray w fun e w' => e = .returned (.bool true) ∧ RowKit.Grown w w' ∧ RowKit.Below w.heap.size w w' := by
  refine (hS n hn w (sizes' w) us (hsat_start ν w) hr).mono fun e w' ⟨u, h, H', K', e1, e2, e3, e4, e5⟩ => ?_
  subst e5
  have : u = .bool true := by simpa [rep] using e2
  subst this
  exact ⟨e1, e4.grown, ⟨e4.os, e4.tape, e4.output, e4.size, fun k hk => (e4.same k hk rfl).1⟩⟩
end Sm
