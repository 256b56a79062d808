/-
  A layer of one's own: texts G1.
-/
import Derived.Test.YtmdfajhlofhmcaaDoorSmLF
import Derived.Deep.Slices
import Derived.ChangeSame
import Derived.Carry
set_option linter.unusedVariables false
namespace Sm
open Go

/-- The blocks' sizes. -/
def sizes' (w : World) (b : Nat) : Nat := match w.heap[b]? with
  | some (.cells c _ _) => c.size
  | _ => 0
theorem cell_lt {w : World} {b j : Nat} {x : Value} (h : w.cell? ⟨b, j, none⟩ = some x) : j < sizes' w b := by
  simp only [World.cell?] at h
  simp only [sizes']
  split at h
  · rename_i c t fr e
    rw [e]
    simp only [Option.isSome_none, Bool.false_eq_true, if_false] at h
    rcases Nat.lt_or_ge j c.size with h' | h'
    · exact h'
    · rw [Array.getElem?_eq_none h'] at h; cases h
  · cases h
theorem repL_map {α : Type} {ν : Nat → Option Nat} {K : Nat → Nat} {w : World} (g : α → HV) (v : α → Value) : ∀ (l : List α), (∀ a ∈ l, rep ν K w (g a) (v a)) → repL ν K w (l.map g) (l.map v)
  | [], _ => by simp [repL]
  | a :: l, h => by
    simp only [List.map_cons, repL]
    exact ⟨v a, l.map v, rfl, h a (by simp), repL_map g v l fun b hb => h b (by simp [hb])⟩
end Sm
