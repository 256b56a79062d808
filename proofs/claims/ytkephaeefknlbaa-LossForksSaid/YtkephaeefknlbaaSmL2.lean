/-
  A layer of one's own: text L2.
-/
import Derived.Test.YtkephaeefknlbaaSmL1
set_option linter.unusedVariables false
set_option linter.unusedSimpArgs false
set_option maxRecDepth 10000
set_option maxHeartbeats 1000000
namespace Sm
open Go
-- BASE lossU
attribute [local irreducible] csem rsem dsem seqK blockK normK finK DK RK BR G3 resK Spec Tok Fr

/-- Where the first stands, or -1. -/
def firstIdx {α : Type} (f : α → Bool) (l : List α) : Int := if l.any f then (l.findIdx f : Int) else -1
theorem firstIdx_some {α : Type} {f : α → Bool} {l : List α} {i : Nat} (hi : i < l.length) (hf : f l[i] = true) (hb : ∀ j (hj : j < i), f (l[j]'(by omega)) = false) : firstIdx f l = i := by
  have h1 : l.any f = true := List.any_eq_true.mpr ⟨l[i], List.getElem_mem hi, hf⟩
  rw [firstIdx, if_pos h1]
  have : l.findIdx f = i := by
    rw [List.findIdx_eq hi]
    exact ⟨hf, fun j hj => by simpa using hb j hj⟩
  rw [this]
theorem firstIdx_none {α : Type} {f : α → Bool} {l : List α} (hb : ∀ j (hj : j < l.length), f l[j] = false) : firstIdx f l = -1 := by
  have : ¬ l.any f = true := by
    rw [List.any_eq_true]
    rintro ⟨x, hx, hf⟩
    obtain ⟨j, hj, rfl⟩ := List.getElem_of_mem hx
    rw [hb j hj] at hf; cases hf
  rw [firstIdx, if_neg this]

theorem idxP_spec (L : Linked code) (g : Nat) (caps : List HV) (f : Pk → Bool) (tk : Tk) (l : List Pk) (hl : l.length ≤ 1048576) (H : Heap) (hf : ∀ p K, K (B (f p)) H → Spec L.P L.ν g (enc p :: caps) H K) (K) (hk : K (I (firstIdx f l)) H) :
    Spec L.P L.ν 124 [.sl tk 4 (l.map enc), .fn g caps] H K := by
  refine go_spec L code124 rfl ?_
  repeat (refine gk lossU ?_)
  refine c_loop (Spec_SMono L) (fun (i : Nat) => [(0, .h (.sl tk 4 (l.map enc))), (1, .h (.fn g caps)), (7, .h (I l.length)), (8, .h (I i))]) (fun _ => [])
    (fun i H' => H' = H ∧ ∃ h : i ≤ l.length, ∀ j (hj : j < i), f (l[j]'(by omega)) = false) (fun i => l.length - i) 0 ?_ ⟨rfl, by omega, fun j hj => by omega⟩ ?_
  · (refine leM ?_ ?_ ?_ <;> (repeat refine leS trivial ?_) <;> exact leE)
  rintro i H' ⟨rfl, hi, hb⟩
  repeat (refine gk lossU ?_)
  (refine ct lossU ?_ ?_ <;> intro h)
  · have hi' : i < l.length := by simpa using h
    repeat (refine gk lossU ?_)
    apply r_callv; (focus rfl); (focus rfl)
    refine hf l[i] _ ?_
    repeat (refine gk lossU ?_)
    (refine ct lossU ?_ ?_ <;> intro h2)
    · repeat (refine gk lossU ?_)
      refine resK_some ?_
      rw [firstIdx_some hi' h2 hb] at hk
      exact hk
    · repeat (refine gk lossU ?_)
      refine k_n (i + 1) (by omega) ⟨rfl, by omega, fun j hj => ?_⟩ ?_
      · rcases Nat.lt_or_ge j i with h3 | h3
        · exact hb j h3
        · have : j = i := by omega
          subst this; exact h2
      · (refine leM ?_ ?_ ?_ <;> (repeat refine leS trivial ?_) <;> exact leE)
  · have hi' : i = l.length := by have : ¬ i < l.length := by simpa using h
                                  omega
    subst hi'
    repeat (refine gk lossU ?_)
    refine resK_some ?_
    rw [firstIdx_none hb] at hk
    exact hk
end Sm
