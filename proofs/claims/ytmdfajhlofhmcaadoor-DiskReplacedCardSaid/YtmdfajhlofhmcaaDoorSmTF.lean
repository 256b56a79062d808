/-
  A layer of one's own: texts T26,T27.
-/
import Derived.Test.YtmdfajhlofhmcaaDoorSmTE
set_option linter.unusedVariables false
set_option linter.unusedSimpArgs false
set_option maxRecDepth 10000
set_option maxHeartbeats 1000000
namespace Sm
open Go
-- BASE entU
theorem bl_trans : ∀ {a b c : List UInt8}, Op.bytesLess a b = true → Op.bytesLess b c = true → Op.bytesLess a c = true
  | [], [], _, h, _ => by simp [Op.bytesLess] at h
  | [], _ :: _, [], _, h => by simp [Op.bytesLess] at h
  | [], _ :: _, _ :: _, _, _ => by simp [Op.bytesLess]
  | _ :: _, [], _, h, _ => by simp [Op.bytesLess] at h
  | _ :: _, _ :: _, [], _, h => by simp [Op.bytesLess] at h
  | x :: a, y :: b, z :: c, h1, h2 => by
    have ih := @bl_trans a b c
    simp only [Op.bytesLess] at h1 h2 ⊢
    simp only [Bool.or_eq_true, decide_eq_true_eq, Bool.and_eq_true, beq_iff_eq, UInt8.lt_iff_toNat_lt] at h1 h2 ⊢
    rcases h1 with h1 | ⟨rfl, h1⟩
    · rcases h2 with h2 | ⟨rfl, h2⟩
      · exact .inl (by omega)
      · exact .inl h1
    · rcases h2 with h2 | ⟨rfl, h2⟩
      · exact .inl h2
      · exact .inr ⟨rfl, ih h1 h2⟩
theorem cmpS_lt2 {a b : List UInt8} : cmpS a b < 0 ↔ Op.bytesLess a b = true := by
  unfold cmpS
  cases h : Op.bytesLess a b
  · simp only [Bool.false_eq_true, if_false, iff_false]
    split <;> omega
  · simp
theorem cmpL_refl : ∀ x : List (List UInt8), cmpL x x = 0
  | [] => rfl
  | a :: x => by rw [cmpL, if_pos (cmpS_eq.mpr rfl), cmpL_refl x]
theorem cmpL_trans : ∀ {x y z : List (List UInt8)}, cmpL x y < 0 → cmpL y z < 0 → cmpL x z < 0
  | [], [], _, h, _ => by rw [cmpL] at h; omega
  | [], _ :: _, [], _, h => by rw [cmpL] at h; omega
  | [], _ :: _, _ :: _, _, _ => by rw [cmpL]; decide
  | _ :: _, [], _, h, _ => by rw [cmpL] at h; omega
  | _ :: _, _ :: _, [], _, h => by rw [cmpL] at h; omega
  | a :: x, b :: y, c :: z, h1, h2 => by
    have ih := @cmpL_trans x y z
    rw [cmpL] at h1 h2 ⊢
    by_cases e1 : cmpS a b = 0
    · rw [if_pos e1] at h1
      have e1' := cmpS_eq.mp e1
      subst e1'
      by_cases e2 : cmpS a c = 0
      · rw [if_pos e2] at h2 ⊢; exact ih h1 h2
      · rw [if_neg e2] at h2 ⊢; exact h2
    · rw [if_neg e1] at h1
      by_cases e2 : cmpS b c = 0
      · rw [if_pos e2] at h2
        have e2' := cmpS_eq.mp e2
        subst e2'
        rw [if_neg e1]; exact h1
      · rw [if_neg e2] at h2
        have h3 := cmpS_lt2.mpr (bl_trans (cmpS_lt2.mp h1) (cmpS_lt2.mp h2))
        rw [if_neg (by omega)]; exact h3
theorem lessP_irr (a : List UInt8) : lessP a a = false := by simp [lessP, cmpL_refl]
theorem lessP_trans {a b c : List UInt8} (h1 : lessP a b = true) (h2 : lessP b c = true) : lessP a c = true := by
  simp only [lessP, decide_eq_true_eq] at *
  exact cmpL_trans h1 h2
end Sm

set_option linter.unusedVariables false
set_option linter.unusedSimpArgs false
set_option maxRecDepth 10000
set_option maxHeartbeats 1000000
namespace Sm
open Go
-- BASE entU
/-- How many children there are till a place. -/
def riseN (l : List Ent) (i : Nat) : Nat := (chl l []).length + ((l.take i).map fun e => (chl l e.path).length).sum
end Sm
