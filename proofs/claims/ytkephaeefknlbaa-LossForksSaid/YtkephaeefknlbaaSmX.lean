/-
  A layer of one's own: text X.
-/
import Derived.Test.YtkephaeefknlbaaSmW
import Derived.IntWalk
set_option linter.unusedVariables false
set_option linter.unusedSimpArgs false
set_option linter.unnecessarySimpa false
namespace Sm
open Go

theorem Weak.refl (h : HV) : Weak h h := fun _ _ _ _ h => h
theorem Weak.trans {a b c : HV} (h : Weak a b) (k : Weak b c) : Weak a c := fun ν K w u x => k ν K w u (h ν K w u x)
theorem Weak.nil (sz : Nat) : Weak (.v (.slice none 0 0)) (.sl .full sz []) := by
  intro ν K w u hr
  simp only [rep] at hr ⊢
  exact ⟨none, 0, [], hr, by simp, by simp, rfl, rfl, by simp, by simp [repL], by simp⟩
theorem Weak.drop (tk : Tk) (sz : Nat) (es : List HV) : Weak (.sl tk sz es) (.sl .no sz es) := by
  intro ν K w u hr
  simp only [rep] at hr ⊢
  obtain ⟨A, cap, vals, h1, h2, h3, h4, h5⟩ := hr
  exact ⟨A, cap, vals, h1, h2, h3, trivial, h5⟩
theorem Weak.nil' (sz : Nat) : Weak (.v (.slice none 0 0)) (.sl .no sz []) := (Weak.nil sz).trans (Weak.drop _ _ _)
theorem WeakL.refl : ∀ (l : List HV), WeakL l l
  | [] => trivial
  | a :: l => ⟨Weak.refl a, WeakL.refl l⟩
theorem Weak.ag {as bs : List HV} (h : WeakL as bs) (h1 : bs.all HV.one = true) : Weak (.ag as) (.ag bs) := by
  intro ν K w u hr
  simp only [rep] at hr ⊢
  obtain ⟨us, g1, g2, g3⟩ := hr
  exact ⟨us, g1, h1, repL_weak h g3⟩
theorem Weak.tu {as bs : List HV} (h : WeakL as bs) : Weak (.tu as) (.tu bs) := by
  intro ν K w u hr
  simp only [rep] at hr ⊢
  obtain ⟨us, g1, g3⟩ := hr
  exact ⟨us, g1, repL_weak h g3⟩

theorem Heap.sub_refl (H : Heap) : H.sub H := fun _ r h => ⟨r, h, .inl rfl⟩
theorem Heap.upd_same (H : Heap) (b : Nat) (r : Option Res) : (H.upd b r) b = r := by simp [Heap.upd]
theorem Heap.upd_ne (H : Heap) {a b : Nat} (r : Option Res) (h : a ≠ b) : (H.upd b r) a = H a := by simp [Heap.upd, h]
theorem Heap.upd_upd (H : Heap) (b : Nat) (r r' : Option Res) : (H.upd b r).upd b r' = H.upd b r' := by
  funext a; simp only [Heap.upd]; split <;> rfl
theorem Heap.upd_self (H : Heap) (b : Nat) (r : Option Res) (h : H b = r) : H.upd b r = H := by
  funext a; simp only [Heap.upd]; split
  · rename_i e; subst e; exact h.symm
  · rfl
/-- What is new may be forgotten. -/
theorem Heap.sub_new {H : Heap} {b : Nat} {r : Option Res} (h : H b = none) : H.sub (H.upd b r) := by
  intro a x ha
  refine ⟨x, ?_, .inl rfl⟩
  have : a ≠ b := by rintro rfl; rw [h] at ha; cases ha
  simp [Heap.upd, this, ha]
theorem Heap.sub_trans {H1 H2 H3 : Heap} (h : H1.sub H2) (k : ∀ b r, H2 b = some r → H3 b = some r) : H1.sub H3 := by
  intro b r hb
  obtain ⟨r', h1, h2⟩ := h b r hb
  exact ⟨r', k b r' h1, h2⟩

theorem wrap_in {n : Int} (h0 : -9223372036854775808 ≤ n) (h1 : n ≤ 9223372036854775807) : IntKind.i64.wrap n = n := IntWalk.i64_in n ⟨h0, h1⟩

end Sm
