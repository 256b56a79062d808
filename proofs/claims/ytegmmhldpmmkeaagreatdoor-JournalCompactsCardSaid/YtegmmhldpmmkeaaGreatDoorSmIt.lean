/-
  It
-/
import Derived.Test.YtegmmhldpmmkeaaGreatDoorSmJJ
import Derived.Lib.ItoaNum
set_option linter.unusedVariables false
namespace Sm
open Go
def ItAt (P : Program) (nn : Nat) : Prop := ∀ (i : Nat), i < 100 → ∀ w, Calls P nn #[.int .i64 i] w fun e w' => e = .returned (.string ⟨(Lib.decDigits i).toArray⟩) ∧ w' = w
theorem dec_eq : ∀ i : Fin 100, Lib.decDigits i.1 = decB i.1 := by decide +kernel
theorem it_spec {code : Nat → SF} (L : Linked code) (hs : ∀ nn, L.ν nn = some 428 → ItAt L.P nn) (n : Nat) (hn : n < 100) (H : Heap) (K : HV → Heap → Prop) (hk : ∀ X, Fr [] H X → K (S (decB n)) X) : Spec L.P L.ν 428 [I n] H K := by
 intro nn hnn w Kk us hst hr
 obtain ⟨u1, us1, rfl, r1, hr⟩ := hr
 simp only [repL] at hr
 subst hr
 have r1' : u1 = .int .i64 (n : Int) := r1
 subst r1'
 refine (hs nn hnn.1 n hn w).mono ?_
 rintro e w' ⟨rfl, rfl⟩
 have e1 := dec_eq ⟨n, hn⟩
 refine ⟨_, S (decB n), H, Kk, rfl, ?_, hst, Ext.refl _ _ _, hk H (Fr.refl _ _)⟩
 show Value.string _ = _
 rw [← e1]
end Sm
