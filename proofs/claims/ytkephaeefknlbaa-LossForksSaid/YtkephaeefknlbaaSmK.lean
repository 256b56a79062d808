/-
  A layer of one's own: text K.
-/
import Derived.Test.YtkephaeefknlbaaSmM
set_option linter.unusedVariables false
set_option linter.unusedSimpArgs false
set_option linter.unnecessarySimpa false
namespace Sm
open Go
section
variable {P : Program} {ν : Nat → Option Nat} {w0 : World} {K0 : Nat → Nat} {H0 : Heap} {N : Nat} {e : Env} {H : Heap} {a : Act} {w : World} {K μ : Nat → Nat} {o : Oper}

/-- What an operation that only answers does. -/
def NdRun (P : Program) (ν : Nat → Option Nat) (K : Nat → Nat) (H : Heap) (a : Act) (w : World) (o : Oper) (R : HV → Prop) : Prop :=
  ∃ u w' K' h, (execOp a.eval o).run P w = .ok (.value u) w' ∧ Ext w K H w' K' H ∧ hsat ν w' K' H ∧ rep ν K' w' h u ∧ R h

theorem nd_isnil (hst : St ν w0 K0 H0 N e H a w K μ) {ne : Bool} {t x y yt x'} (ho : o.op = .binOp (if ne then .neq else .eql) t x y yt) (hy : isNilC y = true) (hk : okEq P t .slc = true) (hx : okOpd ν x x' = true) {hs} (hh : e.hvs [x'] = some hs) {R} (hR : ndR (.isnil ne) hs = some R) :
    NdRun P ν K H a w o R := by
  have hz : ∃ z, e.hv x' = some z ∧ hs = [z] := by
    simp only [Env.hvs] at hh
    split at hh
    · rename_i z zs h1 h2
      simp only [Option.some.injEq] at h2 hh; subst h2 hh
      exact ⟨z, h1, rfl⟩
    · cases hh
  obtain ⟨z, hz, rfl⟩ := hz
  have e1 := hv_sound hst hx hz
  have e2 : a.eval y = .slice none 0 0 := by
    unfold isNilC at hy
    split at hy
    · rfl
    · cases hy
  simp only [okEq] at hk
  split at hk
  · rename_i el hu
    have fin : ∀ A n c (r : Bool), a.eval x = .slice A n c → r = A.isNone → (execOp a.eval o).run P w = .ok (.value (.bool (if ne then !r else r))) w := by
      intro A n c r hA hr
      have h1 : (Op.equal t (.slice A n c) (.slice none 0 0)).run P w = .ok r w := by
        subst hr
        have h0 : ∀ d, (Op.equalIn (d + 1) t (.slice A n c) (.slice none 0 0)).run P w = .ok A.isNone w := by
          intro d; cases A <;> simp [Op.equalIn, run_underlying hu]
        exact h0 9999
      have g : ∀ op, eqGuard op t x y (.slice A n c) (.slice none 0 0) = pure () := fun op => by cases op <;> rfl
      have b1 : binOp .eql t (.slice A n c) (.slice none 0 0) = (do pure (.bool (← Op.equal t (.slice A n c) (.slice none 0 0)))) := rfl
      have b2 : binOp .neq t (.slice A n c) (.slice none 0 0) = (do pure (.bool (!(← Op.equal t (.slice A n c) (.slice none 0 0))))) := rfl
      cases ne <;> simp [execOp, ho, hA, e2, g, b1, b2, h1]
    unfold ndR at hR
    split at hR
    · simp only [Option.some.injEq] at hR; subst hR
      rename_i ne' n c _ hl
      simp only [List.cons.injEq, and_true] at hl; subst hl
      rename_i hne
      injection hne with hne; subst hne
      simp only [rep] at e1
      exact ⟨_, w, K, .v (.bool (if ne then !true else true)), fin _ _ _ true e1 rfl, Ext.refl _ _ _, hst.hs, by simp [rep], by cases ne <;> rfl⟩
    · simp only [Option.some.injEq] at hR; subst hR
      rename_i ne' tk sz es _ hl
      simp only [List.cons.injEq, and_true] at hl; subst hl
      rename_i hne
      injection hne with hne; subst hne
      simp only [rep] at e1
      obtain ⟨A, cap, vals, g1, g2, g3, g4, g5, g6, g7, g8⟩ := e1
      refine ⟨_, w, K, .v (.bool (if ne then !A.isNone else A.isNone)), fin _ _ _ A.isNone g1 rfl, Ext.refl _ _ _, hst.hs, by simp [rep], A.isNone, fun ha => ?_, rfl⟩
      rcases g8 with g8 | ⟨b, off, hA, _⟩
      · exact g8
      · subst hA; cases ha
    · cases hR
  · cases hk

theorem st_nd (hst : St ν w0 K0 H0 N e H a w K μ) {f : NdOp} {xs : List Opd} (hk : chkNd P ν o.op f xs = true) {Kc : EV → Env → Heap → Prop} (hs : (SOp.nd f xs).step (Spec P ν) e H Kc)
    {next : Act → World → Prop} {Q} (hK : Next' ν w0 K0 H0 N a o.dst Kc next) : o.upon P a next Q ((execOp a.eval o).run P w) := by
  simp only [SOp.step] at hs
  split at hs
  · rename_i R hR
    obtain ⟨zs, hz, hR2⟩ := Option.bind_eq_some_iff.1 hR
    have key : NdRun P ν K H a w o R := by
      unfold chkNd at hk
      split at hk
      · rename_i ho
        simp only [Bool.and_eq_true, decide_eq_true_eq] at hk
        obtain ⟨⟨⟨k1, k2⟩, k3⟩, k4⟩ := hk
        subst k1
        exact nd_isnil hst ho k2 k3 k4 hz hR2
      · cases hk
    obtain ⟨u, w', K', h, h1, h2, h3, h4, h5⟩ := key
    rw [h1]
    apply upon_value
    exact hK _ _ _ (hs h h5) _ _ _ _ (hst.step h2 h3) h4 trivial
  · exact hs.elim
end
end Sm
