/-
  PROVED: 'Rows.LossThreeSaid': for every input the law 'LossThree' returns true and each argument reads behind the call as it read before.
  No condition beyond the row's own.
-/
import Derived.Test.YtkephaeefknlbaaSmLink
import Derived.Test.YtkephaeefknlbaaSmL9
import Derived.Test.YtkephaeefknlbaaRows
import Derived.WalkKit
import Derived.ProofKit
import Derived.OpenShut
set_option linter.unusedVariables false
namespace Sm
open Go

/-- The blocks' sizes. -/
def sizes (w : World) (b : Nat) : Nat := match w.heap[b]? with
  | some (.cells c _ _) => c.size
  | _ => 0
def noRes : Heap := fun _ => none
theorem hsat_start (ν : Nat → Option Nat) (w : World) : hsat ν w (sizes w) noRes :=
  ⟨fun b r h => (by cases h), fun b hb => (by simp only [sizes, Array.getElem?_eq_none hb])⟩
theorem frozen_none {w : World} {a : Addr} (h : w.heap.size ≤ a.block) : w.frozen? a = false := by
  rw [World.frozen?, Array.getElem?_eq_none h]
theorem keptSame {w w' : World} (h1 : w'.os = w.os) (h2 : w'.output = w.output) (h : ∀ i, i < w.heap.size → w'.heap[i]? = w.heap[i]?) : w.keptBut w' (fun _ => False) := by
  refine ⟨h1, h2, fun i hi => ?_⟩
  rw [h i hi]
  split
  · rename_i c t fr c' t' fr' e1 e2
    rw [e1] at e2; cases e2
    exact ⟨rfl, rfl, rfl, fun _ _ => rfl⟩
  · rename_i es cl es' cl' e1 e2
    rw [e1] at e2; cases e2
    exact .inr ⟨rfl, rfl⟩
  · rfl
theorem Ext.grown {w w' : World} {K K' : Nat → Nat} {H' : Heap} (h : Ext w K noRes w' K' H') : RowKit.Grown w w' := by
  refine ⟨keptSame h.os h.output fun i hi => (h.same i hi rfl).1, fun a => ?_, h.size⟩
  rcases Nat.lt_or_ge a.block w.heap.size with hl | hl
  · rw [World.frozen?, World.frozen?, (h.same a.block hl rfl).1]
  · rw [frozen_none hl]
    exact h.fz a (frozen_none hl)
/-- From a contract that answers true to the walk of a law. -/
theorem walk_of {P : Program} {ν : Nat → Option Nat} {g n : Nat} {args : List HV} {us : List Value} {w : World} (hn : ν n = some g) (hS : Spec P ν g args noRes fun r _ => r = B true) (hr : repL ν (sizes w) w args us) :
    Calls P n us.toArray w fun e w' => e = .returned (.bool true) ∧ RowKit.Grown w w' := by
  refine (hS n hn w (sizes w) us (hsat_start ν w) hr).mono fun e w' ⟨u, h, H', K', e1, e2, e3, e4, e5⟩ => ?_
  subst e5
  have : u = .bool true := by simpa [rep] using e2
  subst this
  exact ⟨e1, e4.grown⟩
end Sm

namespace Go.Proofs.Ytkephaeefknlbaa.lossThree
open Go.ChangeShapes Go.WideShapes Go.ChangeAt Go.RowKit

theorem own : ownKnob Try.prog.godebug = none := by kernel_rfl

theorem walk (a0 : Int) (a1 : Int) (a2 : Int) (w0 : (Lit.int .u8 a0).wf = true) (w1 : (Lit.int .u8 a1).wf = true) (w2 : (Lit.int .u16 a2).wf = true) (w : World) :
    Calls Try.prog 5 #[.int .u8 a0, .int .u8 a1, .int .u16 a2] w fun e w' => e = .returned (.bool true) ∧ Grown w w' := by
  have b0 : 0 ≤ a0 ∧ a0 ≤ 255 := by simp only [Lit.wf, Bool.and_eq_true, decide_eq_true_eq] at w0; exact w0
  have b1 : 0 ≤ a1 ∧ a1 ≤ 255 := by simp only [Lit.wf, Bool.and_eq_true, decide_eq_true_eq] at w1; exact w1
  have b2 : 0 ≤ a2 ∧ a2 ≤ 65535 := by simp only [Lit.wf, Bool.and_eq_true, decide_eq_true_eq] at w2; exact w2
  exact Sm.walk_of (P := Try.prog) (ν := Sm.nu) (g := 145) (us := [.int .u8 a0, .int .u8 a1, .int .u16 a2]) rfl (Sm.three_spec Sm.linked a0 a1 a2 b0 b1 b2 _ _ rfl) (by simp [Sm.repL, Sm.rep])

set_option maxRecDepth 100000 in
theorem lifted (os : Os) (started : os.Started) (H : Type) (enc : TypeId × Value → H) :
    ReturnsInHanded {} Try.checked os 5 .any (Rows.lossThreeSpec.pre6 enc Try.prog Try.f5 Rows.lossThreeRow.domain false) (Rows.lossThreeSpec.post enc Try.prog Try.f5 false true false false) := by
  refine returnsInHanded_of_change (C := Try.checked) own started (by kernel_rfl) Try.func5
    (ChangeSpec.witness6 (enc := enc) (C := Try.checked) false ⟨#[], #[.int .u8 0, .int .u8 0, .int .u16 0], []⟩ 8 (by kernel_rfl) (by kernel_rfl) (by kernel_rfl) (by kernel_rfl)) ?_
  intro W base args ds gs before hval0 hW hcnd _
  have hval : ∀ (j : Nat) t v, Try.f5.params[j]? = some t → args[j]? = some v → Value.okWide Try.prog W .any base t v := hval0
  have hW' := hW
  obtain ⟨p, q, hA0, hV, rfl, hfz, hnd⟩ := hW
  have hA : DataW.TrodAll enc Try.prog W 0 (fun _ => true) true Try.f5.params.toList args.toList ds p := hA0
  rw [Try.params5] at hA hval
  obtain ⟨v0, vs0, d0, ds0, p0, q0, hargs, rfl, rfl, h0, r0⟩ := trodAll_cons hA
  obtain ⟨v1, vs1, d1, ds1, p1, q1, rfl, rfl, rfl, h1, r1⟩ := trodAll_cons r0
  obtain ⟨v2, vs2, d2, ds2, p2, q2, rfl, rfl, rfl, h2, r2⟩ := trodAll_cons r1
  obtain ⟨rfl, rfl, rfl⟩ := trodAll_nil r2
  obtain rfl : args = #[v0, v1, v2] := by cases args; simp_all
  obtain ⟨rfl, rfl⟩ := trodVars_none hV
  obtain ⟨a0, rfl, rfl, rfl, w0⟩ := open_int Try.underlying5 (hval 0 5 v0 rfl rfl) h0
  obtain ⟨a1, rfl, rfl, rfl, w1⟩ := open_int Try.underlying5 (hval 1 5 v1 rfl rfl) h1
  obtain ⟨a2, rfl, rfl, rfl, w2⟩ := open_int Try.underlying51 (hval 2 51 v2 rfl rfl) h2
  clear hA0 hval0
  simp only [List.append_nil] at hW'
  refine (walk a0 a1 a2 w0 w1 w2 W).mono fun e W' ⟨he, hg⟩ => ?_
  subst he
  exact ⟨_, rfl, post_of_same (pa := []) (pv := []) hW' (fun _ _ _ => (trodAll_cons_mk (shut_bool Try.underlying4 _) trodAll_mk0)) (fun sp _ => (trodAll_cons_mk (shut_int Try.underlying5 w0) (trodAll_cons_mk (shut_int Try.underlying5 w1) (trodAll_cons_mk (shut_int Try.underlying51 w2) trodAll_mk0)))) (fun _ _ => rfl) rfl
    (hg.frame _) hg.2.1 (ok_one (by kernel_rfl) rfl (okWide_bool_mk Try.underlying4 _))⟩

theorem over : Rows.lossThreeRow.holds Try.pinned (OpenSpec.ofChange Rows.lossThreeSpec) :=
  OpenClaim.holds_of_wide 5 Try.f5 rfl rfl rfl rfl rfl rfl rfl ⟨rfl, rfl, rfl, rfl, rfl⟩ rfl rfl rfl rfl rfl (by kernel_rfl) Try.func5 (by kernel_rfl)
    (of_decide_eq_true (by kernel_rfl)) (by unfold Func.isWrapper; first | (rw [if_pos (by decide +kernel)]; kernel_rfl) | (rw [if_neg (by decide +kernel)]; exact ⟨rfl, rfl⟩))
    (fun os started H enc _ => lifted os started H enc)

end Go.Proofs.Ytkephaeefknlbaa.lossThree

namespace Go.Proofs.Ytkephaeefknlbaa
/-- The statement. -/
theorem lossThreeHolds : Rows.LossThreeSaid := lossThree.over
#print axioms lossThreeHolds
end Go.Proofs.Ytkephaeefknlbaa
