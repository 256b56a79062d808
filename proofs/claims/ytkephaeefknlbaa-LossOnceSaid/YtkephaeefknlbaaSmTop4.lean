/-
  PROVED: 'Rows.LossOnceSaid': for every input the law 'LossOnce' returns true and each argument reads behind the call as it read before.
  No condition beyond the row's own.
-/
import Derived.Test.YtkephaeefknlbaaSmG3
import Derived.Test.YtkephaeefknlbaaSmL21
import Derived.Test.YtkephaeefknlbaaRows
set_option linter.unusedVariables false
namespace Go.Proofs.Ytkephaeefknlbaa.lossOnce
open Go.ChangeShapes Go.WideShapes Go.ChangeAt Go.RowKit

theorem laid : laidOutB Try.prog = true := by kernel_rfl
theorem own : ownKnob Try.prog.godebug = none := by kernel_rfl

theorem walk (l0 : List Sm.Act) (v0 : Value) (w : World) (hr0 : Sm.repL Sm.nu (Sm.sizes' w) w [.sl .no 8 (l0.map fun a => .ag (Sm.fA a))] [v0]) :
    Calls Try.prog 4 #[v0] w fun e w' => e = .returned (.bool true) ∧ Grown w w' ∧ Below w.heap.size w w' := by
  refine Sm.walk_of (P := Try.prog) (ν := Sm.nu) (g := 144) (us := [v0]) rfl (Sm.once_spec Sm.linked .no l0 _ _ rfl) ?_
  simp only [Sm.repL]
  simp only [Sm.repL] at hr0
  obtain ⟨u0, us0, e0, h0, rfl⟩ := hr0
  cases e0
  exact ⟨_, _, rfl, h0, rfl⟩

set_option maxRecDepth 100000 in
theorem lifted (os : Os) (started : os.Started) (H : Type) (enc : TypeId × Value → H) :
    ReturnsInHanded {} Try.checked os 4 .any (Rows.lossOnceSpec.pre6 enc Try.prog Try.f4 Rows.lossOnceRow.domain false) (Rows.lossOnceSpec.post enc Try.prog Try.f4 false true false false) := by
  refine returnsInHanded_of_change (C := Try.checked) own started (by kernel_rfl) Try.func4
    (ChangeSpec.witness6 (enc := enc) (C := Try.checked) false ⟨#[], #[.slice none 0 0], []⟩ 8 (by kernel_rfl) (by kernel_rfl) (by kernel_rfl) (by kernel_rfl)) ?_
  intro W base args ds gs before hval0 hW hcnd _
  have hval : ∀ (j : Nat) t v, Try.f4.params[j]? = some t → args[j]? = some v → Value.okWide Try.prog W .any base t v := hval0
  have hW' := hW
  obtain ⟨p, q, hA0, hV, rfl, hfz, hnd⟩ := hW
  have hA : DataW.TrodAll enc Try.prog W 0 (fun _ => true) true Try.f4.params.toList args.toList ds p := hA0
  rw [Try.params4] at hA hval
  obtain ⟨v0, vs0, d0, ds0, p0, q0, hargs, rfl, rfl, h0, r0⟩ := trodAll_cons hA
  obtain ⟨rfl, rfl, rfl⟩ := trodAll_nil r0
  obtain rfl : args = #[v0] := by cases args; simp_all
  obtain ⟨rfl, rfl⟩ := trodVars_none hV
  obtain ⟨A0, len0, cap0, rfl⟩ := okWide_slice Try.underlying22 (hval 0 22 v0 rfl rfl)
  obtain ⟨fu0, hfu0⟩ := id h0
  obtain ⟨l0, hr0⟩ := Sm.open_sl (ν := Sm.nu) Sm.fA 8 (by decide) Try.underlying22 Sm.cells38 (fun n cs' y hy => Sm.act_open hy) hfu0
  clear hA0 hval0
  simp only [List.append_nil] at hW'
  refine (walk l0 _ W hr0).mono fun e W' ⟨he, hg, hb⟩ => ?_
  subst he
  have hltp0 : ∀ x ∈ p0, x.block < W.heap.size := fun x hx => by simpa using hW'.lt x (by simp [hx])
  exact ⟨_, rfl, post_of_same (pa := p0) (pv := []) hW' (fun _ _ _ => (trodAll_cons_mk (shut_bool Try.underlying4 _) trodAll_mk0)) (fun sp hsp => by
      have := (trodAll_cons_mk (WideElems.Trod_stays laid (by kernel_rfl) (of_decide_eq_true (by kernel_rfl)) h0 (fun x hx => hb.same (hltp0 x hx)) (fun x hx => hsp x (by simp [hx]))) trodAll_mk0)
      simp only [List.append_nil] at this
      exact this) (fun _ _ => rfl) (by simp)
    (hg.frame _) hg.2.1 (ok_one (by kernel_rfl) rfl (okWide_bool_mk Try.underlying4 _))⟩

theorem over : Rows.lossOnceRow.holds Try.pinned (OpenSpec.ofChange Rows.lossOnceSpec) :=
  OpenClaim.holds_of_wide 4 Try.f4 rfl rfl rfl rfl rfl rfl rfl ⟨rfl, rfl, rfl, rfl, rfl⟩ rfl rfl rfl rfl rfl (by kernel_rfl) Try.func4 (by kernel_rfl)
    (of_decide_eq_true (by kernel_rfl)) (by unfold Func.isWrapper; first | (rw [if_pos (by decide +kernel)]; kernel_rfl) | (rw [if_neg (by decide +kernel)]; exact ⟨rfl, rfl⟩))
    (fun os started H enc _ => lifted os started H enc)

end Go.Proofs.Ytkephaeefknlbaa.lossOnce

namespace Go.Proofs.Ytkephaeefknlbaa
/-- The statement. -/
theorem lossOnceHolds : Rows.LossOnceSaid := lossOnce.over
#print axioms lossOnceHolds
end Go.Proofs.Ytkephaeefknlbaa
