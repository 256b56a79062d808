/-
  PROVED: 'Rows.LossNextSaid': for every input the law 'LossNext' returns true and each argument reads behind the call as it read before.
  No condition beyond the row's own.
-/
import Derived.Test.YtkephaeefknlbaaSmG3
import Derived.Test.YtkephaeefknlbaaSmL19
import Derived.Test.YtkephaeefknlbaaRows
set_option linter.unusedVariables false
namespace Go.Proofs.Ytkephaeefknlbaa.lossNext
open Go.ChangeShapes Go.WideShapes Go.ChangeAt Go.RowKit

theorem laid : laidOutB Try.prog = true := by kernel_rfl
theorem own : ownKnob Try.prog.godebug = none := by kernel_rfl

theorem walk (l0 : List Sm.Act) (v0 : Value) (a1 : Int) (w1 : (Lit.int .u32 a1).wf = true) (w : World) (hr0 : Sm.repL Sm.nu (Sm.sizes' w) w [.sl .no 8 (l0.map fun a => .ag (Sm.fA a))] [v0]) :
    Calls Try.prog 3 #[v0, .int .u32 a1] w fun e w' => e = .returned (.bool true) ∧ Grown w w' ∧ Below w.heap.size w w' := by
  have b1 : 0 ≤ a1 ∧ a1 ≤ 4294967295 := by simp only [Lit.wf, Bool.and_eq_true, decide_eq_true_eq] at w1; exact w1
  refine Sm.walk_of (P := Try.prog) (ν := Sm.nu) (g := 143) (us := [v0, .int .u32 a1]) rfl (Sm.nextlaw_spec Sm.linked .no l0 a1 b1 _ _ rfl) ?_
  simp only [Sm.repL]
  simp only [Sm.repL] at hr0
  obtain ⟨u0, us0, e0, h0, rfl⟩ := hr0
  cases e0
  exact ⟨_, _, rfl, h0, ⟨_, _, rfl, by simp [Sm.rep], rfl⟩⟩

set_option maxRecDepth 100000 in
theorem lifted (os : Os) (started : os.Started) (H : Type) (enc : TypeId × Value → H) :
    ReturnsInHanded {} Try.checked os 3 .any (Rows.lossNextSpec.pre6 enc Try.prog Try.f3 Rows.lossNextRow.domain false) (Rows.lossNextSpec.post enc Try.prog Try.f3 false true false false) := by
  refine returnsInHanded_of_change (C := Try.checked) own started (by kernel_rfl) Try.func3
    (ChangeSpec.witness6 (enc := enc) (C := Try.checked) false ⟨#[], #[.slice none 0 0, .int .u32 0], []⟩ 8 (by kernel_rfl) (by kernel_rfl) (by kernel_rfl) (by kernel_rfl)) ?_
  intro W base args ds gs before hval0 hW hcnd _
  have hval : ∀ (j : Nat) t v, Try.f3.params[j]? = some t → args[j]? = some v → Value.okWide Try.prog W .any base t v := hval0
  have hW' := hW
  obtain ⟨p, q, hA0, hV, rfl, hfz, hnd⟩ := hW
  have hA : DataW.TrodAll enc Try.prog W 0 (fun _ => true) true Try.f3.params.toList args.toList ds p := hA0
  rw [Try.params3] at hA hval
  obtain ⟨v0, vs0, d0, ds0, p0, q0, hargs, rfl, rfl, h0, r0⟩ := trodAll_cons hA
  obtain ⟨v1, vs1, d1, ds1, p1, q1, rfl, rfl, rfl, h1, r1⟩ := trodAll_cons r0
  obtain ⟨rfl, rfl, rfl⟩ := trodAll_nil r1
  obtain rfl : args = #[v0, v1] := by cases args; simp_all
  obtain ⟨rfl, rfl⟩ := trodVars_none hV
  obtain ⟨A0, len0, cap0, rfl⟩ := okWide_slice Try.underlying22 (hval 0 22 v0 rfl rfl)
  obtain ⟨fu0, hfu0⟩ := id h0
  obtain ⟨l0, hr0⟩ := Sm.open_sl (ν := Sm.nu) Sm.fA 8 (by decide) Try.underlying22 Sm.cells38 (fun n cs' y hy => Sm.act_open hy) hfu0
  obtain ⟨a1, rfl, rfl, rfl, w1⟩ := open_int Try.underlying23 (hval 1 23 v1 rfl rfl) h1
  clear hA0 hval0
  simp only [List.append_nil] at hW'
  refine (walk l0 _ a1 w1 W hr0).mono fun e W' ⟨he, hg, hb⟩ => ?_
  subst he
  have hltp0 : ∀ x ∈ p0, x.block < W.heap.size := fun x hx => by simpa using hW'.lt x (by simp [hx])
  exact ⟨_, rfl, post_of_same (pa := p0) (pv := []) hW' (fun _ _ _ => (trodAll_cons_mk (shut_bool Try.underlying4 _) trodAll_mk0)) (fun sp hsp => by
      have := (trodAll_cons_mk (WideElems.Trod_stays laid (by kernel_rfl) (of_decide_eq_true (by kernel_rfl)) h0 (fun x hx => hb.same (hltp0 x hx)) (fun x hx => hsp x (by simp [hx]))) (trodAll_cons_mk (shut_int (w := W') (base := 0) (spare := sp) (held := true) (enc := enc) Try.underlying23 w1) trodAll_mk0))
      simp only [List.append_nil] at this
      exact this) (fun _ _ => rfl) (by simp)
    (hg.frame _) hg.2.1 (ok_one (by kernel_rfl) rfl (okWide_bool_mk Try.underlying4 _))⟩

theorem over : Rows.lossNextRow.holds Try.pinned (OpenSpec.ofChange Rows.lossNextSpec) :=
  OpenClaim.holds_of_wide 3 Try.f3 rfl rfl rfl rfl rfl rfl rfl ⟨rfl, rfl, rfl, rfl, rfl⟩ rfl rfl rfl rfl rfl (by kernel_rfl) Try.func3 (by kernel_rfl)
    (of_decide_eq_true (by kernel_rfl)) (by unfold Func.isWrapper; first | (rw [if_pos (by decide +kernel)]; kernel_rfl) | (rw [if_neg (by decide +kernel)]; exact ⟨rfl, rfl⟩))
    (fun os started H enc _ => lifted os started H enc)

end Go.Proofs.Ytkephaeefknlbaa.lossNext

namespace Go.Proofs.Ytkephaeefknlbaa
/-- The statement. -/
theorem lossNextHolds : Rows.LossNextSaid := lossNext.over
#print axioms lossNextHolds
end Go.Proofs.Ytkephaeefknlbaa
