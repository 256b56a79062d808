/-
  PROVED: 'Rows.LossForksSaid': for every input the law 'LossForks' returns true and each argument reads behind the call as it read before.
  No condition beyond the row's own.
-/
import Derived.Test.YtkephaeefknlbaaSmG3
import Derived.Test.YtkephaeefknlbaaSmL24
import Derived.Test.YtkephaeefknlbaaRows
set_option linter.unusedVariables false
namespace Go.Proofs.Ytkephaeefknlbaa.lossForks
open Go.ChangeShapes Go.WideShapes Go.ChangeAt Go.RowKit

theorem laid : laidOutB Try.prog = true := by kernel_rfl
theorem own : ownKnob Try.prog.godebug = none := by kernel_rfl

theorem walk (l0 : List Sm.Act) (v0 : Value) (l1 : List Sm.Act) (v1 : Value) (w : World) (hr0 : Sm.repL Sm.nu (Sm.sizes' w) w [.sl .no 8 (l0.map fun a => .ag (Sm.fA a))] [v0]) (hr1 : Sm.repL Sm.nu (Sm.sizes' w) w [.sl .no 8 (l1.map fun a => .ag (Sm.fA a))] [v1]) :
    Calls Try.prog 7 #[v0, v1] w fun e w' => e = .returned (.bool true) ∧ Grown w w' ∧ Below w.heap.size w w' := by
  refine Sm.walk_of (P := Try.prog) (ν := Sm.nu) (g := 147) (us := [v0, v1]) rfl (Sm.forks_spec Sm.linked .no .no l0 l1 _ _ rfl) ?_
  simp only [Sm.repL]
  simp only [Sm.repL] at hr0
  obtain ⟨u0, us0, e0, h0, rfl⟩ := hr0
  cases e0
  simp only [Sm.repL] at hr1
  obtain ⟨u1, us1, e1, h1, rfl⟩ := hr1
  cases e1
  exact ⟨_, _, rfl, h0, ⟨_, _, rfl, h1, rfl⟩⟩

set_option maxRecDepth 100000 in
theorem lifted (os : Os) (started : os.Started) (H : Type) (enc : TypeId × Value → H) :
    ReturnsInHanded {} Try.checked os 7 .any (Rows.lossForksSpec.pre6 enc Try.prog Try.f7 Rows.lossForksRow.domain false) (Rows.lossForksSpec.post enc Try.prog Try.f7 false true false false) := by
  refine returnsInHanded_of_change (C := Try.checked) own started (by kernel_rfl) Try.func7
    (ChangeSpec.witness6 (enc := enc) (C := Try.checked) false ⟨#[], #[.slice none 0 0, .slice none 0 0], []⟩ 8 (by kernel_rfl) (by kernel_rfl) (by kernel_rfl) (by kernel_rfl)) ?_
  intro W base args ds gs before hval0 hW hcnd _
  have hval : ∀ (j : Nat) t v, Try.f7.params[j]? = some t → args[j]? = some v → Value.okWide Try.prog W .any base t v := hval0
  have hW' := hW
  obtain ⟨p, q, hA0, hV, rfl, hfz, hnd⟩ := hW
  have hA : DataW.TrodAll enc Try.prog W 0 (fun _ => true) true Try.f7.params.toList args.toList ds p := hA0
  rw [Try.params7] at hA hval
  obtain ⟨v0, vs0, d0, ds0, p0, q0, hargs, rfl, rfl, h0, r0⟩ := trodAll_cons hA
  obtain ⟨v1, vs1, d1, ds1, p1, q1, rfl, rfl, rfl, h1, r1⟩ := trodAll_cons r0
  obtain ⟨rfl, rfl, rfl⟩ := trodAll_nil r1
  obtain rfl : args = #[v0, v1] := by cases args; simp_all
  obtain ⟨rfl, rfl⟩ := trodVars_none hV
  obtain ⟨A0, len0, cap0, rfl⟩ := okWide_slice Try.underlying22 (hval 0 22 v0 rfl rfl)
  obtain ⟨fu0, hfu0⟩ := id h0
  obtain ⟨l0, hr0⟩ := Sm.open_sl (ν := Sm.nu) Sm.fA 8 (by decide) Try.underlying22 Sm.cells38 (fun n cs' y hy => Sm.act_open hy) hfu0
  obtain ⟨A1, len1, cap1, rfl⟩ := okWide_slice Try.underlying22 (hval 1 22 v1 rfl rfl)
  obtain ⟨fu1, hfu1⟩ := id h1
  obtain ⟨l1, hr1⟩ := Sm.open_sl (ν := Sm.nu) Sm.fA 8 (by decide) Try.underlying22 Sm.cells38 (fun n cs' y hy => Sm.act_open hy) hfu1
  clear hA0 hval0
  simp only [List.append_nil] at hW'
  refine (walk l0 _ l1 _ W hr0 hr1).mono fun e W' ⟨he, hg, hb⟩ => ?_
  subst he
  have hltp0 : ∀ x ∈ p0, x.block < W.heap.size := fun x hx => by simpa using hW'.lt x (by simp [hx])
  have hltp1 : ∀ x ∈ p1, x.block < W.heap.size := fun x hx => by simpa using hW'.lt x (by simp [hx])
  exact ⟨_, rfl, post_of_same (pa := p0 ++ p1) (pv := []) hW' (fun _ _ _ => (trodAll_cons_mk (shut_bool Try.underlying4 _) trodAll_mk0)) (fun sp hsp => by
      have := (trodAll_cons_mk (WideElems.Trod_stays laid (by kernel_rfl) (of_decide_eq_true (by kernel_rfl)) h0 (fun x hx => hb.same (hltp0 x hx)) (fun x hx => hsp x (by simp [hx]))) (trodAll_cons_mk (WideElems.Trod_stays laid (by kernel_rfl) (of_decide_eq_true (by kernel_rfl)) h1 (fun x hx => hb.same (hltp1 x hx)) (fun x hx => hsp x (by simp [hx]))) trodAll_mk0))
      simp only [List.append_nil] at this
      exact this) (fun _ _ => rfl) (by simp)
    (hg.frame _) hg.2.1 (ok_one (by kernel_rfl) rfl (okWide_bool_mk Try.underlying4 _))⟩

theorem over : Rows.lossForksRow.holds Try.pinned (OpenSpec.ofChange Rows.lossForksSpec) :=
  OpenClaim.holds_of_wide 7 Try.f7 rfl rfl rfl rfl rfl rfl rfl ⟨rfl, rfl, rfl, rfl, rfl⟩ rfl rfl rfl rfl rfl (by kernel_rfl) Try.func7 (by kernel_rfl)
    (of_decide_eq_true (by kernel_rfl)) (by unfold Func.isWrapper; first | (rw [if_pos (by decide +kernel)]; kernel_rfl) | (rw [if_neg (by decide +kernel)]; exact ⟨rfl, rfl⟩))
    (fun os started H enc _ => lifted os started H enc)

end Go.Proofs.Ytkephaeefknlbaa.lossForks

namespace Go.Proofs.Ytkephaeefknlbaa
/-- The statement. -/
theorem lossForksHolds : Rows.LossForksSaid := lossForks.over
#print axioms lossForksHolds
end Go.Proofs.Ytkephaeefknlbaa
