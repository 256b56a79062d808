/-
  PROVED: 'Rows.TreeRisesCardSaid': for every input the law 'TreeRises' returns true and each argument reads behind the call as it read before.
  The listed variables are tied to the program's text by the card; no condition beyond the card's own.
-/
import Derived.Test.YtekgdfpcbcmlgaaDoorSmG7
import Derived.Test.YtekgdfpcbcmlgaaDoorSmTF
import Derived.Test.YtekgdfpcbcmlgaaDoorTie
import Derived.ProofKit
import Derived.OpenShut
import Derived.Test.YtekgdfpcbcmlgaaDoorCards
import Derived.LaidMore
import Derived.Lay
import Derived.SevenTiedAt
import Derived.Stop.Joined
set_option linter.unusedVariables false
set_option linter.unusedSimpArgs false
namespace Go.Proofs.YtekgdfpcbcmlgaaDoor.treeRises
open Go.ChangeShapes Go.WideShapes Go.ChangeAt Go.RowKit

theorem laid : laidOutB Tryd.prog = true := by kernel_rfl
theorem own : ownKnob Tryd.prog.godebug = none := by kernel_rfl

set_option maxRecDepth 100000 in
theorem lifted (os : Os) (started : os.Started) (H : Type) (enc : TypeId × Value → H) :
    ReturnsInHanded {} Tryd.checked os 6 .any (fun w args => (Rows.treeRisesSpec.pre enc Tryd.prog Tryd.f6 Rows.treeRisesRow.domain false w args ∧ laidMetH Tryd.prog Rows.treeRisesRow.laid w) ∧ sizedMet enc Tryd.prog Tryd.f6 (OpenSpec.ofChange Rows.treeRisesSpec) false w args) (Rows.treeRisesSpec.post enc Tryd.prog Tryd.f6 false true false false) := by
  refine returnsInHanded_of_change_and (C := Tryd.checked) (X := fun w _ => laidMetH Tryd.prog Rows.treeRisesRow.laid w) (fun _ _ _ hh h => h.of_heap hh) own started (by kernel_rfl) Tryd.func6
    (ChangeSpec.witness_shaped (enc := enc) (C := Tryd.checked) (os := os) (X := fun w _ => laidMetH Tryd.prog Rows.treeRisesRow.laid w) false (World.laidAll Tryd.prog os Rows.treeRisesRow.laid) #[.slice none 0 0] 8 (World.laidAll_os _ _ _)
      (World.shaped_of_ZipB (by kernel_rfl) (by kernel_rfl)) (by kernel_rfl) (by kernel_rfl) (by kernel_rfl)
      (by rw [MakeChecks.laidMetH_plain _ _ _ (by kernel_rfl)]; exact laidMet_laidAll _ (by kernel_rfl) (by kernel_rfl))) ?_
  intro W base args ds gs before hval0 hW hc _ hL _
  have hval : ∀ (j : Nat) t v, Tryd.f6.params[j]? = some t → args[j]? = some v → Value.okWide Tryd.prog W .any base t v := hval0
  have hW' := hW
  obtain ⟨p, q, hA0, hV, rfl, hfz, hnd⟩ := hW
  have hA : DataW.TrodAll enc Tryd.prog W 0 (fun _ => true) true Tryd.f6.params.toList args.toList ds p := hA0
  rw [Tryd.params6] at hA hval
  obtain ⟨v0, vs0, d0, ds0, p0, q0, hargs, rfl, rfl, h0, r0⟩ := trodAll_cons hA
  obtain ⟨rfl, rfl, rfl⟩ := trodAll_nil r0
  obtain rfl : args = #[v0] := by cases args; simp_all
  obtain ⟨rfl, rfl⟩ := trodVars_none hV
  obtain ⟨A0, len0, cap0, rfl⟩ := okWide_slice Tryd.underlying22 (hval 0 22 v0 rfl rfl)
  obtain ⟨x0, k0, hr0⟩ := Sm.opn_arg1 Sm.opn22 h0 rfl
  clear hA0 hval0
  simp only [List.append_nil] at hW'
  refine (Sm.walk_old (P := Tryd.prog) (ν := Sm.nu) (K := Sm.sizes' W) (g := 227) (n := 6) (us := [_]) rfl (fun b hb => Sm.sizes_none hb) (Sm.rises_spec Sm.linked .no x0 _ _ fun _ _ => rfl) (by simp only [Sm.repL]; exact ⟨_, _, rfl, hr0, rfl⟩)).mono fun e W' ⟨he, hg, hb⟩ => ?_
  subst he
  have hlt0 : ∀ x ∈ p0, x.block < W.heap.size := fun x hx => by simpa using hW'.lt x (by simp [hx])
  exact ⟨_, rfl, Sm.post_of_old (pa := p0) (pv := []) hW' (fun _ _ _ => (trodAll_cons_mk (shut_bool Tryd.underlying4 _) trodAll_mk0)) (fun sp hsp => by
      have := (trodAll_cons_mk (WideElems.Trod_stays laid (by kernel_rfl) (of_decide_eq_true (by kernel_rfl)) h0 (fun x hx => hb.same (hlt0 x hx)) (fun x hx => hsp x (by simp [hx]))) trodAll_mk0)
      simp only [List.append_nil, List.append_assoc] at this ⊢
      exact this) (fun _ _ => rfl) (by simp)
    (World.keptBut_mono (fun _ h => h.elim) hg.kept) hg.fz (ok_one (by kernel_rfl) rfl (okWide_bool_mk Tryd.underlying4 _))⟩

theorem over : Rows.treeRisesRow.holds Tryd.pinned (OpenSpec.ofChange Rows.treeRisesSpec) :=
  OpenClaim.holds_of_wide 6 Tryd.f6 rfl rfl rfl rfl rfl rfl rfl ⟨rfl, rfl, rfl, rfl, rfl⟩ rfl rfl rfl rfl rfl (by kernel_rfl) Tryd.func6 (by kernel_rfl)
    (of_decide_eq_true (by kernel_rfl)) (by unfold Func.isWrapper; first | (rw [if_pos (by decide +kernel)]; kernel_rfl) | (rw [if_neg (by decide +kernel)]; exact ⟨rfl, rfl⟩))
    (fun os started H enc _ => lifted os started H enc)

theorem cardHolds : Rows.TreeRisesCardSaid :=
  Claim7.holds_tied_plain_at .later [] [.data, .pinned] true (true, "017f436b869962a600f993513c0c345da0f00c730fa3198beae61446c27f15a1") false over (fun _ h => by cases h) (by kernel_rfl) (fun _ h => by cases h) treeRises_row_tie rfl ⟨rfl, rfl⟩ (by kernel_rfl) rfl
    (fun f fn hf hfn => by
      obtain rfl : f = 6 := Option.some.inj ((show Tryd.prog.funcNamed "sumpter/sumpterlaw08.TreeRises" = some 6 by kernel_rfl).symm.trans hf) |>.symm
      obtain rfl : fn = Tryd.f6 := (Option.some.inj (Tryd.func6.symm.trans hfn)).symm
      exact ⟨by kernel_rfl, fun j t ht => by
        rw [Tryd.params6] at ht
        have hm : t ∈ [22] := by simpa using Array.mem_of_getElem? ht
        have hall : ([22].all fun u => !Tryd.prog.wantsStandIn u) = true := by kernel_rfl
        exact (show Tryd.prog.wantsStandIn t = false by simpa using List.all_eq_true.1 hall t hm)⟩)
    (by kernel_rfl)

end Go.Proofs.YtekgdfpcbcmlgaaDoor.treeRises

namespace Go.Proofs.YtekgdfpcbcmlgaaDoor
/-- The statement. -/
theorem treeRisesHolds : Rows.TreeRisesCardSaid := treeRises.cardHolds
#print axioms treeRisesHolds
end Go.Proofs.YtekgdfpcbcmlgaaDoor
