/-
  PROVED: 'Rows.DiskReplacedCardSaid': for every input the law 'DiskReplaced' returns true and each argument reads behind the call as it read before.
  The listed variables are tied to the program's text by the card; no condition beyond the card's own.
-/
import Derived.Test.YtmdfajhlofhmcaaDoorSmGE
import Derived.Test.YtmdfajhlofhmcaaDoorSmSr
import Derived.Test.YtmdfajhlofhmcaaDoorSmDQ
import Derived.Test.YtmdfajhlofhmcaaDoorTie
import Derived.ProofKit
import Derived.OpenShut
import Derived.Test.YtmdfajhlofhmcaaDoorCards
import Derived.LaidMore
import Derived.Lay
import Derived.SevenTiedAt
import Derived.Stop.Joined
set_option linter.unusedVariables false
set_option linter.unusedSimpArgs false
namespace Go.Proofs.YtmdfajhlofhmcaaDoor.diskReplaced
open Go.ChangeShapes Go.WideShapes Go.ChangeAt Go.RowKit

theorem laid : laidOutB Tryd.prog = true := by kernel_rfl
theorem own : ownKnob Tryd.prog.godebug = none := by kernel_rfl

set_option maxRecDepth 100000 in
theorem lifted (os : Os) (started : os.Started) (H : Type) (enc : TypeId × Value → H) :
    ReturnsInHanded {} Tryd.checked os 3 .any (fun w args => (Rows.diskReplacedSpec.pre enc Tryd.prog Tryd.f3 Rows.diskReplacedRow.domain false w args ∧ laidMetH Tryd.prog Rows.diskReplacedRow.laid w) ∧ sizedMet enc Tryd.prog Tryd.f3 (OpenSpec.ofChange Rows.diskReplacedSpec) false w args) (Rows.diskReplacedSpec.post enc Tryd.prog Tryd.f3 false true false false) := by
  refine returnsInHanded_of_change_and (C := Tryd.checked) (X := fun w _ => laidMetH Tryd.prog Rows.diskReplacedRow.laid w) (fun _ _ _ hh h => h.of_heap hh) own started (by kernel_rfl) Tryd.func3
    (ChangeSpec.witness_shaped (enc := enc) (C := Tryd.checked) (os := os) (X := fun w _ => laidMetH Tryd.prog Rows.diskReplacedRow.laid w) false (World.laidAll Tryd.prog os Rows.diskReplacedRow.laid) #[.slice none 0 0, .slice none 0 0, .agg #[.int .u8 0, .int .u8 0, .int .u8 0]] 8 (World.laidAll_os _ _ _)
      (World.shaped_of_ZipB (by kernel_rfl) (by kernel_rfl)) (by kernel_rfl) (by kernel_rfl) (by kernel_rfl)
      (by rw [MakeChecks.laidMetH_plain _ _ _ (by kernel_rfl)]; exact laidMet_laidAll _ (by kernel_rfl) (by kernel_rfl))) ?_
  intro W base args ds gs before hval0 hW hc _ hL _
  have hval : ∀ (j : Nat) t v, Tryd.f3.params[j]? = some t → args[j]? = some v → Value.okWide Tryd.prog W .any base t v := hval0
  have hW' := hW
  obtain ⟨p, q, hA0, hV, rfl, hfz, hnd⟩ := hW
  have hA : DataW.TrodAll enc Tryd.prog W 0 (fun _ => true) true Tryd.f3.params.toList args.toList ds p := hA0
  rw [Tryd.params3] at hA hval
  obtain ⟨v0, vs0, d0, ds0, p0, q0, hargs, rfl, rfl, h0, r0⟩ := trodAll_cons hA
  obtain ⟨v1, vs1, d1, ds1, p1, q1, rfl, rfl, rfl, h1, r1⟩ := trodAll_cons r0
  obtain ⟨v2, vs2, d2, ds2, p2, q2, rfl, rfl, rfl, h2, r2⟩ := trodAll_cons r1
  obtain ⟨rfl, rfl, rfl⟩ := trodAll_nil r2
  obtain rfl : args = #[v0, v1, v2] := by cases args; simp_all
  obtain ⟨rfl, rfl⟩ := trodVars_none hV
  obtain ⟨A0, len0, cap0, rfl⟩ := okWide_slice Tryd.underlying22 (hval 0 22 v0 rfl rfl)
  obtain ⟨x0, k0, hr0⟩ := Sm.opn_arg1 Sm.opn22 h0 rfl
  obtain ⟨A1, len1, cap1, rfl⟩ := okWide_slice Tryd.underlying22 (hval 1 22 v1 rfl rfl)
  obtain ⟨x1, k1, hr1⟩ := Sm.opn_arg1 Sm.opn22 h1 rfl
  obtain ⟨A2, rfl, _⟩ := Sm.okWide_array Tryd.underlying23 (hval 2 23 v2 rfl rfl)
  obtain ⟨x2, k2, hr2⟩ := Sm.opn_argS Sm.opn23 h2
  clear hA0 hval0
  simp only [List.append_nil] at hW'
  refine (Sm.walk_old (P := Tryd.prog) (ν := Sm.nu) (K := Sm.sizes' W) (g := 376) (n := 3) (us := [_, _, _]) rfl (fun b hb => Sm.sizes_none hb) (Sm.dreplaced_spec Sm.linked Sm.cl x0 x1 x2.1 x2.2.1 x2.2.2 _ _ fun _ _ => rfl) (by simp only [Sm.repL]; exact ⟨_, _, rfl, hr0, ⟨_, _, rfl, hr1, ⟨_, _, rfl, hr2, rfl⟩⟩⟩)).mono fun e W' ⟨he, hg, hb⟩ => ?_
  subst he
  have hlt0 : ∀ x ∈ p0, x.block < W.heap.size := fun x hx => by simpa using hW'.lt x (by simp [hx])
  have hlt1 : ∀ x ∈ p1, x.block < W.heap.size := fun x hx => by simpa using hW'.lt x (by simp [hx])
  have hlt2 : ∀ x ∈ p2, x.block < W.heap.size := fun x hx => by simpa using hW'.lt x (by simp [hx])
  exact ⟨_, rfl, Sm.post_of_old (pa := p0 ++ p1 ++ p2) (pv := []) hW' (fun _ _ _ => (trodAll_cons_mk (shut_bool Tryd.underlying4 _) trodAll_mk0)) (fun sp hsp => by
      have := (trodAll_cons_mk (WideElems.Trod_stays laid (by kernel_rfl) (of_decide_eq_true (by kernel_rfl)) h0 (fun x hx => hb.same (hlt0 x hx)) (fun x hx => hsp x (by simp [hx]))) (trodAll_cons_mk (WideElems.Trod_stays laid (by kernel_rfl) (of_decide_eq_true (by kernel_rfl)) h1 (fun x hx => hb.same (hlt1 x hx)) (fun x hx => hsp x (by simp [hx]))) (trodAll_cons_mk (WideElems.Trod_stays laid (by kernel_rfl) (of_decide_eq_true (by kernel_rfl)) h2 (fun x hx => hb.same (hlt2 x hx)) (fun x hx => hsp x (by simp [hx]))) trodAll_mk0)))
      simp only [List.append_nil, List.append_assoc] at this ⊢
      exact this) (fun _ _ => rfl) (by simp)
    (World.keptBut_mono (fun _ h => h.elim) hg.kept) hg.fz (ok_one (by kernel_rfl) rfl (okWide_bool_mk Tryd.underlying4 _))⟩

theorem over : Rows.diskReplacedRow.holds Tryd.pinned (OpenSpec.ofChange Rows.diskReplacedSpec) :=
  OpenClaim.holds_of_wide 3 Tryd.f3 rfl rfl rfl rfl rfl rfl rfl ⟨rfl, rfl, rfl, rfl, rfl⟩ rfl rfl rfl rfl rfl (by kernel_rfl) Tryd.func3 (by kernel_rfl)
    (of_decide_eq_true (by kernel_rfl)) (by unfold Func.isWrapper; first | (rw [if_pos (by decide +kernel)]; kernel_rfl) | (rw [if_neg (by decide +kernel)]; exact ⟨rfl, rfl⟩))
    (fun os started H enc _ => lifted os started H enc)

theorem cardHolds : Rows.DiskReplacedCardSaid :=
  Claim7.holds_tied_plain_at .later [] [.data, .pinned] true (true, "020ffd94aae043a68d306eb2c5484eb17bdcc3ce4662f45941fdc0712bb209ac") true over (fun _ h => by cases h) (by kernel_rfl) (fun _ h => by cases h) diskReplaced_row_tie rfl ⟨rfl, rfl⟩ (by kernel_rfl) rfl
    (fun f fn hf hfn => by
      obtain rfl : f = 3 := Option.some.inj ((show Tryd.prog.funcNamed "sumpter/sumpterlaw14.DiskReplaced" = some 3 by kernel_rfl).symm.trans hf) |>.symm
      obtain rfl : fn = Tryd.f3 := (Option.some.inj (Tryd.func3.symm.trans hfn)).symm
      exact ⟨by kernel_rfl, fun j t ht => by
        rw [Tryd.params3] at ht
        have hm : t ∈ [22, 22, 23] := by simpa using Array.mem_of_getElem? ht
        have hall : ([22, 22, 23].all fun u => !Tryd.prog.wantsStandIn u) = true := by kernel_rfl
        exact (show Tryd.prog.wantsStandIn t = false by simpa using List.all_eq_true.1 hall t hm)⟩)
    (by kernel_rfl)

end Go.Proofs.YtmdfajhlofhmcaaDoor.diskReplaced

namespace Go.Proofs.YtmdfajhlofhmcaaDoor
/-- The statement. -/
theorem diskReplacedHolds : Rows.DiskReplacedCardSaid := diskReplaced.cardHolds
#print axioms diskReplacedHolds
end Go.Proofs.YtmdfajhlofhmcaaDoor
