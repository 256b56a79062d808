/-
  Top164a
-/
import Derived.Test.YtegmmhldpmmkeaaGreatDoorSmGJ
import Derived.Test.YtegmmhldpmmkeaaGreatDoorTie
import Derived.ProofKit
import Derived.OpenShut
import Derived.Test.YtegmmhldpmmkeaaGreatDoorCards
import Derived.LaidMore
import Derived.Lay
import Derived.SevenTiedAt
import Derived.Stop.Joined
set_option linter.unusedVariables false
set_option linter.unusedSimpArgs false
namespace Go.Proofs.YtegmmhldpmmkeaaGreatDoor.journalPlays
open Go.ChangeShapes Go.WideShapes Go.ChangeAt Go.RowKit
theorem laid : laidOutB Tryz.prog = true := by kernel_rfl
theorem own : ownKnob Tryz.prog.godebug = none := by kernel_rfl
set_option maxRecDepth 100000 in
theorem lifted (os : Os) (started : os.Started) (H : Type) (enc : TypeId × Value → H) :
    ReturnsInHanded {} Tryz.checked os 5 .any (fun w args => (Rows.journalPlaysSpec.pre enc Tryz.prog Tryz.f5 Rows.journalPlaysRow.domain false w args ∧ laidMetH Tryz.prog Rows.journalPlaysRow.laid w) ∧ sizedMet enc Tryz.prog Tryz.f5 (OpenSpec.ofChange Rows.journalPlaysSpec) false w args) (Rows.journalPlaysSpec.post enc Tryz.prog Tryz.f5 false true false false) := by
  refine returnsInHanded_of_change_and (C := Tryz.checked) (X := fun w _ => laidMetH Tryz.prog Rows.journalPlaysRow.laid w) (fun _ _ _ hh h => h.of_heap hh) own started (by kernel_rfl) Tryz.func5
    (ChangeSpec.witness_shaped (enc := enc) (C := Tryz.checked) (os := os) (X := fun w _ => laidMetH Tryz.prog Rows.journalPlaysRow.laid w) false (World.laidAll Tryz.prog os Rows.journalPlaysRow.laid) #[.int .u16 0, .slice none 0 0] 8 (World.laidAll_os _ _ _)
      (World.shaped_of_ZipB (by kernel_rfl) (by kernel_rfl)) (by kernel_rfl) (by kernel_rfl) (by kernel_rfl)
      (by rw [MakeChecks.laidMetH_plain _ _ _ (by kernel_rfl)]; exact laidMet_laidAll _ (by kernel_rfl) (by kernel_rfl))) ?_
  intro W base args ds gs before hval0 hW hc _ hL _
  have hval : ∀ (j : Nat) t v, Tryz.f5.params[j]? = some t → args[j]? = some v → Value.okWide Tryz.prog W .any base t v := hval0
  have hW' := hW
  obtain ⟨p, q, hA0, hV, rfl, Ju, rI⟩ := hW
  have hA : DataW.TrodAll enc Tryz.prog W 0 (fun _ => true) true Tryz.f5.params.toList args.toList ds p := hA0
  rw [Tryz.params5] at hA hval
  obtain ⟨v0, vs0, d0, ds0, p0, q0, dD, rfl, rfl, h0, r0⟩ := trodAll_cons hA
  obtain ⟨v1, vs1, d1, ds1, p1, q1, rfl, rfl, rfl, h1, r1⟩ := trodAll_cons r0
  obtain ⟨rfl, rfl, rfl⟩ := trodAll_nil r1
  obtain rfl : args = #[v0, v1] := by cases args; simp_all
  obtain ⟨rfl, rfl⟩ := trodVars_none hV
  obtain ⟨A0, rfl⟩ := okWide_int Tryz.underlying62 (hval 0 62 v0 rfl rfl)
  obtain ⟨x0, k0, hr0⟩ := Sm.AaI Sm.AfR h0 rfl
  obtain ⟨A1, len1, Ad8, rfl⟩ := okWide_slice Tryz.underlying22 (hval 1 22 v1 rfl rfl)
  obtain ⟨x1, k1, hr1⟩ := Sm.AaI Sm.AfN h1 rfl
  clear hA0 hval0
  simp only [List.append_nil] at hW'
  refine (Sm.AaG (P := Tryz.prog) (ν := Sm.nu) (K := Sm.iI W) (g := 498) (n := 5) (us := [_, _]) ⟨rfl, by decide⟩ (fun b hb => Sm.Vw hb) (Sm.AaL hL) (Sm.Afn Sm.linked Sm.jc x0 x1 k0 k1 _ _ fun _ _ => rfl) (by simp only [Sm.aC]; exact ⟨_, _, rfl, hr0, ⟨_, _, rfl, hr1, rfl⟩⟩)).mono fun e W' ⟨he, hg, hb⟩ => ?_
  subst he
  have hlt0 : ∀ x ∈ p0, x.block < W.heap.size := fun x hx => by simpa using hW'.lt x (by simp [hx])
  have AcN : ∀ x ∈ p1, x.block < W.heap.size := fun x hx => by simpa using hW'.lt x (by simp [hx])
  exact ⟨_, rfl, Sm.Qr (pa := p0 ++ p1) (pv := []) hW' (fun _ _ _ => (trodAll_cons_mk (shut_bool Tryz.underlying4 _) trodAll_mk0)) (fun sp Z0 => by
      have := (trodAll_cons_mk (WideElems.Trod_stays laid (by kernel_rfl) (of_decide_eq_true (by kernel_rfl)) h0 (fun x hx => hb.same (hlt0 x hx)) (fun x hx => Z0 x (by simp [hx]))) (trodAll_cons_mk (WideElems.Trod_stays laid (by kernel_rfl) (of_decide_eq_true (by kernel_rfl)) h1 (fun x hx => hb.same (AcN x hx)) (fun x hx => Z0 x (by simp [hx]))) trodAll_mk0))
      simp only [List.append_nil, List.append_assoc] at this ⊢
      exact this) (fun _ _ => rfl) (by simp)
    (World.keptBut_mono (fun _ h => h.elim) hg.kept) hg.fz (ok_one (by kernel_rfl) rfl (okWide_bool_mk Tryz.underlying4 _))⟩
end Go.Proofs.YtegmmhldpmmkeaaGreatDoor.journalPlays
