/-
  A layer of one's own: texts M25.
-/
import Derived.Test.YtpfccegjkhaidaaGreatDoorSmMI
set_option linter.unusedVariables false
set_option linter.unusedSimpArgs false
set_option maxRecDepth 10000
set_option maxHeartbeats 1000000
namespace Sm
open Go
-- BASE entU
attribute [local irreducible] csem rsem dsem seqK blockK normK finK DK RK JK BR G3 resK Spec Tok Fr CV

theorem chk_okP {l : List Ent} (h : chkT l = 0) : ∀ e ∈ l, okP e := fun e he => by
  have h0 := okE_of h he
  have h1 := h0.p
  unfold chkP at h1
  split at h1
  · cases h1
  · exact ⟨by omega, by have := h0.d; omega⟩
theorem again_spec (L : Linked code) (Z : Srt L) (t1 t2 : Tk) (s d : List Ent) (del bak : Bool) : PureF L 290 [.sl t1 3 (s.map encE), .sl t2 3 (d.map encE), .ag [B del, B bak]] (B true) := by
  intro H K hk
  have aw : ∀ X, Fr [] H X → ∀ K2, (∀ Y, Fr [] H Y → K2 (B true) Y) → Spec L.P L.ν 234 [] X K2 := fun X f K2 h => mawake_spec L Z X K2 fun Y g => h Y (f.trans g)
  refine go_spec L code290 rfl ?_
  repeat (refine gk entU ?_)
  (apply r_call; (focus rfl))
  refine light_spec L t1 s 40 2000 (by decide) (by decide) _ _ ?_
  cases c1 : light s 40 2000
  case false =>
    repeat (refine gk entU ?_)
    try simp only [Bool.not_false]
    repeat (refine gk entU ?_)
    (apply r_call; (focus rfl))
    refine aw H (Fr.refl _ _) _ fun Y f => ?_
    repeat (refine gk entU ?_)
    exact resK_some (hk Y f)
  repeat (refine gk entU ?_)
  try simp only [Bool.not_true]
  repeat (refine gk entU ?_)
  (apply r_call; (focus rfl))
  refine light_spec L t2 d 40 2000 (by decide) (by decide) _ _ ?_
  cases c2 : light d 40 2000
  case false =>
    repeat (refine gk entU ?_)
    try simp only [Bool.not_false]
    repeat (refine gk entU ?_)
    (apply r_call; (focus rfl))
    refine aw H (Fr.refl _ _) _ fun Y f => ?_
    repeat (refine gk entU ?_)
    exact resK_some (hk Y f)
  obtain ⟨ls, os⟩ := light_okP (by decide) c1
  obtain ⟨ld, od⟩ := light_okP (by decide) c2
  repeat (refine gk entU ?_)
  try simp only [Bool.not_true]
  repeat (refine gk entU ?_)
  (apply r_call; (focus rfl))
  refine wantR_spec L Z t1 t2 s d del bak (by omega) (by omega) os od _ _ fun H1 f1 => ?_
  rcases rWant_cases s d del bak with ⟨he, h0⟩ | ⟨hcs, hcd, hle, hr⟩
  · have he' : ((rWant s d del bak).2 != 0) = true := by simpa [bne] using he
    repeat (refine gk (And.intro entU he') ?_)
    (apply r_call; (focus rfl))
    refine aw H1 f1 _ fun Y f => ?_
    repeat (refine gk entU ?_)
    exact resK_some (hk Y f)
  have hwc := vant_chk (del := del) (bak := bak) hcs hcd hle
  have hag := vant_again (del := del) (bak := bak) hcs hcd hle
  have hpl := steps_none (del := del) (bak := bak) hcs hcd
  have hsi : ∀ e ∈ s, getR (vant s d del bak) e.path = (e, true) := fun e he => src_in hcs hcd he
  obtain ⟨bl, bo⟩ := rWant_okP (del := del) (bak := bak) os od
  rw [hr] at bl bo ⊢
  dsimp only at bl bo ⊢
  generalize vant s d del bak = W at hwc hag hpl hsi bl bo hle
  clear hr
  repeat (refine gk entU ?_)
  refine c_loop (Spec_SMono L) (fun (i : Nat) => [(0, .h (.sl t1 3 (s.map encE))), (7, .h (.sl .no 3 (W.map encE))), (9, .h (I i))])
    (fun _ => []) (fun i X => i ≤ s.length ∧ Fr [] H X) (fun i => s.length - i) 0 ?_ ⟨by simp, f1⟩ ?_
  · (refine leM ?_ ?_ ?_ <;> (repeat refine leS trivial ?_) <;> exact leE)
  rintro i X ⟨hi, hf⟩
  have odw : ∀ e ∈ W, e.data.length ≤ 140737488355328 := fun e he => Nat.le_trans (bo e he).2 (by decide)
  repeat (refine gk entU ?_)
  (refine ct entU ?_ ?_ <;> intro h)
  · have hi' : i < s.length := by simpa using h
    repeat (refine gk entU ?_)
    (apply r_call; (focus rfl))
    refine get_spec L .no W s[i].path (by omega) odw X _ fun X1 g1 => ?_
    rw [hsi _ (List.getElem_mem hi')]
    repeat (refine gk entU ?_)
    (apply r_call; (focus rfl))
    refine sameE_spec L s[i] s[i] _ _ ?_
    rw [sameE_self]
    repeat (refine gk entU ?_)
    refine k_n (i + 1) (by omega) ⟨by omega, hf.trans g1⟩ ?_
    (refine leM ?_ ?_ ?_ <;> (repeat refine leS trivial ?_) <;> exact leE)
  have hi' : i = s.length := by have : ¬ i < s.length := by simpa using h
                                omega
  have oW := chk_okP hwc
  clear hi h hi' f1
  repeat (refine gk entU ?_)
  (apply r_call; (focus rfl))
  refine wantR_spec L Z t1 .no s W false false (by omega) (by omega) os oW X _ fun H2 f2 => ?_
  have hr2 : rWant s W false false = (W, 0) := by
    have := rWant_ok (s := s) (d := W) (del := false) (bak := false) hcs hwc (by rw [hag]; exact hle)
    rw [this, hag]
  rw [hr2]
  repeat (refine gk entU ?_)
  (apply r_call; (focus rfl))
  refine planR_spec L Z t1 .no s W false false (by omega) (by omega) os oW _ _ fun H3 f3 => ?_
  have hp2 : rPlan s W false false = ([], 0) := by
    rw [rPlan, hr2, if_neg (fun h => h rfl)]
    dsimp only
    rw [hpl]
  rw [hp2]
  repeat (refine gk entU ?_)
  (apply r_call; (focus rfl))
  refine check_spec L .no W (by omega) (fun e he => (oW e he).e) _ _ fun H4 f4 => ?_
  rw [hwc]
  repeat (refine gk entU ?_)
  (apply r_call; (focus rfl))
  refine same_spec L .no .no W W (by omega) _ _ ?_
  rw [sameT_self]
  repeat (refine gk entU ?_)
  (apply r_call; (focus rfl))
  refine aw H4 (((hf.trans f2).trans f3).trans f4) _ fun Y f => ?_
  repeat (refine gk entU ?_)
  exact resK_some (hk Y f)
end Sm
