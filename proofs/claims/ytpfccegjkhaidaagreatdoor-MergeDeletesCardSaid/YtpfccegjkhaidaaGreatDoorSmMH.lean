/-
  A layer of one's own: texts M22.
-/
import Derived.Test.YtpfccegjkhaidaaGreatDoorSmMG
set_option linter.unusedVariables false
set_option linter.unusedSimpArgs false
set_option maxRecDepth 10000
set_option maxHeartbeats 1000000
namespace Sm
open Go
-- BASE entU
attribute [local irreducible] csem rsem dsem seqK blockK normK finK DK RK JK BR G3 resK Spec Tok Fr CV

theorem deletes_spec (L : Linked code) (Z : Srt L) (t1 t2 : Tk) (s d : List Ent) : PureF L 291 [.sl t1 3 (s.map encE), .sl t2 3 (d.map encE)] (B true) := by
  intro H K hk
  have aw : ∀ X, Fr [] H X → ∀ K2, (∀ Y, Fr [] H Y → K2 (B true) Y) → Spec L.P L.ν 234 [] X K2 := fun X f K2 h => mawake_spec L Z X K2 fun Y g => h Y (f.trans g)
  refine go_spec L code291 rfl ?_
  repeat (refine gk entU ?_)
  (apply r_call; (focus rfl))
  refine light_spec L t1 s 40 2000 (by decide) (by decide) _ _ ?_
  cases c1 : light s 40 2000
  case false =>
    repeat (refine gk entU ?_)
    try simp only [Bool.not_false]
    repeat (refine gk entU ?_)
    (apply r_call; (focus rfl))
    refine aw H (Fr.refl _ _) _ fun Y f => ?_
    repeat (refine gk entU ?_)
    exact resK_some (hk Y f)
  repeat (refine gk entU ?_)
  try simp only [Bool.not_true]
  repeat (refine gk entU ?_)
  (apply r_call; (focus rfl))
  refine light_spec L t2 d 40 2000 (by decide) (by decide) _ _ ?_
  cases c2 : light d 40 2000
  case false =>
    repeat (refine gk entU ?_)
    try simp only [Bool.not_false]
    repeat (refine gk entU ?_)
    (apply r_call; (focus rfl))
    refine aw H (Fr.refl _ _) _ fun Y f => ?_
    repeat (refine gk entU ?_)
    exact resK_some (hk Y f)
  obtain ⟨ls, os⟩ := light_okP (by decide) c1
  obtain ⟨ld, od⟩ := light_okP (by decide) c2
  repeat (refine gk entU ?_)
  try simp only [Bool.not_true]
  repeat (refine gk entU ?_)
  (apply r_call; (focus rfl))
  refine check_spec L t1 s (by omega) (fun e he => (os e he).e) H _ fun H1 f1 => ?_
  cases c3 : (chkT s != 0)
  case true =>
    repeat (refine gk (And.intro entU c3) ?_)
    (apply r_call; (focus rfl))
    refine aw H1 f1 _ fun Y f => ?_
    repeat (refine gk entU ?_)
    exact resK_some (hk Y f)
  repeat (refine gk (And.intro entU c3) ?_)
  (apply r_call; (focus rfl))
  refine check_spec L t2 d (by omega) (fun e he => (od e he).e) H1 _ fun H2 f2 => ?_
  cases c4 : (chkT d != 0)
  case true =>
    repeat (refine gk (And.intro entU c4) ?_)
    (apply r_call; (focus rfl))
    refine aw H2 (f1.trans f2) _ fun Y f => ?_
    repeat (refine gk entU ?_)
    exact resK_some (hk Y f)
  have hcs : chkT s = 0 := by simpa [bne] using c3
  have hcd : chkT d = 0 := by simpa [bne] using c4
  have hf2 := f1.trans f2
  repeat (refine gk (And.intro entU c4) ?_)
  (apply r_call; (focus rfl))
  refine wantR_spec L Z t1 t2 s d true false (by omega) (by omega) os od _ _ fun H3 f3 => ?_
  rw [rWant_ok hcs hcd (by rw [vant_del hcs hcd]; omega), vant_del hcs hcd]
  repeat (refine gk entU ?_)
  (apply r_call; (focus rfl))
  refine wantR_spec L Z t1 t2 s d true true (by omega) (by omega) os od _ _ fun H4 f4 => ?_
  have hf4 := (hf2.trans f3).trans f4
  obtain ⟨bl, bo⟩ := rWant_okP (del := true) (bak := true) os od
  have hB : (rWant s d true true).2 = 10 ∨ ((rWant s d true true).2 = 0 ∧ (rWant s d true true).1 = vant s d true true) := by
    by_cases h3 : (vant s d true true).length ≤ 64
    · rw [rWant_ok hcs hcd h3]; exact .inr ⟨rfl, rfl⟩
    · rw [rWant_full hcs hcd (by omega)]; exact .inl rfl
  generalize rWant s d true true = R at hB bl bo
  obtain ⟨W, er⟩ := R
  dsimp only at hB bl bo ⊢
  repeat (refine gk entU ?_)
  (apply r_call; (focus rfl))
  refine same_spec L .no t1 s s (by omega) _ _ ?_
  rw [sameT_self]
  repeat (refine gk entU ?_)
  rcases hB with rfl | ⟨rfl, rfl⟩
  · rw [show ((10 : Int) != 0) = true from rfl]
    repeat (refine gk entU ?_)
    try rw [show ((10 : Int) == 10) = true from rfl]
    repeat (refine gk entU ?_)
    (apply r_call; (focus rfl))
    refine aw H4 hf4 _ fun Y f => ?_
    repeat (refine gk entU ?_)
    exact resK_some (hk Y f)
  rw [show ((0 : Int) != 0) = false from rfl]
  repeat (refine gk entU ?_)
  refine c_loop (Spec_SMono L) (fun (i : Nat) => [(0, .h (.sl t1 3 (s.map encE))), (1, .h (.sl t2 3 (d.map encE))), (7, .h (.sl .no 3 ((vant s d true true).map encE))), (9, .h (I i))])
    (fun _ => []) (fun i X => i ≤ (vant s d true true).length ∧ Fr [] H X) (fun i => (vant s d true true).length - i) 0 ?_ ⟨by simp, hf4⟩ ?_
  · (refine leM ?_ ?_ ?_ <;> (repeat refine leS trivial ?_) <;> exact leE)
  rintro i X ⟨hi, hf⟩
  repeat (refine gk entU ?_)
  (refine ct entU ?_ ?_ <;> intro h)
  · have hi' : i < (vant s d true true).length := by simpa using h
    generalize hW : vant s d true true = W at hi' bl bo hi
    have hmem : W[i] ∈ W := List.getElem_mem hi'
    have hbo := bo _ hmem
    have odl : ∀ e ∈ s, e.data.length ≤ 140737488355328 := fun e he => Nat.le_trans (os e he).2 (by decide)
    have odd : ∀ e ∈ d, e.data.length ≤ 140737488355328 := fun e he => Nat.le_trans (od e he).2 (by decide)
    repeat (refine gk entU ?_)
    (apply r_call; (focus rfl))
    refine get_spec L t1 s W[i].path (by omega) odl X _ fun X1 g1 => ?_
    cases c5 : (getR s W[i].path).2
    case true =>
      repeat (refine gk entU ?_)
      refine k_n (i + 1) (by omega) ⟨by omega, hf.trans g1⟩ ?_
      (refine leM ?_ ?_ ?_ <;> (repeat refine leS trivial ?_) <;> exact leE)
    obtain ⟨x, hx, hk3, hxe⟩ := vant_kept (e := W[i]) hcs hcd (by rw [hW]; exact hmem) c5
    have hkp := rkep_ne (rkp_ne hk3)
    have hpath : W[i].path = x.path ++ [126] := by rw [hxe]; exact hkp.1
    have hdir : W[i].dir = false := by rw [hxe]; rfl
    have hdata : W[i].data = x.data := by rw [hxe]; rfl
    have hgx := getR_nd (chk_nodup hcd) hx
    have hxp := (od x hx).1
    have hlen : (W[i].path.length : Int) = x.path.length + 1 := by rw [hpath]; simp
    repeat (refine gk entU ?_)
    have hsub : List.take (((W[i].path.length : Int) - 1).toNat - ((0 : Nat) : Int).toNat) (List.drop ((0 : Nat) : Int).toNat W[i].path) = x.path := by
      rw [show ((W[i].path.length : Int) - 1).toNat - ((0 : Nat) : Int).toNat = x.path.length by omega, hpath]
      simp
    first | rw [hsub] | (simp only [hsub])
    (apply r_call; (focus rfl))
    refine get_spec L t2 d x.path (by omega) odd X1 _ fun X2 g2 => ?_
    rw [hgx]
    have hf2 := (hf.trans g1).trans g2
    repeat (refine gk entU ?_)
    rw [hdir]
    repeat (refine gk entU ?_)
    try rw [rkp_nd hk3]
    try simp only [rkp_nd hk3]
    repeat (refine gk entU ?_)
    refine r_b2c rfl ?_
    repeat (refine gk entU ?_)
    refine r_b2c rfl ?_
    rw [hdata]
    repeat (refine gk entU ?_)
    simp only [beq_self_eq_true, Bool.not_true, bne_self_eq_false]
    repeat (refine gk entU ?_)
    (apply r_call; (focus rfl))
    refine kept0_spec L x.path (Nat.le_trans hxp (by decide)) X2 _ fun X3 g3 => ?_
    have hkk : kepL x.path = W[i].path := by rw [kepL_eq, hpath]; exact hkp.1
    rw [hkk]
    repeat (refine gk entU ?_)
    simp only [beq_self_eq_true, Bool.not_true, bne_self_eq_false]
    repeat (refine gk entU ?_)
    refine k_n (i + 1) (by omega) ⟨by omega, hf2.trans g3⟩ ?_
    (refine leM ?_ ?_ ?_ <;> (repeat refine leS trivial ?_) <;> exact leE)
  repeat (refine gk entU ?_)
  (apply r_call; (focus rfl))
  refine aw X hf _ fun Y f => ?_
  repeat (refine gk entU ?_)
  exact resK_some (hk Y f)
end Sm
