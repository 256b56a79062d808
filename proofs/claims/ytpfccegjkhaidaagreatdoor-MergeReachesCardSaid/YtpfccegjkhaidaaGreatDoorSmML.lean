/-
  A layer of one's own: texts M31,M32.
-/
import Derived.Test.YtpfccegjkhaidaaGreatDoorSmMK
import Derived.Test.YtpfccegjkhaidaaGreatDoorSmMJ
set_option linter.unusedVariables false
set_option linter.unusedSimpArgs false
set_option maxRecDepth 10000
set_option maxHeartbeats 1000000
namespace Sm
open Go
-- BASE entU
attribute [local irreducible] csem rsem dsem seqK blockK normK finK DK RK JK BR G3 resK Spec Tok Fr CV

theorem between_spec (L : Linked code) (t1 t2 t3 : Tk) (a b T : List Ent) (ha : ∀ e ∈ a, okP e) (hb : ∀ e ∈ b, okP e) (hT : ∀ e ∈ T, okP e) (la : a.length ≤ 1048576) (lb : b.length ≤ 1048576) (lT : T.length ≤ 1048576)
    (h1 : ∀ p, pathM a b p (getR T p).1 (getR T p).2 = true) (h2 : ∀ e ∈ T, pathM a b e.path e true = true) : PureF L 241 [.sl t1 3 (a.map encE), .sl t2 3 (b.map encE), .sl t3 3 (T.map encE)] (B true) := by
  intro H K hk
  have da : ∀ e ∈ a, e.data.length ≤ 140737488355328 := fun e he => Nat.le_trans (ha e he).2 (by decide)
  have db : ∀ e ∈ b, e.data.length ≤ 140737488355328 := fun e he => Nat.le_trans (hb e he).2 (by decide)
  have dT : ∀ e ∈ T, e.data.length ≤ 140737488355328 := fun e he => Nat.le_trans (hT e he).2 (by decide)
  refine go_spec L code241 rfl ?_
  repeat (refine gk entU ?_)
  refine c_loop (Spec_SMono L) (fun (i : Nat) => [(0, .h (.sl t1 3 (a.map encE))), (1, .h (.sl t2 3 (b.map encE))), (2, .h (.sl t3 3 (T.map encE))), (7, .h (I i))])
    (fun _ => []) (fun i X => i ≤ a.length ∧ Fr [] H X) (fun i => a.length - i) 0 ?_ ⟨by simp, Fr.refl _ _⟩ ?_
  · (refine leM ?_ ?_ ?_ <;> (repeat refine leS trivial ?_) <;> exact leE)
  rintro i X ⟨hi, hf⟩
  repeat (refine gk entU ?_)
  (refine ct entU ?_ ?_ <;> intro h)
  · have hi' : i < a.length := by simpa using h
    have hp := h1 a[i].path
    repeat (refine gk entU ?_)
    (apply r_call; (focus rfl))
    refine get_spec L t3 T a[i].path lT dT X _ fun X1 g1 => ?_
    repeat (refine gk entU ?_)
    (apply r_call; (focus rfl))
    refine path_spec L t1 t2 a b a[i].path (getR T a[i].path).1 (getR T a[i].path).2 la lb da db X1 _ fun X2 g2 => ?_
    rw [hp]
    repeat (refine gk entU ?_)
    refine k_n (i + 1) (by omega) ⟨by omega, (hf.trans g1).trans g2⟩ ?_
    (refine leM ?_ ?_ ?_ <;> (repeat refine leS trivial ?_) <;> exact leE)
  clear hi h
  repeat (refine gk entU ?_)
  refine c_loop (Spec_SMono L) (fun (i : Nat) => [(0, .h (.sl t1 3 (a.map encE))), (1, .h (.sl t2 3 (b.map encE))), (2, .h (.sl t3 3 (T.map encE))), (10, .h (I i))])
    (fun _ => []) (fun i X => i ≤ T.length ∧ Fr [] H X) (fun i => T.length - i) 0 ?_ ⟨by simp, hf⟩ ?_
  · (refine leM ?_ ?_ ?_ <;> (repeat refine leS trivial ?_) <;> exact leE)
  clear hf
  rintro i X ⟨hi, hf⟩
  repeat (refine gk entU ?_)
  (refine ct entU ?_ ?_ <;> intro h)
  · have hi' : i < T.length := by simpa using h
    have hp := h2 T[i] (List.getElem_mem hi')
    repeat (refine gk entU ?_)
    (apply r_call; (focus rfl))
    refine path_spec L t1 t2 a b T[i].path T[i] true la lb da db X _ fun X2 g2 => ?_
    rw [hp]
    repeat (refine gk entU ?_)
    refine k_n (i + 1) (by omega) ⟨by omega, hf.trans g2⟩ ?_
    (refine leM ?_ ?_ ?_ <;> (repeat refine leS trivial ?_) <;> exact leE)
  repeat (refine gk entU ?_)
  exact resK_some (hk X hf)
end Sm

set_option linter.unusedVariables false
set_option linter.unusedSimpArgs false
set_option maxRecDepth 10000
set_option maxHeartbeats 1000000
namespace Sm
open Go
-- BASE entU
theorem pushes_ok {k : UInt8} {p : Ent → Bool} {q : Ent → List UInt8} {l : List Ent} (h1 : ∀ e ∈ l, e.path.length ≤ 1048576) (h2 : ∀ e ∈ l, (q e).length ≤ 1048576) : ∀ x ∈ pushes k p q l, x.p.length ≤ 1048576 ∧ x.t.length ≤ 1048576 := by
  intro x hx
  unfold pushes at hx
  obtain ⟨e, he, rfl⟩ := List.mem_map.mp hx
  exact ⟨h1 e (List.mem_filter.mp he).1, h2 e (List.mem_filter.mp he).1⟩
theorem steps_ok {s d W : List Ent} {del bak : Bool} (os : ∀ e ∈ s, okP e) (od : ∀ e ∈ d, okP e) (oW : ∀ e ∈ W, okP e) : ∀ x ∈ stepsR s d del bak W, x.p.length ≤ 1048576 ∧ x.t.length ≤ 1048576 := by
  intro x hx
  unfold stepsR at hx
  rcases List.mem_append.mp hx with hx | hx
  · rcases List.mem_append.mp hx with hx | hx
    · rcases List.mem_append.mp hx with hx | hx
      · exact pushes_ok (fun e he => (od e he).e.1) (fun e he => Nat.le_trans (rkep_len (od e he)) (by decide)) x hx
      · exact pushes_ok (fun e he => (od e (List.mem_reverse.mp he)).e.1) (fun e he => by simp) x hx
    · exact pushes_ok (fun e he => (oW e he).e.1) (fun e he => by simp) x hx
  · exact pushes_ok (fun e he => (os e he).e.1) (fun e he => by simp) x hx
theorem chk_len {l : List Ent} (h : chkT l = 0) : l.length ≤ 64 := by
  apply Decidable.byContradiction; intro hn
  rw [chkT, if_pos (by omega)] at h; cases h
attribute [local irreducible] csem rsem dsem seqK blockK normK finK DK RK JK BR G3 resK Spec Tok Fr CV

theorem reaches_spec (L : Linked code) (Z : Srt L) (t1 t2 : Tk) (s d : List Ent) (del bak : Bool) : PureF L 289 [.sl t1 3 (s.map encE), .sl t2 3 (d.map encE), .ag [B del, B bak]] (B true) := by
  intro H K hk
  have aw : ∀ X, Fr [] H X → ∀ K2, (∀ Y, Fr [] H Y → K2 (B true) Y) → Spec L.P L.ν 234 [] X K2 := fun X f K2 h => mawake_spec L Z X K2 fun Y g => h Y (f.trans g)
  refine go_spec L code289 rfl ?_
  repeat (refine gk entU ?_)
  (apply r_call; (focus rfl))
  refine light_spec L t1 s 40 2000 (by decide) (by decide) _ _ ?_
  cases c1 : light s 40 2000
  case false =>
    repeat (refine gk entU ?_)
    try simp only [Bool.not_false]
    repeat (refine gk entU ?_)
    (apply r_call; (focus rfl))
    refine aw H (Fr.refl _ _) _ fun Y f => ?_
    repeat (refine gk entU ?_)
    exact resK_some (hk Y f)
  repeat (refine gk entU ?_)
  try simp only [Bool.not_true]
  repeat (refine gk entU ?_)
  (apply r_call; (focus rfl))
  refine light_spec L t2 d 40 2000 (by decide) (by decide) _ _ ?_
  cases c2 : light d 40 2000
  case false =>
    repeat (refine gk entU ?_)
    try simp only [Bool.not_false]
    repeat (refine gk entU ?_)
    (apply r_call; (focus rfl))
    refine aw H (Fr.refl _ _) _ fun Y f => ?_
    repeat (refine gk entU ?_)
    exact resK_some (hk Y f)
  obtain ⟨ls, os⟩ := light_okP (by decide) c1
  obtain ⟨ld, od⟩ := light_okP (by decide) c2
  repeat (refine gk entU ?_)
  try simp only [Bool.not_true]
  repeat (refine gk entU ?_)
  (apply r_call; (focus rfl))
  refine wantR_spec L Z t1 t2 s d del bak (by omega) (by omega) os od _ _ fun H1 f1 => ?_
  repeat (refine gk entU ?_)
  (apply r_call; (focus rfl))
  refine planR_spec L Z t1 t2 s d del bak (by omega) (by omega) os od _ _ fun H2 f2 => ?_
  have hf2 := f1.trans f2
  rcases rWant_cases s d del bak with ⟨he, h0⟩ | ⟨hcs, hcd, hle, hr⟩
  · have he' : ((rWant s d del bak).2 != 0) = true := by simpa [bne] using he
    have hpl : rPlan s d del bak = ([], (rWant s d del bak).2) := by rw [rPlan, if_pos he]
    rw [hpl, h0]
    generalize (rWant s d del bak).2 = er at he'
    repeat (refine gk (And.intro entU he') ?_)
    simp only [beq_self_eq_true, List.map_nil, List.length_nil]
    repeat (refine gk entU ?_)
    rw [show ((0 : Int) + 0 == 0) = true from rfl]
    repeat (refine gk entU ?_)
    (apply r_call; (focus rfl))
    refine aw H2 hf2 _ fun Y f => ?_
    repeat (refine gk entU ?_)
    exact resK_some (hk Y f)
  have hwc := vant_chk (del := del) (bak := bak) hcs hcd hle
  have hrun := runs_all (del := del) (bak := bak) hcs hcd hle
  have hpl : rPlan s d del bak = (stepsR s d del bak (vant s d del bak), 0) := by
    rw [rPlan, hr, if_neg (fun h => h rfl)]
  have hsl := stepsR_len (s := s) (d := d) (del := del) (bak := bak) (W := vant s d del bak)
  have oW := chk_okP hwc
  have hso := steps_ok (del := del) (bak := bak) os od oW
  rw [hr, hpl]
  dsimp only
  clear hr hpl
  generalize hl : stepsR s d del bak (vant s d del bak) = l at hrun hsl hso
  generalize vant s d del bak = W at hwc hrun hle oW hsl
  clear hl c1 c2 f1 f2
  repeat (refine gk entU ?_)
  refine c_loop (Spec_SMono L) (fun (q : Nat × List Ent × Tk) => [(0, .h (.sl t1 3 (s.map encE))), (1, .h (.sl t2 3 (d.map encE))), (7, .h (.sl .no 3 (W.map encE))), (9, .h (.sl .no 3 (l.map encP))), (10, .h (I 0)), (11, .h (.sl q.2.2 3 (q.2.1.map encE))), (12, .h (I q.1))])
    (fun _ => []) (fun q X => q.1 ≤ l.length ∧ Fr [] H X ∧ chkT q.2.1 = 0 ∧ Runs s d W (fun T => T = W) q.2.1 (l.drop q.1)) (fun q => l.length - q.1) (0, d, t2) ?_ ⟨by simp, hf2, hcd, by simpa using hrun⟩ ?_
  · (refine leM ?_ ?_ ?_ <;> (repeat refine leS trivial ?_) <;> exact leE)
  clear hrun hf2
  rintro ⟨i, T, tk⟩ X ⟨hi, hf, hc, hrun⟩
  dsimp only at hi hf hc hrun ⊢
  have oT := chk_okP hc
  have lT := chk_len hc
  repeat (refine gk entU ?_)
  (refine ct entU ?_ ?_ <;> intro h)
  · have hi' : i < l.length := by simpa using h
    rw [List.drop_eq_getElem_cons hi'] at hrun
    obtain ⟨hx1, hx2⟩ := hso _ (List.getElem_mem hi')
    repeat (refine gk (And.intro entU encP_u) ?_)
    (apply r_call; (focus rfl))
    refine Spec_weak (hs' := [.sl tk 3 (T.map encE), encP l[i], .sl t1 3 (s.map encE)]) ⟨Weak.refl _, Weak.refl _, Weak.refl _, trivial⟩ ?_
    refine apply_spec L tk t1 T l[i] s (by omega) (by omega) (fun e he => (oT e he).e) (fun e he => (os e he).e) hx1 hx2 X _ fun X1 g1 => ?_
    have hf1 := hf.trans g1
    rcases hrun with ⟨h5, h64⟩ | ⟨h0, hw, hrun⟩
    · generalize applyM T l[i] s = r at h5
      obtain ⟨r1, r2⟩ := r
      dsimp only at h5 ⊢
      subst h5
      have hge : decide ((64 : Int) ≤ (T.length : Int)) = true := by simp only [decide_eq_true_eq]; omega
      repeat (refine gk entU ?_)
      try rw [show ((5 : Int) == 5) = true from rfl]
      repeat (refine gk entU ?_)
      rw [hge]
      repeat (refine gk entU ?_)
      (apply r_call; (focus rfl))
      refine aw X1 hf1 _ fun Y f => ?_
      repeat (refine gk entU ?_)
      exact resK_some (hk Y f)
    generalize applyM T l[i] s = r at h0 hw hrun
    obtain ⟨r1, r2⟩ := r
    dsimp only at h0 hw hrun ⊢
    subst h0
    have o1 := chk_okP hw.c
    have l1 := chk_len hw.c
    have nd := chk_nodup hcd
    have nW := chk_nodup hwc
    repeat (refine gk entU ?_)
    try rw [show ((0 : Int) == 5) = false from rfl]
    repeat (refine gk entU ?_)
    try rw [show ((0 : Int) != 0) = false from rfl]
    repeat (refine gk entU ?_)
    (apply r_call; (focus rfl))
    refine check_spec L .no r1 (by omega) (fun e he => (o1 e he).e) X1 _ fun X2 g2 => ?_
    rw [hw.c]
    repeat (refine gk entU ?_)
    (apply r_call; (focus rfl))
    refine between_spec L t2 .no .no d W r1 od oW o1 (by omega) (by omega) (by omega) (fun p => (way_path hw nd nW p).1) (fun e he => (way_at hw nd nW he).1) X2 _ fun X3 g3 => ?_
    repeat (refine gk entU ?_)
    (apply r_call; (focus rfl))
    refine between_spec L .no t2 .no W d r1 oW od o1 (by omega) (by omega) (by omega) (fun p => (way_path hw nd nW p).2) (fun e he => (way_at hw nd nW he).2) X3 _ fun X4 g4 => ?_
    repeat (refine gk entU ?_)
    refine k_n (i + 1, r1, .no) (by simp only; omega) ⟨by simp only; omega, ((hf1.trans g2).trans g3).trans g4, hw.c, hrun⟩ ?_
    (refine leM ?_ ?_ ?_ <;> (repeat refine leS trivial ?_) <;> exact leE)
  have hi' : i = l.length := by have : ¬ i < l.length := by simpa using h
                                omega
  subst hi'
  rw [List.drop_length] at hrun
  have hTW : T = W := hrun
  subst hTW
  repeat (refine gk entU ?_)
  (apply r_call; (focus rfl))
  refine same_spec L tk .no T T (by omega) X _ ?_
  rw [sameT_self]
  repeat (refine gk entU ?_)
  (apply r_call; (focus rfl))
  refine aw X hf _ fun Y f => ?_
  repeat (refine gk entU ?_)
  exact resK_some (hk Y f)
end Sm
