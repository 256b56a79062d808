/-
  A layer of one's own: text L24.
-/
import Derived.Test.YtkephaeefknlbaaSmL23
set_option linter.unusedVariables false
set_option linter.unusedSimpArgs false
set_option maxRecDepth 10000
set_option maxHeartbeats 2000000
namespace Sm
open Go
-- BASE lossU

/-- A ledger and its fork, each one's own. -/
structure Q2 (H0 H : Heap) (b : Nat) (x : Led) (t : Tk) (c : Nat) (f : Led) (s : Tk) : Prop where
  lx : LedAt H b x t
  lf : LedAt H c f s
  fr : Fr [] H0 H
  nc : H0 c = none
  fs : Fresh H0 s
  bc : b ≠ c
  ap : Apart t s
theorem Q2.up {H0 H H' : Heap} {b c : Nat} {x f f' : Led} {t s s' : Tk} (h : Q2 H0 H b x t c f s) (hu : LUp c H H' s s') (hl : LedAt H' c f' s') : Q2 H0 H' b x t c f' s' := by
  obtain ⟨g1, g2⟩ := hu.fr0 h.fr h.nc h.fs
  refine ⟨⟨hu.fr b _ (fun hm => ?_) h.lx.1, h.lx.2.fr' hu.fr (fun a ha hm => ?_)⟩, hl, g1, h.nc, g2, h.bc, fun a h1 h2 => ?_⟩
  · rcases List.mem_cons.mp hm with hm | hm
    · exact h.bc hm
    · exact h.lf.2.ne' h.lx.1 _ hm rfl
  · rcases List.mem_cons.mp hm with rfl | hm
    · exact h.lx.2.ne' h.lf.1 _ ha rfl
    · exact h.ap a ha hm
  · rcases hu.nw a h2 with h3 | h3
    · exact h.ap a h1 h3
    · obtain ⟨r, hr⟩ := h.lx.2.held a h1
      rw [hr] at h3; cases h3
def lsF (x : Led) (m : List Act) (i : Nat) : Led := (m.take i).foldl actL x
def rsF (r : RL) (m : List Act) (i : Nat) : RL := (m.take i).foldl actR r
theorem lsF_succ {x : Led} {m : List Act} {i : Nat} (h : i < m.length) : lsF x m (i + 1) = actL (lsF x m i) m[i] := fold_take h _
theorem rsF_succ {x : RL} {m : List Act} {i : Nat} (h : i < m.length) : rsF x m (i + 1) = actR (rsF x m i) m[i] := fold_take h _
theorem sF_ok {x : Led} {r : RL} (hw : WF x) (hr : Rel x r) (m : List Act) : ∀ i, i ≤ m.length → WF (lsF x m i) ∧ Rel (lsF x m i) (rsF r m i) ∧ (rsF r m i).sends ≤ r.sends + i
  | 0, _ => ⟨hw, hr, by simp [rsF]⟩
  | i + 1, h => by
    obtain ⟨h1, h2, h3⟩ := sF_ok hw hr m i (by omega)
    rw [lsF_succ (by omega), rsF_succ (by omega)]
    refine ⟨h1.act _, h2.act h1 _, ?_⟩
    have := sends_act (rsF r m i) m[i]
    omega
attribute [local irreducible] csem rsem dsem seqK blockK normK finK DK RK JK BR G3 resK Spec Tok Fr

theorem forks_spec (L : Linked code) (tk tk2 : Tk) (l m : List Act) : Pure L 147 [.sl tk 8 (l.map (Act.enc .no)), .sl tk2 8 (m.map (Act.enc .no))] (B true) := by
  intro H K hk
  refine go_spec L code147 rfl ?_
  repeat (refine gk lossU ?_)
  (apply r_call; (focus rfl))
  refine few_spec L tk l _ _ ?_
  cases hf : fewB l
  · repeat (refine gk lossU ?_)
    (apply r_call; (focus rfl))
    refine awake_spec L _ _ ?_
    repeat (refine gk lossU ?_)
    exact resK_some hk
  have hl : l.length ≤ 200 := by
    simp only [fewB, Bool.and_eq_true, decide_eq_true_eq] at hf; exact hf.1
  repeat (refine gk lossU ?_)
  (apply r_call; (focus rfl))
  refine few_spec L tk2 m _ _ ?_
  cases hg : fewB m
  · repeat (refine gk lossU ?_)
    (apply r_call; (focus rfl))
    refine awake_spec L _ _ ?_
    repeat (refine gk lossU ?_)
    exact resK_some hk
  have hm : m.length ≤ 200 := by
    simp only [fewB, Bool.and_eq_true, decide_eq_true_eq] at hg; exact hg.1
  repeat (refine gk lossU ?_)
  (apply r_call; (focus rfl))
  refine new_spec L H _ fun b H1 hb hfr hled => ?_
  repeat (refine gk lossU ?_)
  (apply r_call; (focus rfl))
  refine rnew_spec L _ _ ?_
  repeat (refine gk (And.intro lossU (And.intro encR.eq_1 RL.cells.eq_1)) ?_)
  refine c_loop (Spec_SMono L) (fun (i : Nat) => [(0, .h (.sl tk 8 (l.map (Act.enc .no)))), (1, .h (.sl tk2 8 (m.map (Act.enc .no)))), (4, .h (B false)), (5, .h (ptr b)), (6, .lp 0 0), (7, .h (I i))]) (fun i => [(0, (rst l i).cells .no)])
    (fun i H' => i ≤ l.length ∧ Own H H' b (lst l i)) (fun i => l.length - i) 0 ?_ ⟨by omega, _, hled, hfr, hb, Fresh.full⟩ ?_
  · (refine leM ?_ ?_ ?_ <;> (repeat refine leS trivial ?_) <;> exact leE)
  rintro i H2 ⟨hi, tk1, h1, h2, h3, h4⟩
  obtain ⟨w1, w2, w3⟩ := st_ok l i hi
  repeat (refine gk (And.intro lossU RL.cells.eq_1) ?_)
  (refine ct lossU ?_ ?_ <;> intro h)
  · have hi' : i < l.length := by simpa using h
    have q1 := lst_succ hi'
    have q2 := rst_succ hi'
    repeat (refine gk (And.intro lossU (And.intro RL.cells.eq_1 Act.enc.eq_1)) ?_)
    (apply r_call; (focus rfl))
    refine do_ok L b (lst l i) tk1 (rst l i) l[i] H2 h1 w1 w2 (by omega) _ fun H3 tk3 k1 k2 => ?_
    rw [← q2]
    rw [← q1] at k2
    repeat (refine gk (And.intro lossU (And.intro encR.eq_1 (And.intro RL.cells.eq_1 Act.enc.eq_1))) ?_)
    refine k_n (i + 1) (by omega) ⟨by omega, Own.up h2 h3 h4 k1 k2⟩ ?_
    (refine leM ?_ ?_ ?_ <;> (repeat refine leS (And.intro lossU RL.cells.eq_1) ?_) <;> exact leE)
  · clear h
    repeat (refine gk (And.intro lossU RL.cells.eq_1) ?_)
    (apply r_call; (focus rfl))
    refine fork_spec L b (lst l i) tk1 H2 h1 (Nat.le_trans w1.len (by decide)) _ fun c H3 tk3 k1 k2 k3 k4 => ?_
    have hbc : b ≠ c := by rintro rfl; have := h1.1; rw [k1] at this; cases this
    have qq : Q2 H H3 b (lst l i) tk1 c (lst l i) tk3 := by
      refine ⟨⟨k2.get (by simp) h1.1, h1.2.fr' k2 (by simp)⟩, k4, h2.trans k2, ?_, ?_, hbc, ?_⟩
      · cases hx : H c with
        | none => rfl
        | some r => have := h2.get (by simp) hx; rw [k1] at this; cases this
      · intro a ha
        cases hx : H a with
        | none => rfl
        | some r => have := h2.get (by simp) hx; rw [k3 a ha] at this; cases this
      · intro a g1 g2
        obtain ⟨r, hr⟩ := h1.2.held a g1
        rw [k3 a g2] at hr; cases hr
    generalize lst l i = x0 at w1 w2 qq
    generalize rst l i = r0 at w2 w3
    repeat (refine gk (And.intro lossU RL.cells.eq_1) ?_)
    refine c_loop (Spec_SMono L) (fun (q : Nat × Tk) => [(1, .h (.sl tk2 8 (m.map (Act.enc .no)))), (4, .h (B false)), (5, .h (ptr b)), (6, .lp 0 0), (8, .h (ptr c)), (9, .lp 1 0), (11, .h (I q.1))]) (fun q => [(0, r0.cells .no), (1, (rsF r0 m q.1).cells .no)])
      (fun q H' => q.1 ≤ m.length ∧ Q2 H H' b x0 tk1 c (lsF x0 m q.1) q.2) (fun q => m.length - q.1) (0, tk3) ?_ ⟨by simp, qq⟩ ?_
    · (refine leM ?_ ?_ ?_ <;> (repeat refine leS (And.intro lossU RL.cells.eq_1) ?_) <;> exact leE)
    rintro ⟨j, tk4⟩ H4 ⟨hj, q5⟩
    simp only at hj q5 ⊢
    obtain ⟨v1, v2, v3⟩ := sF_ok w1 w2 m j hj
    repeat (refine gk (And.intro lossU RL.cells.eq_1) ?_)
    (refine ct lossU ?_ ?_ <;> intro h)
    · have hj' : j < m.length := by simpa using h
      have q1 := lsF_succ (x := x0) hj'
      have q2 := rsF_succ (x := r0) hj'
      repeat (refine gk (And.intro lossU (And.intro RL.cells.eq_1 Act.enc.eq_1)) ?_)
      (apply r_call; (focus rfl))
      refine do_ok L c (lsF x0 m j) tk4 (rsF r0 m j) m[j] H4 q5.lf v1 v2 (by omega) _ fun H5 tk5 g1 g2 => ?_
      rw [← q2]
      rw [← q1] at g2
      repeat (refine gk (And.intro lossU (And.intro encR.eq_1 (And.intro RL.cells.eq_1 Act.enc.eq_1))) ?_)
      refine k_n (j + 1, tk5) (by simp only; omega) ⟨by simp only; omega, q5.up g1 g2⟩ ?_
      (refine leM ?_ ?_ ?_ <;> (repeat refine leS (And.intro lossU RL.cells.eq_1) ?_) <;> exact leE)
    · clear h
      generalize lsF x0 m j = x1 at v1 v2 q5
      generalize rsF r0 m j = r1 at v2 v3
      repeat (refine gk (And.intro lossU RL.cells.eq_1) ?_)
      (apply r_call; (focus rfl))
      refine ack_nil L .full [encS ⟨1, 1⟩] 1 _ _ ?_
      repeat (refine gk lossU ?_)
      (apply r_call; (focus rfl))
      refine next_nil L 1 _ _ ?_
      repeat (refine gk lossU ?_)
      (apply r_call; (focus rfl))
      refine oldest_nil L _ _ ?_
      repeat (refine gk lossU ?_)
      (apply r_call; (focus rfl))
      refine largest_nil L _ _ ?_
      repeat (refine gk lossU ?_)
      (apply r_call; (focus rfl))
      refine sent_nil L ⟨0, 0, 1, false⟩ _ _ ?_
      repeat (refine gk lossU ?_)
      (apply r_call; (focus rfl))
      refine lost_nil L 1 1 _ _ ?_
      repeat (refine gk lossU ?_)
      (apply r_call; (focus rfl))
      refine flying_nil L _ _ ?_
      repeat (refine gk lossU ?_)
      (apply r_call; (focus rfl))
      refine len_nil L _ _ ?_
      repeat (refine gk lossU ?_)
      (apply r_call; (focus rfl))
      refine fork_nil L _ _ ?_
      repeat (refine gk (And.intro lossU RL.cells.eq_1) ?_)
      (apply r_call; (focus rfl))
      refine same_ok L c x1 tk4 r1 9 H4 q5.lf v1 v2 _ ?_
      repeat (refine gk (And.intro lossU RL.cells.eq_1) ?_)
      (apply r_call; (focus rfl))
      refine same_ok L b x0 tk1 r0 9 H4 q5.lx w1 w2 _ ?_
      repeat (refine gk lossU ?_)
      (apply r_call; (focus rfl))
      refine awake_spec L _ _ ?_
      repeat (refine gk lossU ?_)
      exact resK_sub (Weak.refl _) q5.fr.sub hk
end Sm
