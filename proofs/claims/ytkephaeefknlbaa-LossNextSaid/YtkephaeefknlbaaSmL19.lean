/-
  A layer of one's own: text L19.
-/
import Derived.Test.YtkephaeefknlbaaSmL18
set_option linter.unusedVariables false
set_option linter.unusedSimpArgs false
set_option maxRecDepth 10000
set_option maxHeartbeats 2000000
namespace Sm
open Go
-- BASE lossU
attribute [local irreducible] csem rsem dsem seqK blockK normK finK DK RK BR G3 resK Spec Tok Fr

theorem nextlaw_spec (L : Linked code) (tk : Tk) (l : List Act) (late : Int) (hlate : 0 ≤ late ∧ late ≤ 4294967295) : Pure L 143 [.sl tk 8 (l.map (Act.enc .no)), .v (.int .u32 late)] (B true) := by
  intro H K hk
  refine go_spec L code143 rfl ?_
  repeat (refine gk lossU ?_)
  (apply r_call; (focus rfl))
  refine few_spec L tk l _ _ ?_
  cases hf : fewB l
  · repeat (refine gk lossU ?_)
    (apply r_call; (focus rfl))
    refine awake_spec L _ _ ?_
    repeat (refine gk lossU ?_)
    exact resK_some hk
  have hl : l.length ≤ 200 := by
    simp only [fewB, Bool.and_eq_true, decide_eq_true_eq] at hf; exact hf.1
  repeat (refine gk lossU ?_)
  (apply r_call; (focus rfl))
  refine new_spec L H _ fun b H1 hb hfr hled => ?_
  repeat (refine gk lossU ?_)
  (apply r_call; (focus rfl))
  refine rnew_spec L _ _ ?_
  repeat (refine gk (And.intro lossU (And.intro encR.eq_1 RL.cells.eq_1)) ?_)
  refine c_loop (Spec_SMono L) (fun (i : Nat) => [(0, .h (.sl tk 8 (l.map (Act.enc .no)))), (1, .h (.v (.int .u32 late))), (5, .h (ptr b)), (6, .lp 0 0), (7, .h (I i))]) (fun i => [(0, (rst l i).cells .no)])
    (fun i H' => i ≤ l.length ∧ Own H H' b (lst l i)) (fun i => l.length - i) 0 ?_ ⟨by omega, _, hled, hfr, hb, Fresh.full⟩ ?_
  · (refine leM ?_ ?_ ?_ <;> (repeat refine leS trivial ?_) <;> exact leE)
  rintro i H2 ⟨hi, tk1, h1, h2, h3, h4⟩
  obtain ⟨w1, w2, w3⟩ := st_ok l i hi
  repeat (refine gk (And.intro lossU RL.cells.eq_1) ?_)
  (refine ct lossU ?_ ?_ <;> intro h)
  · have hi' : i < l.length := by simpa using h
    have q1 := lst_succ hi'
    have q2 := rst_succ hi'
    repeat (refine gk (And.intro lossU (And.intro RL.cells.eq_1 Act.enc.eq_1)) ?_)
    (apply r_call; (focus rfl))
    refine do_ok L b (lst l i) tk1 (rst l i) l[i] H2 h1 w1 w2 (by omega) _ fun H3 tk3 k1 k2 => ?_
    rw [← q2]
    rw [← q1] at k2
    repeat (refine gk (And.intro lossU (And.intro encR.eq_1 (And.intro RL.cells.eq_1 Act.enc.eq_1))) ?_)
    refine k_n (i + 1) (by omega) ⟨by omega, Own.up h2 h3 h4 k1 k2⟩ ?_
    (refine leM ?_ ?_ ?_ <;> (repeat refine leS (And.intro lossU RL.cells.eq_1) ?_) <;> exact leE)
  · have hn : 0 ≤ late % 1048576 ∧ late % 1048576 < 1048576 := by omega
    obtain ⟨n1, n2⟩ := next_law w1 hn
    have hlen : ∀ {m : Led}, WF m → m.opn.length ≤ 1048576 := fun h => Nat.le_trans h.len (by decide)
    have hsm : ∀ {m : Led}, WF m → sm m.big := fun h => by have := h.bg; unfold sm; omega
    have v1 := w1.lost 0 1099511627776
    repeat (refine gk (And.intro lossU RL.cells.eq_1) ?_)
    generalize late % 1048576 = n at hn n1 n2 ⊢
    (apply r_call; (focus rfl))
    refine lost_spec L b (lst l i) tk1 0 1099511627776 H2 h1 (hlen w1) (hsm w1) _ fun H3 tk3 k1 k2 => ?_
    obtain ⟨tk3, h1, h2, h3, h4⟩ := Own.up h2 h3 h4 k1 k2
    generalize lostN (lst l i) 0 1099511627776 = x at n1 n2 v1 h1
    repeat (refine gk (And.intro lossU RL.cells.eq_1) ?_)
    (apply r_call; (focus rfl))
    refine next_spec L b x tk3 n H3 h1 (hlen v1) v1.pk _ ?_
    cases hi2 : (nextR x n).2
    · repeat (refine gk lossU ?_)
      (apply r_call; (focus rfl))
      refine lost_spec L b x tk3 1099511627776 0 H3 h1 (hlen v1) (hsm v1) _ fun H4 tk4 k1 k2 => ?_
      rw [n1 hi2]
      obtain ⟨tk4, h1, h2, h3, h4⟩ := Own.up h2 h3 h4 k1 k2
      repeat (refine gk lossU ?_)
      (apply r_call; (focus rfl))
      refine awake_spec L _ _ ?_
      repeat (refine gk lossU ?_)
      exact resK_sub (Weak.refl _) h2.sub hk
    · replace n2 := n2 hi2
      generalize (nextR x n).1 = at0 at n2 ⊢
      cases c1 : decide (1099511627776 < at0)
      case true =>
        repeat (refine gk (And.intro lossU c1) ?_)
        (apply r_call; (focus rfl))
        refine awake_spec L _ _ ?_
        repeat (refine gk lossU ?_)
        exact resK_sub (Weak.refl _) h2.sub hk
      obtain ⟨m1, m2, m3⟩ := n2 (by simpa using c1)
      have c1' : at0 ≤ 1099511627776 := by simpa using c1
      cases c2 : decide (0 < at0)
      · repeat (refine gk (And.intro lossU (And.intro c1 c2)) ?_)
        (apply r_call; (focus rfl))
        refine lost_spec L b x tk3 at0 n H3 h1 (hlen v1) (hsm v1) _ fun H4 tk4 k1 k2 => ?_
        obtain ⟨tk4, h1, h2, h3, h4⟩ := Own.up h2 h3 h4 k1 k2
        have hpos := m3 x (.inl rfl)
        generalize lostL x at0 n = Z at hpos ⊢
        have c3 : decide ((0 : Int) < (Z.length : Int)) = true := by simpa using hpos
        repeat (refine gk (And.intro lossU c3) ?_)
        (apply r_call; (focus rfl))
        refine awake_spec L _ _ ?_
        repeat (refine gk lossU ?_)
        exact resK_sub (Weak.refl _) h2.sub hk
      · have c2' : 0 < at0 := by simpa using c2
        repeat (refine gk (And.intro lossU (And.intro c1 c2)) ?_)
        (apply r_call; (focus rfl))
        refine lost_spec L b x tk3 (at0 - 1) n H3 h1 (hlen v1) (hsm v1) _ fun H4 tk4 k1 k2 => ?_
        rw [m2 c2']
        obtain ⟨tk4, h1, h2, h3, h4⟩ := Own.up h2 h3 h4 k1 k2
        have v2 := v1.lost (at0 - 1) n
        have hpos := m3 _ (.inr ⟨rfl, c2'⟩)
        generalize lostN x (at0 - 1) n = y at v2 h1 hpos
        repeat (refine gk lossU ?_)
        (apply r_call; (focus rfl))
        refine lost_spec L b y tk4 at0 n H4 h1 (hlen v2) (hsm v2) _ fun H5 tk5 k1 k2 => ?_
        obtain ⟨tk5, h1, h2, h3, h4⟩ := Own.up h2 h3 h4 k1 k2
        generalize lostL y at0 n = Z at hpos ⊢
        have c3 : decide ((0 : Int) < (Z.length : Int)) = true := by simpa using hpos
        repeat (refine gk (And.intro lossU c3) ?_)
        (apply r_call; (focus rfl))
        refine awake_spec L _ _ ?_
        repeat (refine gk lossU ?_)
        exact resK_sub (Weak.refl _) h2.sub hk
end Sm
