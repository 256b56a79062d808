/-
  A layer of one's own: text L17.
-/
import Derived.Test.YtkephaeefknlbaaSmL16
set_option linter.unusedVariables false
set_option linter.unusedSimpArgs false
set_option maxRecDepth 10000
set_option maxHeartbeats 2000000
namespace Sm
open Go
-- BASE lossU
attribute [local irreducible] csem rsem dsem seqK blockK normK finK DK RK BR G3 resK Spec Tok Fr

def lst (l : List Act) (i : Nat) : Led := (l.take i).foldl actL newL
def rst (l : List Act) (i : Nat) : RL := (l.take i).foldl actR newR
theorem lst_succ {l : List Act} {i : Nat} (h : i < l.length) : lst l (i + 1) = actL (lst l i) l[i] := fold_take h _
theorem rst_succ {l : List Act} {i : Nat} (h : i < l.length) : rst l (i + 1) = actR (rst l i) l[i] := fold_take h _
theorem st_ok (l : List Act) : ∀ i, i ≤ l.length → WF (lst l i) ∧ Rel (lst l i) (rst l i) ∧ (rst l i).sends ≤ i
  | 0, _ => ⟨WF.new, Rel.new, by simp [rst, newR]⟩
  | i + 1, h => by
    obtain ⟨h1, h2, h3⟩ := st_ok l i (by omega)
    rw [lst_succ (by omega), rst_succ (by omega)]
    refine ⟨h1.act _, h2.act h1 _, ?_⟩
    have := sends_act (rst l i) l[i]
    omega
/-- A call on both, under what holds at all times. -/
theorem do_ok (L : Linked code) (b : Nat) (l : Led) (tk : Tk) (r : RL) (a : Act) (H : Heap) (h : LedAt H b l tk) (hw : WF l) (hr : Rel l r) (hs : r.sends ≤ 1000000) (K)
    (hk : ∀ H' tk', LUp b H H' tk tk' → LedAt H' b (actL l a) tk' → K (.tu [encR (actR r a), B true]) H') : Spec L.P L.ν 105 [ptr b, encR r, Act.enc .no a] H K := by
  obtain ⟨a1, a2⟩ := hr.ack hw a.spans a.now
  obtain ⟨b1, b2⟩ := hr.lost a.now a.late
  obtain ⟨c1, c2⟩ := hr.sent a.p
  have e := hr.1
  refine do_spec L b l tk r a H h (Nat.le_trans hw.len (by decide)) hw.pk hw.la.2.2.1 (by have := hw.bg; unfold sm; omega) (by rw [← e]; rfl) (by rw [← e]; rfl) (by rw [← e]; rfl) ⟨hr.2, by omega⟩ a1 b1 c1 ?_ ?_ K hk
  · rw [← a1]
    unfold ackR
    split
    · exact Nat.le_trans (List.length_filter_le _ _) (Nat.le_trans hw.len (by decide))
    · simp
  · rw [← b1]
    unfold lostL
    split
    · exact Nat.le_trans (List.length_filter_le _ _) (Nat.le_trans hw.len (by decide))
    · simp
theorem same_ok (L : Linked code) (b : Nat) (l : Led) (tk : Tk) (r : RL) (late : Int) (H : Heap) (h : LedAt H b l tk) (hw : WF l) (hr : Rel l r) (K) (hk : K (B true) H) : Spec L.P L.ν 112 [ptr b, encR r, I late] H K := by
  have e := hr.1
  exact same_spec L b l tk r late H h (Nat.le_trans hw.len (by decide)) hw.pk hw.bg.1 (by rw [← e]; rfl) (by rw [← e]; rfl) (next_eq hw hr late) K hk

theorem plays_spec (L : Linked code) (tk : Tk) (l : List Act) (late : Int) : Pure L 146 [.sl tk 8 (l.map (Act.enc .no)), I late] (B true) := by
  intro H K hk
  refine go_spec L code146 rfl ?_
  repeat (refine gk lossU ?_)
  (apply r_call; (focus rfl))
  refine few_spec L tk l _ _ ?_
  cases hf : fewB l
  · repeat (refine gk lossU ?_)
    (apply r_call; (focus rfl))
    refine awake_spec L _ _ ?_
    repeat (refine gk lossU ?_)
    exact resK_some hk
  have hl : l.length ≤ 200 := by
    simp only [fewB, Bool.and_eq_true, decide_eq_true_eq] at hf; exact hf.1
  repeat (refine gk lossU ?_)
  (apply r_call; (focus rfl))
  refine new_spec L H _ fun b H1 hb hfr hled => ?_
  repeat (refine gk lossU ?_)
  (apply r_call; (focus rfl))
  refine rnew_spec L _ _ ?_
  repeat (refine gk (And.intro lossU (And.intro encR.eq_1 RL.cells.eq_1)) ?_)
  refine c_loop (Spec_SMono L) (fun (i : Nat) => [(0, .h (.sl tk 8 (l.map (Act.enc .no)))), (1, .h (I late)), (5, .h (ptr b)), (6, .lp 0 0), (7, .h (B true)), (8, .h (I i))]) (fun i => [(0, (rst l i).cells .no)])
    (fun i H' => i ≤ l.length ∧ Own H H' b (lst l i)) (fun i => l.length - i) 0 ?_ ⟨by omega, _, hled, hfr, hb, Fresh.full⟩ ?_
  · (refine leM ?_ ?_ ?_ <;> (repeat refine leS trivial ?_) <;> exact leE)
  rintro i H2 ⟨hi, tk1, h1, h2, h3, h4⟩
  obtain ⟨w1, w2, w3⟩ := st_ok l i hi
  repeat (refine gk (And.intro lossU RL.cells.eq_1) ?_)
  (refine ct lossU ?_ ?_ <;> intro h)
  · have hi' : i < l.length := by simpa using h
    obtain ⟨v1, v2, v3⟩ := st_ok l (i + 1) (by omega)
    have q1 := lst_succ hi'
    have q2 := rst_succ hi'
    repeat (refine gk (And.intro lossU (And.intro RL.cells.eq_1 Act.enc.eq_1)) ?_)
    (apply r_call; (focus rfl))
    refine do_ok L b (lst l i) tk1 (rst l i) l[i] H2 h1 w1 w2 (by omega) _ fun H3 tk3 k1 k2 => ?_
    rw [← q2]
    rw [← q1] at k2
    obtain ⟨tk3, h1, h2, h3, h4⟩ := Own.up h2 h3 h4 k1 k2
    repeat (refine gk (And.intro lossU (And.intro encR.eq_1 (And.intro RL.cells.eq_1 Act.enc.eq_1))) ?_)
    (apply r_call; (focus rfl))
    refine same_ok L b (lst l (i + 1)) tk3 (rst l (i + 1)) l[i].late H3 h1 v1 v2 _ ?_
    repeat (refine gk lossU ?_)
    refine k_n (i + 1) (by omega) ⟨by omega, tk3, h1, h2, h3, h4⟩ ?_
    (refine leM ?_ ?_ ?_ <;> (repeat refine leS (And.intro lossU RL.cells.eq_1) ?_) <;> exact leE)
  · have hi' : i = l.length := by have : ¬ i < l.length := by simpa using h
                                  omega
    subst hi'
    repeat (refine gk (And.intro lossU RL.cells.eq_1) ?_)
    (apply r_call; (focus rfl))
    refine same_ok L b (lst l l.length) tk1 (rst l l.length) late H2 h1 w1 w2 _ ?_
    repeat (refine gk lossU ?_)
    (apply r_call; (focus rfl))
    refine awake_spec L _ _ ?_
    repeat (refine gk lossU ?_)
    exact resK_sub (Weak.refl _) h2.sub hk
end Sm
