/-
  A layer of one's own: text L11.
-/
import Derived.Test.YtkephaeefknlbaaSmL10
set_option linter.unusedVariables false
set_option linter.unusedSimpArgs false
set_option maxRecDepth 10000
set_option maxHeartbeats 1000000
namespace Sm
open Go
-- BASE lossU
attribute [local irreducible] csem rsem dsem seqK blockK normK finK DK RK BR G3 resK Spec Tok Fr

def RL.led (r : RL) : Led := ⟨r.opn, r.last, decide (0 < r.sends), r.big⟩
def rsentN (r : RL) (p : Pk) : RL := if sentE r.led p = 0 then ⟨r.opn ++ [p], r.sends + 1, p, r.big⟩ else r
theorem rsent_spec (L : Linked code) (r : RL) (p : Pk) (hlen : r.opn.length ≤ 1048576) (hs : 0 ≤ r.sends ∧ r.sends ≤ 1099511627776) (H : Heap) (K)
    (hk : ∀ H', Fr [] H H' → K (.tu [encR (rsentN r p), I (sentE r.led p)]) H') : Spec L.P L.ν 119 [encR r, enc p] H K := by
  have hno : ∀ e, sentE r.led p = e → e ≠ 0 → K (.tu [encR r, I e]) H := fun e e1 e2 => by
    have := hk H (Fr.refl _ _)
    rw [rsentN, e1, if_neg e2] at this
    exact this
  refine go_spec L code119 rfl ?_
  repeat (refine gk (And.intro lossU (And.intro encR.eq_1 RL.cells.eq_1)) ?_)
  (apply r_call; (focus rfl))
  refine time_spec L p.num _ _ ?_
  cases m1 : mayB p.num
  · repeat (refine gk (And.intro lossU (And.intro encR.eq_1 RL.cells.eq_1)) ?_)
    exact resK_some (hno 2 (by simp [sentE, m1]) (by decide))
  repeat (refine gk lossU ?_)
  (apply r_call; (focus rfl))
  refine time_spec L p.at' _ _ ?_
  cases m2 : mayB p.at'
  · repeat (refine gk (And.intro lossU (And.intro encR.eq_1 RL.cells.eq_1)) ?_)
    exact resK_some (hno 2 (by simp [sentE, m2]) (by decide))
  have e5 : ∀ e, (if decide (p.size < 1) || decide (1200 < p.size) then (2 : Int) else if decide (0 < r.sends) && (decide (p.num ≤ r.last.num) || decide (p.at' < r.last.at')) then (2 : Int) else if decide ((1024 : Int) ≤ (r.opn.length : Int)) then 10 else 0) = e → sentE r.led p = e := fun e h => by rw [sentE, m1, m2]; exact h
  cases c3 : decide (p.size < 1) <;> cases c4 : decide (1200 < p.size) <;> cases c5 : decide (0 < r.sends) <;> cases c6 : decide (p.num ≤ r.last.num) <;> cases c7 : decide (p.at' < r.last.at') <;> rw [c3, c4, c5, c6, c7] at e5
  all_goals repeat (refine gk (And.intro lossU (And.intro encR.eq_1 (And.intro RL.cells.eq_1 (And.intro c3 (And.intro c4 (And.intro c5 (And.intro c6 c7))))))) ?_)
  all_goals try exact resK_some (hno 2 (e5 _ rfl) (by decide))
  all_goals cases c8 : decide ((1024 : Int) ≤ (r.opn.length : Int)) <;> rw [c8] at e5
  all_goals repeat (refine gk (And.intro lossU (And.intro encR.eq_1 (And.intro RL.cells.eq_1 c8))) ?_)
  all_goals try exact resK_some (hno 10 (e5 _ rfl) (by decide))
  all_goals have hE := e5 0 rfl
  all_goals have hN : rsentN r p = ⟨r.opn ++ [p], r.sends + 1, p, r.big⟩ := by rw [rsentN, if_pos hE]
  all_goals rw [hE, hN] at hk
  all_goals (apply r_app0; (focus rfl); (focus rfl); (focus (simp; omega)))
  all_goals first
    | (intro h0
       have hopn : r.opn = [] := by simpa using h0
       repeat (refine gk (And.intro lossU (And.intro encR.eq_1 RL.cells.eq_1)) ?_)
       (apply r_app0; (focus rfl); (focus rfl); (focus (simp)))
       · intro h; cases h
       · intro tk2 H2 _ k1 k2
         repeat (refine gk (And.intro lossU (And.intro encR.eq_1 RL.cells.eq_1)) ?_)
         refine resK_weak (Weak.tu (bs := [encR ⟨r.opn ++ [p], r.sends + 1, p, r.big⟩, I 0]) ⟨?_, Weak.refl _, trivial⟩) (hk H2 k2.fr)
         rw [hopn]
         exact weak_encR ⟨[] ++ [p], r.sends + 1, p, r.big⟩ tk2)
    | (intro tk1 H1 h0 j1 j2
       repeat (refine gk (And.intro lossU (And.intro encR.eq_1 RL.cells.eq_1)) ?_)
       (apply r_app; (focus rfl); (focus rfl); (focus (exact j1)); (focus (simp; omega)))
       intro tk2 H2 k1 k2
       repeat (refine gk (And.intro lossU (And.intro encR.eq_1 RL.cells.eq_1)) ?_)
       refine resK_weak (Weak.tu (bs := [encR ⟨r.opn ++ [p], r.sends + 1, p, r.big⟩, I 0]) ⟨?_, Weak.refl _, trivial⟩) (hk H2 ((Fr.refl [] H).apd (tk := .full) Fresh.full j2 |>.apd (fun a ha => (j2.nw a ha).elim (fun h => by cases h) id) k2))
       have := weak_encR ⟨r.opn ++ [p], r.sends + 1, p, r.big⟩ tk2
       simpa [RL.cells, enc] using this)
end Sm
