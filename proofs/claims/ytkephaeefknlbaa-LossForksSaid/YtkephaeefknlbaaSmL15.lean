/-
  A layer of one's own: text L15.
-/
import Derived.Test.YtkephaeefknlbaaSmL14
set_option linter.unusedVariables false
set_option linter.unusedSimpArgs false
set_option maxRecDepth 10000
set_option maxHeartbeats 2000000
namespace Sm
open Go
-- BASE lossU
attribute [local irreducible] csem rsem dsem seqK blockK normK finK DK RK BR G3 resK Spec Tok Fr

theorem same_spec (L : Linked code) (b : Nat) (l : Led) (tk : Tk) (r : RL) (late : Int) (H : Heap) (h : LedAt H b l tk) (hlen : l.opn.length ≤ 1048576) (hp : ∀ p ∈ l.opn, pok p) (hb : -1 ≤ l.big)
    (r1 : r.opn = l.opn) (r3 : r.big = l.big) (hN : nextR l late = rnextR r late) (K) (hk : K (B true) H) : Spec L.P L.ν 112 [ptr b, encR r, I late] H K := by
  obtain ⟨o, sn, la, bg⟩ := r
  simp only at r1 r3
  subst r1 r3
  refine go_spec L code112 rfl ?_
  repeat (refine gk (And.intro lossU (And.intro encR.eq_1 RL.cells.eq_1)) ?_)
  (apply r_call; (focus rfl))
  refine next_spec L b l tk late H h hlen hp _ ?_
  rw [hN]
  repeat (refine gk (And.intro lossU (And.intro encR.eq_1 RL.cells.eq_1)) ?_)
  (apply r_call; (focus rfl))
  refine rnext_spec L ⟨l.opn, sn, la, l.big⟩ late hlen hp _ _ ?_
  generalize rnextR ⟨l.opn, sn, la, l.big⟩ late = N
  repeat (refine gk (And.intro lossU (And.intro encR.eq_1 RL.cells.eq_1)) ?_)
  (apply r_call; (focus rfl))
  refine oldest_spec L b l tk H h hlen _ ?_
  repeat (refine gk (And.intro lossU (And.intro encR.eq_1 RL.cells.eq_1)) ?_)
  (apply r_call; (focus rfl))
  refine rold_spec L ⟨l.opn, sn, la, l.big⟩ hlen _ _ ?_
  generalize oldestR l.opn = O
  repeat (refine gk (And.intro lossU (And.intro encR.eq_1 RL.cells.eq_1)) ?_)
  (apply r_call; (focus rfl))
  refine largest_spec L b l tk H h _ ?_
  have e1 : (if l.big = -1 then (0 : Int) else l.big) = max 0 l.big := by split <;> omega
  have e2 : (l.big != -1) = decide (0 ≤ l.big) := by
    rw [Bool.eq_iff_iff]; simp; omega
  rw [e1, e2]
  repeat (refine gk (And.intro lossU (And.intro encR.eq_1 RL.cells.eq_1)) ?_)
  (apply r_call; (focus rfl))
  refine flying_spec L b l tk H h hlen hp _ ?_
  repeat (refine gk (And.intro lossU (And.intro encR.eq_1 RL.cells.eq_1)) ?_)
  (apply r_call; (focus rfl))
  refine rfly_spec L ⟨l.opn, sn, la, l.big⟩ hlen hp _ _ ?_
  repeat (refine gk (And.intro lossU (And.intro encR.eq_1 RL.cells.eq_1)) ?_)
  (apply r_call; (focus rfl))
  refine len_spec L b l tk H h _ ?_
  repeat (refine gk (And.intro lossU (And.intro encR.eq_1 RL.cells.eq_1)) ?_)
  exact resK_some hk
end Sm
