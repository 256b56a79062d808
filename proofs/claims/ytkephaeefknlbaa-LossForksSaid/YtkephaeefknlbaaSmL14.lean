/-
  A layer of one's own: text L14.
-/
import Derived.Test.YtkephaeefknlbaaSmL13
set_option linter.unusedVariables false
set_option linter.unusedSimpArgs false
set_option maxRecDepth 10000
set_option maxHeartbeats 2000000
namespace Sm
open Go
-- BASE lossU
attribute [local irreducible] csem rsem dsem seqK blockK normK finK DK RK BR G3 resK Spec Tok Fr

def actL (l : Led) (a : Act) : Led := if a.kind.tmod 5 == 3 then ackL l a.spans a.now else if a.kind.tmod 5 == 4 then lostN l a.now a.late else sentN l a.p
def actR (r : RL) (a : Act) : RL := if a.kind.tmod 5 == 3 then rackL r a.spans a.now else if a.kind.tmod 5 == 4 then rlostN r a.now a.late else rsentN r a.p

theorem do_spec (L : Linked code) (b : Nat) (l : Led) (tk : Tk) (r : RL) (a : Act) (H : Heap) (h : LedAt H b l tk) (hlen : l.opn.length ≤ 1048576) (hp : ∀ p ∈ l.opn, pok p) (hl0 : 0 ≤ l.last.at') (hb : sm l.big)
    (r1 : r.opn = l.opn) (r2 : r.last = l.last) (r3 : r.big = l.big) (hs : 0 ≤ r.sends ∧ r.sends ≤ 1099511627776)
    (hA : ackR l a.spans a.now = rackR r a.spans a.now) (hL : lostL l a.now a.late = rlostL r a.now a.late) (hS : sentE l a.p = sentE r.led a.p) (hgl : (rackR r a.spans a.now).1.length ≤ 1048576) (hll : (rlostL r a.now a.late).length ≤ 1048576) (K)
    (hk : ∀ H' tk', LUp b H H' tk tk' → LedAt H' b (actL l a) tk' → K (.tu [encR (actR r a), B true]) H') : Spec L.P L.ν 105 [ptr b, encR r, Act.enc .no a] H K := by
  have up : ∀ {H1 H2 : Heap} {tk1 : Tk}, LUp b H H1 tk tk1 → Fr [] H1 H2 → LUp b H H2 tk tk1 := fun h1 h2 => ⟨h1.fr.trans (h2.mono (by simp)), h1.nw⟩
  have fw : ∀ {H1 H2 : Heap} {l' : Led} {tk1 : Tk}, LedAt H1 b l' tk1 → Fr [] H1 H2 → LedAt H2 b l' tk1 := fun h1 h2 => ⟨h2.get (by simp) h1.1, h1.2.fr' h2 (by simp)⟩
  unfold actL actR at hk
  refine go_spec L code105 rfl ?_
  repeat (refine gk (And.intro lossU (And.intro encR.eq_1 (And.intro RL.cells.eq_1 Act.enc.eq_1))) ?_)
  cases c1 : (a.kind.tmod 5 == 3)
  case true =>
    rw [c1] at hk
    simp only [if_true] at hk
    repeat (refine gk (And.intro lossU (And.intro encR.eq_1 (And.intro RL.cells.eq_1 Act.enc.eq_1))) ?_)
    repeat (refine gk (And.intro lossU (And.intro encR.eq_1 (And.intro RL.cells.eq_1 Act.enc.eq_1))) ?_)
    (apply r_call; (focus rfl))
    refine ack_spec L b l tk .no a.spans a.now H h hlen hp hl0 _ fun H1 tk1 k1 k2 => ?_
    rw [hA]
    unfold encA
    repeat (refine gk (And.intro lossU (And.intro encR.eq_1 (And.intro RL.cells.eq_1 Act.enc.eq_1))) ?_)
    (apply r_call; (focus rfl))
    refine rack_spec L r .no a.spans a.now (by rw [r1]; exact hlen) (by rw [r1]; exact hp) (by rw [r2]; exact hl0) hs.1 H1 _ fun H2 f2 => ?_
    generalize rackR r a.spans a.now = Z at hgl ⊢
    generalize rackL r a.spans a.now = R at hk ⊢
    repeat (refine gk (And.intro lossU (And.intro encR.eq_1 (And.intro RL.cells.eq_1 Act.enc.eq_1))) ?_)
    (apply r_call; (focus rfl))
    refine samep_spec L .no .no Z.1 Z.1 hgl _ _ ?_
    rw [decide_eq_true rfl]
    repeat (refine gk (And.intro lossU (And.intro encR.eq_1 (And.intro RL.cells.eq_1 Act.enc.eq_1))) ?_)
    exact resK_some (hk H2 tk1 (up k1 f2) (fw k2 f2))
  case false =>
  rw [c1] at hk
  simp only [Bool.false_eq_true, if_false] at hk
  repeat (refine gk (And.intro lossU (And.intro encR.eq_1 (And.intro RL.cells.eq_1 Act.enc.eq_1))) ?_)
  cases c2 : (a.kind.tmod 5 == 4)
  case true =>
    rw [c2] at hk
    simp only [if_true] at hk
    repeat (refine gk (And.intro lossU (And.intro encR.eq_1 (And.intro RL.cells.eq_1 Act.enc.eq_1))) ?_)
    (apply r_call; (focus rfl))
    refine lost_spec L b l tk a.now a.late H h hlen hb _ fun H1 tk1 k1 k2 => ?_
    rw [hL]
    repeat (refine gk (And.intro lossU (And.intro encR.eq_1 (And.intro RL.cells.eq_1 Act.enc.eq_1))) ?_)
    (apply r_call; (focus rfl))
    refine rlost_spec L r a.now a.late (by rw [r1]; exact hlen) (by rw [r3]; exact hb) H1 _ fun H2 f2 => ?_
    generalize rlostL r a.now a.late = Z at hll ⊢
    generalize rlostN r a.now a.late = R at hk ⊢
    repeat (refine gk (And.intro lossU (And.intro encR.eq_1 (And.intro RL.cells.eq_1 Act.enc.eq_1))) ?_)
    (apply r_call; (focus rfl))
    refine samep_spec L .no .no Z Z hll _ _ ?_
    rw [decide_eq_true rfl]
    repeat (refine gk (And.intro lossU (And.intro encR.eq_1 (And.intro RL.cells.eq_1 Act.enc.eq_1))) ?_)
    exact resK_some (hk H2 tk1 (up k1 f2) (fw k2 f2))
  case false =>
    rw [c2] at hk
    simp only [Bool.false_eq_true, if_false] at hk
    repeat (refine gk (And.intro lossU (And.intro encR.eq_1 (And.intro RL.cells.eq_1 Act.enc.eq_1))) ?_)
    (apply r_call; (focus rfl))
    refine sent_spec L b l tk a.p H h hlen _ fun H1 tk1 k1 k2 => ?_
    rw [hS]
    repeat (refine gk (And.intro lossU (And.intro encR.eq_1 (And.intro RL.cells.eq_1 Act.enc.eq_1))) ?_)
    (apply r_call; (focus rfl))
    refine rsent_spec L r a.p (by rw [r1]; exact hlen) hs H1 _ fun H2 f2 => ?_
    generalize sentE r.led a.p = Z
    generalize rsentN r a.p = R at hk ⊢
    repeat (refine gk (And.intro lossU (And.intro encR.eq_1 (And.intro RL.cells.eq_1 Act.enc.eq_1))) ?_)
    exact resK_some (hk H2 tk1 (up k1 f2) (fw k2 f2))
end Sm
