/-
  A layer of one's own: text L12.
-/
import Derived.Test.YtkephaeefknlbaaSmL11
set_option linter.unusedVariables false
set_option linter.unusedSimpArgs false
set_option maxRecDepth 10000
set_option maxHeartbeats 2000000
namespace Sm
open Go
-- BASE lossU
attribute [local irreducible] csem rsem dsem seqK blockK normK finK DK RK BR G3 resK Spec Tok Fr

def smF (to big now : Int) (a : Int × Bool) (p : Pk) : Int × Bool := if (p.num == to) && decide (big < to) then (now - p.at', true) else a
def rsmp (G : List Pk) (to big now : Int) : Int × Bool := if !(G.foldl (smF to big now) (0, false)).2 || !G.any (·.asks) then (0, false) else G.foldl (smF to big now) (0, false)
def rackR (r : RL) (s : List Sp) (now : Int) : List Pk × Int × Bool × Int := if ackE r.led s now = 0 then (ackG r.led s, (rsmp (ackG r.led s) (toS s) r.big now).1, (rsmp (ackG r.led s) (toS s) r.big now).2, 0) else ([], 0, false, ackE r.led s now)
def rackL (r : RL) (s : List Sp) (now : Int) : RL := if ackE r.led s now = 0 then { r with opn := r.opn.filter fun p => !(s.any fun x => inS x p.num), big := max r.big (toS s) } else r

theorem rack_spec (L : Linked code) (r : RL) (tk2 : Tk) (s : List Sp) (now : Int) (hlen : r.opn.length ≤ 1048576) (hp : ∀ p ∈ r.opn, pok p) (hl0 : 0 ≤ r.last.at') (hs0 : 0 ≤ r.sends) (H : Heap) (K)
    (hk : ∀ H', Fr [] H H' → K (.tu [encR (rackL r s now), .sl .no 4 ((rackR r s now).1.map enc), I (rackR r s now).2.1, B (rackR r s now).2.2.1, I (rackR r s now).2.2.2]) H') :
    Spec L.P L.ν 116 [encR r, .sl tk2 2 (s.map encS), I now] H K := by
  have hno : ∀ e, ackE r.led s now = e → e ≠ 0 → K (.tu [encR r, .sl .no 4 [], I 0, B false, I e]) H := fun e e1 e2 => by
    subst e1
    have := hk H (Fr.refl _ _)
    rw [rackR, rackL, if_neg e2, if_neg e2] at this
    exact this
  have hw : ∀ e, Weak (tupled [encR r, .v (.slice none 0 0), I 0, B false, I e]) (.tu [encR r, .sl .no 4 [], I 0, B false, I e]) := fun e => Weak.tu ⟨Weak.refl _, Weak.nil' 4, Weak.refl _, Weak.refl _, Weak.refl _, trivial⟩
  refine go_spec L code116 rfl ?_
  repeat (refine gk (And.intro lossU (And.intro encR.eq_1 RL.cells.eq_1)) ?_)
  (apply r_call; (focus rfl))
  refine chk2_spec L _ s _ _ ?_
  cases e0 : (chk s != 0)
  case true =>
    repeat (refine gk (And.intro lossU (And.intro e0 (And.intro encR.eq_1 RL.cells.eq_1))) ?_)
    have e2 : chk s ≠ 0 := by simpa using e0
    exact resK_weak (hw _) (hno _ (by rw [ackE, if_pos e2]) e2)
  have e1 : chk s = 0 := by simpa using e0
  obtain ⟨s1, s2, s3⟩ := chk0 e1
  have s4 : s.length - 1 < s.length := by omega
  have s5 := mayS_iff.mp (s3 _ (List.getElem_mem s4))
  have hto := toS_get s2
  repeat (refine gk (And.intro lossU e0) ?_)
  (apply r_idx (j := s.length - 1); (focus rfl); (focus rfl); (focus omega); (focus (first | exact get_enc (by omega) | assumption | rfl | (simp only [get_enc, *] <;> rfl))); (focus (simp only [lossU, nf, Nat.reduceAdd, Nat.reduceLeDiff] <;> rfl)))
  have hE : ∀ e, (if !decide (0 < r.sends) || decide (r.last.num < s[s.length - 1].hi) then (16 : Int) else if decide (now < r.last.at') || decide (1099511627776 < now) then 21 else 0) = e → ackE r.led s now = e := fun e h => by rw [ackE, if_neg (by simp [e1]), hto]; exact h
  cases c1 : (r.sends == 0)
  case true =>
    have d1 : decide (0 < r.sends) = false := by have : r.sends = 0 := by simpa using c1
                                                 simp [this]
    rw [d1] at hE
    repeat (refine gk (And.intro lossU (And.intro c1 (And.intro encR.eq_1 RL.cells.eq_1))) ?_)
    exact resK_weak (hw _) (hno 16 (hE _ rfl) (by decide))
  have d1 : decide (0 < r.sends) = true := by have : r.sends ≠ 0 := by simpa using c1
                                              simp; omega
  rw [d1] at hE
  cases c2 : decide (r.last.num < s[s.length - 1].hi)
  case true =>
    rw [c2] at hE
    repeat (refine gk (And.intro lossU (And.intro c1 (And.intro c2 (And.intro encR.eq_1 RL.cells.eq_1)))) ?_)
    exact resK_weak (hw _) (hno 16 (hE _ rfl) (by decide))
  rw [c2] at hE
  cases c3 : decide (now < r.last.at')
  case true =>
    rw [c3] at hE
    repeat (refine gk (And.intro lossU (And.intro c1 (And.intro c2 (And.intro c3 (And.intro encR.eq_1 RL.cells.eq_1))))) ?_)
    exact resK_weak (hw _) (hno 21 (hE _ rfl) (by decide))
  rw [c3] at hE
  cases c4 : decide (1099511627776 < now)
  case true =>
    rw [c4] at hE
    repeat (refine gk (And.intro lossU (And.intro c1 (And.intro c2 (And.intro c3 (And.intro c4 (And.intro encR.eq_1 RL.cells.eq_1)))))) ?_)
    exact resK_weak (hw _) (hno 21 (hE _ rfl) (by decide))
  rw [c4] at hE
  have hE0 := hE 0 rfl
  clear hE hno hw
  rw [rackR, rackL, if_pos hE0, if_pos hE0, ackG, hto] at hk
  simp only [show r.led.opn = r.opn from rfl] at hk
  have c3' : r.last.at' ≤ now := by simpa using c3
  have c4' : now ≤ 1099511627776 := by simpa using c4
  repeat (refine gk (And.intro lossU (And.intro c1 (And.intro c2 (And.intro c3 (And.intro c4 (And.intro encR.eq_1 RL.cells.eq_1)))))) ?_)
  generalize hT : s[s.length - 1].hi = to at hk ⊢
  have hf2 : (fun (p : Pk) => !(s.any fun x => inS x p.num)) = fun p => !((fun (q : Pk) => s.any fun x => inS x q.num) p) := rfl
  rw [hf2] at hk
  clear hf2
  generalize hf : (fun (p : Pk) => s.any fun x => inS x p.num) = f at hk
  refine c_loop (Spec_SMono L) (fun (x : Nat × Tk × Tk) => [(2, .h (I now)), (3, .lp 0 0), (6, .lp 1 0), (12, .h (I to)), (13, .h (.sl x.2.2 4 (((r.opn.take x.1).filter fun p => !f p).map enc))), (14, .h (.sl x.2.1 4 (((r.opn.take x.1).filter f).map enc))), (15, .lp 2 0), (16, .h (B (((r.opn.take x.1).filter f).any (·.asks)))), (17, .h (I (((r.opn.take x.1).filter f).foldl (smF to r.big now) (0, false)).1)), (18, .h (B (((r.opn.take x.1).filter f).foldl (smF to r.big now) (0, false)).2)), (19, .h (I x.1))]) (fun _ => [(0, r.cells .no), (1, newR0), (2, [.sl tk2 2 (s.map encS)])])
    (fun x H' => x.1 ≤ r.opn.length ∧ Fr [] H H' ∧ Tok H' x.2.1 ((r.opn.take x.1).filter f).length 4 ∧ Tok H' x.2.2 ((r.opn.take x.1).filter fun p => !f p).length 4 ∧ Fresh H x.2.1 ∧ Fresh H x.2.2 ∧ Apart x.2.1 x.2.2) (fun x => r.opn.length - x.1) (0, .full, .full) ?_ ⟨by omega, Fr.refl _ _, by unfold Tok; trivial, by unfold Tok; trivial, by simp [Fresh, tb], by simp [Fresh, tb], by simp [Apart, tb]⟩ ?_
  · (refine leM ?_ ?_ ?_ <;> (repeat refine leS trivial ?_) <;> exact leE)
  rintro ⟨i, t1, t2⟩ H' ⟨hi, hfr, ht1, ht2, hn1, hn2, ha⟩
  simp only at hi ht1 ht2 hn1 hn2 ha
  repeat (refine gk (And.intro lossU RL.cells.eq_1) ?_)
  (refine ct lossU ?_ ?_ <;> intro h)
  · have hi' : i < r.opn.length := by simpa using h
    have hb1 : ((r.opn.take i).filter f).length ≤ 1048576 := Nat.le_trans (List.length_filter_le _ _) (by simp; omega)
    have hb2 : ((r.opn.take i).filter fun p => !f p).length ≤ 1048576 := Nat.le_trans (List.length_filter_le _ _) (by simp; omega)
    have b3 := hp _ (List.getElem_mem hi')
    unfold pok at b3
    repeat (refine gk (And.intro lossU RL.cells.eq_1) ?_)
    (apply r_call; (focus rfl))
    refine has_spec L tk2 s r.opn[i].num (by omega) _ _ ?_
    rw [show (s.any fun x => inS x r.opn[i].num) = f r.opn[i] from by rw [← hf]]
    cases h2 : f r.opn[i]
    · have e1 := fil_f hi' h2
      have e2 := fil_t hi' (f := fun p => !f p) (by simp [h2])
      repeat (refine gk (And.intro lossU RL.cells.eq_1) ?_)
      (apply r_app; (focus rfl); (focus rfl); (focus (simpa using ht2)); (focus (simp; omega)))
      intro t2' H2 k1 k2
      repeat (refine gk lossU ?_)
      refine k_n (i + 1, t1, t2') (by simp only; omega) ⟨by simp only; omega, hfr.apd hn2 k2, by rw [e1]; exact ht1.apd ha k2, by rw [e2]; simpa using k1, hn1, hn2.apd hfr k2, ht1.held_apart ha k2⟩ ?_
      (refine leM ?_ ?_ ?_ <;> (repeat refine leS (And.intro lossU (And.intro e1 (And.intro e2 enc.eq_1))) ?_) <;> exact leE)
    · have e1 := fil_t hi' h2
      have e2 := fil_f hi' (f := fun p => !f p) (by simp [h2])
      repeat (refine gk (And.intro lossU RL.cells.eq_1) ?_)
      (apply r_app; (focus rfl); (focus rfl); (focus (simpa using ht1)); (focus (simp; omega)))
      intro t1' H2 k1 k2
      have ea : ((r.opn.take i).filter f ++ [r.opn[i]]).any (·.asks) = (((r.opn.take i).filter f).any (·.asks) || r.opn[i].asks) := by simp
      have eb : ((r.opn.take i).filter f ++ [r.opn[i]]).foldl (smF to r.big now) (0, false) = smF to r.big now (((r.opn.take i).filter f).foldl (smF to r.big now) (0, false)) r.opn[i] := by rw [List.foldl_append]; rfl
      generalize ((r.opn.take i).filter f).any (·.asks) = A at ea ⊢
      generalize ((r.opn.take i).filter f).foldl (smF to r.big now) (0, false) = Z at eb ⊢
      rw [show smF to r.big now Z r.opn[i] = (if (r.opn[i].num == to) && decide (r.big < to) then (now - r.opn[i].at', true) else Z) from rfl] at eb
      cases A <;> cases q1 : (r.opn[i].num == to) <;> cases q2 : decide (r.big < to) <;> rw [q1, q2] at eb
      all_goals repeat (refine gk (And.intro lossU (And.intro RL.cells.eq_1 (And.intro q1 q2))) ?_)
      all_goals
        refine k_n (i + 1, t1', t2) (by simp only; omega) ⟨by simp only; omega, hfr.apd hn1 k2, by rw [e1]; simpa using k1, by rw [e2]; exact ht2.apd ha.symm k2, hn1.apd hfr k2, hn2, (ht2.held_apart ha.symm k2).symm⟩ ?_
      all_goals simp only [e1, e2, ea, eb, List.map_append, List.map_cons, List.map_nil, enc, Bool.true_or, Bool.false_or, Bool.and_self, Bool.and_true, Bool.and_false, Bool.false_eq_true, if_true, if_false]
      all_goals (refine leM ?_ ?_ ?_ <;> (repeat refine leS trivial ?_) <;> exact leE)
  · have hi' : i = r.opn.length := by have : ¬ i < r.opn.length := by simpa using h
                                      omega
    subst hi'
    rw [List.take_length] at ht1 ht2
    simp only [List.take_length]
    rw [rsmp] at hk
    generalize hZ : (r.opn.filter f).foldl (smF to r.big now) (0, false) = Z at hk ⊢
    generalize hA : (r.opn.filter f).any (·.asks) = A at hk ⊢
    have hfin : ∀ z b, (if !Z.2 || !A then ((0 : Int), false) else Z) = (z, b) → resK (some [.ag (RL.cells { r with opn := r.opn.filter fun p => !f p, big := max r.big to } t2), .sl t1 4 ((r.opn.filter f).map enc), I z, B b, I 0]) H' K := fun z b e => by
      simp only [e] at hk
      exact resK_weak (Weak.tu (bs := [encR { r with opn := r.opn.filter fun p => !f p, big := max r.big to }, .sl .no 4 ((r.opn.filter f).map enc), I z, B b, I 0]) ⟨weak_encR { r with opn := r.opn.filter fun p => !f p, big := max r.big to } t2, Weak.drop _ _ _, Weak.refl _, Weak.refl _, Weak.refl _, trivial⟩) (hk H' hfr)
    cases q1 : Z.2 <;> cases A <;> rw [q1] at hfin
    all_goals repeat (refine gk (And.intro lossU (And.intro RL.cells.eq_1 (And.intro newR0.eq_1 q1))) ?_)
    all_goals first
      | exact hfin 0 false rfl
      | exact hfin Z.1 Z.2 rfl
      | exact hfin Z.1 true (Prod.ext rfl q1)
end Sm
