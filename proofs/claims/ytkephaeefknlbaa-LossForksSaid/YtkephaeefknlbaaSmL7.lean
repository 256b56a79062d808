/-
  A layer of one's own: text L7.
-/
import Derived.Test.YtkephaeefknlbaaSmL6
set_option linter.unusedVariables false
set_option linter.unusedSimpArgs false
set_option maxRecDepth 10000
set_option maxHeartbeats 1000000
namespace Sm
open Go
-- BASE lossU
theorem Fr.sub {H H' : Heap} (h : Fr [] H H') : H.sub H' := fun b r hr => ⟨r, h b r (by simp) hr, .inl rfl⟩
theorem LUp.fr0 {H0 H H' : Heap} {b : Nat} {tk tk' : Tk} (hf : Fr [] H0 H) (hb : H0 b = none) (hn : Fresh H0 tk) (h : LUp b H H' tk tk') : Fr [] H0 H' ∧ Fresh H0 tk' := by
  refine ⟨fun a r _ hr => ?_, fun a ha => ?_⟩
  · refine h.fr a r (fun hm => ?_) (hf a r (by simp) hr)
    rcases List.mem_cons.mp hm with rfl | hm
    · rw [hb] at hr; cases hr
    · rw [hn a hm] at hr; cases hr
  · rcases h.nw a ha with h1 | h1
    · exact hn a h1
    · cases hx : H0 a with
      | none => rfl
      | some r => rw [hf a r (by simp) hx] at h1; cases h1
theorem Fresh.full {H0 : Heap} : Fresh H0 .full := by simp [Fresh, tb]
attribute [local irreducible] csem rsem dsem seqK blockK normK finK DK RK BR G3 resK Spec Tok Fr

/-- A ledger that is one's own: nothing that was there has changed. -/
def Own (H0 H : Heap) (b : Nat) (l : Led) : Prop := ∃ tk, LedAt H b l tk ∧ Fr [] H0 H ∧ H0 b = none ∧ Fresh H0 tk
theorem Own.up {H0 H H' : Heap} {b : Nat} {l' : Led} {tk tk' : Tk} (h0 : Fr [] H0 H) (hb : H0 b = none) (hn : Fresh H0 tk) (hu : LUp b H H' tk tk') (hl : LedAt H' b l' tk') : Own H0 H' b l' := by
  obtain ⟨h1, h2⟩ := hu.fr0 h0 hb hn
  exact ⟨tk', hl, h1, hb, h2⟩
def aw (i : Nat) : Led := ⟨(List.range i).map fun (j : Nat) => (⟨(j : Int), 0, 100, true⟩ : Pk), if i = 0 then zPk else ⟨(i : Int) - 1, 0, 100, true⟩, decide (0 < i), -1⟩
theorem aw_sent {i : Nat} (h : i < 5) : sentE (aw i) ⟨i, 0, 100, true⟩ = 0 ∧ sentN (aw i) ⟨i, 0, 100, true⟩ = aw (i + 1) := by
  have : i = 0 ∨ i = 1 ∨ i = 2 ∨ i = 3 ∨ i = 4 := by omega
  rcases this with rfl | rfl | rfl | rfl | rfl <;> exact ⟨rfl, rfl⟩
def awA : Led := ackL (aw 5) [⟨4, 4⟩] 9
theorem aw_ack : ackR (aw 5) [⟨4, 4⟩] 9 = ([⟨4, 0, 100, true⟩], 9, true, 0) := by decide +kernel
theorem aw_lost : lostL awA 9 20 = [⟨0, 0, 100, true⟩, ⟨1, 0, 100, true⟩] := by decide +kernel
def awB : Led := lostN awA 9 20
theorem aw_next : nextR awB 20 = (20, true) := by decide +kernel
theorem aw_fly : fly awB.opn = 200 := by decide +kernel
theorem aw_ok : (∀ p ∈ (aw 5).opn, pok p) ∧ (aw 5).opn.length ≤ 1048576 ∧ 0 ≤ (aw 5).last.at' := by
  refine ⟨?_, by decide +kernel, by decide +kernel⟩
  unfold pok
  decide +kernel
theorem awB_ok : (∀ p ∈ awB.opn, pok p) ∧ awB.opn.length ≤ 1048576 := by
  unfold pok
  decide +kernel
theorem awake_spec (L : Linked code) : Pure L 102 [] (B true) := by
  intro H K hk
  refine go_spec L code102 rfl ?_
  repeat (refine gk lossU ?_)
  (apply r_call; (focus rfl))
  refine new_spec L H _ fun b H1 hb hf hl => ?_
  repeat (refine gk lossU ?_)
  refine c_loop (Spec_SMono L) (fun (i : Nat) => [(1, .h (ptr b)), (2, .h (I i))]) (fun _ => [])
    (fun i H' => i ≤ 5 ∧ Own H H' b (aw i)) (fun i => 5 - i) 0 ?_ ⟨by omega, _, hl, hf, hb, Fresh.full⟩ ?_
  · (refine leM ?_ ?_ ?_ <;> (repeat refine leS trivial ?_) <;> exact leE)
  rintro i H2 ⟨hi, tk, h1, h2, h3, h4⟩
  repeat (refine gk lossU ?_)
  (refine ct lossU ?_ ?_ <;> intro h)
  · have hi' : i < 5 := by have : (i : Int) < 5 := by simpa using h
                           omega
    obtain ⟨e1, e2⟩ := aw_sent hi'
    have hlen : (aw i).opn.length ≤ 1048576 := by simp [aw]; omega
    repeat (refine gk lossU ?_)
    (apply r_call; (focus rfl))
    refine sent_spec L b (aw i) tk ⟨i, 0, 100, true⟩ H2 ⟨h1.1, h1.2⟩ hlen _ fun H3 tk3 k1 k2 => ?_
    rw [e1]
    rw [e2] at k2
    repeat (refine gk lossU ?_)
    refine k_n (i + 1) (by omega) ⟨by omega, Own.up h2 h3 h4 k1 k2⟩ ?_
    (refine leM ?_ ?_ ?_ <;> (repeat refine leS trivial ?_) <;> exact leE)
  · have hi' : i = 5 := by have : ¬ (i : Int) < 5 := by simpa using h
                           omega
    subst hi'
    clear hi h
    obtain ⟨p1, p2, p3⟩ := aw_ok
    obtain ⟨q1, q2⟩ := awB_ok
    repeat (refine gk lossU ?_)
    (apply r_call; (focus rfl))
    refine ack_spec L b (aw 5) tk .full [⟨4, 4⟩] 9 H2 h1 p2 p1 p3 _ fun H3 tk3 k1 k2 => ?_
    rw [aw_ack]
    obtain ⟨tk3, h1, h2, h3, h4⟩ := Own.up h2 h3 h4 k1 k2
    repeat (refine gk lossU ?_)
    (apply r_call; (focus rfl))
    refine lost_spec L b awA tk3 9 20 H3 h1 (by decide +kernel) (by unfold sm; decide +kernel) _ fun H4 tk4 k1 k2 => ?_
    rw [aw_lost]
    obtain ⟨tk4, h1, h2, h3, h4⟩ := Own.up h2 h3 h4 k1 k2
    repeat (refine gk lossU ?_)
    (apply r_call; (focus rfl))
    refine next_spec L b awB tk4 20 H4 h1 q2 q1 _ ?_
    rw [aw_next]
    repeat (refine gk lossU ?_)
    (apply r_call; (focus rfl))
    refine flying_spec L b awB tk4 H4 h1 q2 q1 _ ?_
    rw [aw_fly]
    repeat (refine gk lossU ?_)
    exact resK_sub (Weak.refl _) h2.sub hk
end Sm
