/-
  A layer of one's own: texts D47.
-/
import Derived.Test.YtmdfajhlofhmcaaDoorSmDN
import Derived.Test.YtmdfajhlofhmcaaDoorSmDP
set_option linter.unusedVariables false
set_option linter.unusedSimpArgs false
set_option maxRecDepth 10000
set_option maxHeartbeats 2000000
namespace Sm
open Go
-- BASE smU
theorem fail_cls {d : Dk} {s : List Nm} {l : List Chg} {f : List Fl} (h : Cls d s l f) (k : Int) (t : Bool) : Cls (d.fail k t).1 s l f := by
  unfold Dk.fail
  split
  · exact h
  split
  · exact h
  exact ⟨h.su, h.lo, h.fl, h.wr, h.rm⟩
theorem y1_wf : y1.WF 1 0 := put_wf (newD_wf 10000) pA false
theorem y2_wf (old : List UInt8) : (y2 old).WF 2 (0 + old.length) := append_wf y1_wf pA old
theorem y3_wf (old : List UInt8) : (y3 old).WF 3 (0 + old.length) := sync_wf (y2_wf old) pA
theorem y4_wf (old : List UInt8) : (y4 old).WF 4 (0 + old.length) := syncDirs_wf (y3_wf old)
theorem y4_cls {old : List UInt8} (ho : old.length ≤ 500) : Cls (y4 old) [nA] [] [⟨old, old.length⟩] := by rw [show y4 old = _ from congrArg Prod.fst (y4_eq ho)]; exact ⟨rfl, rfl, rfl, rfl, rfl⟩
attribute [local irreducible] csem rsem dsem seqK blockK normK finK DK RK JK BR G3 resK Spec Tok Fr CV GA YB w1 w2 w3 w4 w5 w6 g1 g2 y1 y2 y3 y4

theorem dreplaced_spec (L : Linked code) (C : Cl L) (old fresh : List UInt8) (a b c : UInt8) : PureF L 376 [.sl .no 1 (old.map U), .sl .no 1 (fresh.map U), .ag [U a, U b, U c]] (B true) := by
  intro H K hk
  refine go_spec L code376 rfl ?_
  repeat (refine gk smU ?_)
  cases c1 : decide (500 < (old.length : Int))
  case true =>
    repeat (refine gk smU ?_)
    (apply r_call; (focus rfl))
    refine dawake_spec L C H _ fun X1 f1 => ?_
    repeat (refine gk smU ?_)
    exact resK_some (hk X1 f1)
  repeat (refine gk smU ?_)
  cases c2 : decide (500 < (fresh.length : Int))
  case true =>
    repeat (refine gk smU ?_)
    (apply r_call; (focus rfl))
    refine dawake_spec L C H _ fun X1 f1 => ?_
    repeat (refine gk smU ?_)
    exact resK_some (hk X1 f1)
  have ho : old.length ≤ 500 := by
    have : ¬ (500 : Int) < (old.length : Int) := by simpa using c1
    omega
  have hf : fresh.length ≤ 500 := by
    have : ¬ (500 : Int) < (fresh.length : Int) := by simpa using c2
    omega
  have hw1 : y1.WF 1 0 := y1_wf
  have hw2 : (y2 old).WF 2 (0 + old.length) := y2_wf old
  have hw3 : (y3 old).WF 3 (0 + old.length) := y3_wf old
  have hw4 : (y4 old).WF 4 (0 + old.length) := y4_wf old
  have e1 : ((newD 10000).put pA false).2 = 0 := congrArg Prod.snd y1_eq
  have e2 : (y1.append pA old).2 = 0 := congrArg Prod.snd (y2_eq ho)
  have e3 : ((y2 old).sync pA).2 = 0 := congrArg Prod.snd (y3_eq ho)
  have e4 : (y3 old).syncDirs.2 = 0 := congrArg Prod.snd (y4_eq ho)
  have d1 : ((newD 10000).put pA false).1 = y1 := y1.eq_1.symm
  have d2 : (y1.append pA old).1 = y2 old := (y2.eq_1 old).symm
  have d3 : ((y2 old).sync pA).1 = y3 old := (y3.eq_1 old).symm
  have d4 : (y3 old).syncDirs.1 = y4 old := (y4.eq_1 old).symm
  repeat (refine gk smU ?_)
  (apply r_call; (focus rfl))
  refine dnew_spec L 10000 H _ fun p h0 X0 hb0 hD0 f0 => ?_
  have s0 : DS H X0 p h0 (newD 10000) := ⟨hD0, f0, hb0⟩
  repeat (refine gk smU ?_)
  (apply r_call; (focus rfl))
  refine dcreate_spec L p h0 (newD 10000) pA 0 0 (newD_wf 10000) (by omega) (by decide) X0 s0.kd _ fun Y1 h1 hY oY => ?_
  rw [d1] at hY
  have s1 := s0.step hY oY
  clear hY oY s0
  rw [e1]
  repeat (refine gk smU ?_)
  (apply r_call; (focus rfl))
  refine dappend_spec L p h1 y1 pA (.sl .no 1 (old.map U)) old 1 0 hw1 (by omega) (by omega) (by omega) (by decide) Y1 s1.kd (.inl ⟨.no, rfl⟩) (by simp [fvb]) _ fun Y2 h2 hY oY => ?_
  rw [d2] at hY
  have s2 := s1.step hY oY
  clear hY oY s1
  rw [e2]
  repeat (refine gk smU ?_)
  (apply r_call; (focus rfl))
  refine dsync_spec L p h2 (y2 old) pA 2 (0 + old.length) hw2 (by omega) (by decide) Y2 s2.kd _ fun Y3 h3 hY oY => ?_
  rw [d3] at hY
  have s3 := s2.step hY oY
  clear hY oY s2
  rw [e3]
  repeat (refine gk smU ?_)
  (apply r_call; (focus rfl))
  refine dsyncdirs_spec L p h3 (y3 old) 3 (0 + old.length) hw3 (by omega) Y3 s3.kd _ fun Y4 h4 hY oY => ?_
  rw [d4] at hY
  have s4 := s3.step hY oY
  clear hY oY s3
  rw [e4]
  have ha8 : 0 ≤ (a.toNat : Int).tmod 8 ∧ (a.toNat : Int).tmod 8 < 8 := by rw [Int.tmod_eq_emod_of_nonneg (by omega)]; omega
  have ha2 : 0 ≤ (a.toNat : Int).tmod 2 ∧ (a.toNat : Int).tmod 2 < 2 := by rw [Int.tmod_eq_emod_of_nonneg (by omega)]; omega
  have hb5 : 0 ≤ (b.toNat : Int).tmod 5 ∧ (b.toNat : Int).tmod 5 < 5 := by rw [Int.tmod_eq_emod_of_nonneg (by omega)]; omega
  have hc4 := y4_cls ho
  have hw5 := fail_wf hw4 ((a.toNat : Int).tmod 8) (by omega) (decide ((a.toNat : Int).tmod 2 = 1))
  have hc5 := fail_cls hc4 ((a.toNat : Int).tmod 8) (decide ((a.toNat : Int).tmod 2 = 1))
  repeat (refine gk smU ?_)
  (apply r_call; (focus rfl))
  refine dfail_spec L p h4 (y4 old) ((a.toNat : Int).tmod 8) (decide ((a.toNat : Int).tmod 2 = 1)) Y4 s4.kd _ fun Y5 hY oY => ?_
  have s5 := s4.step hY oY
  clear hY oY s4
  generalize ((y4 old).fail ((a.toNat : Int).tmod 8) (decide ((a.toNat : Int).tmod 2 = 1))).1 = d5 at *
  generalize ((y4 old).fail ((a.toNat : Int).tmod 8) (decide ((a.toNat : Int).tmod 2 = 1))).2 = z5 at *
  have hw6 := put_wf hw5 pT false
  have hw7 := append_wf hw6 pT fresh
  have hw8 := sync_wf hw7 pT
  have hm := mid hc5 ho hf
  repeat (refine gk smU ?_)
  (apply r_call; (focus rfl))
  refine dcreate_spec L p h4 d5 pT 4 (0 + old.length) hw5 (by omega) (by decide) Y5 s5.kd _ fun Y6 h6 hY oY => ?_
  have s6 := s5.step hY oY
  clear hY oY s5
  repeat (refine gk smU ?_)
  (apply r_call; (focus rfl))
  refine dappend_spec L p h6 (d5.put pT false).1 pT (.sl .no 1 (fresh.map U)) fresh 5 (0 + old.length) hw6 (by omega) (by omega) (by omega) (by decide) Y6 s6.kd (.inl ⟨.no, rfl⟩) (by simp [fvb]) _ fun Y7 h7 hY oY => ?_
  have s7 := s6.step hY oY
  clear hY oY s6
  repeat (refine gk smU ?_)
  (apply r_call; (focus rfl))
  refine dsync_spec L p h7 _ pT 6 (0 + old.length + fresh.length) hw7 (by omega) (by decide) Y7 s7.kd _ fun Y8 h8 hY oY => ?_
  have s8 := s7.step hY oY
  clear hY oY s7
  clear hw6 hw7
  generalize (((d5.put pT false).1.append pT fresh).1.sync pT).1 = d8 at *
  repeat (refine gk smU ?_)
  (apply r_call; (focus rfl))
  refine dsafe_spec L p h8 d8 pT 7 (0 + old.length + fresh.length) hw8 Y8 s8.kd _ ?_
  repeat (refine gk smU ?_)
  cases c3 : ((d8.safe pT : Int) == (fresh.length : Int))
  case false =>
    repeat (refine gk smU ?_)
    have t1 := s8
    (apply r_call; (focus rfl))
    refine Spec_weak (hs' := [ptr p, I ((b.toNat : Int).tmod 5), .sl .no 1 (([c, b] : List UInt8).map U)]) (show WeakL [ptr p, I ((b.toNat : Int).tmod 5), .sl .full 1 [U c, U b]] _ from ⟨Weak.refl _, Weak.refl _, Weak.drop _ _ _, trivial⟩) ?_
    refine dcrash_spec L C p h8 d8 ((b.toNat : Int).tmod 5) [c, b] 7 (0 + old.length + fresh.length) hw8 (by omega) (by omega) (by simp) _ t1.kd _ fun Z3 h9 hY oY => ?_
    have t2 := t1.step hY oY
    clear hY oY
    repeat (refine gk smU ?_)
    (apply r_call; (focus rfl))
    refine dreadF_spec L p h9 ((d8).crash ((b.toNat : Int).tmod 5) [c, b]) pA 7 (0 + old.length + fresh.length) (crash_wf hw8 _ _) (by omega) Z3 t2.kd _ fun Z4 f4 => ?_
    have t3 := t2.fr0 f4
    rcases (show _ ∨ ((d8.crash ((b.toNat : Int).tmod 5) [c, b]).read pA) = (fresh, 0) from Or.inl (hm.keep ((b.toNat : Int).tmod 5) [c, b])) with hr | hr
    · have hr1 := congrArg Prod.fst hr
      have hr2 := congrArg Prod.snd hr
      simp only at hr1 hr2
      rw [hr1, hr2]
      repeat (refine gk smU ?_)
      rw [beq_self_eq_true]
      repeat (refine gk smU ?_)
      (apply r_call; (focus rfl))
      refine dawake_spec L C Z4 _ fun Z5 f5 => ?_
      repeat (refine gk smU ?_)
      exact resK_some (hk Z5 (t3.fr.trans f5))
    · have hr1 := congrArg Prod.fst hr
      have hr2 := congrArg Prod.snd hr
      simp only at hr1 hr2
      rw [hr1, hr2]
      repeat (refine gk smU ?_)
      cases e9 : (fresh == old)
      case true =>
        repeat (refine gk smU ?_)
        (apply r_call; (focus rfl))
        refine dawake_spec L C Z4 _ fun Z5 f5 => ?_
        repeat (refine gk smU ?_)
        exact resK_some (hk Z5 (t3.fr.trans f5))
      repeat (refine gk smU ?_)
      rw [beq_self_eq_true]
      repeat (refine gk smU ?_)
      (apply r_call; (focus rfl))
      refine dawake_spec L C Z4 _ fun Z5 f5 => ?_
      repeat (refine gk smU ?_)
      exact resK_some (hk Z5 (t3.fr.trans f5))
  repeat (refine gk smU ?_)
  (apply r_call; (focus rfl))
  refine ddown_spec L p h8 d8 Y8 s8.kd _ ?_
  cases c4 : d8.down
  case true =>
    repeat (refine gk smU ?_)
    have t1 := s8
    (apply r_call; (focus rfl))
    refine Spec_weak (hs' := [ptr p, I ((b.toNat : Int).tmod 5), .sl .no 1 (([c, b] : List UInt8).map U)]) (show WeakL [ptr p, I ((b.toNat : Int).tmod 5), .sl .full 1 [U c, U b]] _ from ⟨Weak.refl _, Weak.refl _, Weak.drop _ _ _, trivial⟩) ?_
    refine dcrash_spec L C p h8 d8 ((b.toNat : Int).tmod 5) [c, b] 7 (0 + old.length + fresh.length) hw8 (by omega) (by omega) (by simp) _ t1.kd _ fun Z3 h9 hY oY => ?_
    have t2 := t1.step hY oY
    clear hY oY
    repeat (refine gk smU ?_)
    (apply r_call; (focus rfl))
    refine dreadF_spec L p h9 ((d8).crash ((b.toNat : Int).tmod 5) [c, b]) pA 7 (0 + old.length + fresh.length) (crash_wf hw8 _ _) (by omega) Z3 t2.kd _ fun Z4 f4 => ?_
    have t3 := t2.fr0 f4
    rcases (show _ ∨ ((d8.crash ((b.toNat : Int).tmod 5) [c, b]).read pA) = (fresh, 0) from Or.inl (hm.keep ((b.toNat : Int).tmod 5) [c, b])) with hr | hr
    · have hr1 := congrArg Prod.fst hr
      have hr2 := congrArg Prod.snd hr
      simp only at hr1 hr2
      rw [hr1, hr2]
      repeat (refine gk smU ?_)
      rw [beq_self_eq_true]
      repeat (refine gk smU ?_)
      (apply r_call; (focus rfl))
      refine dawake_spec L C Z4 _ fun Z5 f5 => ?_
      repeat (refine gk smU ?_)
      exact resK_some (hk Z5 (t3.fr.trans f5))
    · have hr1 := congrArg Prod.fst hr
      have hr2 := congrArg Prod.snd hr
      simp only at hr1 hr2
      rw [hr1, hr2]
      repeat (refine gk smU ?_)
      cases e9 : (fresh == old)
      case true =>
        repeat (refine gk smU ?_)
        (apply r_call; (focus rfl))
        refine dawake_spec L C Z4 _ fun Z5 f5 => ?_
        repeat (refine gk smU ?_)
        exact resK_some (hk Z5 (t3.fr.trans f5))
      repeat (refine gk smU ?_)
      rw [beq_self_eq_true]
      repeat (refine gk smU ?_)
      (apply r_call; (focus rfl))
      refine dawake_spec L C Z4 _ fun Z5 f5 => ?_
      repeat (refine gk smU ?_)
      exact resK_some (hk Z5 (t3.fr.trans f5))
  have hg := hm.goes (by have := eq_of_beq c3; omega) c4 ((b.toNat : Int).tmod 5) [c, b]
  have hw9 := rename_wf hw8 pT pA
  have hw10 := syncDirs_wf hw9
  repeat (refine gk smU ?_)
  (apply r_call; (focus rfl))
  refine drenames_spec L p h8 d8 pT pA 7 (0 + old.length + fresh.length) hw8 (by omega) (by decide) (by decide) Y8 s8.kd _ fun Y9 h9' hY oY => ?_
  have s9 := s8.step hY oY
  clear hY oY
  repeat (refine gk smU ?_)
  (apply r_call; (focus rfl))
  refine dsyncdirs_spec L p h9' (d8.rename pT pA).1 8 (0 + old.length + fresh.length) hw9 (by omega) Y9 s9.kd _ fun Y10 h10 hY oY => ?_
  have s10 := s9.step hY oY
  clear hY oY
  generalize (d8.rename pT pA).1.syncDirs.1 = d10 at *
  repeat (refine gk smU ?_)
  have t1 := s10
  (apply r_call; (focus rfl))
  refine Spec_weak (hs' := [ptr p, I ((b.toNat : Int).tmod 5), .sl .no 1 (([c, b] : List UInt8).map U)]) (show WeakL [ptr p, I ((b.toNat : Int).tmod 5), .sl .full 1 [U c, U b]] _ from ⟨Weak.refl _, Weak.refl _, Weak.drop _ _ _, trivial⟩) ?_
  refine dcrash_spec L C p h10 d10 ((b.toNat : Int).tmod 5) [c, b] 9 (0 + old.length + fresh.length) hw10 (by omega) (by omega) (by simp) _ t1.kd _ fun Z3 h9 hY oY => ?_
  have t2 := t1.step hY oY
  clear hY oY
  repeat (refine gk smU ?_)
  (apply r_call; (focus rfl))
  refine dreadF_spec L p h9 ((d10).crash ((b.toNat : Int).tmod 5) [c, b]) pA 9 (0 + old.length + fresh.length) (crash_wf hw10 _ _) (by omega) Z3 t2.kd _ fun Z4 f4 => ?_
  have t3 := t2.fr0 f4
  rcases hg with hr | hr
  · have hr1 := congrArg Prod.fst hr
    have hr2 := congrArg Prod.snd hr
    simp only at hr1 hr2
    rw [hr1, hr2]
    repeat (refine gk smU ?_)
    rw [beq_self_eq_true]
    repeat (refine gk smU ?_)
    (apply r_call; (focus rfl))
    refine dawake_spec L C Z4 _ fun Z5 f5 => ?_
    repeat (refine gk smU ?_)
    exact resK_some (hk Z5 (t3.fr.trans f5))
  · have hr1 := congrArg Prod.fst hr
    have hr2 := congrArg Prod.snd hr
    simp only at hr1 hr2
    rw [hr1, hr2]
    repeat (refine gk smU ?_)
    cases e9 : (fresh == old)
    case true =>
      repeat (refine gk smU ?_)
      (apply r_call; (focus rfl))
      refine dawake_spec L C Z4 _ fun Z5 f5 => ?_
      repeat (refine gk smU ?_)
      exact resK_some (hk Z5 (t3.fr.trans f5))
    repeat (refine gk smU ?_)
    rw [beq_self_eq_true]
    repeat (refine gk smU ?_)
    (apply r_call; (focus rfl))
    refine dawake_spec L C Z4 _ fun Z5 f5 => ?_
    repeat (refine gk smU ?_)
    exact resK_some (hk Z5 (t3.fr.trans f5))
end Sm
