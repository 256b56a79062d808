/-
  A layer of one's own: texts D34,D35,D36.
-/
import Derived.Test.YtmdfajhlofhmcaaDoorSmDK
set_option linter.unusedVariables false
set_option linter.unusedSimpArgs false
set_option maxRecDepth 10000
set_option maxHeartbeats 2000000
namespace Sm
open Go
-- BASE smU
/-- A disk of one's own. -/
structure DS (H X : Heap) (b : Nat) (h : Hd) (d : Dk) : Prop where
  kd : KD X b h d
  fr : Fr [] H X
  nw : ∀ a ∈ h.bs b, H a = none
theorem DS.step {H X Y : Heap} {b : Nat} {h h' : Hd} {d d' : Dk} (s : DS H X b h d) (k : KD Y b h' d') (o : Own X Y (h.bs b) (h'.bs b)) : DS H Y b h' d' :=
  ⟨k, Fr.make2 fun a r _ hr => o.get (fun hm => by rw [s.nw a hm] at hr; cases hr) (s.fr.get (by simp) hr), fun a ha => (o.nw a ha).elim (s.nw a) fun h0 => s.fr.of_none h0⟩
theorem DS.fr0 {H X Y : Heap} {b : Nat} {h : Hd} {d : Dk} (s : DS H X b h d) (f : Fr [] X Y) : DS H Y b h d := ⟨s.kd.fr0 f, s.fr.trans f, s.nw⟩
theorem KD.own {X Y : Heap} {b : Nat} {h : Hd} {d : Dk} {cs cs' : List Nat} (k : KD X b h d) (o : Own X Y cs cs') (hb : ∀ a ∈ h.bs b, a ∉ cs) : KD Y b h d ∧ ∀ a ∈ h.bs b, a ∉ cs' :=
  ⟨k.fr o.fr hb, fun a ha => by obtain ⟨r, hr⟩ := k.held a ha; exact o.apart (hb a ha) hr⟩
def w1 : Dk := ((newD 100).put [116] false).1
def w2 : Dk := (w1.append [116] [97, 98]).1
def w3 : Dk := (w2.sync [116]).1
def w4 : Dk := (w3.rename [116] [97]).1
def w5 : Dk := w4.crash 1 []
def g1 : Dk := w4.syncDirs.1
def g2 : Dk := g1.crash 0 []
def w6 : Dk := (w5.put [120, 47, 121] false).1
theorem w1_wf : w1.WF 1 0 := put_wf (newD_wf 100) _ _
theorem w2_wf : w2.WF 2 2 := append_wf w1_wf _ _
theorem w3_wf : w3.WF 3 2 := sync_wf w2_wf _
theorem w4_wf : w4.WF 4 2 := rename_wf w3_wf _ _
theorem w5_wf : w5.WF 4 2 := crash_wf w4_wf _ _
theorem g1_wf : g1.WF 5 2 := syncDirs_wf w4_wf
theorem g2_wf : g2.WF 5 2 := crash_wf g1_wf _ _
theorem w6_wf : w6.WF 5 2 := put_wf w5_wf _ _
theorem w1_eq : ((newD 100).put [116] false).1 = w1 := rfl
theorem w2_eq : (w1.append [116] [97, 98]).1 = w2 := rfl
theorem w3_eq : (w2.sync [116]).1 = w3 := rfl
theorem w4_eq : (w3.rename [116] [97]).1 = w4 := rfl
theorem w5_eq : w4.crash 1 [] = w5 := rfl
theorem g1_eq : w4.syncDirs.1 = g1 := rfl
theorem g2_eq : g1.crash 0 [] = g2 := rfl
theorem w6_eq : (w5.put [120, 47, 121] false).1 = w6 := rfl
theorem a1 : ((newD 100).put [116] false).2 = 0 := by decide
theorem a2 : (w1.append [116] [97, 98]).2 = 0 := by decide
theorem a3 : (w2.sync [116]).2 = 0 := by decide
theorem a4 : (w3.rename [116] [97]).2 = 0 := by decide
theorem a5 : w5.read [116] = ([97, 98], 0) := by decide
theorem a6 : g2.read [97] = ([97, 98], 0) := by decide
theorem a7 : (w5.put [120, 47, 121] false).2 = 8 := by decide
theorem a8 : w6.list.length = 1 := by decide
attribute [local irreducible] csem rsem dsem seqK blockK normK finK DK RK JK BR G3 resK Spec Tok Fr CV GA YB w1 w2 w3 w4 w5 w6 g1 g2

theorem dawake_spec (L : Linked code) (C : Cl L) : PureF L 293 [] (B true) := by
  intro H K hk
  refine go_spec L code293 rfl ?_
  repeat (refine gk smU ?_)
  (apply r_call; (focus rfl))
  refine dnew_spec L 100 H _ fun b h0 X0 hb0 hD0 f0 => ?_
  have s0 : DS H X0 b h0 (newD 100) := ⟨hD0, f0, hb0⟩
  repeat (refine gk smU ?_)
  (apply r_call; (focus rfl))
  refine dcreate_spec L b h0 (newD 100) [116] 0 0 (newD_wf 100) (by omega) (by simp) X0 s0.kd _ fun Y1 h1 hY oY => ?_
  rw [w1_eq] at hY
  have s1 : DS H Y1 b h1 w1 := s0.step hY oY
  clear hY oY
  rw [a1]
  repeat (refine gk smU ?_)
  refine r_bsl (hs := [U 97, U 98]) rfl rfl (by simp; exact ⟨rfl, rfl⟩) fun c X1 hc1 hc2 hc3 => ?_
  repeat (refine gk smU ?_)
  refine r_mark (cs := [U 97, U 98]) rfl hc2 rfl (by simp) (by simp [maxLen]) ?_
  have fm : Fr [] Y1 (X1.upd c none) := Fr.give hc3 hc1
  have s1' := s1.fr0 fm
  generalize X1.upd c none = X2 at *
  repeat (refine gk smU ?_)
  (apply r_call; (focus rfl))
  refine dappend_spec L b h1 w1 [116] (.sl .no 1 ([97, 98].map U)) [97, 98] 1 0 w1_wf (by omega) (by omega) (by simp) (by simp) X2 s1'.kd (.inl ⟨.no, rfl⟩) (by simp [fvb]) _ fun Y2 h2 hY oY => ?_
  rw [w2_eq] at hY
  have s2 : DS H Y2 b h2 w2 := s1'.step hY oY
  clear hY oY
  rw [a2]
  repeat (refine gk smU ?_)
  (apply r_call; (focus rfl))
  refine dsync_spec L b h2 w2 [116] 2 2 w2_wf (by omega) (by simp) Y2 s2.kd _ fun Y3 h3 hY oY => ?_
  rw [w3_eq] at hY
  have s3 : DS H Y3 b h3 w3 := s2.step hY oY
  clear hY oY
  rw [a3]
  repeat (refine gk smU ?_)
  (apply r_call; (focus rfl))
  refine drenames_spec L b h3 w3 [116] [97] 3 2 w3_wf (by omega) (by simp) (by simp) Y3 s3.kd _ fun Y4 h4 hY oY => ?_
  rw [w4_eq] at hY
  have s4 : DS H Y4 b h4 w4 := s3.step hY oY
  clear hY oY
  rw [a4]
  repeat (refine gk smU ?_)
  (apply r_call; (focus rfl))
  refine dfork_spec L b h4 w4 4 2 w4_wf (by omega) Y4 s4.kd _ fun X5 fb fh hfD hfn f5 => ?_
  have s5 := s4.fr0 f5
  have t5 : DS H X5 fb fh w4 := ⟨hfD, s5.fr, fun a ha => s4.fr.of_none (hfn a ha)⟩
  have ap : ∀ a ∈ h4.bs b, a ∉ fh.bs fb := fun a ha hm => by
    obtain ⟨r, hr⟩ := s4.kd.held a ha
    rw [hfn a hm] at hr; cases hr
  repeat (refine gk smU ?_)
  (apply r_call; (focus rfl))
  refine Spec_weak (hs' := [ptr b, I 1, .sl .no 1 (([] : List UInt8).map U)]) (show WeakL [ptr b, I 1, .v (.slice none 0 0)] _ from ⟨Weak.refl _, Weak.refl _, Weak.nil' 1, trivial⟩) ?_
  refine dcrash_spec L C b h4 w4 1 [] 4 2 w4_wf (by omega) (by omega) (by simp) X5 s5.kd _ fun Y6 h6 hY oY => ?_
  rw [w5_eq] at hY
  have s6 : DS H Y6 b h6 w5 := s5.step hY oY
  obtain ⟨tk6, ap6⟩ := t5.kd.own oY (fun a ha hm => ap a hm ha)
  have t6 : DS H Y6 fb fh w4 := ⟨tk6, s6.fr, t5.nw⟩
  clear hY oY
  repeat (refine gk smU ?_)
  (apply r_call; (focus rfl))
  refine dread_spec L b h6 w5 [116] 4 2 w5_wf (by omega) Y6 s6.kd _ fun v X7 hv f7 hvn => ?_
  rw [a5] at hv ⊢
  have s7 := s6.fr0 f7
  have t7 := t6.fr0 f7
  repeat (refine gk smU ?_)
  (apply r_call; (focus rfl))
  refine dsyncdirs_spec L fb fh w4 4 2 w4_wf (by omega) X7 t7.kd _ fun Y8 h8 hY oY => ?_
  rw [g1_eq] at hY
  have t8 : DS H Y8 fb h8 g1 := t7.step hY oY
  obtain ⟨sk8, ap8⟩ := s7.kd.own oY (fun a ha hm => ap6 a hm ha)
  have s8 : DS H Y8 b h6 w5 := ⟨sk8, t8.fr, s7.nw⟩
  have hv8 := hv.own oY (fun a ha hm => by obtain ⟨r, hr⟩ := t6.kd.held a hm; rw [hvn a ha] at hr; cases hr)
  have hvb8 := hv.apart oY (fun a ha hm => by obtain ⟨r, hr⟩ := t6.kd.held a hm; rw [hvn a ha] at hr; cases hr)
  clear hY oY
  repeat (refine gk smU ?_)
  (apply r_call; (focus rfl))
  refine Spec_weak (hs' := [ptr fb, I 0, .sl .no 1 (([] : List UInt8).map U)]) (show WeakL [ptr fb, I 0, .v (.slice none 0 0)] _ from ⟨Weak.refl _, Weak.refl _, Weak.nil' 1, trivial⟩) ?_
  refine dcrash_spec L C fb h8 g1 0 [] 5 2 g1_wf (by omega) (by omega) (by simp) Y8 t8.kd _ fun Y9 h9 hY oY => ?_
  rw [g2_eq] at hY
  have t9 : DS H Y9 fb h9 g2 := t8.step hY oY
  obtain ⟨sk9, ap9⟩ := s8.kd.own oY ap8
  have s9 : DS H Y9 b h6 w5 := ⟨sk9, t9.fr, s8.nw⟩
  have hv9 := hv8.own oY hvb8
  clear hY oY
  repeat (refine gk smU ?_)
  (apply r_call; (focus rfl))
  refine dread_spec L fb h9 g2 [97] 5 2 g2_wf (by omega) Y9 t9.kd _ fun u Xa hu fa hun => ?_
  rw [a6] at hu ⊢
  have sa := s9.fr0 fa
  have hva := hv9.fr fa (by simp)
  repeat (refine gk smU ?_)
  refine r_b2sB rfl (CB_bv hva) ?_
  have eab : (([97, 98] : List UInt8) == [97, 98]) = true := rfl
  repeat (refine gk smU ?_)
  rw [eab]
  repeat (refine gk smU ?_)
  refine r_b2sB rfl (CB_bv hu) ?_
  repeat (refine gk smU ?_)
  rw [eab]
  repeat (refine gk smU ?_)
  (apply r_call; (focus rfl))
  refine dcreate_spec L b h6 w5 [120, 47, 121] 4 2 w5_wf (by omega) (by simp) Xa sa.kd _ fun Yb hb hY oY => ?_
  rw [w6_eq] at hY
  have sb : DS H Yb b hb w6 := sa.step hY oY
  rw [a7]
  repeat (refine gk smU ?_)
  (apply r_call; (focus rfl))
  refine dlist_spec L C b hb w6 5 2 w6_wf (by omega) (by omega) Yb sb.kd _ fun eos Xc hM hE _ fc => ?_
  have hl1 : eos.length = 1 := by
    have := congrArg List.length hM
    rw [a8] at this; simpa using this
  repeat (refine gk smU ?_)
  rw [hl1]
  repeat (refine gk smU ?_)
  exact resK_some (hk Xc (sb.fr.trans fc))
end Sm

set_option linter.unusedVariables false
set_option linter.unusedSimpArgs false
set_option maxRecDepth 10000
set_option maxHeartbeats 2000000
namespace Sm
open Go
-- BASE smU
def sizB (l : List Ak) : Nat := (l.map fun a => a.b.length).sum
/-- Numbers of a call are numbers. -/
def okA (l : List Ak) : Prop := ∀ a ∈ l, a.n ≤ 9223372036854775807
/-- What calls leave, one behind the other. -/
def runD (d : Dk) (l : List Ak) : Dk := l.foldl (fun d a => (doD d a).1) d
theorem okA.take {l : List Ak} (h : okA l) (i : Nat) : okA (l.take i) := fun a ha => h a (List.mem_of_mem_take ha)
attribute [local irreducible] csem rsem dsem seqK blockK normK finK DK RK JK BR G3 resK Spec Tok Fr CV GA YB w1 w2 w3 w4 w5 w6 g1 g2

end Sm

set_option linter.unusedVariables false
set_option linter.unusedSimpArgs false
set_option maxRecDepth 10000
set_option maxHeartbeats 2000000
namespace Sm
open Go
-- BASE smU
attribute [local irreducible] csem rsem dsem seqK blockK normK finK DK RK JK BR G3 resK Spec Tok Fr CV GA YB w1 w2 w3 w4 w5 w6 g1 g2

end Sm
