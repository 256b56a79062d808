/-
  A layer of one's own: texts D34,D35,D36.
-/
import Derived.Test.YtmdfajhlofhmcaaGreatDoorSmDK
set_option linter.unusedVariables false
set_option linter.unusedSimpArgs false
set_option maxRecDepth 10000
set_option maxHeartbeats 2000000
namespace Sm
open Go
-- BASE smU
/-- A disk of one's own. -/
structure DS (H X : Heap) (b : Nat) (h : Hd) (d : Dk) : Prop where
  kd : KD X b h d
  fr : Fr [] H X
  nw : ∀ a ∈ h.bs b, H a = none
theorem DS.step {H X Y : Heap} {b : Nat} {h h' : Hd} {d d' : Dk} (s : DS H X b h d) (k : KD Y b h' d') (o : Own X Y (h.bs b) (h'.bs b)) : DS H Y b h' d' :=
  ⟨k, Fr.make2 fun a r _ hr => o.get (fun hm => by rw [s.nw a hm] at hr; cases hr) (s.fr.get (by simp) hr), fun a ha => (o.nw a ha).elim (s.nw a) fun h0 => s.fr.of_none h0⟩
theorem DS.fr0 {H X Y : Heap} {b : Nat} {h : Hd} {d : Dk} (s : DS H X b h d) (f : Fr [] X Y) : DS H Y b h d := ⟨s.kd.fr0 f, s.fr.trans f, s.nw⟩
theorem KD.own {X Y : Heap} {b : Nat} {h : Hd} {d : Dk} {cs cs' : List Nat} (k : KD X b h d) (o : Own X Y cs cs') (hb : ∀ a ∈ h.bs b, a ∉ cs) : KD Y b h d ∧ ∀ a ∈ h.bs b, a ∉ cs' :=
  ⟨k.fr o.fr hb, fun a ha => by obtain ⟨r, hr⟩ := k.held a ha; exact o.apart (hb a ha) hr⟩
def w1 : Dk := ((newD 100).put [116] false).1
def w2 : Dk := (w1.append [116] [97, 98]).1
def w3 : Dk := (w2.sync [116]).1
def w4 : Dk := (w3.rename [116] [97]).1
def w5 : Dk := w4.crash 1 []
def g1 : Dk := w4.syncDirs.1
def g2 : Dk := g1.crash 0 []
def w6 : Dk := (w5.put [120, 47, 121] false).1
theorem w1_wf : w1.WF 1 0 := put_wf (newD_wf 100) _ _
theorem w2_wf : w2.WF 2 2 := append_wf w1_wf _ _
theorem w3_wf : w3.WF 3 2 := sync_wf w2_wf _
theorem w4_wf : w4.WF 4 2 := rename_wf w3_wf _ _
theorem w5_wf : w5.WF 4 2 := crash_wf w4_wf _ _
theorem g1_wf : g1.WF 5 2 := syncDirs_wf w4_wf
theorem g2_wf : g2.WF 5 2 := crash_wf g1_wf _ _
theorem w6_wf : w6.WF 5 2 := put_wf w5_wf _ _
theorem w1_eq : ((newD 100).put [116] false).1 = w1 := rfl
theorem w2_eq : (w1.append [116] [97, 98]).1 = w2 := rfl
theorem w3_eq : (w2.sync [116]).1 = w3 := rfl
theorem w4_eq : (w3.rename [116] [97]).1 = w4 := rfl
theorem w5_eq : w4.crash 1 [] = w5 := rfl
theorem g1_eq : w4.syncDirs.1 = g1 := rfl
theorem g2_eq : g1.crash 0 [] = g2 := rfl
theorem w6_eq : (w5.put [120, 47, 121] false).1 = w6 := rfl
theorem a1 : ((newD 100).put [116] false).2 = 0 := by decide
theorem a2 : (w1.append [116] [97, 98]).2 = 0 := by decide
theorem a3 : (w2.sync [116]).2 = 0 := by decide
theorem a4 : (w3.rename [116] [97]).2 = 0 := by decide
theorem a5 : w5.read [116] = ([97, 98], 0) := by decide
theorem a6 : g2.read [97] = ([97, 98], 0) := by decide
theorem a7 : (w5.put [120, 47, 121] false).2 = 8 := by decide
theorem a8 : w6.list.length = 1 := by decide
attribute [local irreducible] csem rsem dsem seqK blockK normK finK DK RK JK BR G3 resK Spec Tok Fr CV GA YB w1 w2 w3 w4 w5 w6 g1 g2

theorem dawake_spec (L : Linked code) (C : Cl L) : PureF L 293 [] (B true) := by
  intro H K hk
  refine go_spec L code293 rfl ?_
  repeat (refine gk smU ?_)
  (apply r_call; (focus rfl))
  refine dnew_spec L 100 H _ fun b h0 X0 hb0 hD0 f0 => ?_
  have s0 : DS H X0 b h0 (newD 100) := ⟨hD0, f0, hb0⟩
  repeat (refine gk smU ?_)
  (apply r_call; (focus rfl))
  refine dcreate_spec L b h0 (newD 100) [116] 0 0 (newD_wf 100) (by omega) (by simp) X0 s0.kd _ fun Y1 h1 hY oY => ?_
  rw [w1_eq] at hY
  have s1 : DS H Y1 b h1 w1 := s0.step hY oY
  clear hY oY
  rw [a1]
  repeat (refine gk smU ?_)
  refine r_bsl (hs := [U 97, U 98]) rfl rfl (by simp; exact ⟨rfl, rfl⟩) fun c X1 hc1 hc2 hc3 => ?_
  repeat (refine gk smU ?_)
  refine r_mark (cs := [U 97, U 98]) rfl hc2 rfl (by simp) (by simp [maxLen]) ?_
  have fm : Fr [] Y1 (X1.upd c none) := Fr.give hc3 hc1
  have s1' := s1.fr0 fm
  generalize X1.upd c none = X2 at *
  repeat (refine gk smU ?_)
  (apply r_call; (focus rfl))
  refine dappend_spec L b h1 w1 [116] (.sl .no 1 ([97, 98].map U)) [97, 98] 1 0 w1_wf (by omega) (by omega) (by simp) (by simp) X2 s1'.kd (.inl ⟨.no, rfl⟩) (by simp [fvb]) _ fun Y2 h2 hY oY => ?_
  rw [w2_eq] at hY
  have s2 : DS H Y2 b h2 w2 := s1'.step hY oY
  clear hY oY
  rw [a2]
  repeat (refine gk smU ?_)
  (apply r_call; (focus rfl))
  refine dsync_spec L b h2 w2 [116] 2 2 w2_wf (by omega) (by simp) Y2 s2.kd _ fun Y3 h3 hY oY => ?_
  rw [w3_eq] at hY
  have s3 : DS H Y3 b h3 w3 := s2.step hY oY
  clear hY oY
  rw [a3]
  repeat (refine gk smU ?_)
  (apply r_call; (focus rfl))
  refine drenames_spec L b h3 w3 [116] [97] 3 2 w3_wf (by omega) (by simp) (by simp) Y3 s3.kd _ fun Y4 h4 hY oY => ?_
  rw [w4_eq] at hY
  have s4 : DS H Y4 b h4 w4 := s3.step hY oY
  clear hY oY
  rw [a4]
  repeat (refine gk smU ?_)
  (apply r_call; (focus rfl))
  refine dfork_spec L b h4 w4 4 2 w4_wf (by omega) Y4 s4.kd _ fun X5 fb fh hfD hfn f5 => ?_
  have s5 := s4.fr0 f5
  have t5 : DS H X5 fb fh w4 := ⟨hfD, s5.fr, fun a ha => s4.fr.of_none (hfn a ha)⟩
  have ap : ∀ a ∈ h4.bs b, a ∉ fh.bs fb := fun a ha hm => by
    obtain ⟨r, hr⟩ := s4.kd.held a ha
    rw [hfn a hm] at hr; cases hr
  repeat (refine gk smU ?_)
  (apply r_call; (focus rfl))
  refine Spec_weak (hs' := [ptr b, I 1, .sl .no 1 (([] : List UInt8).map U)]) (show WeakL [ptr b, I 1, .v (.slice none 0 0)] _ from ⟨Weak.refl _, Weak.refl _, Weak.nil' 1, trivial⟩) ?_
  refine dcrash_spec L C b h4 w4 1 [] 4 2 w4_wf (by omega) (by omega) (by simp) X5 s5.kd _ fun Y6 h6 hY oY => ?_
  rw [w5_eq] at hY
  have s6 : DS H Y6 b h6 w5 := s5.step hY oY
  obtain ⟨tk6, ap6⟩ := t5.kd.own oY (fun a ha hm => ap a hm ha)
  have t6 : DS H Y6 fb fh w4 := ⟨tk6, s6.fr, t5.nw⟩
  clear hY oY
  repeat (refine gk smU ?_)
  (apply r_call; (focus rfl))
  refine dread_spec L b h6 w5 [116] 4 2 w5_wf (by omega) Y6 s6.kd _ fun v X7 hv f7 hvn => ?_
  rw [a5] at hv ⊢
  have s7 := s6.fr0 f7
  have t7 := t6.fr0 f7
  repeat (refine gk smU ?_)
  (apply r_call; (focus rfl))
  refine dsyncdirs_spec L fb fh w4 4 2 w4_wf (by omega) X7 t7.kd _ fun Y8 h8 hY oY => ?_
  rw [g1_eq] at hY
  have t8 : DS H Y8 fb h8 g1 := t7.step hY oY
  obtain ⟨sk8, ap8⟩ := s7.kd.own oY (fun a ha hm => ap6 a hm ha)
  have s8 : DS H Y8 b h6 w5 := ⟨sk8, t8.fr, s7.nw⟩
  have hv8 := hv.own oY (fun a ha hm => by obtain ⟨r, hr⟩ := t6.kd.held a hm; rw [hvn a ha] at hr; cases hr)
  have hvb8 := hv.apart oY (fun a ha hm => by obtain ⟨r, hr⟩ := t6.kd.held a hm; rw [hvn a ha] at hr; cases hr)
  clear hY oY
  repeat (refine gk smU ?_)
  (apply r_call; (focus rfl))
  refine Spec_weak (hs' := [ptr fb, I 0, .sl .no 1 (([] : List UInt8).map U)]) (show WeakL [ptr fb, I 0, .v (.slice none 0 0)] _ from ⟨Weak.refl _, Weak.refl _, Weak.nil' 1, trivial⟩) ?_
  refine dcrash_spec L C fb h8 g1 0 [] 5 2 g1_wf (by omega) (by omega) (by simp) Y8 t8.kd _ fun Y9 h9 hY oY => ?_
  rw [g2_eq] at hY
  have t9 : DS H Y9 fb h9 g2 := t8.step hY oY
  obtain ⟨sk9, ap9⟩ := s8.kd.own oY ap8
  have s9 : DS H Y9 b h6 w5 := ⟨sk9, t9.fr, s8.nw⟩
  have hv9 := hv8.own oY hvb8
  clear hY oY
  repeat (refine gk smU ?_)
  (apply r_call; (focus rfl))
  refine dread_spec L fb h9 g2 [97] 5 2 g2_wf (by omega) Y9 t9.kd _ fun u Xa hu fa hun => ?_
  rw [a6] at hu ⊢
  have sa := s9.fr0 fa
  have hva := hv9.fr fa (by simp)
  repeat (refine gk smU ?_)
  refine r_b2sB rfl (CB_bv hva) ?_
  have eab : (([97, 98] : List UInt8) == [97, 98]) = true := rfl
  repeat (refine gk smU ?_)
  rw [eab]
  repeat (refine gk smU ?_)
  refine r_b2sB rfl (CB_bv hu) ?_
  repeat (refine gk smU ?_)
  rw [eab]
  repeat (refine gk smU ?_)
  (apply r_call; (focus rfl))
  refine dcreate_spec L b h6 w5 [120, 47, 121] 4 2 w5_wf (by omega) (by simp) Xa sa.kd _ fun Yb hb hY oY => ?_
  rw [w6_eq] at hY
  have sb : DS H Yb b hb w6 := sa.step hY oY
  rw [a7]
  repeat (refine gk smU ?_)
  (apply r_call; (focus rfl))
  refine dlist_spec L C b hb w6 5 2 w6_wf (by omega) (by omega) Yb sb.kd _ fun eos Xc hM hE _ fc => ?_
  have hl1 : eos.length = 1 := by
    have := congrArg List.length hM
    rw [a8] at this; simpa using this
  repeat (refine gk smU ?_)
  rw [hl1]
  repeat (refine gk smU ?_)
  exact resK_some (hk Xc (sb.fr.trans fc))
end Sm

set_option linter.unusedVariables false
set_option linter.unusedSimpArgs false
set_option maxRecDepth 10000
set_option maxHeartbeats 2000000
namespace Sm
open Go
-- BASE smU
def sizB (l : List Ak) : Nat := (l.map fun a => a.b.length).sum
/-- Numbers of a call are numbers. -/
def okA (l : List Ak) : Prop := ∀ a ∈ l, a.n ≤ 9223372036854775807
theorem doJ_wf {d : Dk} {n m : Nat} (h : d.WF n m) (a : Ak) (ha : a.n ≤ 9223372036854775807) : ∀ j, (doJ d a j).1.WF (n + 1) (m + a.b.length)
  | 0 => (put_wf h _ _).mono (Nat.le_refl _) (Nat.le_add_right _ _)
  | 1 => append_wf h _ _
  | 2 => (cut_wf h _ _).mono (Nat.le_refl _) (Nat.le_add_right _ _)
  | 3 => (sync_wf h _).mono (Nat.le_refl _) (Nat.le_add_right _ _)
  | 4 => (put_wf h _ _).mono (Nat.le_refl _) (Nat.le_add_right _ _)
  | 5 => (remove_wf h _).mono (Nat.le_refl _) (Nat.le_add_right _ _)
  | 6 => (rename_wf h _ _).mono (Nat.le_refl _) (Nat.le_add_right _ _)
  | 7 => (syncDirs_wf h).mono (Nat.le_refl _) (Nat.le_add_right _ _)
  | 8 => (fail_wf h _ ha _).mono (Nat.le_succ _) (Nat.le_add_right _ _)
  | 9 => (fault_wf h _ ha).mono (Nat.le_succ _) (Nat.le_add_right _ _)
  | _ + 10 => (crash_wf h _ _).mono (Nat.le_succ _) (Nat.le_add_right _ _)
theorem doD_wf {d : Dk} {n m : Nat} (h : d.WF n m) (a : Ak) (ha : a.n ≤ 9223372036854775807) : (doD d a).1.WF (n + 1) (m + a.b.length) := doJ_wf h a ha _
/-- What calls leave, one behind the other. -/
def runD (d : Dk) (l : List Ak) : Dk := l.foldl (fun d a => (doD d a).1) d
theorem run_wf : ∀ {l : List Ak} {d : Dk} {n m : Nat}, d.WF n m → okA l → (runD d l).WF (n + l.length) (m + sizB l)
  | [], d, n, m, h, _ => h
  | a :: l, d, n, m, h, ha => by
    have := run_wf (l := l) (doD_wf h a (ha a (by simp))) fun b hb => ha b (by simp [hb])
    rw [runD, List.foldl_cons, List.length_cons, sizB, List.map_cons, List.sum_cons]
    exact this.mono (by omega) (by simp only [sizB]; omega)
theorem runD_succ {l : List Ak} {i : Nat} (h : i < l.length) (d : Dk) : runD d (l.take (i + 1)) = (doD (runD d (l.take i)) l[i]).1 := foldl_take h
theorem le_sumA {α : Type} (f : α → Nat) : ∀ {l : List α} {a : α}, a ∈ l → f a ≤ (l.map f).sum
  | b :: l, a, h => by
    rcases List.mem_cons.mp h with rfl | h
    · simp
    · have := le_sumA f h; simp; omega
theorem few_of {l : List Ak} {most : Int} (h : fewD l most = true) : (l.length : Int) ≤ most ∧ (∀ a ∈ l, a.p.length ≤ 300 ∧ a.q.length ≤ 300 ∧ a.b.length ≤ 4000) ∧ ∀ i, sizB (l.take i) ≤ 4000 := by
  unfold fewD at h
  simp only [Bool.and_eq_true, decide_eq_true_eq, List.all_eq_true, smallA] at h
  obtain ⟨h1, h2, h3⟩ := h
  have hb : ∀ a ∈ l, a.b.length ≤ 4000 := fun a ha => by
    have : min a.b.length 4001 ≤ sizA l := le_sumA (fun a : Ak => min a.b.length 4001) ha
    omega
  refine ⟨h1, fun a ha => ⟨(h2 a ha).1, (h2 a ha).2, hb a ha⟩, fun i => ?_⟩
  have e : sizB (l.take i) = sizA (l.take i) := by
    unfold sizB sizA
    congr 1
    refine List.map_congr_left fun a ha => ?_
    have := hb a (List.mem_of_mem_take ha)
    omega
  rw [e]
  exact Nat.le_trans (sizA_le l i) h3
theorem okA.take {l : List Ak} (h : okA l) (i : Nat) : okA (l.take i) := fun a ha => h a (List.mem_of_mem_take ha)
/-- What has come of a few calls. -/
theorem runs_wf {l : List Ak} {most : Nat} (h : fewD l most = true) (ha : okA l) (cap : Int) (i : Nat) : (runD (newD cap) (l.take i)).WF most 4000 := by
  obtain ⟨h1, h2, h3⟩ := few_of h
  have := run_wf (newD_wf cap) (ha.take i)
  exact this.mono (by rw [List.length_take]; omega) (by have := h3 i; omega)
attribute [local irreducible] csem rsem dsem seqK blockK normK finK DK RK JK BR G3 resK Spec Tok Fr CV GA YB w1 w2 w3 w4 w5 w6 g1 g2

theorem dplays_spec (L : Linked code) (C : Cl L) (cap : Int) (l : List Ak) (ha : okA l) : PureF L 372 [I cap, .sl .no 6 (l.map akV)] (B true) := by
  intro H K hk
  refine go_spec L code372 rfl ?_
  repeat (refine gk smU ?_)
  (apply r_call; (focus rfl))
  refine few_spec L l 60 (by omega) _ _ ?_
  repeat (refine gk smU ?_)
  cases c1 : fewD l 60
  case false =>
    simp only [Bool.not_false]
    repeat (refine gk smU ?_)
    (apply r_call; (focus rfl))
    refine dawake_spec L C H _ fun X1 f1 => ?_
    repeat (refine gk smU ?_)
    exact resK_some (hk X1 f1)
  simp only [Bool.not_true]
  obtain ⟨q1, q2, q3⟩ := few_of c1
  have hwf := runs_wf (most := 60) c1 ha cap
  repeat (refine gk smU ?_)
  (apply r_call; (focus rfl))
  refine dnew_spec L cap H _ fun b h0 X0 hb0 hD0 f0 => ?_
  have s0 : DS H X0 b h0 (newD cap) := ⟨hD0, f0, hb0⟩
  repeat (refine gk smU ?_)
  (apply r_call; (focus rfl))
  refine rnew_spec L cap X0 _ fun X1 f1 => ?_
  have s1 := s0.fr0 f1
  repeat (refine gk smU ?_)
  refine c_loop (Spec_SMono L) (fun (q : Nat) => [(1, .h (.sl .no 6 (l.map akV))), (5, .h (ptr b)), (6, .lp 0 0), (8, .h (I q))]) (fun q => [(0, [I (runD (newD cap) (l.take q)).room, .sl .no 3 ((runD (newD cap) (l.take q)).sure.map rnV), .sl .no 2 ((runD (newD cap) (l.take q)).loose.map rcV), .sl .no 2 ((runD (newD cap) (l.take q)).f.map rfV), B (runD (newD cap) (l.take q)).down, I (runD (newD cap) (l.take q)).ops, I (runD (newD cap) (l.take q)).fails, B (runD (newD cap) (l.take q)).done, I (runD (newD cap) (l.take q)).wrong])])
    (fun q X => q ≤ l.length ∧ ∃ h, DS H X b h (runD (newD cap) (l.take q))) (fun q => l.length - q) 0 ?_ ⟨by simp, h0, s1⟩ ?_
  · (refine leM ?_ ?_ ?_ <;> (repeat refine leS trivial ?_) <;> exact leE)
  rintro q X ⟨hq1, h, s⟩
  have hwq := hwf q
  have hwq1 := hwf (q + 1)
  repeat (refine gk smU ?_)
  (refine ct smU ?_ ?_ <;> intro hc)
  · have hq' : q < l.length := by simpa using hc
    have hsu := runD_succ hq' (newD cap)
    have hmem := q2 _ (List.getElem_mem hq')
    generalize runD (newD cap) (l.take q) = d at *
    repeat (refine gk smU ?_)
    (apply r_call; (focus rfl))
    refine do_spec L C b h d l[q] 60 4000 hwq (by omega) (by omega) (by omega) (by omega) (by omega) (by omega) X s.kd _ fun Y h' hY oY => ?_
    have s2 := s.step hY oY
    rw [← hsu] at s2 ⊢
    obtain ⟨d2, hd2⟩ : ∃ d2, d2 = runD (newD cap) (l.take (q + 1)) := ⟨_, rfl⟩
    rw [← hd2] at s2 hwq1 ⊢
    repeat (refine gk smU ?_)
    (apply r_call; (focus rfl))
    refine dsame_spec L C b h' d2 l[q].p 60 4000 hwq1 (by omega) (by omega) (by omega) (by omega) Y s2.kd _ fun Z fZ => ?_
    repeat (refine gk smU ?_)
    subst hd2
    refine k_n (q + 1) (by omega) ⟨by omega, h', s2.fr0 fZ⟩ ?_
    (refine leM ?_ ?_ ?_ <;> (repeat refine leS trivial ?_) <;> exact leE)
  repeat (refine gk smU ?_)
  (apply r_call; (focus rfl))
  refine dawake_spec L C X _ fun X2 f2 => ?_
  repeat (refine gk smU ?_)
  exact resK_some (hk X2 (s.fr.trans f2))
end Sm

set_option linter.unusedVariables false
set_option linter.unusedSimpArgs false
set_option maxRecDepth 10000
set_option maxHeartbeats 2000000
namespace Sm
open Go
-- BASE smU
attribute [local irreducible] csem rsem dsem seqK blockK normK finK DK RK JK BR G3 resK Spec Tok Fr CV GA YB w1 w2 w3 w4 w5 w6 g1 g2

theorem dforks_spec (L : Linked code) (C : Cl L) (l m : List Ak) (ha : okA l) (hb : okA m) : PureF L 373 [.sl .no 6 (l.map akV), .sl .no 6 (m.map akV)] (B true) := by
  intro H K hk
  refine go_spec L code373 rfl ?_
  repeat (refine gk smU ?_)
  (apply r_call; (focus rfl))
  refine few_spec L l 50 (by omega) _ _ ?_
  cases c1 : fewD l 50
  case false =>
    repeat (refine gk smU ?_)
    (apply r_call; (focus rfl))
    refine dawake_spec L C H _ fun X1 f1 => ?_
    repeat (refine gk smU ?_)
    exact resK_some (hk X1 f1)
  repeat (refine gk smU ?_)
  (apply r_call; (focus rfl))
  refine few_spec L m 50 (by omega) _ _ ?_
  cases c2 : fewD m 50
  case false =>
    repeat (refine gk smU ?_)
    (apply r_call; (focus rfl))
    refine dawake_spec L C H _ fun X1 f1 => ?_
    repeat (refine gk smU ?_)
    exact resK_some (hk X1 f1)
  obtain ⟨q1, q2, q3⟩ := few_of c1
  obtain ⟨p1, p2, p3⟩ := few_of c2
  have hwf := runs_wf (most := 50) c1 ha 1000
  repeat (refine gk smU ?_)
  (apply r_call; (focus rfl))
  refine dnew_spec L 1000 H _ fun b h0 X0 hb0 hD0 f0 => ?_
  have s0 : DS H X0 b h0 (newD 1000) := ⟨hD0, f0, hb0⟩
  repeat (refine gk smU ?_)
  (apply r_call; (focus rfl))
  refine rnew_spec L 1000 X0 _ fun X1 f1 => ?_
  have s1 := s0.fr0 f1
  repeat (refine gk smU ?_)
  refine c_loop (Spec_SMono L) (fun (q : Nat) => [(0, .h (.sl .no 6 (l.map akV))), (1, .h (.sl .no 6 (m.map akV))), (5, .h (ptr b)), (6, .lp 0 0), (7, .h (I q))]) (fun q => [(0, [I (runD (newD 1000) (l.take q)).room, .sl .no 3 ((runD (newD 1000) (l.take q)).sure.map rnV), .sl .no 2 ((runD (newD 1000) (l.take q)).loose.map rcV), .sl .no 2 ((runD (newD 1000) (l.take q)).f.map rfV), B (runD (newD 1000) (l.take q)).down, I (runD (newD 1000) (l.take q)).ops, I (runD (newD 1000) (l.take q)).fails, B (runD (newD 1000) (l.take q)).done, I (runD (newD 1000) (l.take q)).wrong])])
    (fun q X => q ≤ l.length ∧ ∃ h, DS H X b h (runD (newD 1000) (l.take q))) (fun q => l.length - q) 0 ?_ ⟨by simp, h0, s1⟩ ?_
  · (refine leM ?_ ?_ ?_ <;> (repeat refine leS trivial ?_) <;> exact leE)
  rintro q X ⟨hq1, h, s⟩
  have hwq := hwf q
  repeat (refine gk smU ?_)
  (refine ct smU ?_ ?_ <;> intro hc)
  · have hq' : q < l.length := by simpa using hc
    have hsu := runD_succ hq' (newD 1000)
    have hmem := q2 _ (List.getElem_mem hq')
    generalize runD (newD 1000) (l.take q) = d at *
    repeat (refine gk smU ?_)
    (apply r_call; (focus rfl))
    refine do_spec L C b h d l[q] 50 4000 hwq (by omega) (by omega) (by omega) (by omega) (by omega) (by omega) X s.kd _ fun Y h' hY oY => ?_
    have s2 := s.step hY oY
    rw [← hsu] at s2 ⊢
    repeat (refine gk smU ?_)
    refine k_n (q + 1) (by omega) ⟨by omega, h', s2⟩ ?_
    (refine leM ?_ ?_ ?_ <;> (repeat refine leS trivial ?_) <;> exact leE)
  have hq' : q = l.length := by have : ¬ q < l.length := by simpa using hc
                                omega
  subst hq'
  rw [List.take_length] at s hwq ⊢
  generalize runD (newD 1000) l = d at *
  repeat (refine gk smU ?_)
  (apply r_call; (focus rfl))
  refine dfork_spec L b h d 50 4000 hwq (by omega) X s.kd _ fun X2 fb fh hfD hfn f2 => ?_
  have s2 := s.fr0 f2
  have t2 : DS H X2 fb fh d := ⟨hfD, s2.fr, fun a ha => s.fr.of_none (hfn a ha)⟩
  have ap2 : ∀ a ∈ h.bs b, a ∉ fh.bs fb := fun a ha hm => by
    obtain ⟨r, hr⟩ := s.kd.held a ha
    rw [hfn a hm] at hr; cases hr
  have hwm : ∀ i, (runD d (m.take i)).WF 100 8000 := fun i => by
    refine (run_wf hwq (hb.take i)).mono ?_ ?_
    · rw [List.length_take]; omega
    · have := p3 i; omega
  repeat (refine gk smU ?_)
  refine c_loop (Spec_SMono L) (fun (q : Nat) => [(1, .h (.sl .no 6 (m.map akV))), (5, .h (ptr b)), (6, .lp 0 0), (8, .h (ptr fb)), (9, .lp 1 0), (11, .h (I q))]) (fun q => [(0, [I d.room, .sl .no 3 (d.sure.map rnV), .sl .no 2 (d.loose.map rcV), .sl .no 2 (d.f.map rfV), B d.down, I d.ops, I d.fails, B d.done, I d.wrong]), (1, [I (runD d (m.take q)).room, .sl .no 3 ((runD d (m.take q)).sure.map rnV), .sl .no 2 ((runD d (m.take q)).loose.map rcV), .sl .no 2 ((runD d (m.take q)).f.map rfV), B (runD d (m.take q)).down, I (runD d (m.take q)).ops, I (runD d (m.take q)).fails, B (runD d (m.take q)).done, I (runD d (m.take q)).wrong])])
    (fun q X => q ≤ m.length ∧ KD X b h d ∧ ∃ fh, DS H X fb fh (runD d (m.take q)) ∧ ∀ a ∈ h.bs b, a ∉ fh.bs fb) (fun q => m.length - q) 0 ?_ ⟨by simp, s2.kd, fh, t2, ap2⟩ ?_
  · (refine leM ?_ ?_ ?_ <;> (repeat refine leS trivial ?_) <;> exact leE)
  clear ap2 t2 hfD hfn
  rintro i Y ⟨hi1, kd, fh, t, ap⟩
  have hwi := hwm i
  repeat (refine gk smU ?_)
  (refine ct smU ?_ ?_ <;> intro hc2)
  · have hi' : i < m.length := by simpa using hc2
    have hsu := runD_succ hi' d
    have hmem := p2 _ (List.getElem_mem hi')
    generalize runD d (m.take i) = e at *
    repeat (refine gk smU ?_)
    (apply r_call; (focus rfl))
    refine do_spec L C fb fh e m[i] 100 8000 hwi (by omega) (by omega) (by omega) (by omega) (by omega) (by omega) Y t.kd _ fun Z h' hZ oZ => ?_
    have t3 := t.step hZ oZ
    obtain ⟨kd3, ap3⟩ := kd.own oZ ap
    rw [← hsu] at t3 ⊢
    repeat (refine gk smU ?_)
    refine k_n (i + 1) (by omega) ⟨by omega, kd3, h', t3, ap3⟩ ?_
    (refine leM ?_ ?_ ?_ <;> (repeat refine leS trivial ?_) <;> exact leE)
  have hi' : i = m.length := by have : ¬ i < m.length := by simpa using hc2
                                omega
  subst hi'
  rw [List.take_length] at t hwi ⊢
  generalize runD d m = e at *
  repeat (refine gk smU ?_)
  (apply r_call; (focus rfl))
  refine ncrash_spec L _ _ _ _ ?_
  repeat (refine gk smU ?_)
  (apply r_call; (focus rfl))
  refine nread_spec L _ _ _ ?_
  repeat (refine gk smU ?_)
  (apply r_call; (focus rfl))
  refine ncreate_spec L _ _ _ fun Z1 z1 => ?_
  repeat (refine gk smU ?_)
  (apply r_call; (focus rfl))
  refine nappend_spec L _ _ _ fun Z2 z2 => ?_
  repeat (refine gk smU ?_)
  (apply r_call; (focus rfl))
  refine ncut_spec L _ _ _ _ fun Z3 z3 => ?_
  repeat (refine gk smU ?_)
  (apply r_call; (focus rfl))
  refine nsync_spec L _ _ _ fun Z4 z4 => ?_
  repeat (refine gk smU ?_)
  (apply r_call; (focus rfl))
  refine nmkdir_spec L _ _ _ fun Z5 z5 => ?_
  repeat (refine gk smU ?_)
  (apply r_call; (focus rfl))
  refine nremove_spec L _ _ _ fun Z6 z6 => ?_
  repeat (refine gk smU ?_)
  (apply r_call; (focus rfl))
  refine nrename_spec L _ _ _ _ fun Z7 z7 => ?_
  repeat (refine gk smU ?_)
  (apply r_call; (focus rfl))
  refine nsyncdirs_spec L _ _ fun Z8 z8 => ?_
  repeat (refine gk smU ?_)
  (apply r_call; (focus rfl))
  refine nfail_spec L _ _ _ _ ?_
  repeat (refine gk smU ?_)
  (apply r_call; (focus rfl))
  refine nfault_spec L _ _ _ ?_
  repeat (refine gk smU ?_)
  (apply r_call; (focus rfl))
  refine nsafe_spec L _ _ _ ?_
  repeat (refine gk smU ?_)
  (apply r_call; (focus rfl))
  refine nlist_spec L _ _ ?_
  repeat (refine gk smU ?_)
  (apply r_call; (focus rfl))
  refine nused_spec L _ _ ?_
  repeat (refine gk smU ?_)
  (apply r_call; (focus rfl))
  refine ndown_spec L _ _ ?_
  repeat (refine gk smU ?_)
  (apply r_call; (focus rfl))
  refine nops_spec L _ _ ?_
  repeat (refine gk smU ?_)
  (apply r_call; (focus rfl))
  refine nfork_spec L _ _ ?_
  have z := (((((((z1.trans z2).trans z3).trans z4).trans z5).trans z6).trans z7).trans z8)
  have t4 := t.fr0 z
  have kd4 := kd.fr0 z
  repeat (refine gk smU ?_)
  (apply r_call; (focus rfl))
  refine dsame_spec L C fb fh e [97] 100 8000 hwi (by omega) (by omega) (by omega) (by simp) _ t4.kd _ fun Z9 z9 => ?_
  repeat (refine gk smU ?_)
  (apply r_call; (focus rfl))
  refine dsame_spec L C b h d [97] 50 4000 hwq (by omega) (by omega) (by omega) (by simp) _ (kd4.fr0 z9) _ fun Z10 z10 => ?_
  repeat (refine gk smU ?_)
  (apply r_call; (focus rfl))
  refine dawake_spec L C _ _ fun Z11 z11 => ?_
  repeat (refine gk smU ?_)
  exact resK_some (hk _ (((t4.fr.trans z9).trans z10).trans z11))
end Sm
