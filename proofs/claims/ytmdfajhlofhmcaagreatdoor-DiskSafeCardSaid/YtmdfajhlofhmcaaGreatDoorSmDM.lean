/-
  A layer of one's own: texts D37,D38.
-/
import Derived.Test.YtmdfajhlofhmcaaGreatDoorSmDL
import Derived.Test.YtmdfajhlofhmcaaGreatDoorSmDB
set_option linter.unusedVariables false
set_option linter.unusedSimpArgs false
set_option maxRecDepth 10000
set_option maxHeartbeats 2000000
namespace Sm
open Go
-- BASE smU
/-- Nothing of what is seen was changed. -/
structure Sv (d e : Dk) : Prop where
  su : e.sure = d.sure
  lo : e.loose = d.loose
  f : e.f = d.f
  dn : e.down = d.down
  op : d.ops ≤ e.ops
theorem Sv.refl (d : Dk) : Sv d d := ⟨rfl, rfl, rfl, rfl, Nat.le_refl _⟩
theorem Sv.list {d e : Dk} (h : Sv d e) : e.list = d.list := by
  rw [list_eq, list_eq, h.dn, h.f]
  show (if d.down = true then [] else (appAll e.sure e.loose).map _) = _
  rw [h.su, h.lo]; rfl
theorem step_sv {d next : Dk} (h1 : d.fails ≠ 0) (h2 : d.wrong = 0) : Sv d (d.step next).1 := by
  unfold Dk.step
  rw [if_neg h1, if_pos h2]
  exact ⟨rfl, rfl, rfl, rfl, Nat.le_succ _⟩
theorem with_sv {d : Dk} (h1 : d.fails ≠ 0) (h2 : d.wrong = 0) (p : List UInt8) (may : Fl → Int) (g : Fl → Fl) : Sv d (d.with' p may g).1 := by
  unfold Dk.with'
  split
  · exact Sv.refl _
  split
  · exact Sv.refl _
  split
  · exact Sv.refl _
  exact step_sv h1 h2
theorem put_sv {d : Dk} (h1 : d.fails ≠ 0) (h2 : d.wrong = 0) (p : List UInt8) (dir : Bool) : Sv d (d.put p dir).1 := by
  unfold Dk.put
  split
  · exact Sv.refl _
  split
  · exact Sv.refl _
  split
  · exact Sv.refl _
  exact step_sv h1 h2
theorem remove_sv {d : Dk} (h1 : d.fails ≠ 0) (h2 : d.wrong = 0) (p : List UInt8) : Sv d (d.remove p).1 := by
  unfold Dk.remove
  split
  · exact Sv.refl _
  split
  · exact Sv.refl _
  split
  · exact Sv.refl _
  exact step_sv h1 h2
theorem rename_sv {d : Dk} (h1 : d.fails ≠ 0) (h2 : d.wrong = 0) (a b : List UInt8) : Sv d (d.rename a b).1 := by
  unfold Dk.rename
  split
  · exact Sv.refl _
  split
  · exact Sv.refl _
  split
  · exact Sv.refl _
  split
  · exact Sv.refl _
  split
  · exact Sv.refl _
  split
  · exact Sv.refl _
  exact step_sv h1 h2
theorem syncDirs_sv {d : Dk} (h1 : d.fails ≠ 0) (h2 : d.wrong = 0) : Sv d d.syncDirs.1 := by
  unfold Dk.syncDirs
  split
  · exact Sv.refl _
  exact step_sv h1 h2
theorem doJ_sv {d : Dk} (h1 : d.fails ≠ 0) (h2 : d.wrong = 0) (a : Ak) : ∀ j, j ≤ 7 → Sv d (doJ d a j).1
  | 0, _ => put_sv h1 h2 _ _
  | 1, _ => with_sv h1 h2 _ _ _
  | 2, _ => with_sv h1 h2 _ _ _
  | 3, _ => with_sv h1 h2 _ _ _
  | 4, _ => put_sv h1 h2 _ _
  | 5, _ => remove_sv h1 h2 _
  | 6, _ => rename_sv h1 h2 _ _
  | 7, _ => syncDirs_sv h1 h2
  | _ + 8, h => by omega
/-- Behind a crash, with a fault to come. -/
def faulty (d : Dk) : Dk := { d.crash 99 [] with wrong := 0 }
theorem fault_eq (d : Dk) : ((d.crash 99 []).fault 0).1 = faulty d := rfl
theorem doD_sv (d : Dk) (a : Ak) (h : a.kind.toNat % 12 ≤ 7) : Sv (d.crash 99 []) (doD (faulty d) a).1 := by
  have h1 := doJ_sv (d := faulty d) (by show (-1 : Int) ≠ 0; decide) rfl a _ h
  exact ⟨h1.su, h1.lo, h1.f, h1.dn, h1.op⟩
/-- Entries that stand apart from a disk. -/
def EA (X : Heap) (b : Nat) (h : Hd) (l : List Eo) : Prop := ∀ x ∈ l, CB X x.v x.e.data ∧ ∀ a ∈ fvb x.v, a ∉ h.bs b
theorem EA.of {H X : Heap} {b : Nat} {h : Hd} {d : Dk} {l : List Eo} (he : EB H X l) (k : KD H b h d) : EA X b h l := fun x hx => ⟨(he x hx).1, fun a ha hm => by
  obtain ⟨r, hr⟩ := k.held a hm
  rw [(he x hx).2 a ha] at hr; cases hr⟩
theorem EA.own {X Y : Heap} {b : Nat} {h h' : Hd} {l : List Eo} (he : EA X b h l) (o : Own X Y (h.bs b) (h'.bs b)) : EA Y b h' l := fun x hx => ⟨(he x hx).1.own o (he x hx).2, (he x hx).1.apart o (he x hx).2⟩
theorem EA.fr0 {X Y : Heap} {b : Nat} {h : Hd} {l : List Eo} (he : EA X b h l) (f : Fr [] X Y) : EA Y b h l := fun x hx => ⟨(he x hx).1.fr f (by simp), (he x hx).2⟩
theorem EA.vw {X : Heap} {b : Nat} {h : Hd} {eos : List Eo} (he : EA X b h eos) : VW X (.sl .no 3 (eos.map encO)) (.sl .no 3 ((eos.map Eo.e).map encE)) := by
  rw [List.map_map]
  refine VW.sl (VWL.map fun x hx => ?_) ?_ ?_
  · exact VW.ag (xs := cO x) (ys := [S x.e.path, B x.e.dir, .sl .no 1 (x.e.data.map U)]) ⟨VW.refl _ _, VW.refl _ _, (he x hx).1.vw, trivial⟩ rfl
  · rw [List.all_eq_true]; intro y hy; obtain ⟨x, _, rfl⟩ := List.mem_map.mp hy; rfl
  · intro y hy; obtain ⟨x, _, rfl⟩ := List.mem_map.mp hy; rfl
theorem list_len {d : Dk} {n m : Nat} (hw : d.WF n m) : d.list.length ≤ n := by
  rw [list_eq]; split
  · exact Nat.zero_le _
  · rw [List.length_map]; exact hw.now_len
attribute [local irreducible] csem rsem dsem seqK blockK normK finK DK RK JK BR G3 resK Spec Tok Fr CV GA YB w1 w2 w3 w4 w5 w6 g1 g2

theorem dwrong_spec (L : Linked code) (C : Cl L) (l : List Ak) (a : Ak) (ha : okA l) (hn : a.n ≤ 9223372036854775807) : PureF L 375 [.sl .no 6 (l.map akV), akV a] (B true) := by
  intro H K hk
  refine go_spec L code375 rfl ?_
  repeat (refine gk smU ?_)
  (apply r_call; (focus rfl))
  refine few_spec L l 50 (by omega) _ _ ?_
  cases c1 : fewD l 50
  case false =>
    repeat (refine gk smU ?_)
    (apply r_call; (focus rfl))
    refine dawake_spec L C H _ fun X1 f1 => ?_
    repeat (refine gk smU ?_)
    exact resK_some (hk X1 f1)
  repeat (refine gk smU ?_)
  (apply r_call; (focus rfl))
  refine Spec_weak (hs' := [.sl .no 6 ([a].map akV), I 1]) (show WeakL [.sl .full 6 [akV a], I 1] _ from ⟨Weak.drop _ _ _, Weak.refl _, trivial⟩) ?_
  refine few_spec L [a] 1 (by omega) _ _ ?_
  cases c2 : fewD [a] 1
  case false =>
    repeat (refine gk smU ?_)
    (apply r_call; (focus rfl))
    refine dawake_spec L C H _ fun X1 f1 => ?_
    repeat (refine gk smU ?_)
    exact resK_some (hk X1 f1)
  have htm : (a.kind.toNat : Int).tmod 12 = ((a.kind.toNat % 12 : Nat) : Int) := by rw [Int.tmod_eq_emod_of_nonneg (by omega)]; omega
  repeat (refine gk smU ?_)
  rw [htm]
  cases c3 : decide (((a.kind.toNat % 12 : Nat) : Int) > 7)
  case true =>
    repeat (refine gk smU ?_)
    (apply r_call; (focus rfl))
    refine dawake_spec L C H _ fun X1 f1 => ?_
    repeat (refine gk smU ?_)
    exact resK_some (hk X1 f1)
  have h7 : a.kind.toNat % 12 ≤ 7 := by
    have : ¬ (((a.kind.toNat % 12 : Nat) : Int) > 7) := by simpa using c3
    omega
  obtain ⟨q1, q2, q3⟩ := few_of c1
  obtain ⟨p1, p2, p3⟩ := few_of c2
  have pa := p2 a (by simp)
  have hwf := runs_wf (most := 50) c1 ha 1000
  repeat (refine gk smU ?_)
  (apply r_call; (focus rfl))
  refine dnew_spec L 1000 H _ fun b h0 X0 hb0 hD0 f0 => ?_
  have s0 : DS H X0 b h0 (newD 1000) := ⟨hD0, f0, hb0⟩
  repeat (refine gk smU ?_)
  (apply r_call; (focus rfl))
  refine rnew_spec L 1000 X0 _ fun X1 f1 => ?_
  have s1 := s0.fr0 f1
  repeat (refine gk smU ?_)
  refine c_loop (Spec_SMono L) (fun (q : Nat) => [(0, .h (.sl .no 6 (l.map akV))), (3, .lp 0 0), (5, .h (ptr b)), (6, .lp 1 0), (7, .h (I q))]) (fun q => [(0, [U a.kind, S a.p, S a.q, .sl .no 1 (a.b.map U), I a.n, B a.done]), (1, [I (runD (newD 1000) (l.take q)).room, .sl .no 3 ((runD (newD 1000) (l.take q)).sure.map rnV), .sl .no 2 ((runD (newD 1000) (l.take q)).loose.map rcV), .sl .no 2 ((runD (newD 1000) (l.take q)).f.map rfV), B (runD (newD 1000) (l.take q)).down, I (runD (newD 1000) (l.take q)).ops, I (runD (newD 1000) (l.take q)).fails, B (runD (newD 1000) (l.take q)).done, I (runD (newD 1000) (l.take q)).wrong])])
    (fun q X => q ≤ l.length ∧ ∃ h, DS H X b h (runD (newD 1000) (l.take q))) (fun q => l.length - q) 0 ?_ ⟨by simp, h0, s1⟩ ?_
  · (refine leM ?_ ?_ ?_ <;> (repeat refine leS trivial ?_) <;> exact leE)
  rintro q X ⟨hq1, h, s⟩
  have hwq := hwf q
  repeat (refine gk smU ?_)
  (refine ct smU ?_ ?_ <;> intro hc)
  · have hq' : q < l.length := by simpa using hc
    have hsu := runD_succ hq' (newD 1000)
    have hmem := q2 _ (List.getElem_mem hq')
    generalize runD (newD 1000) (l.take q) = d at *
    repeat (refine gk smU ?_)
    (apply r_call; (focus rfl))
    refine do_spec L C b h d l[q] 50 4000 hwq (by omega) (by omega) (by omega) (by omega) (by omega) (by omega) X s.kd _ fun Y h' hY oY => ?_
    have s2 := s.step hY oY
    rw [← hsu] at s2 ⊢
    repeat (refine gk smU ?_)
    refine k_n (q + 1) (by omega) ⟨by omega, h', s2⟩ ?_
    (refine leM ?_ ?_ ?_ <;> (repeat refine leS trivial ?_) <;> exact leE)
  have hq' : q = l.length := by have : ¬ q < l.length := by simpa using hc
                                omega
  subst hq'
  rw [List.take_length] at s hwq ⊢
  generalize runD (newD 1000) l = d at *
  have hw1 := crash_wf hwq 99 []
  have hw2 : (faulty d).WF 50 4000 := by have := fault_wf hw1 0 (by decide); rw [fault_eq] at this; exact this
  have hw3 := doD_wf hw2 a hn
  have hsv := doD_sv d a h7
  repeat (refine gk smU ?_)
  (apply r_call; (focus rfl))
  refine Spec_weak (hs' := [ptr b, I 99, .sl .no 1 (([] : List UInt8).map U)]) (show WeakL [ptr b, I 99, .v (.slice none 0 0)] _ from ⟨Weak.refl _, Weak.refl _, Weak.nil' 1, trivial⟩) ?_
  refine dcrash_spec L C b h d 99 [] 50 4000 hwq (by omega) (by omega) (by simp) X s.kd _ fun Y2 h2 hY2 oY2 => ?_
  have s2 := s.step hY2 oY2
  clear hY2 oY2
  generalize hd1 : d.crash 99 [] = d1 at *
  repeat (refine gk smU ?_)
  (apply r_call; (focus rfl))
  refine dlist_spec L C b h2 d1 50 4000 hw1 (by omega) (by omega) Y2 s2.kd _ fun eos Y3 hM hE _ f3 => ?_
  have s3 := s2.fr0 f3
  have e3 := EA.of hE s2.kd
  clear hE
  repeat (refine gk smU ?_)
  (apply r_call; (focus rfl))
  refine dops_spec L b h2 d1 Y3 s3.kd _ ?_
  repeat (refine gk smU ?_)
  (apply r_call; (focus rfl))
  refine dfault_spec L b h2 d1 0 Y3 s3.kd _ fun Y4 hY4 oY4 => ?_
  have s4 := s3.step hY4 oY4
  have e4 := e3.own oY4
  rw [← hd1, fault_eq] at s4
  clear hY4 oY4
  repeat (refine gk smU ?_)
  (apply r_call; (focus rfl))
  refine Spec_weak (hs' := [rkV d, I 99, .sl .no 1 (([] : List UInt8).map U)]) (show WeakL [rkV d, I 99, .v (.slice none 0 0)] _ from ⟨Weak.refl _, Weak.refl _, Weak.nil' 1, trivial⟩) ?_
  refine rcrash_spec L d 99 [] 50 4000 hwq (by omega) (by omega) (by simp) Y4 _ fun Y5 f5 => ?_
  have s5 := s4.fr0 f5
  have e5 := e4.fr0 f5
  rw [hd1]
  repeat (refine gk smU ?_)
  (apply r_call; (focus rfl))
  refine rfault_spec L d1 0 Y5 _ fun Y6 f6 => ?_
  have s6 := s5.fr0 f6
  have e6 := e5.fr0 f6
  rw [← hd1, fault_eq]
  generalize faulty d = d2 at *
  repeat (refine gk smU ?_)
  (apply r_call; (focus rfl))
  refine do_spec L C b h2 d2 a 50 4000 hw2 (by omega) (by omega) (by omega) (by omega) (by omega) (by omega) Y6 s6.kd _ fun Y7 h7' hY7 oY7 => ?_
  have s7 := s6.step hY7 oY7
  have e7 := e6.own oY7
  clear hY7 oY7
  generalize (doD d2 a).1 = d3 at *
  repeat (refine gk smU ?_)
  (apply r_call; (focus rfl))
  refine dlist_spec L C b h7' d3 51 8000 (hw3.mono (by omega) (by omega)) (by omega) (by omega) Y7 s7.kd _ fun eos2 Y8 hM2 hE2 _ f8 => ?_
  have s8 := s7.fr0 f8
  have e8 := e7.fr0 f8
  have k8 := EA.of hE2 s7.kd
  repeat (refine gk smU ?_)
  (apply r_call; (focus rfl))
  have hl1 := list_len hw1
  have hl3 := list_len hw3
  have hlen : (eos2.map Eo.e).length ≤ 1048576 := by rw [hM2]; omega
  refine Spec.borrow (args' := [.sl .no 3 ((eos2.map Eo.e).map encE), .sl .no 3 ((eos.map Eo.e).map encE)]) ⟨k8.vw, e8.vw, trivial⟩ (same_spec L .no .no (eos2.map Eo.e) (eos.map Eo.e) hlen noR _ rfl) ?_
  rw [hM, hM2, hsv.list, sameT_self]
  repeat (refine gk smU ?_)
  (apply r_call; (focus rfl))
  refine dops_spec L b h7' d3 Y8 s8.kd _ ?_
  repeat (refine gk smU ?_)
  rw [decide_eq_true (show ((d.crash 99 []).ops : Int) ≤ (d3.ops : Int) by rw [hd1]; have := hsv.op; omega)]
  repeat (refine gk smU ?_)
  (apply r_call; (focus rfl))
  refine dawake_spec L C _ _ fun Z z => ?_
  repeat (refine gk smU ?_)
  exact resK_some (hk _ (s8.fr.trans z))
end Sm

set_option linter.unusedVariables false
set_option linter.unusedSimpArgs false
set_option maxHeartbeats 2000000
namespace Sm
open Go
/-- All that is there fits. -/
def Dk.Fits (d : Dk) : Prop := (d.used : Int) ≤ d.room
theorem fits_of {d e : Dk} (h : d.Fits) (h1 : usedL e.f e.now ≤ usedL d.f d.now) (h2 : e.room = d.room) : e.Fits := by
  unfold Dk.Fits at h ⊢
  rw [used_L] at h ⊢
  rw [h2]; omega
theorem step_fits {d next : Dk} (h : d.Fits) (h2 : next.Fits) : (d.step next).1.Fits := by
  rcases step_sure d next with h3 | h3
  · exact fits_of h (by rw [h3.2.2.1]; show usedL d.f (appAll _ _) ≤ _; rw [h3.1, h3.2.1]; exact Nat.le_refl _) h3.2.2.2
  · exact fits_of h2 (by rw [h3.2.2.1]; show usedL next.f (appAll _ _) ≤ _; rw [h3.1, h3.2.1]; exact Nat.le_refl _) h3.2.2.2
theorem chg_now (d : Dk) (c : Chg) : (d.chg c).now = appC d.now c := appAll_snoc _ _ _
theorem put_fits {d : Dk} {n m : Nat} (hw : d.WF n m) (h : d.Fits) (p : List UInt8) (dir : Bool) : (d.put p dir).1.Fits := by
  unfold Dk.put
  split
  · exact h
  split
  · exact h
  split
  · exact h
  refine step_fits h ?_
  cases dir
  · refine fits_of h ?_ rfl
    rw [chg_now, usedL_mk]
    show szN (d.f ++ [⟨[], 0⟩]) _ + usedL (d.f ++ [⟨[], 0⟩]) d.now ≤ _
    have e1 : szN (d.f ++ [⟨[], 0⟩]) ⟨p, false, d.f.length⟩ = 0 := by simp [szN]
    have e2 : usedL (d.f ++ [⟨[], 0⟩]) d.now = usedL d.f d.now := usedL_eq fun x hx => szN_app _ (hw.now_ok x hx).2.1
    simp only [Bool.false_eq_true, if_false]
    rw [e1, e2]; omega
  · refine fits_of h ?_ rfl
    rw [chg_now, usedL_mk]
    simp only [if_true]
    have e1 : szN d.f ⟨p, true, 0⟩ = 0 := by simp [szN]
    show szN d.f _ + usedL d.f d.now ≤ _
    rw [e1]; omega
theorem with_fits {d : Dk} {n m : Nat} (hw : d.WF n m) (ht : d.Tr) (h : d.Fits) (p : List UInt8) (may : Fl → Int) (g : Fl → Fl) (hg : ∀ x, may x = 0 → ((g x).b.length : Int) ≤ x.b.length + (d.room - d.used)) : (d.with' p may g).1.Fits := by
  unfold Dk.with'
  split
  · exact h
  split
  · exact h
  rename_i hf
  split
  · exact h
  rename_i hm
  refine step_fits h ?_
  have hlt := fid_lt hw (p := p) (by simpa using hf)
  rw [getD_at hlt] at hm ⊢
  have hg1 := hg d.f[idD d.now p] (by simpa using hm)
  unfold Dk.Fits at h
  have h1 := usedL_one hlt (g d.f[idD d.now p]) ((d.room - d.used).toNat) (by omega) hw.now_sn.nodup ht.now.one
  show ((usedL (d.f.set _ _) d.now : Nat) : Int) ≤ d.room
  rw [used_L] at h h1
  omega
theorem append_fits {d : Dk} {n m : Nat} (hw : d.WF n m) (ht : d.Tr) (h : d.Fits) (p b : List UInt8) : (d.append p b).1.Fits := by
  refine with_fits hw ht h p _ _ fun x hx => ?_
  by_cases hc : d.room - (d.used : Int) < b.length
  · rw [if_pos hc] at hx; cases hx
  · simp only [List.length_append]; omega
theorem cut_fits {d : Dk} {n m : Nat} (hw : d.WF n m) (ht : d.Tr) (h : d.Fits) (p : List UInt8) (k : Int) : (d.cut p k).1.Fits := by
  refine with_fits hw ht h p _ _ fun x hx => ?_
  unfold Dk.Fits at h
  simp only [List.length_take]; omega
theorem sync_fits {d : Dk} {n m : Nat} (hw : d.WF n m) (ht : d.Tr) (h : d.Fits) (p : List UInt8) : (d.sync p).1.Fits := by
  refine with_fits hw ht h p _ _ fun x hx => ?_
  unfold Dk.Fits at h
  simp only; omega
theorem remove_fits {d : Dk} (h : d.Fits) (p : List UInt8) : (d.remove p).1.Fits := by
  unfold Dk.remove
  split
  · exact h
  split
  · exact h
  split
  · exact h
  exact step_fits h (fits_of h (by rw [chg_now]; exact usedL_rm _ _ _) rfl)
theorem rename_fits {d : Dk} (h : d.Fits) (a b : List UInt8) : (d.rename a b).1.Fits := by
  unfold Dk.rename
  split
  · exact h
  split
  · exact h
  split
  · exact h
  rename_i hf
  split
  · exact h
  split
  · exact h
  split
  · exact h
  rename_i x hx
  obtain ⟨x', e1, e2, e3, e4⟩ := fileD_zero (by simpa using hf : fileD d.now a = 0)
  rw [hx] at e1; cases e1
  exact step_fits h (fits_of h (by rw [chg_now]; exact usedL_mv _ e2 e4 _ _) rfl)
theorem syncDirs_fits {d : Dk} (h : d.Fits) : d.syncDirs.1.Fits := by
  unfold Dk.syncDirs
  split
  · exact h
  exact step_fits h (fits_of h (Nat.le_refl _) rfl)
theorem fail_fits {d : Dk} (h : d.Fits) (a : Int) (b : Bool) : (d.fail a b).1.Fits := by
  unfold Dk.fail
  split
  · exact h
  split
  · exact h
  exact fits_of h (Nat.le_refl _) rfl
theorem fault_fits {d : Dk} (h : d.Fits) (a : Int) : (d.fault a).1.Fits := by
  unfold Dk.fault
  split
  · exact h
  split
  · exact h
  exact fits_of h (Nat.le_refl _) rfl
theorem doJ_fits {d : Dk} {n m : Nat} (hw : d.WF n m) (ht : d.Tr) (h : d.Fits) (a : Ak) : ∀ j, j < 10 → (doJ d a j).1.Fits
  | 0, _ => put_fits hw h _ _
  | 1, _ => append_fits hw ht h _ _
  | 2, _ => cut_fits hw ht h _ _
  | 3, _ => sync_fits hw ht h _
  | 4, _ => put_fits hw h _ _
  | 5, _ => remove_fits h _
  | 6, _ => rename_fits h _ _
  | 7, _ => syncDirs_fits h
  | 8, _ => fail_fits h _ _
  | 9, _ => fault_fits h _
  | _ + 10, h => by omega
theorem doJ_tr {d : Dk} {n m : Nat} (hw : d.WF n m) (ht : d.Tr) (a : Ak) : ∀ j, (doJ d a j).1.Tr
  | 0 => put_tr hw ht _ _
  | 1 => with_tr ht _ _ _
  | 2 => with_tr ht _ _ _
  | 3 => with_tr ht _ _ _
  | 4 => put_tr hw ht _ _
  | 5 => remove_tr ht _
  | 6 => rename_tr hw ht _ _
  | 7 => syncDirs_tr ht
  | 8 => fail_tr ht _ _
  | 9 => fault_tr ht _
  | _ + 10 => crash_tr ht _ _
theorem run_tr : ∀ {l : List Ak} {d : Dk} {n m : Nat}, d.WF n m → okA l → d.Tr → (runD d l).Tr
  | [], d, n, m, h, _, ht => ht
  | a :: l, d, n, m, h, ha, ht => run_tr (l := l) (doD_wf h a (ha a (by simp))) (fun b hb => ha b (by simp [hb])) (doJ_tr h ht a _)
theorem run_fits : ∀ {l : List Ak} {d : Dk} {n m : Nat}, d.WF n m → okA l → d.Tr → d.Fits → crashedD l = false → (runD d l).Fits
  | [], d, n, m, h, _, ht, hf, _ => hf
  | a :: l, d, n, m, h, ha, ht, hf, hc => by
    unfold crashedD at hc
    rw [List.any_cons, Bool.or_eq_false_iff] at hc
    have h10 : a.kind.toNat % 12 < 10 := by have := of_decide_eq_false hc.1; omega
    exact run_fits (l := l) (doD_wf h a (ha a (by simp))) (fun b hb => ha b (by simp [hb])) (doJ_tr h ht a _) (doJ_fits h ht hf a _ h10) hc.2
theorem step_room (d next : Dk) (h : next.room = d.room) : (d.step next).1.room = d.room := by
  rcases step_sure d next with h3 | h3
  · exact h3.2.2.2
  · rw [h3.2.2.2, h]
theorem with_room (d : Dk) (p : List UInt8) (may : Fl → Int) (g : Fl → Fl) : (d.with' p may g).1.room = d.room := by
  unfold Dk.with'
  split
  · rfl
  split
  · rfl
  split
  · rfl
  exact step_room _ _ rfl
theorem put_room (d : Dk) (p : List UInt8) (dir : Bool) : (d.put p dir).1.room = d.room := by
  unfold Dk.put
  split
  · rfl
  split
  · rfl
  split
  · rfl
  exact step_room _ _ rfl
theorem doJ_room (d : Dk) (a : Ak) : ∀ j, (doJ d a j).1.room = d.room
  | 0 => put_room _ _ _
  | 1 => with_room _ _ _ _
  | 2 => with_room _ _ _ _
  | 3 => with_room _ _ _ _
  | 4 => put_room _ _ _
  | 5 => by
    show (d.remove a.p).1.room = _
    unfold Dk.remove
    split
    · rfl
    split
    · rfl
    split
    · rfl
    exact step_room _ _ rfl
  | 6 => by
    show (d.rename a.p a.q).1.room = _
    unfold Dk.rename
    repeat (first | rfl | exact step_room _ _ rfl | split)
  | 7 => by
    show d.syncDirs.1.room = _
    unfold Dk.syncDirs
    split
    · rfl
    exact step_room _ _ rfl
  | 8 => by
    show (d.fail a.n a.done).1.room = _
    unfold Dk.fail
    repeat (first | rfl | split)
  | 9 => by
    show (d.fault a.n).1.room = _
    unfold Dk.fault
    repeat (first | rfl | split)
  | _ + 10 => rfl
theorem run_room : ∀ (l : List Ak) (d : Dk), (runD d l).room = d.room
  | [], d => rfl
  | a :: l, d => (run_room l _).trans (doJ_room d a _)
theorem newD_fits (r : Int) : (newD r).Fits := by
  show ((0 : Nat) : Int) ≤ max 0 (min r 16777216); omega
theorem getR_list (d : Dk) (p : List UInt8) : getR (d.now.map (entN d.f)) p = match getN d.now p with
    | some x => (entN d.f x, true)
    | none => (zE, false) := by
  unfold getR getN
  rw [List.find?_map]
  have e : ((fun e : Ent => e.path == p) ∘ entN d.f) = fun n : Nm => n.path == p := rfl
  rw [e]
  cases d.now.find? (fun n => n.path == p) <;> rfl
theorem szE_list (d : Dk) : szE (d.now.map (entN d.f)) = d.used := by
  unfold szE
  rw [List.map_map, used_L, usedL]
  congr 1
  refine List.map_congr_left fun x _ => ?_
  simp only [Function.comp, entN, szN]
  split <;> rfl
end Sm
