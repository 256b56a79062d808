/-
  A layer of one's own: texts D44,D48.
-/
import Derived.Test.YtmdfajhlofhmcaaGreatDoorSmDN
import Derived.Test.YtmdfajhlofhmcaaGreatDoorSmDO
set_option linter.unusedVariables false
set_option linter.unusedSimpArgs false
set_option maxRecDepth 10000
set_option maxHeartbeats 2000000
namespace Sm
open Go
-- BASE smU
theorem FW.tu {b : Nat} {cs xs ys : List HV} (h : FWL b cs xs ys) : FW b cs (.tu xs) (.tu ys) := fun ν K w u f hr => by
  simp only [Sm.rep] at hr ⊢
  obtain ⟨us, e, h3⟩ := hr
  exact ⟨us, e, h.rep f h3⟩
theorem tot_setle {f : List Fl} (i : Nat) {z : Fl} (h : z.b.length ≤ (f.getD i default).b.length) : tot (f.set i z) ≤ tot f := by
  by_cases hi : i < f.length
  · have := tot_set hi z
    have e : f.getD i default = f[i] := by simp [hi]
    rw [e] at h; omega
  · rw [List.set_eq_of_length_le (by omega)]; exact Nat.le_refl _
theorem crashF_tot : ∀ (l : List Nm) (f : List Fl) (keep : List UInt8), tot (crashF l f keep) ≤ tot f
  | [], f, keep => by simp [crashF]
  | n :: l, f, keep => by
    rw [crashF]
    split
    · exact crashF_tot l f keep
    · simp only
      split
      · exact Nat.le_trans (crashF_tot l _ _) (tot_setle _ (by simp only [List.length_take]; omega))
      · exact Nat.le_trans (crashF_tot l _ _) (tot_setle _ (by simp only [List.length_take]; omega))
theorem step_tot {d next : Dk} {t : Nat} (h : tot d.f ≤ t) (h2 : tot next.f ≤ t) : tot (d.step next).1.f ≤ t := by
  rcases step_sure d next with h3 | h3
  · rw [h3.2.2.1]; exact h
  · rw [h3.2.2.1]; exact h2
theorem with_tot (d : Dk) (p : List UInt8) (may : Fl → Int) (g : Fl → Fl) (k : Nat) (hg : ∀ x, (g x).b.length ≤ x.b.length + k) : tot (d.with' p may g).1.f ≤ tot d.f + k := by
  unfold Dk.with'
  split
  · exact Nat.le_add_right _ _
  split
  · exact Nat.le_add_right _ _
  split
  · exact Nat.le_add_right _ _
  refine step_tot (Nat.le_add_right _ _) ?_
  simp only
  by_cases hi : idD d.now p < d.f.length
  · have := tot_set hi (g (d.f.getD (idD d.now p) default))
    have h2 := hg (d.f.getD (idD d.now p) default)
    have e : d.f.getD (idD d.now p) default = d.f[idD d.now p] := by simp [hi]
    rw [e] at h2 this ⊢; omega
  · rw [List.set_eq_of_length_le (by omega)]; exact Nat.le_add_right _ _
theorem put_tot (d : Dk) (p : List UInt8) (dir : Bool) : tot (d.put p dir).1.f ≤ tot d.f := by
  unfold Dk.put
  split
  · exact Nat.le_refl _
  split
  · exact Nat.le_refl _
  split
  · exact Nat.le_refl _
  refine step_tot (Nat.le_refl _) ?_
  show tot (if dir then d.f else d.f ++ [⟨[], 0⟩]) ≤ _
  split
  · exact Nat.le_refl _
  · rw [tot_app]; exact Nat.le_refl _
theorem doJ_tot (d : Dk) (a : Ak) : ∀ j, tot (doJ d a j).1.f ≤ tot d.f + a.b.length
  | 0 => Nat.le_trans (put_tot _ _ _) (Nat.le_add_right _ _)
  | 1 => with_tot _ _ _ _ _ fun x => by simp
  | 2 => with_tot _ _ _ _ _ fun x => by simp only [List.length_take]; omega
  | 3 => with_tot _ _ _ _ _ fun x => by simp
  | 4 => Nat.le_trans (put_tot _ _ _) (Nat.le_add_right _ _)
  | 5 => by
    show tot (d.remove a.p).1.f ≤ _
    unfold Dk.remove
    split
    · exact Nat.le_add_right _ _
    split
    · exact Nat.le_add_right _ _
    split
    · exact Nat.le_add_right _ _
    exact step_tot (Nat.le_add_right _ _) (Nat.le_add_right _ _)
  | 6 => by
    show tot (d.rename a.p a.q).1.f ≤ _
    unfold Dk.rename
    repeat (first | exact Nat.le_add_right _ _ | exact step_tot (Nat.le_add_right _ _) (Nat.le_add_right _ _) | split)
  | 7 => by
    show tot d.syncDirs.1.f ≤ _
    unfold Dk.syncDirs
    split
    · exact Nat.le_add_right _ _
    exact step_tot (Nat.le_add_right _ _) (Nat.le_add_right _ _)
  | 8 => by
    show tot (d.fail a.n a.done).1.f ≤ _
    unfold Dk.fail
    repeat (first | exact Nat.le_add_right _ _ | split)
  | 9 => by
    show tot (d.fault a.n).1.f ≤ _
    unfold Dk.fault
    repeat (first | exact Nat.le_add_right _ _ | split)
  | _ + 10 => Nat.le_trans (crashF_tot _ _ _) (Nat.le_add_right _ _)
theorem run_tot : ∀ (l : List Ak) (d : Dk), tot (runD d l).f ≤ tot d.f + sizB l
  | [], d => by simp [runD, sizB]
  | a :: l, d => by
    have h1 := run_tot l (doD d a).1
    have h2 := doJ_tot d a (a.kind.toNat % 12)
    have e : runD d (a :: l) = runD (doD d a).1 l := rfl
    have e2 : tot (doD d a).1.f ≤ tot d.f + a.b.length := h2
    rw [e]
    simp only [sizB, List.map_cons, List.sum_cons] at h1 ⊢; omega
theorem Zs.mono {d : Dk} {n m t i n' m' t' : Nat} {x : Fl} (h : Zs d n m t i x) (h1 : n ≤ n') (h2 : m ≤ m') (h3 : t ≤ t') : Zs d n' m' t' i x := ⟨h.wf.mono h1 h2, h.tr, h.cl, h.rm, Nat.le_trans h.tt h3, h.nm, h.fx⟩
theorem with_loose (d : Dk) (p : List UInt8) (may : Fl → Int) (g : Fl → Fl) : (d.with' p may g).1.loose = d.loose := by
  unfold Dk.with'
  split
  · rfl
  split
  · rfl
  split
  · rfl
  rcases step_sure d _ with h3 | h3
  · exact h3.2.1
  · exact h3.2.1
/-- zz is a file, or is not there. -/
structure Zd (d : Dk) : Prop where
  wf : d.WF 52 4000
  tr : d.Tr
  cl : Quie d
  rm : d.room = 100000
  tt : tot d.f ≤ 4000
  zz : (∃ i x, Zs d 52 4000 4000 i x) ∨ getN d.now zz = none
attribute [local irreducible] csem rsem dsem seqK blockK normK finK DK RK JK BR G3 resK Spec Tok Fr CV GA YB w1 w2 w3 w4 w5 w6 g1 g2

theorem dreadF_spec (L : Linked code) (b : Nat) (h : Hd) (d : Dk) (p : List UInt8) (n m : Nat) (hw : d.WF n m) (hm : m ≤ 140737488355328) (H : Heap) (hD : KD H b h d) (K) (hk : ∀ X, Fr [] H X → K (.tu [.sl .no 1 ((d.read p).1.map U), I (d.read p).2]) X) : Spec L.P L.ν 300 [ptr b, S p] H K := by
  refine Spec.give ?_
  refine dread_spec L b h d p n m hw hm H hD _ fun v X hC f hn => ?_
  rcases hC with ⟨rfl, hl⟩ | ⟨rfl, hl⟩ | ⟨a, c, zs, rfl, h1, h2, h3, h4⟩
  · rw [hl] at hk
    exact .inr (.inl ⟨_, Weak.tu (show WeakL [.v (.slice none 0 0), I (d.read p).2] [.sl .no 1 (([] : List UInt8).map U), I (d.read p).2] from ⟨Weak.nil' 1, Weak.refl _, trivial⟩), hk X f⟩)
  · rw [hl] at hk
    exact .inr (.inl ⟨_, Weak.tu (show WeakL [.sl .full 1 [], I (d.read p).2] [.sl .no 1 (([] : List UInt8).map U), I (d.read p).2] from ⟨Weak.drop _ _ _, Weak.refl _, trivial⟩), hk X f⟩)
  · refine .inr (.inr ⟨a, _, .tu [.sl .no 1 ((d.read p).1.map U), I (d.read p).2], h1, FW.tu ⟨FW.slice (sz := 1) (es := (d.read p).1.map U) ?_ ?_ (by simp) h2 h3 ?_ ?_, FW.refl _ _ _, trivial⟩, hk _ (Fr.give f (hn a (by simp [fvb])))⟩)
    · rw [flat_U, List.take_append_of_le_length (by simp), List.take_of_length_le (by simp)]
    · simp
    · rw [List.all_eq_true]; intro y hy; obtain ⟨z, _, rfl⟩ := List.mem_map.mp hy; rfl
    · intro y hy; obtain ⟨z, _, rfl⟩ := List.mem_map.mp hy; rfl
theorem dsafelaw_spec (L : Linked code) (C : Cl L) (l : List Ak) (b : List UInt8) (how : Ak) (ha : okA l) (hhb : how.b.length ≤ 9223372036854775807) : PureF L 371 [.sl .no 6 (l.map akV), .sl .no 1 (b.map U), akV how] (B true) := by
  intro H K hk
  refine go_spec L code371 rfl ?_
  repeat (refine gk smU ?_)
  (apply r_call; (focus rfl))
  refine few_spec L l 50 (by omega) _ _ ?_
  cases c1 : fewD l 50
  case false =>
    repeat (refine gk smU ?_)
    (apply r_call; (focus rfl))
    refine dawake_spec L C H _ fun X1 f1 => ?_
    repeat (refine gk smU ?_)
    exact resK_some (hk X1 f1)
  repeat (refine gk smU ?_)
  cases c2 : decide (500 < (b.length : Int))
  case true =>
    repeat (refine gk smU ?_)
    (apply r_call; (focus rfl))
    refine dawake_spec L C H _ fun X1 f1 => ?_
    repeat (refine gk smU ?_)
    exact resK_some (hk X1 f1)
  have hb5 : b.length ≤ 500 := by
    have : ¬ (500 : Int) < (b.length : Int) := by simpa using c2
    omega
  obtain ⟨q1, q2, q3⟩ := few_of c1
  have hwf := runs_wf (most := 50) c1 ha 100000
  repeat (refine gk smU ?_)
  (apply r_call; (focus rfl))
  refine dnew_spec L 100000 H _ fun p h0 X0 hb0 hD0 f0 => ?_
  have s0 : DS H X0 p h0 (newD 100000) := ⟨hD0, f0, hb0⟩
  repeat (refine gk smU ?_)
  (apply r_call; (focus rfl))
  refine rnew_spec L 100000 X0 _ fun X1 f1 => ?_
  have s1 := s0.fr0 f1
  repeat (refine gk smU ?_)
  refine c_loop (Spec_SMono L) (fun (q : Nat) => [(0, .h (.sl .no 6 (l.map akV))), (1, .h (.sl .no 1 (b.map U))), (5, .lp 0 0), (7, .h (ptr p)), (8, .lp 1 0), (9, .h (I q))]) (fun q => [(0, [U how.kind, S how.p, S how.q, .sl .no 1 (how.b.map U), I how.n, B how.done]), (1, [I (runD (newD 100000) (l.take q)).room, .sl .no 3 ((runD (newD 100000) (l.take q)).sure.map rnV), .sl .no 2 ((runD (newD 100000) (l.take q)).loose.map rcV), .sl .no 2 ((runD (newD 100000) (l.take q)).f.map rfV), B (runD (newD 100000) (l.take q)).down, I (runD (newD 100000) (l.take q)).ops, I (runD (newD 100000) (l.take q)).fails, B (runD (newD 100000) (l.take q)).done, I (runD (newD 100000) (l.take q)).wrong])])
    (fun q X => q ≤ l.length ∧ ∃ h, DS H X p h (runD (newD 100000) (l.take q))) (fun q => l.length - q) 0 ?_ ⟨by simp, h0, s1⟩ ?_
  · (refine leM ?_ ?_ ?_ <;> (repeat refine leS trivial ?_) <;> exact leE)
  rintro q X ⟨hq1, h, s⟩
  have hwq := hwf q
  repeat (refine gk smU ?_)
  (refine ct smU ?_ ?_ <;> intro hc)
  · have hq' : q < l.length := by simpa using hc
    have hsu := runD_succ hq' (newD 100000)
    have hmem := q2 _ (List.getElem_mem hq')
    generalize runD (newD 100000) (l.take q) = d at *
    repeat (refine gk smU ?_)
    (apply r_call; (focus rfl))
    refine do_spec L C p h d l[q] 50 4000 hwq (by omega) (by omega) (by omega) (by omega) (by omega) (by omega) X s.kd _ fun Y h' hY oY => ?_
    have s2 := s.step hY oY
    rw [← hsu] at s2 ⊢
    repeat (refine gk smU ?_)
    refine k_n (q + 1) (by omega) ⟨by omega, h', s2⟩ ?_
    (refine leM ?_ ?_ ?_ <;> (repeat refine leS trivial ?_) <;> exact leE)
  have hq' : q = l.length := by have : ¬ q < l.length := by simpa using hc
                                omega
  subst hq'
  rw [List.take_length] at s hwq ⊢
  have htr := run_tr (newD_wf 100000) ha (newD_tr 100000)
  have htt := run_tot l (newD 100000)
  have h3t := q3 l.length
  rw [List.take_length] at h3t
  have htt2 : tot (runD (newD 100000) l).f ≤ 4000 := Nat.le_trans htt (by show 0 + _ ≤ _; omega)
  have hrm : (runD (newD 100000) l).room = 100000 := (run_room l _).trans rfl
  generalize runD (newD 100000) l = d at *
  have hw1 := crash_wf hwq 99 []
  have ht1 := crash_tr htr 99 []
  have hc1 := crash_calm d 99 []
  have hr1 : (d.crash 99 []).room = 100000 := hrm
  have htt1 : tot (d.crash 99 []).f ≤ 4000 := Nat.le_trans (crashF_tot _ _ _) htt2
  repeat (refine gk smU ?_)
  (apply r_call; (focus rfl))
  refine Spec_weak (hs' := [ptr p, I 99, .sl .no 1 (([] : List UInt8).map U)]) (show WeakL [ptr p, I 99, .v (.slice none 0 0)] _ from ⟨Weak.refl _, Weak.refl _, Weak.nil' 1, trivial⟩) ?_
  refine dcrash_spec L C p h d 99 [] 50 4000 hwq (by omega) (by omega) (by simp) X s.kd _ fun Y2 h2 hY2 oY2 => ?_
  have s2 := s.step hY2 oY2
  clear hY2 oY2 s
  generalize d.crash 99 [] = d1 at *
  repeat (refine gj smU ?_)
  refine c_join (Spec_SMono L) (fun (e : Dk) => [(1, .h (.sl .no 1 (b.map U))), (5, .lp 0 0), (7, .h (ptr p))]) (fun e => [(0, [U how.kind, S how.p, S how.q, .sl .no 1 (how.b.map U), I how.n, B how.done])]) (fun e X => Zd e ∧ ∃ h, DS H X p h e) ?_ ?_
  · repeat (refine gk smU ?_)
    (apply r_call; (focus rfl))
    refine dremove_spec L p h2 d1 zz 50 4000 hw1 (by omega) (by decide) Y2 s2.kd _ fun Y3 h3 hY3 oY3 => ?_
    have s3 := s2.step hY3 oY3
    clear hY3 oY3
    cases cr : (d1.remove zz).2 != 0
    case false =>
      obtain ⟨z1, z2, z3, z4⟩ := zremove0 hc1 (by simpa using cr)
      repeat (refine gk (And.intro smU cr) ?_)
      refine j_n (d1.remove zz).1 ⟨⟨(remove_wf hw1 zz).mono (by omega) (by omega), remove_tr ht1 zz, z1, z4.trans hr1, by rw [z3]; exact htt1, .inr z2⟩, h3, s3⟩ ?_
      (refine leM ?_ ?_ ?_ <;> (repeat refine leS trivial ?_) <;> exact leE)
    have hd2 := zremove hc1 (by simpa using cr)
    rw [hd2] at s3
    repeat (refine gk (And.intro smU cr) ?_)
    (apply r_call; (focus rfl))
    refine dcreate_spec L p h3 d1 zz 50 4000 hw1 (by omega) (by decide) Y3 s3.kd _ fun Y4 h4 hY4 oY4 => ?_
    have s4 := s3.step hY4 oY4
    clear hY4 oY4
    cases cp : (d1.put zz false).2 != 0
    case true =>
      repeat (refine gk (And.intro smU cp) ?_)
      (apply r_call; (focus rfl))
      refine dawake_spec L C Y4 _ fun Y5 f5 => ?_
      repeat (refine gk smU ?_)
      exact resK_some (hk Y5 (s4.fr.trans f5))
    obtain ⟨z0, i, x, hz⟩ := zput hw1 ht1 hc1 hr1 htt1 (.inl (by simpa using cp))
    repeat (refine gk (And.intro smU cp) ?_)
    refine j_n (d1.put zz false).1 ⟨⟨hz.wf.mono (by omega) (by omega), hz.tr, hz.cl, hz.rm, hz.tt, .inl ⟨i, x, hz.mono (by omega) (by omega) (by omega)⟩⟩, h4, s4⟩ ?_
    (refine leM ?_ ?_ ?_ <;> (repeat refine leS trivial ?_) <;> exact leE)
  clear s2 hw1 ht1 hc1 hr1 htt1 htt2 htr hrm
  rintro e X3 ⟨hz, h3, s3⟩
  repeat (refine gk smU ?_)
  (apply r_call; (focus rfl))
  refine dreadF_spec L p h3 e zz 52 4000 hz.wf (by omega) X3 s3.kd _ fun X4 f4 => ?_
  have s4 := s3.fr0 f4
  repeat (refine gj smU ?_)
  refine c_join (Spec_SMono L) (fun (e : Dk) => [(1, .h (.sl .no 1 (b.map U))), (5, .lp 0 0), (7, .h (ptr p))]) (fun e => [(0, [U how.kind, S how.p, S how.q, .sl .no 1 (how.b.map U), I how.n, B how.done])]) (fun e X => (∃ i x, Zs e 53 4000 4000 i x) ∧ ∃ h, DS H X p h e) ?_ ?_
  · rcases hz.zz with ⟨i, x, hzs⟩ | hno
    · rw [(zread hzs).1]
      repeat (refine gk smU ?_)
      refine j_n e ⟨⟨i, x, hzs.mono (by omega) (by omega) (by omega)⟩, h3, s4⟩ ?_
      (refine leM ?_ ?_ ?_ <;> (repeat refine leS trivial ?_) <;> exact leE)
    · rw [zread8 hz.cl hno]
      repeat (refine gk smU ?_)
      (apply r_call; (focus rfl))
      refine dcreate_spec L p h3 e zz 52 4000 hz.wf (by omega) (by decide) X4 s4.kd _ fun Y4 h4 hY4 oY4 => ?_
      have s5 := s4.step hY4 oY4
      obtain ⟨z0, i, x, hz2⟩ := zput hz.wf hz.tr hz.cl hz.rm hz.tt (.inr hno)
      rw [z0]
      repeat (refine gk smU ?_)
      refine j_n (e.put zz false).1 ⟨⟨i, x, hz2⟩, h4, s5⟩ ?_
      (refine leM ?_ ?_ ?_ <;> (repeat refine leS trivial ?_) <;> exact leE)
  clear s4 s3 hz f4
  rintro e Xa ⟨⟨i, x, hz⟩, ha', sa⟩
  repeat (refine gk smU ?_)
  (apply r_call; (focus rfl))
  refine dcut_spec L p ha' e zz 0 53 4000 hz.wf (by omega) (by decide) Xa sa.kd _ fun Y1 h1 hY oY => ?_
  have s1 := sa.step hY oY
  obtain ⟨r1, z1⟩ := zcut hz
  clear hY oY sa
  rw [r1]
  repeat (refine gk smU ?_)
  (apply r_call; (focus rfl))
  refine dappend_spec L p h1 (e.cut zz 0).1 zz (.sl .no 1 (b.map U)) b 54 4000 z1.wf (by omega) (by omega) (by omega) (by decide) Y1 s1.kd (.inl ⟨.no, rfl⟩) (by simp [fvb]) _ fun Y2 h2 hY oY => ?_
  have s2 := s1.step hY oY
  obtain ⟨r2, z2⟩ := zapp z1 b (by omega)
  clear hY oY s1
  rw [r2]
  generalize ((e.cut zz 0).1.append zz b).1 = e2 at *
  repeat (refine gk smU ?_)
  (apply r_call; (focus rfl))
  refine dsync_spec L p h2 e2 zz 55 (4000 + b.length) z2.wf (by omega) (by decide) Y2 s2.kd _ fun Y3 h3 hY oY => ?_
  have s3 := s2.step hY oY
  obtain ⟨r3, z3⟩ := zsync z2
  clear hY oY s2
  rw [r3]
  generalize (e2.sync zz).1 = e3 at *
  repeat (refine gk smU ?_)
  (apply r_call; (focus rfl))
  refine dsyncdirs_spec L p h3 e3 56 (4000 + b.length) z3.wf (by omega) Y3 s3.kd _ fun Y4 h4 hY oY => ?_
  have s4 := s3.step hY oY
  obtain ⟨r4, z4, l4⟩ := zdirs z3
  clear hY oY s3
  rw [r4]
  generalize e3.syncDirs.1 = e4 at *
  repeat (refine gk smU ?_)
  refine r_bsl (hs := [U 109, U 111, U 114, U 101]) rfl rfl (by simp; exact ⟨rfl, rfl, rfl, rfl⟩) fun c X1 hc1 hc2 hc3 => ?_
  repeat (refine gk smU ?_)
  refine r_mark (cs := [U 109, U 111, U 114, U 101]) rfl hc2 rfl (by simp) (by simp [maxLen]) ?_
  have fm : Fr [] Y4 (X1.upd c none) := Fr.give hc3 hc1
  have s4' := s4.fr0 fm
  generalize X1.upd c none = X2 at *
  repeat (refine gk smU ?_)
  (apply r_call; (focus rfl))
  refine dappend_spec L p h4 e4 zz (.sl .no 1 (([109, 111, 114, 101] : List UInt8).map U)) [109, 111, 114, 101] 57 (4000 + b.length) z4.wf (by omega) (by omega) (by simp; omega) (by decide) X2 s4'.kd (.inl ⟨.no, rfl⟩) (by simp [fvb]) _ fun Y5 h5 hY oY => ?_
  have s5 := s4'.step hY oY
  obtain ⟨r5, z5⟩ := zapp z4 [109, 111, 114, 101] (by simp; omega)
  have l5 : (e4.append zz [109, 111, 114, 101]).1.loose = [] := (with_loose _ _ _ _).trans l4
  clear hY oY s4
  rw [r5]
  generalize (e4.append zz [109, 111, 114, 101]).1 = e5 at *
  have zc := zcrash (b := b) (r := [109, 111, 114, 101]) z5 l5 how.n how.b
  have hw5 := z5.wf
  have hw6 := crash_wf hw5 how.n how.b
  repeat (refine gk smU ?_)
  (apply r_call; (focus rfl))
  refine dcrash_spec L C p h5 e5 how.n how.b _ _ hw5 (by omega) (by simp; omega) hhb Y5 s5.kd _ fun Y6 h6 hY oY => ?_
  have s6 := s5.step hY oY
  clear hY oY s5
  generalize e5.crash how.n how.b = e6 at *
  obtain ⟨c1', c2', c3', c4'⟩ := zc
  repeat (refine gk smU ?_)
  (apply r_call; (focus rfl))
  refine dreadF_spec L p h6 e6 zz _ _ hw6 (by simp; omega) Y6 s6.kd _ fun Y7 f7 => ?_
  have s7 := s6.fr0 f7
  rw [c1']
  repeat (refine gk smU ?_)
  rw [decide_eq_true (show (b.length : Int) ≤ ((e6.read zz).1.length : Int) by omega)]
  repeat (refine gk smU ?_)
  apply r_slcH (k := b.length); (focus rfl); (focus rfl); (focus rfl); (focus (simp; omega))
  rw [← List.map_take, c3']
  repeat (refine gk smU ?_)
  refine r_b2c rfl ?_
  repeat (refine gk smU ?_)
  refine r_b2c rfl ?_
  repeat (refine gk smU ?_)
  rw [beq_self_eq_true]
  repeat (refine gk smU ?_)
  (apply r_call; (focus rfl))
  refine dsafe_spec L p h6 e6 zz _ _ hw6 Y7 s7.kd _ ?_
  rw [c4']
  repeat (refine gk smU ?_)
  (apply r_call; (focus rfl))
  refine dawake_spec L C Y7 _ fun Y8 f8 => ?_
  repeat (refine gk smU ?_)
  exact resK_some (hk Y8 (s7.fr.trans f8))
end Sm

set_option linter.unusedVariables false
set_option linter.unusedSimpArgs false
namespace Sm
open Go
theorem rep_sl_len {ν : Nat → Option Nat} {K : Nat → Nat} {w : World} {tk : Tk} {sz : Nat} {es : List HV} {u : Value} (h : rep ν K w (.sl tk sz es) u) : es.length ≤ maxLen := by
  simp only [rep] at h
  obtain ⟨A, cap, vals, g1, g2, g3, g4⟩ := h
  exact Nat.le_trans g2 g3
/-- DiskSafe, however many bytes the last call has. -/
theorem dsafelaw_spec' (L : Linked code) (C : Cl L) (l : List Ak) (b : List UInt8) (how : Ak) (ha : okA l) : PureF L 371 [.sl .no 6 (l.map akV), .sl .no 1 (b.map U), akV how] (B true) := by
  intro H K hk n hn w Kk us hs hr
  have hr0 := hr
  obtain ⟨u1, us1, rfl, r1, u2, us2, rfl, r2, u3, us3, rfl, r3, r4⟩ := hr
  obtain ⟨vs, e, h1, v1, vs1, rfl, s1, v2, vs2, rfl, s2, v3, vs3, rfl, s3, v4, vs4, rfl, s4, _⟩ := r3
  have hl := rep_sl_len s4
  rw [List.length_map] at hl
  have e : maxLen = 9223372036854775807 := by decide
  exact dsafelaw_spec L C l b how ha (by omega) H K hk n hn w Kk _ hs hr0
end Sm
