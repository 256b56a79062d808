/-
  A layer of one's own: texts D39.
-/
import Derived.Test.YtmdfajhlofhmcaaGreatDoorSmDM
set_option linter.unusedVariables false
set_option linter.unusedSimpArgs false
set_option maxRecDepth 10000
set_option maxHeartbeats 2000000
namespace Sm
open Go
-- BASE smU
def GvK (Q : HV → Heap → Prop) : HV → Heap → Prop := fun r X => Q r X ∨ (∃ r', Weak r r' ∧ Q r' X) ∨ ∃ b cs r', X b = some (.obj cs) ∧ FW b cs r r' ∧ Q r' (X.upd b none)
def GvN (Q : HV → Heap → Prop) : Nat → HV → Heap → Prop
  | 0 => Q
  | n + 1 => GvK (GvN Q n)
theorem Spec.giveN {P : Program} {ν : Nat → Option Nat} {g : Nat} {args : List HV} {H : Heap} {Q : HV → Heap → Prop} : ∀ n, Spec P ν g args H (GvN Q n) → Spec P ν g args H Q
  | 0, h => h
  | n + 1, h => Spec.giveN n (Spec.give h)
theorem FWL.app' {b : Nat} {cs : List HV} : ∀ {x y z u : List HV}, FWL b cs x y → FWL b cs z u → FWL b cs (x ++ z) (y ++ u)
  | [], [], _, _, _, h => h
  | x :: a, y :: b, _, _, h, k => ⟨h.1, FWL.app' h.2 k⟩
  | [], _ :: _, _, _, h, _ => h.elim
  | _ :: _, [], _, _, h, _ => h.elim
theorem gv_list {H : Heap} {Q : HV → Heap → Prop} : ∀ (eos : List Eo) (pre : List HV) (X : Heap), (∀ y ∈ pre, y.el = true ∧ y.ncells = 3) → EB H X eos → ED eos → Fr [] H X →
    (∀ X', Fr [] H X' → Q (.sl .no 3 (pre ++ (eos.map Eo.e).map encE)) X') → GvN Q eos.length (.sl .no 3 (pre ++ eos.map encO)) X
  | [], pre, X, hp, he, hd, hf, hk => hk X hf
  | x :: eos, pre, X, hp, he, hd, hf, hk => by
    have hd2 := List.pairwise_cons.mp hd
    have hx := he x (by simp)
    have he2 : EB H X eos := fun y hy => he y (by simp [hy])
    have hp2 : ∀ y ∈ pre ++ [encE x.e], y.el = true ∧ y.ncells = 3 := fun y hy => by
      rcases List.mem_append.mp hy with hy | hy
      · exact hp y hy
      · rw [List.mem_singleton] at hy; subst hy; exact ⟨rfl, rfl⟩
    have hk2 : ∀ X', Fr [] H X' → Q (.sl .no 3 ((pre ++ [encE x.e]) ++ (eos.map Eo.e).map encE)) X' := fun X' h => by
      rw [List.append_assoc]; exact hk X' h
    have hrest : ∀ y ∈ eos.map encO, y.el = true ∧ y.ncells = 3 := fun y hy => by
      obtain ⟨z, hz, rfl⟩ := List.mem_map.mp hy
      refine ⟨?_, rfl⟩
      have := (he2 z hz).1.one
      show ([S z.e.path, B z.e.dir, z.v].all HV.one) = true
      simp only [List.all_cons, this.1]; rfl
    have hall : ∀ y ∈ pre ++ encE x.e :: eos.map encO, y.el = true ∧ y.ncells = 3 := fun y hy => by
      rcases List.mem_append.mp hy with hy | hy
      · exact hp y hy
      · rcases List.mem_cons.mp hy with rfl | hy
        · exact ⟨rfl, rfl⟩
        · exact hrest y hy
    have happ : pre ++ encE x.e :: eos.map encO = (pre ++ [encE x.e]) ++ eos.map encO := by simp
    show GvK (GvN Q eos.length) _ X
    have weakcase : Weak x.v (.sl .no 1 (x.e.data.map U)) → GvK (GvN Q eos.length) (.sl .no 3 (pre ++ encO x :: eos.map encO)) X := fun hw => by
      refine .inr (.inl ⟨.sl .no 3 (pre ++ encE x.e :: eos.map encO), ?_, ?_⟩)
      · refine Weak.els (WeakL.app (WeakL.refl _) (show WeakL (encO x :: eos.map encO) (encE x.e :: eos.map encO) from ⟨show Weak (.ag [S x.e.path, B x.e.dir, x.v]) (.ag [S x.e.path, B x.e.dir, .sl .no 1 (x.e.data.map U)]) from Weak.ag ⟨Weak.refl _, Weak.refl _, hw, trivial⟩ rfl, WeakL.refl _⟩)) ?_ fun y hy => (hall y hy).2
        rw [List.all_eq_true]; exact fun y hy => (hall y hy).1
      · rw [happ]; exact gv_list eos _ X hp2 he2 hd2.2 hf hk2
    rcases hx.1 with ⟨hv, hl⟩ | ⟨hv, hl⟩ | ⟨a, c, zs, hv, h1, h2, h3, h4⟩
    · rw [List.map_cons]; exact weakcase (by rw [hv, hl]; exact Weak.nil' 1)
    · rw [List.map_cons]; exact weakcase (by rw [hv, hl]; exact Weak.drop _ _ _)
    · have hna := hx.2 a (by rw [hv]; simp [fvb])
      refine .inr (.inr ⟨a, _, .sl .no 3 (pre ++ encE x.e :: eos.map encO), h1, ?_, ?_⟩)
      · refine FW.sl (FWL.app' (FWL.refl _ _ _) (show FWL a _ (encO x :: eos.map encO) (encE x.e :: eos.map encO) from ⟨FW.ag (xs := cO x) (ys := [S x.e.path, B x.e.dir, .sl .no 1 (x.e.data.map U)]) ⟨FW.refl _ _ _, FW.refl _ _ _, ?_, trivial⟩ rfl, FWL.refl _ _ _⟩)) ?_ fun y hy => (hall y hy).2
        · rw [hv]
          refine FW.slice (sz := 1) (es := x.e.data.map U) ?_ ?_ (by simp) h2 h3 ?_ ?_
          · rw [flat_U, List.take_append_of_le_length (by simp), List.take_of_length_le (by simp)]
          · simp
          · rw [List.all_eq_true]; intro y hy; obtain ⟨z, _, rfl⟩ := List.mem_map.mp hy; rfl
          · intro y hy; obtain ⟨z, _, rfl⟩ := List.mem_map.mp hy; rfl
        · rw [List.all_eq_true]; exact fun y hy => (hall y hy).1
      · rw [happ]
        refine gv_list eos _ _ hp2 (fun y hy => ⟨(he2 y hy).1.fr (bs := [a]) (Fr.set (by simp)) fun z hz hm => ?_, (he2 y hy).2⟩) hd2.2 (Fr.give hf hna) hk2
        rw [List.mem_singleton] at hm; subst hm
        exact hd2.1 y hy z (by rw [hv]; simp [fvb]) hz
attribute [local irreducible] csem rsem dsem seqK blockK normK finK DK RK JK BR G3 resK Spec Tok Fr CV GA YB w1 w2 w3 w4 w5 w6 g1 g2

theorem dlistF_spec (L : Linked code) (C : Cl L) (b : Nat) (h : Hd) (d : Dk) (n m : Nat) (hw : d.WF n m) (hn : n < 1048576) (hm : m ≤ 140737488355328) (H : Heap) (hD : KD H b h d) (K) (hk : ∀ X, Fr [] H X → K (.sl .no 3 (d.list.map encE)) X) : Spec L.P L.ν 312 [ptr b] H K := by
  refine Spec.giveN d.list.length ?_
  refine dlist_spec L C b h d n m hw hn hm H hD _ fun eos X hM hE hED hf => ?_
  have hl : d.list.length = eos.length := by rw [← hM, List.length_map]
  rw [hl]
  have := gv_list (Q := K) eos [] X (by simp) hE hED hf (by rw [hM]; exact hk)
  simpa using this
theorem dtrees_spec (L : Linked code) (C : Cl L) (r : Int) (hr : 0 ≤ r ∧ r ≤ 65535) (l : List Ak) (ha : okA l) : PureF L 374 [.v (.int .u16 r), .sl .no 6 (l.map akV)] (B true) := by
  intro H K hk
  refine go_spec L code374 rfl ?_
  repeat (refine gk smU ?_)
  (apply r_call; (focus rfl))
  refine few_spec L l 60 (by omega) _ _ ?_
  repeat (refine gk smU ?_)
  cases c1 : fewD l 60
  case false =>
    simp only [Bool.not_false]
    repeat (refine gk smU ?_)
    (apply r_call; (focus rfl))
    refine dawake_spec L C H _ fun X1 f1 => ?_
    repeat (refine gk smU ?_)
    exact resK_some (hk X1 f1)
  simp only [Bool.not_true]
  obtain ⟨q1, q2, q3⟩ := few_of c1
  have hwf := runs_wf (most := 60) c1 ha r
  have htr : ∀ i, (runD (newD r) (l.take i)).Tr := fun i => run_tr (newD_wf r) (ha.take i) (newD_tr r)
  have hfit : ∀ i, crashedD (l.take i) = false → (runD (newD r) (l.take i)).Fits := fun i hc => run_fits (newD_wf r) (ha.take i) (newD_tr r) (newD_fits r) hc
  have hroom : ∀ i, (runD (newD r) (l.take i)).room = r := fun i => by
    rw [run_room]; show max 0 (min r 16777216) = r; omega
  repeat (refine gk smU ?_)
  (apply r_call; (focus rfl))
  refine dnew_spec L r H _ fun b h0 X0 hb0 hD0 f0 => ?_
  have s0 : DS H X0 b h0 (newD r) := ⟨hD0, f0, hb0⟩
  repeat (refine gk smU ?_)
  (apply r_call; (focus rfl))
  refine rnew_spec L r X0 _ fun X1 f1 => ?_
  have s1 := s0.fr0 f1
  repeat (refine gk smU ?_)
  refine c_loop (Spec_SMono L) (fun (q : Nat) => [(0, .h (.v (.int .u16 r))), (1, .h (.sl .no 6 (l.map akV))), (5, .h (ptr b)), (6, .lp 0 0), (7, .h (I q))]) (fun q => [(0, [I (runD (newD r) (l.take q)).room, .sl .no 3 ((runD (newD r) (l.take q)).sure.map rnV), .sl .no 2 ((runD (newD r) (l.take q)).loose.map rcV), .sl .no 2 ((runD (newD r) (l.take q)).f.map rfV), B (runD (newD r) (l.take q)).down, I (runD (newD r) (l.take q)).ops, I (runD (newD r) (l.take q)).fails, B (runD (newD r) (l.take q)).done, I (runD (newD r) (l.take q)).wrong])])
    (fun q X => q ≤ l.length ∧ ∃ h, DS H X b h (runD (newD r) (l.take q))) (fun q => l.length - q) 0 ?_ ⟨by simp, h0, s1⟩ ?_
  · (refine leM ?_ ?_ ?_ <;> (repeat refine leS trivial ?_) <;> exact leE)
  rintro q X ⟨hq1, h, s⟩
  have hwq := hwf q
  have hwq1 := hwf (q + 1)
  repeat (refine gk smU ?_)
  (refine ct smU ?_ ?_ <;> intro hc)
  · have hq' : q < l.length := by simpa using hc
    have hsu := runD_succ hq' (newD r)
    have hmem := q2 _ (List.getElem_mem hq')
    generalize runD (newD r) (l.take q) = d0 at *
    repeat (refine gk smU ?_)
    (apply r_call; (focus rfl))
    refine do_spec L C b h d0 l[q] 60 4000 hwq (by omega) (by omega) (by omega) (by omega) (by omega) (by omega) X s.kd _ fun Y h' hY oY => ?_
    have s2 := s.step hY oY
    clear hY oY
    rw [← hsu] at s2 ⊢
    have ht := htr (q + 1)
    have hfi := hfit (q + 1)
    have hrm := hroom (q + 1)
    obtain ⟨d, hd2⟩ : ∃ d2, d2 = runD (newD r) (l.take (q + 1)) := ⟨_, rfl⟩
    rw [← hd2] at s2 hwq1 ht hfi hrm ⊢
    repeat (refine gk smU ?_)
    (apply r_call; (focus rfl))
    refine ddown_spec L b h' d Y s2.kd _ ?_
    repeat (refine gk smU ?_)
    (refine ct smU ?_ ?_ <;> intro hdn)
    · repeat (refine gk smU ?_)
      subst hd2
      refine k_n (q + 1) (by omega) ⟨by omega, h', s2⟩ ?_
      (refine leM ?_ ?_ ?_ <;> (repeat refine leS trivial ?_) <;> exact leE)
    have hdn' : d.down = false := by simpa using hdn
    repeat (refine gk smU ?_)
    (apply r_call; (focus rfl))
    refine dlistF_spec L C b h' d 60 4000 hwq1 (by omega) (by omega) Y s2.kd _ fun Y2 y2 => ?_
    have s3 := s2.fr0 y2
    have hle : d.list = d.now.map (entN d.f) := by rw [list_eq, if_neg (by simp [hdn'])]
    rw [hle]
    have hnl := hwq1.now_len
    have hok := hwq1.now_ok
    have hnd := hwq1.now_sn
    have hda : ∀ e ∈ d.now.map (entN d.f), e.data.length ≤ 4000 := fun e he => by
      obtain ⟨x, hx, rfl⟩ := List.mem_map.mp he
      have := szN_le hwq1 x
      unfold szN at this
      unfold entN
      split
      · simp
      · rename_i hxd; rw [if_neg hxd] at this; exact this
    repeat (refine gk smU ?_)
    refine c_loop (Spec_SMono L) (fun (k : Nat) => [(0, .h (.v (.int .u16 r))), (1, .h (.sl .no 6 (l.map akV))), (5, .h (ptr b)), (6, .lp 0 0), (7, .h (I q)), (8, .h (.sl .no 3 ((d.now.map (entN d.f)).map encE))), (9, .h (I k))]) (fun _ => [(0, [I d.room, .sl .no 3 (d.sure.map rnV), .sl .no 2 (d.loose.map rcV), .sl .no 2 (d.f.map rfV), B d.down, I d.ops, I d.fails, B d.done, I d.wrong])])
      (fun k Z => k ≤ d.now.length ∧ DS H Z b h' d) (fun k => d.now.length - k) 0 ?_ ⟨by simp, s3⟩ ?_
    · (refine leM ?_ ?_ ?_ <;> (repeat refine leS trivial ?_) <;> exact leE)
    clear s2 s3 y2
    rintro k Z ⟨hk1, s3⟩
    repeat (refine gk smU ?_)
    (refine ct smU ?_ ?_ <;> intro hck)
    · have hk' : k < d.now.length := by simpa using hck
      have hgi : ((d.now.map (entN d.f)).map encE)[k]? = some (encE (entN d.f d.now[k])) := by simp [hk']
      have hmx := List.getElem_mem hk'
      have hpl := chkP_len (hok _ hmx).2.2
      have hpar : parL d.now[k].path ≠ [] → (getR (d.now.map (entN d.f)) (parL d.now[k].path)).2 = true ∧ (getR (d.now.map (entN d.f)) (parL d.now[k].path)).1.dir = true := fun hne => by
        obtain ⟨y, y1, y2, y3⟩ := ht.now.par _ hmx hne
        have := getN_of hnd.nd y1
        rw [y2] at this
        rw [getR_list, this]; exact ⟨rfl, y3⟩
      repeat (refine gk smU ?_)
      (apply r_call; (focus rfl))
      refine parent_spec L d.now[k].path (by omega) _ _ ?_
      repeat (refine gk smU ?_)
      (apply r_call; (focus rfl))
      refine get_spec L .no (d.now.map (entN d.f)) (parL d.now[k].path) (by simp; omega) (fun e he => by have := hda e he; omega) Z _ fun Z2 z2 => ?_
      have s4 := s3.fr0 z2
      generalize getR (d.now.map (entN d.f)) (parL d.now[k].path) = g at *
      repeat (refine gk smU ?_)
      cases cu : parL d.now[k].path == []
      case true =>
        simp only [Bool.not_true]
        repeat (refine gk smU ?_)
        cases ck : decide ((0 : Int) < (k : Int))
        case false =>
          repeat (refine gk smU ?_)
          (apply r_call; (focus rfl))
          refine pcheck_spec L d.now[k].path (by omega) Z2 _ fun Z4 z4 => ?_
          rw [(hok _ hmx).2.2]
          repeat (refine gk smU ?_)
          refine k_n (k + 1) (by omega) ⟨by omega, s4.fr0 z4⟩ ?_
          (refine leM ?_ ?_ ?_ <;> (repeat refine leS trivial ?_) <;> exact leE)
        have hk0 : 0 < k := by
          have : (0 : Int) < (k : Int) := by simpa using ck
          omega
        have hk3 : k - 1 < d.now.length := by omega
        have hgj : ((d.now.map (entN d.f)).map encE)[k - 1]? = some (encE (entN d.f d.now[k - 1])) := by simp [hk3]
        have hpl2 := chkP_len (hok _ (List.getElem_mem hk3)).2.2
        have hlt2 : lessP d.now[k - 1].path d.now[k].path = true := List.pairwise_iff_getElem.mp hnd _ _ hk3 hk' (by omega)
        repeat (refine gk smU ?_)
        apply r_idx (j := k - 1); (focus rfl); (focus rfl); (focus omega); (focus exact hgj); (focus rfl)
        repeat (refine gk smU ?_)
        (apply r_call; (focus rfl))
        refine less_spec L d.now[k - 1].path d.now[k].path (by omega) (by omega) Z2 _ fun Z3 z3 => ?_
        rw [hlt2]
        repeat (refine gk smU ?_)
        (apply r_call; (focus rfl))
        refine pcheck_spec L d.now[k].path (by omega) Z3 _ fun Z4 z4 => ?_
        rw [(hok _ hmx).2.2]
        repeat (refine gk smU ?_)
        refine k_n (k + 1) (by omega) ⟨by omega, (s4.fr0 z3).fr0 z4⟩ ?_
        (refine leM ?_ ?_ ?_ <;> (repeat refine leS trivial ?_) <;> exact leE)
      obtain ⟨g1', g2'⟩ := hpar (by simpa using cu)
      rw [g1', g2']
      simp only [Bool.not_false]
      repeat (refine gk smU ?_)
      cases ck : decide ((0 : Int) < (k : Int))
      case false =>
        repeat (refine gk smU ?_)
        (apply r_call; (focus rfl))
        refine pcheck_spec L d.now[k].path (by omega) Z2 _ fun Z4 z4 => ?_
        rw [(hok _ hmx).2.2]
        repeat (refine gk smU ?_)
        refine k_n (k + 1) (by omega) ⟨by omega, s4.fr0 z4⟩ ?_
        (refine leM ?_ ?_ ?_ <;> (repeat refine leS trivial ?_) <;> exact leE)
      have hk0 : 0 < k := by
        have : (0 : Int) < (k : Int) := by simpa using ck
        omega
      have hk3 : k - 1 < d.now.length := by omega
      have hgj : ((d.now.map (entN d.f)).map encE)[k - 1]? = some (encE (entN d.f d.now[k - 1])) := by simp [hk3]
      have hpl2 := chkP_len (hok _ (List.getElem_mem hk3)).2.2
      have hlt2 : lessP d.now[k - 1].path d.now[k].path = true := List.pairwise_iff_getElem.mp hnd _ _ hk3 hk' (by omega)
      repeat (refine gk smU ?_)
      apply r_idx (j := k - 1); (focus rfl); (focus rfl); (focus omega); (focus exact hgj); (focus rfl)
      repeat (refine gk smU ?_)
      (apply r_call; (focus rfl))
      refine less_spec L d.now[k - 1].path d.now[k].path (by omega) (by omega) Z2 _ fun Z3 z3 => ?_
      rw [hlt2]
      repeat (refine gk smU ?_)
      (apply r_call; (focus rfl))
      refine pcheck_spec L d.now[k].path (by omega) Z3 _ fun Z4 z4 => ?_
      rw [(hok _ hmx).2.2]
      repeat (refine gk smU ?_)
      refine k_n (k + 1) (by omega) ⟨by omega, (s4.fr0 z3).fr0 z4⟩ ?_
      (refine leM ?_ ?_ ?_ <;> (repeat refine leS trivial ?_) <;> exact leE)
    have hk' : k = d.now.length := by have : ¬ k < d.now.length := by simpa using hck
                                      omega
    subst hk'
    repeat (refine gk smU ?_)
    (apply r_call; (focus rfl))
    refine size_spec L (d.now.map (entN d.f)) 60 4000 (by simp; omega) (by omega) (by omega) hda _ _ ?_
    rw [szE_list]
    have hul := used_le hwq1
    repeat (refine gk smU ?_)
    (apply r_call; (focus rfl))
    refine dused_spec L b h' d 60 4000 hwq1 (by omega) Z s3.kd _ fun Z2 z2 => ?_
    have s4 := s3.fr0 z2
    repeat (refine gk smU ?_)
    (apply r_call; (focus rfl))
    refine dused_spec L b h' d 60 4000 hwq1 (by omega) Z2 s4.kd _ fun Z3 z3 => ?_
    have s5 := s4.fr0 z3
    repeat (refine gk smU ?_)
    have hwr : IntKind.i64.wrap r = r := wrap_in (by omega) (by omega)
    try rw [hwr]
    cases cf : decide (r < (d.used : Int))
    case false =>
      repeat (refine gk smU ?_)
      subst hd2
      refine k_n (q + 1) (by omega) ⟨by omega, h', s5⟩ ?_
      (refine leM ?_ ?_ ?_ <;> (repeat refine leS trivial ?_) <;> exact leE)
    have hcr : crashedD (l.take (q + 1)) = true := by
      cases hcc : crashedD (l.take (q + 1))
      · have h1 := hfi hcc
        unfold Dk.Fits at h1
        rw [hrm] at h1
        have : r < (d.used : Int) := by simpa using cf
        omega
      · rfl
    repeat (refine gk smU ?_)
    apply r_slcH (k := q + 1); (focus rfl); (focus rfl); (focus rfl); (focus (simp; omega))
    rw [← List.map_take]
    repeat (refine gk smU ?_)
    (apply r_call; (focus rfl))
    refine crashed_spec L (l.take (q + 1)) (by rw [List.length_take]; omega) _ _ ?_
    rw [hcr]
    repeat (refine gk smU ?_)
    subst hd2
    refine k_n (q + 1) (by omega) ⟨by omega, h', s5⟩ ?_
    (refine leM ?_ ?_ ?_ <;> (repeat refine leS trivial ?_) <;> exact leE)
  repeat (refine gk smU ?_)
  (apply r_call; (focus rfl))
  refine dawake_spec L C X _ fun X2 f2 => ?_
  repeat (refine gk smU ?_)
  exact resK_some (hk X2 (s.fr.trans f2))
end Sm
