/-
  A layer of one's own: texts T25,T26,T27,T28.
-/
import Derived.Test.YtekgdfpcbcmlgaaDoorSmTE
set_option linter.unusedVariables false
set_option linter.unusedSimpArgs false
set_option maxRecDepth 10000
set_option maxHeartbeats 1000000
namespace Sm
open Go
-- BASE entU
theorem chkE_vis {a : List Ent} {x : Ent} (h : chkE a x = 0) : hpB x.path pre = false := by
  rw [chkE] at h
  split at h
  · rename_i h1; exact absurd h h1
  split at h
  · cases h
  · rename_i h2; simpa using h2
theorem chkE_rise {a : List Ent} {x : Ent} (h : chkE a x = 0) : lastBad a x = false := by
  rw [chkE] at h
  split at h
  · rename_i h1; exact absurd h h1
  split at h
  · cases h
  split at h
  · cases h
  split at h
  · cases h
  split at h
  · cases h
  · rename_i h2; simpa using h2
theorem chkE_dir {a : List Ent} {x : Ent} (h : chkE a x = 0) (hp : parL x.path ≠ []) : (getR a (parL x.path)).2 = true ∧ (getR a (parL x.path)).1.dir = true := by
  rw [chkE] at h
  split at h
  · rename_i h1; exact absurd h h1
  split at h
  · cases h
  split at h
  · cases h
  split at h
  · cases h
  split at h
  · cases h
  split at h
  · cases h
  rename_i h2
  split at h
  · cases h
  rename_i h3
  exact ⟨by simpa using h2, by simpa using h3⟩
theorem vis_all {l : List Ent} (h : chkT l = 0) : l.filter (fun e => !hpB e.path pre) = l := by
  rw [List.filter_eq_self]
  intro e he
  obtain ⟨i, hi, rfl⟩ := List.getElem_of_mem he
  rw [chkE_vis (chkT_at h i hi)]; rfl
/-- What is found ahead is what is found. -/
theorem getR_take {l : List Ent} {i : Nat} {q : List UInt8} (h : (getR (l.take i) q).2 = true) : getR l q = getR (l.take i) q := by
  have e : l.find? (fun e => e.path == q) = (l.take i).find? (fun e => e.path == q) := by
    conv => lhs; rw [← List.take_append_drop i l]
    rw [List.find?_append]
    unfold getR at h
    split at h
    · rename_i y hy; rw [hy]; rfl
    · cases h
  unfold getR
  rw [e]
theorem rise_at {l : List Ent} (h : chkT l = 0) {i : Nat} (hi : i < l.length) (h0 : 0 < i) : lessP (l[i - 1]'(by omega)).path l[i].path = true := by
  have h1 := chkE_rise (chkT_at h i hi)
  rw [lastBad_get (by rw [List.length_take]; omega)] at h1
  have e : (l.take i)[(l.take i).length - 1]'(by rw [List.length_take]; omega) = l[i - 1]'(by omega) := by
    simp only [List.getElem_take, List.length_take]
    congr 1; omega
  rw [e] at h1
  simpa using h1
attribute [local irreducible] csem rsem dsem seqK blockK normK finK DK RK JK BR G3 resK Spec Tok Fr
theorem vis1_spec (L : Linked code) (e : Ent) (H : Heap) (K) (hk : K (B (!hpB e.path pre)) H) : Spec L.P L.ν 184 [encE e] H K := by
  refine go_spec L code184 rfl ?_
  repeat (refine gk entU ?_)
  (apply r_call; (focus rfl))
  refine res_spec L e.path H _ ?_
  repeat (refine gk entU ?_)
  exact resK_some hk
theorem vis_spec (L : Linked code) (tk : Tk) (l : List Ent) (hl : l.length ≤ 1048576) (ho : ∀ e ∈ l, okE e) (hv : l.filter (fun e => !hpB e.path pre) = l) (H : Heap) (K) (h0 : l = [] → ∀ X, Fr [] H X → K (.sl .full 3 []) X) (hk : ∀ b c X, Fr [] H X → K (.v (.slice (some ⟨b, 0, none⟩) l.length c)) X) : Spec L.P L.ν 165 [.sl tk 3 (l.map encE)] H K := by
  refine go_spec L code165 rfl ?_
  repeat (refine gk entU ?_)
  (apply r_call; (focus rfl))
  refine keep_spec L 184 [] (fun e => !hpB e.path pre) tk l hl H (fun e he H' K' hf hk' => vis1_spec L e H' K' (hk' H' (Fr.refl _ _))) _ fun H1 f1 => ?_
  rw [hv]
  repeat (refine gk entU ?_)
  (apply r_call; (focus rfl))
  refine copy_spec L .no l hl ho _ _ (fun hz => ?_) fun _ b c zs Y hb g1 g2 g3 g4 hY fY => ?_
  · repeat (refine gk entU ?_)
    exact resK_some (h0 hz _ f1)
  repeat (refine gk entU ?_)
  exact resK_some (hk b c Y (f1.trans fY))
end Sm

set_option linter.unusedVariables false
set_option linter.unusedSimpArgs false
set_option maxRecDepth 10000
set_option maxHeartbeats 1000000
namespace Sm
open Go
-- BASE entU
theorem bl_trans : ∀ {a b c : List UInt8}, Op.bytesLess a b = true → Op.bytesLess b c = true → Op.bytesLess a c = true
  | [], [], _, h, _ => by simp [Op.bytesLess] at h
  | [], _ :: _, [], _, h => by simp [Op.bytesLess] at h
  | [], _ :: _, _ :: _, _, _ => by simp [Op.bytesLess]
  | _ :: _, [], _, h, _ => by simp [Op.bytesLess] at h
  | _ :: _, _ :: _, [], _, h => by simp [Op.bytesLess] at h
  | x :: a, y :: b, z :: c, h1, h2 => by
    have ih := @bl_trans a b c
    simp only [Op.bytesLess] at h1 h2 ⊢
    simp only [Bool.or_eq_true, decide_eq_true_eq, Bool.and_eq_true, beq_iff_eq, UInt8.lt_iff_toNat_lt] at h1 h2 ⊢
    rcases h1 with h1 | ⟨rfl, h1⟩
    · rcases h2 with h2 | ⟨rfl, h2⟩
      · exact .inl (by omega)
      · exact .inl h1
    · rcases h2 with h2 | ⟨rfl, h2⟩
      · exact .inl h2
      · exact .inr ⟨rfl, ih h1 h2⟩
theorem cmpS_lt2 {a b : List UInt8} : cmpS a b < 0 ↔ Op.bytesLess a b = true := by
  unfold cmpS
  cases h : Op.bytesLess a b
  · simp only [Bool.false_eq_true, if_false, iff_false]
    split <;> omega
  · simp
theorem cmpL_refl : ∀ x : List (List UInt8), cmpL x x = 0
  | [] => rfl
  | a :: x => by rw [cmpL, if_pos (cmpS_eq.mpr rfl), cmpL_refl x]
theorem cmpL_trans : ∀ {x y z : List (List UInt8)}, cmpL x y < 0 → cmpL y z < 0 → cmpL x z < 0
  | [], [], _, h, _ => by rw [cmpL] at h; omega
  | [], _ :: _, [], _, h => by rw [cmpL] at h; omega
  | [], _ :: _, _ :: _, _, _ => by rw [cmpL]; decide
  | _ :: _, [], _, h, _ => by rw [cmpL] at h; omega
  | _ :: _, _ :: _, [], _, h => by rw [cmpL] at h; omega
  | a :: x, b :: y, c :: z, h1, h2 => by
    have ih := @cmpL_trans x y z
    rw [cmpL] at h1 h2 ⊢
    by_cases e1 : cmpS a b = 0
    · rw [if_pos e1] at h1
      have e1' := cmpS_eq.mp e1
      subst e1'
      by_cases e2 : cmpS a c = 0
      · rw [if_pos e2] at h2 ⊢; exact ih h1 h2
      · rw [if_neg e2] at h2 ⊢; exact h2
    · rw [if_neg e1] at h1
      by_cases e2 : cmpS b c = 0
      · rw [if_pos e2] at h2
        have e2' := cmpS_eq.mp e2
        subst e2'
        rw [if_neg e1]; exact h1
      · rw [if_neg e2] at h2
        have h3 := cmpS_lt2.mpr (bl_trans (cmpS_lt2.mp h1) (cmpS_lt2.mp h2))
        rw [if_neg (by omega)]; exact h3
theorem lessP_irr (a : List UInt8) : lessP a a = false := by simp [lessP, cmpL_refl]
theorem lessP_trans {a b c : List UInt8} (h1 : lessP a b = true) (h2 : lessP b c = true) : lessP a c = true := by
  simp only [lessP, decide_eq_true_eq] at *
  exact cmpL_trans h1 h2
/-- Paths rise, so each stands once. -/
theorem rise_all {l : List Ent} (h : chkT l = 0) {i : Nat} : ∀ j (hj : j < l.length) (hij : i < j), lessP (l[i]'(by omega)).path l[j].path = true
  | 0, _, hij => absurd hij (by omega)
  | j + 1, hj, hij => by
    have h1 := rise_at h hj (by omega)
    by_cases e : i = j
    · subst e; exact h1
    · exact lessP_trans (rise_all h j (by omega) (by omega)) h1
theorem path_inj {l : List Ent} (h : chkT l = 0) {i j : Nat} (hi : i < l.length) (hj : j < l.length) (he : l[i].path = l[j].path) : i = j := by
  rcases Nat.lt_trichotomy i j with h1 | h1 | h1
  · have := rise_all h j hj h1
    rw [he, lessP_irr] at this; cases this
  · exact h1
  · have := rise_all h i hi h1
    rw [he, lessP_irr] at this; cases this
/-- What is found under an entry's path is that entry. -/
theorem getR_at {l : List Ent} (h : chkT l = 0) {i : Nat} (hi : i < l.length) : getR l l[i].path = (l[i], true) := by
  have : l.find? (fun e => e.path == l[i].path) = some l[i] := find_at (f := fun e => e.path == l[i].path) hi (by simp) fun j hj => by
    cases e : (l[j]'(by omega)).path == l[i].path
    · rfl
    · have hj2 : j < l.length := by omega
      have e' : l[j].path = l[i].path := by simpa using e
      have := path_inj h hj2 hi e'
      omega
  rw [getR, this]
/-- What is no directory has no children. -/
theorem chl_file {l : List Ent} (h : chkT l = 0) {i : Nat} (hi : i < l.length) (hd : l[i].dir = false) : chl l l[i].path = [] := by
  rw [chl, List.map_eq_nil_iff, List.filter_eq_nil_iff]
  intro e he hp
  obtain ⟨j, hj, rfl⟩ := List.getElem_of_mem he
  have hp' : parL l[j].path = l[i].path := by simpa using hp
  have hne : parL l[j].path ≠ [] := by rw [hp']; exact path_ne (chkT_at h i hi)
  obtain ⟨h1, h2⟩ := chkE_dir (chkT_at h j hj) hne
  rw [← getR_take h1, hp', getR_at h hi] at h2
  rw [hd] at h2; cases h2
/-- The parent of an entry, if it is not the root, is a directory. -/
theorem par_dir {l : List Ent} (h : chkT l = 0) {i : Nat} (hi : i < l.length) (hne : parL l[i].path ≠ []) : (getR l (parL l[i].path)).2 = true ∧ (getR l (parL l[i].path)).1.dir = true := by
  obtain ⟨h1, h2⟩ := chkE_dir (chkT_at h i hi) hne
  rw [getR_take h1]; exact ⟨h1, h2⟩
end Sm

set_option linter.unusedVariables false
set_option linter.unusedSimpArgs false
set_option maxRecDepth 10000
set_option maxHeartbeats 1000000
namespace Sm
open Go
-- BASE entU
theorem sum_one {β : Type} [DecidableEq β] (v : β) : ∀ {qs : List β}, qs.Nodup → v ∈ qs → (qs.map fun q => if v = q then 1 else 0).sum = 1
  | [], _, h => by cases h
  | q :: qs, hn, h => by
    rw [List.nodup_cons] at hn
    rw [List.map_cons, List.sum_cons]
    by_cases e : v = q
    · subst e
      have : ∀ {rs : List β}, v ∉ rs → (rs.map fun q => if v = q then 1 else 0).sum = 0 := by
        intro rs
        induction rs with
        | nil => intro _; rfl
        | cons r rs ih =>
          intro hr
          rw [List.mem_cons, not_or] at hr
          rw [List.map_cons, List.sum_cons, if_neg hr.1, ih hr.2]
      rw [if_pos rfl, this hn.1]
    · rw [if_neg e, sum_one v hn.2 ((List.mem_cons.mp h).resolve_left e)]
theorem sum_add {β : Type} (f g : β → Nat) : ∀ qs : List β, (qs.map fun q => f q + g q).sum = (qs.map f).sum + (qs.map g).sum
  | [] => rfl
  | q :: qs => by simp only [List.map_cons, List.sum_cons, sum_add f g qs]; omega
theorem sum_zero {β : Type} : ∀ qs : List β, (qs.map fun _ => 0).sum = 0
  | [] => rfl
  | q :: qs => by rw [List.map_cons, List.sum_cons, sum_zero qs]
/-- Each belongs to one class: the classes together are all. -/
theorem sum_class {α : Type} (f : α → List UInt8) {qs : List (List UInt8)} (hn : qs.Nodup) : ∀ {l : List α}, (∀ e ∈ l, f e ∈ qs) → (qs.map fun q => (l.filter fun e => f e == q).length).sum = l.length
  | [], _ => by simpa using sum_zero qs
  | e :: l, h => by
    have ih := sum_class f hn (l := l) fun x hx => h x (by simp [hx])
    have h1 := sum_one (f e) hn (h e (by simp))
    have h2 : (qs.map fun q => ((e :: l).filter fun e => f e == q).length) = qs.map fun q => (if f e = q then 1 else 0) + (l.filter fun e => f e == q).length := by
      refine List.map_congr_left fun q _ => ?_
      rw [List.filter_cons]
      by_cases hq : f e = q
      · rw [if_pos (by simpa using hq), if_pos hq, List.length_cons]; omega
      · rw [if_neg (by simpa using hq), if_neg hq]; omega
    rw [h2, sum_add, h1, ih, List.length_cons]; omega
/-- How many children there are till a place. -/
def riseN (l : List Ent) (i : Nat) : Nat := (chl l []).length + ((l.take i).map fun e => (chl l e.path).length).sum
theorem riseN_succ {l : List Ent} {i : Nat} (hi : i < l.length) : riseN l (i + 1) = riseN l i + (chl l l[i].path).length := by
  rw [riseN, riseN, List.take_succ_eq_append_getElem hi, List.map_append, List.sum_append]
  simp; omega
theorem riseN_all {l : List Ent} (h : chkT l = 0) : riseN l l.length = l.length := by
  have hn : ([] :: l.map (·.path)).Nodup := by
    rw [List.nodup_cons]
    refine ⟨fun hm => ?_, ?_⟩
    · obtain ⟨e, he, hp⟩ := List.mem_map.mp hm
      obtain ⟨i, hi, rfl⟩ := List.getElem_of_mem he
      exact path_ne (chkT_at h i hi) hp
    · rw [List.nodup_iff_pairwise_ne, List.pairwise_map, List.pairwise_iff_getElem]
      intro i j hi hj hij e
      exact absurd (path_inj h hi hj e) (by omega)
  have hm : ∀ e ∈ l, parL e.path ∈ ([] :: l.map (·.path)) := by
    intro e he
    obtain ⟨i, hi, rfl⟩ := List.getElem_of_mem he
    by_cases hp : parL l[i].path = []
    · rw [hp]; simp
    · obtain ⟨y, hy, hyp⟩ := getR_mem (par_dir h hi hp).1
      exact List.mem_cons_of_mem _ (List.mem_map.mpr ⟨y, hy, hyp⟩)
  have := sum_class (fun e : Ent => parL e.path) hn hm
  rw [List.map_cons, List.sum_cons, List.map_map] at this
  rw [riseN, List.take_length]
  simp only [chl, List.length_map]
  exact this
end Sm

set_option linter.unusedVariables false
set_option linter.unusedSimpArgs false
set_option maxRecDepth 10000
set_option maxHeartbeats 1000000
namespace Sm
open Go
-- BASE entU
theorem chl_len (l : List Ent) (q : List UInt8) : (chl l q).length ≤ l.length := by rw [chl, List.length_map]; exact List.length_filter_le _ _
theorem riseN_le (l : List Ent) : ∀ i, i ≤ l.length → riseN l i ≤ (i + 1) * l.length
  | 0, _ => by have := chl_len l []; simp [riseN]; exact this
  | i + 1, h => by
    rw [riseN_succ (show i < l.length by omega)]
    have h1 := riseN_le l i (by omega)
    have h2 := chl_len l (l[i]'(by omega)).path
    rw [Nat.add_mul (i + 1) 1]; omega
attribute [local irreducible] csem rsem dsem seqK blockK normK finK DK RK JK BR G3 resK Spec Tok Fr
theorem rises_spec (L : Linked code) (tk : Tk) (l : List Ent) : PureF L 227 [.sl tk 3 (l.map encE)] (B true) := by
  intro H K hk
  refine go_spec L code227 rfl ?_
  repeat (refine gk entU ?_)
  (apply r_call; (focus rfl))
  refine light_spec L tk l 60 20000 (by decide) (by decide) H _ ?_
  cases c1 : light l 60 20000
  case false =>
    repeat (refine gk entU ?_)
    (apply r_call; (focus rfl))
    refine awake_spec L _ _ fun H1 f1 => ?_
    repeat (refine gk entU ?_)
    exact resK_some (hk H1 f1)
  obtain ⟨hl, ho⟩ := light_ok (by decide) c1
  have hdl : ∀ e ∈ l, e.data.length ≤ 140737488355328 := fun e he => Nat.le_trans (ho e he).2 (by decide)
  repeat (refine gk entU ?_)
  (apply r_call; (focus rfl))
  refine check_spec L tk l (by omega) ho _ _ fun H1 f1 => ?_
  repeat (refine gk entU ?_)
  cases c2 : (chkT l != 0)
  case true =>
    repeat (refine gk entU ?_)
    (apply r_call; (focus rfl))
    refine awake_spec L _ _ fun H2 f2 => ?_
    repeat (refine gk entU ?_)
    exact resK_some (hk H2 (f1.trans f2))
  have hc : chkT l = 0 := by simpa [bne] using c2
  repeat (refine gk entU ?_)
  (apply r_call; (focus rfl))
  refine children_spec L tk l [] (by omega) ho _ _ fun H2 f2 => ?_
  have f3 := f1.trans f2
  repeat (refine gk entU ?_)
  refine c_loop (Spec_SMono L) (fun (i : Nat) => [(0, .h (.sl tk 3 (l.map encE))), (3, .h (I (riseN l i))), (4, .h (I i))]) (fun _ => [])
    (fun i H' => Fr [] H H' ∧ i ≤ l.length) (fun i => l.length - i) 0 ?_ ⟨f3, by simp⟩ ?_
  · have e0 : riseN l 0 = (chl l []).length := by simp [riseN]
    (refine leM ?_ ?_ ?_ <;> (repeat refine leS (And.intro entU e0) ?_) <;> exact leE)
  rintro i H' ⟨hfr, hi⟩
  repeat (refine gk entU ?_)
  (refine ct entU ?_ ?_ <;> intro h)
  · have hi' : i < l.length := by simpa using h
    have hpi := (ho _ (List.getElem_mem hi')).1
    have hr1 := riseN_le l i (by omega)
    have hr2 : riseN l i ≤ 61 * 60 := Nat.le_trans hr1 (Nat.mul_le_mul (by omega) hl)
    have hr3 := chl_len l l[i].path
    repeat (refine gj entU ?_)
    refine c_join (Spec_SMono L) (ι := Unit) (fun _ => [(0, .h (.sl tk 3 (l.map encE))), (3, .h (I (riseN l i))), (4, .h (I i))]) (fun _ => []) (fun _ H' => Fr [] H H') ?_ ?_
    · cases c3 : decide ((0 : Int) < (i : Int))
      case false =>
        repeat (refine gk (And.intro entU c3) ?_)
        exact j_n () hfr (by (refine leM ?_ ?_ ?_ <;> (repeat refine leS trivial ?_) <;> exact leE))
      have hi0 : 0 < i := by simp only [decide_eq_true_eq] at c3; omega
      have hi1 : i - 1 < l.length := by omega
      have hp1 := (ho _ (List.getElem_mem hi1)).1
      have em : ((i : Int) - 1) = ((i - 1 : Nat) : Int) := by omega
      repeat (refine gk (And.intro entU (And.intro c3 em)) ?_)
      (apply r_call; (focus rfl))
      refine less_spec L (l[i - 1]'(by omega)).path l[i].path hp1 hpi _ _ fun H3 f4 => ?_
      rw [rise_at hc hi' hi0]
      repeat (refine gk entU ?_)
      exact j_n () (hfr.trans f4) (by (refine leM ?_ ?_ ?_ <;> (repeat refine leS trivial ?_) <;> exact leE))
    rintro _ H3 f4
    repeat (refine gk entU ?_)
    (apply r_call; (focus rfl))
    refine parent_spec L l[i].path hpi _ _ ?_
    repeat (refine gk entU ?_)
    (apply r_call; (focus rfl))
    refine get_spec L tk l (parL l[i].path) (by omega) hdl _ _ fun H4 f5 => ?_
    repeat (refine gj entU ?_)
    refine c_join (Spec_SMono L) (ι := Unit) (fun _ => [(0, .h (.sl tk 3 (l.map encE))), (3, .h (I (riseN l i))), (4, .h (I i))]) (fun _ => []) (fun _ H' => Fr [] H H') ?_ ?_
    · repeat (refine gk entU ?_)
      (apply r_call; (focus rfl))
      refine parent_spec L l[i].path hpi _ _ ?_
      repeat (refine gk entU ?_)
      cases c4 : (parL l[i].path == [])
      · obtain ⟨g1, g2⟩ := par_dir hc hi' (by simpa using c4)
        simp only [g1, g2, Bool.not_false]
        repeat (refine gk entU ?_)
        exact j_n () (f4.trans f5) (by (refine leM ?_ ?_ ?_ <;> (repeat refine leS trivial ?_) <;> exact leE))
      · simp only [Bool.not_true]
        repeat (refine gk entU ?_)
        exact j_n () (f4.trans f5) (by (refine leM ?_ ?_ ?_ <;> (repeat refine leS trivial ?_) <;> exact leE))
    rintro _ H5 f6
    repeat (refine gk entU ?_)
    (apply r_call; (focus rfl))
    refine children_spec L tk l l[i].path (by omega) ho _ _ fun H6 f7 => ?_
    repeat (refine gj entU ?_)
    refine c_join (Spec_SMono L) (ι := Unit) (fun _ => [(0, .h (.sl tk 3 (l.map encE))), (3, .h (I (riseN l i))), (4, .h (I i)), (7, .h (.sl .no 1 ((chl l l[i].path).map S)))]) (fun _ => []) (fun _ H' => Fr [] H H') ?_ ?_
    · repeat (refine gk entU ?_)
      cases c5 : l[i].dir
      · have e5 := chl_file hc hi' c5
        rw [e5]
        simp only [Bool.not_false]
        repeat (refine gk entU ?_)
        exact j_n () (f6.trans f7) (by (refine leM ?_ ?_ ?_ <;> (repeat refine leS trivial ?_) <;> exact leE))
      · simp only [Bool.not_true]
        repeat (refine gk entU ?_)
        exact j_n () (f6.trans f7) (by (refine leM ?_ ?_ ?_ <;> (repeat refine leS trivial ?_) <;> exact leE))
    rintro _ H7 f8
    have e9 : ((riseN l (i + 1) : Nat) : Int) = (riseN l i : Int) + ((chl l l[i].path).length : Int) := by rw [riseN_succ hi', Int.natCast_add]
    repeat (refine gk entU ?_)
    refine k_n (i + 1) (by omega) ⟨f8, by omega⟩ ?_
    (refine leM ?_ ?_ ?_ <;> (repeat refine leS (And.intro entU e9) ?_) <;> exact leE)
  · have hi' : i = l.length := by have : ¬ i < l.length := by simpa using h
                                  omega
    subst hi'
    rw [riseN_all hc]
    have e0 : (((l.length : Nat) : Int) == ((l.length : Nat) : Int)) = true := by simp
    repeat (refine gk entU ?_)
    (apply r_call; (focus rfl))
    refine vis_spec L tk l (by omega) ho (vis_all hc) _ _ (fun hz X fX => ?_) fun b c X fX => ?_
    · subst hz
      repeat (refine gk entU ?_)
      (apply r_call; (focus rfl))
      refine awake_spec L _ _ fun H8 f9 => ?_
      repeat (refine gk entU ?_)
      exact resK_some (hk H8 ((hfr.trans fX).trans f9))
    · repeat (refine gk entU ?_)
      (apply r_call; (focus rfl))
      refine awake_spec L _ _ fun H8 f9 => ?_
      repeat (refine gk entU ?_)
      exact resK_some (hk H8 ((hfr.trans fX).trans f9))
end Sm
