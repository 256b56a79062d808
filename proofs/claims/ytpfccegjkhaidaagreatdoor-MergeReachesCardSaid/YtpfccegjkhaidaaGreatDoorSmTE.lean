/-
  A layer of one's own: texts T23,T25,T26,T27.
-/
import Derived.Test.YtpfccegjkhaidaaGreatDoorSmTD
set_option linter.unusedVariables false
set_option linter.unusedSimpArgs false
set_option maxRecDepth 10000
set_option maxHeartbeats 1000000
namespace Sm
open Go
-- BASE entU
theorem chkT_at {l : List Ent} (h : chkT l = 0) : ∀ i (hi : i < l.length), chkE (l.take i) l[i] = 0 := by
  have h0 : chkAll [] l = 0 := by
    rw [chkT] at h; split at h
    · cases h
    · exact h
  have key : ∀ i, i ≤ l.length → chkAll (l.take i) (l.drop i) = 0 ∧ ∀ j (hj : j < l.length), j < i → chkE (l.take j) l[j] = 0 := by
    intro i
    induction i with
    | zero => intro _; exact ⟨by simpa using h0, fun j _ hj => absurd hj (by omega)⟩
    | succ i ih =>
      intro hi
      obtain ⟨h1, h2⟩ := ih (by omega)
      rw [chkAll_step (show i < l.length by omega)] at h1
      split at h1
      · rename_i h3; exact absurd h1 h3
      · rename_i h3
        refine ⟨h1, fun j hj hji => ?_⟩
        by_cases e : j = i
        · subst e; exact Decidable.of_not_not h3
        · exact h2 j hj (by omega)
  exact fun i hi => (key l.length (Nat.le_refl _)).2 i hi hi
theorem find_set {l : List Ent} {x : Ent} {q : List UInt8} {i : Nat} (hi : i < l.length) (he : l[i].path = x.path) (hb : ∀ j (hj : j < i), (l[j]'(by omega)).path ≠ x.path) :
    (l.set i x).find? (fun e => e.path == q) = if x.path = q then some x else l.find? (fun e => e.path == q) := by
  have e1 : l.set i x = l.take i ++ x :: l.drop (i + 1) := by rw [List.set_eq_take_append_cons_drop, if_pos hi]
  have e2 : l = l.take i ++ l[i] :: l.drop (i + 1) := by rw [← List.drop_eq_getElem_cons hi, List.take_append_drop]
  split
  · rename_i hq
    subst hq
    rw [e1, List.find?_append]
    have : (l.take i).find? (fun e => e.path == x.path) = none := by
      rw [List.find?_eq_none]
      intro e he'
      obtain ⟨j, hj, rfl⟩ := List.getElem_of_mem he'
      simp only [List.length_take] at hj
      simp only [List.getElem_take, beq_iff_eq]
      exact hb j (by omega)
    rw [this]; simp
  · rename_i hq
    rw [e1]
    conv => rhs; rw [e2]
    rw [List.find?_append, List.find?_append, List.find?_cons_of_neg (by simpa using hq), List.find?_cons_of_neg (by rw [he]; simpa using hq)]
theorem find_ins {l : List Ent} {x : Ent} {q : List UInt8} {k : Nat} (hn : ∀ e ∈ l, e.path ≠ x.path) :
    (l.take k ++ x :: l.drop k).find? (fun e => e.path == q) = if x.path = q then some x else l.find? (fun e => e.path == q) := by
  split
  · rename_i hq
    subst hq
    rw [List.find?_append]
    have : (l.take k).find? (fun e => e.path == x.path) = none := by
      rw [List.find?_eq_none]
      intro e he
      simpa using hn e (List.mem_of_mem_take he)
    rw [this]; simp
  · rename_i hq
    conv => rhs; rw [← List.take_append_drop k l]
    rw [List.find?_append, List.find?_append, List.find?_cons_of_neg (by simpa using hq)]
/-- What is found in a list that an entry was put into. -/
theorem find_putL (l : List Ent) (x : Ent) (q : List UInt8) : (putL l x).find? (fun e => e.path == q) = if x.path = q then some x else l.find? (fun e => e.path == q) := by
  rcases firstIdx_cases (fun e : Ent => e.path == x.path) l with ⟨h1, h2⟩ | ⟨i, hi, h1, h2, h3, h4⟩
  · rw [putL, h1, if_pos (by decide)]
    refine find_ins fun e he => ?_
    have := List.find?_eq_none.mp h2 e he
    simpa using this
  · rw [putL, h1, if_neg (by omega)]
    exact find_set hi (by simpa using h3) fun j hj => by simpa using h4 j hj
theorem getR_put (l : List Ent) (x : Ent) (q : List UInt8) : getR (putL l x) q = if x.path = q then (x, true) else getR l q := by
  unfold getR
  rw [find_putL]
  by_cases h : x.path = q
  · rw [if_pos h, if_pos h]
  · rw [if_neg h, if_neg h]
theorem chkE_ok {a : List Ent} {x : Ent} (h : chkE a x = 0) : chkP x.path = 0 ∧ (parL x.path = [] ∨ (getR a (parL x.path)).2 = true) := by
  rw [chkE] at h
  split at h
  · rename_i h1; exact absurd h h1
  rename_i h1
  refine ⟨Decidable.of_not_not h1, ?_⟩
  split at h
  · cases h
  split at h
  · cases h
  split at h
  · cases h
  split at h
  · cases h
  split at h
  · rename_i h2; exact .inl h2
  split at h
  · cases h
  rename_i h2
  exact .inr (by simpa using h2)
theorem getR_mem {l : List Ent} {q : List UInt8} (h : (getR l q).2 = true) : ∃ e ∈ l, e.path = q := by
  unfold getR at h
  split at h
  · rename_i e he
    exact ⟨e, List.mem_of_find?_eq_some he, by simpa using List.find?_some he⟩
  · cases h
theorem path_ne {a : List Ent} {x : Ent} (h : chkE a x = 0) : x.path ≠ [] := by
  intro e
  have := (chkE_ok h).1
  rw [e] at this
  exact absurd this (by decide)
/-- Nothing lies in what is not there. -/
theorem par_ne {l : List Ent} {q : List UInt8} (h : chkT l = 0) (hn : ∀ e ∈ l, e.path ≠ q) (hq : q ≠ []) : ∀ e ∈ l, parL e.path ≠ q := by
  intro e he hp
  obtain ⟨i, hi, rfl⟩ := List.getElem_of_mem he
  rcases (chkE_ok (chkT_at h i hi)).2 with h1 | h1
  · exact hq (hp ▸ h1)
  · rw [hp] at h1
    obtain ⟨y, hy, hyp⟩ := getR_mem h1
    exact hn y (List.mem_of_mem_take hy) hyp
theorem rem_put {l : List Ent} {x : Ent} (h : chkT l = 0) (hf : (getR l x.path).2 = false) (hm : chkT (putL l x) = 0) : remR (putL l x) x.path = (l, 0) := by
  have hnone : l.find? (fun e => e.path == x.path) = none := by
    unfold getR at hf
    split at hf
    · cases hf
    · assumption
  have hn : ∀ e ∈ l, e.path ≠ x.path := fun e he => by simpa using List.find?_eq_none.mp hnone e he
  have hi1 : firstIdx (fun e : Ent => e.path == x.path) l = -1 := firstIdx_none fun j hj => by simpa using hn _ (List.getElem_mem hj)
  have hput : putL l x = l.take (insAt l x) ++ x :: l.drop (insAt l x) := by rw [putL, hi1]; rfl
  have hk := insAt_le l x
  generalize insAt l x = k at hput hk
  have htk : (l.take k).length = k := by rw [List.length_take]; omega
  have hkl : k < (putL l x).length := by rw [hput]; simp; omega
  have hat : (putL l x)[k] = x := by simp only [hput]; rw [List.getElem_append_right (by omega)]; simp [htk]
  have htake : (putL l x).take k = l.take k := by rw [hput, List.take_left' htk]
  have hck := chkT_at hm k hkl
  rw [hat, htake] at hck
  have hx0 := path_ne hck
  have hself : parL x.path ≠ x.path := by
    intro e
    rcases (chkE_ok hck).2 with h1 | h1
    · exact hx0 (e ▸ h1)
    · rw [e] at h1
      obtain ⟨y, hy, hyp⟩ := getR_mem h1
      exact hn y (List.mem_of_mem_take hy) hyp
  have hchl : chl (putL l x) x.path = [] := by
    rw [chl, List.map_eq_nil_iff, List.filter_eq_nil_iff]
    intro e he
    rcases putL_mem he with he | rfl
    · simpa using par_ne h hn hx0 e he
    · simpa using hself
  have hidx : firstIdx (fun e : Ent => e.path == x.path) (putL l x) = k := by
    refine firstIdx_some hkl (by rw [hat]; simp) fun j hj => ?_
    have e1 : (putL l x)[j]'(by omega) = l[j]'(by omega) := by
      simp only [hput]
      rw [List.getElem_append_left (by omega), List.getElem_take]
    rw [e1]; simpa using hn _ (List.getElem_mem _)
  have hcut : cutL (putL l x) x.path = l := by
    rw [cutL, hidx, Int.toNat_natCast, htake, hput, ← List.drop_drop, List.drop_left' htk]
    simp
  rw [remR, if_neg (by simp [hm]), find_putL, if_pos rfl]
  simp [hchl, hcut]
theorem putR_err {l : List Ent} {x : Ent} (h : (putR l x).2 ≠ 0) : (putR l x).1 = [] := by
  unfold putR at h ⊢
  split
  · rfl
  split
  · rfl
  split
  · rfl
  · rename_i h1 h2 h3; rw [if_neg h1, if_neg h2, if_neg h3] at h; exact absurd rfl h
theorem putR_ok {l : List Ent} {x : Ent} (h : (putR l x).2 = 0) : (putR l x).1 = putL l x ∧ chkT l = 0 ∧ chkT (putL l x) = 0 := by
  unfold putR at h ⊢
  split at h
  · rename_i h1; exact absurd h h1
  rename_i h1
  split at h
  · cases h
  rename_i h2
  split at h
  · rename_i h3; exact absurd h h3
  rename_i h3
  rw [if_neg h1, if_neg h2, if_neg h3]
  exact ⟨rfl, Decidable.of_not_not h1, Decidable.of_not_not h3⟩
theorem putL_was {l : List Ent} {x : Ent} (h : (getR l x.path).2 = true) : (putL l x).length = l.length := by
  rcases firstIdx_cases (fun e : Ent => e.path == x.path) l with ⟨h1, h2⟩ | ⟨i, hi, h1, h2, h3, h4⟩
  · rw [getR, h2] at h; cases h
  · rw [putL, h1, if_neg (by omega)]; simp
theorem sameT_self : ∀ l : List Ent, sameT l l = true
  | [] => rfl
  | a :: as => by rw [sameT, sameE_self, sameT_self as]; rfl
end Sm

set_option linter.unusedVariables false
set_option linter.unusedSimpArgs false
set_option maxRecDepth 10000
set_option maxHeartbeats 1000000
namespace Sm
open Go
-- BASE entU
theorem chkE_vis {a : List Ent} {x : Ent} (h : chkE a x = 0) : hpB x.path pre = false := by
  rw [chkE] at h
  split at h
  · rename_i h1; exact absurd h h1
  split at h
  · cases h
  · rename_i h2; simpa using h2
theorem chkE_rise {a : List Ent} {x : Ent} (h : chkE a x = 0) : lastBad a x = false := by
  rw [chkE] at h
  split at h
  · rename_i h1; exact absurd h h1
  split at h
  · cases h
  split at h
  · cases h
  split at h
  · cases h
  split at h
  · cases h
  · rename_i h2; simpa using h2
theorem chkE_dir {a : List Ent} {x : Ent} (h : chkE a x = 0) (hp : parL x.path ≠ []) : (getR a (parL x.path)).2 = true ∧ (getR a (parL x.path)).1.dir = true := by
  rw [chkE] at h
  split at h
  · rename_i h1; exact absurd h h1
  split at h
  · cases h
  split at h
  · cases h
  split at h
  · cases h
  split at h
  · cases h
  split at h
  · cases h
  rename_i h2
  split at h
  · cases h
  rename_i h3
  exact ⟨by simpa using h2, by simpa using h3⟩
theorem vis_all {l : List Ent} (h : chkT l = 0) : l.filter (fun e => !hpB e.path pre) = l := by
  rw [List.filter_eq_self]
  intro e he
  obtain ⟨i, hi, rfl⟩ := List.getElem_of_mem he
  rw [chkE_vis (chkT_at h i hi)]; rfl
/-- What is found ahead is what is found. -/
theorem getR_take {l : List Ent} {i : Nat} {q : List UInt8} (h : (getR (l.take i) q).2 = true) : getR l q = getR (l.take i) q := by
  have e : l.find? (fun e => e.path == q) = (l.take i).find? (fun e => e.path == q) := by
    conv => lhs; rw [← List.take_append_drop i l]
    rw [List.find?_append]
    unfold getR at h
    split at h
    · rename_i y hy; rw [hy]; rfl
    · cases h
  unfold getR
  rw [e]
theorem rise_at {l : List Ent} (h : chkT l = 0) {i : Nat} (hi : i < l.length) (h0 : 0 < i) : lessP (l[i - 1]'(by omega)).path l[i].path = true := by
  have h1 := chkE_rise (chkT_at h i hi)
  rw [lastBad_get (by rw [List.length_take]; omega)] at h1
  have e : (l.take i)[(l.take i).length - 1]'(by rw [List.length_take]; omega) = l[i - 1]'(by omega) := by
    simp only [List.getElem_take, List.length_take]
    congr 1; omega
  rw [e] at h1
  simpa using h1
end Sm

set_option linter.unusedVariables false
set_option linter.unusedSimpArgs false
set_option maxRecDepth 10000
set_option maxHeartbeats 1000000
namespace Sm
open Go
-- BASE entU
theorem bl_trans : ∀ {a b c : List UInt8}, Op.bytesLess a b = true → Op.bytesLess b c = true → Op.bytesLess a c = true
  | [], [], _, h, _ => by simp [Op.bytesLess] at h
  | [], _ :: _, [], _, h => by simp [Op.bytesLess] at h
  | [], _ :: _, _ :: _, _, _ => by simp [Op.bytesLess]
  | _ :: _, [], _, h, _ => by simp [Op.bytesLess] at h
  | _ :: _, _ :: _, [], _, h => by simp [Op.bytesLess] at h
  | x :: a, y :: b, z :: c, h1, h2 => by
    have ih := @bl_trans a b c
    simp only [Op.bytesLess] at h1 h2 ⊢
    simp only [Bool.or_eq_true, decide_eq_true_eq, Bool.and_eq_true, beq_iff_eq, UInt8.lt_iff_toNat_lt] at h1 h2 ⊢
    rcases h1 with h1 | ⟨rfl, h1⟩
    · rcases h2 with h2 | ⟨rfl, h2⟩
      · exact .inl (by omega)
      · exact .inl h1
    · rcases h2 with h2 | ⟨rfl, h2⟩
      · exact .inl h2
      · exact .inr ⟨rfl, ih h1 h2⟩
theorem cmpS_lt2 {a b : List UInt8} : cmpS a b < 0 ↔ Op.bytesLess a b = true := by
  unfold cmpS
  cases h : Op.bytesLess a b
  · simp only [Bool.false_eq_true, if_false, iff_false]
    split <;> omega
  · simp
theorem cmpL_refl : ∀ x : List (List UInt8), cmpL x x = 0
  | [] => rfl
  | a :: x => by rw [cmpL, if_pos (cmpS_eq.mpr rfl), cmpL_refl x]
theorem cmpL_trans : ∀ {x y z : List (List UInt8)}, cmpL x y < 0 → cmpL y z < 0 → cmpL x z < 0
  | [], [], _, h, _ => by rw [cmpL] at h; omega
  | [], _ :: _, [], _, h => by rw [cmpL] at h; omega
  | [], _ :: _, _ :: _, _, _ => by rw [cmpL]; decide
  | _ :: _, [], _, h, _ => by rw [cmpL] at h; omega
  | _ :: _, _ :: _, [], _, h => by rw [cmpL] at h; omega
  | a :: x, b :: y, c :: z, h1, h2 => by
    have ih := @cmpL_trans x y z
    rw [cmpL] at h1 h2 ⊢
    by_cases e1 : cmpS a b = 0
    · rw [if_pos e1] at h1
      have e1' := cmpS_eq.mp e1
      subst e1'
      by_cases e2 : cmpS a c = 0
      · rw [if_pos e2] at h2 ⊢; exact ih h1 h2
      · rw [if_neg e2] at h2 ⊢; exact h2
    · rw [if_neg e1] at h1
      by_cases e2 : cmpS b c = 0
      · rw [if_pos e2] at h2
        have e2' := cmpS_eq.mp e2
        subst e2'
        rw [if_neg e1]; exact h1
      · rw [if_neg e2] at h2
        have h3 := cmpS_lt2.mpr (bl_trans (cmpS_lt2.mp h1) (cmpS_lt2.mp h2))
        rw [if_neg (by omega)]; exact h3
theorem lessP_irr (a : List UInt8) : lessP a a = false := by simp [lessP, cmpL_refl]
theorem lessP_trans {a b c : List UInt8} (h1 : lessP a b = true) (h2 : lessP b c = true) : lessP a c = true := by
  simp only [lessP, decide_eq_true_eq] at *
  exact cmpL_trans h1 h2
/-- Paths rise, so each stands once. -/
theorem rise_all {l : List Ent} (h : chkT l = 0) {i : Nat} : ∀ j (hj : j < l.length) (hij : i < j), lessP (l[i]'(by omega)).path l[j].path = true
  | 0, _, hij => absurd hij (by omega)
  | j + 1, hj, hij => by
    have h1 := rise_at h hj (by omega)
    by_cases e : i = j
    · subst e; exact h1
    · exact lessP_trans (rise_all h j (by omega) (by omega)) h1
theorem path_inj {l : List Ent} (h : chkT l = 0) {i j : Nat} (hi : i < l.length) (hj : j < l.length) (he : l[i].path = l[j].path) : i = j := by
  rcases Nat.lt_trichotomy i j with h1 | h1 | h1
  · have := rise_all h j hj h1
    rw [he, lessP_irr] at this; cases this
  · exact h1
  · have := rise_all h i hi h1
    rw [he, lessP_irr] at this; cases this
/-- What is found under an entry's path is that entry. -/
theorem getR_at {l : List Ent} (h : chkT l = 0) {i : Nat} (hi : i < l.length) : getR l l[i].path = (l[i], true) := by
  have : l.find? (fun e => e.path == l[i].path) = some l[i] := find_at (f := fun e => e.path == l[i].path) hi (by simp) fun j hj => by
    cases e : (l[j]'(by omega)).path == l[i].path
    · rfl
    · have hj2 : j < l.length := by omega
      have e' : l[j].path = l[i].path := by simpa using e
      have := path_inj h hj2 hi e'
      omega
  rw [getR, this]
/-- What is no directory has no children. -/
theorem chl_file {l : List Ent} (h : chkT l = 0) {i : Nat} (hi : i < l.length) (hd : l[i].dir = false) : chl l l[i].path = [] := by
  rw [chl, List.map_eq_nil_iff, List.filter_eq_nil_iff]
  intro e he hp
  obtain ⟨j, hj, rfl⟩ := List.getElem_of_mem he
  have hp' : parL l[j].path = l[i].path := by simpa using hp
  have hne : parL l[j].path ≠ [] := by rw [hp']; exact path_ne (chkT_at h i hi)
  obtain ⟨h1, h2⟩ := chkE_dir (chkT_at h j hj) hne
  rw [← getR_take h1, hp', getR_at h hi] at h2
  rw [hd] at h2; cases h2
/-- The parent of an entry, if it is not the root, is a directory. -/
theorem par_dir {l : List Ent} (h : chkT l = 0) {i : Nat} (hi : i < l.length) (hne : parL l[i].path ≠ []) : (getR l (parL l[i].path)).2 = true ∧ (getR l (parL l[i].path)).1.dir = true := by
  obtain ⟨h1, h2⟩ := chkE_dir (chkT_at h i hi) hne
  rw [getR_take h1]; exact ⟨h1, h2⟩
end Sm

set_option linter.unusedVariables false
set_option linter.unusedSimpArgs false
set_option maxRecDepth 10000
set_option maxHeartbeats 1000000
namespace Sm
open Go
-- BASE entU
theorem sum_one {β : Type} [DecidableEq β] (v : β) : ∀ {qs : List β}, qs.Nodup → v ∈ qs → (qs.map fun q => if v = q then 1 else 0).sum = 1
  | [], _, h => by cases h
  | q :: qs, hn, h => by
    rw [List.nodup_cons] at hn
    rw [List.map_cons, List.sum_cons]
    by_cases e : v = q
    · subst e
      have : ∀ {rs : List β}, v ∉ rs → (rs.map fun q => if v = q then 1 else 0).sum = 0 := by
        intro rs
        induction rs with
        | nil => intro _; rfl
        | cons r rs ih =>
          intro hr
          rw [List.mem_cons, not_or] at hr
          rw [List.map_cons, List.sum_cons, if_neg hr.1, ih hr.2]
      rw [if_pos rfl, this hn.1]
    · rw [if_neg e, sum_one v hn.2 ((List.mem_cons.mp h).resolve_left e)]
theorem sum_add {β : Type} (f g : β → Nat) : ∀ qs : List β, (qs.map fun q => f q + g q).sum = (qs.map f).sum + (qs.map g).sum
  | [] => rfl
  | q :: qs => by simp only [List.map_cons, List.sum_cons, sum_add f g qs]; omega
theorem sum_zero {β : Type} : ∀ qs : List β, (qs.map fun _ => 0).sum = 0
  | [] => rfl
  | q :: qs => by rw [List.map_cons, List.sum_cons, sum_zero qs]
/-- Each belongs to one class: the classes together are all. -/
theorem sum_class {α : Type} (f : α → List UInt8) {qs : List (List UInt8)} (hn : qs.Nodup) : ∀ {l : List α}, (∀ e ∈ l, f e ∈ qs) → (qs.map fun q => (l.filter fun e => f e == q).length).sum = l.length
  | [], _ => by simpa using sum_zero qs
  | e :: l, h => by
    have ih := sum_class f hn (l := l) fun x hx => h x (by simp [hx])
    have h1 := sum_one (f e) hn (h e (by simp))
    have h2 : (qs.map fun q => ((e :: l).filter fun e => f e == q).length) = qs.map fun q => (if f e = q then 1 else 0) + (l.filter fun e => f e == q).length := by
      refine List.map_congr_left fun q _ => ?_
      rw [List.filter_cons]
      by_cases hq : f e = q
      · rw [if_pos (by simpa using hq), if_pos hq, List.length_cons]; omega
      · rw [if_neg (by simpa using hq), if_neg hq]; omega
    rw [h2, sum_add, h1, ih, List.length_cons]; omega
/-- How many children there are till a place. -/
def riseN (l : List Ent) (i : Nat) : Nat := (chl l []).length + ((l.take i).map fun e => (chl l e.path).length).sum
theorem riseN_succ {l : List Ent} {i : Nat} (hi : i < l.length) : riseN l (i + 1) = riseN l i + (chl l l[i].path).length := by
  rw [riseN, riseN, List.take_succ_eq_append_getElem hi, List.map_append, List.sum_append]
  simp; omega
theorem riseN_all {l : List Ent} (h : chkT l = 0) : riseN l l.length = l.length := by
  have hn : ([] :: l.map (·.path)).Nodup := by
    rw [List.nodup_cons]
    refine ⟨fun hm => ?_, ?_⟩
    · obtain ⟨e, he, hp⟩ := List.mem_map.mp hm
      obtain ⟨i, hi, rfl⟩ := List.getElem_of_mem he
      exact path_ne (chkT_at h i hi) hp
    · rw [List.nodup_iff_pairwise_ne, List.pairwise_map, List.pairwise_iff_getElem]
      intro i j hi hj hij e
      exact absurd (path_inj h hi hj e) (by omega)
  have hm : ∀ e ∈ l, parL e.path ∈ ([] :: l.map (·.path)) := by
    intro e he
    obtain ⟨i, hi, rfl⟩ := List.getElem_of_mem he
    by_cases hp : parL l[i].path = []
    · rw [hp]; simp
    · obtain ⟨y, hy, hyp⟩ := getR_mem (par_dir h hi hp).1
      exact List.mem_cons_of_mem _ (List.mem_map.mpr ⟨y, hy, hyp⟩)
  have := sum_class (fun e : Ent => parL e.path) hn hm
  rw [List.map_cons, List.sum_cons, List.map_map] at this
  rw [riseN, List.take_length]
  simp only [chl, List.length_map]
  exact this
end Sm
