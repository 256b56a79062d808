/-
  A layer of one's own: texts T22,T23,T24.
-/
import Derived.Test.YtekgdfpcbcmlgaaDoorSmTD
set_option linter.unusedVariables false
set_option linter.unusedSimpArgs false
set_option maxRecDepth 10000
set_option maxHeartbeats 1000000
namespace Sm
open Go
-- BASE entU
theorem lightR_ok {k : Nat} : ∀ {s : Nat} {l : List Ent}, lightR k s l = true → ∀ e ∈ l, e.path.length ≤ 1000 ∧ e.data.length ≤ k
  | _, [], _, e, he => by simp at he
  | s, x :: r, h, e, he => by
    rw [lightR] at h
    split at h
    · cases h
    · split at h
      · cases h
      · rcases List.mem_cons.mp he with rfl | he
        · omega
        · exact lightR_ok h e he
theorem light_ok {l : List Ent} {n k : Nat} (hk : k ≤ 1048576) (h : light l n k = true) : l.length ≤ n ∧ (∀ e ∈ l, okE e) := by
  rw [light] at h
  split at h
  · cases h
  · refine ⟨by omega, fun e he => ?_⟩
    have := lightR_ok h e he
    exact ⟨by omega, by omega⟩
theorem sameE_self (e : Ent) : sameE e e = true := by simp [sameE]
attribute [local irreducible] csem rsem dsem seqK blockK normK finK DK RK JK BR G3 resK Spec Tok Fr
theorem gets_spec (L : Linked code) (tk : Tk) (l : List Ent) (p : List UInt8) : PureF L 224 [.sl tk 3 (l.map encE), S p] (B true) := by
  intro H K hk
  refine go_spec L code224 rfl ?_
  repeat (refine gk entU ?_)
  (apply r_call; (focus rfl))
  refine light_spec L tk l 70 70000 (by decide) (by decide) H _ ?_
  cases c1 : light l 70 70000
  case false =>
    repeat (refine gk entU ?_)
    (apply r_call; (focus rfl))
    refine awake_spec L _ _ fun H1 f1 => ?_
    repeat (refine gk entU ?_)
    exact resK_some (hk H1 f1)
  obtain ⟨hl, ho⟩ := light_ok (by decide) c1
  repeat (refine gk entU ?_)
  cases c2 : decide ((1000 : Int) < (p.length : Int))
  case true =>
    repeat (refine gk entU ?_)
    (apply r_call; (focus rfl))
    refine awake_spec L _ _ fun H1 f1 => ?_
    repeat (refine gk entU ?_)
    exact resK_some (hk H1 f1)
  repeat (refine gk entU ?_)
  (apply r_call; (focus rfl))
  refine get_spec L tk l p (by omega) (fun e he => Nat.le_trans (ho e he).2 (by decide)) H _ fun H1 f1 => ?_
  repeat (refine gk entU ?_)
  (apply r_call; (focus rfl))
  refine rget_spec L tk l p (by omega) _ _ ?_
  repeat (refine gk entU ?_)
  (apply r_call; (focus rfl))
  refine children_spec L tk l p (by omega) ho _ _ fun H2 f2 => ?_
  repeat (refine gk entU ?_)
  (apply r_call; (focus rfl))
  refine rchildren_spec L tk l p (by omega) ho _ _ fun H3 f3 => ?_
  have f4 := (f1.trans f2).trans f3
  repeat (refine gk entU ?_)
  refine c_loop (Spec_SMono L) (fun (i : Nat) => [(5, .lp 0 0), (6, .h (B (getR l p).2)), (7, .lp 1 0), (8, .h (B (getR l p).2)), (9, .h (.sl .no 1 ((chl l p).map S))), (10, .h (.sl .no 1 ((chl l p).map S))), (11, .h (I i))])
    (fun _ => [(0, [S (getR l p).1.path, B (getR l p).1.dir, .sl .no 1 ((getR l p).1.data.map U)]), (1, [S (getR l p).1.path, B (getR l p).1.dir, .sl .no 1 ((getR l p).1.data.map U)])])
    (fun i H' => H' = H3 ∧ i ≤ (chl l p).length) (fun i => (chl l p).length - i) 0 ?_ ⟨rfl, by simp⟩ ?_
  · (refine leM ?_ ?_ ?_ <;> (repeat refine leS trivial ?_) <;> exact leE)
  have hcl : (chl l p).length ≤ l.length := by rw [chl, List.length_map]; exact List.length_filter_le _ _
  rintro i H' ⟨rfl, hi⟩
  repeat (refine gk entU ?_)
  (refine ct entU ?_ ?_ <;> intro h)
  · have hi' : i < (chl l p).length := by simpa using h
    repeat (refine gk entU ?_)
    have e1 : ((chl l p)[i] == (chl l p)[i]) = true := by simp
    rw [e1]
    simp only [Bool.not_true]
    repeat (refine gk entU ?_)
    refine k_n (i + 1) (by omega) ⟨rfl, Nat.succ_le_of_lt hi'⟩ ?_
    (refine leM ?_ ?_ ?_ <;> (repeat refine leS trivial ?_) <;> exact leE)
  · repeat (refine gk entU ?_)
    (apply r_call; (focus rfl))
    refine sameE_spec L (getR l p).1 (getR l p).1 _ _ ?_
    rw [sameE_self]
    repeat (refine gk entU ?_)
    (apply r_call; (focus rfl))
    refine awake_spec L _ _ fun H4 f5 => ?_
    repeat (refine gk entU ?_)
    exact resK_some (hk H4 (f4.trans f5))
end Sm

set_option linter.unusedVariables false
set_option linter.unusedSimpArgs false
set_option maxRecDepth 10000
set_option maxHeartbeats 1000000
namespace Sm
open Go
-- BASE entU
theorem chkT_at {l : List Ent} (h : chkT l = 0) : ∀ i (hi : i < l.length), chkE (l.take i) l[i] = 0 := by
  have h0 : chkAll [] l = 0 := by
    rw [chkT] at h; split at h
    · cases h
    · exact h
  have key : ∀ i, i ≤ l.length → chkAll (l.take i) (l.drop i) = 0 ∧ ∀ j (hj : j < l.length), j < i → chkE (l.take j) l[j] = 0 := by
    intro i
    induction i with
    | zero => intro _; exact ⟨by simpa using h0, fun j _ hj => absurd hj (by omega)⟩
    | succ i ih =>
      intro hi
      obtain ⟨h1, h2⟩ := ih (by omega)
      rw [chkAll_step (show i < l.length by omega)] at h1
      split at h1
      · rename_i h3; exact absurd h1 h3
      · rename_i h3
        refine ⟨h1, fun j hj hji => ?_⟩
        by_cases e : j = i
        · subst e; exact Decidable.of_not_not h3
        · exact h2 j hj (by omega)
  exact fun i hi => (key l.length (Nat.le_refl _)).2 i hi hi
theorem find_set {l : List Ent} {x : Ent} {q : List UInt8} {i : Nat} (hi : i < l.length) (he : l[i].path = x.path) (hb : ∀ j (hj : j < i), (l[j]'(by omega)).path ≠ x.path) :
    (l.set i x).find? (fun e => e.path == q) = if x.path = q then some x else l.find? (fun e => e.path == q) := by
  have e1 : l.set i x = l.take i ++ x :: l.drop (i + 1) := by rw [List.set_eq_take_append_cons_drop, if_pos hi]
  have e2 : l = l.take i ++ l[i] :: l.drop (i + 1) := by rw [← List.drop_eq_getElem_cons hi, List.take_append_drop]
  split
  · rename_i hq
    subst hq
    rw [e1, List.find?_append]
    have : (l.take i).find? (fun e => e.path == x.path) = none := by
      rw [List.find?_eq_none]
      intro e he'
      obtain ⟨j, hj, rfl⟩ := List.getElem_of_mem he'
      simp only [List.length_take] at hj
      simp only [List.getElem_take, beq_iff_eq]
      exact hb j (by omega)
    rw [this]; simp
  · rename_i hq
    rw [e1]
    conv => rhs; rw [e2]
    rw [List.find?_append, List.find?_append, List.find?_cons_of_neg (by simpa using hq), List.find?_cons_of_neg (by rw [he]; simpa using hq)]
theorem find_ins {l : List Ent} {x : Ent} {q : List UInt8} {k : Nat} (hn : ∀ e ∈ l, e.path ≠ x.path) :
    (l.take k ++ x :: l.drop k).find? (fun e => e.path == q) = if x.path = q then some x else l.find? (fun e => e.path == q) := by
  split
  · rename_i hq
    subst hq
    rw [List.find?_append]
    have : (l.take k).find? (fun e => e.path == x.path) = none := by
      rw [List.find?_eq_none]
      intro e he
      simpa using hn e (List.mem_of_mem_take he)
    rw [this]; simp
  · rename_i hq
    conv => rhs; rw [← List.take_append_drop k l]
    rw [List.find?_append, List.find?_append, List.find?_cons_of_neg (by simpa using hq)]
/-- What is found in a list that an entry was put into. -/
theorem find_putL (l : List Ent) (x : Ent) (q : List UInt8) : (putL l x).find? (fun e => e.path == q) = if x.path = q then some x else l.find? (fun e => e.path == q) := by
  rcases firstIdx_cases (fun e : Ent => e.path == x.path) l with ⟨h1, h2⟩ | ⟨i, hi, h1, h2, h3, h4⟩
  · rw [putL, h1, if_pos (by decide)]
    refine find_ins fun e he => ?_
    have := List.find?_eq_none.mp h2 e he
    simpa using this
  · rw [putL, h1, if_neg (by omega)]
    exact find_set hi (by simpa using h3) fun j hj => by simpa using h4 j hj
theorem getR_put (l : List Ent) (x : Ent) (q : List UInt8) : getR (putL l x) q = if x.path = q then (x, true) else getR l q := by
  unfold getR
  rw [find_putL]
  by_cases h : x.path = q
  · rw [if_pos h, if_pos h]
  · rw [if_neg h, if_neg h]
theorem chkE_ok {a : List Ent} {x : Ent} (h : chkE a x = 0) : chkP x.path = 0 ∧ (parL x.path = [] ∨ (getR a (parL x.path)).2 = true) := by
  rw [chkE] at h
  split at h
  · rename_i h1; exact absurd h h1
  rename_i h1
  refine ⟨Decidable.of_not_not h1, ?_⟩
  split at h
  · cases h
  split at h
  · cases h
  split at h
  · cases h
  split at h
  · cases h
  split at h
  · rename_i h2; exact .inl h2
  split at h
  · cases h
  rename_i h2
  exact .inr (by simpa using h2)
theorem getR_mem {l : List Ent} {q : List UInt8} (h : (getR l q).2 = true) : ∃ e ∈ l, e.path = q := by
  unfold getR at h
  split at h
  · rename_i e he
    exact ⟨e, List.mem_of_find?_eq_some he, by simpa using List.find?_some he⟩
  · cases h
theorem path_ne {a : List Ent} {x : Ent} (h : chkE a x = 0) : x.path ≠ [] := by
  intro e
  have := (chkE_ok h).1
  rw [e] at this
  exact absurd this (by decide)
/-- Nothing lies in what is not there. -/
theorem par_ne {l : List Ent} {q : List UInt8} (h : chkT l = 0) (hn : ∀ e ∈ l, e.path ≠ q) (hq : q ≠ []) : ∀ e ∈ l, parL e.path ≠ q := by
  intro e he hp
  obtain ⟨i, hi, rfl⟩ := List.getElem_of_mem he
  rcases (chkE_ok (chkT_at h i hi)).2 with h1 | h1
  · exact hq (hp ▸ h1)
  · rw [hp] at h1
    obtain ⟨y, hy, hyp⟩ := getR_mem h1
    exact hn y (List.mem_of_mem_take hy) hyp
theorem rem_put {l : List Ent} {x : Ent} (h : chkT l = 0) (hf : (getR l x.path).2 = false) (hm : chkT (putL l x) = 0) : remR (putL l x) x.path = (l, 0) := by
  have hnone : l.find? (fun e => e.path == x.path) = none := by
    unfold getR at hf
    split at hf
    · cases hf
    · assumption
  have hn : ∀ e ∈ l, e.path ≠ x.path := fun e he => by simpa using List.find?_eq_none.mp hnone e he
  have hi1 : firstIdx (fun e : Ent => e.path == x.path) l = -1 := firstIdx_none fun j hj => by simpa using hn _ (List.getElem_mem hj)
  have hput : putL l x = l.take (insAt l x) ++ x :: l.drop (insAt l x) := by rw [putL, hi1]; rfl
  have hk := insAt_le l x
  generalize insAt l x = k at hput hk
  have htk : (l.take k).length = k := by rw [List.length_take]; omega
  have hkl : k < (putL l x).length := by rw [hput]; simp; omega
  have hat : (putL l x)[k] = x := by simp only [hput]; rw [List.getElem_append_right (by omega)]; simp [htk]
  have htake : (putL l x).take k = l.take k := by rw [hput, List.take_left' htk]
  have hck := chkT_at hm k hkl
  rw [hat, htake] at hck
  have hx0 := path_ne hck
  have hself : parL x.path ≠ x.path := by
    intro e
    rcases (chkE_ok hck).2 with h1 | h1
    · exact hx0 (e ▸ h1)
    · rw [e] at h1
      obtain ⟨y, hy, hyp⟩ := getR_mem h1
      exact hn y (List.mem_of_mem_take hy) hyp
  have hchl : chl (putL l x) x.path = [] := by
    rw [chl, List.map_eq_nil_iff, List.filter_eq_nil_iff]
    intro e he
    rcases putL_mem he with he | rfl
    · simpa using par_ne h hn hx0 e he
    · simpa using hself
  have hidx : firstIdx (fun e : Ent => e.path == x.path) (putL l x) = k := by
    refine firstIdx_some hkl (by rw [hat]; simp) fun j hj => ?_
    have e1 : (putL l x)[j]'(by omega) = l[j]'(by omega) := by
      simp only [hput]
      rw [List.getElem_append_left (by omega), List.getElem_take]
    rw [e1]; simpa using hn _ (List.getElem_mem _)
  have hcut : cutL (putL l x) x.path = l := by
    rw [cutL, hidx, Int.toNat_natCast, htake, hput, ← List.drop_drop, List.drop_left' htk]
    simp
  rw [remR, if_neg (by simp [hm]), find_putL, if_pos rfl]
  simp [hchl, hcut]
theorem putR_err {l : List Ent} {x : Ent} (h : (putR l x).2 ≠ 0) : (putR l x).1 = [] := by
  unfold putR at h ⊢
  split
  · rfl
  split
  · rfl
  split
  · rfl
  · rename_i h1 h2 h3; rw [if_neg h1, if_neg h2, if_neg h3] at h; exact absurd rfl h
theorem putR_ok {l : List Ent} {x : Ent} (h : (putR l x).2 = 0) : (putR l x).1 = putL l x ∧ chkT l = 0 ∧ chkT (putL l x) = 0 := by
  unfold putR at h ⊢
  split at h
  · rename_i h1; exact absurd h h1
  rename_i h1
  split at h
  · cases h
  rename_i h2
  split at h
  · rename_i h3; exact absurd h h3
  rename_i h3
  rw [if_neg h1, if_neg h2, if_neg h3]
  exact ⟨rfl, Decidable.of_not_not h1, Decidable.of_not_not h3⟩
theorem putL_was {l : List Ent} {x : Ent} (h : (getR l x.path).2 = true) : (putL l x).length = l.length := by
  rcases firstIdx_cases (fun e : Ent => e.path == x.path) l with ⟨h1, h2⟩ | ⟨i, hi, h1, h2, h3, h4⟩
  · rw [getR, h2] at h; cases h
  · rw [putL, h1, if_neg (by omega)]; simp
theorem sameT_self : ∀ l : List Ent, sameT l l = true
  | [] => rfl
  | a :: as => by rw [sameT, sameE_self, sameT_self as]; rfl
end Sm

set_option linter.unusedVariables false
set_option linter.unusedSimpArgs false
set_option maxRecDepth 10000
set_option maxHeartbeats 1000000
namespace Sm
open Go
-- BASE entU
attribute [local irreducible] csem rsem dsem seqK blockK normK finK DK RK JK BR G3 resK Spec Tok Fr
theorem back_spec (L : Linked code) (tk : Tk) (l : List Ent) (x : Ent) (p : List UInt8) : PureF L 226 [.sl tk 3 (l.map encE), encE x, S p] (B true) := by
  intro H K hk
  refine go_spec L code226 rfl ?_
  repeat (refine gk entU ?_)
  (apply r_call; (focus rfl))
  refine light_spec L tk l 60 20000 (by decide) (by decide) H _ ?_
  cases c1 : light l 60 20000
  case false =>
    repeat (refine gk entU ?_)
    (apply r_call; (focus rfl))
    refine awake_spec L _ _ fun H1 f1 => ?_
    repeat (refine gk entU ?_)
    exact resK_some (hk H1 f1)
  obtain ⟨hl, ho⟩ := light_ok (by decide) c1
  repeat (refine gk entU ?_)
  (apply r_call; (focus rfl))
  refine light_spec L .full [x] 1 20000 (by decide) (by decide) H _ ?_
  cases c2 : light [x] 1 20000
  case false =>
    repeat (refine gk entU ?_)
    (apply r_call; (focus rfl))
    refine awake_spec L _ _ fun H1 f1 => ?_
    repeat (refine gk entU ?_)
    exact resK_some (hk H1 f1)
  obtain ⟨_, hx⟩ := light_ok (by decide) c2
  replace hx := hx x (by simp)
  repeat (refine gk entU ?_)
  cases c3 : decide ((1000 : Int) < (p.length : Int))
  case true =>
    repeat (refine gk entU ?_)
    (apply r_call; (focus rfl))
    refine awake_spec L _ _ fun H1 f1 => ?_
    repeat (refine gk entU ?_)
    exact resK_some (hk H1 f1)
  have hdl : ∀ e ∈ l, e.data.length ≤ 140737488355328 := fun e he => Nat.le_trans (ho e he).2 (by decide)
  have hdm : ∀ e ∈ putL l x, e.data.length ≤ 140737488355328 := fun e he => (putL_mem he).elim (hdl e) (fun h => h ▸ Nat.le_trans hx.2 (by decide))
  have hom : ∀ e ∈ putL l x, okE e := fun e he => (putL_mem he).elim (ho e) (fun h => h ▸ hx)
  have hlm := putL_len l x
  repeat (refine gk entU ?_)
  (apply r_call; (focus rfl))
  refine get_spec L tk l x.path (by omega) hdl H _ fun H1 f1 => ?_
  repeat (refine gk entU ?_)
  (apply r_call; (focus rfl))
  refine put_spec L tk l x (by omega) ho hx _ _ fun H2 f2 => ?_
  have f3 := f1.trans f2
  repeat (refine gk entU ?_)
  cases c4 : ((putR l x).2 != 0)
  case true =>
    rw [putR_err (by simpa [bne] using c4)]
    repeat (refine gk entU ?_)
    (apply r_call; (focus rfl))
    refine awake_spec L _ _ fun H3 f4 => ?_
    repeat (refine gk entU ?_)
    exact resK_some (hk H3 (f3.trans f4))
  have c5 : (putR l x).2 = 0 := by simpa [bne] using c4
  obtain ⟨m1, m2, m3⟩ := putR_ok c5
  rw [m1, c5]
  repeat (refine gk entU ?_)
  (apply r_call; (focus rfl))
  refine get_spec L .no (putL l x) x.path (by omega) hdm _ _ fun H3 f4 => ?_
  rw [getR_put, if_pos rfl]
  repeat (refine gk entU ?_)
  (apply r_call; (focus rfl))
  refine get_spec L tk l p (by omega) hdl _ _ fun H4 f5 => ?_
  repeat (refine gk entU ?_)
  (apply r_call; (focus rfl))
  refine get_spec L .no (putL l x) p (by omega) hdm _ _ fun H5 f6 => ?_
  repeat (refine gk entU ?_)
  (apply r_call; (focus rfl))
  refine sameE_spec L x x _ _ ?_
  rw [sameE_self]
  repeat (refine gk entU ?_)
  (apply r_call; (focus rfl))
  refine check_spec L .no (putL l x) (by omega) hom _ _ fun H6 g7 => ?_
  rw [m3]
  have f9 := (((f3.trans f4).trans f5).trans f6).trans g7
  repeat (refine gk entU ?_)
  cases c6 : (p == x.path)
  case true =>
    simp only [Bool.not_true]
    repeat (refine gk entU ?_)
    cases c7 : (getR l x.path).2
    case true =>
      repeat (refine gk entU ?_)
      have e7 : ((((putL l x).length : Nat) : Int) == ((l.length : Nat) : Int)) = true := by rw [putL_was c7]; simp
      rw [e7]
      repeat (refine gk entU ?_)
      (apply r_call; (focus rfl))
      refine awake_spec L _ _ fun H8 f8 => ?_
      repeat (refine gk entU ?_)
      exact resK_some (hk H8 (f9.trans f8))
    repeat (refine gk entU ?_)
    (apply r_call; (focus rfl))
    refine remove_spec L .no (putL l x) x.path (by omega) hom _ _ fun H7 f7 => ?_
    rw [rem_put m2 c7 m3]
    repeat (refine gk entU ?_)
    (apply r_call; (focus rfl))
    refine same_spec L .no tk l l (by omega) _ _ ?_
    rw [sameT_self]
    repeat (refine gk entU ?_)
    (apply r_call; (focus rfl))
    refine awake_spec L _ _ fun H8 f8 => ?_
    repeat (refine gk entU ?_)
    exact resK_some (hk H8 ((f9.trans f7).trans f8))
  have c8 : ¬ x.path = p := fun e => by rw [e] at c6; simp at c6
  rw [getR_put, if_neg c8]
  simp only [Bool.not_false]
  repeat (refine gk entU ?_)
  (apply r_call; (focus rfl))
  refine sameE_spec L (getR l p).1 (getR l p).1 _ _ ?_
  rw [sameE_self]
  repeat (refine gk entU ?_)
  cases c7 : (getR l x.path).2
  case true =>
    repeat (refine gk entU ?_)
    have e7 : ((((putL l x).length : Nat) : Int) == ((l.length : Nat) : Int)) = true := by rw [putL_was c7]; simp
    rw [e7]
    repeat (refine gk entU ?_)
    (apply r_call; (focus rfl))
    refine awake_spec L _ _ fun H8 f8 => ?_
    repeat (refine gk entU ?_)
    exact resK_some (hk H8 (f9.trans f8))
  repeat (refine gk entU ?_)
  (apply r_call; (focus rfl))
  refine remove_spec L .no (putL l x) x.path (by omega) hom _ _ fun H7 f7 => ?_
  rw [rem_put m2 c7 m3]
  repeat (refine gk entU ?_)
  (apply r_call; (focus rfl))
  refine same_spec L .no tk l l (by omega) _ _ ?_
  rw [sameT_self]
  repeat (refine gk entU ?_)
  (apply r_call; (focus rfl))
  refine awake_spec L _ _ fun H8 f8 => ?_
  repeat (refine gk entU ?_)
  exact resK_some (hk H8 ((f9.trans f7).trans f8))
end Sm
