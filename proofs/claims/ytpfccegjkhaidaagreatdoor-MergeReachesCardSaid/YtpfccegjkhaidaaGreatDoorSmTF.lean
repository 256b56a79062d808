/-
  A layer of one's own: texts T29,T30,T31.
-/
import Derived.Test.YtpfccegjkhaidaaGreatDoorSmTE
set_option linter.unusedVariables false
set_option linter.unusedSimpArgs false
set_option maxRecDepth 10000
set_option maxHeartbeats 1000000
namespace Sm
open Go
-- BASE entU
theorem cut_filter {l : List Ent} {p : List UInt8} {i : Nat} (h : chkT l = 0) (hi : i < l.length) (hp : l[i].path = p) : l.filter (fun e => !(e.path == p)) = l.take i ++ l.drop (i + 1) := by
  have e1 : l = l.take i ++ l[i] :: l.drop (i + 1) := by rw [← List.drop_eq_getElem_cons hi, List.take_append_drop]
  have k1 : (l.take i).filter (fun e => !(e.path == p)) = l.take i := by
    rw [List.filter_eq_self]
    intro e he
    obtain ⟨j, hj, rfl⟩ := List.getElem_of_mem he
    rw [List.length_take] at hj
    simp only [List.getElem_take, Bool.not_eq_true', beq_eq_false_iff_ne, ne_eq]
    intro e2
    have hj2 : j < l.length := by omega
    have := path_inj h hj2 hi (e2.trans hp.symm)
    omega
  have k2 : (l.drop (i + 1)).filter (fun e => !(e.path == p)) = l.drop (i + 1) := by
    rw [List.filter_eq_self]
    intro e he
    obtain ⟨j, hj, rfl⟩ := List.getElem_of_mem he
    rw [List.length_drop] at hj
    simp only [List.getElem_drop, Bool.not_eq_true', beq_eq_false_iff_ne, ne_eq]
    intro e2
    have hj2 : i + 1 + j < l.length := by omega
    have := path_inj h hj2 hi (e2.trans hp.symm)
    omega
  conv => lhs; rw [e1]
  rw [List.filter_append, List.filter_cons_of_neg (by simp [hp]), k1, k2]
/-- Both ways of removing leave the same. -/
theorem rem_eq (l : List Ent) (p : List UInt8) : remR l p = rremR l p := by
  unfold remR rremR
  by_cases h : chkT l = 0
  · rw [if_neg (by simp [h]), if_neg (by simp [h])]
    rcases firstIdx_cases (fun e : Ent => e.path == p) l with ⟨h1, h2⟩ | ⟨i, hi, h1, h2, h3, h4⟩
    · have hg : getR l p = (zE, false) := by rw [getR, h2]
      rw [h2, hg]; rfl
    · have hg : getR l p = (l[i], true) := by rw [getR, h2]
      have hc : cutL l p = l.filter (fun e => !(e.path == p)) := by
        rw [cut_filter h hi (by simpa using h3), cutL, h1]; rfl
      rw [h2, hg, hc]; rfl
  · rw [if_pos h, if_pos h]
end Sm

set_option linter.unusedVariables false
set_option linter.unusedSimpArgs false
set_option maxRecDepth 10000
set_option maxHeartbeats 1000000
namespace Sm
open Go
-- BASE entU
theorem splA_join : ∀ l : List UInt8, (splA l).1 ++ (splA l).2.flatMap (fun s => 47 :: s) = l
  | [] => rfl
  | b :: l => by
    have ih := splA_join l
    by_cases hb : (b == 47) = true
    · simp only [splA, hb, if_true, List.flatMap_cons, List.nil_append, List.cons_append, ih]
      rw [show b = 47 by simpa using hb]
    · simp only [splA, if_neg hb, List.cons_append, ih]
theorem segs_inj {a b : List UInt8} (h : segs a = segs b) : a = b := by
  simp only [segs, List.cons.injEq] at h
  rw [← splA_join a, ← splA_join b, h.1, h.2]
theorem spl_inj {a b : List UInt8} (h : spl a = spl b) : a = b := by
  unfold spl at h
  split at h
  · split at h
    · simp_all
    · simp [segs] at h
  · split at h
    · simp [segs] at h
    · exact segs_inj h
theorem bl_tot : ∀ {a b : List UInt8}, Op.bytesLess a b = false → a ≠ b → Op.bytesLess b a = true
  | [], [], _, h => absurd rfl h
  | [], _ :: _, h, _ => by simp [Op.bytesLess] at h
  | _ :: _, [], _, _ => by simp [Op.bytesLess]
  | x :: a, y :: b, h1, h2 => by
    have ih := @bl_tot a b
    simp only [Op.bytesLess, Bool.or_eq_false_iff, decide_eq_false_iff_not, Bool.and_eq_false_iff, beq_eq_false_iff_ne, UInt8.lt_iff_toNat_lt] at h1
    simp only [Op.bytesLess, Bool.or_eq_true, decide_eq_true_eq, Bool.and_eq_true, beq_iff_eq, UInt8.lt_iff_toNat_lt]
    by_cases e : x = y
    · subst e
      refine .inr ⟨rfl, ih ?_ fun e2 => h2 (by rw [e2])⟩
      rcases h1.2 with h3 | h3
      · exact absurd rfl h3
      · exact h3
    · left
      have : x.toNat ≠ y.toNat := fun e2 => e (UInt8.toNat_inj.mp e2)
      omega
theorem cmpL_tot : ∀ {x y : List (List UInt8)}, ¬ cmpL x y < 0 → x ≠ y → cmpL y x < 0
  | [], [], _, h => absurd rfl h
  | [], _ :: _, h, _ => by rw [cmpL] at h; omega
  | _ :: _, [], _, _ => by rw [cmpL]; decide
  | a :: x, b :: y, h1, h2 => by
    have ih := @cmpL_tot x y
    rw [cmpL] at h1 ⊢
    by_cases e : a = b
    · subst e
      rw [if_pos (cmpS_eq.mpr rfl)] at h1 ⊢
      exact ih h1 fun e2 => h2 (by rw [e2])
    · have e1 : cmpS a b ≠ 0 := fun h => e (cmpS_eq.mp h)
      have e2 : cmpS b a ≠ 0 := fun h => e (cmpS_eq.mp h).symm
      rw [if_neg e1] at h1
      rw [if_neg e2, cmpS_lt2]
      refine bl_tot ?_ e
      cases hb : Op.bytesLess a b
      · rfl
      · exact absurd (cmpS_lt2.mpr hb) h1
/-- Of two paths that differ one is less. -/
theorem lessP_tot {a b : List UInt8} (h : lessP a b = false) (hn : a ≠ b) : lessP b a = true := by
  simp only [lessP, decide_eq_true_eq, decide_eq_false_iff_not] at *
  exact cmpL_tot h fun e => hn (spl_inj e)
end Sm

set_option linter.unusedVariables false
set_option linter.unusedSimpArgs false
set_option maxRecDepth 10000
set_option maxHeartbeats 1000000
namespace Sm
open Go
-- BASE entU
theorem fold_less (x : Ent) : ∀ (A o : List Ent), (∀ e ∈ A, lessP e.path x.path = true) → A.foldl (fun s e => st2 x (st1 x s e) e) (o, false) = (o ++ A, false)
  | [], o, _ => by simp
  | e :: A, o, h => by
    have h1 := h e (by simp)
    have h2 : (e.path == x.path) = false := by
      rw [beq_eq_false_iff_ne]
      intro e2
      rw [e2, lessP_irr] at h1; cases h1
    have e1 : st2 x (st1 x (o, false) e) e = (o ++ [e], false) := by simp [st1, st2, h1, h2]
    rw [List.foldl_cons, e1, fold_less x A (o ++ [e]) fun y hy => h y (by simp [hy]), List.append_assoc]; rfl
theorem fold_done (x : Ent) : ∀ (A o : List Ent), A.foldl (fun s e => st2 x (st1 x s e) e) (o, true) = (o ++ A.filter (fun e => !(e.path == x.path)), true)
  | [], o => by simp
  | e :: A, o => by
    rw [List.foldl_cons, List.filter_cons]
    cases h2 : e.path == x.path
    · have e1 : st2 x (st1 x (o, true) e) e = (o ++ [e], true) := by simp [st1, st2, h2]
      rw [e1, fold_done x A (o ++ [e])]; simp
    · have e1 : st2 x (st1 x (o, true) e) e = (o, true) := by simp [st1, st2, h2]
      rw [e1, fold_done x A o]; simp
theorem rput_split {l : List Ent} {x : Ent} {j : Nat} (hb : ∀ e ∈ l.take j, lessP e.path x.path = true) (ha : ∀ h : j < l.length, lessP l[j].path x.path = false) : rputL l x = l.take j ++ x :: (l.drop j).filter (fun e => !(e.path == x.path)) := by
  have e0 : rout l x l.length = (l.drop j).foldl (fun s e => st2 x (st1 x s e) e) (l.take j, false) := by
    rw [rout, List.take_length]
    conv => lhs; rw [← List.take_append_drop j l]
    rw [List.foldl_append, fold_less x _ [] hb, List.nil_append]
  by_cases hj : j < l.length
  · have h1 := ha hj
    rw [List.drop_eq_getElem_cons hj, List.foldl_cons] at e0
    have e2 : st2 x (st1 x (l.take j, false) l[j]) l[j] = st2 x (st1 x (l.take j ++ [x], true) l[j]) l[j] := by simp [st1, h1]
    rw [e2] at e0
    have e3 := fold_done x (l[j] :: l.drop (j + 1)) (l.take j ++ [x])
    rw [List.foldl_cons] at e3
    rw [e3] at e0
    rw [rputL, e0, List.drop_eq_getElem_cons hj]
    simp
  · rw [List.drop_of_length_le (by omega)] at e0 ⊢
    rw [rputL, e0]; simp
/-- Both ways of putting leave the same. -/
theorem put_eqL {l : List Ent} {x : Ent} (h : chkT l = 0) : rputL l x = putL l x := by
  rcases firstIdx_cases (fun e : Ent => e.path == x.path) l with ⟨h1, h2⟩ | ⟨i, hi, h1, h2, h3, h4⟩
  · have hn : ∀ e ∈ l, e.path ≠ x.path := fun e he => by simpa using List.find?_eq_none.mp h2 e he
    have hp : putL l x = l.take (insAt l x) ++ x :: l.drop (insAt l x) := by rw [putL, h1]; rfl
    have hf : ∀ k, (l.drop k).filter (fun e => !(e.path == x.path)) = l.drop k := fun k => by
      rw [List.filter_eq_self]; intro e he; simpa using hn e (List.mem_of_mem_drop he)
    rw [hp, rput_split (j := insAt l x), hf]
    · intro e he
      have hne := hn e (List.mem_of_mem_take he)
      obtain ⟨k, hk, rfl⟩ := List.getElem_of_mem he
      rw [List.length_take] at hk
      simp only [List.getElem_take] at hne ⊢
      refine lessP_tot ?_ (Ne.symm hne)
      rcases firstIdx_cases (fun y : Ent => lessP x.path y.path) l with ⟨k1, k2⟩ | ⟨m, hm, k1, k2, k3, k4⟩
      · have := List.find?_eq_none.mp k2 _ (List.getElem_mem (show k < l.length by omega))
        simpa using this
      · have e1 : insAt l x = m := by rw [insAt, k1, if_neg (by omega)]; rfl
        exact k4 k (by omega)
    · intro hj
      rcases firstIdx_cases (fun y : Ent => lessP x.path y.path) l with ⟨k1, k2⟩ | ⟨m, hm, k1, k2, k3, k4⟩
      · have e1 : insAt l x = l.length := by rw [insAt, k1]; rfl
        omega
      · have e1 : insAt l x = m := by rw [insAt, k1, if_neg (by omega)]; rfl
        have k5 : lessP x.path (l[insAt l x]).path = true := by simp only [e1]; exact k3
        cases e2 : lessP (l[insAt l x]).path x.path
        · rfl
        · have := lessP_trans k5 e2
          rw [lessP_irr] at this; cases this
  · have h3' : l[i].path = x.path := by simpa using h3
    have hp : putL l x = l.take i ++ x :: l.drop (i + 1) := by
      rw [putL, h1, if_neg (by omega), Int.toNat_natCast, List.set_eq_take_append_cons_drop, if_pos hi]
    rw [hp, rput_split (j := i)]
    · have e1 := cut_filter h hi h3'
      have e2 : l.filter (fun e => !(e.path == x.path)) = (l.take i).filter (fun e => !(e.path == x.path)) ++ (l.drop i).filter (fun e => !(e.path == x.path)) := by
        conv => lhs; rw [← List.take_append_drop i l]
        rw [List.filter_append]
      have e3 : (l.take i).filter (fun e => !(e.path == x.path)) = l.take i := by
        rw [List.filter_eq_self]; intro e he
        obtain ⟨j, hj, rfl⟩ := List.getElem_of_mem he
        rw [List.length_take] at hj
        simp only [List.getElem_take]
        simpa using h4 j (by omega)
      rw [e3, e1] at e2
      rw [← List.append_cancel_left e2]
    · intro e he
      obtain ⟨k, hk, rfl⟩ := List.getElem_of_mem he
      rw [List.length_take] at hk
      simp only [List.getElem_take]
      rw [← h3']
      exact rise_all h i hi (by omega)
    · intro hj; rw [h3', lessP_irr]
theorem put_eq (l : List Ent) (x : Ent) : putR l x = rputR l x := by
  unfold putR rputR
  by_cases h : chkT l = 0
  · have h0 : ¬ chkT l ≠ 0 := by simp [h]
    rw [if_neg h0, if_neg h0, put_eqL h]
    have e : (l.find? (fun e => e.path == x.path)).any (fun e => e.dir != x.dir) = ((getR l x.path).2 && !((getR l x.path).1.dir == x.dir)) := by
      unfold getR
      cases l.find? (fun e => e.path == x.path) <;> rfl
    rw [e]
  · rw [if_pos h, if_pos h]
end Sm
