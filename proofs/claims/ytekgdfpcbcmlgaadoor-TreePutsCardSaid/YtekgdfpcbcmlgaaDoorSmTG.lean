/-
  A layer of one's own: texts T29,T30,T31,T32,T33.
-/
import Derived.Test.YtekgdfpcbcmlgaaDoorSmTF
import Derived.Test.YtekgdfpcbcmlgaaDoorSmLH
set_option linter.unusedVariables false
set_option linter.unusedSimpArgs false
set_option maxRecDepth 10000
set_option maxHeartbeats 1000000
namespace Sm
open Go
-- BASE entU
theorem cut_filter {l : List Ent} {p : List UInt8} {i : Nat} (h : chkT l = 0) (hi : i < l.length) (hp : l[i].path = p) : l.filter (fun e => !(e.path == p)) = l.take i ++ l.drop (i + 1) := by
  have e1 : l = l.take i ++ l[i] :: l.drop (i + 1) := by rw [← List.drop_eq_getElem_cons hi, List.take_append_drop]
  have k1 : (l.take i).filter (fun e => !(e.path == p)) = l.take i := by
    rw [List.filter_eq_self]
    intro e he
    obtain ⟨j, hj, rfl⟩ := List.getElem_of_mem he
    rw [List.length_take] at hj
    simp only [List.getElem_take, Bool.not_eq_true', beq_eq_false_iff_ne, ne_eq]
    intro e2
    have hj2 : j < l.length := by omega
    have := path_inj h hj2 hi (e2.trans hp.symm)
    omega
  have k2 : (l.drop (i + 1)).filter (fun e => !(e.path == p)) = l.drop (i + 1) := by
    rw [List.filter_eq_self]
    intro e he
    obtain ⟨j, hj, rfl⟩ := List.getElem_of_mem he
    rw [List.length_drop] at hj
    simp only [List.getElem_drop, Bool.not_eq_true', beq_eq_false_iff_ne, ne_eq]
    intro e2
    have hj2 : i + 1 + j < l.length := by omega
    have := path_inj h hj2 hi (e2.trans hp.symm)
    omega
  conv => lhs; rw [e1]
  rw [List.filter_append, List.filter_cons_of_neg (by simp [hp]), k1, k2]
/-- Both ways of removing leave the same. -/
theorem rem_eq (l : List Ent) (p : List UInt8) : remR l p = rremR l p := by
  unfold remR rremR
  by_cases h : chkT l = 0
  · rw [if_neg (by simp [h]), if_neg (by simp [h])]
    rcases firstIdx_cases (fun e : Ent => e.path == p) l with ⟨h1, h2⟩ | ⟨i, hi, h1, h2, h3, h4⟩
    · have hg : getR l p = (zE, false) := by rw [getR, h2]
      rw [h2, hg]; rfl
    · have hg : getR l p = (l[i], true) := by rw [getR, h2]
      have hc : cutL l p = l.filter (fun e => !(e.path == p)) := by
        rw [cut_filter h hi (by simpa using h3), cutL, h1]; rfl
      rw [h2, hg, hc]; rfl
  · rw [if_pos h, if_pos h]
end Sm

set_option linter.unusedVariables false
set_option linter.unusedSimpArgs false
set_option maxRecDepth 10000
set_option maxHeartbeats 1000000
namespace Sm
open Go
-- BASE entU
theorem splA_join : ∀ l : List UInt8, (splA l).1 ++ (splA l).2.flatMap (fun s => 47 :: s) = l
  | [] => rfl
  | b :: l => by
    have ih := splA_join l
    by_cases hb : (b == 47) = true
    · simp only [splA, hb, if_true, List.flatMap_cons, List.nil_append, List.cons_append, ih]
      rw [show b = 47 by simpa using hb]
    · simp only [splA, if_neg hb, List.cons_append, ih]
theorem segs_inj {a b : List UInt8} (h : segs a = segs b) : a = b := by
  simp only [segs, List.cons.injEq] at h
  rw [← splA_join a, ← splA_join b, h.1, h.2]
theorem spl_inj {a b : List UInt8} (h : spl a = spl b) : a = b := by
  unfold spl at h
  split at h
  · split at h
    · simp_all
    · simp [segs] at h
  · split at h
    · simp [segs] at h
    · exact segs_inj h
theorem bl_tot : ∀ {a b : List UInt8}, Op.bytesLess a b = false → a ≠ b → Op.bytesLess b a = true
  | [], [], _, h => absurd rfl h
  | [], _ :: _, h, _ => by simp [Op.bytesLess] at h
  | _ :: _, [], _, _ => by simp [Op.bytesLess]
  | x :: a, y :: b, h1, h2 => by
    have ih := @bl_tot a b
    simp only [Op.bytesLess, Bool.or_eq_false_iff, decide_eq_false_iff_not, Bool.and_eq_false_iff, beq_eq_false_iff_ne, UInt8.lt_iff_toNat_lt] at h1
    simp only [Op.bytesLess, Bool.or_eq_true, decide_eq_true_eq, Bool.and_eq_true, beq_iff_eq, UInt8.lt_iff_toNat_lt]
    by_cases e : x = y
    · subst e
      refine .inr ⟨rfl, ih ?_ fun e2 => h2 (by rw [e2])⟩
      rcases h1.2 with h3 | h3
      · exact absurd rfl h3
      · exact h3
    · left
      have : x.toNat ≠ y.toNat := fun e2 => e (UInt8.toNat_inj.mp e2)
      omega
theorem cmpL_tot : ∀ {x y : List (List UInt8)}, ¬ cmpL x y < 0 → x ≠ y → cmpL y x < 0
  | [], [], _, h => absurd rfl h
  | [], _ :: _, h, _ => by rw [cmpL] at h; omega
  | _ :: _, [], _, _ => by rw [cmpL]; decide
  | a :: x, b :: y, h1, h2 => by
    have ih := @cmpL_tot x y
    rw [cmpL] at h1 ⊢
    by_cases e : a = b
    · subst e
      rw [if_pos (cmpS_eq.mpr rfl)] at h1 ⊢
      exact ih h1 fun e2 => h2 (by rw [e2])
    · have e1 : cmpS a b ≠ 0 := fun h => e (cmpS_eq.mp h)
      have e2 : cmpS b a ≠ 0 := fun h => e (cmpS_eq.mp h).symm
      rw [if_neg e1] at h1
      rw [if_neg e2, cmpS_lt2]
      refine bl_tot ?_ e
      cases hb : Op.bytesLess a b
      · rfl
      · exact absurd (cmpS_lt2.mpr hb) h1
/-- Of two paths that differ one is less. -/
theorem lessP_tot {a b : List UInt8} (h : lessP a b = false) (hn : a ≠ b) : lessP b a = true := by
  simp only [lessP, decide_eq_true_eq, decide_eq_false_iff_not] at *
  exact cmpL_tot h fun e => hn (spl_inj e)
end Sm

set_option linter.unusedVariables false
set_option linter.unusedSimpArgs false
set_option maxRecDepth 10000
set_option maxHeartbeats 1000000
namespace Sm
open Go
-- BASE entU
theorem fold_less (x : Ent) : ∀ (A o : List Ent), (∀ e ∈ A, lessP e.path x.path = true) → A.foldl (fun s e => st2 x (st1 x s e) e) (o, false) = (o ++ A, false)
  | [], o, _ => by simp
  | e :: A, o, h => by
    have h1 := h e (by simp)
    have h2 : (e.path == x.path) = false := by
      rw [beq_eq_false_iff_ne]
      intro e2
      rw [e2, lessP_irr] at h1; cases h1
    have e1 : st2 x (st1 x (o, false) e) e = (o ++ [e], false) := by simp [st1, st2, h1, h2]
    rw [List.foldl_cons, e1, fold_less x A (o ++ [e]) fun y hy => h y (by simp [hy]), List.append_assoc]; rfl
theorem fold_done (x : Ent) : ∀ (A o : List Ent), A.foldl (fun s e => st2 x (st1 x s e) e) (o, true) = (o ++ A.filter (fun e => !(e.path == x.path)), true)
  | [], o => by simp
  | e :: A, o => by
    rw [List.foldl_cons, List.filter_cons]
    cases h2 : e.path == x.path
    · have e1 : st2 x (st1 x (o, true) e) e = (o ++ [e], true) := by simp [st1, st2, h2]
      rw [e1, fold_done x A (o ++ [e])]; simp
    · have e1 : st2 x (st1 x (o, true) e) e = (o, true) := by simp [st1, st2, h2]
      rw [e1, fold_done x A o]; simp
theorem rput_split {l : List Ent} {x : Ent} {j : Nat} (hb : ∀ e ∈ l.take j, lessP e.path x.path = true) (ha : ∀ h : j < l.length, lessP l[j].path x.path = false) : rputL l x = l.take j ++ x :: (l.drop j).filter (fun e => !(e.path == x.path)) := by
  have e0 : rout l x l.length = (l.drop j).foldl (fun s e => st2 x (st1 x s e) e) (l.take j, false) := by
    rw [rout, List.take_length]
    conv => lhs; rw [← List.take_append_drop j l]
    rw [List.foldl_append, fold_less x _ [] hb, List.nil_append]
  by_cases hj : j < l.length
  · have h1 := ha hj
    rw [List.drop_eq_getElem_cons hj, List.foldl_cons] at e0
    have e2 : st2 x (st1 x (l.take j, false) l[j]) l[j] = st2 x (st1 x (l.take j ++ [x], true) l[j]) l[j] := by simp [st1, h1]
    rw [e2] at e0
    have e3 := fold_done x (l[j] :: l.drop (j + 1)) (l.take j ++ [x])
    rw [List.foldl_cons] at e3
    rw [e3] at e0
    rw [rputL, e0, List.drop_eq_getElem_cons hj]
    simp
  · rw [List.drop_of_length_le (by omega)] at e0 ⊢
    rw [rputL, e0]; simp
/-- Both ways of putting leave the same. -/
theorem put_eqL {l : List Ent} {x : Ent} (h : chkT l = 0) : rputL l x = putL l x := by
  rcases firstIdx_cases (fun e : Ent => e.path == x.path) l with ⟨h1, h2⟩ | ⟨i, hi, h1, h2, h3, h4⟩
  · have hn : ∀ e ∈ l, e.path ≠ x.path := fun e he => by simpa using List.find?_eq_none.mp h2 e he
    have hp : putL l x = l.take (insAt l x) ++ x :: l.drop (insAt l x) := by rw [putL, h1]; rfl
    have hf : ∀ k, (l.drop k).filter (fun e => !(e.path == x.path)) = l.drop k := fun k => by
      rw [List.filter_eq_self]; intro e he; simpa using hn e (List.mem_of_mem_drop he)
    rw [hp, rput_split (j := insAt l x), hf]
    · intro e he
      have hne := hn e (List.mem_of_mem_take he)
      obtain ⟨k, hk, rfl⟩ := List.getElem_of_mem he
      rw [List.length_take] at hk
      simp only [List.getElem_take] at hne ⊢
      refine lessP_tot ?_ (Ne.symm hne)
      rcases firstIdx_cases (fun y : Ent => lessP x.path y.path) l with ⟨k1, k2⟩ | ⟨m, hm, k1, k2, k3, k4⟩
      · have := List.find?_eq_none.mp k2 _ (List.getElem_mem (show k < l.length by omega))
        simpa using this
      · have e1 : insAt l x = m := by rw [insAt, k1, if_neg (by omega)]; rfl
        exact k4 k (by omega)
    · intro hj
      rcases firstIdx_cases (fun y : Ent => lessP x.path y.path) l with ⟨k1, k2⟩ | ⟨m, hm, k1, k2, k3, k4⟩
      · have e1 : insAt l x = l.length := by rw [insAt, k1]; rfl
        omega
      · have e1 : insAt l x = m := by rw [insAt, k1, if_neg (by omega)]; rfl
        have k5 : lessP x.path (l[insAt l x]).path = true := by simp only [e1]; exact k3
        cases e2 : lessP (l[insAt l x]).path x.path
        · rfl
        · have := lessP_trans k5 e2
          rw [lessP_irr] at this; cases this
  · have h3' : l[i].path = x.path := by simpa using h3
    have hp : putL l x = l.take i ++ x :: l.drop (i + 1) := by
      rw [putL, h1, if_neg (by omega), Int.toNat_natCast, List.set_eq_take_append_cons_drop, if_pos hi]
    rw [hp, rput_split (j := i)]
    · have e1 := cut_filter h hi h3'
      have e2 : l.filter (fun e => !(e.path == x.path)) = (l.take i).filter (fun e => !(e.path == x.path)) ++ (l.drop i).filter (fun e => !(e.path == x.path)) := by
        conv => lhs; rw [← List.take_append_drop i l]
        rw [List.filter_append]
      have e3 : (l.take i).filter (fun e => !(e.path == x.path)) = l.take i := by
        rw [List.filter_eq_self]; intro e he
        obtain ⟨j, hj, rfl⟩ := List.getElem_of_mem he
        rw [List.length_take] at hj
        simp only [List.getElem_take]
        simpa using h4 j (by omega)
      rw [e3, e1] at e2
      rw [← List.append_cancel_left e2]
    · intro e he
      obtain ⟨k, hk, rfl⟩ := List.getElem_of_mem he
      rw [List.length_take] at hk
      simp only [List.getElem_take]
      rw [← h3']
      exact rise_all h i hi (by omega)
    · intro hj; rw [h3', lessP_irr]
theorem put_eq (l : List Ent) (x : Ent) : putR l x = rputR l x := by
  unfold putR rputR
  by_cases h : chkT l = 0
  · have h0 : ¬ chkT l ≠ 0 := by simp [h]
    rw [if_neg h0, if_neg h0, put_eqL h]
    have e : (l.find? (fun e => e.path == x.path)).any (fun e => e.dir != x.dir) = ((getR l x.path).2 && !((getR l x.path).1.dir == x.dir)) := by
      unfold getR
      cases l.find? (fun e => e.path == x.path) <;> rfl
    rw [e]
  · rw [if_pos h, if_pos h]
end Sm

set_option linter.unusedVariables false
set_option linter.unusedSimpArgs false
set_option maxRecDepth 10000
set_option maxHeartbeats 1000000
namespace Sm
open Go
-- BASE entU
/-- An entry, and how its bytes are held. -/
structure Eo where
  e : Ent
  v : HV
  deriving Inhabited
def cO (x : Eo) : List HV := [S x.e.path, B x.e.dir, x.v]
def cellsO (l : List Eo) : List HV := l.flatMap cO
theorem cellsO_len (l : List Eo) : (cellsO l).length = l.length * 3 := by
  induction l with
  | nil => rfl
  | cons e l ih => simp only [cellsO, List.flatMap_cons, List.length_append, List.length_cons] at ih ⊢; rw [ih]; simp [cO]; omega
theorem cellsO_app (a b : List Eo) : cellsO (a ++ b) = cellsO a ++ cellsO b := by simp [cellsO]
theorem cellsO_split {l : List Eo} {i : Nat} (h : i < l.length) : cellsO l = cellsO (l.take i) ++ cO l[i] ++ cellsO (l.drop (i + 1)) := by
  have h1 := List.take_append_drop i l
  rw [List.drop_eq_getElem_cons h] at h1
  have h2 := congrArg cellsO h1
  rw [← h2, cellsO_app, List.append_assoc]
  rfl
theorem cellsO_get {l : List Eo} {i : Nat} (h : i < l.length) (zs : List HV) : ((cellsO l ++ zs).drop (i * 3)).take 3 = cO l[i] := by
  rw [cellsO_split h]
  have hl : (cellsO (l.take i)).length = i * 3 := by rw [cellsO_len, List.length_take]; congr 1; omega
  rw [List.append_assoc, List.append_assoc, List.drop_append_of_le_length (by omega), List.drop_of_length_le (by omega), List.nil_append, List.take_append_of_le_length (by simp [cO])]
  exact List.take_of_length_le (by simp [cO])
theorem cellsO_set {l : List Eo} {i : Nat} (h : i < l.length) (e : Eo) (zs : List HV) : setL (cellsO l ++ zs) (i * 3) (cO e) = cellsO (l.set i e) ++ zs := by
  have hl : (cellsO (l.take i)).length = i * 3 := by rw [cellsO_len, List.length_take]; congr 1; omega
  rw [cellsO_split h, List.append_assoc, setL_mid hl (by simp [cO])]
  have h2 : i < (l.set i e).length := by simpa using h
  rw [cellsO_split h2]
  simp [List.take_set_of_le, List.drop_set_of_lt]
theorem rdm_oneO (H : Heap) (tk : Tk) (x : Eo) : rdm H 3 (.sl tk 3 [.ag (cO x)]) = some (1, cO x) := by simp [rdm, HV.cells]
/-- As all entries of a list whose bytes nobody writes any more. -/
def fro (e : Ent) : Eo := ⟨e, .sl .no 1 (e.data.map U)⟩
theorem cellsO_fro (l : List Ent) : cellsO (l.map fro) = cellsE l := by
  simp only [cellsO, cellsE, List.flatMap_map]; rfl
theorem flatU : ∀ d : List UInt8, (d.map U).flatMap HV.cells = d.map U
  | [] => rfl
  | a :: d => by
    have := flatU d
    rw [List.map_cons, List.flatMap_cons, this]; rfl
/-- Bytes of one's own, that may be written; in another block than 'o', and in none that was there ahead ('G'). -/
def DW (G H : Heap) (o : Nat) (v : HV) (d : List UInt8) : Prop :=
  (v = .v (.slice none 0 0) ∧ d = []) ∨ (v = .sl .full 1 [] ∧ d = []) ∨
  ∃ b c zs, v = .v (.slice (some ⟨b, 0, none⟩) d.length c) ∧ b ≠ o ∧ H b = some (.obj (d.map U ++ zs)) ∧ d.length ≤ c ∧ c ≤ maxLen ∧ G b = none
theorem DW.one {G H o v d} (h : DW G H o v d) : v.one = true := by
  rcases h with ⟨rfl, _⟩ | ⟨rfl, _⟩ | ⟨b, c, zs, rfl, _⟩ <;> rfl
theorem one_facts {v : HV} (h : v.one = true) : v.el = true ∧ v.ncells = 1 ∧ v.cells = [v] ∧ v.one = true := by
  cases v <;> simp_all [HV.one, HV.el, HV.ncells, HV.cells]
theorem cO_one {x : Eo} (h : x.v.one = true) : (cO x).all HV.one = true := by
  show (HV.one _ && (HV.one _ && (HV.one x.v && true))) = true
  rw [h]; rfl
theorem cO_mk : ∀ e v, cO ⟨e, v⟩ = [S e.path, B e.dir, v] := fun _ _ => rfl
theorem cO_el {x : Eo} (h : x.v.one = true) : (HV.ag (cO x)).el = true := cO_one h
theorem DW.fr {bs G H H' o v d} (h : DW G H o v d) (hf : Fr bs H H') (hb : bs ⊆ [o]) : DW G H' o v d := by
  rcases h with h | h | ⟨b, c, zs, h1, h2, h3, h4⟩
  · exact .inl h
  · exact .inr (.inl h)
  · exact .inr (.inr ⟨b, c, zs, h1, h2, hf.get (fun h => h2 (by simpa using hb h)) h3, h4⟩)
theorem DW.to {G H o o' v d} (h : DW G H o v d) (hb : o' = o ∨ H o' = none) : DW G H o' v d := by
  rcases h with h | h | ⟨b, c, zs, h1, h2, h3, h4⟩
  · exact .inl h
  · exact .inr (.inl h)
  · refine .inr (.inr ⟨b, c, zs, h1, ?_, h3, h4⟩)
    rcases hb with rfl | hb
    · exact h2
    · rintro rfl; rw [h3] at hb; cases hb
theorem DW.base {G0 G H o v d} (h : DW G H o v d) (hf : Fr [] G0 G) : DW G0 H o v d := by
  rcases h with h | h | ⟨b, c, zs, h1, h2, h3, h4, h5, h6⟩
  · exact .inl h
  · exact .inr (.inl h)
  · exact .inr (.inr ⟨b, c, zs, h1, h2, h3, h4, h5, hf.none h6⟩)
/-- As what stands still it is these bytes. -/
theorem DW.view {G H o v d} (h : DW G H o v d) : VW H v (.sl .no 1 (d.map U)) := by
  rcases h with ⟨rfl, rfl⟩ | ⟨rfl, rfl⟩ | ⟨b, c, zs, rfl, _, h3, h4, h5, _⟩
  · exact VW.of (Weak.nil' 1)
  · exact VW.of (Weak.drop _ _ _)
  · refine VW.fw h3 (FW.slice ?_ ?_ (by simp) h4 h5 ?_ ?_)
    · rw [Nat.mul_one, List.take_left' (by simp), flatU]
    · simp
    · rw [List.all_eq_true]; intro x hx; obtain ⟨a, _, rfl⟩ := List.mem_map.mp hx; rfl
    · intro x hx; obtain ⟨a, _, rfl⟩ := List.mem_map.mp hx; rfl
/-- Entries, told by their cells, that are an object of one's own. -/
structure OO (H : Heap) (b n c : Nat) (l : List Eo) : Prop where
  ob : ∃ zs, H b = some (.obj (cellsO l ++ zs)) ∧ zs.length = (c - n) * 3 ∧ zs.all HV.one = true
  len : l.length = n
  nc : n ≤ c
  cm : c ≤ maxLen
attribute [local irreducible] csem rsem dsem seqK blockK normK finK DK RK JK BR G3 resK Spec Tok Fr

theorem insertO_spec (L : Linked code) (tk : Tk) (b n c at' : Nat) (l : List Eo) (x : Eo) (H : Heap) (hol : OO H b n c l) (hn : n ≤ 1048576) (ha : at' ≤ n) (K)
    (hk : ∀ b' c' X, OO X b' (n + 1) c' (l.take at' ++ x :: l.drop at') → Fr [b] H X → (b' = b ∨ H b' = none) → K (.v (.slice (some ⟨b', 0, none⟩) (n + 1) c')) X) :
    Spec L.P L.ν 174 [.v (.slice (some ⟨b, 0, none⟩) n c), I at', .sl tk 3 [.ag (cO x)]] H K := by
  obtain ⟨⟨zs, hb, hz, hz1⟩, hl, hnc, hcm⟩ := hol
  have hcl := cellsO_len l
  have htot : (cellsO l ++ zs).length = c * 3 := by rw [List.length_append, hcl, hz, hl]; omega
  refine go_spec L code174 rfl ?_
  repeat (refine gk entU ?_)
  apply r_slcO; (focus rfl); (focus rfl); (focus rfl); (focus rfl); (focus omega)
  repeat (refine gk entU ?_)
  cases c1 : ((at' : Int) == (n : Int))
  case true =>
    have hat : at' = n := by simp only [beq_iff_eq] at c1; omega
    subst hat
    have e1 : l.take at' ++ x :: l.drop at' = l ++ [x] := by rw [List.take_of_length_le (by omega), List.drop_of_length_le (by omega)]
    rw [e1] at hk
    repeat (refine gk entU ?_)
    apply r_appO; (focus rfl); (focus rfl); (focus exact rdm_oneO _ _ _); (focus exact hb); (focus exact hnc); (focus omega); (focus omega); (focus skip)
    · intro hc X hX hf
      repeat (refine gk entU ?_)
      refine resK_some (hk b c X ⟨⟨zs.drop 3, ?_, by rw [List.length_drop, hz]; omega, ?_⟩, by simp [hl], hc, hcm⟩ hf (.inl rfl))
      · rw [hX, Nat.zero_add]
        have : zs = zs.take 3 ++ zs.drop 3 := (List.take_append_drop 3 zs).symm
        rw [this, ← List.append_assoc, setL_mid (by rw [hcl, hl]) (by rw [List.length_take, hz]; simp [cO]; omega), cellsO_app]
        simp [cellsO]
      · rw [List.all_eq_true] at hz1 ⊢; exact fun q hq => hz1 q (List.mem_of_mem_drop hq)
    · intro hc b' c' zs' X hb' h1 h2 h3 h4 hX hf
      repeat (refine gk entU ?_)
      refine resK_some (hk b' c' X ⟨⟨zs', ?_, h3, h4⟩, by simp [hl], h1, h2⟩ (hf.mono (by simp)) (.inr hb'))
      rw [hX, List.drop_zero, List.take_append_of_le_length (by rw [hcl, hl]; exact Nat.le_refl _), List.take_of_length_le (by rw [hcl, hl]; exact Nat.le_refl _), cellsO_app]
      simp [cellsO]
  case false =>
  have hat : at' < n := by simp only [beq_eq_false_iff_ne, ne_eq] at c1; omega
  have hA : (cellsO (l.take at')).length = at' * 3 := by rw [cellsO_len, List.length_take]; congr 1; omega
  have hB : (cellsO (l.drop at')).length = (n - at') * 3 := by rw [cellsO_len, List.length_drop, hl]
  have hAB : cellsO l = cellsO (l.take at') ++ cellsO (l.drop at') := by rw [← cellsO_app, List.take_append_drop]
  have hX3 : (cO x).length = 3 := rfl
  have hfin : cellsO (l.take at' ++ x :: l.drop at') = cellsO (l.take at') ++ cO x ++ cellsO (l.drop at') := by rw [cellsO_app, List.append_assoc]; rfl
  have hlen2 : (l.take at' ++ x :: l.drop at').length = n + 1 := by simp [hl]; omega
  have hsrc : ((cellsO l ++ zs).drop (0 + at' * 3)).take ((n - at') * 3) = cellsO (l.drop at') := by
    rw [Nat.zero_add, hAB, List.append_assoc, List.drop_append_of_le_length (by omega), List.drop_of_length_le (by omega), List.nil_append, List.take_append_of_le_length (by omega), List.take_of_length_le (by omega)]
  generalize cellsO (l.take at') = A at hA hAB hfin hsrc
  generalize cellsO (l.drop at') = Bc at hB hAB hfin hsrc
  rw [hAB] at hb htot hsrc
  have htl : A.length + Bc.length + zs.length = c * 3 := by simp only [List.length_append] at htot; exact htot
  repeat (refine gk entU ?_)
  apply r_capO; (focus rfl)
  repeat (refine gk entU ?_)
  (refine ct entU ?_ ?_ <;> intro h2)
  · have hgr : c < n + 1 := by simp only [decide_eq_true_eq] at h2; omega
    repeat (refine gk entU ?_)
    apply r_slcO0; (focus rfl); (focus rfl); (focus omega)
    repeat (refine gk entU ?_)
    apply r_appzO; (focus rfl); (focus exact hb); (focus omega); (focus (first | omega | (simp; done) | (simp; omega))); (focus (first | omega | (simp; done) | (simp; omega))); (focus (first | omega | (simp; done) | (simp; omega))); (focus rfl); (focus (first | omega | (simp; done) | (simp; omega))); (focus skip)
    intro b' c' zs' X hb' g1 g2 g3 g4 hX hf
    have hbb : b ≠ b' := by rintro rfl; rw [hb'] at hb; cases hb
    simp only [Int.toNat_natCast] at g1 g3 hX ⊢
    generalize hk0 : Int.toNat _ = k0 at g1 g3 hX ⊢
    have hk1 : at' + k0 = n + 1 := by omega
    generalize hR : (List.replicate k0 [HV.v (.string ⟨#[]⟩), HV.v (.bool false), HV.v (.slice none 0 0)]).flatten = R at hX
    have hRl : R.length = k0 * 3 := by rw [← hR]; simp
    have hX' : X b' = some (.obj (A ++ R ++ zs')) := by
      rw [hX]
      have e0 : ((A ++ Bc ++ zs).drop 0).take (at' * 3) = A := by
        rw [List.drop_zero, List.append_assoc, List.take_append_of_le_length (by omega), List.take_of_length_le (by omega)]
      rw [e0]
    repeat (refine gk entU ?_)
    apply r_slcL (a := at'); (focus rfl); (focus rfl); (focus rfl); (focus (first | omega | (simp; done) | (simp; omega))); (focus (first | omega | (simp; done) | (simp; omega))); (focus (first | omega | (simp; done) | (simp; omega)))
    repeat (refine gk entU ?_)
    apply r_copyO; (focus rfl); (focus exact rdm_oneO _ _ _); (focus exact hX'); (focus (simp only [List.length_append, hRl, hA]; omega)); (focus skip)
    intro Y hY fY
    have hY' : Y b' = some (.obj (A ++ cO x ++ (R.drop 3 ++ zs'))) := by
      rw [hY, Nat.zero_add, show min 1 (at' + k0 - at') * 3 = 3 by omega, List.take_of_length_le (Nat.le_refl 3)]
      have e0 : A ++ R ++ zs' = A ++ R.take 3 ++ (R.drop 3 ++ zs') := by rw [← List.append_assoc, List.append_assoc A (R.take 3), List.take_append_drop]
      rw [e0, setL_mid hA (by rw [List.length_take, hX3]; omega)]
    have hYb : Y b = some (.obj (A ++ Bc ++ zs)) := fY.get (by simpa using hbb) (hf.get (by simp) hb)
    repeat (refine gk entU ?_)
    apply r_slcL (a := at' + 1); (focus rfl); (focus rfl); (focus omega); (focus omega); (focus omega); (focus omega)
    repeat (refine gk entU ?_)
    apply r_slcL (a := at'); (focus rfl); (focus rfl); (focus rfl); (focus omega); (focus omega); (focus omega)
    repeat (refine gk entU ?_)
    apply r_copyO; (focus rfl); (focus exact rdm_obj hYb (by simp only [List.length_append]; omega)); (focus exact hY'); (focus (simp only [List.length_append, List.length_drop, hRl, hA, hX3]; omega)); (focus skip)
    intro Z hZ fZ
    have hZ' : Z b' = some (.obj (cellsO (l.take at' ++ x :: l.drop at') ++ zs')) := by
      rw [hZ, hsrc, show min (n - at') (at' + k0 - (at' + 1)) = n - at' by omega, List.take_of_length_le (by omega), hfin, Nat.zero_add]
      have e0 : A ++ cO x ++ (R.drop 3 ++ zs') = (A ++ cO x) ++ R.drop 3 ++ zs' := by simp only [List.append_assoc]
      rw [e0, setL_mid (by rw [List.length_append, hA, hX3]; omega) (by rw [List.length_drop, hRl, hB]; omega)]
    repeat (refine gk entU ?_)
    rw [hk1]
    refine resK_some (hk b' c' Z ⟨⟨zs', hZ', by rw [g3, hk1], g4⟩, hlen2, by omega, g2⟩ ?_ (.inr hb'))
    exact Fr.make2 fun a r han har => by
      have hab : a ≠ b' := by rintro rfl; rw [hb'] at har; cases har
      exact fZ.get (by simpa using hab) (fY.get (by simpa using hab) (hf.get (by simp) har))
  · have hroom : n + 1 ≤ c := by simp only [decide_eq_false_iff_not] at h2; omega
    repeat (refine gk entU ?_)
    apply r_slcO0; (focus rfl); (focus rfl); (focus omega)
    have ek : ((n : Int) + ((1 : Nat) : Int)).toNat = n + 1 := by omega
    repeat (refine gk entU ?_)
    rw [ek]
    apply r_slcL (a := at' + 1); (focus rfl); (focus rfl); (focus omega); (focus omega); (focus omega); (focus omega)
    repeat (refine gk entU ?_)
    apply r_ovlO; (focus rfl); (focus exact hb); (focus simp); (focus decide)
    repeat (refine gk entU ?_)
    apply r_slcL (a := at' + 1); (focus rfl); (focus rfl); (focus omega); (focus omega); (focus omega); (focus omega)
    repeat (refine gk entU ?_)
    apply r_slcL (a := at'); (focus rfl); (focus rfl); (focus rfl); (focus omega); (focus omega); (focus omega)
    repeat (refine gk entU ?_)
    apply r_copyO; (focus rfl); (focus exact rdm_obj hb (by simp only [List.length_append]; omega)); (focus exact hb); (focus (simp only [List.length_append]; omega)); (focus skip)
    intro Y hY fY
    have hz3 : 3 ≤ zs.length := by omega
    have hsp : A ++ Bc ++ zs = (A ++ (Bc ++ zs).take 3) ++ ((Bc ++ zs).drop 3).take Bc.length ++ zs.drop 3 := by
      have e1 : ((Bc ++ zs).drop 3).drop Bc.length = zs.drop 3 := by rw [List.drop_drop, Nat.add_comm 3, ← List.drop_drop, List.drop_left]
      rw [← e1, List.append_assoc, List.append_assoc, List.append_assoc, List.take_append_drop, List.take_append_drop]
    have hY' : Y b = some (.obj (A ++ (Bc ++ zs).take 3 ++ (Bc ++ zs.drop 3))) := by
      rw [hY, List.take_take, show min (min (n + 1 - at') (n + 1 - (at' + 1)) * 3) ((n + 1 - at') * 3) = (n - at') * 3 by omega, hsrc, Nat.zero_add, hsp]
      rw [setL_mid (by simp only [List.length_append, List.length_take, hA]; omega) (by simp only [List.length_take, List.length_drop, List.length_append]; omega)]
      rw [List.append_assoc (A ++ _)]
    repeat (refine gk entU ?_)
    apply r_slcL (a := at'); (focus rfl); (focus rfl); (focus rfl); (focus omega); (focus omega); (focus omega)
    repeat (refine gk entU ?_)
    apply r_copyO; (focus rfl); (focus exact rdm_oneO _ _ _); (focus exact hY'); (focus (simp only [List.length_append, List.length_take, List.length_drop, hA]; omega)); (focus skip)
    intro Z hZ fZ
    have hZ' : Z b = some (.obj (cellsO (l.take at' ++ x :: l.drop at') ++ zs.drop 3)) := by
      rw [hZ, hfin, Nat.zero_add, show min 1 (n + 1 - at') * 3 = 3 by omega, List.take_of_length_le (l := cO x) (Nat.le_refl 3)]
      rw [setL_mid hA (by rw [List.length_take, List.length_append, hX3]; omega)]
      simp only [List.append_assoc]
    repeat (refine gk entU ?_)
    refine resK_some (hk b c Z ⟨⟨zs.drop 3, hZ', by rw [List.length_drop, hz]; omega, ?_⟩, hlen2, hroom, hcm⟩ ?_ (.inl rfl))
    · rw [List.all_eq_true] at hz1 ⊢; exact fun q hq => hz1 q (List.mem_of_mem_drop hq)
    · exact Fr.make2 fun a r han har => fZ.get han (fY.get han har)
end Sm

set_option linter.unusedVariables false
set_option linter.unusedSimpArgs false
set_option maxRecDepth 10000
set_option maxHeartbeats 1000000
namespace Sm
open Go
-- BASE entU
attribute [local irreducible] csem rsem dsem seqK blockK normK finK DK RK JK BR G3 resK Spec Tok Fr

theorem cloneBO_spec (L : Linked code) (tk : Tk) (l : List UInt8) (hl : l.length ≤ 140737488355328) (H : Heap) (o : Nat) (r : Res) (ho : H o = some r) (K) (hk : ∀ v X, DW H X o v l → Fr [] H X → K v X) : Spec L.P L.ν 186 [.sl tk 1 (l.map U)] H K := by
  refine go_spec L code186 rfl ?_
  repeat (refine gk entU ?_)
  refine r_isnil rfl fun t ht => ?_
  cases t
  · repeat (refine gk entU ?_)
    rw [rsem_cons]
    refine .inr ?_
    have hf := flatU l
    show appK 1 1 (.sl .full 1 []) (.sl tk 1 (l.map U)) H _
    simp only [appK, rdm, if_true, List.length_map, hf, List.length_nil, Nat.zero_add, List.flatMap_nil, List.nil_append]
    refine ⟨trivial, fun hm => ?_, fun hm => ⟨by omega, fun b c zs hb h1 h2 h3 h4 => ?_⟩⟩
    · rw [rK_app, M_put]
      repeat (refine gk entU ?_)
      exact resK_some (hk _ H (.inr (.inl ⟨rfl, List.length_eq_zero_iff.mp hm⟩)) (Fr.refl _ _))
    · dsimp only
      rw [rK_app, M_put]
      repeat (refine gk entU ?_)
      refine resK_some (hk _ _ (.inr (.inr ⟨b, c, zs, rfl, ?_, Heap.upd_same _ _ _, h1, h2, hb⟩)) (Fr.new hb))
      rintro rfl; rw [hb] at ho; cases ho
  · have hl : l = [] := by simpa using ht rfl
    subst hl
    repeat (refine gk entU ?_)
    exact resK_some (hk _ H (.inl ⟨rfl, rfl⟩) (Fr.refl _ _))
theorem ownO_spec (L : Linked code) (e : Ent) (hl : e.data.length ≤ 140737488355328) (H : Heap) (o : Nat) (r : Res) (ho : H o = some r) (K) (hk : ∀ v X, DW H X o v e.data → Fr [] H X → K (.ag (cO ⟨e, v⟩)) X) : Spec L.P L.ν 167 [encE e] H K := by
  refine go_spec L code167 rfl ?_
  repeat (refine gk entU ?_)
  (apply r_call; (focus rfl))
  refine cloneBO_spec L .no e.data hl H o r ho _ fun v X hv hf => ?_
  have h1 := one_facts hv.one
  repeat (refine gk (And.intro entU h1) ?_)
  exact resK_some (hk _ X hv hf)
theorem r_loadOO {S' : SpecT} {sl : List (Nat × EV)} {bx : List (Nat × List HV)} {H : Heap} {K : Env → Heap → Prop} {os : List SOper} {d b off i : Nat} {a : Opd} {l : List Eo} {zs : List HV}
    (ha : (M sl bx).opd a = some (.h (.v (.pointer (some ⟨b, off, none⟩))))) (ho : off = i * 3) (hk : H b = some (.obj (cellsO l ++ zs))) (hi : i < l.length)
    (h : rsem S' os (M ((d, .h (.ag (cO (l[i]'hi)))) :: sl) bx) H K) : rsem S' (⟨some d, .load true 3 a, none⟩ :: os) (M sl bx) H K := by
  refine r_calm rfl ?_ h
  subst ho
  simp only [SOp.ev, ha, hk, loadv]
  rw [if_pos (by rw [List.length_append, cellsO_len]; omega), cellsO_get hi]
  rfl
/-- A copy, each entry with bytes of its own. -/
theorem copyO_spec (L : Linked code) (tk : Tk) (l : List Ent) (hl : l.length ≤ 1048576) (ho : ∀ e ∈ l, okE e) (H : Heap) (K) (h0 : l = [] → K (.sl .full 3 []) H)
    (hk : l ≠ [] → ∀ b c ds X, H b = none → OO X b l.length c ds → ds.map (·.e) = l → (∀ d ∈ ds, DW H X b d.v d.e.data) → Fr [] H X → K (.v (.slice (some ⟨b, 0, none⟩) l.length c)) X) :
    Spec L.P L.ν 171 [.sl tk 3 (l.map encE)] H K := by
  refine go_spec L code171 rfl ?_
  repeat (refine gk entU ?_)
  (apply r_call; (focus rfl))
  refine cloneE_spec L tk l hl H _ (fun hz => ?_) fun hne b c zs X hb h1 h2 h3 h4 hX hf => ?_
  · subst hz
    repeat (refine gk entU ?_)
    refine c_loop (Spec_SMono L) (fun (_ : Unit) => [(3, .h (.sl .full 3 [])), (9, .h (I 0)), (10, .h (I 0))]) (fun _ => []) (fun _ H' => H' = H) (fun _ => 0) () ?_ rfl ?_
    · (refine leM ?_ ?_ ?_ <;> (repeat refine leS trivial ?_) <;> exact leE)
    rintro _ H' rfl
    repeat (refine gk entU ?_)
    exact resK_some (h0 rfl)
  · repeat (refine gk entU ?_)
    refine c_loop (Spec_SMono L) (fun (i : Nat) => [(3, .h (.v (.slice (some ⟨b, 0, none⟩) l.length c))), (8, .h (.v (.slice (some ⟨b, 0, none⟩) l.length c))), (9, .h (I l.length)), (10, .h (I i))]) (fun _ => [])
      (fun i H' => i ≤ l.length ∧ (∃ ds, ds.length = i ∧ ds.map (·.e) = l.take i ∧ (∀ d ∈ ds, DW H H' b d.v d.e.data) ∧ H' b = some (.obj (cellsO (ds ++ (l.drop i).map fro) ++ zs))) ∧ Fr [] H H') (fun i => l.length - i) 0 ?_ ⟨by omega, ⟨[], rfl, by simp, by simp, by simpa [cellsO_fro] using hX⟩, hf⟩ ?_
    · (refine leM ?_ ?_ ?_ <;> (repeat refine leS trivial ?_) <;> exact leE)
    rintro i H' ⟨hi, ⟨ds, q1, q2, q3, hX2⟩, hf2⟩
    repeat (refine gk entU ?_)
    (refine ct entU ?_ ?_ <;> intro h)
    · have hi' : i < l.length := by simpa using h
      have hlen : i < (ds ++ (l.drop i).map fro).length := by simp; omega
      have hget : (ds ++ (l.drop i).map fro)[i]'hlen = fro l[i] := by simp [List.getElem_append_right, q1]
      repeat (refine gk entU ?_)
      apply r_idxO; (focus rfl); (focus rfl); (focus omega)
      apply r_loadOO (i := i) (l := ds ++ (l.drop i).map fro) (zs := zs) (hi := hlen); (focus rfl); (focus omega); (focus exact hX2)
      rw [hget]
      unfold cO fro
      repeat (refine gk entU ?_)
      (apply r_call; (focus rfl))
      refine ownO_spec L l[i] (Nat.le_trans (ho _ (List.getElem_mem hi')).2 (by decide)) H' b _ hX2 _ fun v H2 hv f2 => ?_
      have hv1 := hv.one
      have hve : (HV.ag (cO ⟨l[i], v⟩)).el = true := cO_el hv1
      repeat (refine gk entU ?_)
      apply r_idxO; (focus rfl); (focus rfl); (focus omega)
      have hX3 := f2.get (by simp) hX2
      apply r_storeO; (focus rfl); (focus rfl); (focus (first | exact hve | rfl)); (focus (first | exact hve | rfl)); (focus exact hX3); (focus (rw [List.length_append, cellsO_len]; omega))
      intro Y hY hfY
      have e1 : 0 + (i : Int).toNat * 3 = i * 3 := by omega
      have e2 : (HV.ag (cO ⟨l[i], v⟩)).cells = cO ⟨l[i], v⟩ := rfl
      have e3 : (ds ++ (l.drop i).map fro).set i ⟨l[i], v⟩ = (ds ++ [⟨l[i], v⟩]) ++ (l.drop (i + 1)).map fro := by
        rw [List.drop_eq_getElem_cons hi', List.map_cons, List.set_append_right _ _ (by omega), q1, Nat.sub_self, List.set_cons_zero, List.append_assoc]; rfl
      rw [e1, e2, cellsO_set hlen, e3] at hY
      repeat (refine gk entU ?_)
      refine k_n (i + 1) (by omega) ⟨by omega, ⟨ds ++ [⟨l[i], v⟩], by simp [q1], by rw [List.map_append, q2, List.take_add_one]; simp [hi'], fun d hd => ?_, hY⟩, (hf2.trans f2).own hb hfY⟩ ?_
      · rcases List.mem_append.mp hd with hd | hd
        · exact ((q3 d hd).fr f2 (by simp)).fr hfY (by simp)
        · obtain rfl := List.mem_singleton.mp hd
          exact (hv.base hf2).fr hfY (by simp)
      (refine leM ?_ ?_ ?_ <;> (repeat refine leS trivial ?_) <;> exact leE)
    · repeat (refine gk entU ?_)
      have hi' : i = l.length := by have : ¬ i < l.length := by simpa using h
                                    omega
      subst hi'
      refine resK_some (hk hne b c ds H' hb ⟨⟨zs, by simpa using hX2, h3, h4⟩, q1, h1, h2⟩ (by simpa using q2) q3 hf2)
end Sm
