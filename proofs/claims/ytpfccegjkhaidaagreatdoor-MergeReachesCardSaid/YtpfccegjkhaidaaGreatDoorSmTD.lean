/-
  A layer of one's own: texts T16,T17,T18,T19,T20,TW.
-/
import Derived.Test.YtpfccegjkhaidaaGreatDoorSmTC
set_option linter.unusedVariables false
set_option linter.unusedSimpArgs false
set_option maxRecDepth 10000
set_option maxHeartbeats 1000000
namespace Sm
open Go
-- BASE entU
/-- A list without an entry. -/
def cutL (l : List Ent) (p : List UInt8) : List Ent := l.take (firstIdx (fun e => e.path == p) l).toNat ++ l.drop ((firstIdx (fun e => e.path == p) l).toNat + 1)
def remR (l : List Ent) (p : List UInt8) : List Ent × Int := if chkT l ≠ 0 then ([], chkT l) else match l.find? (fun e => e.path == p) with
  | none => ([], 8)
  | some e => if e.dir && decide (0 < (chl l p).length) then ([], 10) else (cutL l p, 0)
attribute [local irreducible] csem rsem dsem seqK blockK normK finK DK RK JK BR G3 resK Spec Tok Fr

theorem remove_spec (L : Linked code) (tk : Tk) (l : List Ent) (p : List UInt8) (hl : l.length ≤ 65536) (ho : ∀ e ∈ l, okE e) : PureF L 158 [.sl tk 3 (l.map encE), S p] (.tu [.sl .no 3 ((remR l p).1.map encE), I (remR l p).2]) := by
  intro H K hk
  refine go_spec L code158 rfl ?_
  repeat (refine gk entU ?_)
  (apply r_call; (focus rfl))
  refine check_spec L tk l (by omega) ho H _ fun H1 f1 => ?_
  repeat (refine gk entU ?_)
  cases c1 : (chkT l != 0)
  case true =>
    rw [remR, if_pos (by simpa [bne] using c1)] at hk
    repeat (refine gk entU ?_)
    exact resK_weak (Weak.tu (bs := [.sl .no 3 [], I (chkT l)]) ⟨Weak.nil' 3, Weak.refl _, trivial⟩) (hk H1 f1)
  rw [remR, if_neg (by simpa [bne] using c1)] at hk
  repeat (refine gk entU ?_)
  (apply r_call; (focus rfl))
  refine find_spec L tk l p (by omega) _ _ fun H2 f2 => ?_
  rcases firstIdx_cases (fun e : Ent => e.path == p) l with ⟨h1, h2⟩ | ⟨i, hi, h1, h2, _⟩
  · rw [h1]
    rw [h2] at hk
    repeat (refine gk entU ?_)
    exact resK_weak (Weak.tu (as := [.v (.slice none 0 0), I 8]) (bs := [.sl .no 3 [], I 8]) ⟨Weak.nil' 3, Weak.refl _, trivial⟩) (hk H2 (f1.trans f2))
  · rw [h2] at hk
    have e3 : decide ((i : Int) < 0) = false := by simp
    rw [h1]
    repeat (refine gk (And.intro entU e3) ?_)
    dsimp only at hk
    cases c2 : l[i].dir
    case false =>
      rw [if_neg (by rw [c2]; simp)] at hk
      repeat (refine gk entU ?_)
      (apply r_call; (focus rfl))
      refine copy_spec L tk l (by omega) ho H2 _ (fun hz => by subst hz; exact absurd hi (by simp)) fun hne b cc zs Y hb g1 g2 g3 g4 hY fY => ?_
      repeat (refine gk entU ?_)
      (apply r_call; (focus rfl))
      have hb0 : H b = none := (f1.trans f2).none hb
      refine delete_spec L b l.length cc i l Y ⟨⟨zs, hY, g3, g4⟩, rfl, g1, g2⟩ (by omega) hi _ fun Z hol fZ => ?_
      obtain ⟨⟨zs', q1, q2, q3⟩, q4, q5, q6⟩ := hol
      have hcl := cellsE_len (l.take i ++ l.drop (i + 1))
      have e5 : cutL l p = l.take i ++ l.drop (i + 1) := by rw [cutL, h1]; rfl
      refine r_calm rfl rfl ?_
      refine r_calm rfl rfl ?_
      refine r_nil ?_
      refine n_n ?_
      refine s_v (vs_sl (t := 4) (sz := 3) (es := (l.take i ++ l.drop (i + 1)).map encE) rfl q1 ?_ ?_ ?_ q5 q6 ?_ ?_) ?_
      · rw [List.take_left' (by rw [hcl, q4]), flat_encE]
      · rw [List.length_append, hcl, q4]; omega
      · rw [List.length_map, q4]
      · rw [List.all_eq_true]; intro e he; obtain ⟨y, _, rfl⟩ := List.mem_map.mp he; rfl
      · intro e he; obtain ⟨y, _, rfl⟩ := List.mem_map.mp he; rfl
      repeat (refine gk entU ?_)
      rw [← e5]
      exact resK_some (hk _ ((((f1.trans f2).trans fY).own hb0 fZ).give hb0))
    repeat (refine gk entU ?_)
    (apply r_call; (focus rfl))
    refine children_spec L tk l p (by omega) ho H2 _ fun H3 f3 => ?_
    have f4 := (f1.trans f2).trans f3
    repeat (refine gk entU ?_)
    cases c3 : decide ((0 : Int) < ((chl l p).length : Int))
    case true =>
      rw [if_pos (by rw [c2, Bool.true_and, decide_eq_true_eq]; simp only [decide_eq_true_eq] at c3; omega)] at hk
      repeat (refine gk entU ?_)
      exact resK_weak (Weak.tu (as := [.v (.slice none 0 0), I 10]) (bs := [.sl .no 3 [], I 10]) ⟨Weak.nil' 3, Weak.refl _, trivial⟩) (hk H3 f4)
    rw [if_neg (by rw [c2, Bool.true_and, decide_eq_true_eq]; simp only [decide_eq_false_iff_not] at c3; omega)] at hk
    repeat (refine gk entU ?_)
    (apply r_call; (focus rfl))
    refine copy_spec L tk l (by omega) ho H3 _ (fun hz => by subst hz; exact absurd hi (by simp)) fun hne b cc zs Y hb g1 g2 g3 g4 hY fY => ?_
    repeat (refine gk entU ?_)
    (apply r_call; (focus rfl))
    have hb0 : H b = none := f4.none hb
    refine delete_spec L b l.length cc i l Y ⟨⟨zs, hY, g3, g4⟩, rfl, g1, g2⟩ (by omega) hi _ fun Z hol fZ => ?_
    obtain ⟨⟨zs', q1, q2, q3⟩, q4, q5, q6⟩ := hol
    have hcl := cellsE_len (l.take i ++ l.drop (i + 1))
    have e5 : cutL l p = l.take i ++ l.drop (i + 1) := by rw [cutL, h1]; rfl
    refine r_calm rfl rfl ?_
    refine r_calm rfl rfl ?_
    refine r_nil ?_
    refine n_n ?_
    refine s_v (vs_sl (t := 4) (sz := 3) (es := (l.take i ++ l.drop (i + 1)).map encE) rfl q1 ?_ ?_ ?_ q5 q6 ?_ ?_) ?_
    · rw [List.take_left' (by rw [hcl, q4]), flat_encE]
    · rw [List.length_append, hcl, q4]; omega
    · rw [List.length_map, q4]
    · rw [List.all_eq_true]; intro e he; obtain ⟨y, _, rfl⟩ := List.mem_map.mp he; rfl
    · intro e he; obtain ⟨y, _, rfl⟩ := List.mem_map.mp he; rfl
    repeat (refine gk entU ?_)
    rw [← e5]
    exact resK_some (hk _ (((f4.trans fY).own hb0 fZ).give hb0))
end Sm

set_option linter.unusedVariables false
set_option linter.unusedSimpArgs false
set_option maxRecDepth 10000
set_option maxHeartbeats 1000000
namespace Sm
open Go
-- BASE entU
def rremR (l : List Ent) (p : List UInt8) : List Ent × Int := if chkT l ≠ 0 then ([], chkT l) else if (getR l p).2 = false then ([], 8) else if (getR l p).1.dir && decide (0 < (chl l p).length) then ([], 10) else (l.filter (fun e => !(e.path == p)), 0)
attribute [local irreducible] csem rsem dsem seqK blockK normK finK DK RK JK BR G3 resK Spec Tok Fr

theorem rremove_spec (L : Linked code) (tk : Tk) (l : List Ent) (p : List UInt8) (hl : l.length ≤ 65536) (ho : ∀ e ∈ l, okE e) : PureF L 159 [.sl tk 3 (l.map encE), S p] (.tu [.sl .no 3 ((rremR l p).1.map encE), I (rremR l p).2]) := by
  intro H K hk
  refine go_spec L code159 rfl ?_
  repeat (refine gk entU ?_)
  (apply r_call; (focus rfl))
  refine tcheck_spec L tk l (by omega) ho H _ fun H1 f1 => ?_
  repeat (refine gk entU ?_)
  cases c1 : (chkT l != 0)
  case true =>
    rw [rremR, if_pos (by simpa [bne] using c1)] at hk
    repeat (refine gk entU ?_)
    exact resK_weak (Weak.tu (bs := [.sl .no 3 [], I (chkT l)]) ⟨Weak.nil' 3, Weak.refl _, trivial⟩) (hk H1 f1)
  rw [rremR, if_neg (by simpa [bne] using c1)] at hk
  repeat (refine gk entU ?_)
  (apply r_call; (focus rfl))
  refine rget_spec L tk l p (by omega) _ _ ?_
  repeat (refine gb entU ?_)
  refine c_join (Spec_SMono L) (ι := Unit) (fun _ => [(0, .h (.sl tk 3 (l.map encE))), (1, .h (S p))]) (fun _ => []) (fun _ H' => Fr [] H H' ∧ (getR l p).2 = true ∧ ((getR l p).1.dir && decide (0 < (chl l p).length)) = false) ?_ ?_
  · cases c2 : (getR l p).2
    case false =>
      rw [if_pos c2] at hk
      repeat (refine gk entU ?_)
      exact resK_weak (Weak.tu (as := [.v (.slice none 0 0), I 8]) (bs := [.sl .no 3 [], I 8]) ⟨Weak.nil' 3, Weak.refl _, trivial⟩) (hk H1 f1)
    rw [if_neg (by rw [c2]; decide)] at hk
    repeat (refine gk entU ?_)
    cases c3 : (getR l p).1.dir
    case false =>
      repeat (refine gk entU ?_)
      exact j_n () ⟨f1, rfl, rfl⟩ (by (refine leM ?_ ?_ ?_ <;> (repeat refine leS trivial ?_) <;> exact leE))
    repeat (refine gk entU ?_)
    (apply r_call; (focus rfl))
    refine rchildren_spec L tk l p (by omega) ho H1 _ fun H3 f3 => ?_
    have f4 := f1.trans f3
    repeat (refine gk entU ?_)
    cases c4 : decide ((0 : Int) < ((chl l p).length : Int))
    case true =>
      rw [if_pos (by rw [c3, Bool.true_and, decide_eq_true_eq]; simp only [decide_eq_true_eq] at c4; omega)] at hk
      repeat (refine gk entU ?_)
      exact resK_weak (Weak.tu (as := [.v (.slice none 0 0), I 10]) (bs := [.sl .no 3 [], I 10]) ⟨Weak.nil' 3, Weak.refl _, trivial⟩) (hk H3 f4)
    repeat (refine gk entU ?_)
    refine j_n () ⟨f4, rfl, ?_⟩ ?_
    · rw [Bool.true_and, decide_eq_false_iff_not]; simp only [decide_eq_false_iff_not] at c4; omega
    · (refine leM ?_ ?_ ?_ <;> (repeat refine leS trivial ?_) <;> exact leE)
  rintro _ H2 ⟨f2, c2, c3⟩
  rw [if_neg (by rw [c2]; decide), if_neg (by rw [c3]; decide)] at hk
  have hc := len_fil l (fun e : Ent => !(e.path == p))
  repeat (refine gk entU ?_)
  refine c_loop (Spec_SMono L) (fun (q : Nat × Tk) => [(0, .h (.sl tk 3 (l.map encE))), (1, .h (S p)), (9, .h (.sl q.2 3 (((l.take q.1).filter fun e => !(e.path == p)).map encE))), (10, .h (I q.1))]) (fun _ => [])
    (fun q H' => q.1 ≤ l.length ∧ Fr [] H H' ∧ Tok H' q.2 ((l.take q.1).filter fun e => !(e.path == p)).length 3 ∧ Fresh H q.2) (fun q => l.length - q.1) (0, .full) ?_ ⟨by simp, f2, Tok.ful _ _ _, by simp [Fresh, tb]⟩ ?_
  · refine leM ?_ ?_ ?_
    · refine leL_eq rfl rfl (leL_eq rfl rfl (leL_w rfl (Weak.nil _) (leL_eq rfl rfl leL_nil)))
    · exact leB_nil
    · exact leE
  rintro ⟨i, t⟩ H' ⟨hi, hfr, ht, hn⟩
  simp only at hi hfr ht hn ⊢
  have hb := hc i
  repeat (refine gk entU ?_)
  (refine ct entU ?_ ?_ <;> intro h)
  · have hi' : i < l.length := by simpa using h
    repeat (refine gk entU ?_)
    cases h2 : (l[i].path == p)
    · have e := fil_t (f := fun e : Ent => !(e.path == p)) hi' (by simp [h2])
      simp only [Bool.not_false]
      repeat (refine gk entU ?_)
      apply r_app; (focus rfl); (focus rfl); (focus (simpa using ht)); (focus (simp; omega))
      intro t' H3 k1 k2
      repeat (refine gk entU ?_)
      have e' : ((l.take (i + 1)).filter fun e => !(e.path == p)).map encE = ((l.take i).filter fun e => !(e.path == p)).map encE ++ [encE l[i]] := by rw [e]; simp
      refine k_n (i + 1, t') (by simp only; omega) ⟨by simp only; omega, hfr.apd hn k2, by simp only [e]; simpa using k1, hn.apd hfr k2⟩ ?_
      (refine leM ?_ ?_ ?_ <;> (repeat refine leS (And.intro entU e') ?_) <;> exact leE)
    · have e := fil_f (f := fun e : Ent => !(e.path == p)) hi' (by simp [h2])
      simp only [Bool.not_true]
      repeat (refine gk entU ?_)
      refine k_n (i + 1, t) (by simp only; omega) ⟨by simp only; omega, hfr, by simp only [e]; exact ht, hn⟩ ?_
      (refine leM ?_ ?_ ?_ <;> (repeat refine leS (And.intro entU e) ?_) <;> exact leE)
  · have hi' : i = l.length := by have : ¬ i < l.length := by simpa using h
                                  omega
    subst hi'
    simp only [List.take_length]
    repeat (refine gk entU ?_)
    exact resK_weak (Weak.tu (bs := [.sl .no 3 ((l.filter fun e => !(e.path == p)).map encE), I 0]) ⟨Weak.drop _ _ _, Weak.refl _, trivial⟩) (hk H' hfr)
end Sm

set_option linter.unusedVariables false
set_option linter.unusedSimpArgs false
set_option maxRecDepth 10000
set_option maxHeartbeats 1000000
namespace Sm
open Go
-- BASE entU
/-- The reference's step: first the new entry, if it is due, then the old one. -/
def st1 (x : Ent) (s : List Ent × Bool) (e : Ent) : List Ent × Bool := if !s.2 && !lessP e.path x.path then (s.1 ++ [x], true) else s
def st2 (x : Ent) (s : List Ent × Bool) (e : Ent) : List Ent × Bool := if e.path == x.path then s else (s.1 ++ [e], s.2)
def rout (l : List Ent) (x : Ent) (i : Nat) : List Ent × Bool := (l.take i).foldl (fun s e => st2 x (st1 x s e) e) ([], false)
def rputL (l : List Ent) (x : Ent) : List Ent := if (rout l x l.length).2 then (rout l x l.length).1 else (rout l x l.length).1 ++ [x]
def rputR (l : List Ent) (x : Ent) : List Ent × Int := if chkT l ≠ 0 then ([], chkT l) else if (getR l x.path).2 && !((getR l x.path).1.dir == x.dir) then ([], 9) else if chkT (rputL l x) ≠ 0 then ([], chkT (rputL l x)) else (rputL l x, 0)
theorem rout_succ {l : List Ent} {i : Nat} (h : i < l.length) (x : Ent) : rout l x (i + 1) = st2 x (st1 x (rout l x i) l[i]) l[i] := by
  rw [rout, List.take_succ_eq_append_getElem h, List.foldl_append]; rfl
theorem st1_len (x : Ent) (s : List Ent × Bool) (e : Ent) : (st1 x s e).1.length ≤ s.1.length + 1 := by
  unfold st1; split <;> simp
theorem st2_len (x : Ent) (s : List Ent × Bool) (e : Ent) : (st2 x s e).1.length ≤ s.1.length + 1 := by
  unfold st2; split <;> simp
theorem rout_len (l : List Ent) (x : Ent) : ∀ i, i ≤ l.length → (rout l x i).1.length ≤ 2 * i
  | 0, _ => by simp [rout]
  | i + 1, h => by
    rw [rout_succ (by omega)]
    have h1 := rout_len l x i (by omega)
    have h2 := st2_len x (st1 x (rout l x i) (l[i]'(by omega))) (l[i]'(by omega))
    have h3 := st1_len x (rout l x i) (l[i]'(by omega))
    omega
theorem st_mem {x : Ent} {s : List Ent × Bool} {e y : Ent} (h : y ∈ (st2 x (st1 x s e) e).1) : y ∈ s.1 ∨ y = x ∨ y = e := by
  have h1 : y ∈ (st1 x s e).1 ∨ y = e := by
    unfold st2 at h
    split at h
    · exact .inl h
    · rcases List.mem_append.mp h with h | h
      · exact .inl h
      · exact .inr (by simpa using h)
  rcases h1 with h1 | h1
  · unfold st1 at h1
    split at h1
    · rcases List.mem_append.mp h1 with h | h
      · exact .inl h
      · exact .inr (.inl (by simpa using h))
    · exact .inl h1
  · exact .inr (.inr h1)
theorem rout_mem {l : List Ent} {x y : Ent} : ∀ i, i ≤ l.length → y ∈ (rout l x i).1 → y ∈ l ∨ y = x
  | 0, _, h => by simp [rout] at h
  | i + 1, hi, h => by
    rw [rout_succ (by omega)] at h
    rcases st_mem h with h | h | h
    · exact rout_mem i (by omega) h
    · exact .inr h
    · exact .inl (h ▸ List.getElem_mem _)
theorem rputL_mem {l : List Ent} {x y : Ent} (h : y ∈ rputL l x) : y ∈ l ∨ y = x := by
  unfold rputL at h
  split at h
  · exact rout_mem _ (Nat.le_refl _) h
  · rcases List.mem_append.mp h with h | h
    · exact rout_mem _ (Nat.le_refl _) h
    · exact .inr (by simpa using h)
theorem rputL_len (l : List Ent) (x : Ent) : (rputL l x).length ≤ 2 * l.length + 1 := by
  have := rout_len l x l.length (Nat.le_refl _)
  unfold rputL
  split
  · omega
  · simp; omega
attribute [local irreducible] csem rsem dsem seqK blockK normK finK DK RK JK BR G3 resK Spec Tok Fr

theorem rput_spec (L : Linked code) (tk : Tk) (l : List Ent) (x : Ent) (hl : l.length ≤ 65536) (ho : ∀ e ∈ l, okE e) (hx : okE x) : PureF L 157 [.sl tk 3 (l.map encE), encE x] (.tu [.sl .no 3 ((rputR l x).1.map encE), I (rputR l x).2]) := by
  intro H K hk
  refine go_spec L code157 rfl ?_
  repeat (refine gk entU ?_)
  (apply r_call; (focus rfl))
  refine tcheck_spec L tk l (by omega) ho H _ fun H1 f1 => ?_
  repeat (refine gk entU ?_)
  cases c1 : (chkT l != 0)
  case true =>
    rw [rputR, if_pos (by simpa [bne] using c1)] at hk
    repeat (refine gk entU ?_)
    exact resK_weak (Weak.tu (bs := [.sl .no 3 [], I (chkT l)]) ⟨Weak.nil' 3, Weak.refl _, trivial⟩) (hk H1 f1)
  rw [rputR, if_neg (by simpa [bne] using c1)] at hk
  repeat (refine gk entU ?_)
  (apply r_call; (focus rfl))
  refine rget_spec L tk l x.path (by omega) _ _ ?_
  repeat (refine gj entU ?_)
  refine c_join (Spec_SMono L) (ι := Unit) (fun _ => [(0, .h (.sl tk 3 (l.map encE))), (3, .lp 0 0)]) (fun _ => [(0, [S x.path, B x.dir, .sl .no 1 (x.data.map U)])]) (fun _ H' => Fr [] H H' ∧ ((getR l x.path).2 && !((getR l x.path).1.dir == x.dir)) = false) ?_ ?_
  · repeat (refine gk entU ?_)
    cases c2 : (getR l x.path).2
    case false =>
      repeat (refine gk entU ?_)
      exact j_n () ⟨f1, rfl⟩ (by (refine leM ?_ ?_ ?_ <;> (repeat refine leS trivial ?_) <;> exact leE))
    repeat (refine gk entU ?_)
    cases c3 : ((getR l x.path).1.dir == x.dir)
    · rw [if_pos (by rw [c2, c3]; rfl)] at hk
      simp only [if_true, Bool.not_false]
      repeat (refine gk entU ?_)
      exact resK_weak (Weak.tu (as := [.v (.slice none 0 0), I 9]) (bs := [.sl .no 3 [], I 9]) ⟨Weak.nil' 3, Weak.refl _, trivial⟩) (hk H1 f1)
    · simp only [if_true, Bool.not_true]
      repeat (refine gk entU ?_)
      exact j_n () ⟨f1, rfl⟩ (by (refine leM ?_ ?_ ?_ <;> (repeat refine leS trivial ?_) <;> exact leE))
  rintro _ H2 ⟨f2, c2⟩
  rw [if_neg (by rw [c2]; decide)] at hk
  repeat (refine gk entU ?_)
  refine c_loop (Spec_SMono L) (fun (q : Nat × Tk) => [(0, .h (.sl tk 3 (l.map encE))), (3, .lp 0 0), (9, .h (.sl q.2 3 ((rout l x q.1).1.map encE))), (10, .h (B (rout l x q.1).2)), (11, .h (I q.1))]) (fun _ => [(0, [S x.path, B x.dir, .sl .no 1 (x.data.map U)])])
    (fun q H' => q.1 ≤ l.length ∧ Fr [] H H' ∧ Tok H' q.2 (rout l x q.1).1.length 3 ∧ Fresh H q.2) (fun q => l.length - q.1) (0, .full) ?_ ⟨by simp, f2, Tok.ful _ _ _, by simp [Fresh, tb]⟩ ?_
  · refine leM ?_ ?_ ?_
    · refine leL_eq rfl rfl (leL_eq rfl rfl (leL_w rfl (Weak.nil _) (leL_eq rfl rfl (leL_eq rfl rfl leL_nil))))
    · exact leB_eq rfl rfl leB_nil
    · exact leE
  rintro ⟨i, t⟩ H' ⟨hi, hfr, ht, hn⟩
  simp only at hi hfr ht hn ⊢
  have hb := rout_len l x i hi
  repeat (refine gk entU ?_)
  (refine ct entU ?_ ?_ <;> intro h)
  · have hi' : i < l.length := by simpa using h
    have hs := rout_succ hi' x
    have l1 := st1_len x (rout l x i) l[i]
    have l2 := st2_len x (st1 x (rout l x i) l[i]) l[i]
    repeat (refine gj entU ?_)
    refine c_join (Spec_SMono L) (ι := Tk) (fun t => [(0, .h (.sl tk 3 (l.map encE))), (3, .lp 0 0), (9, .h (.sl t 3 ((st1 x (rout l x i) l[i]).1.map encE))), (10, .h (B (st1 x (rout l x i) l[i]).2)), (11, .h (I i))]) (fun _ => [(0, [S x.path, B x.dir, .sl .no 1 (x.data.map U)])])
      (fun t H' => Fr [] H H' ∧ Tok H' t (st1 x (rout l x i) l[i]).1.length 3 ∧ Fresh H t) ?_ ?_
    · cases c3 : (rout l x i).2
      case true =>
        have e1 : st1 x (rout l x i) l[i] = rout l x i := by rw [st1, c3]; rfl
        repeat (refine gk entU ?_)
        refine j_n t ⟨hfr, by rw [e1]; exact ht, hn⟩ ?_
        (refine leM ?_ ?_ ?_ <;> (repeat refine leS (And.intro entU (And.intro e1 c3)) ?_) <;> exact leE)
      repeat (refine gk entU ?_)
      (apply r_call; (focus rfl))
      refine rless_spec L l[i].path x.path (ho _ (List.getElem_mem hi')).1 hx.1 H' _ fun H3 f3 => ?_
      repeat (refine gk entU ?_)
      cases c4 : lessP l[i].path x.path
      case true =>
        have e1 : st1 x (rout l x i) l[i] = rout l x i := by rw [st1, c3, c4]; rfl
        simp only [Bool.not_true]
        repeat (refine gk entU ?_)
        refine j_n t ⟨hfr.trans f3, by rw [e1]; exact ht.fr' f3 (by simp), hn⟩ ?_
        (refine leM ?_ ?_ ?_ <;> (repeat refine leS (And.intro entU (And.intro e1 c3)) ?_) <;> exact leE)
      have e1 : st1 x (rout l x i) l[i] = ((rout l x i).1 ++ [x], true) := by rw [st1, c3, c4]; rfl
      simp only [Bool.not_false]
      repeat (refine gk entU ?_)
      apply r_app; (focus rfl); (focus rfl); (focus (simpa using ht.fr' f3 (by simp))); (focus (simp; omega))
      intro t' H4 k1 k2
      repeat (refine gk entU ?_)
      refine j_n t' ⟨(hfr.trans f3).apd hn k2, by rw [e1]; simpa using k1, hn.apd (hfr.trans f3) k2⟩ ?_
      (refine leM ?_ ?_ ?_ <;> (repeat refine leS (And.intro entU e1) ?_) <;> exact leE)
    rintro t' H3 ⟨f3, k1, k2⟩
    generalize st1 x (rout l x i) l[i] = s1 at hs l1 l2 k1
    repeat (refine gk entU ?_)
    cases c5 : (l[i].path == x.path)
    case true =>
      have e2 : rout l x (i + 1) = s1 := by rw [hs, st2, c5]; rfl
      simp only [Bool.not_true]
      repeat (refine gk entU ?_)
      refine k_n (i + 1, t') (by simp only; omega) ⟨by simp only; omega, f3, by simp only [e2]; exact k1, k2⟩ ?_
      (refine leM ?_ ?_ ?_ <;> (repeat refine leS (And.intro entU e2) ?_) <;> exact leE)
    have e2 : rout l x (i + 1) = (s1.1 ++ [l[i]], s1.2) := by rw [hs, st2, c5]; rfl
    simp only [Bool.not_false]
    repeat (refine gk entU ?_)
    apply r_app; (focus rfl); (focus rfl); (focus (simpa using k1)); (focus (simp; omega))
    intro t2 H4 m1 m2
    repeat (refine gk entU ?_)
    refine k_n (i + 1, t2) (by simp only; omega) ⟨by simp only; omega, f3.apd k2 m2, by simp only [e2]; simpa using m1, k2.apd f3 m2⟩ ?_
    (refine leM ?_ ?_ ?_ <;> (repeat refine leS (And.intro entU e2) ?_) <;> exact leE)
  · have hi' : i = l.length := by have : ¬ i < l.length := by simpa using h
                                  omega
    subst hi'
    have hlen := rout_len l x l.length (Nat.le_refl _)
    repeat (refine gb entU ?_)
    cases c6 : (rout l x l.length).2
    case true =>
      have e3 : rputL l x = (rout l x l.length).1 := by rw [rputL, c6]; rfl
      simp only [Bool.not_true]
      rw [← e3]
      repeat (refine gk entU ?_)
      (apply r_call; (focus rfl))
      refine tcheck_spec L t (rputL l x) (by have := rputL_len l x; omega) (fun e he => (rputL_mem he).elim (ho e) (fun h => h ▸ hx)) _ _ fun H5 f5 => ?_
      have f6 := hfr.trans f5
      repeat (refine gk entU ?_)
      cases c7 : (chkT (rputL l x) != 0)
      case true =>
        rw [if_pos (by simpa [bne] using c7)] at hk
        repeat (refine gk entU ?_)
        exact resK_weak (Weak.tu (bs := [.sl .no 3 [], I (chkT (rputL l x))]) ⟨Weak.nil' 3, Weak.refl _, trivial⟩) (hk H5 f6)
      rw [if_neg (by simpa [bne] using c7)] at hk
      repeat (refine gk entU ?_)
      exact resK_weak (Weak.tu (bs := [.sl .no 3 ((rputL l x).map encE), I 0]) ⟨Weak.drop _ _ _, Weak.refl _, trivial⟩) (hk H5 f6)
    have e3 : rputL l x = (rout l x l.length).1 ++ [x] := by rw [rputL, c6]; rfl
    have e4 : (rputL l x).map encE = (rout l x l.length).1.map encE ++ [encE x] := by rw [e3]; simp
    simp only [Bool.not_false]
    repeat (refine gk entU ?_)
    apply r_app; (focus rfl); (focus rfl); (focus (simpa using ht)); (focus (simp; omega))
    intro t2 H4 m1 m2
    rw [show [HV.ag [S x.path, B x.dir, .sl .no 1 (x.data.map U)]] = [encE x] from rfl, ← e4]
    have f7 := hfr.apd hn m2
    repeat (refine gk entU ?_)
    (apply r_call; (focus rfl))
    refine tcheck_spec L t2 (rputL l x) (by have := rputL_len l x; omega) (fun e he => (rputL_mem he).elim (ho e) (fun h => h ▸ hx)) _ _ fun H5 f5 => ?_
    have f6 := f7.trans f5
    repeat (refine gk entU ?_)
    cases c7 : (chkT (rputL l x) != 0)
    case true =>
      rw [if_pos (by simpa [bne] using c7)] at hk
      repeat (refine gk entU ?_)
      exact resK_weak (Weak.tu (bs := [.sl .no 3 [], I (chkT (rputL l x))]) ⟨Weak.nil' 3, Weak.refl _, trivial⟩) (hk H5 f6)
    rw [if_neg (by simpa [bne] using c7)] at hk
    repeat (refine gk entU ?_)
    exact resK_weak (Weak.tu (bs := [.sl .no 3 ((rputL l x).map encE), I 0]) ⟨Weak.drop _ _ _, Weak.refl _, trivial⟩) (hk H5 f6)
end Sm

set_option linter.unusedVariables false
set_option linter.unusedSimpArgs false
set_option maxRecDepth 10000
set_option maxHeartbeats 1000000
namespace Sm
open Go
-- BASE entU
attribute [local irreducible] csem rsem dsem seqK blockK normK finK DK RK JK BR G3 resK Spec Tok Fr
theorem rcopy_spec (L : Linked code) (tk : Tk) (l : List Ent) (hl : l.length ≤ 65536) (ho : ∀ e ∈ l, okE e) : PureF L 155 [.sl tk 3 (l.map encE)] (.sl .no 3 (l.map encE)) := by
  intro H K hk
  refine go_spec L code155 rfl ?_
  repeat (refine gk entU ?_)
  refine c_loop (Spec_SMono L) (fun (q : Nat × Tk) => [(0, .h (.sl tk 3 (l.map encE))), (3, .h (.sl q.2 3 ((l.take q.1).map encE))), (4, .h (I q.1))]) (fun _ => [])
    (fun q H' => q.1 ≤ l.length ∧ Fr [] H H' ∧ Tok H' q.2 (l.take q.1).length 3 ∧ Fresh H q.2) (fun q => l.length - q.1) (0, .full) ?_ ⟨by simp, Fr.refl _ _, Tok.ful _ _ _, by simp [Fresh, tb]⟩ ?_
  · refine leM ?_ ?_ ?_
    · refine leL_eq rfl rfl (leL_w rfl (Weak.nil _) (leL_eq rfl rfl leL_nil))
    · exact leB_nil
    · exact leE
  rintro ⟨i, t⟩ H' ⟨hi, hfr, ht, hn⟩
  simp only at hi hfr ht hn ⊢
  repeat (refine gk entU ?_)
  (refine ct entU ?_ ?_ <;> intro h)
  · have hi' : i < l.length := by simpa using h
    have hok := ho _ (List.getElem_mem hi')
    have hd : l[i].data.length ≤ 140737488355328 := Nat.le_trans hok.2 (by decide)
    have e : (l.take (i + 1)).map encE = (l.take i).map encE ++ [encE l[i]] := by rw [List.take_succ_eq_append_getElem hi', List.map_append]; rfl
    repeat (refine gk entU ?_)
    apply r_app; (focus rfl); (focus rfl); (focus exact Tok.ful _ _ _); (focus (simp; omega))
    intro t' H3 k1 k2
    refine r_calm rfl rfl ?_
    refine r_storeb rfl rfl rfl rfl rfl rfl rfl ?_
    refine r_nil ?_
    refine n_n ?_
    refine s_v (VS.le (e1 := M [(0, .h (.sl tk 3 (l.map encE))), (3, .h (.sl t 3 ((l.take i).map encE))), (4, .h (I i)), (5, .lp 0 0)] [(0, [S l[i].path, B l[i].dir, .sl .no 1 (l[i].data.map U)])]) (leM ?_ ?_ ?_)) ?_
    · exact leL_eq rfl rfl (leL_eq rfl rfl (leL_eq rfl rfl (leL_eq rfl rfl leL_nil)))
    · exact leB_w rfl ⟨Weak.refl _, Weak.refl _, Weak.drop _ _ _, trivial⟩ rfl leB_nil
    · exact leE
    have f3 : Fr [] H' H3 := k2.fr0
    repeat (refine gk entU ?_)
    apply r_app; (focus rfl); (focus rfl); (focus (simpa using ht.fr' f3 (by simp))); (focus (simp; omega))
    intro t2 H4 m1 m2
    repeat (refine gk entU ?_)
    refine k_n (i + 1, t2) (by simp only; omega) ⟨by simp only; omega, (hfr.trans f3).apd hn m2, ?_, hn.apd (hfr.trans f3) m2⟩ ?_
    · have e2 : (l.take (i + 1)).length = (l.take i).length + 1 := by simp only [List.length_take]; omega
      simp only [e2]; simpa using m1
    (refine leM ?_ ?_ ?_ <;> (repeat refine leS (And.intro entU e) ?_) <;> exact leE)
  · have hi' : i = l.length := by have : ¬ i < l.length := by simpa using h
                                  omega
    subst hi'
    simp only [List.take_length]
    repeat (refine gk entU ?_)
    exact resK_weak (Weak.drop _ _ _) (hk H' hfr)
end Sm

set_option linter.unusedVariables false
set_option linter.unusedSimpArgs false
set_option maxRecDepth 10000
set_option maxHeartbeats 1000000
namespace Sm
open Go
-- BASE entU
/-- Is a list light enough? -/
def lightR (k : Nat) : Nat → List Ent → Bool
  | _, [] => true
  | s, e :: r => if 1000 < e.path.length then false else if k < s + min e.data.length (k + 1) then false else lightR k (s + min e.data.length (k + 1)) r
def light (l : List Ent) (n k : Nat) : Bool := if n < l.length then false else lightR k 0 l
attribute [local irreducible] csem rsem dsem seqK blockK normK finK DK RK JK BR G3 resK Spec Tok Fr
theorem light_spec (L : Linked code) (tk : Tk) (l : List Ent) (n k : Nat) (hn : n ≤ 1048576) (hkk : k ≤ 1048576) : Pure L 148 [.sl tk 3 (l.map encE), I n, I k] (B (light l n k)) := by
  intro H K hk
  refine go_spec L code148 rfl ?_
  repeat (refine gk entU ?_)
  cases c1 : decide ((n : Int) < (l.length : Int))
  case true =>
    rw [light, if_pos (by simp only [decide_eq_true_eq] at c1; omega)] at hk
    repeat (refine gk entU ?_)
    exact resK_some hk
  have hln : l.length ≤ n := by simp only [decide_eq_false_iff_not] at c1; omega
  rw [light, if_neg (by omega)] at hk
  repeat (refine gk entU ?_)
  refine c_loop (Spec_SMono L) (fun (q : Nat × Nat) => [(0, .h (.sl tk 3 (l.map encE))), (2, .h (I k)), (7, .h (I q.2)), (8, .h (I q.1))]) (fun _ => [])
    (fun q H' => H' = H ∧ q.1 ≤ l.length ∧ q.2 ≤ k ∧ lightR k 0 l = lightR k q.2 (l.drop q.1)) (fun q => l.length - q.1) (0, 0) ?_ ⟨rfl, by simp, by simp, by simp⟩ ?_
  · (refine leM ?_ ?_ ?_ <;> (repeat refine leS trivial ?_) <;> exact leE)
  rintro ⟨i, s⟩ H' ⟨rfl, hi, hs, he⟩
  simp only at hi hs he ⊢
  repeat (refine gk entU ?_)
  (refine ct entU ?_ ?_ <;> intro h)
  · have hi' : i < l.length := by simpa using h
    rw [List.drop_eq_getElem_cons hi', lightR] at he
    repeat (refine gk entU ?_)
    cases c2 : decide ((1000 : Int) < (l[i].path.length : Int))
    case true =>
      rw [he, if_pos (by simp only [decide_eq_true_eq] at c2; omega)] at hk
      repeat (refine gk entU ?_)
      exact resK_some hk
    rw [if_neg (by simp only [decide_eq_false_iff_not] at c2; omega)] at he
    repeat (refine gk entU ?_)
    have em : ((s : Int) + min (l[i].data.length : Int) ((k : Int) + 1)) = ((s + min l[i].data.length (k + 1) : Nat) : Int) := by omega
    rw [em]
    generalize s + min l[i].data.length (k + 1) = s2 at he
    cases c3 : decide ((k : Int) < (s2 : Int))
    case true =>
      rw [he, if_pos (by simp only [decide_eq_true_eq] at c3; omega)] at hk
      repeat (refine gk entU ?_)
      exact resK_some hk
    have hs2 : s2 ≤ k := by simp only [decide_eq_false_iff_not] at c3; omega
    rw [if_neg (by omega)] at he
    repeat (refine gk entU ?_)
    refine k_n (i + 1, s2) (by simp only; omega) ⟨rfl, by simp only; omega, hs2, he⟩ ?_
    (refine leM ?_ ?_ ?_ <;> (repeat refine leS trivial ?_) <;> exact leE)
  · have hi' : i = l.length := by have : ¬ i < l.length := by simpa using h
                                  omega
    subst hi'
    rw [List.drop_length] at he
    rw [he] at hk
    repeat (refine gk entU ?_)
    exact resK_some hk
theorem lightR_ok {k : Nat} : ∀ {s : Nat} {l : List Ent}, lightR k s l = true → ∀ e ∈ l, e.path.length ≤ 1000 ∧ e.data.length ≤ k
  | _, [], _, e, he => by simp at he
  | s, x :: r, h, e, he => by
    rw [lightR] at h
    split at h
    · cases h
    · split at h
      · cases h
      · rcases List.mem_cons.mp he with rfl | he
        · omega
        · exact lightR_ok h e he
theorem light_ok {l : List Ent} {n k : Nat} (hk : k ≤ 1048576) (h : light l n k = true) : l.length ≤ n ∧ (∀ e ∈ l, okE e) := by
  rw [light] at h
  split at h
  · cases h
  · refine ⟨by omega, fun e he => ?_⟩
    have := lightR_ok h e he
    exact ⟨by omega, by omega⟩
theorem sameE_self (e : Ent) : sameE e e = true := by simp [sameE]
end Sm

set_option linter.unusedVariables false
set_option linter.unusedSimpArgs false
set_option maxRecDepth 10000
set_option maxHeartbeats 1000000
namespace Sm
open Go
-- BASE entU
theorem rep_weakL {ν : Nat → Option Nat} {K : Nat → Nat} {w : World} : ∀ {hs hs' : List HV} {us : List Value}, WeakL hs hs' → repL ν K w hs us → repL ν K w hs' us
  | [], [], us, _, h => h
  | a :: as, b :: bs, us, hw, h => by
    simp only [repL] at h ⊢
    obtain ⟨u, us', h1, h2, h3⟩ := h
    exact ⟨u, us', h1, hw.1 _ _ _ _ h2, rep_weakL hw.2 h3⟩
  | [], _ :: _, us, hw, h => absurd hw (by simp [WeakL])
  | _ :: _, [], us, hw, h => absurd hw (by simp [WeakL])
theorem Spec_weak {P : Program} {ν : Nat → Option Nat} {g : Nat} {hs hs' : List HV} {H : Heap} {K : HV → Heap → Prop} (hw : WeakL hs hs') (h : Spec P ν g hs' H K) : Spec P ν g hs H K :=
  fun n hn w K us h1 h2 => h n hn w K us h1 (rep_weakL hw h2)
theorem WeakL.len : ∀ {as bs : List HV}, WeakL as bs → as.length = bs.length
  | [], [], _ => rfl
  | a :: as, b :: bs, h => by simp [WeakL.len h.2]
  | [], _ :: _, h => absurd h (by simp [WeakL])
  | _ :: _, [], h => absurd h (by simp [WeakL])
theorem Weak.els {tk : Tk} {sz : Nat} {as bs : List HV} (hw : WeakL as bs) (g1 : bs.all HV.el = true) (g2 : ∀ e ∈ bs, e.ncells = sz) : Weak (.sl tk sz as) (.sl .no sz bs) := by
  intro ν K w u hr
  simp only [rep] at hr ⊢
  obtain ⟨A, cap, vals, h1, h2, h3, h4, h5, h6, h7, h8⟩ := hr
  have hl := hw.len
  rw [hl] at h1 h2 h8
  refine ⟨A, cap, vals, h1, h2, h3, trivial, g1, g2, rep_weakL hw h7, ?_⟩
  rcases h8 with h8 | h8
  · subst h8; exact .inl (List.length_eq_zero_iff.mp (by simpa using hl.symm))
  · exact .inr h8
section
variable {S' : SpecT} {sl : List (Nat × EV)} {bx : List (Nat × List HV)} {H : Heap} {K : Env → Heap → Prop} {os : List SOper} {d : Nat}
theorem r_bsl {sz : Nat} {ps : List Opd} {hs : List HV} (hp : (M sl bx).hvs ps = some hs) (h1 : hs.all HV.el = true) (h2 : ∀ h ∈ hs, h.ncells = sz)
    (hk : ∀ b X, H b = none → X b = some (.obj (hs.flatMap HV.cells)) → Fr [] H X → rsem S' os (M ((d, .h (.v (.slice (some ⟨b, 0, none⟩) hs.length hs.length))) :: sl) bx) X K) : rsem S' (⟨some d, .hop (.bsl sz) ps, none⟩ :: os) (M sl bx) H K := by
  rw [rsem_cons]
  simp only [SOp.step, hp, hopK]
  refine ⟨h1, h2, fun b hb => ?_⟩
  rw [rK_app, M_put]; exact hk b _ hb (Heap.upd_same _ _ _) (Fr.new hb)
theorem r_mark {x : Opd} {b n c : Nat} {cs : List HV} (hx : (M sl bx).hvs [x] = some [.v (.slice (some ⟨b, 0, none⟩) n c)]) (hb : H b = some (.obj cs)) (hn : cs.length = n) (hc : n ≤ c) (hm : c ≤ maxLen)
    (hk : rsem S' os (M ((d, .h (.sl .no 1 cs)) :: sl) bx) (H.upd b none) K) : rsem S' (⟨some d, .hop .mark [x], none⟩ :: os) (M sl bx) H K := by
  rw [rsem_cons]
  simp only [SOp.step, hx, hopK]
  refine ⟨cs, hb, hn, hc, hm, ?_⟩
  rw [rK_app, M_put]; exact hk
end
end Sm
