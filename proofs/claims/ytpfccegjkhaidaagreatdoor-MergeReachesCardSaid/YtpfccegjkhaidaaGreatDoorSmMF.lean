/-
  A layer of one's own: texts M17,M18,M19,M20.
-/
import Derived.Test.YtpfccegjkhaidaaGreatDoorSmME
import Derived.Test.YtpfccegjkhaidaaGreatDoorSmTD
set_option linter.unusedVariables false
set_option linter.unusedSimpArgs false
set_option maxRecDepth 10000
set_option maxHeartbeats 1000000
namespace Sm
open Go
-- BASE entU
theorem pushes_congr {k : UInt8} {p p' : Ent → Bool} {q q' : Ent → List UInt8} : ∀ {l : List Ent}, (∀ e ∈ l, p e = p' e ∧ (p e = true → q e = q' e)) → pushes k p q l = pushes k p' q' l
  | [], _ => rfl
  | x :: l, h => by
    have ih := pushes_congr (k := k) (l := l) fun e he => h e (by simp [he])
    obtain ⟨h1, h2⟩ := h x (by simp)
    unfold pushes at ih ⊢
    rw [List.filter_cons, List.filter_cons, ← h1]
    cases c : p x
    · exact ih
    · simp only [if_true, List.map_cons]
      rw [ih, h2 c]
theorem rkp_nodir {s d : List Ent} {del bak : Bool} {x : Ent} (h : rkp s d del bak x = true) (h2 : (getR d (rkep x.path)).2 = true) : (getR d (rkep x.path)).1.dir = false := by
  cases c : (getR d (rkep x.path)).1.dir
  · rfl
  · rw [rkp, h2, c] at h
    simp at h
theorem q3_eq {s d : List Ent} {del bak : Bool} (hs : chkT s = 0) (hd : chkT d = 0) {e : Ent} (he : e ∈ d) : q3 ⟨s, d, del, bak⟩ e = r3 s d del bak e ∧ (q3 ⟨s, d, del, bak⟩ e = true → kpM ⟨s, d, del, bak⟩ e = rkep e.path) := by
  unfold q3 r3
  rw [kpM_eq hs hd (okD hd he)]
  cases c : rkp s d del bak e
  · simp
  · have hne : (rkep e.path == []) = false := by simpa using rkp_ne c
    simp only [if_true, hne, Bool.not_false, Bool.true_and, fileM]
    refine ⟨?_, fun _ => trivial⟩
    cases c2 : (getR d (rkep e.path)).2
    · rfl
    · rw [rkp_nodir c c2]; rfl
theorem v1_mem {s : List Ent} {del : Bool} {P : Ent → Prop} : ∀ {l m : List Ent}, (∀ e ∈ l, P e) → (∀ e ∈ m, P e) → ∀ e ∈ v1 s del l m, P e
  | [], m, _, hm => hm
  | x :: l, m, hl, hm => by
    show ∀ e ∈ v1 s del l (if rst s del x then rputL m x else m), P e
    refine v1_mem (fun e he => hl e (by simp [he])) ?_
    split
    · intro e he
      rcases rputL_mem he with h | rfl
      · exact hm e h
      · exact hl _ (by simp)
    · exact hm
theorem v2_mem {s d : List Ent} {del bak : Bool} {P : Ent → Prop} : ∀ {l m : List Ent}, (∀ e ∈ l, rkp s d del bak e = true → P ⟨rkep e.path, false, e.data⟩) → (∀ e ∈ m, P e) → ∀ e ∈ v2 s d del bak l m, P e
  | [], m, _, hm => hm
  | x :: l, m, hl, hm => by
    show ∀ e ∈ v2 s d del bak l (if rkp s d del bak x then rputL m ⟨rkep x.path, false, x.data⟩ else m), P e
    refine v2_mem (fun e he => hl e (by simp [he])) ?_
    split
    · rename_i c
      intro e he
      rcases rputL_mem he with h | rfl
      · exact hm e h
      · exact hl _ (by simp) c
    · exact hm
theorem v3_mem {P : Ent → Prop} : ∀ {l m : List Ent}, (∀ e ∈ l, P e) → (∀ e ∈ m, P e) → ∀ e ∈ v3 l m, P e
  | [], m, _, hm => hm
  | x :: l, m, hl, hm => by
    show ∀ e ∈ v3 l (rputL m x), P e
    refine v3_mem (fun e he => hl e (by simp [he])) ?_
    intro e he
    rcases rputL_mem he with h | rfl
    · exact hm e h
    · exact hl _ (by simp)
theorem vant_mem {s d : List Ent} {del bak : Bool} {P : Ent → Prop} (hs : ∀ e ∈ s, P e) (hd : ∀ e ∈ d, P e) (hk : ∀ e ∈ d, rkp s d del bak e = true → P ⟨rkep e.path, false, e.data⟩) : ∀ e ∈ vant s d del bak, P e :=
  v3_mem hs (v2_mem hk (v1_mem hd (by simp)))
theorem mem_path {l : List Ent} (h : chkT l = 0) {e : Ent} (he : e ∈ l) : e.path ≠ [] := by
  obtain ⟨i, hi, rfl⟩ := List.getElem_of_mem he
  exact path_ne (chkT_at h i hi)
theorem vant_path {s d : List Ent} {del bak : Bool} (hs : chkT s = 0) (hd : chkT d = 0) : ∀ e ∈ vant s d del bak, e.path ≠ [] :=
  vant_mem (fun e he => mem_path hs he) (fun e he => mem_path hd he) fun e he h => rkp_ne h
/-- Both plans are the same. -/
theorem steps_eq {s d : List Ent} {del bak : Bool} (hs : chkT s = 0) (hd : chkT d = 0) : stepsM ⟨s, d, del, bak⟩ (vant s d del bak) = stepsR s d del bak (vant s d del bak) := by
  unfold stepsM stepsR
  dsimp only
  congr 1
  congr 1
  · congr 1
    exact pushes_congr fun e he => q3_eq hs hd he
  · refine pushes_congr fun e he => ⟨?_, fun _ => rfl⟩
    have hp : (e.path == []) = false := by simpa using vant_path hs hd e he
    simp only [q5, r5, dirM, hp, Bool.false_or]
theorem stepsR_len {s d : List Ent} {del bak : Bool} {W : List Ent} : (stepsR s d del bak W).length ≤ 2 * d.length + W.length + s.length := by
  have h1 := pushes_len (k := 0) (p := r3 s d del bak) (q := fun e => rkep e.path) (l := d)
  have h2 := pushes_len (k := 1) (p := q4 W) (q := fun _ => []) (l := d.reverse)
  have h3 := pushes_len (k := 2) (p := r5 d) (q := fun _ => []) (l := W)
  have h4 := pushes_len (k := 3) (p := r6 d) (q := fun _ => []) (l := s)
  rw [List.length_reverse] at h2
  unfold stepsR
  simp only [List.length_append]; omega
theorem encP_u : ∀ x : Stp, encP x = .ag [U x.k, S x.p, S x.t] := fun _ => rfl
/-- Are lists of steps the same? -/
def sameP (a b : List Stp) : Bool := decide (a = b)
attribute [local irreducible] csem rsem dsem seqK blockK normK finK DK RK JK BR G3 resK Spec Tok Fr CV

theorem samep_spec (L : Linked code) (t1 t2 : Tk) (a : List Stp) (hl : a.length ≤ 1048576) : Pure L 239 [.sl t1 3 (a.map encP), .sl t2 3 (a.map encP)] (B true) := by
  intro H K hk
  refine go_spec L code239 rfl ?_
  repeat (refine gk entU ?_)
  refine c_loop (Spec_SMono L) (fun (i : Nat) => [(0, .h (.sl t1 3 (a.map encP))), (1, .h (.sl t2 3 (a.map encP))), (5, .h (I i))]) (fun _ => [])
    (fun i X => i ≤ a.length ∧ X = H) (fun i => a.length - i) 0 ?_ ⟨by simp, rfl⟩ ?_
  · (refine leM ?_ ?_ ?_ <;> (repeat refine leS trivial ?_) <;> exact leE)
  rintro i X ⟨hi, rfl⟩
  repeat (refine gk entU ?_)
  (refine ct entU ?_ ?_ <;> intro h)
  · have hi' : i < a.length := by simpa using h
    repeat (refine gk (And.intro entU encP_u) ?_)
    simp only [bne_self_eq_false]
    repeat (refine gk (And.intro entU encP_u) ?_)
    simp only [beq_self_eq_true, bne_self_eq_false, Bool.not_true]
    repeat (refine gk (And.intro entU encP_u) ?_)
    simp only [beq_self_eq_true, bne_self_eq_false, Bool.not_true]
    repeat (refine gk (And.intro entU encP_u) ?_)
    refine k_n (i + 1) (by omega) ⟨by omega, rfl⟩ ?_
    (refine leM ?_ ?_ ?_ <;> (repeat refine leS trivial ?_) <;> exact leE)
  repeat (refine gk entU ?_)
  exact resK_some hk
theorem mlight_spec (L : Linked code) (t1 t2 : Tk) (s d : List Ent) : Pure L 233 [.sl t1 3 (s.map encE), .sl t2 3 (d.map encE)] (B (light s 66 3000 && light d 66 3000)) := by
  intro H K hk
  refine go_spec L code233 rfl ?_
  repeat (refine gk entU ?_)
  (apply r_call; (focus rfl))
  refine light_spec L t1 s 66 3000 (by decide) (by decide) _ _ ?_
  cases c : light s 66 3000
  · rw [c] at hk
    repeat (refine gk entU ?_)
    exact resK_some hk
  rw [c] at hk
  repeat (refine gk entU ?_)
  (apply r_call; (focus rfl))
  refine light_spec L t2 d 66 3000 (by decide) (by decide) _ _ ?_
  repeat (refine gk entU ?_)
  exact resK_some hk
end Sm

set_option linter.unusedVariables false
set_option linter.unusedSimpArgs false
set_option maxRecDepth 10000
set_option maxHeartbeats 1000000
namespace Sm
open Go
-- BASE entU
def fileR (l : List Ent) (p : List UInt8) : Bool := (getR l p).2 && !(getR l p).1.dir
/-- What a step makes of a tree. -/
def applyM (l : List Ent) (x : Stp) (s : List Ent) : List Ent × Int :=
  if x.k = 0 then (if fileR l x.p then putR l ⟨x.t, false, (getR l x.p).1.data⟩ else ([], 8))
  else if x.k = 1 then remR l x.p
  else if x.k = 2 then putR l ⟨x.p, true, []⟩
  else if x.k = 3 then (if fileR s x.p then putR l (getR s x.p).1 else ([], 8))
  else ([], 2)
/-- May a path have what it has? -/
def pathM (a b : List Ent) (p : List UInt8) (now : Ent) (is : Bool) : Bool :=
  if is then ((getR a p).2 && sameT [(getR a p).1] [now]) || ((getR b p).2 && sameT [(getR b p).1] [now])
  else !(getR a p).2 || (!(getR b p).2 || !((getR a p).1.dir == (getR b p).1.dir))
attribute [local irreducible] csem rsem dsem seqK blockK normK finK DK RK JK BR G3 resK Spec Tok Fr CV

theorem fileof_spec (L : Linked code) (tk : Tk) (l : List Ent) (p : List UInt8) (hl : l.length ≤ 1048576) (hd : ∀ e ∈ l, e.data.length ≤ 140737488355328) : PureF L 262 [.sl tk 3 (l.map encE), S p] (.tu [encE (getR l p).1, B (fileR l p)]) := by
  intro H K hk
  unfold fileR at hk
  refine go_spec L code262 rfl ?_
  repeat (refine gk entU ?_)
  (apply r_call; (focus rfl))
  refine get_spec L tk l p hl hd _ _ fun H1 f1 => ?_
  cases c1 : (getR l p).2
  case false =>
    rw [c1] at hk
    repeat (refine gk entU ?_)
    exact resK_some (hk H1 f1)
  rw [c1] at hk
  repeat (refine gk entU ?_)
  exact resK_some (hk H1 f1)
theorem msame_spec (L : Linked code) (x y : Ent) : Pure L 264 [encE x, encE y] (B (sameT [x] [y])) := by
  intro H K hk
  refine go_spec L code264 rfl ?_
  repeat (refine gk entU ?_)
  (apply r_call; (focus rfl))
  refine same_spec L .full .full [x] [y] (by simp) _ _ ?_
  repeat (refine gk entU ?_)
  exact resK_some hk
theorem apply_spec (L : Linked code) (t1 t2 : Tk) (l : List Ent) (x : Stp) (s : List Ent) (hl : l.length ≤ 65536) (hs : s.length ≤ 65536) (ol : ∀ e ∈ l, okE e) (os : ∀ e ∈ s, okE e) (hx1 : x.p.length ≤ 1048576) (hx2 : x.t.length ≤ 1048576) : PureF L 240 [.sl t1 3 (l.map encE), encP x, .sl t2 3 (s.map encE)] (.tu [.sl .no 3 ((applyM l x s).1.map encE), I (applyM l x s).2]) := by
  have odl : ∀ e ∈ l, e.data.length ≤ 140737488355328 := fun e he => Nat.le_trans (ol e he).2 (by decide)
  have ods : ∀ e ∈ s, e.data.length ≤ 140737488355328 := fun e he => Nat.le_trans (os e he).2 (by decide)
  intro H K hk
  obtain ⟨k, p, t⟩ := x
  dsimp only at hx1 hx2
  unfold applyM at hk
  dsimp only at hk
  refine go_spec L code240 rfl ?_
  have ku : ∀ n : UInt8, ((k.toNat : Int) == (n.toNat : Int)) = (k == n) := fun n => byte_eq
  repeat (refine gk (And.intro entU encP_u) ?_)
  rw [show (0 : Int) = ((0 : UInt8).toNat : Int) from rfl, ku]
  cases c0 : (k == 0)
  case true =>
    have c0' : k = 0 := by simpa using c0
    rw [if_pos c0'] at hk
    repeat (refine gk (And.intro entU encP_u) ?_)
    (apply r_call; (focus rfl))
    refine fileof_spec L t1 l p (by omega) odl _ _ fun H1 f1 => ?_
    cases c1 : fileR l p
    case false =>
      rw [c1] at hk
      simp only [Bool.false_eq_true, if_false] at hk
      repeat (refine gk (And.intro entU encP_u) ?_)
      try simp only [Bool.not_false]
      repeat (refine gk (And.intro entU encP_u) ?_)
      exact resK_weak (Weak.tu (bs := [.sl .no 3 [], I 8]) ⟨Weak.nil' 3, Weak.refl _, trivial⟩) (hk H1 f1)
    rw [c1] at hk
    simp only [if_true] at hk
    repeat (refine gk (And.intro entU encP_u) ?_)
    try simp only [Bool.not_true]
    repeat (refine gk (And.intro entU encP_u) ?_)
    (apply r_call; (focus rfl))
    refine put_spec L t1 l ⟨t, false, (getR l p).1.data⟩ hl ol ⟨hx2, (getR_ok ol p).2⟩ _ _ fun H2 f2 => ?_
    repeat (refine gk (And.intro entU encP_u) ?_)
    exact resK_some (hk H2 (f1.trans f2))
  have c0' : k ≠ 0 := by simpa using c0
  rw [if_neg c0'] at hk
  repeat (refine gk (And.intro entU encP_u) ?_)
  rw [show (1 : Int) = ((1 : UInt8).toNat : Int) from rfl, ku]
  cases c1 : (k == 1)
  case true =>
    have c1' : k = 1 := by simpa using c1
    rw [if_pos c1'] at hk
    repeat (refine gk (And.intro entU encP_u) ?_)
    (apply r_call; (focus rfl))
    refine remove_spec L t1 l p hl ol _ _ fun H2 f2 => ?_
    repeat (refine gk (And.intro entU encP_u) ?_)
    exact resK_some (hk H2 f2)
  have c1' : k ≠ 1 := by simpa using c1
  rw [if_neg c1'] at hk
  repeat (refine gk (And.intro entU encP_u) ?_)
  rw [show (2 : Int) = ((2 : UInt8).toNat : Int) from rfl, ku]
  cases c2 : (k == 2)
  case true =>
    have c2' : k = 2 := by simpa using c2
    rw [if_pos c2'] at hk
    repeat (refine gk (And.intro entU encP_u) ?_)
    (apply r_call; (focus rfl))
    refine Spec_weak (hs' := [.sl t1 3 (l.map encE), encE ⟨p, true, []⟩]) ⟨Weak.refl _, Weak.ag ⟨Weak.refl _, Weak.refl _, Weak.nil' 1, trivial⟩ rfl, trivial⟩ ?_
    refine put_spec L t1 l ⟨p, true, []⟩ hl ol ⟨hx1, by simp⟩ _ _ fun H2 f2 => ?_
    repeat (refine gk (And.intro entU encP_u) ?_)
    exact resK_some (hk H2 f2)
  have c2' : k ≠ 2 := by simpa using c2
  rw [if_neg c2'] at hk
  repeat (refine gk (And.intro entU encP_u) ?_)
  rw [show (3 : Int) = ((3 : UInt8).toNat : Int) from rfl, ku]
  cases c3 : (k == 3)
  case true =>
    have c3' : k = 3 := by simpa using c3
    rw [if_pos c3'] at hk
    repeat (refine gk (And.intro entU encP_u) ?_)
    (apply r_call; (focus rfl))
    refine fileof_spec L t2 s p (by omega) ods _ _ fun H1 f1 => ?_
    cases c1 : fileR s p
    case false =>
      rw [c1] at hk
      simp only [Bool.false_eq_true, if_false] at hk
      repeat (refine gk (And.intro entU encP_u) ?_)
      try simp only [Bool.not_false]
      repeat (refine gk (And.intro entU encP_u) ?_)
      exact resK_weak (Weak.tu (bs := [.sl .no 3 [], I 8]) ⟨Weak.nil' 3, Weak.refl _, trivial⟩) (hk H1 f1)
    rw [c1] at hk
    simp only [if_true] at hk
    repeat (refine gk (And.intro entU encP_u) ?_)
    try simp only [Bool.not_true]
    repeat (refine gk (And.intro entU encP_u) ?_)
    (apply r_call; (focus rfl))
    refine put_spec L t1 l (getR s p).1 hl ol (getR_ok os p) _ _ fun H2 f2 => ?_
    repeat (refine gk (And.intro entU encP_u) ?_)
    exact resK_some (hk H2 (f1.trans f2))
  have c3' : k ≠ 3 := by simpa using c3
  rw [if_neg c3'] at hk
  repeat (refine gk (And.intro entU encP_u) ?_)
  exact resK_weak (Weak.tu (bs := [.sl .no 3 [], I 2]) ⟨Weak.nil' 3, Weak.refl _, trivial⟩) (hk H (Fr.refl _ _))
theorem path_spec (L : Linked code) (t1 t2 : Tk) (a b : List Ent) (p : List UInt8) (now : Ent) (is : Bool) (ha : a.length ≤ 1048576) (hb : b.length ≤ 1048576) (oa : ∀ e ∈ a, e.data.length ≤ 140737488355328) (ob : ∀ e ∈ b, e.data.length ≤ 140737488355328) : PureF L 244 [.sl t1 3 (a.map encE), .sl t2 3 (b.map encE), S p, encE now, B is] (B (pathM a b p now is)) := by
  intro H K hk
  unfold pathM at hk
  refine go_spec L code244 rfl ?_
  repeat (refine gk entU ?_)
  (apply r_call; (focus rfl))
  refine get_spec L t1 a p ha oa _ _ fun H1 f1 => ?_
  repeat (refine gk entU ?_)
  (apply r_call; (focus rfl))
  refine get_spec L t2 b p hb ob _ _ fun H2 f2 => ?_
  have f := f1.trans f2
  cases is
  case false =>
    simp only [Bool.false_eq_true, if_false] at hk
    repeat (refine gk entU ?_)
    try simp only [Bool.not_false]
    repeat (refine gk entU ?_)
    cases c1 : (getR a p).2
    case false =>
      rw [c1] at hk
      try simp only [Bool.not_false]
      repeat (refine gk entU ?_)
      exact resK_some (hk H2 f)
    rw [c1] at hk
    simp only [Bool.not_true, Bool.false_or] at hk ⊢
    repeat (refine gk entU ?_)
    cases c2 : (getR b p).2
    case false =>
      rw [c2] at hk
      try simp only [Bool.not_false]
      repeat (refine gk entU ?_)
      exact resK_some (hk H2 f)
    rw [c2] at hk
    simp only [Bool.not_true, Bool.false_or] at hk ⊢
    repeat (refine gk entU ?_)
    exact resK_some (hk H2 f)
  simp only [if_true] at hk
  repeat (refine gk entU ?_)
  try simp only [Bool.not_true]
  repeat (refine gk entU ?_)
  cases c1 : (getR a p).2
  case true =>
    rw [c1] at hk
    simp only [Bool.true_and] at hk
    repeat (refine gk entU ?_)
    (apply r_call; (focus rfl))
    refine msame_spec L (getR a p).1 now _ _ ?_
    cases c3 : sameT [(getR a p).1] [now]
    case true =>
      rw [c3] at hk
      repeat (refine gk entU ?_)
      exact resK_some (hk H2 f)
    rw [c3] at hk
    simp only [Bool.false_or] at hk
    repeat (refine gk entU ?_)
    cases c2 : (getR b p).2
    case false =>
      rw [c2] at hk
      repeat (refine gk entU ?_)
      exact resK_some (hk H2 f)
    rw [c2] at hk
    simp only [Bool.true_and] at hk
    repeat (refine gk entU ?_)
    (apply r_call; (focus rfl))
    refine msame_spec L (getR b p).1 now _ _ ?_
    repeat (refine gk entU ?_)
    exact resK_some (hk H2 f)
  rw [c1] at hk
  simp only [Bool.false_and, Bool.false_or] at hk
  repeat (refine gk entU ?_)
  cases c2 : (getR b p).2
  case false =>
    rw [c2] at hk
    repeat (refine gk entU ?_)
    exact resK_some (hk H2 f)
  rw [c2] at hk
  simp only [Bool.true_and] at hk
  repeat (refine gk entU ?_)
  (apply r_call; (focus rfl))
  refine msame_spec L (getR b p).1 now _ _ ?_
  repeat (refine gk entU ?_)
  exact resK_some (hk H2 f)
end Sm

set_option linter.unusedVariables false
set_option linter.unusedSimpArgs false
set_option maxRecDepth 10000
set_option maxHeartbeats 1000000
namespace Sm
open Go
-- BASE entU
theorem r_s2b {S' : SpecT} {sl : List (Nat × EV)} {bx : List (Nat × List HV)} {H : Heap} {K : Env → Heap → Prop} {os : List SOper} {d : Nat} {x : Opd} {l : List UInt8} (hx : (M sl bx).hv x = some (S l)) (hl : l.length ≤ 140737488355328) (h : rsem S' os (M ((d, .h (.sl .no 1 (l.map U))) :: sl) bx) H K) : rsem S' (⟨some d, .nd .s2b [x], none⟩ :: os) (M sl bx) H K :=
  r_nd1 (hs := [S l]) (by simp [Env.hvs, hx]) (fun R hR => by
    simp only [ndK]
    exact ⟨by simpa [ByteArray.size] using hl, by have e : bytesHV ⟨l.toArray⟩ = l.map U := by simp [bytesHV, byteHV]
                                                  rw [e]; exact hR⟩) h
theorem rWant_err {s d : List Ent} {del bak : Bool} {e : Int} (he : e ≠ 0) (hc : chkT s = e ∨ chkT s = 0 ∧ chkT d = e) : rWant s d del bak = ([], e) := by
  unfold rWant
  rcases hc with hc | ⟨h0, hc⟩
  · rw [hc, if_pos he]
  · rw [h0, if_neg (by decide), hc, if_pos he]
theorem rWant_full {s d : List Ent} {del bak : Bool} (h1 : chkT s = 0) (h2 : chkT d = 0) (h3 : 64 < (vant s d del bak).length) : rWant s d del bak = ([], 10) := by
  rw [rWant, h1, if_neg (by decide), h2, if_neg (by decide), if_pos h3]
theorem rWant_ok {s d : List Ent} {del bak : Bool} (h1 : chkT s = 0) (h2 : chkT d = 0) (h3 : (vant s d del bak).length ≤ 64) : rWant s d del bak = (vant s d del bak, 0) := by
  rw [rWant, h1, if_neg (by decide), h2, if_neg (by decide), if_neg (by omega)]
theorem rWant_cases (s d : List Ent) (del bak : Bool) : ((rWant s d del bak).2 ≠ 0 ∧ (rWant s d del bak).1 = []) ∨ (chkT s = 0 ∧ chkT d = 0 ∧ (vant s d del bak).length ≤ 64 ∧ rWant s d del bak = (vant s d del bak, 0)) := by
  by_cases h1 : chkT s = 0
  · by_cases h2 : chkT d = 0
    · by_cases h3 : (vant s d del bak).length ≤ 64
      · exact .inr ⟨h1, h2, h3, rWant_ok h1 h2 h3⟩
      · rw [rWant_full h1 h2 (by omega)]; exact .inl ⟨by decide, rfl⟩
    · rw [rWant_err h2 (.inr ⟨h1, rfl⟩)]; exact .inl ⟨h2, rfl⟩
  · rw [rWant_err h1 (.inl rfl)]; exact .inl ⟨h1, rfl⟩
attribute [local irreducible] csem rsem dsem seqK blockK normK finK DK RK JK BR G3 resK Spec Tok Fr CV

/-- The program's answers are the reference's. -/
theorem wantR_spec (L : Linked code) (Z : Srt L) (t1 t2 : Tk) (s d : List Ent) (del bak : Bool) (hs : s.length ≤ 65536) (hd : d.length ≤ 65536) (os : ∀ e ∈ s, okP e) (od : ∀ e ∈ d, okP e) :
    PureF L 235 [.sl t1 3 (s.map encE), .sl t2 3 (d.map encE), .ag [B del, B bak]] (.tu [.sl .no 3 ((rWant s d del bak).1.map encE), I (rWant s d del bak).2]) := by
  intro H K hk
  refine want_spec L Z t1 t2 s d del bak hs hd os od H K (fun e he hc H1 f1 => ?_) (fun h1 h2 h3 H1 f1 => ?_) fun hcs hcd hle l X0 hp0 hs0 f0 => ?_
  · rw [rWant_err he hc] at hk; exact hk H1 f1
  · have hA := want_al (del := del) (bak := bak) h1 h2
    rw [rWant_full h1 h2 (by rw [← hA.len]; exact h3)] at hk
    exact hk H1 f1
  · have hA := want_al (del := del) (bak := bak) hcs hcd
    have hl := hA.sort hp0 hs0
    subst hl
    rw [hA.len] at hle
    rw [rWant_ok hcs hcd hle] at hk
    exact hk X0 f0
theorem planR_spec (L : Linked code) (Z : Srt L) (t1 t2 : Tk) (s d : List Ent) (del bak : Bool) (hs : s.length ≤ 65536) (hd : d.length ≤ 65536) (os : ∀ e ∈ s, okP e) (od : ∀ e ∈ d, okP e) :
    PureF L 237 [.sl t1 3 (s.map encE), .sl t2 3 (d.map encE), .ag [B del, B bak]] (.tu [.sl .no 3 ((rPlan s d del bak).1.map encP), I (rPlan s d del bak).2]) := by
  intro H K hk
  refine plan_spec L Z t1 t2 s d del bak hs hd os od H K (fun e he hc H1 f1 => ?_) (fun h1 h2 h3 H1 f1 => ?_) fun hcs hcd hle X0 f0 => ?_
  · rw [rPlan, rWant_err he hc, if_pos he] at hk; exact hk H1 f1
  · rw [rPlan, rWant_full h1 h2 h3, if_pos (by decide)] at hk
    exact hk H1 f1
  · rw [rPlan, rWant_ok hcs hcd hle, if_neg (fun h => h rfl)] at hk
    rw [steps_eq hcs hcd]
    exact hk X0 f0
theorem mfile_spec (L : Linked code) (p b : List UInt8) (hb : b.length ≤ 1048576) : PureF L 243 [S p, S b] (encE ⟨p, false, b⟩) := by
  intro H K hk
  refine go_spec L code243 rfl ?_
  repeat (refine gk entU ?_)
  refine r_s2b rfl (by omega) ?_
  repeat (refine gk entU ?_)
  exact resK_some (hk H (Fr.refl _ _))

def sA : List Ent := [⟨[97], false, [110, 101, 119]⟩]
def dA : List Ent := [⟨[97], false, [111, 108, 100]⟩, ⟨[98], false, [120]⟩]
def wA : List Ent := [⟨[97], false, [110, 101, 119]⟩, ⟨[97, 126], false, [111, 108, 100]⟩, ⟨[98, 126], false, [120]⟩]
def pA : List Stp := [⟨0, [97], [97, 126]⟩, ⟨0, [98], [98, 126]⟩, ⟨1, [98], []⟩, ⟨3, [97], []⟩]
theorem awW : rWant sA dA true true = (wA, 0) := by decide +kernel
theorem awP : rPlan sA dA true true = (pA, 0) := by decide +kernel
theorem awA : applyM dA ⟨3, [97], []⟩ sA = ([⟨[97], false, [110, 101, 119]⟩, ⟨[98], false, [120]⟩], 0) := by decide +kernel
theorem awT : pathM dA wA [97] ⟨[97], false, [111, 108, 100]⟩ true = true := by decide +kernel
theorem sA_ok : ∀ e ∈ sA, okP e := by unfold okP; decide +kernel
theorem dA_ok : ∀ e ∈ dA, okP e := by unfold okP; decide +kernel
theorem wA_ok : ∀ e ∈ wA, okP e := by unfold okP; decide +kernel
end Sm

set_option linter.unusedVariables false
set_option linter.unusedSimpArgs false
set_option maxRecDepth 10000
set_option maxHeartbeats 1000000
namespace Sm
open Go
-- BASE entU
attribute [local irreducible] csem rsem dsem seqK blockK normK finK DK RK JK BR G3 resK Spec Tok Fr CV

theorem mawake_spec (L : Linked code) (Z : Srt L) : PureF L 234 [] (B true) := by
  intro H K hk
  refine go_spec L code234 rfl ?_
  repeat (refine gk entU ?_)
  (apply r_call; (focus rfl))
  refine mfile_spec L [97] [110, 101, 119] (by decide) _ _ fun H1 f1 => ?_
  repeat (refine gk entU ?_)
  (apply r_call; (focus rfl))
  refine mfile_spec L [97] [111, 108, 100] (by decide) _ _ fun H2 f2 => ?_
  repeat (refine gk entU ?_)
  (apply r_call; (focus rfl))
  refine mfile_spec L [98] [120] (by decide) _ _ fun H3 f3 => ?_
  repeat (refine gk entU ?_)
  (apply r_call; (focus rfl))
  refine wantR_spec L Z .full .full sA dA true true (by decide) (by decide) sA_ok dA_ok _ _ fun H4 f4 => ?_
  rw [awW]
  repeat (refine gk entU ?_)
  (apply r_call; (focus rfl))
  refine planR_spec L Z .full .full sA dA true true (by decide) (by decide) sA_ok dA_ok _ _ fun H5 f5 => ?_
  rw [awP]
  repeat (refine gk entU ?_)
  (apply r_call; (focus rfl))
  refine Spec_weak (hs' := [.sl .full 3 (dA.map encE), encP ⟨3, [97], []⟩, .sl .full 3 (sA.map encE)]) ⟨Weak.refl _, Weak.refl _, Weak.refl _, trivial⟩ ?_
  refine apply_spec L .full .full dA ⟨3, [97], []⟩ sA (by decide) (by decide) (fun e he => (dA_ok e he).e) (fun e he => (sA_ok e he).e) (by decide) (by decide) _ _ fun H6 f6 => ?_
  rw [awA]
  repeat (refine gk entU ?_)
  (apply r_call; (focus rfl))
  refine mfile_spec L [97] [110, 101, 119] (by decide) _ _ fun H7 f7 => ?_
  repeat (refine gk entU ?_)
  (apply r_call; (focus rfl))
  refine mfile_spec L [97, 126] [111, 108, 100] (by decide) _ _ fun H8 f8 => ?_
  repeat (refine gk entU ?_)
  (apply r_call; (focus rfl))
  refine mfile_spec L [98, 126] [120] (by decide) _ _ fun H9 f9 => ?_
  repeat (refine gk entU ?_)
  (apply r_call; (focus rfl))
  refine rsame_spec L .no .full wA wA (by decide) _ _ ?_
  rw [show sameT wA wA = true from by decide +kernel]
  repeat (refine gk (And.intro entU encP_u) ?_)
  rw [show ((pA.length : Int) == 4) = true from rfl]
  repeat (refine gk (And.intro entU encP_u) ?_)
  rw [show (((1 : UInt8).toNat : Int) == 1) = true from rfl]
  simp only [Bool.and_true]
  rw [show ((⟨#[98]⟩ : ByteArray) == ⟨#[98]⟩) = true from by decide +kernel, show ((⟨#[]⟩ : ByteArray) == ⟨#[]⟩) = true from by decide +kernel]
  simp only [Bool.and_true]
  repeat (refine gk entU ?_)
  (apply r_call; (focus rfl))
  refine mfile_spec L [97] [110, 101, 119] (by decide) _ _ fun H10 f10 => ?_
  repeat (refine gk entU ?_)
  (apply r_call; (focus rfl))
  refine mfile_spec L [98] [120] (by decide) _ _ fun H11 f11 => ?_
  repeat (refine gk entU ?_)
  (apply r_call; (focus rfl))
  refine rsame_spec L .no .full [⟨[97], false, [110, 101, 119]⟩, ⟨[98], false, [120]⟩] [⟨[97], false, [110, 101, 119]⟩, ⟨[98], false, [120]⟩] (by decide) _ _ ?_
  rw [show sameT [⟨[97], false, [110, 101, 119]⟩, ⟨[98], false, [120]⟩] [⟨[97], false, [110, 101, 119]⟩, ⟨[98], false, [120]⟩] = true from by decide +kernel]
  repeat (refine gk entU ?_)
  (apply r_call; (focus rfl))
  refine mfile_spec L [97] [111, 108, 100] (by decide) _ _ fun H12 f12 => ?_
  repeat (refine gk entU ?_)
  (apply r_call; (focus rfl))
  refine path_spec L .full .no dA wA [97] ⟨[97], false, [111, 108, 100]⟩ true (by decide) (by decide) (fun e he => Nat.le_trans (dA_ok e he).2 (by decide)) (fun e he => Nat.le_trans (wA_ok e he).2 (by decide)) _ _ fun H13 f13 => ?_
  rw [awT]
  repeat (refine gk entU ?_)
  exact resK_some (hk H13 (((((((((((((f1.trans f2).trans f3).trans f4).trans f5).trans f6).trans f7).trans f8).trans f9)).trans f10).trans f11).trans f12).trans f13))
theorem light_okP {l : List Ent} {n k : Nat} (hk : k ≤ 1048576) (h : light l n k = true) : l.length ≤ n ∧ (∀ e ∈ l, okP e) := by
  unfold light at h
  split at h
  · cases h
  · refine ⟨by omega, fun e he => ?_⟩
    have := lightR_ok h e he
    exact ⟨this.1, by omega⟩
theorem rWant_okP {s d : List Ent} {del bak : Bool} (os : ∀ e ∈ s, okP e) (od : ∀ e ∈ d, okP e) : (rWant s d del bak).1.length ≤ 64 ∧ ∀ e ∈ (rWant s d del bak).1, okW e := by
  rcases rWant_cases s d del bak with ⟨_, h⟩ | ⟨_, _, h1, h2⟩
  · rw [h]; simp
  · rw [h2]
    exact ⟨h1, vant_mem (fun e he => (os e he).w) (fun e he => (od e he).w) fun e he _ => ⟨rkep_len (od e he), (od e he).2⟩⟩
theorem wants_spec (L : Linked code) (Z : Srt L) (t1 t2 : Tk) (s d : List Ent) (del bak : Bool) : PureF L 288 [.sl t1 3 (s.map encE), .sl t2 3 (d.map encE), .ag [B del, B bak]] (B true) := by
  intro H K hk
  refine go_spec L code288 rfl ?_
  repeat (refine gk entU ?_)
  (apply r_call; (focus rfl))
  refine mlight_spec L t1 t2 s d _ _ ?_
  cases c1 : (light s 66 3000 && light d 66 3000)
  case false =>
    repeat (refine gk entU ?_)
    try simp only [Bool.not_false]
    repeat (refine gk entU ?_)
    (apply r_call; (focus rfl))
    refine mawake_spec L Z _ _ fun H1 f1 => ?_
    repeat (refine gk entU ?_)
    exact resK_some (hk H1 f1)
  rw [Bool.and_eq_true] at c1
  obtain ⟨ls, os⟩ := light_okP (by decide) c1.1
  obtain ⟨ld, od⟩ := light_okP (by decide) c1.2
  obtain ⟨wl, _⟩ := rWant_okP (del := del) (bak := bak) os od
  repeat (refine gk entU ?_)
  try simp only [Bool.not_true]
  repeat (refine gk entU ?_)
  (apply r_call; (focus rfl))
  refine wantR_spec L Z t1 t2 s d del bak (by omega) (by omega) os od _ _ fun H1 f1 => ?_
  repeat (refine gk entU ?_)
  (apply r_call; (focus rfl))
  refine rwant_spec L t1 t2 s d del bak (by omega) (by omega) os od _ _ fun H2 f2 => ?_
  repeat (refine gk entU ?_)
  (apply r_call; (focus rfl))
  refine planR_spec L Z t1 t2 s d del bak (by omega) (by omega) os od _ _ fun H3 f3 => ?_
  repeat (refine gk entU ?_)
  (apply r_call; (focus rfl))
  refine rplan_spec L t1 t2 s d del bak (by omega) (by omega) os od _ _ fun H4 f4 => ?_
  repeat (refine gk entU ?_)
  (apply r_call; (focus rfl))
  refine rsame_spec L .no .no _ _ (by omega) _ _ ?_
  rw [sameT_self]
  repeat (refine gk entU ?_)
  try simp only [beq_self_eq_true]
  repeat (refine gk entU ?_)
  (apply r_call; (focus rfl))
  refine samep_spec L .no .no _ (by
    unfold rPlan
    split
    · simp
    · have := stepsR_len (s := s) (d := d) (del := del) (bak := bak) (W := (rWant s d del bak).1)
      dsimp only; omega) _ _ ?_
  repeat (refine gk entU ?_)
  try simp only [beq_self_eq_true]
  repeat (refine gk entU ?_)
  (apply r_call; (focus rfl))
  refine mawake_spec L Z _ _ fun H5 f5 => ?_
  repeat (refine gk entU ?_)
  exact resK_some (hk H5 ((((f1.trans f2).trans f3).trans f4).trans f5))
end Sm
