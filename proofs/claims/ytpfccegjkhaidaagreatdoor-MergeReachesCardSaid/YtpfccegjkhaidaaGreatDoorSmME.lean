/-
  A layer of one's own: texts M16.
-/
import Derived.Test.YtpfccegjkhaidaaGreatDoorSmMD
set_option linter.unusedVariables false
set_option linter.unusedSimpArgs false
set_option maxRecDepth 10000
set_option maxHeartbeats 1000000
namespace Sm
open Go
-- BASE entU
/-- What the reference's rounds ask. -/
def r3 (s d : List Ent) (del bak : Bool) (e : Ent) : Bool := rkp s d del bak e && !((getR d (rkep e.path)).2 && ((getR d (rkep e.path)).1.data == e.data))
def r5 (d : List Ent) (e : Ent) : Bool := e.dir && !((getR d e.path).2 && (getR d e.path).1.dir)
def r6 (d : List Ent) (e : Ent) : Bool := !e.dir && !((getR d e.path).2 && (!(getR d e.path).1.dir && ((getR d e.path).1.data == e.data)))
def stepsR (s d : List Ent) (del bak : Bool) (W : List Ent) : List Stp := pushes 0 (r3 s d del bak) (fun e => rkep e.path) d ++ pushes 1 (q4 W) (fun _ => []) d.reverse ++ pushes 2 (r5 d) (fun _ => []) W ++ pushes 3 (r6 d) (fun _ => []) s
def rPlan (s d : List Ent) (del bak : Bool) : List Stp × Int := if (rWant s d del bak).2 ≠ 0 then ([], (rWant s d del bak).2) else (stepsR s d del bak (rWant s d del bak).1, 0)
structure OV (H0 H : Heap) (tk : Tk) (o : List Stp) : Prop where
  fr : Fr [] H0 H
  fs : Fresh H0 tk
  tok : Tok H tk o.length 3
  nil : o = [] → tk = .full
theorem OV.go {H0 H X : Heap} {tk : Tk} {o : List Stp} (h : OV H0 H tk o) (hf : Fr [] H X) : OV H0 X tk o :=
  ⟨h.fr.trans hf, h.fs, h.tok.fr' hf (by simp), h.nil⟩
theorem r_b2c {S' : SpecT} {sl : List (Nat × EV)} {bx : List (Nat × List HV)} {H : Heap} {K : Env → Heap → Prop} {os : List SOper} {d : Nat} {x : Opd} {tk : Tk} {l : List UInt8} (hx : (M sl bx).hv x = some (.sl tk 1 (l.map U))) (h : rsem S' os (M ((d, .h (S l)) :: sl) bx) H K) : rsem S' (⟨some d, .b2c x, none⟩ :: os) (M sl bx) H K := by
  refine r_calm rfl ?_ h
  simp only [SOp.ev, hx, show unbytes (l.map U) = some l from unbytes_map l]
  rfl
attribute [local irreducible] csem rsem dsem seqK blockK normK finK DK RK JK BR G3 resK Spec Tok Fr CV

theorem r_pushV (L : Linked code) {sl : List (Nat × EV)} {bx : List (Nat × List HV)} {H0 H : Heap} {K : Env → Heap → Prop} {os : List SOper} {d : Nat} {x y : Opd} {tk tk2 : Tk} {o : List Stp} {st : Stp} (h : OV H0 H tk o) (hx : (M sl bx).hv x = some (oSl tk o)) (hy : (M sl bx).hv y = some (.sl tk2 3 [encP st])) (hl : o.length ≤ 1048576)
    (hk : ∀ tk' X, OV H0 X tk' (o ++ [st]) → rsem (Spec L.P L.ν) os (M ((d, .h (oSl tk' (o ++ [st]))) :: sl) bx) X K) : rsem (Spec L.P L.ν) (⟨some d, .app 3 40 x y, none⟩ :: os) (M sl bx) H K := by
  cases o with
  | nil =>
    have e := h.nil rfl
    subst e
    refine r_app0 hx hy (by simp) (fun h0 => by cases h0) fun tk' X _ h1 h2 => ?_
    exact hk tk' X ⟨h.fr.apd h.fs h2, h.fs.apd h.fr h2, h1, fun h0 => absurd h0 (by simp)⟩
  | cons a l =>
    refine r_app hx hy (by simpa using h.tok) (by simp at hl ⊢; omega) fun tk' X h1 h2 => ?_
    have := hk tk' X ⟨h.fr.apd h.fs h2, h.fs.apd h.fr h2, by simpa using h1, fun h0 => absurd h0 (by simp)⟩
    simpa [oSl] using this
theorem rplan_spec (L : Linked code) (t1 t2 : Tk) (s d : List Ent) (del bak : Bool) (hs : s.length ≤ 16384) (hd : d.length ≤ 16384) (os : ∀ e ∈ s, okP e) (od : ∀ e ∈ d, okP e) :
    PureF L 238 [.sl t1 3 (s.map encE), .sl t2 3 (d.map encE), .ag [B del, B bak]] (.tu [.sl .no 3 ((rPlan s d del bak).1.map encP), I (rPlan s d del bak).2]) := by
  intro H0 K hk
  have hdp : ∀ e ∈ d, e.path.length ≤ 1048576 := fun e he => (od e he).e.1
  unfold rPlan at hk
  refine go_spec L code238 rfl ?_
  repeat (refine gk entU ?_)
  (apply r_call; (focus rfl))
  refine rwant_spec L t1 t2 s d del bak hs hd os od H0 _ fun H1 f1 => ?_
  have hWl : (rWant s d del bak).1.length ≤ 64 := by
    unfold rWant
    split
    · simp
    · split
      · simp
      · split
        · simp
        · simp only; omega
  generalize rWant s d del bak = R at hk hWl
  obtain ⟨W, er⟩ := R
  dsimp only at hk hWl
  repeat (refine gk entU ?_)
  cases c1 : (er != 0)
  case true =>
    have c1' : er ≠ 0 := by simpa [bne] using c1
    rw [if_pos c1'] at hk
    repeat (refine gk entU ?_)
    exact resK_weak (Weak.tu (bs := [.sl .no 3 [], I er]) ⟨Weak.nil' 3, Weak.refl _, trivial⟩) (hk H1 f1)
  have c1' : er = 0 := by simpa [bne] using c1
  rw [if_neg (by simp [c1'])] at hk
  clear c1
  subst c1'
  dsimp only at hk
  have hV : OV H0 H1 .full [] := ⟨f1, by simp [Fresh, tb], Tok.ful _ _ _, fun _ => rfl⟩
  repeat (refine gk entU ?_)
  refine c_loop (Spec_SMono L) (fun (q : Nat × Tk) => [(0, .h (.sl t1 3 (s.map encE))), (1, .h (.sl t2 3 (d.map encE))), (5, .lp 0 0), (8, .h (.sl .no 3 (W.map encE))), (10, .h (oSl q.2 (pushes 0 (r3 s d del bak) (fun e => rkep e.path) (d.take q.1)))), (11, .h (I q.1))])
    (fun _ => [(0, [B del, B bak])]) (fun q X => q.1 ≤ d.length ∧ OV H0 X q.2 (pushes 0 (r3 s d del bak) (fun e => rkep e.path) (d.take q.1))) (fun q => d.length - q.1) (0, .full) ?_ ⟨by simp, hV⟩ ?_
  · (refine leM ?_ ?_ ?_ <;> (repeat refine leS trivial ?_) <;> exact leE)
  rintro ⟨i, tk⟩ X ⟨hi, hO⟩
  dsimp only at hi hO ⊢
  repeat (refine gk entU ?_)
  (refine ct entU ?_ ?_ <;> intro h)
  · have hi' : i < d.length := by simpa using h
    have hp := pushes_take (k := 0) (p := r3 s d del bak) (q := fun e => rkep e.path) hi'
    have hpl := pushes_len (k := 0) (p := r3 s d del bak) (q := fun e => rkep e.path) (l := d.take i)
    have hpl2 : (d.take i).length ≤ d.length := by rw [List.length_take]; omega
    have hdi := od _ (List.getElem_mem hi')
    repeat (refine gk entU ?_)
    (apply r_call; (focus rfl))
    refine rkept0_spec L d[i].path (Nat.le_trans hdi.1 (by decide)) _ _ fun X1 g1 => ?_
    have hO1 := hO.go g1
    repeat (refine gk entU ?_)
    (apply r_call; (focus rfl))
    refine rget_spec L t2 d _ (by omega) _ _ ?_
    repeat (refine gk entU ?_)
    (apply r_call; (focus rfl))
    refine rkept_spec L t1 t2 s d d[i] del bak (by omega) (by omega) (Nat.le_trans hdi.1 (by decide)) hdp _ _ fun X2 g2 => ?_
    have hO2 := hO1.go g2
    have c3' : r3 s d del bak d[i] = (rkp s d del bak d[i] && !((getR d (rkep d[i].path)).2 && ((getR d (rkep d[i].path)).1.data == d[i].data))) := rfl
    cases c1 : rkp s d del bak d[i]
    case false =>
      rw [c3', c1] at hp
      simp only [Bool.false_and, Bool.false_eq_true, if_false] at hp
      repeat (refine gk entU ?_)
      refine k_n (i + 1, tk) (by simp only; omega) ⟨by simp only; omega, by simp only [hp]; exact hO2⟩ ?_
      (refine leM ?_ ?_ ?_ <;> (repeat refine leS (And.intro entU hp) ?_) <;> exact leE)
    rw [c1] at c3'
    cases c2 : (getR d (rkep d[i].path)).2
    case false =>
      rw [c2] at c3'
      rw [c3'] at hp
      simp only [Bool.false_and, Bool.true_and, Bool.not_false, if_true] at hp
      repeat (refine gk entU ?_)
      simp only [Bool.not_false]
      repeat (refine gk entU ?_)
      refine r_pushV L (st := ⟨0, d[i].path, rkep d[i].path⟩) hO2 rfl rfl (by omega) fun tk' X3 hO3 => ?_
      repeat (refine gk entU ?_)
      refine k_n (i + 1, tk') (by simp only; omega) ⟨by simp only; omega, by simp only [hp]; exact hO3⟩ ?_
      (refine leM ?_ ?_ ?_ <;> (repeat refine leS (And.intro entU hp) ?_) <;> exact leE)
    rw [c2] at c3'
    repeat (refine gk entU ?_)
    refine r_b2c rfl ?_
    repeat (refine gk entU ?_)
    refine r_b2c rfl ?_
    repeat (refine gk entU ?_)
    cases c4 : ((getR d (rkep d[i].path)).1.data == d[i].data)
    case true =>
      rw [c4] at c3'
      rw [c3'] at hp
      simp only [Bool.and_self, Bool.not_true, Bool.false_eq_true, if_false] at hp
      repeat (refine gk entU ?_)
      simp only [Bool.not_true]
      repeat (refine gk entU ?_)
      refine k_n (i + 1, tk) (by simp only; omega) ⟨by simp only; omega, by simp only [hp]; exact hO2⟩ ?_
      (refine leM ?_ ?_ ?_ <;> (repeat refine leS (And.intro entU hp) ?_) <;> exact leE)
    rw [c4] at c3'
    rw [c3'] at hp
    simp only [Bool.and_false, Bool.true_and, Bool.not_false, if_true] at hp
    repeat (refine gk entU ?_)
    simp only [Bool.not_false]
    repeat (refine gk entU ?_)
    refine r_pushV L (st := ⟨0, d[i].path, rkep d[i].path⟩) hO2 rfl rfl (by omega) fun tk' X3 hO3 => ?_
    repeat (refine gk entU ?_)
    refine k_n (i + 1, tk') (by simp only; omega) ⟨by simp only; omega, by simp only [hp]; exact hO3⟩ ?_
    (refine leM ?_ ?_ ?_ <;> (repeat refine leS (And.intro entU hp) ?_) <;> exact leE)
  have hi' : i = d.length := by have : ¬ i < d.length := by simpa using h
                                omega
  subst hi'
  rw [List.take_length] at hO ⊢
  have hl0 : (pushes 0 (r3 s d del bak) (fun e => rkep e.path) d).length ≤ d.length := pushes_len
  have hst : pushes 0 (r3 s d del bak) (fun e => rkep e.path) d = pushes 0 (r3 s d del bak) (fun e => rkep e.path) d := rfl
  generalize hP0 : pushes 0 (r3 s d del bak) (fun e => rkep e.path) d = P0 at hO hl0
  clear hst
  repeat (refine gk entU ?_)
  rw [show (d.length : Int) - 1 = (d.length : Int) - 1 - ((0 : Nat) : Int) by omega]
  refine c_loop (Spec_SMono L) (fun (q : Nat × Tk) => [(0, .h (.sl t1 3 (s.map encE))), (1, .h (.sl t2 3 (d.map encE))), (8, .h (.sl .no 3 (W.map encE))), (10, .h (oSl q.2 (P0 ++ pushes 1 (q4 W) (fun _ => []) (d.reverse.take q.1)))), (15, .h (I ((d.length : Int) - 1 - q.1)))])
    (fun _ => []) (fun q X => q.1 ≤ d.length ∧ OV H0 X q.2 (P0 ++ pushes 1 (q4 W) (fun _ => []) (d.reverse.take q.1))) (fun q => d.length - q.1) (0, tk) ?_ ⟨by simp, by simpa [pushes] using hO⟩ ?_
  · have e0 : P0 ++ pushes 1 (q4 W) (fun _ => []) (d.reverse.take 0) = P0 := by simp [pushes]
    (refine leM ?_ ?_ ?_ <;> (repeat refine leS (And.intro entU e0) ?_) <;> exact leE)
  clear hO hi h
  rintro ⟨i, tk⟩ X ⟨hi, hO⟩
  dsimp only at hi hO ⊢
  repeat (refine gk entU ?_)
  (refine ct entU ?_ ?_ <;> intro h)
  · have hi' : i < d.reverse.length := by
      have : (0 : Int) ≤ (d.length : Int) - 1 - i := by simpa using h
      rw [List.length_reverse]; omega
    have hi2 : i < d.length := by simpa using hi'
    have hp := pushes_take (k := 1) (p := q4 W) (q := fun _ => []) hi'
    have hpl := pushes_len (k := 1) (p := q4 W) (q := fun _ => []) (l := d.reverse.take i)
    have hpl2 : (d.reverse.take i).length ≤ d.length := by rw [List.length_take, List.length_reverse]; omega
    have hj : d.length - 1 - i < d.length := by omega
    rw [List.getElem_reverse] at hp
    have hjz : (d.length : Int) - 1 - i = ((d.length - 1 - i : Nat) : Int) := by omega
    have hpO : P0 ++ pushes 1 (q4 W) (fun _ => []) (d.reverse.take (i + 1)) = if q4 W (d[d.length - 1 - i]) then P0 ++ pushes 1 (q4 W) (fun _ => []) (d.reverse.take i) ++ [⟨1, (d[d.length - 1 - i]).path, []⟩] else P0 ++ pushes 1 (q4 W) (fun _ => []) (d.reverse.take i) := by
      rw [hp]; split <;> simp
    have hnx : (d.length : Int) - 1 - i - 1 = (d.length : Int) - 1 - ((i + 1 : Nat) : Int) := by omega
    have hol : (P0 ++ pushes 1 (q4 W) (fun _ => []) (d.reverse.take i)).length ≤ 1048576 := by rw [List.length_append]; omega
    generalize P0 ++ pushes 1 (q4 W) (fun _ => []) (d.reverse.take i) = o at hO hpO hol
    clear hp hpl hpl2
    have c3' : q4 W d[d.length - 1 - i] = (!(getR W d[d.length - 1 - i].path).2 || !((getR W d[d.length - 1 - i].path).1.dir == d[d.length - 1 - i].dir)) := rfl
    rw [hjz]
    generalize hjj : d.length - 1 - i = j at hj c3' hjz hpO
    repeat (refine gk entU ?_)
    (apply r_call; (focus rfl))
    refine rget_spec L .no W _ (by omega) _ _ ?_
    repeat (refine gk entU ?_)
    cases c2 : (getR W d[j].path).2
    case false =>
      rw [c2] at c3'
      rw [c3'] at hpO
      simp only [Bool.not_false, Bool.true_or, if_true] at hpO
      simp only [Bool.not_false]
      repeat (refine gk entU ?_)
      refine r_pushV L (st := ⟨1, d[j].path, []⟩) hO rfl rfl hol fun tk' X3 hO3 => ?_
      repeat (refine gk entU ?_)
      rw [← hjz, hnx]
      refine k_n (i + 1, tk') (by simp only; omega) ⟨by simp only; omega, by simp only [hpO]; exact hO3⟩ ?_
      (refine leM ?_ ?_ ?_ <;> (repeat refine leS (And.intro entU hpO) ?_) <;> exact leE)
    rw [c2] at c3'
    simp only [Bool.not_true, Bool.false_or] at c3' ⊢
    repeat (refine gk entU ?_)
    simp only [if_true]
    cases c4 : ((getR W d[j].path).1.dir == d[j].dir)
    case true =>
      rw [c4] at c3'
      rw [c3'] at hpO
      simp only [Bool.not_true, Bool.false_eq_true, if_false] at hpO
      simp only [Bool.not_true]
      repeat (refine gk entU ?_)
      rw [← hjz, hnx]
      refine k_n (i + 1, tk) (by simp only; omega) ⟨by simp only; omega, by simp only [hpO]; exact hO⟩ ?_
      (refine leM ?_ ?_ ?_ <;> (repeat refine leS (And.intro entU hpO) ?_) <;> exact leE)
    rw [c4] at c3'
    rw [c3'] at hpO
    simp only [Bool.not_false, if_true] at hpO
    simp only [Bool.not_false]
    repeat (refine gk entU ?_)
    refine r_pushV L (st := ⟨1, d[j].path, []⟩) hO rfl rfl hol fun tk' X3 hO3 => ?_
    repeat (refine gk entU ?_)
    rw [← hjz, hnx]
    refine k_n (i + 1, tk') (by simp only; omega) ⟨by simp only; omega, by simp only [hpO]; exact hO3⟩ ?_
    (refine leM ?_ ?_ ?_ <;> (repeat refine leS (And.intro entU hpO) ?_) <;> exact leE)
  have hi' : i = d.length := by
    have : ¬ (0 : Int) ≤ (d.length : Int) - 1 - i := by simpa using h
    omega
  have htk : d.reverse.take i = d.reverse := by rw [List.take_of_length_le (by rw [List.length_reverse]; omega)]
  rw [htk] at hO ⊢
  have hl1 : (P0 ++ pushes 1 (q4 W) (fun _ => []) d.reverse).length ≤ d.length + d.length := by
    have := pushes_len (k := 1) (p := q4 W) (q := fun _ => []) (l := d.reverse)
    rw [List.length_reverse] at this
    rw [List.length_append]; omega
  generalize hP1 : P0 ++ pushes 1 (q4 W) (fun _ => []) d.reverse = P1 at hO hl1
  clear hi h htk hi'
  repeat (refine gk entU ?_)
  refine c_loop (Spec_SMono L) (fun (q : Nat × Tk) => [(0, .h (.sl t1 3 (s.map encE))), (1, .h (.sl t2 3 (d.map encE))), (8, .h (.sl .no 3 (W.map encE))), (10, .h (oSl q.2 (P1 ++ pushes 2 (r5 d) (fun _ => []) (W.take q.1)))), (18, .h (I q.1))])
    (fun _ => []) (fun q X => q.1 ≤ W.length ∧ OV H0 X q.2 (P1 ++ pushes 2 (r5 d) (fun _ => []) (W.take q.1))) (fun q => W.length - q.1) (0, tk) ?_ ⟨by simp, by simpa [pushes] using hO⟩ ?_
  · have e0 : P1 ++ pushes 2 (r5 d) (fun _ => []) (W.take 0) = P1 := by simp [pushes]
    (refine leM ?_ ?_ ?_ <;> (repeat refine leS (And.intro entU e0) ?_) <;> exact leE)
  clear hO i
  rintro ⟨i, tk⟩ X ⟨hi, hO⟩
  dsimp only at hi hO ⊢
  repeat (refine gk entU ?_)
  (refine ct entU ?_ ?_ <;> intro h)
  · have hi' : i < W.length := by simpa using h
    have hp := pushes_take (k := 2) (p := r5 d) (q := fun _ => []) hi'
    have hpl := pushes_len (k := 2) (p := r5 d) (q := fun _ => []) (l := W.take i)
    have hpl2 : (W.take i).length ≤ W.length := by rw [List.length_take]; omega
    have hpO : P1 ++ pushes 2 (r5 d) (fun _ => []) (W.take (i + 1)) = if r5 d W[i] then P1 ++ pushes 2 (r5 d) (fun _ => []) (W.take i) ++ [⟨2, W[i].path, []⟩] else P1 ++ pushes 2 (r5 d) (fun _ => []) (W.take i) := by
      rw [hp]; split <;> simp
    have hol : (P1 ++ pushes 2 (r5 d) (fun _ => []) (W.take i)).length ≤ 1048576 := by rw [List.length_append]; omega
    generalize P1 ++ pushes 2 (r5 d) (fun _ => []) (W.take i) = o at hO hpO hol
    clear hp hpl hpl2
    have c3' : r5 d W[i] = (W[i].dir && !((getR d W[i].path).2 && (getR d W[i].path).1.dir)) := rfl
    repeat (refine gk entU ?_)
    (apply r_call; (focus rfl))
    refine rget_spec L t2 d _ (by omega) _ _ ?_
    repeat (refine gk entU ?_)
    cases c1 : W[i].dir
    case false =>
      rw [c1] at c3'
      rw [c3'] at hpO
      simp only [Bool.false_and, Bool.false_eq_true, if_false] at hpO
      repeat (refine gk entU ?_)
      refine k_n (i + 1, tk) (by simp only; omega) ⟨by simp only; omega, by simp only [hpO]; exact hO⟩ ?_
      (refine leM ?_ ?_ ?_ <;> (repeat refine leS (And.intro entU hpO) ?_) <;> exact leE)
    rw [c1] at c3'
    repeat (refine gk entU ?_)
    cases c2 : (getR d W[i].path).2
    case false =>
      rw [c2] at c3'
      rw [c3'] at hpO
      simp only [Bool.false_and, Bool.not_false, Bool.and_self, if_true] at hpO
      repeat (refine gk entU ?_)
      refine r_pushV L (st := ⟨2, W[i].path, []⟩) hO rfl rfl hol fun tk' X3 hO3 => ?_
      repeat (refine gk entU ?_)
      refine k_n (i + 1, tk') (by simp only; omega) ⟨by simp only; omega, by simp only [hpO]; exact hO3⟩ ?_
      (refine leM ?_ ?_ ?_ <;> (repeat refine leS (And.intro entU hpO) ?_) <;> exact leE)
    rw [c2] at c3'
    repeat (refine gk entU ?_)
    cases c4 : (getR d W[i].path).1.dir
    case false =>
      rw [c4] at c3'
      rw [c3'] at hpO
      simp only [Bool.and_false, Bool.not_false, Bool.and_self, if_true] at hpO
      repeat (refine gk entU ?_)
      simp only [Bool.not_false]
      repeat (refine gk entU ?_)
      refine r_pushV L (st := ⟨2, W[i].path, []⟩) hO rfl rfl hol fun tk' X3 hO3 => ?_
      repeat (refine gk entU ?_)
      refine k_n (i + 1, tk') (by simp only; omega) ⟨by simp only; omega, by simp only [hpO]; exact hO3⟩ ?_
      (refine leM ?_ ?_ ?_ <;> (repeat refine leS (And.intro entU hpO) ?_) <;> exact leE)
    rw [c4] at c3'
    rw [c3'] at hpO
    simp only [Bool.and_self, Bool.not_true, Bool.and_false, Bool.false_eq_true, if_false] at hpO
    repeat (refine gk entU ?_)
    simp only [Bool.not_true]
    repeat (refine gk entU ?_)
    refine k_n (i + 1, tk) (by simp only; omega) ⟨by simp only; omega, by simp only [hpO]; exact hO⟩ ?_
    (refine leM ?_ ?_ ?_ <;> (repeat refine leS (And.intro entU hpO) ?_) <;> exact leE)
  have hi' : i = W.length := by have : ¬ i < W.length := by simpa using h
                                omega
  subst hi'
  rw [List.take_length] at hO ⊢
  have hl2 : (P1 ++ pushes 2 (r5 d) (fun _ => []) W).length ≤ d.length + d.length + W.length := by
    have := pushes_len (k := 2) (p := r5 d) (q := fun _ => []) (l := W)
    rw [List.length_append]; omega
  generalize hP2 : P1 ++ pushes 2 (r5 d) (fun _ => []) W = P2 at hO hl2
  clear hi h
  repeat (refine gk entU ?_)
  refine c_loop (Spec_SMono L) (fun (q : Nat × Tk) => [(0, .h (.sl t1 3 (s.map encE))), (1, .h (.sl t2 3 (d.map encE))), (10, .h (oSl q.2 (P2 ++ pushes 3 (r6 d) (fun _ => []) (s.take q.1)))), (21, .h (I q.1))])
    (fun _ => []) (fun q X => q.1 ≤ s.length ∧ OV H0 X q.2 (P2 ++ pushes 3 (r6 d) (fun _ => []) (s.take q.1))) (fun q => s.length - q.1) (0, tk) ?_ ⟨by simp, by simpa [pushes] using hO⟩ ?_
  · have e0 : P2 ++ pushes 3 (r6 d) (fun _ => []) (s.take 0) = P2 := by simp [pushes]
    (refine leM ?_ ?_ ?_ <;> (repeat refine leS (And.intro entU e0) ?_) <;> exact leE)
  clear hO
  rintro ⟨i, tk⟩ X ⟨hi, hO⟩
  dsimp only at hi hO ⊢
  repeat (refine gk entU ?_)
  (refine ct entU ?_ ?_ <;> intro h)
  · have hi' : i < s.length := by simpa using h
    have hp := pushes_take (k := 3) (p := r6 d) (q := fun _ => []) hi'
    have hpl := pushes_len (k := 3) (p := r6 d) (q := fun _ => []) (l := s.take i)
    have hpl2 : (s.take i).length ≤ s.length := by rw [List.length_take]; omega
    have hpO : P2 ++ pushes 3 (r6 d) (fun _ => []) (s.take (i + 1)) = if r6 d s[i] then P2 ++ pushes 3 (r6 d) (fun _ => []) (s.take i) ++ [⟨3, s[i].path, []⟩] else P2 ++ pushes 3 (r6 d) (fun _ => []) (s.take i) := by
      rw [hp]; split <;> simp
    have hol : (P2 ++ pushes 3 (r6 d) (fun _ => []) (s.take i)).length ≤ 1048576 := by rw [List.length_append]; omega
    generalize P2 ++ pushes 3 (r6 d) (fun _ => []) (s.take i) = o at hO hpO hol
    clear hp hpl hpl2
    have c3' : r6 d s[i] = (!s[i].dir && !((getR d s[i].path).2 && (!(getR d s[i].path).1.dir && ((getR d s[i].path).1.data == s[i].data)))) := rfl
    repeat (refine gk entU ?_)
    (apply r_call; (focus rfl))
    refine rget_spec L t2 d _ (by omega) _ _ ?_
    repeat (refine gk entU ?_)
    cases c1 : s[i].dir
    case true =>
      rw [c1] at c3'
      rw [c3'] at hpO
      simp only [Bool.not_true, Bool.false_and, Bool.false_eq_true, if_false] at hpO
      simp only [Bool.not_true]
      repeat (refine gk entU ?_)
      refine k_n (i + 1, tk) (by simp only; omega) ⟨by simp only; omega, by simp only [hpO]; exact hO⟩ ?_
      (refine leM ?_ ?_ ?_ <;> (repeat refine leS (And.intro entU hpO) ?_) <;> exact leE)
    rw [c1] at c3'
    simp only [Bool.not_false]
    repeat (refine gk entU ?_)
    cases c2 : (getR d s[i].path).2
    case false =>
      rw [c2] at c3'
      rw [c3'] at hpO
      simp only [Bool.false_and, Bool.not_false, Bool.and_self, if_true] at hpO
      repeat (refine gk entU ?_)
      simp only [Bool.not_false]
      repeat (refine gk entU ?_)
      refine r_pushV L (st := ⟨3, s[i].path, []⟩) hO rfl rfl hol fun tk' X3 hO3 => ?_
      repeat (refine gk entU ?_)
      refine k_n (i + 1, tk') (by simp only; omega) ⟨by simp only; omega, by simp only [hpO]; exact hO3⟩ ?_
      (refine leM ?_ ?_ ?_ <;> (repeat refine leS (And.intro entU hpO) ?_) <;> exact leE)
    rw [c2] at c3'
    repeat (refine gk entU ?_)
    cases c4 : (getR d s[i].path).1.dir
    case true =>
      rw [c4] at c3'
      rw [c3'] at hpO
      simp only [Bool.not_true, Bool.false_and, Bool.and_false, Bool.not_false, Bool.and_self, if_true] at hpO
      simp only [Bool.not_true]
      repeat (refine gk entU ?_)
      simp only [Bool.not_false]
      repeat (refine gk entU ?_)
      refine r_pushV L (st := ⟨3, s[i].path, []⟩) hO rfl rfl hol fun tk' X3 hO3 => ?_
      repeat (refine gk entU ?_)
      refine k_n (i + 1, tk') (by simp only; omega) ⟨by simp only; omega, by simp only [hpO]; exact hO3⟩ ?_
      (refine leM ?_ ?_ ?_ <;> (repeat refine leS (And.intro entU hpO) ?_) <;> exact leE)
    rw [c4] at c3'
    simp only [Bool.not_false]
    repeat (refine gk entU ?_)
    refine r_b2c rfl ?_
    repeat (refine gk entU ?_)
    refine r_b2c rfl ?_
    repeat (refine gk entU ?_)
    cases c5 : ((getR d s[i].path).1.data == s[i].data)
    case true =>
      rw [c5] at c3'
      rw [c3'] at hpO
      simp only [Bool.and_self, Bool.not_false, Bool.not_true, Bool.and_false, Bool.false_eq_true, if_false] at hpO
      repeat (refine gk entU ?_)
      simp only [Bool.not_true]
      repeat (refine gk entU ?_)
      refine k_n (i + 1, tk) (by simp only; omega) ⟨by simp only; omega, by simp only [hpO]; exact hO⟩ ?_
      (refine leM ?_ ?_ ?_ <;> (repeat refine leS (And.intro entU hpO) ?_) <;> exact leE)
    rw [c5] at c3'
    rw [c3'] at hpO
    simp only [Bool.and_false, Bool.not_false, Bool.and_self, if_true] at hpO
    repeat (refine gk entU ?_)
    simp only [Bool.not_false]
    repeat (refine gk entU ?_)
    refine r_pushV L (st := ⟨3, s[i].path, []⟩) hO rfl rfl hol fun tk' X3 hO3 => ?_
    repeat (refine gk entU ?_)
    refine k_n (i + 1, tk') (by simp only; omega) ⟨by simp only; omega, by simp only [hpO]; exact hO3⟩ ?_
    (refine leM ?_ ?_ ?_ <;> (repeat refine leS (And.intro entU hpO) ?_) <;> exact leE)
  have hi' : i = s.length := by have : ¬ i < s.length := by simpa using h
                                omega
  subst hi'
  rw [List.take_length] at hO ⊢
  have hst : P2 ++ pushes 3 (r6 d) (fun _ => []) s = stepsR s d del bak W := by rw [← hP2, ← hP1, ← hP0]; rfl
  rw [hst] at hO ⊢
  repeat (refine gk entU ?_)
  exact resK_weak (Weak.tu (bs := [.sl .no 3 ((stepsR s d del bak W).map encP), I 0]) ⟨oSl_weak _ _, Weak.refl _, trivial⟩) (hk X hO.fr)
end Sm
