/-
  A layer of one's own: text L10.
-/
import Derived.Test.YtkephaeefknlbaaSmL7
set_option linter.unusedVariables false
set_option linter.unusedSimpArgs false
set_option maxRecDepth 10000
set_option maxHeartbeats 1000000
namespace Sm
open Go
-- BASE lossU
attribute [local irreducible] csem rsem dsem seqK blockK normK finK DK RK BR G3 resK Spec Tok Fr

/-- The ledger of the document. -/
structure RL where
  opn : List Pk
  sends : Int
  last : Pk
  big : Int
def RL.cells (r : RL) (tk : Tk) : List HV := [.sl tk 4 (r.opn.map enc), I r.sends, I r.last.num, I r.last.at', I r.last.size, B r.last.asks, I r.big]
def encR (r : RL) : HV := .ag (r.cells .no)
def newR0 : List HV := [.v (.slice none 0 0), .v (.int .i64 0), .v (.int .i64 0), .v (.int .i64 0), .v (.int .i64 0), .v (.bool false), .v (.int .i64 0)]
def newR : RL := ⟨[], 0, zPk, -1⟩
theorem weak_cells (r : RL) (tk : Tk) : WeakL (r.cells tk) (r.cells .no) := ⟨Weak.drop _ _ _, Weak.refl _, Weak.refl _, Weak.refl _, Weak.refl _, Weak.refl _, Weak.refl _, trivial⟩
theorem weak_encR (r : RL) (tk : Tk) : Weak (.ag (r.cells tk)) (encR r) := Weak.ag (weak_cells r tk) rfl
theorem rnew_spec (L : Linked code) : Pure L 104 [] (encR newR) := by
  intro H K hk
  refine go_spec L code104 rfl ?_
  repeat (refine gk lossU ?_)
  refine resK_weak (Weak.ag (bs := newR.cells .no) ⟨Weak.nil' 4, Weak.refl _, Weak.refl _, Weak.refl _, Weak.refl _, Weak.refl _, Weak.refl _, trivial⟩ rfl) hk

theorem rfly_spec (L : Linked code) (r : RL) (hlen : r.opn.length ≤ 1048576) (hp : ∀ p ∈ r.opn, pok p) : Pure L 131 [encR r] (I (fly r.opn)) := by
  intro H K hk
  refine go_spec L code131 rfl ?_
  repeat (refine gk (And.intro lossU (And.intro encR.eq_1 RL.cells.eq_1)) ?_)
  refine c_loop (Spec_SMono L) (fun (i : Nat) => [(1, .lp 0 0), (3, .h (I (fly (r.opn.take i)))), (4, .h (I i))]) (fun _ => [(0, r.cells .no)])
    (fun i H' => H' = H ∧ i ≤ r.opn.length) (fun i => r.opn.length - i) 0 ?_ ⟨rfl, by omega⟩ ?_
  · (refine leM ?_ ?_ ?_ <;> (repeat refine leS trivial ?_) <;> exact leE)
  rintro i H' ⟨rfl, hi⟩
  repeat (refine gk (And.intro lossU RL.cells.eq_1) ?_)
  (refine ct lossU ?_ ?_ <;> intro h)
  · have hi' : i < r.opn.length := by simpa using h
    have b1 := fly_bt hp hlen i
    have b2 := fly_bt hp hlen (i + 1)
    have e := fly_take hi'
    have b3 := hp _ (List.getElem_mem hi')
    unfold pok at b3
    repeat (refine gk (And.intro lossU RL.cells.eq_1) ?_)
    (refine ct lossU ?_ ?_ <;> intro h2)
    · rw [if_pos h2] at e
      repeat (refine gk (And.intro lossU RL.cells.eq_1) ?_)
      refine k_n (i + 1) (by omega) ⟨rfl, by omega⟩ ?_
      (refine leM ?_ ?_ ?_ <;> (repeat refine leS (And.intro lossU e) ?_) <;> exact leE)
    · rw [if_neg (by simp [h2]), Int.add_zero] at e
      repeat (refine gk (And.intro lossU RL.cells.eq_1) ?_)
      refine k_n (i + 1) (by omega) ⟨rfl, by omega⟩ ?_
      (refine leM ?_ ?_ ?_ <;> (repeat refine leS (And.intro lossU e) ?_) <;> exact leE)
  · have hi' : i = r.opn.length := by have : ¬ i < r.opn.length := by simpa using h
                                      omega
    subst hi'
    repeat (refine gk lossU ?_)
    refine resK_some ?_
    rw [List.take_length]
    exact hk

theorem find_first {α : Type} {f : α → Bool} {l : List α} {i : Nat} (hi : i < l.length) (hf : f l[i] = true) (hb : ∀ j (hj : j < i), f (l[j]'(by omega)) = false) : l.find? f = some l[i] := by
  rw [List.find?_eq_some_iff_getElem]
  exact ⟨hf, i, hi, rfl, fun j hj => by simpa using hb j hj⟩
theorem find_none {α : Type} {f : α → Bool} {l : List α} (hb : ∀ j (hj : j < l.length), f l[j] = false) : l.find? f = none := by
  rw [List.find?_eq_none]
  intro x hx hf
  obtain ⟨j, hj, rfl⟩ := List.getElem_of_mem hx
  rw [hb j hj] at hf; cases hf

theorem rold_spec (L : Linked code) (r : RL) (hlen : r.opn.length ≤ 1048576) : Pure L 130 [encR r] (.tu [enc (oldestR r.opn).1, B (oldestR r.opn).2]) := by
  intro H K hk
  unfold oldestR at hk
  refine go_spec L code130 rfl ?_
  repeat (refine gk (And.intro lossU (And.intro encR.eq_1 RL.cells.eq_1)) ?_)
  refine c_loop (Spec_SMono L) (fun (i : Nat) => [(1, .lp 0 0), (2, .lp 1 0), (4, .h (I i))]) (fun _ => [(0, r.cells .no), (1, [I 0, I 0, I 0, B false])])
    (fun i H' => H' = H ∧ ∃ h : i ≤ r.opn.length, ∀ j (hj : j < i), (r.opn[j]'(by omega)).asks = false) (fun i => r.opn.length - i) 0 ?_ ⟨rfl, by omega, fun j hj => by omega⟩ ?_
  · (refine leM ?_ ?_ ?_ <;> (repeat refine leS trivial ?_) <;> exact leE)
  rintro i H' ⟨rfl, hi, hb⟩
  repeat (refine gk (And.intro lossU RL.cells.eq_1) ?_)
  (refine ct lossU ?_ ?_ <;> intro h)
  · have hi' : i < r.opn.length := by simpa using h
    repeat (refine gk (And.intro lossU RL.cells.eq_1) ?_)
    (refine ct lossU ?_ ?_ <;> intro h2)
    · repeat (refine gk (And.intro lossU RL.cells.eq_1) ?_)
      rw [find_first hi' h2 hb] at hk
      exact resK_some hk
    · repeat (refine gk (And.intro lossU RL.cells.eq_1) ?_)
      refine k_n (i + 1) (by omega) ⟨rfl, by omega, fun j hj => ?_⟩ ?_
      · rcases Nat.lt_or_ge j i with h3 | h3
        · exact hb j h3
        · have : j = i := by omega
          subst this; exact h2
      · (refine leM ?_ ?_ ?_ <;> (repeat refine leS trivial ?_) <;> exact leE)
  · have hi' : i = r.opn.length := by have : ¬ i < r.opn.length := by simpa using h
                                      omega
    subst hi'
    rw [find_none hb] at hk
    repeat (refine gk (And.intro lossU RL.cells.eq_1) ?_)
    exact resK_some hk

/-- The first time at which something is lost, among some packets: none, or the least. -/
def nxF (big late : Int) (a : Int × Bool) (p : Pk) : Int × Bool := if decide (p.num < big) && (!a.2 || decide (p.at' + late < a.1)) then (p.at' + late, true) else a
def rnextR (r : RL) (late : Int) : Int × Bool := if mayB late then r.opn.foldl (nxF r.big late) (0, false) else (0, false)
theorem fold_take {α β : Type} {f : β → α → β} {l : List α} {i : Nat} (h : i < l.length) (b : β) : (l.take (i + 1)).foldl f b = f ((l.take i).foldl f b) l[i] := by
  rw [List.take_succ_eq_append_getElem h, List.foldl_append]; rfl
theorem rnext_spec (L : Linked code) (r : RL) (late : Int) (hlen : r.opn.length ≤ 1048576) (hp : ∀ p ∈ r.opn, pok p) : Pure L 129 [encR r, I late] (.tu [I (rnextR r late).1, B (rnextR r late).2]) := by
  intro H K hk
  unfold rnextR at hk
  refine go_spec L code129 rfl ?_
  repeat (refine gk (And.intro lossU (And.intro encR.eq_1 RL.cells.eq_1)) ?_)
  refine c_loop (Spec_SMono L) (fun (i : Nat) => [(1, .h (I late)), (2, .lp 0 0), (6, .h (I ((r.opn.take i).foldl (nxF r.big late) (0, false)).1)), (7, .h (B ((r.opn.take i).foldl (nxF r.big late) (0, false)).2)), (8, .h (I i))]) (fun _ => [(0, r.cells .no)])
    (fun i H' => H' = H ∧ i ≤ r.opn.length ∧ (mayB late = false → i = 0)) (fun i => r.opn.length - i) 0 ?_ ⟨rfl, by omega, fun _ => rfl⟩ ?_
  · (refine leM ?_ ?_ ?_ <;> (repeat refine leS trivial ?_) <;> exact leE)
  rintro i H' ⟨rfl, hi, hz⟩
  cases d : decide ((i : Int) < (r.opn.length : Int))
  case false =>
    have hi' : i = r.opn.length := by have : ¬ i < r.opn.length := by simpa using d
                                      omega
    have : (if mayB late then r.opn.foldl (nxF r.big late) (0, false) else (0, false)) = (r.opn.take i).foldl (nxF r.big late) (0, false) := by
      cases hm : mayB late
      · rw [hz hm]; rfl
      · rw [hi', List.take_length]; rfl
    rw [this] at hk
    repeat (refine gk (And.intro lossU (And.intro RL.cells.eq_1 d)) ?_)
    exact resK_some hk
  have hi' : i < r.opn.length := by simpa using d
  repeat (refine gk (And.intro lossU (And.intro RL.cells.eq_1 d)) ?_)
  (apply r_call; (focus rfl))
  refine time_spec L late _ _ ?_
  cases hm : mayB late
  · have h0 := hz hm
    subst h0
    rw [hm] at hk
    repeat (refine gk lossU ?_)
    exact resK_some hk
  · simp only [mayB, Bool.and_eq_true, decide_eq_true_eq] at hm
    have e := fold_take hi' (f := nxF r.big late) (0, false)
    generalize hA : (r.opn.take i).foldl (nxF r.big late) (0, false) = A at e ⊢
    have b3 := hp _ (List.getElem_mem hi')
    unfold pok at b3
    rw [show nxF r.big late A r.opn[i] = (if decide (r.opn[i].num < r.big) && (!A.2 || decide (r.opn[i].at' + late < A.1)) then (r.opn[i].at' + late, true) else A) from rfl] at e
    cases d1 : decide (r.opn[i].num < r.big)
    case false =>
      rw [d1] at e
      repeat (refine gk (And.intro lossU (And.intro RL.cells.eq_1 d1)) ?_)
      refine k_n (i + 1) (by omega) ⟨rfl, by omega, fun h => by simp [mayB, hm] at h⟩ ?_
      rw [e]
      (refine leM ?_ ?_ ?_ <;> (repeat refine leS trivial ?_) <;> exact leE)
    case true =>
    rw [d1] at e
    cases d2 : A.2
    case false =>
      rw [d2] at e
      repeat (refine gk (And.intro lossU (And.intro RL.cells.eq_1 (And.intro d1 d2))) ?_)
      refine k_n (i + 1) (by omega) ⟨rfl, by omega, fun h => by simp [mayB, hm] at h⟩ ?_
      rw [e]
      (refine leM ?_ ?_ ?_ <;> (repeat refine leS trivial ?_) <;> exact leE)
    case true =>
      rw [d2] at e
      cases d3 : decide (r.opn[i].at' + late < A.1)
      case false =>
        rw [d3] at e
        rw [show (if true && (!true || false) then (r.opn[i].at' + late, true) else A) = A from rfl] at e
        repeat (refine gk (And.intro lossU (And.intro RL.cells.eq_1 (And.intro d1 (And.intro d2 d3)))) ?_)
        refine k_n (i + 1) (by omega) ⟨rfl, by omega, fun h => by simp [mayB, hm] at h⟩ ?_
        rw [e]
        (refine leM ?_ ?_ ?_ <;> (repeat refine leS (And.intro lossU d2) ?_) <;> exact leE)
      case true =>
        rw [d3] at e
        repeat (refine gk (And.intro lossU (And.intro RL.cells.eq_1 (And.intro d1 (And.intro d2 d3)))) ?_)
        refine k_n (i + 1) (by omega) ⟨rfl, by omega, fun h => by simp [mayB, hm] at h⟩ ?_
        rw [e]
        (refine leM ?_ ?_ ?_ <;> (repeat refine leS trivial ?_) <;> exact leE)

def rlostL (r : RL) (now late : Int) : List Pk := if mayB now && mayB late then r.opn.filter (lostB r.big now late) else []
def rlostN (r : RL) (now late : Int) : RL := if mayB now && mayB late then { r with opn := r.opn.filter fun p => !lostB r.big now late p } else r
theorem rlost_spec (L : Linked code) (r : RL) (now late : Int) (hlen : r.opn.length ≤ 1048576) (hb : sm r.big) (H : Heap) (K)
    (hk : ∀ H', Fr [] H H' → K (.tu [encR (rlostN r now late), .sl .no 4 ((rlostL r now late).map enc)]) H') : Spec L.P L.ν 118 [encR r, I now, I late] H K := by
  unfold rlostL rlostN at hk
  refine go_spec L code118 rfl ?_
  repeat (refine gk (And.intro lossU (And.intro encR.eq_1 RL.cells.eq_1)) ?_)
  (apply r_call; (focus rfl))
  refine time_spec L now _ _ ?_
  cases hm : mayB now
  · rw [hm] at hk
    repeat (refine gk (And.intro lossU (And.intro encR.eq_1 RL.cells.eq_1)) ?_)
    refine resK_weak (Weak.tu (bs := [encR r, .sl .no 4 []]) ⟨weak_encR r .no, Weak.nil' 4, trivial⟩) (hk H (Fr.refl _ _))
  repeat (refine gk lossU ?_)
  (apply r_call; (focus rfl))
  refine time_spec L late _ _ ?_
  cases hm2 : mayB late
  · rw [hm, hm2] at hk
    repeat (refine gk (And.intro lossU (And.intro encR.eq_1 RL.cells.eq_1)) ?_)
    refine resK_weak (Weak.tu (bs := [encR r, .sl .no 4 []]) ⟨weak_encR r .no, Weak.nil' 4, trivial⟩) (hk H (Fr.refl _ _))
  rw [hm, hm2] at hk
  simp only [Bool.and_self, if_true] at hk
  simp only [mayB, Bool.and_eq_true, decide_eq_true_eq] at hm hm2
  unfold sm at hb
  repeat (refine gk lossU ?_)
  refine c_loop (Spec_SMono L) (fun (x : Nat × Tk × Tk) => [(1, .h (I now)), (2, .h (I late)), (3, .lp 0 0), (6, .lp 1 0), (8, .h (.sl x.2.2 4 (((r.opn.take x.1).filter fun p => !lostB r.big now late p).map enc))), (9, .h (.sl x.2.1 4 (((r.opn.take x.1).filter (lostB r.big now late)).map enc))), (10, .h (I x.1))]) (fun _ => [(0, r.cells .no), (1, newR0)])
    (fun x H' => x.1 ≤ r.opn.length ∧ Fr [] H H' ∧ Tok H' x.2.1 ((r.opn.take x.1).filter (lostB r.big now late)).length 4 ∧ Tok H' x.2.2 ((r.opn.take x.1).filter fun p => !lostB r.big now late p).length 4 ∧ Fresh H x.2.1 ∧ Fresh H x.2.2 ∧ Apart x.2.1 x.2.2) (fun x => r.opn.length - x.1) (0, .full, .full) ?_ ⟨by omega, Fr.refl _ _, by unfold Tok; trivial, by unfold Tok; trivial, by simp [Fresh, tb], by simp [Fresh, tb], by simp [Apart, tb]⟩ ?_
  · (refine leM ?_ ?_ ?_ <;> (repeat refine leS trivial ?_) <;> exact leE)
  rintro ⟨i, t1, t2⟩ H' ⟨hi, hfr, ht1, ht2, hn1, hn2, ha⟩
  simp only at hi ht1 ht2 hn1 hn2 ha
  repeat (refine gk (And.intro lossU RL.cells.eq_1) ?_)
  (refine ct lossU ?_ ?_ <;> intro h)
  · have hi' : i < r.opn.length := by simpa using h
    have hb1 : ((r.opn.take i).filter (lostB r.big now late)).length ≤ 1048576 := Nat.le_trans (List.length_filter_le _ _) (by simp; omega)
    have hb2 : ((r.opn.take i).filter fun p => !lostB r.big now late p).length ≤ 1048576 := Nat.le_trans (List.length_filter_le _ _) (by simp; omega)
    have hT : lostB r.big now late r.opn[i] = true → ((r.opn.take (i + 1)).filter (lostB r.big now late)) = ((r.opn.take i).filter (lostB r.big now late)) ++ [r.opn[i]] ∧ ((r.opn.take (i + 1)).filter fun p => !lostB r.big now late p) = ((r.opn.take i).filter fun p => !lostB r.big now late p) :=
      fun h2 => ⟨fil_t hi' h2, fil_f hi' (f := fun p => !lostB r.big now late p) (by simp [h2])⟩
    have hF : lostB r.big now late r.opn[i] = false → ((r.opn.take (i + 1)).filter (lostB r.big now late)) = ((r.opn.take i).filter (lostB r.big now late)) ∧ ((r.opn.take (i + 1)).filter fun p => !lostB r.big now late p) = ((r.opn.take i).filter fun p => !lostB r.big now late p) ++ [r.opn[i]] :=
      fun h2 => ⟨fil_f hi' h2, fil_t hi' (f := fun p => !lostB r.big now late p) (by simp [h2])⟩
    rw [show lostB r.big now late r.opn[i] = (decide (r.opn[i].num < r.big) && (decide (r.opn[i].num ≤ r.big - 3) || decide (r.opn[i].at' ≤ now - late))) from rfl] at hT hF
    cases d1 : decide (r.opn[i].num < r.big) <;> cases d2 : decide (r.opn[i].num ≤ r.big - 3) <;> cases d3 : decide (r.opn[i].at' ≤ now - late) <;> rw [d1, d2, d3] at hT hF
    all_goals repeat (refine gk (And.intro lossU (And.intro RL.cells.eq_1 (And.intro d1 (And.intro d2 d3)))) ?_)
    all_goals first
      | (obtain ⟨e1, e2⟩ := hT rfl
         (apply r_app; (focus rfl); (focus rfl); (focus (simpa using ht1)); (focus (simp; omega)))
         intro t1' H2 k1 k2
         repeat (refine gk lossU ?_)
         refine k_n (i + 1, t1', t2) (by simp only; omega) ⟨by simp only; omega, hfr.apd hn1 k2, by rw [e1]; simpa using k1, by rw [e2]; exact ht2.apd ha.symm k2, hn1.apd hfr k2, hn2, (ht2.held_apart ha.symm k2).symm⟩ ?_
         (refine leM ?_ ?_ ?_ <;> (repeat refine leS (And.intro lossU (And.intro e1 (And.intro e2 enc.eq_1))) ?_) <;> exact leE))
      | (obtain ⟨e1, e2⟩ := hF rfl
         (apply r_app; (focus rfl); (focus rfl); (focus (simpa using ht2)); (focus (simp; omega)))
         intro t2' H2 k1 k2
         repeat (refine gk lossU ?_)
         refine k_n (i + 1, t1, t2') (by simp only; omega) ⟨by simp only; omega, hfr.apd hn2 k2, by rw [e1]; exact ht1.apd ha k2, by rw [e2]; simpa using k1, hn1, hn2.apd hfr k2, ht1.held_apart ha k2⟩ ?_
         (refine leM ?_ ?_ ?_ <;> (repeat refine leS (And.intro lossU (And.intro e1 (And.intro e2 enc.eq_1))) ?_) <;> exact leE))
  · have hi' : i = r.opn.length := by have : ¬ i < r.opn.length := by simpa using h
                                      omega
    subst hi'
    rw [List.take_length] at ht1 ht2
    simp only [List.take_length]
    repeat (refine gk (And.intro lossU (And.intro RL.cells.eq_1 newR0.eq_1)) ?_)
    refine resK_weak (Weak.tu (bs := [encR { r with opn := r.opn.filter fun p => !lostB r.big now late p }, .sl .no 4 ((r.opn.filter (lostB r.big now late)).map enc)]) ⟨?_, Weak.drop _ _ _, trivial⟩) (hk H' hfr)
    exact weak_encR { r with opn := r.opn.filter fun p => !lostB r.big now late p } t2
end Sm
