/-
  A layer of one's own: text L18.
-/
import Derived.Test.YtkephaeefknlbaaSmL17
set_option linter.unusedVariables false
set_option linter.unusedSimpArgs false
set_option maxRecDepth 10000
set_option maxHeartbeats 2000000
namespace Sm
open Go
attribute [local irreducible] csem rsem dsem seqK blockK normK finK DK RK BR G3 resK Spec Tok Fr

/-- What LossNext says of one ledger. -/
theorem next_law {l : Led} (hw : WF l) {n : Int} (hn : 0 ≤ n ∧ n < 1048576) :
    ((nextR (lostN l 0 1099511627776) n).2 = false → lostL (lostN l 0 1099511627776) 1099511627776 0 = []) ∧
    ((nextR (lostN l 0 1099511627776) n).2 = true → (nextR (lostN l 0 1099511627776) n).1 ≤ 1099511627776 →
      0 ≤ (nextR (lostN l 0 1099511627776) n).1 ∧
      (0 < (nextR (lostN l 0 1099511627776) n).1 → lostL (lostN l 0 1099511627776) ((nextR (lostN l 0 1099511627776) n).1 - 1) n = []) ∧
      (∀ m, m = lostN l 0 1099511627776 ∨ m = lostN (lostN l 0 1099511627776) ((nextR (lostN l 0 1099511627776) n).1 - 1) n ∧ 0 < (nextR (lostN l 0 1099511627776) n).1 →
        0 < (lostL m (nextR (lostN l 0 1099511627776) n).1 n).length)) := by
  have hm : mayB n = true := by simp [mayB]; omega
  have hw2 := hw.lost 0 1099511627776
  have hfar : ∀ p ∈ (lostN l 0 1099511627776).opn, p.num < (lostN l 0 1099511627776).big → (lostN l 0 1099511627776).big - 3 < p.num := by
    intro p hp hlt
    rw [lostN, if_pos (by decide)] at hp hlt ⊢
    have h1 := (List.mem_filter.mp hp).2
    simp only [lostB, Bool.not_eq_true', Bool.and_eq_false_iff, Bool.or_eq_false_iff, decide_eq_false_iff_not] at h1
    simp only at hlt ⊢
    omega
  generalize lostN l 0 1099511627776 = x at hw2 hfar ⊢
  have hnx : nextR x n = match x.opn.find? (fun p => decide (p.num < x.big)) with
    | some p => (p.at' + n, true)
    | none => (0, false) := by rw [nextR, if_pos hm]; rfl
  cases hfd : x.opn.find? (fun p => decide (p.num < x.big)) with
  | none =>
    rw [hfd] at hnx
    simp only at hnx
    rw [hnx]
    refine ⟨fun _ => ?_, fun h => (by cases h)⟩
    rw [lostL, if_pos (by decide), List.filter_eq_nil_iff]
    intro p hp
    have := List.find?_eq_none.mp hfd p hp
    simp only [decide_eq_true_eq] at this
    simp [lostB, this]
  | some q =>
    rw [hfd] at hnx
    simp only at hnx
    rw [hnx]
    refine ⟨fun h => (by cases h), fun _ hle => ?_⟩
    simp only at hle ⊢
    obtain ⟨hq, i, hi, rfl, hbef⟩ := List.find?_eq_some_iff_getElem.mp hfd
    have hqm := List.getElem_mem hi
    have hqp := hw2.pk _ hqm
    unfold pok at hqp
    simp only [decide_eq_true_eq] at hq
    have hat : ∀ p ∈ x.opn, p.num < x.big → x.opn[i].at' ≤ p.at' := by
      intro p hp hlt
      obtain ⟨j, hj, rfl⟩ := List.getElem_of_mem hp
      rcases Nat.lt_trichotomy j i with h | h | h
      · have := hbef j h
        simp only [Bool.not_eq_true', decide_eq_false_iff_not] at this
        omega
      · subst h; omega
      · exact (List.pairwise_iff_getElem.mp hw2.so i j hi hj h).2
    have hno : 0 < x.opn[i].at' + n → lostL x (x.opn[i].at' + n - 1) n = [] := by
      intro h0
      rw [lostL, if_pos (by rw [hm]; simp [mayB]; omega), List.filter_eq_nil_iff]
      intro p hp hlt
      simp only [lostB, Bool.and_eq_true, Bool.or_eq_true, decide_eq_true_eq] at hlt
      have h1 := hfar p hp hlt.1
      have h2 := hat p hp hlt.1
      omega
    refine ⟨by omega, hno, fun m hmm => ?_⟩
    have hme : m = x := by
      rcases hmm with h | ⟨h, h0⟩
      · exact h
      · have h1 := hno h0
        rw [lostL, if_pos (by rw [hm]; simp [mayB]; omega), List.filter_eq_nil_iff] at h1
        rw [h, lostN, if_pos (by rw [hm]; simp [mayB]; omega)]
        have : x.opn.filter (fun p => !lostB x.big (x.opn[i].at' + n - 1) n p) = x.opn := by
          rw [List.filter_eq_self]
          intro p hp
          simpa using h1 p hp
        rw [this]
    subst hme
    rw [lostL, if_pos (by rw [hm]; simp [mayB]; omega)]
    refine List.length_pos_iff.mpr fun h => ?_
    rw [List.filter_eq_nil_iff] at h
    refine h _ hqm ?_
    simp only [lostB, Bool.and_eq_true, Bool.or_eq_true, decide_eq_true_eq]
    omega
end Sm
