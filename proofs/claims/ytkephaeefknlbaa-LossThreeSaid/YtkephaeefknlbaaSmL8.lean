/-
  A layer of one's own: text L8.
-/
import Derived.Test.YtkephaeefknlbaaSmL7
set_option linter.unusedVariables false
set_option linter.unusedSimpArgs false
set_option maxRecDepth 10000
set_option maxHeartbeats 1000000
namespace Sm
open Go
/-- How many of the first n lie from a up to b. -/
theorem range_count (a b : Nat) (h : a ≤ b) : ∀ n, ((List.range n).filter fun i => decide (a ≤ i) && decide (i < b)).length = min n b - min n a
  | 0 => by simp
  | n + 1 => by
    rw [List.range_succ, List.filter_append, List.length_append, range_count a b h n]
    by_cases h1 : a ≤ n <;> by_cases h2 : n < b <;> simp [h1, h2] <;> omega
def thP (i : Nat) : Pk := ⟨(i : Int), 5, 10, true⟩
def th (i : Nat) : Led := ⟨(List.range i).map thP, if i = 0 then zPk else ⟨(i : Int) - 1, 5, 10, true⟩, decide (0 < i), -1⟩
theorem th_sent {i : Nat} (h : i < 60) : sentE (th i) ⟨i, 5, 10, true⟩ = 0 ∧ sentN (th i) ⟨i, 5, 10, true⟩ = th (i + 1) := by
  have e : sentE (th i) ⟨i, 5, 10, true⟩ = 0 := by
    have d1 : mayB (i : Int) = true := by simp [mayB]; omega
    have d2 : mayB 5 = true := rfl
    have d3 : decide ((1024 : Int) ≤ ((th i).opn.length : Int)) = false := by simp [th]; omega
    simp only [sentE, d1, d2, d3]
    rcases Nat.eq_zero_or_pos i with rfl | h0
    · rfl
    · have d4 : decide ((i : Int) ≤ (th i).last.num) = false := by
        rw [th, if_neg (by omega)]; simp; omega
      have d5 : decide ((5 : Int) < (th i).last.at') = false := by
        rw [th, if_neg (by omega)]; rfl
      rw [d4, d5]; simp
  refine ⟨e, ?_⟩
  rw [sentN, if_pos e, th, th, if_neg (by omega : ¬ i + 1 = 0)]
  simp only [List.range_succ, List.map_append, List.map_cons, List.map_nil, Led.mk.injEq, true_and, thP]
  refine ⟨?_, by simp⟩
  congr 1; omega
theorem map_filter (f : Pk → Bool) (l : List Nat) : (l.map thP).filter f = (l.filter fun i => f (thP i)).map thP := by
  rw [List.filter_map]; rfl
theorem fly_th : ∀ (l : List Nat), fly (l.map thP) = 10 * l.length
  | [] => by simp [fly]
  | a :: l => by
    have := fly_th l
    simp only [fly, List.map_cons, List.sum_cons, List.length_cons, thP, if_true] at this ⊢
    rw [this]; omega
def lenf (n : Nat) (f : Nat → Bool) : Nat := ((List.range n).filter f).length
theorem lenf_iv {n a b : Nat} {f : Nat → Bool} (h : a ≤ b) (hf : ∀ i < n, f i = (decide (a ≤ i) && decide (i < b))) : ((List.range n).filter f).length = min n b - min n a := by
  rw [← range_count a b h n]
  congr 1
  exact List.filter_congr fun i hi => hf i (List.mem_range.mp hi)
/-- What is open behind the acknowledgement. -/
def thA (n k : Nat) : Led := { th n with opn := ((List.range n).filter fun i => !decide (i = k)).map thP, big := k }
theorem th_ack {n k : Nat} (hn : n ≤ 60) (hk : k < n) : ackR (th n) [⟨k, k⟩] 5 = ([thP k], 0, true, 0) ∧ ackL (th n) [⟨k, k⟩] 5 = thA n k := by
  have hin : ∀ i : Nat, ([⟨k, k⟩] : List Sp).any (fun x => inS x (thP i).num) = decide (i = k) := by
    intro i
    simp only [List.any_cons, List.any_nil, Bool.or_false, inS, thP]
    rw [Bool.eq_iff_iff]; simp; omega
  have hs : toS [⟨(k : Int), (k : Int)⟩] = k := rfl
  have e1 : chk [⟨(k : Int), (k : Int)⟩] = 0 := by
    have h1 : mayS ⟨(k : Int), (k : Int)⟩ = true := by rw [mayS_iff]; simp; omega
    have h2 : decide ((k : Int) < -2 + 2) = false := by simp
    simp only [chk, chkG, h1, h2, List.length_cons, List.length_nil]
    rfl
  have e2 : ackE (th n) [⟨k, k⟩] 5 = 0 := by
    rw [ackE, if_neg (by simp [e1]), hs]
    have d1 : decide ((th n).last.num < (k : Int)) = false := by
      rw [th, if_neg (by omega)]; simp; omega
    have d2 : decide ((5 : Int) < (th n).last.at') = false := by
      rw [th, if_neg (by omega)]; rfl
    have d3 : (th n).som = true := by simp [th]; omega
    rw [d1, d2, d3]; rfl
  have e3 : ackG (th n) [⟨k, k⟩] = [thP k] := by
    rw [ackG, th, map_filter]
    simp only [hin]
    have : (List.range n).filter (fun i => decide (i = k)) = [k] := by
      have h1 : ((List.range n).filter fun i => decide (i = k)).length = 1 := by
        rw [lenf_iv (a := k) (b := k + 1) (by omega) (fun i hi => by rw [Bool.eq_iff_iff]; simp; omega)]; omega
      obtain ⟨x, hx⟩ := List.length_eq_one_iff.mp h1
      have : x ∈ (List.range n).filter fun i => decide (i = k) := by rw [hx]; simp
      have := (List.mem_filter.mp this).2
      rw [hx]; simp at this; rw [this]
    rw [this]; rfl
  refine ⟨?_, ?_⟩
  · rw [ackR, if_pos e2, ackS, e3, hs]
    have d : decide ((th n).big < (k : Int)) = true := decide_eq_true (by show (-1 : Int) < k; omega)
    simp only [smp, List.getLast?_singleton, d]
    simp [thP]
  · rw [ackL, if_pos e2, ackN, thA, hs]
    have hm : max (th n).big (k : Int) = k := by simp only [th]; omega
    rw [hm]
    simp only [th, map_filter, hin, Led.mk.injEq, true_and]

/-- What is open behind the first time. -/
def thB (n k : Nat) : Led := { thA n k with opn := ((List.range n).filter fun i => !decide (i = k) && !decide (i + 3 ≤ k)).map thP }
def thC (n k : Nat) : Led := { thA n k with opn := ((List.range n).filter fun i => decide (k < i)).map thP }
theorem th_may {n : Int} (h : 0 ≤ n ∧ n ≤ 3000) : mayB n = true := by simp [mayB]; omega
theorem th_now {n k : Nat} {t : Int} (hk : k < n) (ht : 1 ≤ t ∧ t ≤ 1000) : ((lostL (thA n k) 5 t).length : Int) = max 0 ((k : Int) - 2) ∧ lostN (thA n k) 5 t = thB n k := by
  have hl : ∀ i : Nat, lostB k 5 t (thP i) = decide (i + 3 ≤ k) := by
    intro i
    rw [Bool.eq_iff_iff]; simp only [lostB, Bool.and_eq_true, Bool.or_eq_true, decide_eq_true_eq]; simp only [thP]; omega
  have hm : (mayB 5 && mayB t) = true := by rw [th_may (by omega), th_may (by omega)]; rfl
  constructor
  · rw [lostL, if_pos hm, thA, map_filter, List.length_map, List.filter_filter]
    simp only [hl]
    rw [lenf_iv (a := 0) (b := k - 2) (by omega) (fun i hi => by rw [Bool.eq_iff_iff]; simp; omega)]
    omega
  · rw [lostN, if_pos hm, thB]
    simp only [thA, map_filter, List.filter_filter, hl, Led.mk.injEq, and_true]
    congr 1
    apply List.filter_congr
    intro i _
    rw [Bool.and_comm]
theorem th_soon {n k : Nat} {t : Int} (hk : k < n) (ht : 1 ≤ t ∧ t ≤ 1000) : lostL (thB n k) (4 + t) t = [] ∧ lostN (thB n k) (4 + t) t = thB n k := by
  have hl : ∀ i : Nat, lostB k (4 + t) t (thP i) = decide (i + 3 ≤ k) := by
    intro i
    rw [Bool.eq_iff_iff]; simp only [lostB, Bool.and_eq_true, Bool.or_eq_true, decide_eq_true_eq]; simp only [thP]; omega
  have hm : (mayB (4 + t) && mayB t) = true := by rw [th_may (by omega), th_may (by omega)]; rfl
  constructor
  · rw [lostL, if_pos hm, thB, map_filter, List.filter_filter]
    simp only [thA, hl]
    rw [List.map_eq_nil_iff, List.filter_eq_nil_iff]
    intro i _
    simp; omega
  · rw [lostN, if_pos hm]
    simp only [thB, thA, map_filter, List.filter_filter, hl, Led.mk.injEq, and_true]
    congr 1
    apply List.filter_congr
    intro i _
    rw [Bool.eq_iff_iff]; simp only [Bool.and_eq_true, Bool.not_eq_true', decide_eq_true_eq, decide_eq_false_iff_not]; omega
theorem th_then {n k : Nat} {t : Int} (hk : k < n) (ht : 1 ≤ t ∧ t ≤ 1000) : ((lostL (thB n k) (5 + t) t).length : Int) = min (k : Int) 2 ∧ lostN (thB n k) (5 + t) t = thC n k := by
  have hl : ∀ i : Nat, lostB k (5 + t) t (thP i) = decide (i < k) := by
    intro i
    rw [Bool.eq_iff_iff]; simp only [lostB, Bool.and_eq_true, Bool.or_eq_true, decide_eq_true_eq]; simp only [thP]; omega
  have hm : (mayB (5 + t) && mayB t) = true := by rw [th_may (by omega), th_may (by omega)]; rfl
  constructor
  · rw [lostL, if_pos hm, thB, map_filter, List.length_map, List.filter_filter]
    simp only [thA, hl]
    rw [lenf_iv (a := k - 2) (b := k) (by omega) (fun i hi => by rw [Bool.eq_iff_iff]; simp; omega)]
    omega
  · rw [lostN, if_pos hm]
    simp only [thB, thC, thA, map_filter, List.filter_filter, hl, Led.mk.injEq, and_true]
    congr 1
    apply List.filter_congr
    intro i _
    rw [Bool.eq_iff_iff]; simp only [Bool.and_eq_true, Bool.not_eq_true', decide_eq_true_eq, decide_eq_false_iff_not]; omega
theorem th_len {n k : Nat} (hk : k < n) : (((thC n k).opn.length : Nat) : Int) = (n : Int) - 1 - k := by
  rw [thC, List.length_map, lenf_iv (a := k + 1) (b := n) (by omega) (fun i hi => by rw [Bool.eq_iff_iff]; simp; omega)]
  omega
theorem th_fly {n k : Nat} : fly (thC n k).opn = 10 * ((thC n k).opn.length : Int) := by
  rw [thC, fly_th, List.length_map]
theorem th_pok {l : List Nat} (h : ∀ i ∈ l, i < 60) : ∀ p ∈ l.map thP, pok p := by
  intro p hp
  obtain ⟨i, hi, rfl⟩ := List.mem_map.mp hp
  have := h i hi
  unfold pok thP
  simp; omega
theorem th_lenle {n : Nat} {f : Nat → Bool} (h : n ≤ 60) : (((List.range n).filter f).map thP).length ≤ 1048576 := by
  rw [List.length_map]
  exact Nat.le_trans (List.length_filter_le _ _) (by simp; omega)
theorem th_pokf {n : Nat} {f : Nat → Bool} (h : n ≤ 60) : ∀ p ∈ ((List.range n).filter f).map thP, pok p :=
  th_pok fun i hi => by
    have := List.mem_range.mp (List.mem_filter.mp hi).1
    omega
end Sm
