/-
  A layer of one's own: text L13.
-/
import Derived.Test.YtkephaeefknlbaaSmL12
set_option linter.unusedVariables false
set_option linter.unusedSimpArgs false
set_option maxRecDepth 10000
set_option maxHeartbeats 2000000
namespace Sm
open Go
-- BASE lossU
attribute [local irreducible] csem rsem dsem seqK blockK normK finK DK RK BR G3 resK Spec Tok Fr

def pkEq (a b : Pk) : Bool := (a.num == b.num) && ((a.at' == b.at') && ((a.size == b.size) && (a.asks == b.asks)))
theorem pkEq_iff {a b : Pk} : pkEq a b = true ↔ a = b := by
  cases a; cases b
  simp only [pkEq, Bool.and_eq_true, beq_iff_eq, Pk.mk.injEq]
theorem samep_spec (L : Linked code) (t1 t2 : Tk) (a b : List Pk) (hl : a.length ≤ 1048576) : Pure L 117 [.sl t1 4 (a.map enc), .sl t2 4 (b.map enc)] (B (decide (a = b))) := by
  intro H K hk
  refine go_spec L code117 rfl ?_
  repeat (refine gk lossU ?_)
  (refine ct lossU ?_ ?_ <;> intro h)
  · have h' : a.length ≠ b.length := by have : ¬ (a.length : Int) = b.length := by simpa using h
                                        omega
    rw [decide_eq_false (fun e => h' (by rw [e]))] at hk
    repeat (refine gk lossU ?_)
    exact resK_some hk
  have h' : a.length = b.length := by have : (a.length : Int) = b.length := by simpa using h
                                      omega
  repeat (refine gk lossU ?_)
  refine c_loop (Spec_SMono L) (fun (i : Nat) => [(0, .h (.sl t1 4 (a.map enc))), (1, .h (.sl t2 4 (b.map enc))), (5, .h (I i))]) (fun _ => [])
    (fun i H' => H' = H ∧ ∃ h : i ≤ a.length, ∀ j (hj : j < i), a[j]'(by omega) = b[j]'(by omega)) (fun i => a.length - i) 0 ?_ ⟨rfl, by omega, fun j hj => by omega⟩ ?_
  · (refine leM ?_ ?_ ?_ <;> (repeat refine leS trivial ?_) <;> exact leE)
  rintro i H' ⟨rfl, hi, hb⟩
  repeat (refine gk lossU ?_)
  (refine ct lossU ?_ ?_ <;> intro h2)
  · have hi' : i < a.length := by simpa using h2
    have hj' : i < b.length := by omega
    repeat (refine gk lossU ?_)
    (refine ct lossU ?_ ?_ <;> intro h3)
    · have : pkEq a[i] b[i] = false := by
        rw [← Bool.not_eq_true]; intro h4; unfold pkEq at h4; simp only [Bool.and_eq_true] at h4; simp [h4] at h3
      have hne : a ≠ b := fun e => by
        have e2 : a[i] = b[i] := by simp only [e]
        rw [pkEq_iff.mpr e2] at this; cases this
      rw [decide_eq_false hne] at hk
      repeat (refine gk lossU ?_)
      exact resK_some hk
    · have h4 : pkEq a[i] b[i] = true := by simpa [pkEq] using h3
      repeat (refine gk lossU ?_)
      refine k_n (i + 1) (by omega) ⟨rfl, by omega, fun j hj => ?_⟩ ?_
      · rcases Nat.lt_or_ge j i with h5 | h5
        · exact hb j h5
        · have : j = i := by omega
          subst this; exact pkEq_iff.mp h4
      · (refine leM ?_ ?_ ?_ <;> (repeat refine leS trivial ?_) <;> exact leE)
  · have hi' : i = a.length := by have : ¬ i < a.length := by simpa using h2
                                  omega
    subst hi'
    have : a = b := List.ext_getElem h' (fun j hj _ => hb j hj)
    rw [decide_eq_true this] at hk
    repeat (refine gk lossU ?_)
    exact resK_some hk

/-- A call. -/
structure Act where
  kind : Int
  p : Pk
  spans : List Sp
  now : Int
  late : Int
def Act.enc (tk : Tk) (a : Act) : HV := .ag [.v (.int .u8 a.kind), I a.p.num, I a.p.at', I a.p.size, B a.p.asks, .sl tk 2 (a.spans.map encS), I a.now, I a.late]
def fewB (l : List Act) : Bool := decide (l.length ≤ 200) && l.all fun a => decide (a.spans.length ≤ 70)
theorem few_spec (L : Linked code) (tk : Tk) (l : List Act) : Pure L 101 [.sl tk 8 (l.map (Act.enc .no))] (B (fewB l)) := by
  intro H K hk
  refine go_spec L code101 rfl ?_
  repeat (refine gk lossU ?_)
  (refine ct lossU ?_ ?_ <;> intro h)
  · have h' : 200 < l.length := by have : (200 : Int) < l.length := by simpa using h
                                   omega
    rw [fewB, decide_eq_false (by omega), Bool.false_and] at hk
    repeat (refine gk lossU ?_)
    exact resK_some hk
  have h' : l.length ≤ 200 := by have : ¬ (200 : Int) < l.length := by simpa using h
                                 omega
  rw [fewB, decide_eq_true h', Bool.true_and] at hk
  repeat (refine gk lossU ?_)
  refine c_loop (Spec_SMono L) (fun (i : Nat) => [(0, .h (.sl tk 8 (l.map (Act.enc .no)))), (3, .h (I i))]) (fun _ => [])
    (fun i H' => H' = H ∧ ∃ h : i ≤ l.length, ∀ j (hj : j < i), (l[j]'(by omega)).spans.length ≤ 70) (fun i => l.length - i) 0 ?_ ⟨rfl, by omega, fun j hj => by omega⟩ ?_
  · (refine leM ?_ ?_ ?_ <;> (repeat refine leS trivial ?_) <;> exact leE)
  rintro i H' ⟨rfl, hi, hb⟩
  repeat (refine gk lossU ?_)
  (refine ct lossU ?_ ?_ <;> intro h2)
  · have hi' : i < l.length := by simpa using h2
    repeat (refine gk (And.intro lossU Act.enc.eq_1) ?_)
    (refine ct lossU ?_ ?_ <;> intro h3)
    · have h4 : ¬ l[i].spans.length ≤ 70 := by have : (70 : Int) < l[i].spans.length := by simpa using h3
                                               omega
      have : (l.all fun a => decide (a.spans.length ≤ 70)) = false := by
        rw [List.all_eq_false]
        exact ⟨l[i], List.getElem_mem hi', by simpa using h4⟩
      rw [this] at hk
      repeat (refine gk lossU ?_)
      exact resK_some hk
    · have h4 : l[i].spans.length ≤ 70 := by have : ¬ (70 : Int) < l[i].spans.length := by simpa using h3
                                             omega
      repeat (refine gk lossU ?_)
      refine k_n (i + 1) (by omega) ⟨rfl, by omega, fun j hj => ?_⟩ ?_
      · rcases Nat.lt_or_ge j i with h5 | h5
        · exact hb j h5
        · have : j = i := by omega
          subst this; exact h4
      · (refine leM ?_ ?_ ?_ <;> (repeat refine leS trivial ?_) <;> exact leE)
  · have hi' : i = l.length := by have : ¬ i < l.length := by simpa using h2
                                  omega
    subst hi'
    have : (l.all fun a => decide (a.spans.length ≤ 70)) = true := by
      rw [List.all_eq_true]
      intro x hx
      obtain ⟨j, hj, rfl⟩ := List.getElem_of_mem hx
      simpa using hb j hj
    rw [this] at hk
    repeat (refine gk lossU ?_)
    exact resK_some hk
end Sm
