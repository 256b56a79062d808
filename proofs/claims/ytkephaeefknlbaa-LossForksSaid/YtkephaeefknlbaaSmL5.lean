/-
  A layer of one's own: text L5.
-/
import Derived.Test.YtkephaeefknlbaaSmL4
set_option linter.unusedVariables false
set_option linter.unusedSimpArgs false
set_option maxRecDepth 10000
set_option maxHeartbeats 1000000
namespace Sm
open Go
-- BASE lossU
attribute [local irreducible] csem rsem dsem seqK blockK normK finK DK RK BR G3 resK Spec Tok Fr

def chkG : Int → List Sp → Bool
  | _, [] => true
  | a, s :: r => mayS s && !decide (s.lo < a + 2) && chkG s.hi r
def chk (l : List Sp) : Int := if 64 < l.length then 5 else if chkG (-2) l = false then 4 else if l = [] then 4 else 0
theorem chk_drop {l : List Sp} {i : Nat} (h : i < l.length) (a : Int) : chkG a (l.drop i) = (mayS l[i] && !decide (l[i].lo < a + 2) && chkG l[i].hi (l.drop (i + 1))) := by
  rw [List.drop_eq_getElem_cons h]; rfl
theorem mayS_iff {s : Sp} : mayS s = true ↔ 0 ≤ s.lo ∧ s.lo ≤ s.hi ∧ s.hi ≤ 1099511627776 := by
  simp only [mayS, Bool.and_eq_true, decide_eq_true_eq, and_assoc]

theorem chk1_spec (L : Linked code) (tk : Tk) (l : List Sp) : Pure L 125 [.sl tk 2 (l.map encS)] (I (chk l)) := by
  intro H K hk
  unfold chk at hk
  refine go_spec L code125 rfl ?_
  repeat (refine gk lossU ?_)
  (refine ct lossU ?_ ?_ <;> intro h)
  · have h' : 64 < l.length := by have : (64 : Int) < l.length := by simpa using h
                                  omega
    rw [if_pos h'] at hk
    repeat (refine gk lossU ?_)
    exact resK_some hk
  have h' : ¬ 64 < l.length := by have : ¬ (64 : Int) < l.length := by simpa using h
                                  omega
  rw [if_neg h'] at hk
  repeat (refine gk lossU ?_)
  refine c_loop (Spec_SMono L) (fun (x : Nat × Int) => [(0, .h (.sl tk 2 (l.map encS))), (3, .h (I x.2)), (9, .h (.sl tk 2 (l.map encS))), (10, .h (I l.length)), (11, .h (I x.1))]) (fun _ => [])
    (fun x H' => H' = H ∧ x.1 ≤ l.length ∧ chkG (-2) l = chkG x.2 (l.drop x.1) ∧ -2 ≤ x.2 ∧ x.2 ≤ 1099511627776) (fun x => l.length - x.1) (0, -2) ?_ ⟨rfl, by omega, rfl, by decide, by decide⟩ ?_
  · (refine leM ?_ ?_ ?_ <;> (repeat refine leS trivial ?_) <;> exact leE)
  rintro ⟨i, a⟩ H' ⟨rfl, hi, hc, ha1, ha2⟩
  simp only at hi hc ha1 ha2
  repeat (refine gk lossU ?_)
  (refine ct lossU ?_ ?_ <;> intro h2)
  · have hi' : i < l.length := by simpa using h2
    rw [chk_drop hi'] at hc
    repeat (refine gk lossU ?_)
    (apply r_call; (focus rfl))
    refine rmay_spec L l[i] _ _ ?_
    cases hm : mayS l[i]
    · rw [hm, Bool.false_and, Bool.false_and] at hc
      rw [if_pos hc] at hk
      repeat (refine gk lossU ?_)
      exact resK_some hk
    · have hm' := mayS_iff.mp hm
      rw [hm, Bool.true_and] at hc
      repeat (refine gk lossU ?_)
      (refine ct lossU ?_ ?_ <;> intro h3)
      · rw [h3, Bool.not_true, Bool.false_and] at hc
        rw [if_pos hc] at hk
        repeat (refine gk lossU ?_)
        exact resK_some hk
      · rw [h3, Bool.not_false, Bool.true_and] at hc
        repeat (refine gk lossU ?_)
        refine k_n (i + 1, l[i].hi) (by simp only; omega) ⟨rfl, by simp only; omega, hc, by simp only; omega, by simp only; omega⟩ ?_
        (refine leM ?_ ?_ ?_ <;> (repeat refine leS trivial ?_) <;> exact leE)
  · have hi' : i = l.length := by have : ¬ i < l.length := by simpa using h2
                                  omega
    subst hi'
    rw [List.drop_length] at hc
    rw [hc, if_neg (by simp [chkG])] at hk
    repeat (refine gk lossU ?_)
    (refine ct lossU ?_ ?_ <;> intro h3)
    · rw [if_pos (List.length_eq_zero_iff.mp (by simpa using h3))] at hk
      repeat (refine gk lossU ?_)
      exact resK_some hk
    · rw [if_neg (fun e => by subst e; simp at h3)] at hk
      repeat (refine gk lossU ?_)
      exact resK_some hk

def ahd (l : List Sp) (i : Nat) : Int := if h : 0 < i ∧ i ≤ l.length then (l[i - 1]'(by omega)).hi else -2
theorem chk2_spec (L : Linked code) (tk : Tk) (l : List Sp) : Pure L 134 [.sl tk 2 (l.map encS)] (I (chk l)) := by
  intro H K hk
  unfold chk at hk
  refine go_spec L code134 rfl ?_
  repeat (refine gk lossU ?_)
  (refine ct lossU ?_ ?_ <;> intro h)
  · have h' : 64 < l.length := by have : (64 : Int) < l.length := by simpa using h
                                  omega
    rw [if_pos h'] at hk
    repeat (refine gk lossU ?_)
    exact resK_some hk
  have h' : ¬ 64 < l.length := by have : ¬ (64 : Int) < l.length := by simpa using h
                                  omega
  rw [if_neg h'] at hk
  repeat (refine gk lossU ?_)
  refine c_loop (Spec_SMono L) (fun (i : Nat) => [(0, .h (.sl tk 2 (l.map encS))), (3, .h (I i))]) (fun _ => [])
    (fun i H' => H' = H ∧ i ≤ l.length ∧ chkG (-2) l = chkG (ahd l i) (l.drop i) ∧ -2 ≤ ahd l i ∧ ahd l i ≤ 1099511627776) (fun i => l.length - i) 0 ?_ ⟨rfl, by omega, rfl, by simp [ahd], by simp [ahd]⟩ ?_
  · (refine leM ?_ ?_ ?_ <;> (repeat refine leS trivial ?_) <;> exact leE)
  rintro i H' ⟨rfl, hi, hc, ha1, ha2⟩
  repeat (refine gk lossU ?_)
  (refine ct lossU ?_ ?_ <;> intro h2)
  · have hi' : i < l.length := by simpa using h2
    rw [chk_drop hi'] at hc
    have hn : ahd l (i + 1) = l[i].hi := by
      rw [ahd, dif_pos ⟨by omega, by omega⟩]; rfl
    repeat (refine gk lossU ?_)
    (apply r_call; (focus rfl))
    refine rMay_spec L l[i] _ _ ?_
    cases hm : mayS l[i]
    · rw [hm, Bool.false_and, Bool.false_and] at hc
      rw [if_pos hc] at hk
      repeat (refine gk lossU ?_)
      exact resK_some hk
    have hm' := mayS_iff.mp hm
    rw [hm, Bool.true_and] at hc
    rcases Nat.eq_zero_or_pos i with h0 | h0
    · subst h0
      have h5 : decide (l[0].lo < ahd l 0 + 2) = false := by
        have : ahd l 0 = -2 := rfl
        rw [this]; simp; omega
      rw [h5, Bool.not_false, Bool.true_and] at hc
      have hz : decide ((0 : Int) < ((0 : Nat) : Int)) = false := rfl
      repeat (refine gk (And.intro lossU hz) ?_)
      refine k_n 1 (by omega) ⟨rfl, by omega, by rw [hn]; exact hc, by rw [hn]; omega, by rw [hn]; omega⟩ ?_
      (refine leM ?_ ?_ ?_ <;> (repeat refine leS trivial ?_) <;> exact leE)
    · have hz : decide ((0 : Int) < (i : Int)) = true := by simpa using h0
      have hq : ahd l i = (l[i - 1]'(by omega)).hi := by rw [ahd, dif_pos ⟨h0, hi⟩]
      have hi2 : i - 1 < l.length := by omega
      rw [hq] at ha1 ha2 hc
      repeat (refine gk (And.intro lossU hz) ?_)
      (apply r_idx (j := i - 1); (focus rfl); (focus rfl); (focus omega); (focus (first | exact get_enc (by omega) | assumption | rfl | (simp only [get_enc, *] <;> rfl))); (focus (simp only [lossU, nf, Nat.reduceAdd, Nat.reduceLeDiff] <;> rfl)))
      repeat (refine gk lossU ?_)
      (refine ct lossU ?_ ?_ <;> intro h3)
      · rw [h3, Bool.not_true, Bool.false_and] at hc
        rw [if_pos hc] at hk
        repeat (refine gk lossU ?_)
        exact resK_some hk
      · rw [h3, Bool.not_false, Bool.true_and] at hc
        repeat (refine gk lossU ?_)
        refine k_n (i + 1) (by omega) ⟨rfl, by omega, by rw [hn]; exact hc, by rw [hn]; omega, by rw [hn]; omega⟩ ?_
        (refine leM ?_ ?_ ?_ <;> (repeat refine leS trivial ?_) <;> exact leE)
  · have hi' : i = l.length := by have : ¬ i < l.length := by simpa using h2
                                  omega
    subst hi'
    rw [List.drop_length] at hc
    rw [hc, if_neg (by simp [chkG])] at hk
    repeat (refine gk lossU ?_)
    (refine ct lossU ?_ ?_ <;> intro h3)
    · rw [if_pos (List.length_eq_zero_iff.mp (by simpa using h3))] at hk
      repeat (refine gk lossU ?_)
      exact resK_some hk
    · rw [if_neg (fun e => by subst e; simp at h3)] at hk
      repeat (refine gk lossU ?_)
      exact resK_some hk

theorem has_spec (L : Linked code) (tk : Tk) (l : List Sp) (n : Int) (hlen : l.length ≤ 1048576) : Pure L 135 [.ag [.sl tk 2 (l.map encS)], I n] (B (l.any fun s => inS s n)) := by
  intro H K hk
  refine go_spec L code135 rfl ?_
  repeat (refine gk lossU ?_)
  refine c_loop (Spec_SMono L) (fun (i : Nat) => [(1, .h (I n)), (2, .lp 0 0), (5, .h (I i))]) (fun _ => [(0, [.sl tk 2 (l.map encS)])])
    (fun i H' => H' = H ∧ ∃ h : i ≤ l.length, ∀ j (hj : j < i), inS (l[j]'(by omega)) n = false) (fun i => l.length - i) 0 ?_ ⟨rfl, by omega, fun j hj => by omega⟩ ?_
  · (refine leM ?_ ?_ ?_ <;> (repeat refine leS trivial ?_) <;> exact leE)
  rintro i H' ⟨rfl, hi, hb⟩
  repeat (refine gk lossU ?_)
  (refine ct lossU ?_ ?_ <;> intro h2)
  · have hi' : i < l.length := by simpa using h2
    have hx : (l.any fun s => inS s n) = true → K (B true) H' := fun e => by rw [e] at hk; exact hk
    have hgo : inS l[i] n = true → K (B true) H' := fun e => hx (List.any_eq_true.mpr ⟨l[i], List.getElem_mem hi', e⟩)
    repeat (refine gk lossU ?_)
    (refine gt lossU ?_ ?_ <;> intro h3)
    · repeat (refine gk lossU ?_)
      (refine ct lossU ?_ ?_ <;> intro h4)
      · repeat (refine gk lossU ?_)
        exact resK_some (hgo (by rw [inS, h3, h4]; rfl))
      · repeat (refine gk lossU ?_)
        refine k_n (i + 1) (by omega) ⟨rfl, by omega, fun j hj => ?_⟩ ?_
        · rcases Nat.lt_or_ge j i with h5 | h5
          · exact hb j h5
          · have : j = i := by omega
            subst this; rw [inS, h3, h4]; rfl
        · (refine leM ?_ ?_ ?_ <;> (repeat refine leS trivial ?_) <;> exact leE)
    · repeat (refine gk lossU ?_)
      refine k_n (i + 1) (by omega) ⟨rfl, by omega, fun j hj => ?_⟩ ?_
      · rcases Nat.lt_or_ge j i with h5 | h5
        · exact hb j h5
        · have : j = i := by omega
          subst this; rw [inS, h3]; rfl
      · (refine leM ?_ ?_ ?_ <;> (repeat refine leS trivial ?_) <;> exact leE)
  · have hi' : i = l.length := by have : ¬ i < l.length := by simpa using h2
                                  omega
    subst hi'
    have : (l.any fun s => inS s n) = false := by
      rw [← Bool.not_eq_true, List.any_eq_true]
      rintro ⟨x, hx, hf⟩
      obtain ⟨j, hj, rfl⟩ := List.getElem_of_mem hx
      rw [hb j hj] at hf; cases hf
    rw [this] at hk
    repeat (refine gk lossU ?_)
    exact resK_some hk

def sentE (l : Led) (p : Pk) : Int := if !mayB p.num || !mayB p.at' || decide (p.size < 1) || decide (1200 < p.size) then 2 else if l.som && (decide (p.num ≤ l.last.num) || decide (p.at' < l.last.at')) then 2 else if decide ((1024 : Int) ≤ (l.opn.length : Int)) then 10 else 0
def sentN (l : Led) (p : Pk) : Led := if sentE l p = 0 then ⟨l.opn ++ [p], p, true, l.big⟩ else l
theorem sent_spec (L : Linked code) (b : Nat) (l : Led) (tk : Tk) (p : Pk) (H : Heap) (h : LedAt H b l tk) (hlen : l.opn.length ≤ 1048576) (K)
    (hk : ∀ H' tk', LUp b H H' tk tk' → LedAt H' b (sentN l p) tk' → K (I (sentE l p)) H') : Spec L.P L.ν 109 [ptr b, enc p] H K := by
  have hno : ∀ e, sentE l p = e → e ≠ 0 → K (I e) H := fun e e1 e2 => by
    subst e1
    refine hk H tk (LUp.refl _ _ _) ?_
    rw [sentN, if_neg e2]; exact h
  obtain ⟨h1, h2⟩ := h
  refine go_spec L code109 rfl ?_
  repeat (refine gk lossU ?_)
  (apply r_call; (focus rfl))
  refine may_spec L p.num _ _ ?_
  cases m1 : mayB p.num
  · repeat (refine gk lossU ?_)
    exact resK_some (hno 2 (by simp [sentE, m1]) (by decide))
  repeat (refine gk lossU ?_)
  (apply r_call; (focus rfl))
  refine may_spec L p.at' _ _ ?_
  cases m2 : mayB p.at'
  · repeat (refine gk lossU ?_)
    exact resK_some (hno 2 (by simp [sentE, m2]) (by decide))
  cases c3 : decide (p.size < 1)
  case true =>
    repeat (refine gk (And.intro lossU c3) ?_)
    exact resK_some (hno 2 (by simp only [sentE, m1, m2, c3]; rfl) (by decide))
  cases c4 : decide (1200 < p.size)
  case true =>
    repeat (refine gk (And.intro lossU (And.intro c3 c4)) ?_)
    exact resK_some (hno 2 (by simp only [sentE, m1, m2, c3, c4]; rfl) (by decide))
  repeat (refine gk (And.intro lossU (And.intro c3 c4)) ?_)
  have e5 : ∀ e, (if l.som && (decide (p.num ≤ l.last.num) || decide (p.at' < l.last.at')) then (2 : Int) else if decide ((1024 : Int) ≤ (l.opn.length : Int)) then 10 else 0) = e → sentE l p = e := fun e h => by rw [sentE, m1, m2, c3, c4]; exact h
  cases c5 : l.som <;> cases c6 : decide (p.num ≤ l.last.num) <;> cases c7 : decide (p.at' < l.last.at') <;> rw [c5, c6, c7] at e5
  all_goals repeat (refine gk (And.intro lossU (And.intro c5 (And.intro c6 c7))) ?_)
  all_goals try exact resK_some (hno 2 (e5 _ rfl) (by decide))
  all_goals cases c8 : decide ((1024 : Int) ≤ (l.opn.length : Int)) <;> rw [c8] at e5
  all_goals repeat (refine gk (And.intro lossU c8) ?_)
  all_goals try exact resK_some (hno 10 (e5 _ rfl) (by decide))
  all_goals have hE := e5 0 rfl
  all_goals rw [hE] at hk
  all_goals have hN : sentN l p = ⟨l.opn ++ [p], p, true, l.big⟩ := by rw [sentN, if_pos hE]
  all_goals rw [hN] at hk
  all_goals (apply r_app; (focus rfl); (focus rfl); (focus (simpa using h2)); (focus (simp; omega)))
  all_goals intro tk' H2 k1 k2
  all_goals have g : H2 b = some (.obj (l.cells tk)) := k2.fr.get (fun hm => h2.ne' h1 b hm rfl) h1
  all_goals repeat (refine gk lossU ?_)
  all_goals refine sxk lossU ?_
  all_goals intro X x1 x2
  all_goals repeat (refine gk lossU ?_)
  all_goals refine sxk lossU ?_
  all_goals intro X2 y1 y2
  all_goals repeat (refine gk lossU ?_)
  all_goals refine sxk lossU ?_
  all_goals intro X3 z1 z2
  all_goals repeat (refine gk lossU ?_)
  all_goals
    have hF : Fr [b] H2 X3 := (x2.trans y2).trans z2
    refine resK_some (hk X3 tk' ⟨(k2.fr.mono (by simp; exact fun a h => .inr h)).trans (hF.mono (by simp)), k2.nw⟩ ⟨?_, ?_⟩)
    · rw [z1]; simp [Led.cells, enc]
    · have k3 : Tok X3 tk' _ 4 := k1.fr' hF (fun a ha => by simpa using k1.ne' g a ha)
      simpa using k3
end Sm
