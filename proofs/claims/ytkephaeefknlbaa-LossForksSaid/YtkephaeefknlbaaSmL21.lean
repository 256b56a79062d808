/-
  A layer of one's own: text L21.
-/
import Derived.Test.YtkephaeefknlbaaSmL20
set_option linter.unusedVariables false
set_option linter.unusedSimpArgs false
set_option maxRecDepth 10000
set_option maxHeartbeats 2000000
namespace Sm
open Go
-- BASE lossU

/-- A ledger and two growing rows of numbers, each one's own. -/
structure Q3 (H0 H : Heap) (b : Nat) (x : O3) (tk t4 t5 : Tk) : Prop where
  la : LedAt H b x.l tk
  k4 : Tok H t4 x.s.length 1
  k5 : Tok H t5 x.t.length 1
  fr : Fr [] H0 H
  nb : H0 b = none
  f1 : Fresh H0 tk
  f4 : Fresh H0 t4
  f5 : Fresh H0 t5
  a14 : Apart tk t4
  a15 : Apart tk t5
  a45 : Apart t4 t5
theorem Q3.led {H0 H H' : Heap} {b : Nat} {x : O3} {tk t4 t5 tk' : Tk} {l' : Led} (h : Q3 H0 H b x tk t4 t5) (hu : LUp b H H' tk tk') (hl : LedAt H' b l' tk') : Q3 H0 H' b ⟨l', x.s, x.t⟩ tk' t4 t5 := by
  obtain ⟨g1, g2⟩ := hu.fr0 h.fr h.nb h.f1
  have d : ∀ {t : Tk} {n : Nat}, Tok H t n 1 → Apart tk t → ∀ a ∈ tb t, a ∉ b :: tb tk := fun ht ha a hm hc => by
    rcases List.mem_cons.mp hc with rfl | hc
    · exact ht.ne' h.la.1 _ hm rfl
    · exact ha a hc hm
  have ap : ∀ {t : Tk} {n : Nat}, Tok H t n 1 → Apart tk t → Apart tk' t := fun ht ha a h1 h2 => by
    rcases hu.nw a h1 with h3 | h3
    · exact ha a h3 h2
    · obtain ⟨r, hr⟩ := ht.held a h2
      rw [hr] at h3; cases h3
  exact ⟨hl, h.k4.fr' hu.fr (d h.k4 h.a14), h.k5.fr' hu.fr (d h.k5 h.a15), g1, h.nb, g2, h.f4, h.f5, ap h.k4 h.a14, ap h.k5 h.a15, h.a45⟩
theorem LedAt.apd {H H' : Heap} {b : Nat} {l : Led} {tk t t' : Tk} {n : Nat} (h : LedAt H b l tk) (ht : Tok H t n 1) (ha : Apart tk t) (hu : Apd H H' t t') : LedAt H' b l tk :=
  ⟨hu.fr b _ (fun hm => ht.ne' h.1 _ hm rfl) h.1, h.2.apd ha hu⟩
theorem Q3.rs {H0 H H' : Heap} {b : Nat} {x : O3} {tk t4 t5 t4' : Tk} {s' : List Int} (h : Q3 H0 H b x tk t4 t5) (hu : Apd H H' t4 t4') (hl : Tok H' t4' s'.length 1) : Q3 H0 H' b ⟨x.l, s', x.t⟩ tk t4' t5 :=
  ⟨h.la.apd h.k4 h.a14 hu, hl, h.k5.apd h.a45.symm hu, h.fr.apd h.f4 hu, h.nb, h.f1, h.f4.apd h.fr hu, h.f5, h.la.2.held_apart h.a14 hu, h.a15, (h.k5.held_apart h.a45.symm hu).symm⟩
theorem Q3.rt {H0 H H' : Heap} {b : Nat} {x : O3} {tk t4 t5 t5' : Tk} {s' : List Int} (h : Q3 H0 H b x tk t4 t5) (hu : Apd H H' t5 t5') (hl : Tok H' t5' s'.length 1) : Q3 H0 H' b ⟨x.l, x.s, s'⟩ tk t4 t5' :=
  ⟨h.la.apd h.k5 h.a15 hu, h.k4.apd h.a45 hu, hl, h.fr.apd h.f5 hu, h.nb, h.f1, h.f4, h.f5.apd h.fr hu, h.a14, h.la.2.held_apart h.a15 hu, h.k4.held_apart h.a45 hu⟩
theorem count_take {S : List Int} {k : Nat} (h : k < S.length) (n : Int) : (((S.take (k + 1)).count n : Nat) : Int) = ((S.take k).count n : Nat) + if S[k] == n then 1 else 0 := by
  rw [List.take_succ_eq_append_getElem h, List.count_append, List.count_singleton]
  split <;> simp_all
theorem count_le {S : List Int} (k : Nat) (n : Int) : (S.take k).count n ≤ S.length := Nat.le_trans List.count_le_length (by simp; omega)

theorem Tok.ful (H : Heap) (n sz : Nat) : Tok H .full n sz := trivial
attribute [local irreducible] csem rsem dsem seqK blockK normK finK DK RK JK BR G3 resK Spec Tok Fr

theorem once_spec (L : Linked code) (tk : Tk) (l : List Act) : Pure L 144 [.sl tk 8 (l.map (Act.enc .no))] (B true) := by
  intro H K hk
  refine go_spec L code144 rfl ?_
  repeat (refine gk lossU ?_)
  (apply r_call; (focus rfl))
  refine few_spec L tk l _ _ ?_
  cases hf : fewB l
  · repeat (refine gk lossU ?_)
    (apply r_call; (focus rfl))
    refine awake_spec L _ _ ?_
    repeat (refine gk lossU ?_)
    exact resK_some hk
  have hl : l.length ≤ 200 := by
    simp only [fewB, Bool.and_eq_true, decide_eq_true_eq] at hf; exact hf.1
  repeat (refine gk lossU ?_)
  (apply r_call; (focus rfl))
  refine new_spec L H _ fun b H1 hb hfr hled => ?_
  repeat (refine gk lossU ?_)
  refine c_loop (Spec_SMono L) (fun (q : Nat × Tk × Tk) => [(0, .h (.sl tk 8 (l.map (Act.enc .no)))), (2, .h (B false)), (3, .h (ptr b)), (4, .h (.sl q.2.1 1 ((on3 l q.1).s.map I))), (5, .h (.sl q.2.2 1 ((on3 l q.1).t.map I))), (6, .h (I q.1))]) (fun _ => [])
    (fun q H' => q.1 ≤ l.length ∧ ∃ tk, Q3 H H' b (on3 l q.1) tk q.2.1 q.2.2) (fun q => l.length - q.1) (0, .full, .full) ?_ ⟨by simp, .full, hled, Tok.ful _ _ _, Tok.ful _ _ _, hfr, hb, Fresh.full, Fresh.full, Fresh.full, by simp [Apart, tb], by simp [Apart, tb], by simp [Apart, tb]⟩ ?_
  · refine leM ?_ ?_ ?_
    · refine leL_eq rfl rfl (leL_eq rfl rfl (leL_eq rfl rfl (leL_w rfl (Weak.nil _) (leL_w rfl (Weak.nil _) (leL_eq rfl rfl leL_nil)))))
    · exact leB_nil
    · exact leE
  rintro ⟨i, t4, t5⟩ H2 ⟨hi, tk1, q⟩
  simp only at hi q ⊢
  obtain ⟨w1, w2⟩ := on3_ok l i hi
  have w3 := w1.len
  repeat (refine gk lossU ?_)
  (refine ct lossU ?_ ?_ <;> intro h)
  · have hi' : i < l.length := by simpa using h
    have e1 := on3_succ hi'
    obtain ⟨v1, v2⟩ := on3_ok l (i + 1) (by omega)
    have v3 := v1.len
    repeat (refine gj (And.intro lossU Act.enc.eq_1) ?_)
    have wa := w1.wf
    have hlen : (on3 l i).l.opn.length ≤ 1048576 := Nat.le_trans wa.len (by decide)
    refine c_join (Spec_SMono L) (fun (t : Tk) => [(0, .h (.sl tk 8 (l.map (Act.enc .no)))), (2, .h (B false)), (3, .h (ptr b)), (4, .h (.sl t 1 ((on3 l (i + 1)).s.map I))), (5, .h (.sl t5 1 ((on3 l i).t.map I))), (6, .h (I i)), (8, .h (.sl .no 4 ((outL (on3 l i).l l[i]).map enc)))]) (fun _ => [])
      (fun t H' => ∃ tk, Q3 H H' b ⟨(on3 l (i + 1)).l, (on3 l (i + 1)).s, (on3 l i).t⟩ tk t t5) ?_ ?_
    · rw [e1]
      simp only [O3.act, outL, sntL, actL]
      repeat (refine gk (And.intro lossU Act.enc.eq_1) ?_)
      cases c1 : (l[i].kind.tmod 5 == 3)
      case true =>
        simp only [if_true, List.append_nil]
        repeat (refine gk (And.intro lossU Act.enc.eq_1) ?_)
        (apply r_call; (focus rfl))
        refine ack_spec L b (on3 l i).l tk1 .no l[i].spans l[i].now H2 q.la hlen wa.pk wa.la.2.2.1 _ fun H3 tk3 k1 k2 => ?_
        unfold encA
        have q2 := q.led k1 k2
        repeat (refine gk (And.intro lossU Act.enc.eq_1) ?_)
        refine j_n t4 ⟨tk3, q2⟩ ?_
        (refine leM ?_ ?_ ?_ <;> (repeat refine leS trivial ?_) <;> exact leE)
      case false =>
      simp only [Bool.false_eq_true, if_false]
      repeat (refine gk (And.intro lossU Act.enc.eq_1) ?_)
      cases c2 : (l[i].kind.tmod 5 == 4)
      case true =>
        simp only [if_true, List.append_nil]
        repeat (refine gk (And.intro lossU Act.enc.eq_1) ?_)
        (apply r_call; (focus rfl))
        refine lost_spec L b (on3 l i).l tk1 l[i].now l[i].late H2 q.la hlen (by have := wa.bg; unfold sm; omega) _ fun H3 tk3 k1 k2 => ?_
        have q2 := q.led k1 k2
        repeat (refine gk (And.intro lossU Act.enc.eq_1) ?_)
        refine j_n t4 ⟨tk3, q2⟩ ?_
        (refine leM ?_ ?_ ?_ <;> (repeat refine leS trivial ?_) <;> exact leE)
      case false =>
        simp only [Bool.false_eq_true, if_false]
        repeat (refine gk (And.intro lossU Act.enc.eq_1) ?_)
        (apply r_call; (focus rfl))
        refine sent_spec L b (on3 l i).l tk1 l[i].p H2 q.la hlen _ fun H3 tk3 k1 k2 => ?_
        have q2 := q.led k1 k2
        cases c3 : decide (sentE (on3 l i).l l[i].p = 0)
        · rw [if_neg (by simpa using c3), List.append_nil]
          have c3' : (sentE (on3 l i).l l[i].p == 0) = false := by simpa using c3
          repeat (refine gk (And.intro lossU (And.intro Act.enc.eq_1 c3')) ?_)
          refine j_n t4 ⟨tk3, q2⟩ ?_
          (refine leM ?_ ?_ ?_ <;> (repeat refine leS trivial ?_) <;> exact leE)
        · rw [if_pos (by simpa using c3)]
          have c3' : (sentE (on3 l i).l l[i].p == 0) = true := by simpa using c3
          repeat (refine gk (And.intro lossU (And.intro Act.enc.eq_1 c3')) ?_)
          apply r_app; (focus rfl); (focus rfl); (focus (simpa using q2.k4)); (focus (simp; omega))
          intro t4' H4 g1 g2
          repeat (refine gk (And.intro lossU Act.enc.eq_1) ?_)
          refine j_n t4' ⟨tk3, q2.rs g2 (by simpa using g1)⟩ ?_
          (refine leM ?_ ?_ ?_ <;> (repeat refine leS trivial ?_) <;> exact leE)
    · rintro t4' H3 ⟨tk3, q2⟩
      have e2 : (on3 l (i + 1)).t = (on3 l i).t ++ (outL (on3 l i).l l[i]).map (·.num) := by rw [e1]; rfl
      generalize outL (on3 l i).l l[i] = out at e2 ⊢
      have e3 : (on3 l i).t.length + out.length ≤ 200 := by
        have := congrArg List.length e2
        simp only [List.length_append, List.length_map] at this
        omega
      repeat (refine gk lossU ?_)
      refine c_loop (Spec_SMono L) (fun (p : Nat × Tk) => [(0, .h (.sl tk 8 (l.map (Act.enc .no)))), (2, .h (B false)), (3, .h (ptr b)), (4, .h (.sl t4' 1 ((on3 l (i + 1)).s.map I))), (5, .h (.sl p.2 1 (((on3 l i).t ++ (out.take p.1).map (·.num)).map I))), (6, .h (I i)), (8, .h (.sl .no 4 (out.map enc))), (9, .h (I p.1))]) (fun _ => [])
        (fun p H' => p.1 ≤ out.length ∧ ∃ tk, Q3 H H' b ⟨(on3 l (i + 1)).l, (on3 l (i + 1)).s, (on3 l i).t ++ (out.take p.1).map (·.num)⟩ tk t4' p.2) (fun p => out.length - p.1) (0, t5) ?_ ⟨by simp, tk3, by simpa using q2⟩ ?_
      · simp only [List.take_zero, List.map_nil, List.append_nil]
        (refine leM ?_ ?_ ?_ <;> (repeat refine leS trivial ?_) <;> exact leE)
      rintro ⟨k, s5⟩ H4 ⟨hk2, tk4, q3⟩
      simp only at hk2 q3 ⊢
      repeat (refine gk lossU ?_)
      (refine ct lossU ?_ ?_ <;> intro h2)
      · have hk3 : k < out.length := by simpa using h2
        repeat (refine gk lossU ?_)
        apply r_app; (focus rfl); (focus rfl); (focus (simpa using q3.k5)); (focus (simp; omega))
        intro s5' H5 g1 g2
        repeat (refine gk lossU ?_)
        have e4 : (on3 l i).t ++ (out.take (k + 1)).map (·.num) = ((on3 l i).t ++ (out.take k).map (·.num)) ++ [out[k].num] := by
          rw [List.take_succ_eq_append_getElem hk3, List.map_append, List.append_assoc]; rfl
        refine k_n (k + 1, s5') (by simp only; omega) ⟨by simp only; omega, tk4, ?_⟩ ?_
        · simp only [e4]
          exact q3.rt g2 (by simpa [Nat.add_assoc] using g1)
        · simp only [e4]
          (refine leM ?_ ?_ ?_ <;> (repeat refine leS trivial ?_) <;> exact leE)
      · have hk3 : k = out.length := by have : ¬ k < out.length := by simpa using h2
                                        omega
        subst hk3
        rw [List.take_length, ← e2] at q3
        rw [List.take_length, ← e2]
        repeat (refine gk lossU ?_)
        refine k_n (i + 1, t4', s5) (by simp only; omega) ⟨by simp only; omega, tk4, q3⟩ ?_
        (refine leM ?_ ?_ ?_ <;> (repeat refine leS trivial ?_) <;> exact leE)
  · generalize hx : on3 l i = x at q w1 w2 w3 ⊢
    repeat (refine gk lossU ?_)
    refine c_loop (Spec_SMono L) (fun (j : Nat) => [(2, .h (B false)), (3, .h (ptr b)), (4, .h (.sl t4 1 (x.s.map I))), (5, .h (.sl t5 1 (x.t.map I))), (10, .h (I j))]) (fun _ => [])
      (fun j H' => H' = H2 ∧ j ≤ x.t.length) (fun j => x.t.length - j) 0 ?_ ⟨rfl, by omega⟩ ?_
    · (refine leM ?_ ?_ ?_ <;> (repeat refine leS trivial ?_) <;> exact leE)
    rintro j H3 ⟨rfl, hj⟩
    repeat (refine gk lossU ?_)
    (refine ct lossU ?_ ?_ <;> intro h2)
    · have hj' : j < x.t.length := by simpa using h2
      repeat (refine gk lossU ?_)
      refine c_loop (Spec_SMono L) (fun (k : Nat) => [(2, .h (B false)), (3, .h (ptr b)), (4, .h (.sl t4 1 (x.s.map I))), (5, .h (.sl t5 1 (x.t.map I))), (10, .h (I j)), (11, .h (I ((x.s.take k).count x.t[j] : Nat))), (12, .h (I k))]) (fun _ => [])
        (fun k H' => H' = H3 ∧ k ≤ x.s.length) (fun k => x.s.length - k) 0 ?_ ⟨rfl, by omega⟩ ?_
      · (refine leM ?_ ?_ ?_ <;> (repeat refine leS trivial ?_) <;> exact leE)
      rintro k H4 ⟨rfl, hk2⟩
      repeat (refine gk lossU ?_)
      (refine ct lossU ?_ ?_ <;> intro h3)
      · have hk3 : k < x.s.length := by simpa using h3
        have u1 := count_take hk3 x.t[j]
        have u2 := count_le (S := x.s) k x.t[j]
        repeat (refine gk lossU ?_)
        (refine ct lossU ?_ ?_ <;> intro h4)
        · rw [if_pos h4] at u1
          repeat (refine gk lossU ?_)
          refine k_n (k + 1) (by omega) ⟨rfl, by omega⟩ ?_
          (refine leM ?_ ?_ ?_ <;> (repeat refine leS (And.intro lossU u1) ?_) <;> exact leE)
        · rw [if_neg (by simp [h4]), Int.add_zero] at u1
          repeat (refine gk lossU ?_)
          refine k_n (k + 1) (by omega) ⟨rfl, by omega⟩ ?_
          (refine leM ?_ ?_ ?_ <;> (repeat refine leS (And.intro lossU u1) ?_) <;> exact leE)
      · have hk3 : k = x.s.length := by have : ¬ k < x.s.length := by simpa using h3
                                        omega
        subst hk3
        rw [List.take_length, w1.once (List.getElem_mem hj')]
        repeat (refine gk lossU ?_)
        refine c_loop (Spec_SMono L) (fun (m : Nat) => [(2, .h (B false)), (3, .h (ptr b)), (4, .h (.sl t4 1 (x.s.map I))), (5, .h (.sl t5 1 (x.t.map I))), (10, .h (I j)), (11, .h (I 1)), (13, .h (I m))]) (fun _ => [])
          (fun m H' => H' = H4 ∧ m ≤ j) (fun m => j - m) 0 ?_ ⟨rfl, by omega⟩ ?_
        · (refine leM ?_ ?_ ?_ <;> (repeat refine leS trivial ?_) <;> exact leE)
        rintro m H5 ⟨rfl, hm⟩
        repeat (refine gk lossU ?_)
        (refine ct lossU ?_ ?_ <;> intro h4)
        · have hm' : m < j := by simpa using h4
          have ne : (x.t[m] == x.t[j]) = false := by
            have := (List.pairwise_iff_getElem.mp w1.ndt) m j (by omega) hj' hm'
            simpa using this
          repeat (refine gk (And.intro lossU ne) ?_)
          refine k_n (m + 1) (by omega) ⟨rfl, by omega⟩ ?_
          (refine leM ?_ ?_ ?_ <;> (repeat refine leS trivial ?_) <;> exact leE)
        · repeat (refine gk lossU ?_)
          refine k_n (j + 1) (by omega) ⟨rfl, by omega⟩ ?_
          (refine leM ?_ ?_ ?_ <;> (repeat refine leS trivial ?_) <;> exact leE)
    · have ha : ((x.l.opn.length : Int) == (x.s.length : Int) - (x.t.length : Int)) = true := by
        simp only [beq_iff_eq]; omega
      repeat (refine gk lossU ?_)
      (apply r_call; (focus rfl))
      refine len_spec L b x.l tk1 H3 q.la _ ?_
      repeat (refine gk (And.intro lossU ha) ?_)
      (apply r_call; (focus rfl))
      refine awake_spec L _ _ ?_
      repeat (refine gk lossU ?_)
      exact resK_sub (Weak.refl _) q.fr.sub hk
end Sm
