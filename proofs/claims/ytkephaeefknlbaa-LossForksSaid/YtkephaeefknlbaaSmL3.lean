/-
  A layer of one's own: text L3.
-/
import Derived.Test.YtkephaeefknlbaaSmL2
set_option linter.unusedVariables false
set_option linter.unusedSimpArgs false
set_option maxRecDepth 10000
set_option maxHeartbeats 1000000
namespace Sm
open Go
-- BASE lossU
attribute [local irreducible] csem rsem dsem seqK blockK normK finK DK RK BR G3 resK Spec Tok Fr

theorem idxS_spec (L : Linked code) (g : Nat) (caps : List HV) (f : Sp → Bool) (tk : Tk) (l : List Sp) (hl : l.length ≤ 1048576) (H : Heap) (hf : ∀ p K, K (B (f p)) H → Spec L.P L.ν g (encS p :: caps) H K) (K) (hk : K (I (firstIdx f l)) H) :
    Spec L.P L.ν 142 [.sl tk 2 (l.map encS), .fn g caps] H K := by
  refine go_spec L code142 rfl ?_
  repeat (refine gk lossU ?_)
  refine c_loop (Spec_SMono L) (fun (i : Nat) => [(0, .h (.sl tk 2 (l.map encS))), (1, .h (.fn g caps)), (7, .h (I l.length)), (8, .h (I i))]) (fun _ => [])
    (fun i H' => H' = H ∧ ∃ h : i ≤ l.length, ∀ j (hj : j < i), f (l[j]'(by omega)) = false) (fun i => l.length - i) 0 ?_ ⟨rfl, by omega, fun j hj => by omega⟩ ?_
  · (refine leM ?_ ?_ ?_ <;> (repeat refine leS trivial ?_) <;> exact leE)
  rintro i H' ⟨rfl, hi, hb⟩
  repeat (refine gk lossU ?_)
  (refine ct lossU ?_ ?_ <;> intro h)
  · have hi' : i < l.length := by simpa using h
    repeat (refine gk lossU ?_)
    apply r_callv; (focus rfl); (focus rfl)
    refine hf l[i] _ ?_
    repeat (refine gk lossU ?_)
    (refine ct lossU ?_ ?_ <;> intro h2)
    · repeat (refine gk lossU ?_)
      refine resK_some ?_
      rw [firstIdx_some hi' h2 hb] at hk
      exact hk
    · repeat (refine gk lossU ?_)
      refine k_n (i + 1) (by omega) ⟨rfl, by omega, fun j hj => ?_⟩ ?_
      · rcases Nat.lt_or_ge j i with h3 | h3
        · exact hb j h3
        · have : j = i := by omega
          subst this; exact h2
      · (refine leM ?_ ?_ ?_ <;> (repeat refine leS trivial ?_) <;> exact leE)
  · have hi' : i = l.length := by have : ¬ i < l.length := by simpa using h
                                  omega
    subst hi'
    repeat (refine gk lossU ?_)
    refine resK_some ?_
    rw [firstIdx_none hb] at hk
    exact hk
theorem firstIdx_ge {α : Type} (f : α → Bool) (l : List α) : decide (firstIdx f l ≥ 0) = l.any f := by
  rw [firstIdx]
  split
  · rename_i h; rw [h]; simp
  · rename_i h; rw [Bool.not_eq_true] at h; rw [h]; rfl
theorem hasP_spec (L : Linked code) (g : Nat) (caps : List HV) (f : Pk → Bool) (tk : Tk) (l : List Pk) (hl : l.length ≤ 1048576) (H : Heap) (hf : ∀ p K, K (B (f p)) H → Spec L.P L.ν g (enc p :: caps) H K) (K) (hk : K (B (l.any f)) H) :
    Spec L.P L.ν 127 [.sl tk 4 (l.map enc), .fn g caps] H K := by
  refine go_spec L code127 rfl ?_
  repeat (refine gk lossU ?_)
  apply r_call; (focus rfl)
  refine idxP_spec L g caps f tk l hl H hf _ ?_
  repeat (refine gk lossU ?_)
  refine resK_some ?_
  rw [← firstIdx_ge] at hk
  exact hk
theorem hasS_spec (L : Linked code) (g : Nat) (caps : List HV) (f : Sp → Bool) (tk : Tk) (l : List Sp) (hl : l.length ≤ 1048576) (H : Heap) (hf : ∀ p K, K (B (f p)) H → Spec L.P L.ν g (encS p :: caps) H K) (K) (hk : K (B (l.any f)) H) :
    Spec L.P L.ν 141 [.sl tk 2 (l.map encS), .fn g caps] H K := by
  refine go_spec L code141 rfl ?_
  repeat (refine gk lossU ?_)
  apply r_call; (focus rfl)
  refine idxS_spec L g caps f tk l hl H hf _ ?_
  repeat (refine gk lossU ?_)
  refine resK_some ?_
  rw [← firstIdx_ge] at hk
  exact hk
theorem in_spec (L : Linked code) (tk : Tk) (l : List Sp) (n : Int) (hl : l.length ≤ 1048576) : Pure L 138 [.sl tk 2 (l.map encS), I n] (B (l.any fun s => inS s n)) := by
  intro H K hk
  refine go_spec L code138 rfl ?_
  repeat (refine gk lossU ?_)
  apply r_boxH; (focus rfl); (focus rfl); (focus rfl); (focus rfl)
  intro c hc
  repeat (refine gk lossU ?_)
  apply r_call; (focus rfl)
  refine hasS_spec L 140 [ptr c] (fun s => inS s n) tk l hl _ (fun s K hK => inS_spec L s c n _ (Heap.upd_same _ _ _) K hK) _ ?_
  repeat (refine gk lossU ?_)
  exact resK_sub (Weak.refl _) (Heap.sub_new hc) hk
theorem isin_spec (L : Linked code) (tk : Tk) (l : List Sp) (p : Pk) (c : Nat) (H : Heap) (hH : H c = some (.obj [.sl tk 2 (l.map encS)])) (hl : l.length ≤ 1048576) (K) (hk : K (B (l.any fun s => inS s p.num)) H) : Spec L.P L.ν 126 [enc p, ptr c] H K := by
  refine go_spec L code126 rfl ?_
  repeat (refine gk lossU ?_)
  apply r_call; (focus rfl)
  refine in_spec L tk l p.num hl _ _ ?_
  repeat (refine gk lossU ?_)
  exact resK_some hk

theorem fil_t {α : Type} {l : List α} {i : Nat} (h : i < l.length) {f : α → Bool} (hf : f l[i] = true) : (l.take (i + 1)).filter f = (l.take i).filter f ++ [l[i]] := by
  rw [List.take_succ_eq_append_getElem h, List.filter_append, List.filter_cons, if_pos hf, List.filter_nil]
theorem fil_f {α : Type} {l : List α} {i : Nat} (h : i < l.length) {f : α → Bool} (hf : f l[i] = false) : (l.take (i + 1)).filter f = (l.take i).filter f := by
  rw [List.take_succ_eq_append_getElem h, List.filter_append, List.filter_cons, if_neg (by simp [hf]), List.filter_nil, List.append_nil]
theorem take_spec (L : Linked code) (b g : Nat) (caps : List HV) (f : Pk → Bool) (l : Led) (tk : Tk) (H : Heap) (hl : LedAt H b l tk) (hlen : l.opn.length ≤ 1048576)
    (hf : ∀ p H' K, Fr [] H H' → K (B (f p)) H' → Spec L.P L.ν g (enc p :: caps) H' K) (K)
    (hk : ∀ H' tk', LUp b H H' tk tk' → LedAt H' b { l with opn := l.opn.filter fun p => !f p } tk' → K (.sl .no 4 ((l.opn.filter f).map enc)) H') :
    Spec L.P L.ν 122 [ptr b, .fn g caps] H K := by
  obtain ⟨h1, h2⟩ := hl
  refine go_spec L code122 rfl ?_
  repeat (refine gk lossU ?_)
  refine c_loop (Spec_SMono L) (fun (x : Nat × Tk × Tk) => [(0, .h (ptr b)), (1, .h (.fn g caps)), (5, .h (.sl x.2.1 4 (((l.opn.take x.1).filter f).map enc))), (6, .h (.sl x.2.2 4 (((l.opn.take x.1).filter fun p => !f p).map enc))), (12, .h (.sl tk 4 (l.opn.map enc))), (13, .h (I l.opn.length)), (14, .h (I x.1))]) (fun _ => [])
    (fun x H' => x.1 ≤ l.opn.length ∧ Fr [] H H' ∧ Tok H' x.2.1 ((l.opn.take x.1).filter f).length 4 ∧ Tok H' x.2.2 ((l.opn.take x.1).filter fun p => !f p).length 4 ∧ Fresh H x.2.1 ∧ Fresh H x.2.2 ∧ Apart x.2.1 x.2.2) (fun x => l.opn.length - x.1) (0, .full, .full) ?_ ⟨by omega, Fr.refl _ _, by unfold Tok; trivial, by unfold Tok; trivial, by simp [Fresh, tb], by simp [Fresh, tb], by simp [Apart, tb]⟩ ?_
  · (refine leM ?_ ?_ ?_ <;> (repeat refine leS trivial ?_) <;> exact leE)
  rintro ⟨i, t1, t2⟩ H' ⟨hi, hfr, ht1, ht2, hn1, hn2, ha⟩
  simp only at hi ht1 ht2 hn1 hn2 ha
  repeat (refine gk lossU ?_)
  (refine ct lossU ?_ ?_ <;> intro h)
  · have hi' : i < l.opn.length := by simpa using h
    repeat (refine gk lossU ?_)
    apply r_callv; (focus rfl); (focus rfl)
    refine hf l.opn[i] _ _ hfr ?_
    repeat (refine gk lossU ?_)
    have hb1 : ((l.opn.take i).filter f).length ≤ 1048576 := Nat.le_trans (List.length_filter_le _ _) (by simp; omega)
    have hb2 : ((l.opn.take i).filter fun p => !f p).length ≤ 1048576 := Nat.le_trans (List.length_filter_le _ _) (by simp; omega)
    (refine ct lossU ?_ ?_ <;> intro h2)
    · have e1 : ((l.opn.take (i + 1)).filter f).map enc = ((l.opn.take i).filter f).map enc ++ [enc l.opn[i]] := by rw [fil_t hi' h2]; simp
      have e2 : ((l.opn.take (i + 1)).filter fun p => !f p).map enc = ((l.opn.take i).filter fun p => !f p).map enc := by rw [fil_f hi' (f := fun p => !f p) (by simp [h2])]
      have e3 : ((l.opn.take (i + 1)).filter f).length = ((l.opn.take i).filter f).length + 1 := by rw [fil_t hi' h2]; simp
      have e4 : ((l.opn.take (i + 1)).filter fun p => !f p).length = ((l.opn.take i).filter fun p => !f p).length := by rw [fil_f hi' (f := fun p => !f p) (by simp [h2])]
      repeat (refine gk lossU ?_)
      apply r_app; (focus rfl); (focus rfl); (focus (simpa using ht1)); (focus (simp; omega))
      intro t1' H2 k1 k2
      repeat (refine gk lossU ?_)
      refine k_n (i + 1, t1', t2) (by simp only; omega) ⟨by simp only; omega, hfr.apd hn1 k2, by rw [e3]; simpa using k1, by rw [e4]; exact ht2.apd ha.symm k2, hn1.apd hfr k2, hn2, (ht2.held_apart ha.symm k2).symm⟩ ?_
      (refine leM ?_ ?_ ?_ <;> (repeat refine leS (And.intro lossU (And.intro e1 (And.intro e2 enc.eq_1))) ?_) <;> exact leE)
    · have e1 : ((l.opn.take (i + 1)).filter fun p => !f p).map enc = ((l.opn.take i).filter fun p => !f p).map enc ++ [enc l.opn[i]] := by rw [fil_t hi' (f := fun p => !f p) (by simp [h2])]; simp
      have e2 : ((l.opn.take (i + 1)).filter f).map enc = ((l.opn.take i).filter f).map enc := by rw [fil_f hi' h2]
      have e3 : ((l.opn.take (i + 1)).filter fun p => !f p).length = ((l.opn.take i).filter fun p => !f p).length + 1 := by rw [fil_t hi' (f := fun p => !f p) (by simp [h2])]; simp
      have e4 : ((l.opn.take (i + 1)).filter f).length = ((l.opn.take i).filter f).length := by rw [fil_f hi' h2]
      repeat (refine gk lossU ?_)
      apply r_app; (focus rfl); (focus rfl); (focus (simpa using ht2)); (focus (simp; omega))
      intro t2' H2 k1 k2
      repeat (refine gk lossU ?_)
      refine k_n (i + 1, t1, t2') (by simp only; omega) ⟨by simp only; omega, hfr.apd hn2 k2, by rw [e4]; exact ht1.apd ha k2, by rw [e3]; simpa using k1, hn1, hn2.apd hfr k2, ht1.held_apart ha k2⟩ ?_
      (refine leM ?_ ?_ ?_ <;> (repeat refine leS (And.intro lossU (And.intro e1 (And.intro e2 enc.eq_1))) ?_) <;> exact leE)
  · have hi' : i = l.opn.length := by have : ¬ i < l.opn.length := by simpa using h
                                      omega
    subst hi'
    rw [List.take_length] at ht1 ht2
    simp only [List.take_length]
    have hb : H' b = some (.obj (l.cells tk)) := hfr.get (by simp) h1
    repeat (refine gk lossU ?_)
    refine sxk lossU ?_
    intro X x1 x2
    repeat (refine gk lossU ?_)
    refine resK_weak (Weak.drop _ _ _) ?_
    try rw [List.take_length]
    refine hk _ t2 ⟨?_, fun a ha => .inr (hn2 a ha)⟩ ⟨x1, ht2.fr' x2 (fun a ha => by simpa using ht2.ne' hb a ha)⟩
    exact (hfr.mono (by simp)).trans (x2.mono (by simp))
end Sm
