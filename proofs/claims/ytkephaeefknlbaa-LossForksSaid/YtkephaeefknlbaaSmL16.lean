/-
  A layer of one's own: text L16.
-/
import Derived.Test.YtkephaeefknlbaaSmL15
set_option linter.unusedVariables false
set_option linter.unusedSimpArgs false
namespace Sm
open Go

theorem chkG_le : ∀ (l : List Sp) (a : Int), chkG a l = true → ∀ x ∈ l, x.hi ≤ toS l
  | [], _, _, x, hx => by simp at hx
  | [s], a, h, x, hx => by
    simp only [List.mem_cons, List.not_mem_nil, or_false] at hx
    subst hx; simp [toS]
  | s :: t :: r, a, h, x, hx => by
    simp only [chkG, Bool.and_eq_true] at h
    have h2 : chkG s.hi (t :: r) = true := by simp only [chkG, Bool.and_eq_true]; exact h.2
    have h3 := chkG_le (t :: r) s.hi h2
    have e : toS (s :: t :: r) = toS (t :: r) := by simp [toS, List.getLast?_cons_cons]
    rw [e]
    rcases List.mem_cons.mp hx with rfl | hx
    · have h4 := h3 t (by simp)
      have h5 := mayS_iff.mp h.2.1.1
      have h6 := h.2.1.2
      simp only [Bool.not_eq_true', decide_eq_false_iff_not] at h6
      omega
    · exact h3 x hx
theorem chk_le {l : List Sp} (h : chk l = 0) : ∀ x ∈ l, x.hi ≤ toS l := by
  unfold chk at h
  split at h
  · cases h
  · split at h
    · cases h
    · rename_i h1 h2
      exact chkG_le l (-2) (by simpa using h2)
theorem smF_stay (to big now : Int) : ∀ (G : List Pk) (a : Int × Bool), (∀ p ∈ G, p.num ≠ to ∨ ¬ big < to) → G.foldl (smF to big now) a = a
  | [], a, _ => rfl
  | p :: G, a, h => by
    rw [List.foldl_cons]
    have : smF to big now a p = a := by
      rw [smF]
      rcases h p (by simp) with h1 | h1
      · rw [if_neg (by simp [h1])]
      · rw [if_neg (by simp [h1])]
    rw [this]
    exact smF_stay to big now G a fun q hq => h q (by simp [hq])
theorem smp_eq {G : List Pk} {to big now : Int} (hs : G.Pairwise fun p q => p.num < q.num) (hle : ∀ p ∈ G, p.num ≤ to) : smp G to big now = rsmp G to big now := by
  rcases List.eq_nil_or_concat G with rfl | ⟨G', q, rfl⟩
  · rfl
  · simp only [List.concat_eq_append] at hs hle ⊢
    rw [smp, rsmp, List.getLast?_concat]
    have hst : G'.foldl (smF to big now) (0, false) = (0, false) := by
      refine smF_stay to big now G' _ fun p hp => .inl ?_
      have h1 := (List.pairwise_append.mp hs).2.2 p hp q (by simp)
      have h2 := hle q (by simp)
      omega
    rw [List.foldl_append, hst]
    show (if (G' ++ [q]).any (·.asks) && (q.num == to) && decide (big < to) then (now - q.at', true) else (0, false)) = _
    rw [show [q].foldl (smF to big now) (0, false) = (if (q.num == to) && decide (big < to) then (now - q.at', true) else (0, false)) from rfl]
    generalize (G' ++ [q]).any (·.asks) = A
    cases A <;> cases (q.num == to) <;> cases decide (big < to) <;> rfl

/-- What holds of a ledger at all times. -/
structure WF (l : Led) : Prop where
  len : l.opn.length ≤ 1024
  pk : ∀ p ∈ l.opn, pok p
  la : 0 ≤ l.last.num ∧ l.last.num ≤ 1099511627776 ∧ 0 ≤ l.last.at' ∧ l.last.at' ≤ 1099511627776
  so : l.opn.Pairwise fun p q => p.num < q.num ∧ p.at' ≤ q.at'
  le : ∀ p ∈ l.opn, p.num ≤ l.last.num ∧ p.at' ≤ l.last.at'
  bg : -1 ≤ l.big ∧ l.big ≤ 1099511627776
  em : l.som = false → l.opn = []
theorem WF.new : WF newL := ⟨by simp [newL], by simp [newL], by simp [newL, zPk], by simp [newL], by simp [newL], by simp [newL], fun _ => rfl⟩
theorem WF.filter {l : Led} (h : WF l) (f : Pk → Bool) {b : Int} (hb : -1 ≤ b ∧ b ≤ 1099511627776) : WF { l with opn := l.opn.filter f, big := b } :=
  ⟨Nat.le_trans (List.length_filter_le _ _) h.len, fun p hp => h.pk p (List.mem_filter.mp hp).1, h.la, h.so.filter _, fun p hp => h.le p (List.mem_filter.mp hp).1, hb, fun e => by simp [h.em e]⟩
theorem WF.sent {l : Led} (h : WF l) (p : Pk) : WF (sentN l p) := by
  rw [sentN]
  split
  · rename_i e
    have e' := e
    rw [sentE] at e
    split at e
    · cases e
    · rename_i h1
      split at e
      · cases e
      · rename_i h2
        split at e
        · cases e
        · rename_i h3
          simp only [Bool.or_eq_true, Bool.not_eq_true', not_or, Bool.not_eq_false, decide_eq_true_eq, mayB, Bool.and_eq_true] at h1
          simp only [Bool.and_eq_true, Bool.or_eq_true, decide_eq_true_eq, not_and, not_or] at h2
          simp only [decide_eq_true_eq] at h3
          have hq : ∀ q ∈ l.opn, q.num < p.num ∧ q.at' ≤ p.at' := by
            intro q hq
            cases hsom : l.som
            · rw [h.em hsom] at hq; simp at hq
            · have := h2 hsom
              have := h.le q hq
              omega
          have hp : pok p := by unfold pok; omega
          refine ⟨by simp; omega, fun q hq => ?_, by simp only; omega, ?_, fun q hq' => ?_, h.bg, fun e => by cases e⟩
          · rcases List.mem_append.mp hq with hq | hq
            · exact h.pk q hq
            · simp at hq; subst hq; exact hp
          · rw [List.pairwise_append]
            refine ⟨h.so, by simp, fun a ha b hb => ?_⟩
            simp at hb; subst hb; exact hq a ha
          · rcases List.mem_append.mp hq' with hx | hx
            · have := hq q hx
              simp only; omega
            · simp at hx; subst hx; simp only; omega
  · exact h
theorem WF.lost {l : Led} (h : WF l) (now late : Int) : WF (lostN l now late) := by
  rw [lostN]
  split
  · exact h.filter _ h.bg
  · exact h
theorem WF.ack {l : Led} (h : WF l) (s : List Sp) (now : Int) : WF (ackL l s now) := by
  rw [ackL]
  split
  · rename_i e
    have hc : chk s = 0 := by
      rw [ackE] at e
      split at e
      · exact e
      · rename_i h1; simpa using h1
    obtain ⟨h1, h2, h3⟩ := chk0 hc
    have h4 := mayS_iff.mp (h3 _ (List.getElem_mem (show s.length - 1 < s.length by omega)))
    have h5 := toS_get h2
    exact h.filter _ (by have := h.bg; omega)
  · exact h
theorem WF.act {l : Led} (h : WF l) (a : Act) : WF (actL l a) := by
  rw [actL]
  split
  · exact h.ack _ _
  · split
    · exact h.lost _ _
    · exact h.sent _

/-- Both have the same. -/
def Rel (l : Led) (r : RL) : Prop := r.led = l ∧ 0 ≤ r.sends
theorem Rel.new : Rel newL newR := ⟨rfl, by decide⟩
theorem Rel.lost {l : Led} {r : RL} (h : Rel l r) (now late : Int) : lostL l now late = rlostL r now late ∧ Rel (lostN l now late) (rlostN r now late) := by
  obtain ⟨rfl, h2⟩ := h
  refine ⟨rfl, ?_⟩
  unfold lostN rlostN
  split
  · exact ⟨rfl, h2⟩
  · exact ⟨rfl, h2⟩
theorem Rel.sent {l : Led} {r : RL} (h : Rel l r) (p : Pk) : sentE l p = sentE r.led p ∧ Rel (sentN l p) (rsentN r p) := by
  obtain ⟨rfl, h2⟩ := h
  refine ⟨rfl, ?_⟩
  unfold sentN rsentN
  split
  · refine ⟨?_, by simp only; omega⟩
    simp only [RL.led, Led.mk.injEq, and_true, true_and]
    exact decide_eq_true (by omega)
  · exact ⟨rfl, h2⟩
theorem Rel.ack {l : Led} {r : RL} (hw : WF l) (h : Rel l r) (s : List Sp) (now : Int) : ackR l s now = rackR r s now ∧ Rel (ackL l s now) (rackL r s now) := by
  obtain ⟨rfl, h2⟩ := h
  unfold ackR rackR ackL rackL
  split
  · rename_i e
    have hc : chk s = 0 := by
      rw [ackE] at e
      split at e
      · exact e
      · rename_i h1; simpa using h1
    have hle := chk_le hc
    have hm : ackS r.led s now = rsmp (ackG r.led s) (toS s) r.big now := by
      rw [ackS]
      refine smp_eq ?_ ?_
      · exact (hw.so.imp fun h => h.1).filter _
      · intro p hp
        have := (List.mem_filter.mp hp).2
        obtain ⟨x, hx, hi⟩ := List.any_eq_true.mp this
        simp only [inS, Bool.and_eq_true, decide_eq_true_eq] at hi
        have := hle x hx
        omega
    rw [hm]
    exact ⟨rfl, rfl, h2⟩
  · exact ⟨rfl, rfl, h2⟩
theorem Rel.act {l : Led} {r : RL} (hw : WF l) (h : Rel l r) (a : Act) : Rel (actL l a) (actR r a) := by
  unfold actL actR
  split
  · exact (h.ack hw _ _).2
  · split
    · exact (h.lost _ _).2
    · exact (h.sent _).2
theorem sends_act (r : RL) (a : Act) : (actR r a).sends ≤ r.sends + 1 := by
  unfold actR rackL rlostN rsentN
  split <;> split <;> (try split) <;> first | omega | (simp only; omega)
/-- The first below the largest is lost first. -/
theorem next_eq {l : Led} {r : RL} (hw : WF l) (h : Rel l r) (late : Int) : nextR l late = rnextR r late := by
  obtain ⟨rfl, h2⟩ := h
  unfold nextR rnextR
  split
  · have key : ∀ (G : List Pk), (G.Pairwise fun p q => p.num < q.num ∧ p.at' ≤ q.at') → (match G.find? (fun p => decide (p.num < r.big)) with
        | some p => (p.at' + late, true)
        | none => (0, false)) = G.foldl (nxF r.big late) (0, false) := by
      have stay : ∀ (G : List Pk) (t : Int), (∀ p ∈ G, t ≤ p.at') → G.foldl (nxF r.big late) (t + late, true) = (t + late, true) := by
        intro G
        induction G with
        | nil => intros; rfl
        | cons p G ih =>
          intro t ht
          rw [List.foldl_cons]
          have h1 := ht p (by simp)
          have : nxF r.big late (t + late, true) p = (t + late, true) := by
            rw [nxF, if_neg]
            simp only [Bool.not_true, Bool.false_or, Bool.and_eq_true, decide_eq_true_eq, not_and]
            omega
          rw [this]
          exact ih t fun q hq => ht q (by simp [hq])
      intro G
      induction G with
      | nil => intro _; rfl
      | cons p G ih =>
        intro hG
        rw [List.pairwise_cons] at hG
        rw [List.foldl_cons, List.find?_cons]
        cases d : decide (p.num < r.big)
        · have : nxF r.big late (0, false) p = (0, false) := by rw [nxF, d]; rfl
          rw [this]
          exact ih hG.2
        · have : nxF r.big late (0, false) p = (p.at' + late, true) := by rw [nxF, d]; rfl
          rw [this]
          exact (stay G p.at' fun q hq => (hG.1 q hq).2).symm
    exact key r.opn hw.so
  · rfl
end Sm
