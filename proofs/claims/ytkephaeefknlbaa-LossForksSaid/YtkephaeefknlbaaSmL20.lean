/-
  A layer of one's own: text L20.
-/
import Derived.Test.YtkephaeefknlbaaSmL17
set_option linter.unusedVariables false
set_option linter.unusedSimpArgs false
set_option maxRecDepth 10000
set_option maxHeartbeats 2000000
namespace Sm
open Go
-- BASE lossU
attribute [local irreducible] csem rsem dsem seqK blockK normK finK DK RK BR G3 resK Spec Tok Fr

def outL (l : Led) (a : Act) : List Pk := if a.kind.tmod 5 == 3 then (ackR l a.spans a.now).1 else if a.kind.tmod 5 == 4 then lostL l a.now a.late else []
def sntL (l : Led) (a : Act) : List Int := if a.kind.tmod 5 == 3 then [] else if a.kind.tmod 5 == 4 then [] else if sentE l a.p = 0 then [a.p.num] else []
structure O3 where
  l : Led
  s : List Int
  t : List Int
def O3.act (x : O3) (a : Act) : O3 := ⟨actL x.l a, x.s ++ sntL x.l a, x.t ++ (outL x.l a).map (·.num)⟩
def on3 (l : List Act) (i : Nat) : O3 := (l.take i).foldl O3.act ⟨newL, [], []⟩
theorem on3_succ {l : List Act} {i : Nat} (h : i < l.length) : on3 l (i + 1) = (on3 l i).act l[i] := fold_take h _

/-- Each number that was sent is told once, or is open. -/
structure On (x : O3) : Prop where
  wf : WF x.l
  pm : x.s.Perm (x.t ++ x.l.opn.map (·.num))
  so : x.s.Pairwise (· < ·)
  le : ∀ n ∈ x.s, n ≤ x.l.last.num
  em : x.l.som = false → x.s = []
theorem fil_perm (f : Pk → Bool) : ∀ (l : List Pk), (l.filter f ++ l.filter fun p => !f p).Perm l
  | [] => by simp
  | a :: l => by
    have ih := fil_perm f l
    cases h : f a
    · rw [List.filter_cons_of_neg (by simp [h]), List.filter_cons_of_pos (by simp [h])]
      exact List.perm_middle.trans (ih.cons a)
    · rw [List.filter_cons_of_pos h, List.filter_cons_of_neg (by simp [h]), List.cons_append]
      exact ih.cons a
theorem On.take {x : O3} (h : On x) (f : Pk → Bool) (l' : Led) (hw : WF l') (ho : l'.opn = x.l.opn.filter fun p => !f p) (hl : l'.last = x.l.last) (hs : l'.som = x.l.som) : On ⟨l', x.s ++ [], x.t ++ (x.l.opn.filter f).map (·.num)⟩ := by
  refine ⟨hw, ?_, by simpa using h.so, by simpa [hl] using h.le, fun e => by simpa using h.em (by rw [← hs]; exact e)⟩
  simp only [List.append_nil, ho]
  rw [List.append_assoc, ← List.map_append]
  exact h.pm.trans (List.Perm.append_left _ ((fil_perm f x.l.opn).symm.map _))
theorem On.stay {x : O3} (h : On x) : On ⟨x.l, x.s ++ [], x.t ++ (([] : List Pk).map (·.num))⟩ := by simpa using h
theorem On.act {x : O3} (h : On x) (a : Act) : On (x.act a) := by
  have hw := h.wf.act a
  unfold O3.act outL sntL
  unfold actL at hw ⊢
  split
  · rename_i c
    rw [if_pos c] at hw
    unfold ackL at hw ⊢
    unfold ackR
    split
    · rename_i e
      rw [if_pos e] at hw
      exact h.take _ _ hw rfl rfl rfl
    · exact h.stay
  · rename_i c
    rw [if_neg c] at hw
    split
    · rename_i c'
      rw [if_pos c'] at hw
      unfold lostN at hw ⊢
      unfold lostL
      split
      · rename_i e
        rw [if_pos e] at hw
        exact h.take _ _ hw rfl rfl rfl
      · exact h.stay
    · rename_i c'
      rw [if_neg c'] at hw
      unfold sentN at hw ⊢
      split
      · rename_i e
        rw [if_pos e] at hw
        have hn : ∀ n ∈ x.s, n < a.p.num := by
          intro n hn
          have h1 := h.le n hn
          cases hsom : x.l.som
          · rw [h.em hsom] at hn; simp at hn
          · have e' := e
            rw [sentE] at e'
            split at e'
            · cases e'
            · split at e'
              · cases e'
              · rename_i h2
                simp only [hsom, Bool.true_and, Bool.or_eq_true, decide_eq_true_eq, not_or] at h2
                omega
        refine ⟨hw, ?_, ?_, ?_, fun e => by cases e⟩
        · simp only [List.map_nil, List.append_nil, List.map_append, List.map_cons, ← List.append_assoc]
          exact h.pm.append_right _
        · rw [List.pairwise_append]
          exact ⟨h.so, by simp, fun u hu v hv => by simp at hv; subst hv; exact hn u hu⟩
        · intro n hn'
          rcases List.mem_append.mp hn' with hx | hx
          · have := hn n hx; simp only; omega
          · simp at hx; subst hx; simp
      · exact h.stay
theorem on3_ok (l : List Act) : ∀ i, i ≤ l.length → On (on3 l i) ∧ (on3 l i).s.length ≤ i
  | 0, _ => ⟨⟨WF.new, by simp [on3, newL], by simp [on3], by simp [on3], fun _ => rfl⟩, by simp [on3]⟩
  | i + 1, h => by
    obtain ⟨h1, h2⟩ := on3_ok l i (by omega)
    rw [on3_succ (by omega)]
    refine ⟨h1.act _, ?_⟩
    have : (sntL (on3 l i).l l[i]).length ≤ 1 := by
      unfold sntL
      split
      · simp
      · split
        · simp
        · split <;> simp
    simp only [O3.act, List.length_append]
    omega
theorem On.len {x : O3} (h : On x) : x.s.length = x.t.length + x.l.opn.length := by
  have := h.pm.length_eq
  simpa using this
theorem On.nd {x : O3} (h : On x) : x.s.Nodup := h.so.imp fun {a b} h => by omega
theorem On.ndt {x : O3} (h : On x) : x.t.Nodup := (List.nodup_append.mp (h.pm.nodup_iff.mp h.nd)).1
theorem On.once {x : O3} (h : On x) {n : Int} (hn : n ∈ x.t) : x.s.count n = 1 := by
  have h1 : n ∈ x.s := h.pm.mem_iff.mpr (List.mem_append_left _ hn)
  have h2 := List.nodup_iff_count.mp h.nd n
  have h3 := List.count_pos_iff.mpr h1
  omega
end Sm
