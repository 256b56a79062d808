/-
  A layer of one's own: texts G1.
-/
import Derived.Test.YtpfccegjkhaidaaGreatDoorSmLF
import Derived.Deep.Slices
import Derived.ChangeSame
import Derived.Carry
set_option linter.unusedVariables false
namespace Sm
open Go

/-- The blocks' sizes. -/
def sizes' (w : World) (b : Nat) : Nat := match w.heap[b]? with
  | some (.cells c _ _) => c.size
  | _ => 0
theorem cell_lt {w : World} {b j : Nat} {x : Value} (h : w.cell? ⟨b, j, none⟩ = some x) : j < sizes' w b := by
  simp only [World.cell?] at h
  simp only [sizes']
  split at h
  · rename_i c t fr e
    rw [e]
    simp only [Option.isSome_none, Bool.false_eq_true, if_false] at h
    rcases Nat.lt_or_ge j c.size with h' | h'
    · exact h'
    · rw [Array.getElem?_eq_none h'] at h; cases h
  · cases h
/-- Rows of equal length, one behind the other. -/
theorem rows_get {α : Type} {sz : Nat} {C : Nat → List α} (hz : 0 < sz) : ∀ (n : Nat), (∀ i < n, (C i).length = sz) → ∀ j x, ((List.range n).flatMap C)[j]? = some x → ∃ i r, i < n ∧ r < sz ∧ j = i * sz + r ∧ (C i)[r]? = some x
  | 0, _, j, x, h => by simp at h
  | n + 1, hl, j, x, h => by
    rw [List.range_succ, List.flatMap_append] at h
    have hlen : ((List.range n).flatMap C).length = n * sz := by
      clear h
      induction n with
      | zero => simp
      | succ n ih =>
        rw [List.range_succ, List.flatMap_append, List.length_append, ih fun i hi => hl i (by omega)]
        simp [hl n (by omega), Nat.succ_mul]
    rcases Nat.lt_or_ge j (n * sz) with hj | hj
    · rw [List.getElem?_append_left (by omega)] at h
      obtain ⟨i, r, h1, h2, h3, h4⟩ := rows_get hz n (fun i hi => hl i (by omega)) j x h
      exact ⟨i, r, by omega, h2, h3, h4⟩
    · rw [List.getElem?_append_right (by omega), hlen] at h
      simp only [List.flatMap_cons, List.flatMap_nil, List.append_nil] at h
      have hr : j - n * sz < (C n).length := by
        rcases Nat.lt_or_ge (j - n * sz) (C n).length with h' | h'
        · exact h'
        · rw [List.getElem?_eq_none h'] at h; cases h
      rw [hl n (by omega)] at hr
      exact ⟨n, j - n * sz, by omega, hr, by omega, h⟩

theorem repL_map {α : Type} {ν : Nat → Option Nat} {K : Nat → Nat} {w : World} (g : α → HV) (v : α → Value) : ∀ (l : List α), (∀ a ∈ l, rep ν K w (g a) (v a)) → repL ν K w (l.map g) (l.map v)
  | [], _ => by simp [repL]
  | a :: l, h => by
    simp only [List.map_cons, repL]
    exact ⟨v a, l.map v, rfl, h a (by simp), repL_map g v l fun b hb => h b (by simp [hb])⟩
/-- A slice of structs, opened. -/
theorem open_sl {H : Type} {enc : TypeId × Value → H} {P : Program} {w : World} {base : Nat} {spare : Nat → Bool} {held : Bool} {α : Type} [Inhabited α] {ν : Nat → Option Nat} (f : α → List HV) (sz : Nat) (hz : 0 < sz)
    {t e : TypeId} {fuel : Nat} {cs : List Value} {x : DataW H × List MemPlace} (ht : P.underlying t = some (.slice e)) (hc : P.cellsOf e = sz)
    (he : ∀ n cs' y, DataW.trod enc P w base spare held n e cs' = some y → ∃ a : α, repL ν (sizes' w) w (f a) cs' ∧ (f a).all HV.one = true ∧ (f a).length = sz)
    (h : DataW.trod enc P w base spare held fuel t cs = some x) : ∃ l : List α, repL ν (sizes' w) w [.sl .no sz (l.map fun a => .ag (f a))] cs := by
  rcases Deep.open_slice ht h with ⟨rfl, _⟩ | ⟨a, len, cap, m, n, D, Pl, rfl, hb, hl, hm, hmm, rfl, hx⟩
  · refine ⟨[], ?_⟩
    simp only [repL, rep, List.map_nil]
    exact ⟨_, [], rfl, ⟨none, 0, [], rfl, by simp, by simp, trivial, rfl, by simp, rfl, .inl trivial⟩, rfl⟩
  · have hlm : len ≤ m := by rw [hmm]; split <;> omega
    have each : ∀ i, ∃ q : α × List Value, i < len → w.cells? base (a.add (i * P.cellsOf e)) (P.cellsOf e) = some q.2 ∧ repL ν (sizes' w) w (f q.1) q.2 ∧ (f q.1).all HV.one = true ∧ (f q.1).length = sz := by
      intro i
      by_cases hi : i < len
      · obtain ⟨cs', h1, h2⟩ := hx i (by omega)
        obtain ⟨y, g1, g2, g3⟩ := he n cs' _ h2
        exact ⟨(y, cs'), fun _ => ⟨h1, g1, g2, g3⟩⟩
      · exact ⟨(default, []), fun h => absurd h hi⟩
    obtain ⟨q, hq⟩ := Classical.axiomOfChoice each
    have hcl : ∀ i < len, (q i).2.length = sz := fun i hi => by
      obtain ⟨_, h1, _⟩ := World.cells?_some (hq i hi).1
      rw [h1, hc]
    refine ⟨(List.range len).map fun i => (q i).1, ?_⟩
    simp only [repL, rep]
    refine ⟨_, [], rfl, ⟨some a, cap, (List.range len).map fun i => .agg (q i).2.toArray, by simp, by simpa using hl, hm, trivial, ?_, ?_, ?_, ?_⟩, rfl⟩
    · rw [List.all_eq_true]
      intro y hy
      simp only [List.map_map, List.mem_map, List.mem_range, Function.comp] at hy
      obtain ⟨i, hi, rfl⟩ := hy
      exact (hq i hi).2.2.1
    · intro y hy
      simp only [List.map_map, List.mem_map, List.mem_range, Function.comp] at hy
      obtain ⟨i, hi, rfl⟩ := hy
      exact (hq i hi).2.2.2
    · rw [List.map_map]
      refine repL_map _ _ _ fun i hi => ?_
      have hi := List.mem_range.mp hi
      simp only [Function.comp, rep]
      exact ⟨(q i).2, rfl, (hq i hi).2.2.1, (hq i hi).2.1⟩
    · rcases Nat.eq_zero_or_pos len with h0 | h0
      · left; subst h0; rfl
      · right
        have hfl : flat ((List.range len).map fun i => Value.agg (q i).2.toArray) = (List.range len).flatMap fun i => (q i).2 := by
          simp [flat, List.flatMap_map, Value.cells]
        have hcell : ∀ i r, i < len → r < sz → w.cell? ((a.add (i * sz)).add r) = (q i).2[r]? := fun i r hi hr => by
          obtain ⟨_, _, h3⟩ := World.cells?_some (hq i hi).1
          have := h3 r (by rw [hc]; exact hr)
          rwa [hc] at this
        have hsome : ∀ i r, i < len → r < sz → ∃ v, (q i).2[r]? = some v := fun i r hi hr => ⟨_, List.getElem?_eq_getElem (by rw [hcl i hi]; exact hr)⟩
        obtain ⟨b, off, sp⟩ := a
        have hsp : sp = none := by
          obtain ⟨v, hv⟩ := hsome 0 0 h0 hz
          have h1 := hcell 0 0 h0 hz
          rw [hv] at h1
          simp only [Nat.zero_mul, Addr.add, if_true, World.cell?] at h1
          cases sp with
          | none => rfl
          | some k =>
            simp only [Option.isSome_some, if_true] at h1
            split at h1 <;> cases h1
        subst hsp
        have hadd : ∀ k, (⟨b, off, none⟩ : Addr).add k = ⟨b, off + k, none⟩ := fun k => by
          rw [Addr.add]; split
          · rename_i hk; subst hk; rfl
          · rfl
        have hadd2 : ∀ (o k : Nat), (⟨b, o, none⟩ : Addr).add k = ⟨b, o + k, none⟩ := fun o k => by
          rw [Addr.add]; split
          · rename_i hk; subst hk; rfl
          · rfl
        refine ⟨b, off, rfl, ?_, ?_⟩
        · obtain ⟨v, hv⟩ := hsome (len - 1) (sz - 1) (by omega) (by omega)
          have h1 := hcell (len - 1) (sz - 1) (by omega) (by omega)
          rw [hv, hadd, hadd2] at h1
          have h2 := cell_lt h1
          have h3 : (len - 1) * sz + sz = len * sz := by
            obtain ⟨k, rfl⟩ : ∃ k, len = k + 1 := ⟨len - 1, by omega⟩
            rw [Nat.add_sub_cancel, Nat.succ_mul]
          simp only [List.length_map, List.length_range]
          omega
        · intro j y hj
          rw [hfl] at hj
          obtain ⟨i, r, h1, h2, h3, h4⟩ := rows_get hz len hcl j y hj
          have h5 := hcell i r h1 h2
          rw [hadd, hadd2, h4] at h5
          rw [h3, ← Nat.add_assoc]; exact h5
end Sm
