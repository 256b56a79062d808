/-
  A layer of one's own: text E.
-/
import Derived.Test.YtkephaeefknlbaaSmD
set_option linter.unusedVariables false
set_option linter.unusedSimpArgs false
set_option linter.unnecessarySimpa false
namespace Sm
open Go

theorem repL_get {ν K w} : ∀ {hs : List HV} {us : List Value}, repL ν K w hs us → ∀ {i : Nat} {h : HV}, hs[i]? = some h → ∃ u, us[i]? = some u ∧ rep ν K w h u
  | [], us, _, i, h, hi => by simp at hi
  | g :: hs, us, hr, i, h, hi => by
    obtain ⟨u, us', rfl, h1, h2⟩ := hr
    cases i with
    | zero => simp at hi; subst hi; exact ⟨u, rfl, h1⟩
    | succ i => simpa using repL_get h2 (by simpa using hi)
theorem repL_drop {ν K w} : ∀ (n : Nat) {hs : List HV} {us : List Value}, repL ν K w hs us → repL ν K w (hs.drop n) (us.drop n)
  | 0, _, _, h => h
  | n + 1, [], us, h => by simp [repL] at h; subst h; simp [repL]
  | n + 1, g :: hs, us, hr => by
    obtain ⟨u, us', rfl, h1, h2⟩ := hr
    simpa using repL_drop n h2
theorem repL_take {ν K w} : ∀ (n : Nat) {hs : List HV} {us : List Value}, repL ν K w hs us → repL ν K w (hs.take n) (us.take n)
  | 0, _, _, h => by simp [repL]
  | n + 1, [], us, h => by simp [repL] at h; subst h; simp [repL]
  | n + 1, g :: hs, us, hr => by
    obtain ⟨u, us', rfl, h1, h2⟩ := hr
    exact ⟨u, us'.take n, by simp, h1, repL_take n h2⟩
theorem repL_append {ν K w} : ∀ {hs hs' : List HV} {us us' : List Value}, repL ν K w hs us → repL ν K w hs' us' → repL ν K w (hs ++ hs') (us ++ us')
  | [], _, us, us', h, h' => by simp [repL] at h; subst h; simpa using h'
  | g :: hs, _, us, us', hr, h' => by
    obtain ⟨u, us1, rfl, h1, h2⟩ := hr
    exact ⟨u, us1 ++ us', by simp, h1, repL_append h2 h'⟩

theorem rep_cells {ν K w h u} (he : h.el = true) (hr : rep ν K w h u) : repL ν K w h.cells u.cells.toList ∧ h.cells.all HV.one = true := by
  cases h with
  | ag cs => simp only [rep] at hr; obtain ⟨us, rfl, h1, h2⟩ := hr; exact ⟨by simpa [HV.cells, Value.cells] using h2, h1⟩
  | tu vs => simp [HV.el, HV.one] at he
  | v x =>
    simp only [rep] at hr; subst hr
    have hx : u.oneCell' = true := he
    have : u.cells = #[u] := by cases u <;> simp_all [Value.oneCell', Value.cells]
    exact ⟨by rw [this]; simp [HV.cells, repL, rep], by simp only [HV.cells, List.all_cons, List.all_nil, Bool.and_true]; exact hx⟩
  | sl tk sz es =>
    have hr' := hr
    simp only [rep] at hr; obtain ⟨A, cap, vals, rfl, _⟩ := hr
    exact ⟨by simp only [HV.cells, Value.cells, repL]; exact ⟨_, [], rfl, hr', rfl⟩, rfl⟩
  | rp cs =>
    have hr' := hr
    simp only [rep] at hr; obtain ⟨b, off, us, rfl, _⟩ := hr
    exact ⟨by simp only [HV.cells, Value.cells, repL]; exact ⟨_, [], rfl, hr', rfl⟩, rfl⟩
  | fn g caps =>
    have hr' := hr
    simp only [rep] at hr; obtain ⟨n, us, _, rfl, _⟩ := hr
    exact ⟨by simp only [HV.cells, Value.cells, repL]; exact ⟨_, [], rfl, hr', rfl⟩, rfl⟩

theorem cells_len (h : HV) : h.cells.length = h.ncells := by cases h <;> rfl

theorem flat_get {ν K w sz} : ∀ {es : List HV} {vals : List Value}, repL ν K w es vals → es.all HV.el = true → (∀ e ∈ es, e.ncells = sz) → ∀ {i : Nat} {h : HV}, es[i]? = some h →
    ∃ u, rep ν K w h u ∧ h.el = true ∧ vals[i]? = some u ∧ ∀ j x, u.cells.toList[j]? = some x → (flat vals)[i * sz + j]? = some x
  | [], _, _, _, _, i, h, hi => by simp at hi
  | g :: es, vals, hr, ha, hs, i, h, hi => by
    obtain ⟨u, us', rfl, h1, h2⟩ := hr
    simp only [List.all_cons, Bool.and_eq_true] at ha
    have hsz := rep_cells_size ha.1 h1
    have hg := hs g (by simp)
    cases i with
    | zero =>
      simp at hi; subst hi
      refine ⟨u, h1, ha.1, rfl, fun j x hx => ?_⟩
      have hj : j < u.cells.toList.length := by
        rcases Nat.lt_or_ge j u.cells.toList.length with h | h
        · exact h
        · rw [List.getElem?_eq_none h] at hx; cases hx
      simp only [flat, List.flatMap_cons, Nat.zero_mul, Nat.zero_add]
      rw [List.getElem?_append_left hj]; exact hx
    | succ i =>
      obtain ⟨v, hv1, hv2, hv3, hv4⟩ := flat_get h2 ha.2 (fun e he => hs e (by simp [he])) (i := i) (h := h) (by simpa using hi)
      refine ⟨v, hv1, hv2, by simpa using hv3, fun j x hx => ?_⟩
      simp only [flat, List.flatMap_cons]
      have hl : u.cells.toList.length = sz := by rw [Array.length_toList, hsz, hg]
      rw [List.getElem?_append_right (by rw [hl, Nat.add_mul]; omega), hl]
      have := hv4 j x hx
      simp only [flat] at this
      rw [show (i + 1) * sz + j - sz = i * sz + j by rw [Nat.add_mul]; omega]
      exact this

theorem cellsAt_block {w : World} {b : Nat} {us : Array Value} {T fr} (h : w.heap[b]? = some (.cells us T fr)) : cellsAt w b 0 us.toList := by
  intro j x hx
  simp only [Nat.zero_add]
  rw [cell_of_row w b j us T fr h]
  simpa using hx
theorem cellsAt_drop {w : World} {b o : Nat} {us : List Value} (h : cellsAt w b o us) (k : Nat) : cellsAt w b (o + k) (us.drop k) := by
  intro j x hx
  rw [List.getElem?_drop] at hx
  have := h (k + j) x hx
  rwa [show o + k + j = o + (k + j) by omega]
theorem cellsAt_take {w : World} {b o : Nat} {us : List Value} (h : cellsAt w b o us) (k : Nat) : cellsAt w b o (us.take k) := by
  intro j x hx
  refine h j x ?_
  rw [List.getElem?_take] at hx
  split at hx
  · exact hx
  · cases hx

theorem addr_add (b o n : Nat) : Addr.add ⟨b, o, none⟩ n = ⟨b, o + n, none⟩ := by unfold Addr.add; split <;> simp_all

section
variable {P : Program} {w : World}

theorem run_loadAt {T : TypeId} {n : Nat} {agg : Bool} (hn : szOf P T = some n) (ha : aggOf P T = some agg) (h1 : (agg || decide (n = 1)) = true) {b o : Nat} {us : List Value}
    (hl : us.length = n) (hc : cellsAt w b o us) :
    ∃ u, (Instr.loadAt T (.pointer (some ⟨b, o, none⟩))).run P w = .ok u w ∧ (if agg then u = .agg us.toArray else us = [u]) := by
  cases agg with
  | true =>
    refine ⟨.agg us.toArray, ?_, by simp⟩
    simp only [Instr.loadAt, Instr.sureAddr, pure_bind, loadVar, Sem.run_bind, run_isAgg ha, Result.andThen_ok, if_true, run_sizeOf hn]
    have := run_loadCells_list (P := P) w ⟨b, o, none⟩ us (fun j v hj => by rw [addr_add]; exact hc j v hj)
    rw [hl] at this
    simp [this]
  | false =>
    simp at h1; subst h1
    match us, hl with
    | [u], _ =>
      refine ⟨u, ?_, by simp⟩
      have hu : w.cell? ⟨b, o, none⟩ = some u := by simpa using hc 0 u rfl
      simp [Instr.loadAt, Instr.sureAddr, loadVar, run_isAgg ha, hu]
end

theorem loadv_sound {ν : Nat → Option Nat} {K : Nat → Nat} {w : World} {P : Program} {T : TypeId} {n : Nat} {agg : Bool} (hn : szOf P T = some n) (ha : aggOf P T = some agg) (h1 : (agg || decide (n = 1)) = true)
    {b o off : Nat} {cs : List HV} {us : List Value} (hr : repL ν K w cs us) (hone : cs.all HV.one = true) (hc : cellsAt w b o us) {x : HV} (hx : loadv agg n off cs = some x) :
    ∃ u, (Instr.loadAt T (.pointer (some ⟨b, o + off, none⟩))).run P w = .ok u w ∧ rep ν K w x u := by
  unfold loadv at hx
  split at hx
  case isFalse => cases hx
  case isTrue hle =>
    have hlen := repL_length hr
    have hr' := repL_take n (repL_drop off hr)
    obtain ⟨u, hu1, hu2⟩ := run_loadAt (P := P) (w := w) hn ha h1 (us := (us.drop off).take n) (by rw [List.length_take, List.length_drop]; omega) (cellsAt_take (cellsAt_drop hc off) n)
    refine ⟨u, hu1, ?_⟩
    unfold mkv at hx
    cases agg with
    | true =>
      simp only [if_true, Option.some.injEq] at hx hu2; subst hx; subst hu2
      refine ⟨_, rfl, ?_, hr'⟩
      rw [List.all_eq_true] at hone ⊢
      exact fun z hz => hone z (List.mem_of_mem_drop (List.mem_of_mem_take hz))
    | false =>
      simp only [Bool.false_eq_true, if_false] at hx hu2
      split at hx
      · rename_i g hg
        simp only [Option.some.injEq] at hx; subst hx
        rw [hg, hu2] at hr'
        obtain ⟨v, vs, h3, h4, h5⟩ := hr'
        simp only [List.cons.injEq] at h3
        rw [h3.1]; exact h4
      · cases hx

theorem oneof {h : HV} (he : h.one = true) : h.el = true := by cases h <;> simp_all [HV.one, HV.el]

end Sm
