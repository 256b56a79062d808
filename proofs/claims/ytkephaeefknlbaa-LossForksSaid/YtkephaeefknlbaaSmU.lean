/-
  A layer of one's own: text U.
-/
import Derived.Test.YtkephaeefknlbaaSmT
set_option linter.unusedVariables false
set_option linter.unusedSimpArgs false
set_option linter.unnecessarySimpa false
namespace Sm
open Go

def predsOf (ops : Array Oper) (q : Nat) : List Nat := ((ops[q]?).map fun o => (o.after.toList.filter (Region.binds .any)).map (·.on)).getD []
def reach (ops : Array Oper) : Nat → Nat → Nat → Bool
  | 0, _, _ => false
  | f + 1, p, q => (predsOf ops q).contains p || (predsOf ops q).any fun r => reach ops f p r

/-- The static look at a region that draws. -/
def drawOk (ops : Array Oper) (perm : List Nat) (L : List DOper) : Bool :=
  let n := ops.size
  decide (perm.length = n) && decide (L.length = n) && perm.all (fun i => decide (i < n)) && (List.range n).all (fun i => perm.contains i) &&
  (List.range n).all fun y => (predsOf ops (perm[y]!)).all (fun p => (perm.take y).contains p) &&
    (List.range y).all fun x => decide (perm[x]! ≠ perm[y]!) && (reach ops 64 (perm[x]!) (perm[y]!) || swapOk L x y && (L[x]!).rc.isEmpty &&
      (!(L[y]!).rc.contains x || (List.range y).all fun x' => !decide (x < x') || reach ops 64 (perm[x']!) (perm[y]!) || rcOk L x x'))

theorem reach_listed {ops : Array Oper} {D : Nat → Prop} (hD : ∀ q, D q → ∀ p ∈ predsOf ops q, D p) : ∀ (f : Nat) {p q : Nat}, (∀ r ∈ predsOf ops q, D r) → reach ops f p q = true → D p
  | 0, p, q, _, h => by simp [reach] at h
  | f + 1, p, q, hq, h => by
    simp only [reach, Bool.or_eq_true, List.any_eq_true] at h
    rcases h with h | ⟨r, hr, h⟩
    · exact hq p (by simpa using h)
    · exact reach_listed hD f (hD r (hq r hr)) h

theorem ready_iff {ops : Array Oper} {listed : Array Bool} {i : Nat} (hi : i < ops.size) : ((ops[i]?).map (·.after.all fun e => !Region.binds .any e || listed.getD e.on false)).getD false = true ↔ ∀ p ∈ predsOf ops i, listed.getD p false = true := by
  simp only [predsOf, Array.getElem?_eq_getElem hi, Option.map_some, Option.getD_some, Array.all_eq_true', Bool.or_eq_true, Bool.not_eq_true', List.mem_map, List.mem_filter]
  constructor
  · rintro h p ⟨e, ⟨he, hb⟩, rfl⟩
    rcases h e (by simpa using he) with h | h
    · rw [hb] at h; cases h
    · exact h
  · intro h e he
    cases hb : Region.binds .any e with
    | false => exact .inl rfl
    | true => exact .inr (h _ ⟨e, ⟨by simpa using he, hb⟩, rfl⟩)

structure GoInv (ops : Array Oper) (perm : List Nat) (listed : Array Bool) (R : List Nat) : Prop where
  size : listed.size = ops.size
  sub : ∀ y ∈ R, y < ops.size
  inc : R.Pairwise (· < ·)
  mem : ∀ i, i < ops.size → (listed.getD i false = true ↔ ∀ y ∈ R, perm[y]! ≠ i)
  closed : ∀ q, q < ops.size → listed.getD q false = true → ∀ p ∈ predsOf ops q, listed.getD p false = true

theorem go_comes {ops : Array Oper} {perm : List Nat} {L : List DOper} (hok : drawOk ops perm L = true) : ∀ (fuel t : Nat) (listed : Array Bool) (acc R : List Nat), R.length ≤ fuel → GoInv ops perm listed R →
    ∃ ys, Region.linearise.go .any ops fuel t listed acc = acc.reverse ++ ys.map (fun y => perm[y]!) ∧ Comes' L ys R ∧ ∀ y ∈ ys, y < ops.size
  | 0, t, listed, acc, R, hf, inv => by
    have : R = [] := List.eq_nil_of_length_eq_zero (by omega)
    subst this
    exact ⟨[], by simp [Region.linearise.go], .nil, by simp⟩
  | fuel + 1, t, listed, acc, R, hf, inv => by
    have hok' := hok
    simp only [drawOk, Bool.and_eq_true, decide_eq_true_eq] at hok
    obtain ⟨⟨⟨⟨p1, p2⟩, p3⟩, p4⟩, p5⟩ := hok
    rw [List.all_eq_true] at p3 p5
    simp only [Region.linearise.go]
    have hdef : ∀ i, i < ops.size → listed.getD i true = listed.getD i false := fun i hi => by
      have : i < listed.size := by rw [inv.size]; exact hi
      simp [Array.getD, this]
    have hperm : ∀ y, y < ops.size → perm[y]! < ops.size := fun y hy => by
      have hy' : y < perm.length := by omega
      have := p3 perm[y] (List.getElem_mem hy')
      simp only [decide_eq_true_eq] at this
      simpa [hy'] using this
    have hlt1 : ∀ y y', y < y' → y' < ops.size → perm[y]! ≠ perm[y']! := fun y y' hyy hy' h => by
      have h5 := p5 y' (List.mem_range.2 hy')
      simp only [Bool.and_eq_true, List.all_eq_true] at h5
      have h6 := (h5.2 y (List.mem_range.2 hyy)).1
      simp only [decide_eq_true_eq] at h6
      exact h6 h
    have hinj : ∀ y y', y < ops.size → y' < ops.size → perm[y]! = perm[y']! → y = y' := fun y y' hy hy' h => by
      rcases Nat.lt_trichotomy y y' with h1 | h1 | h1
      · exact absurd h (hlt1 y y' h1 hy')
      · exact h1
      · exact absurd h.symm (hlt1 y' y h1 hy)
    cases R with
    | nil =>
      have hempty : ((List.range ops.size).filter fun i => !listed.getD i true && ((ops[i]?).map (·.after.all fun e => !Region.binds .any e || listed.getD e.on false)).getD false) = [] := by
        rw [List.filter_eq_nil_iff]
        intro i hi
        have hi' : i < ops.size := List.mem_range.1 hi
        have := (inv.mem i hi').2 (by simp)
        rw [hdef i hi', this]; simp
      rw [hempty]
      exact ⟨[], by simp, .nil, by simp⟩
    | cons y0 R' =>
      generalize hrs : ((List.range ops.size).filter fun i => !listed.getD i true && ((ops[i]?).map (·.after.all fun e => !Region.binds .any e || listed.getD e.on false)).getD false) = rs
      have hmem : ∀ i, i ∈ rs ↔ i < ops.size ∧ listed.getD i false = false ∧ ∀ p ∈ predsOf ops i, listed.getD p false = true := by
        intro i
        rw [← hrs, List.mem_filter, List.mem_range]
        constructor
        · rintro ⟨h1, h2⟩
          simp only [Bool.and_eq_true, Bool.not_eq_true'] at h2
          exact ⟨h1, by rw [← hdef i h1]; exact h2.1, (ready_iff h1).1 h2.2⟩
        · rintro ⟨h1, h2, h3⟩
          refine ⟨h1, ?_⟩
          simp only [Bool.and_eq_true, Bool.not_eq_true']
          exact ⟨by rw [hdef i h1]; exact h2, (ready_iff h1).2 h3⟩
      have hy0 := inv.sub y0 (by simp)
      -- the first of what is left is ready
      have hfirst : perm[y0]! ∈ rs := by
        refine (hmem _).2 ⟨hperm y0 hy0, ?_, fun p hp => ?_⟩
        · cases hl : listed.getD (perm[y0]!) false with
          | false => rfl
          | true => exact absurd rfl ((inv.mem _ (hperm y0 hy0)).1 hl y0 (by simp))
        · have h5 := p5 y0 (List.mem_range.2 hy0)
          simp only [Bool.and_eq_true, List.all_eq_true] at h5
          have h6 := h5.1 p hp
          simp only [List.contains_eq_mem, decide_eq_true_eq] at h6
          obtain ⟨k, hk, hkp⟩ := List.getElem_of_mem h6
          rw [List.length_take] at hk
          rw [List.getElem_take] at hkp
          have hk1 : k < perm.length := by omega
          have hpk : perm[k]! = p := by simp [hk1, hkp]
          have hpn : p < ops.size := by rw [← hpk]; exact hperm k (by omega)
          refine (inv.mem p hpn).2 (fun y hy he => ?_)
          have hyk : y = k := hinj y k (inv.sub y hy) (by omega) (by rw [he, hpk])
          subst hyk
          have : y0 ≤ y := by
            rcases List.mem_cons.1 hy with h | h
            · omega
            · have := (List.pairwise_cons.1 inv.inc).1 y h; omega
          omega
      have hpos : 0 < rs.length := List.length_pos_of_mem hfirst
      have hlt : t % rs.length < rs.length := Nat.mod_lt _ hpos
      rw [List.getElem?_eq_getElem hlt]
      simp only
      have hi := (hmem rs[t % rs.length]).1 (List.getElem_mem hlt)
      generalize rs[t % rs.length] = i at hi
      obtain ⟨hi1, hi2, hi3⟩ := hi
      -- where it stands
      have hyex : ∃ y ∈ y0 :: R', perm[y]! = i := by
        apply Classical.byContradiction
        intro hn
        have := (inv.mem i hi1).2 (fun y hy he => hn ⟨y, hy, he⟩)
        rw [this] at hi2; cases hi2
      obtain ⟨y, hyR, rfl⟩ := hyex
      obtain ⟨pre, post, hR⟩ := List.append_of_mem hyR
      have hyn := inv.sub y hyR
      have hinc := inv.inc
      rw [hR] at hinc
      have hpre : ∀ x ∈ pre, x < y := fun x hx => (List.pairwise_append.1 hinc).2.2 x hx y (by simp)
      have hclosed : ∀ q, (listed.getD q false = true) → ∀ p ∈ predsOf ops q, listed.getD p false = true := fun q hq => by
        have : q < ops.size := by
          rcases Nat.lt_or_ge q listed.size with h | h
          · rw [← inv.size]; exact h
          · simp [Array.getD, Nat.not_lt.2 h] at hq
        exact inv.closed q this hq
      have hnr : ∀ x ∈ pre, reach ops 64 (perm[x]!) (perm[y]!) = false := fun x hx => by
        cases hr : reach ops 64 (perm[x]!) (perm[y]!) with
        | false => rfl
        | true =>
          have h1 := reach_listed (D := fun q => listed.getD q false = true) hclosed 64 hi3 hr
          have hxR : x ∈ y0 :: R' := by rw [hR]; simp [hx]
          exact absurd rfl ((inv.mem _ (hperm x (inv.sub x hxR))).1 h1 x hxR)
      have h5 := p5 y (List.mem_range.2 hyn)
      simp only [Bool.and_eq_true, List.all_eq_true, Bool.or_eq_true] at h5
      have h6 : ∀ x ∈ pre, (swapOk L x y = true ∧ (L[x]!).rc.isEmpty = true) ∧ ((!(L[y]!).rc.contains x) = true ∨ ∀ x' ∈ List.range y, ((!decide (x < x')) = true ∨ reach ops 64 (perm[x']!) (perm[y]!) = true) ∨ rcOk L x x' = true) := fun x hx =>
        (h5.2 x (List.mem_range.2 (hpre x hx))).2.resolve_left (by rw [hnr x hx]; simp)
      have inv' : GoInv ops perm (listed.setIfInBounds (perm[y]!) true) (pre ++ post) := by
        have hsub : ∀ x ∈ pre ++ post, x ∈ y0 :: R' := fun x hx => by
          rw [hR]
          rcases List.mem_append.1 hx with h | h
          · simp [h]
          · simp [h]
        have hget0 : ∀ py q, py < ops.size → (listed.setIfInBounds py true).getD q false = if py = q then true else listed.getD q false := fun py q hpy => by
          simp only [Array.getD_eq_getD_getElem?, Array.getElem?_setIfInBounds]
          by_cases hq : py = q
          · subst hq; simp [inv.size, hpy]
          · rw [if_neg hq, if_neg hq]
        have hget := fun q => hget0 (perm[y]!) q hi1
        refine ⟨by simp [inv.size], fun x hx => inv.sub x (hsub x hx), ?_, fun q hq => ?_, fun q hq hl p hp => ?_⟩
        · rw [List.pairwise_append] at hinc ⊢
          exact ⟨hinc.1, (List.pairwise_cons.1 hinc.2.1).2, fun a ha b hb => hinc.2.2 a ha b (by simp [hb])⟩
        · rw [hget]
          have hny : ∀ x ∈ pre ++ post, x ≠ y := by
            intro x hx he
            subst he
            rcases List.mem_append.1 hx with h | h
            · exact Nat.lt_irrefl _ (hpre x h)
            · exact Nat.lt_irrefl _ ((List.pairwise_cons.1 (List.pairwise_append.1 hinc).2.1).1 x h)
          by_cases hq' : perm[y]! = q
          · subst hq'
            simp only [if_true, true_iff]
            intro x hx he
            exact hny x hx (hinj x y (inv.sub x (hsub x hx)) hyn he)
          · rw [if_neg hq', inv.mem q hq, hR]
            constructor
            · intro h x hx; exact h x (by rcases List.mem_append.1 hx with h | h <;> simp [h])
            · intro h x hx
              rcases List.mem_append.1 hx with h' | h'
              · exact h x (by simp [h'])
              · rcases List.mem_cons.1 h' with h'' | h''
                · subst h''; exact hq'
                · exact h x (by simp [h''])
        · rw [hget] at hl ⊢
          split
          · rfl
          · by_cases hq' : perm[y]! = q
            · subst hq'; exact hi3 p hp
            · rw [if_neg hq'] at hl; exact inv.closed q hq hl p hp
      have hlen : (pre ++ post).length ≤ fuel := by
        have : (y0 :: R').length = (pre ++ y :: post).length := by rw [hR]
        simp only [List.length_cons, List.length_append] at this hf ⊢
        omega
      obtain ⟨ys, g1, g2, g3⟩ := go_comes hok' fuel (t / rs.length) _ (perm[y]! :: acc) (pre ++ post) hlen inv'
      refine ⟨y :: ys, by rw [g1]; simp, ?_, fun z hz => ?_⟩
      · rw [hR]
        refine .cons (fun x hx => ⟨(h6 x hx).1.1, by simpa using (h6 x hx).1.2⟩) ?_ g2
        have hpp := (List.pairwise_append.1 hinc).1
        refine List.Pairwise.imp_of_mem ?_ hpp
        intro x x' hx hx' hlt hc
        rcases (h6 x hx).2 with h | h
        · rw [hc] at h; cases h
        · rcases h x' (List.mem_range.2 (hpre x' hx')) with (h' | h') | h'
          · simp [hlt] at h'
          · rw [hnr x' hx'] at h'; cases h'
          · exact h'
      · rcases List.mem_cons.1 hz with h | h
        · subst h; exact hyn
        · exact g3 z h

theorem schedule_comes {P : Program} (hm : P.follows .mixedOrders = true) {ops : Array Oper} {perm : List Nat} {L : List DOper} (hok : drawOk ops perm L = true) (t : Nat) :
    ∃ ys, Region.schedule (P.follows .mixedOrders) ops t = ys.map (fun y => perm[y]!) ∧ Comes' L ys (List.range L.length) ∧ ∀ y ∈ ys, y < ops.size := by
  have hok' := hok
  simp only [drawOk, Bool.and_eq_true, decide_eq_true_eq] at hok
  obtain ⟨⟨⟨⟨p1, p2⟩, p3⟩, p4⟩, p5⟩ := hok
  rw [List.all_eq_true] at p3
  obtain ⟨ys, g1, g2, g3⟩ := go_comes hok' ops.size t (Array.replicate ops.size false) [] (List.range ops.size) (by simp) ⟨by simp, fun y hy => List.mem_range.1 hy, List.pairwise_lt_range, fun i hi => by
    constructor
    · intro h; simp [Array.getD] at h
    · intro h
      exfalso
      -- every number below is some perm y
      have hsurj : i ∈ perm := by
        rw [List.all_eq_true] at p4
        simpa using p4 i (List.mem_range.2 hi)
      obtain ⟨k, hk, hki⟩ := List.getElem_of_mem hsurj
      exact h k (List.mem_range.2 (by omega)) (by simp [hk, hki]), fun q hq h => by simp [Array.getD] at h⟩
  refine ⟨ys, ?_, by rw [p2]; exact g2, g3⟩
  rw [hm]
  simp only [Region.schedule, Bool.true_or, if_true, Region.linearise]
  simpa using g1

end Sm
