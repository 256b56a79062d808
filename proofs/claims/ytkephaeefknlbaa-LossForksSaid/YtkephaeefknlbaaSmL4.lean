/-
  A layer of one's own: text L4.
-/
import Derived.Test.YtkephaeefknlbaaSmL3
set_option linter.unusedVariables false
set_option linter.unusedSimpArgs false
set_option maxRecDepth 10000
set_option maxHeartbeats 1000000
namespace Sm
open Go
-- BASE lossU
attribute [local irreducible] csem rsem dsem seqK blockK normK finK DK RK BR G3 resK Spec Tok Fr

def zPk : Pk := ⟨0, 0, 0, false⟩
def newL : Led := ⟨[], zPk, false, -1⟩
theorem new_spec (L : Linked code) (H : Heap) (K) (hk : ∀ b H', H b = none → Fr [] H H' → LedAt H' b newL .full → K (ptr b) H') : Spec L.P L.ν 103 [] H K := by
  refine go_spec L code103 rfl ?_
  repeat (refine gk lossU ?_)
  apply r_boxH; (focus rfl); (focus (simp only [nf, enc, encS, Led.cells, Nat.reduceAdd, Nat.reduceLeDiff] <;> rfl)); (focus (simp only [nf, enc, encS, Led.cells, Nat.reduceAdd, Nat.reduceLeDiff] <;> rfl)); (focus (simp only [nf, enc, encS, Led.cells, Nat.reduceAdd, Nat.reduceLeDiff] <;> rfl))
  intro b hb
  repeat (refine gk lossU ?_)
  refine resK_sub (H' := H.upd b (some (.obj (newL.cells .full)))) (Weak.refl _) ?_ (hk b _ hb (Fr.new hb) ⟨Heap.upd_same _ _ _, by unfold Tok; trivial⟩)
  intro a r ha
  by_cases h : a = b
  · subst h
    rw [Heap.upd_same] at ha ⊢
    cases ha
    refine ⟨_, rfl, .inr ⟨?_, rfl⟩⟩
    exact ⟨Weak.nil 4, Weak.refl _, Weak.refl _, Weak.refl _, Weak.refl _, Weak.refl _, Weak.refl _, trivial⟩
  · rw [Heap.upd_ne _ _ h] at ha ⊢
    exact ⟨r, ha, .inl rfl⟩

def pok (p : Pk) : Prop := 0 ≤ p.num ∧ p.num ≤ 1099511627776 ∧ 0 ≤ p.at' ∧ p.at' ≤ 1099511627776 ∧ 1 ≤ p.size ∧ p.size ≤ 1200
def fly (l : List Pk) : Int := (l.map fun p => if p.asks then p.size else 0).sum
theorem fly_take {l : List Pk} {i : Nat} (h : i < l.length) : fly (l.take (i + 1)) = fly (l.take i) + if l[i].asks then l[i].size else 0 := by
  simp only [fly]
  rw [List.take_succ_eq_append_getElem h, List.map_append, List.sum_append]
  simp
theorem fly_bound : ∀ (l : List Pk), (∀ p ∈ l, pok p) → 0 ≤ fly l ∧ fly l ≤ 1200 * l.length
  | [], _ => by simp [fly]
  | p :: l, h => by
    have h1 := fly_bound l (fun q hq => h q (by simp [hq]))
    have h2 := h p (by simp)
    simp only [fly, pok] at h1 h2 ⊢
    rw [List.map_cons, List.sum_cons, List.length_cons]
    split <;> omega
theorem fly_bt {l : List Pk} (h : ∀ p ∈ l, pok p) (hl : l.length ≤ 1048576) (i : Nat) : 0 ≤ fly (l.take i) ∧ fly (l.take i) ≤ 1258291200 := by
  have h1 := fly_bound (l.take i) (fun p hp => h p (List.mem_of_mem_take hp))
  have h2 : (l.take i).length ≤ 1048576 := by rw [List.length_take]; omega
  omega

theorem flying_spec (L : Linked code) (b : Nat) (l : Led) (tk : Tk) (H : Heap) (h : LedAt H b l tk) (hlen : l.opn.length ≤ 1048576) (hp : ∀ p ∈ l.opn, pok p) (K) (hk : K (I (fly l.opn)) H) : Spec L.P L.ν 111 [ptr b] H K := by
  obtain ⟨h1, h2⟩ := h
  refine go_spec L code111 rfl ?_
  repeat (refine gk lossU ?_)
  refine c_loop (Spec_SMono L) (fun (i : Nat) => [(3, .h (I (fly (l.opn.take i)))), (12, .h (.sl tk 4 (l.opn.map enc))), (13, .h (I l.opn.length)), (14, .h (I i))]) (fun _ => [])
    (fun i H' => H' = H ∧ i ≤ l.opn.length) (fun i => l.opn.length - i) 0 ?_ ⟨rfl, by omega⟩ ?_
  · (refine leM ?_ ?_ ?_ <;> (repeat refine leS trivial ?_) <;> exact leE)
  rintro i H' ⟨rfl, hi⟩
  repeat (refine gk lossU ?_)
  (refine ct lossU ?_ ?_ <;> intro h)
  · have hi' : i < l.opn.length := by simpa using h
    have b1 := fly_bt hp hlen i
    have b2 := fly_bt hp hlen (i + 1)
    have e := fly_take hi'
    have b3 := hp _ (List.getElem_mem hi')
    unfold pok at b3
    repeat (refine gk lossU ?_)
    (refine ct lossU ?_ ?_ <;> intro h2)
    · rw [if_pos h2] at e
      repeat (refine gk lossU ?_)
      refine k_n (i + 1) (by omega) ⟨rfl, by omega⟩ ?_
      (refine leM ?_ ?_ ?_ <;> (repeat refine leS (And.intro lossU e) ?_) <;> exact leE)
    · rw [if_neg (by simp [h2]), Int.add_zero] at e
      repeat (refine gk lossU ?_)
      refine k_n (i + 1) (by omega) ⟨rfl, by omega⟩ ?_
      (refine leM ?_ ?_ ?_ <;> (repeat refine leS (And.intro lossU e) ?_) <;> exact leE)
  · have hi' : i = l.opn.length := by have : ¬ i < l.opn.length := by simpa using h
                                      omega
    subst hi'
    repeat (refine gk lossU ?_)
    refine resK_some ?_
    rw [List.take_length]
    exact hk

theorem firstIdx_cases {α : Type} (f : α → Bool) (l : List α) : (firstIdx f l = -1 ∧ l.find? f = none) ∨ ∃ i, ∃ h : i < l.length, firstIdx f l = i ∧ l.find? f = some l[i] := by
  by_cases h : l.any f = true
  · right
    have hlt : l.findIdx f < l.length := by
      obtain ⟨x, hx, hf⟩ := List.any_eq_true.mp h
      exact List.findIdx_lt_length_of_exists ⟨x, hx, hf⟩
    refine ⟨l.findIdx f, hlt, by rw [firstIdx, if_pos h], ?_⟩
    rw [List.find?_eq_some_iff_getElem]
    refine ⟨List.findIdx_getElem, l.findIdx f, hlt, rfl, fun j hj => ?_⟩
    simpa using List.not_of_lt_findIdx hj
  · left
    refine ⟨by rw [firstIdx, if_neg h], ?_⟩
    rw [List.find?_eq_none]
    intro x hx hf
    exact h (List.any_eq_true.mpr ⟨x, hx, hf⟩)

def oldestR (l : List Pk) : Pk × Bool := match l.find? (·.asks) with
  | some p => (p, true)
  | none => (zPk, false)
theorem oldest_spec (L : Linked code) (b : Nat) (l : Led) (tk : Tk) (H : Heap) (h : LedAt H b l tk) (hlen : l.opn.length ≤ 1048576) (K) (hk : K (.tu [enc (oldestR l.opn).1, B (oldestR l.opn).2]) H) : Spec L.P L.ν 114 [ptr b] H K := by
  obtain ⟨h1, h2⟩ := h
  refine go_spec L code114 rfl ?_
  repeat (refine gk lossU ?_)
  apply r_call; (focus rfl)
  refine idxP_spec L 133 [] (·.asks) tk l.opn hlen H (fun p K hK => asks2_spec L p _ _ hK) _ ?_
  unfold oldestR at hk
  rcases firstIdx_cases (·.asks) l.opn with ⟨e1, e2⟩ | ⟨i, hi, e1, e2⟩
  · rw [e1]
    rw [e2] at hk
    repeat (refine gk lossU ?_)
    exact resK_some hk
  · rw [e1]
    rw [e2] at hk
    have : decide ((i : Int) < 0) = false := by simp
    repeat (refine gk (And.intro lossU this) ?_)
    exact resK_some hk

def nextR (l : Led) (late : Int) : Int × Bool := if mayB late then match l.opn.find? (fun p => decide (p.num < l.big)) with
  | some p => (p.at' + late, true)
  | none => (0, false) else (0, false)
theorem next_spec (L : Linked code) (b : Nat) (l : Led) (tk : Tk) (late : Int) (H : Heap) (h : LedAt H b l tk) (hlen : l.opn.length ≤ 1048576) (hp : ∀ p ∈ l.opn, pok p) (K) (hk : K (.tu [I (nextR l late).1, B (nextR l late).2]) H) : Spec L.P L.ν 107 [ptr b, I late] H K := by
  obtain ⟨h1, h2⟩ := h
  refine go_spec L code107 rfl ?_
  repeat (refine gk lossU ?_)
  refine bxk lossU ?_
  intro c X hc x1 x2 x3
  have x4 := x2.get (by simp) h1
  unfold nextR at hk
  repeat (refine gk lossU ?_)
  (apply r_call; (focus rfl))
  refine may_spec L late _ _ ?_
  have hb : ∀ (m : Bool), mayB late = m → True := fun _ _ => trivial
  cases hm : mayB late
  · rw [hm] at hk
    repeat (refine gk lossU ?_)
    exact resK_sub (Weak.refl _) x3 hk
  · rw [hm, if_pos rfl] at hk
    have hm' := hm
    simp only [mayB, Bool.and_eq_true, decide_eq_true_eq] at hm'
    repeat (refine gk lossU ?_)
    (apply r_call; (focus rfl))
    refine idxP_spec L 123 [ptr c] (fun p => decide (p.num < l.big)) tk l.opn hlen X (fun p K hK => below_spec L p l b c tk X x1 x4 K hK) _ ?_
    rcases firstIdx_cases (fun p => decide (p.num < l.big)) l.opn with ⟨e1, e2⟩ | ⟨i, hi, e1, e2⟩
    · rw [e1]
      rw [e2] at hk
      repeat (refine gk lossU ?_)
      exact resK_sub (Weak.refl _) x3 hk
    · rw [e1]
      rw [e2] at hk
      have hz : decide ((i : Int) < 0) = false := by simp
      have hq := hp _ (List.getElem_mem hi)
      unfold pok at hq
      repeat (refine gk (And.intro lossU hz) ?_)
      exact resK_sub (Weak.refl _) x3 hk

/-- What is told as lost. -/
def lostL (l : Led) (now late : Int) : List Pk := if mayB now && mayB late then l.opn.filter (lostB l.big now late) else []
def lostN (l : Led) (now late : Int) : Led := if mayB now && mayB late then { l with opn := l.opn.filter fun p => !lostB l.big now late p } else l
theorem lost_spec (L : Linked code) (b : Nat) (l : Led) (tk : Tk) (now late : Int) (H : Heap) (h : LedAt H b l tk) (hlen : l.opn.length ≤ 1048576) (hb : sm l.big) (K)
    (hk : ∀ H' tk', LUp b H H' tk tk' → LedAt H' b (lostN l now late) tk' → K (.sl .no 4 ((lostL l now late).map enc)) H') : Spec L.P L.ν 106 [ptr b, I now, I late] H K := by
  obtain ⟨h1, h2⟩ := h
  refine go_spec L code106 rfl ?_
  repeat (refine gk lossU ?_)
  refine bxk lossU ?_
  intro c X hc x1 x2 x3
  repeat (refine gk lossU ?_)
  refine bxk lossU ?_
  intro c1 X1 hc1 y1 y2 y3
  repeat (refine gk lossU ?_)
  refine bxk lossU ?_
  intro c2 X2 hc2 z1 z2 z3
  have g1 := z2.get (by simp) (y2.get (by simp) (x2.get (by simp) h1))
  have gc := z2.get (by simp) (y2.get (by simp) x1)
  have gc1 := z2.get (by simp) y1
  have hF : Fr [] H X2 := (x2.trans y2).trans z2
  have hT : Tok X2 tk l.opn.length 4 := h2.fr' hF (by simp)
  have hs : H.sub X2 := Heap.sub_trans (Heap.sub_refl H) (fun b r hr => hF.get (by simp) hr)
  unfold lostL lostN at hk
  repeat (refine gk lossU ?_)
  (apply r_call; (focus rfl))
  refine may_spec L now _ _ ?_
  cases hm : mayB now
  · rw [hm] at hk
    repeat (refine gk lossU ?_)
    refine resK_sub (Weak.nil' 4) hs (hk H tk (LUp.refl _ _ _) ⟨h1, h2⟩)
  · repeat (refine gk lossU ?_)
    (apply r_call; (focus rfl))
    refine may_spec L late _ _ ?_
    cases hm2 : mayB late
    · rw [hm, hm2] at hk
      repeat (refine gk lossU ?_)
      refine resK_sub (Weak.nil' 4) hs (hk H tk (LUp.refl _ _ _) ⟨h1, h2⟩)
    · rw [hm, hm2] at hk
      simp only [Bool.and_self, if_true] at hk
      simp only [mayB, Bool.and_eq_true, decide_eq_true_eq] at hm hm2
      repeat (refine gk lossU ?_)
      (apply r_call; (focus rfl))
      refine take_spec L b 121 [ptr c, ptr c1, ptr c2] (lostB l.big now late) l tk X2 ⟨g1, hT⟩ hlen (fun p H' K f hK => ?_) _ fun H' tk' k1 k2 => ?_
      · exact lost1_spec L p l b c c1 c2 now late tk H' (f.get (by simp) gc) (f.get (by simp) g1) (f.get (by simp) gc1) (f.get (by simp) z1) hb (by unfold sm; omega) (by unfold sm; omega) K hK
      · repeat (refine gk lossU ?_)
        refine resK_some (hk H' tk' ⟨(hF.mono (by simp)).trans k1.fr, fun a ha => ?_⟩ k2)
        rcases k1.nw a ha with h3 | h3
        · exact .inl h3
        · right
          cases hx : H a with
          | none => rfl
          | some r => rw [hF.get (by simp) hx] at h3; cases h3
end Sm
