/-
  A layer of one's own: texts T6,T7,T8,T9,T10.
-/
import Derived.Test.YtmdfajhlofhmcaaDoorSmTA
set_option linter.unusedVariables false
set_option linter.unusedSimpArgs false
set_option maxRecDepth 10000
set_option maxHeartbeats 1000000
namespace Sm
open Go
theorem bl_irr : ∀ a : List UInt8, Op.bytesLess a a = false
  | [] => rfl
  | b :: a => by simp [Op.bytesLess, bl_irr a]
def cmpS (a b : List UInt8) : Int := if Op.bytesLess a b then -1 else if a == b then 0 else 1
theorem cmpS_eq {a b : List UInt8} : cmpS a b = 0 ↔ a = b := by
  unfold cmpS
  constructor
  · intro h
    split at h
    · cases h
    · split at h
      · rename_i h2; simpa using h2
      · cases h
  · rintro rfl; simp [bl_irr]
def cmpL : List (List UInt8) → List (List UInt8) → Int
  | [], [] => 0
  | [], _ :: _ => -1
  | _ :: _, [] => 1
  | a :: as, b :: bs => if cmpS a b = 0 then cmpL as bs else cmpS a b
def lessP (a b : List UInt8) : Bool := decide (cmpL (spl a) (spl b) < 0)
theorem cmpL_step {x y : List (List UInt8)} {i : Nat} (hx : i < x.length) (hy : i < y.length) : cmpL (x.drop i) (y.drop i) = if cmpS x[i] y[i] = 0 then cmpL (x.drop (i + 1)) (y.drop (i + 1)) else cmpS x[i] y[i] := by
  rw [List.drop_eq_getElem_cons hx, List.drop_eq_getElem_cons hy, cmpL]
theorem cmpL_x {x y : List (List UInt8)} {i : Nat} (hx : i < x.length) (hy : y.length ≤ i) : cmpL (x.drop i) (y.drop i) = 1 := by
  rw [List.drop_eq_getElem_cons hx, List.drop_of_length_le hy, cmpL]
theorem cmpL_y {x y : List (List UInt8)} {i : Nat} (hx : x.length ≤ i) (hy : i < y.length) : cmpL (x.drop i) (y.drop i) = -1 := by
  rw [List.drop_eq_getElem_cons hy, List.drop_of_length_le hx, cmpL]
theorem cmpL_e {x y : List (List UInt8)} {i : Nat} (hx : x.length ≤ i) (hy : y.length ≤ i) : cmpL (x.drop i) (y.drop i) = 0 := by
  rw [List.drop_of_length_le hx, List.drop_of_length_le hy, cmpL]
theorem spl_len (l : List UInt8) : (spl l).length ≤ l.length + 1 := by
  unfold spl
  split
  · simp
  · rw [segs_len]; have : l.count 47 ≤ l.length := List.count_le_length
    omega
attribute [local irreducible] csem rsem dsem seqK blockK normK finK DK RK JK BR G3 resK Spec Tok Fr

theorem nan_spec (L : Linked code) (a : List UInt8) : Pure L 205 [S a] (B false) := by
  intro H K hk
  refine go_spec L code205 rfl ?_
  repeat (refine gk trivial ?_)
  rw [show (!(a == a)) = false by simp]
  repeat (refine gk trivial ?_)
  exact resK_some hk
theorem cmp_spec (L : Linked code) (a b : List UInt8) : Pure L 196 [S a, S b] (I (cmpS a b)) := by
  intro H K hk
  refine go_spec L code196 rfl ?_
  repeat (refine gk trivial ?_)
  (apply r_call; (focus rfl))
  refine nan_spec L a H _ ?_
  repeat (refine gk trivial ?_)
  (apply r_call; (focus rfl))
  refine nan_spec L b H _ ?_
  unfold cmpS at hk
  repeat (refine gk trivial ?_)
  cases c1 : Op.bytesLess a b
  case true =>
    rw [c1] at hk
    repeat (refine gk trivial ?_)
    exact resK_some hk
  repeat (refine gk trivial ?_)
  rw [c1]
  simp only [c1, Bool.false_eq_true, if_false, Bool.false_or] at hk ⊢
  cases c2 : (a == b)
  · rw [c2] at hk
    simp only [Bool.false_eq_true, if_false, Bool.not_false] at hk ⊢
    repeat (refine gk trivial ?_)
    exact resK_some hk
  · rw [c2] at hk
    simp only [if_true, Bool.not_true] at hk ⊢
    repeat (refine gk trivial ?_)
    exact resK_some hk
theorem comp_spec (L : Linked code) (t1 t2 : Tk) (x y : List (List UInt8)) (hx : x.length ≤ 1048577) (hy : y.length ≤ 1048577) : Pure L 182 [.sl t1 1 (x.map S), .sl t2 1 (y.map S)] (I (cmpL x y)) := by
  intro H K hk
  refine go_spec L code182 rfl ?_
  repeat (refine gk trivial ?_)
  refine c_loop (Spec_SMono L) (fun (i : Nat) => [(0, .h (.sl t1 1 (x.map S))), (1, .h (.sl t2 1 (y.map S))), (9, .h (.sl t1 1 (x.map S))), (10, .h (I x.length)), (11, .h (I i))]) (fun _ => []) (fun i H' => H' = H ∧ i ≤ x.length ∧ cmpL x y = cmpL (x.drop i) (y.drop i) ∧ i ≤ y.length) (fun i => x.length - i) 0 ?_ ⟨rfl, by omega, rfl, by omega⟩ ?_
  · (refine leM ?_ ?_ ?_ <;> (repeat refine leS trivial ?_) <;> exact leE)
  rintro i H' ⟨rfl, hix, he, hiy⟩
  repeat (refine gk trivial ?_)
  (refine ct trivial ?_ ?_ <;> intro h)
  · have hi : i < x.length := by simpa using h
    repeat (refine gk trivial ?_)
    (refine ct trivial ?_ ?_ <;> intro h2)
    · have h3 : y.length ≤ i := by simpa using h2
      rw [he, cmpL_x hi h3] at hk
      repeat (refine gk trivial ?_)
      exact resK_some hk
    · have h3 : i < y.length := by simpa using h2
      rw [cmpL_step hi h3] at he
      repeat (refine gk trivial ?_)
      (apply r_call; (focus rfl))
      refine cmp_spec L x[i] y[i] _ _ ?_
      repeat (refine gk trivial ?_)
      cases c1 : (cmpS x[i] y[i] == 0)
      · have c2 : (cmpS x[i] y[i] != 0) = true := by simpa [bne] using c1
        rw [if_neg (by simpa using c1)] at he
        rw [he] at hk
        rw [c2]
        repeat (refine gk trivial ?_)
        exact resK_some hk
      · have c2 : (cmpS x[i] y[i] != 0) = false := by simpa [bne] using c1
        rw [if_pos (by simpa using c1)] at he
        rw [c2]
        repeat (refine gk trivial ?_)
        refine k_n (i + 1) (by omega) ⟨rfl, by omega, he, by omega⟩ ?_
        (refine leM ?_ ?_ ?_ <;> (repeat refine leS trivial ?_) <;> exact leE)
  · have hi : i = x.length := by have : ¬ i < x.length := by simpa using h
                                 omega
    subst hi
    repeat (refine gk trivial ?_)
    (refine ct trivial ?_ ?_ <;> intro h2)
    · have h3 : x.length < y.length := by simpa using h2
      rw [he, cmpL_y (Nat.le_refl _) h3] at hk
      repeat (refine gk trivial ?_)
      exact resK_some hk
    · have h3 : ¬ x.length < y.length := by simpa using h2
      rw [he, cmpL_e (Nat.le_refl _) (by omega)] at hk
      repeat (refine gk trivial ?_)
      exact resK_some hk
theorem less_spec (L : Linked code) (a b : List UInt8) (ha : a.length ≤ 1048576) (hb : b.length ≤ 1048576) (H : Heap) (K) (hk : ∀ H', Fr [] H H' → K (B (lessP a b)) H') : Spec L.P L.ν 163 [S a, S b] H K := by
  refine go_spec L code163 rfl ?_
  have h1 := spl_len a
  have h2 := spl_len b
  repeat (refine gk trivial ?_)
  (apply r_call; (focus rfl))
  refine psplit_spec L a ha H _ fun H1 f1 => ?_
  repeat (refine gk trivial ?_)
  (apply r_call; (focus rfl))
  refine psplit_spec L b hb H1 _ fun H2 f2 => ?_
  repeat (refine gk trivial ?_)
  (apply r_call; (focus rfl))
  refine comp_spec L .no .no (spl a) (spl b) (by omega) (by omega) H2 _ ?_
  repeat (refine gk trivial ?_)
  exact resK_some (hk H2 (f1.trans f2))
end Sm

set_option linter.unusedVariables false
set_option linter.unusedSimpArgs false
set_option maxRecDepth 10000
set_option maxHeartbeats 1000000
namespace Sm
open Go
/-- Where the first stands, or -1. -/
def firstIdx {α : Type} (f : α → Bool) (l : List α) : Int := if l.any f then (l.findIdx f : Int) else -1
theorem firstIdx_some {α : Type} {f : α → Bool} {l : List α} {i : Nat} (hi : i < l.length) (hf : f l[i] = true) (hb : ∀ j (hj : j < i), f (l[j]'(by omega)) = false) : firstIdx f l = i := by
  have h1 : l.any f = true := List.any_eq_true.mpr ⟨l[i], List.getElem_mem hi, hf⟩
  rw [firstIdx, if_pos h1]
  have : l.findIdx f = i := by
    rw [List.findIdx_eq hi]
    exact ⟨hf, fun j hj => by simpa using hb j hj⟩
  rw [this]
theorem firstIdx_none {α : Type} {f : α → Bool} {l : List α} (hb : ∀ j (hj : j < l.length), f l[j] = false) : firstIdx f l = -1 := by
  have : ¬ l.any f = true := by
    rw [List.any_eq_true]
    rintro ⟨x, hx, hf⟩
    obtain ⟨j, hj, rfl⟩ := List.getElem_of_mem hx
    rw [hb j hj] at hf; cases hf
  rw [firstIdx, if_neg this]
theorem firstIdx_ge {α : Type} (f : α → Bool) (l : List α) : decide (0 ≤ firstIdx f l) = l.any f := by
  unfold firstIdx
  cases h : l.any f
  · simp
  · simp
def chkP (l : List UInt8) : Int := if 128 < l.length then 5 else if (spl l).any (fun s => !nameB s) then 6 else if spl l = [] then 6 else if 8 < (spl l).length then 5 else 0
theorem seg_len : ∀ (l : List UInt8), ∀ s ∈ segs l, s.length ≤ l.length
  | [], s, h => by simp [segs, splA] at h; subst h; simp
  | b :: l, s, h => by
    have ih := seg_len l
    simp only [segs, List.mem_cons] at ih
    cases hb : (b == 47)
    · simp only [segs, splA, hb, Bool.false_eq_true, if_false, List.mem_cons] at h
      rcases h with rfl | h
      · have := ih _ (.inl rfl); simp; omega
      · have := ih s (.inr h); simp; omega
    · simp only [segs, splA, hb, if_true, List.mem_cons] at h
      rcases h with rfl | h | h
      · simp
      · have := ih s (.inl h); simp; omega
      · have := ih s (.inr h); simp; omega
theorem spl_mem {l s : List UInt8} (h : s ∈ spl l) : s.length ≤ l.length := by
  unfold spl at h
  split at h
  · simp at h
  · exact seg_len l s h
attribute [local irreducible] csem rsem dsem seqK blockK normK finK DK RK JK BR G3 resK Spec Tok Fr

theorem idxS_spec (L : Linked code) (g : Nat) (caps : List HV) (f : List UInt8 → Bool) (tk : Tk) (l : List (List UInt8)) (hl : l.length ≤ 1048577) (H : Heap) (hf : ∀ p ∈ l, ∀ K, K (B (f p)) H → Spec L.P L.ν g (S p :: caps) H K) (K) (hk : K (I (firstIdx f l)) H) :
    Spec L.P L.ν 210 [.sl tk 1 (l.map S), .fn g caps] H K := by
  refine go_spec L code210 rfl ?_
  repeat (refine gk trivial ?_)
  refine c_loop (Spec_SMono L) (fun (i : Nat) => [(0, .h (.sl tk 1 (l.map S))), (1, .h (.fn g caps)), (7, .h (I l.length)), (8, .h (I i))]) (fun _ => [])
    (fun i H' => H' = H ∧ ∃ h : i ≤ l.length, ∀ j (hj : j < i), f (l[j]'(by omega)) = false) (fun i => l.length - i) 0 ?_ ⟨rfl, by omega, fun j hj => by omega⟩ ?_
  · (refine leM ?_ ?_ ?_ <;> (repeat refine leS trivial ?_) <;> exact leE)
  rintro i H' ⟨rfl, hi, hb⟩
  repeat (refine gk trivial ?_)
  (refine ct trivial ?_ ?_ <;> intro h)
  · have hi' : i < l.length := by simpa using h
    repeat (refine gk trivial ?_)
    (apply r_callv; (focus rfl); (focus rfl))
    refine hf l[i] (List.getElem_mem hi') _ ?_
    repeat (refine gk trivial ?_)
    (refine ct trivial ?_ ?_ <;> intro h2)
    · repeat (refine gk trivial ?_)
      rw [firstIdx_some hi' h2 hb] at hk
      exact resK_some hk
    · repeat (refine gk trivial ?_)
      refine k_n (i + 1) (by omega) ⟨rfl, by omega, fun j hj => ?_⟩ ?_
      · rcases Nat.lt_or_ge j i with h3 | h3
        · exact hb j h3
        · have : j = i := by omega
          subst this; exact h2
      · (refine leM ?_ ?_ ?_ <;> (repeat refine leS trivial ?_) <;> exact leE)
  · have hi' : i = l.length := by have : ¬ i < l.length := by simpa using h
                                  omega
    subst hi'
    rw [firstIdx_none hb] at hk
    repeat (refine gk trivial ?_)
    exact resK_some hk
theorem hasS_spec (L : Linked code) (g : Nat) (caps : List HV) (f : List UInt8 → Bool) (tk : Tk) (l : List (List UInt8)) (hl : l.length ≤ 1048577) (H : Heap) (hf : ∀ p ∈ l, ∀ K, K (B (f p)) H → Spec L.P L.ν g (S p :: caps) H K) (K) (hk : K (B (l.any f)) H) :
    Spec L.P L.ν 201 [.sl tk 1 (l.map S), .fn g caps] H K := by
  refine go_spec L code201 rfl ?_
  repeat (refine gk trivial ?_)
  (apply r_call; (focus rfl))
  refine idxS_spec L g caps f tk l hl H hf _ ?_
  repeat (refine gk trivial ?_)
  rw [firstIdx_ge]
  repeat (refine gk trivial ?_)
  exact resK_some hk
theorem bad_spec (L : Linked code) (l : List UInt8) (hl : l.length ≤ 1048576) : Pure L 202 [S l] (B (!nameB l)) := by
  intro H K hk
  refine go_spec L code202 rfl ?_
  repeat (refine gk trivial ?_)
  (apply r_call; (focus rfl))
  refine pname_spec L l hl H _ ?_
  repeat (refine gk trivial ?_)
  exact resK_some hk
theorem pcheck_spec (L : Linked code) (l : List UInt8) (hl : l.length ≤ 1048576) (H : Heap) (K) (hk : ∀ H', Fr [] H H' → K (I (chkP l)) H') : Spec L.P L.ν 192 [S l] H K := by
  have h1 := spl_len l
  unfold chkP at hk
  refine go_spec L code192 rfl ?_
  repeat (refine gk trivial ?_)
  cases c1 : decide ((128 : Int) < (l.length : Int))
  case true =>
    rw [if_pos (by simp only [decide_eq_true_eq] at c1; omega)] at hk
    repeat (refine gk trivial ?_)
    exact resK_some (hk H (Fr.refl _ _))
  rw [if_neg (by simp only [decide_eq_false_iff_not] at c1; omega)] at hk
  repeat (refine gk trivial ?_)
  (apply r_call; (focus rfl))
  refine psplit_spec L l hl H _ fun H1 f1 => ?_
  replace hk := hk H1 f1
  have hm : ∀ s ∈ spl l, s.length ≤ 1048576 := fun s hs => Nat.le_trans (spl_mem hs) hl
  generalize spl l = x at h1 hk hm ⊢
  repeat (refine gk trivial ?_)
  cases c2 : (((x.length : Nat) : Int) == 0)
  case true =>
    have : x = [] := by simp only [beq_iff_eq] at c2; exact List.length_eq_zero_iff.mp (by omega)
    rw [if_neg (by subst this; simp), if_pos this] at hk
    repeat (refine gk trivial ?_)
    exact resK_some hk
  have hx : ¬ x = [] := by rintro rfl; simp at c2
  repeat (refine gk trivial ?_)
  (apply r_call; (focus rfl))
  refine hasS_spec L 202 [] (fun s => !nameB s) .no x (by omega) H1 (fun p hp K hk => bad_spec L p (hm p hp) H1 K hk) _ ?_
  cases c3 : x.any (fun s => !nameB s)
  case true =>
    rw [if_pos c3] at hk
    repeat (refine gk trivial ?_)
    exact resK_some hk
  rw [if_neg (by simp [c3]), if_neg hx] at hk
  repeat (refine gk trivial ?_)
  cases c4 : decide ((8 : Int) < (x.length : Int))
  case true =>
    rw [if_pos (by simp only [decide_eq_true_eq] at c4; omega)] at hk
    repeat (refine gk trivial ?_)
    exact resK_some hk
  rw [if_neg (by simp only [decide_eq_false_iff_not] at c4; omega)] at hk
  repeat (refine gk trivial ?_)
  exact resK_some hk
end Sm

set_option linter.unusedVariables false
set_option linter.unusedSimpArgs false
set_option maxRecDepth 10000
set_option maxHeartbeats 1000000
namespace Sm
open Go
/-- An entry: path, is it a directory, bytes. -/
structure Ent where
  path : List UInt8
  dir : Bool
  data : List UInt8
  deriving DecidableEq, Inhabited
def encE (e : Ent) : HV := .ag [S e.path, B e.dir, .sl .no 1 (e.data.map U)]
-- BASE entU
theorem entU : ∀ e : Ent, encE e = .ag [S e.path, B e.dir, .sl .no 1 (e.data.map U)] := fun _ => rfl
def zE : Ent := ⟨[], false, []⟩
/-- A function that answers, and may make something. -/
def PureF (L : Linked code) (g : Nat) (args : List HV) (r : HV) : Prop := ∀ H K, (∀ H', Fr [] H H' → K r H') → Spec L.P L.ν g args H K
def getR (l : List Ent) (p : List UInt8) : Ent × Bool := match l.find? (fun e => e.path == p) with
  | some e => (e, true)
  | none => (zE, false)
def sameE (a b : Ent) : Bool := (a.path == b.path) && ((a.dir == b.dir) && (a.data == b.data))
theorem Apd.fr0 {H H' : Heap} {tk' : Tk} (h : Apd H H' .full tk') : Fr [] H H' := by simpa [tb] using h.fr
attribute [local irreducible] csem rsem dsem seqK blockK normK finK DK RK JK BR G3 resK Spec Tok Fr

end Sm

set_option linter.unusedVariables false
set_option linter.unusedSimpArgs false
set_option maxRecDepth 10000
set_option maxHeartbeats 1000000
namespace Sm
open Go
-- BASE entU
def okE (e : Ent) : Prop := e.path.length ≤ 1048576 ∧ e.data.length ≤ 1099511627776
def chl (l : List Ent) (p : List UInt8) : List (List UInt8) := (l.filter fun e => parL e.path == p).map (·.path)
def sameT : List Ent → List Ent → Bool
  | [], [] => true
  | a :: as, b :: bs => sameE a b && sameT as bs
  | _, _ => false
attribute [local irreducible] csem rsem dsem seqK blockK normK finK DK RK JK BR G3 resK Spec Tok Fr

end Sm

set_option linter.unusedVariables false
set_option linter.unusedSimpArgs false
set_option maxRecDepth 10000
set_option maxHeartbeats 1000000
namespace Sm
open Go
-- BASE entU
def lastBad (ahead : List Ent) (x : Ent) : Bool := match ahead.getLast? with
  | some y => !lessP y.path x.path
  | none => false
/-- What is wrong with an entry behind others. -/
def chkE (ahead : List Ent) (x : Ent) : Int := if chkP x.path ≠ 0 then chkP x.path else if hpB x.path pre then 6 else if 65536 < x.data.length then 5 else if x.dir && decide (0 < x.data.length) then 9 else if lastBad ahead x then 7 else
  if parL x.path = [] then 0 else if !(getR ahead (parL x.path)).2 then 8 else if !(getR ahead (parL x.path)).1.dir then 9 else 0
def chkAll (ahead : List Ent) : List Ent → Int
  | [] => 0
  | x :: r => if chkE ahead x ≠ 0 then chkE ahead x else chkAll (ahead ++ [x]) r
def chkT (l : List Ent) : Int := if 64 < l.length then 5 else chkAll [] l
attribute [local irreducible] csem rsem dsem seqK blockK normK finK DK RK JK BR G3 resK Spec Tok Fr

end Sm
