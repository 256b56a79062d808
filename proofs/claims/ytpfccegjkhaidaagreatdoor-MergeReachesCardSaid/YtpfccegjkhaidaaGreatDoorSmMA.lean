/-
  A layer of one's own: texts M1,M2,M3,M4,M5.
-/
import Derived.Test.YtpfccegjkhaidaaGreatDoorSmTF
import Derived.Test.YtpfccegjkhaidaaGreatDoorSmLJ
set_option linter.unusedVariables false
set_option linter.unusedSimpArgs false
set_option maxRecDepth 10000
set_option maxHeartbeats 1000000
namespace Sm
open Go
-- BASE entU
/-- Entries by their paths: a map. -/
abbrev KM (H : Heap) (b : Nat) (l : List Ent) : Prop := MP H b Ent.path encE l
theorem r_lkpE {S' : SpecT} {sl : List (Nat × EV)} {bx : List (Nat × List HV)} {H : Heap} {K : Env → Heap → Prop} {os : List SOper} {d b : Nat} {x y : Opd} {l : List Ent} {p : List UInt8} (hM : KM H b l) (hx : (M sl bx).hvs [x, y] = some [.v (.map (some b)), S p])
    (h : rsem S' os (M ((d, .h (.tu [encE (getR l p).1, B (getR l p).2])) :: sl) bx) H K) : rsem S' (⟨some d, .hop (.m (.lkp true true true [.v (.string ⟨#[]⟩), .v (.bool false), .v (.slice none 0 0)])) [x, y], none⟩ :: os) (M sl bx) H K := by
  refine r_mop hx (mp_lkp hM p true true _ (z' := .tu [encE zE, B false]) ?_ ?_)
  · rw [getR] at h
    generalize List.find? (fun e => e.path == p) l = o at h ⊢
    cases o <;> exact h
  · simp only [okd, if_true, mzero]
    exact Weak.tu (bs := [encE zE, B false]) ⟨weak_zE, Weak.refl _, trivial⟩
theorem r_updE {S' : SpecT} {sl : List (Nat × EV)} {bx : List (Nat × List HV)} {H : Heap} {K : Env → Heap → Prop} {os : List SOper} {b : Nat} {x y z : Opd} {l : List Ent} {e : Ent} (hM : KM H b l) (hx : (M sl bx).hvs [x, y, z] = some [.v (.map (some b)), S e.path, encE e])
    (h : ∀ X, KM X b (mput Ent.path l e) → Fr [b] H X → rsem S' os (M sl bx) X K) : rsem S' (⟨none, .hop (.m (.upd true)) [x, y, z], none⟩ :: os) (M sl bx) H K :=
  r_mop0 hx (mp_upd hM e h)
/-- All of a list by their paths. -/
def mputs (m l : List Ent) : List Ent := l.foldl (mput Ent.path) m
theorem mputs_take {l : List Ent} {i : Nat} (h : i < l.length) (m : List Ent) : mputs m (l.take (i + 1)) = mput Ent.path (mputs m (l.take i)) l[i] := by
  rw [mputs, List.take_succ_eq_append_getElem h, List.foldl_append]; rfl
attribute [local irreducible] csem rsem dsem seqK blockK normK finK DK RK JK BR G3 resK Spec Tok Fr

theorem mindex_spec (L : Linked code) (tk : Tk) (l : List Ent) (hl : l.length ≤ 1048576) (H : Heap) (K) (hk : ∀ b X, H b = none → KM X b (mputs [] l) → Fr [] H X → K (.v (.map (some b))) X) : Spec L.P L.ν 255 [.sl tk 3 (l.map encE)] H K := by
  refine go_spec L code255 rfl ?_
  repeat (refine gk entU ?_)
  refine r_mop rfl fun b hb => ?_
  have h0 : KM (H.upd b (some (.mp [] 0))) b [] := MP.new
  have f0 : Fr [] H (H.upd b (some (.mp [] 0))) := Fr.new hb
  generalize H.upd b (some (.mp [] 0)) = X0 at h0 f0
  repeat (refine gk entU ?_)
  refine c_loop (Spec_SMono L) (fun (i : Nat) => [(3, .h (.v (.map (some b)))), (7, .h (.sl tk 3 (l.map encE))), (8, .h (I l.length)), (9, .h (I i))]) (fun _ => [])
    (fun i H' => i ≤ l.length ∧ Fr [] H H' ∧ KM H' b (mputs [] (l.take i))) (fun i => l.length - i) 0 ?_ ⟨by omega, f0, by simpa [mputs] using h0⟩ ?_
  · (refine leM ?_ ?_ ?_ <;> (repeat refine leS trivial ?_) <;> exact leE)
  rintro i H' ⟨hi, hfr, hm⟩
  repeat (refine gk entU ?_)
  (refine ct entU ?_ ?_ <;> intro h)
  · have hi' : i < l.length := by simpa using h
    repeat (refine gk entU ?_)
    apply r_updE (e := l[i]) hm; (focus rfl)
    intro X hX fX
    rw [← mputs_take hi'] at hX
    repeat (refine gk entU ?_)
    refine k_n (i + 1) (by omega) ⟨by omega, hfr.own hb fX, hX⟩ ?_
    (refine leM ?_ ?_ ?_ <;> (repeat refine leS trivial ?_) <;> exact leE)
  · repeat (refine gk entU ?_)
    have hi' : i = l.length := by have : ¬ i < l.length := by simpa using h
                                  omega
    subst hi'
    rw [List.take_length] at hm
    exact resK_some (hk b H' hb hm hfr)
def dirM (l : List Ent) (p : List UInt8) : Bool := p == [] || ((getR l p).2 && (getR l p).1.dir)
theorem dir_spec (L : Linked code) (b : Nat) (l : List Ent) (p : List UInt8) (H : Heap) (hM : KM H b l) (K) (hk : K (B (dirM l p)) H) : Spec L.P L.ν 267 [.v (.map (some b)), S p] H K := by
  unfold dirM at hk
  refine go_spec L code267 rfl ?_
  repeat (refine gk entU ?_)
  apply r_lkpE hM; (focus rfl)
  repeat (refine gk entU ?_)
  cases c1 : (p == [])
  case true =>
    rw [c1] at hk
    repeat (refine gk entU ?_)
    exact resK_some hk
  rw [c1] at hk
  repeat (refine gk entU ?_)
  cases c2 : (getR l p).2
  case false =>
    rw [c2] at hk
    repeat (refine gk entU ?_)
    exact resK_some hk
  rw [c2] at hk
  repeat (refine gk entU ?_)
  exact resK_some hk
def fileM (l : List Ent) (p d : List UInt8) : Bool := (getR l p).2 && (!(getR l p).1.dir && ((getR l p).1.data == d))
theorem file_spec (L : Linked code) (b : Nat) (tk : Tk) (l : List Ent) (p d : List UInt8) (H : Heap) (hM : KM H b l) (K) (hk : K (B (fileM l p d)) H) : Spec L.P L.ν 266 [.v (.map (some b)), S p, .sl tk 1 (d.map U)] H K := by
  unfold fileM at hk
  refine go_spec L code266 rfl ?_
  repeat (refine gk entU ?_)
  apply r_lkpE hM; (focus rfl)
  repeat (refine gk entU ?_)
  cases c1 : (getR l p).2
  case false =>
    rw [c1] at hk
    repeat (refine gk entU ?_)
    exact resK_some hk
  rw [c1] at hk
  repeat (refine gk entU ?_)
  cases c2 : (getR l p).1.dir
  case true =>
    rw [c2] at hk
    simp only [Bool.not_true]
    repeat (refine gk entU ?_)
    exact resK_some hk
  rw [c2] at hk
  simp only [Bool.not_false]
  repeat (refine gk entU ?_)
  (apply r_call; (focus rfl))
  refine beq_spec L .no tk _ _ _ _ ?_
  repeat (refine gk entU ?_)
  exact resK_some hk
end Sm

set_option linter.unusedVariables false
set_option linter.unusedSimpArgs false
set_option maxRecDepth 10000
set_option maxHeartbeats 1000000
namespace Sm
open Go
-- BASE entU
theorem lix_lt (l : List UInt8) (h : l ≠ []) : lix l 47 < l.length := by
  exact (lix_bd l 47).2
theorem parL_lt {l : List UInt8} (h : l ≠ []) : (parL l).length < l.length := by
  have := lix_lt l h
  have := List.length_pos_iff.mpr h
  simp only [parL, List.length_take]; omega
def blkU (l : List Ent) (up : List UInt8) : Bool := if h : up = [] then false else ((getR l up).2 && !(getR l up).1.dir) || blkU l (parL up)
termination_by up.length
decreasing_by exact parL_lt h
def hsB (s p : List UInt8) : Bool := decide (p.length ≤ s.length) && (s.drop (s.length - p.length) == p)
def kepL (p : List UInt8) : List UInt8 := if hsB p [126] || (chkP (p ++ [126]) != 0 || p == []) then [] else p ++ [126]
/-- Two trees, and a policy. -/
structure Bo where
  s : List Ent
  d : List Ent
  del : Bool
  bak : Bool
def stM (b : Bo) (x : Ent) : Bool := if (getR b.s x.path).2 then (if x.dir then (getR b.s x.path).1.dir else fileM b.s x.path x.data) else !b.del && !blkU b.s (parL x.path)
def kpM (b : Bo) (x : Ent) : List UInt8 :=
  if x.dir || (kepL x.path == [] || (!b.bak || stM b x)) then []
  else if (getR b.s (kepL x.path)).2 || dirM b.d (kepL x.path) then []
  else if dirM b.s (parL (kepL x.path)) || ((getR b.d (parL (kepL x.path))).2 && ((getR b.d (parL (kepL x.path))).1.dir && stM b (getR b.d (parL (kepL x.path))).1)) then kepL x.path else []
/-- They, as the program has them: two maps. -/
structure BoH (H : Heap) (ms md : Nat) (b : Bo) : Prop where
  s : KM H ms b.s
  d : KM H md b.d
abbrev boV (ms md : Nat) (b : Bo) : HV := .ag [.v (.map (some ms)), .v (.map (some md)), B b.del, B b.bak]
theorem BoH.fr {H H' : Heap} {bs : List Nat} {ms md : Nat} {b : Bo} (h : BoH H ms md b) (hf : Fr bs H H') (h1 : ms ∉ bs) (h2 : md ∉ bs) : BoH H' ms md b := ⟨h.s.fr hf h1, h.d.fr hf h2⟩
theorem getR_len {l : List Ent} {n : Nat} (h : ∀ e ∈ l, e.path.length ≤ n) (p : List UInt8) : (getR l p).1.path.length ≤ n := by
  rw [getR]
  cases hf : l.find? (fun e => e.path == p) with
  | none => exact Nat.zero_le _
  | some e => exact h e (List.mem_of_find?_eq_some hf)
attribute [local irreducible] csem rsem dsem seqK blockK normK finK DK RK JK BR G3 resK Spec Tok Fr

theorem blocked_spec (L : Linked code) (b : Nat) (l : List Ent) (p : List UInt8) (hp : p.length ≤ 1048576) (H : Heap) (hM : KM H b l) (K) (hk : K (B (blkU l (parL p))) H) : Spec L.P L.ν 265 [.v (.map (some b)), S p] H K := by
  refine go_spec L code265 rfl ?_
  repeat (refine gk entU ?_)
  (apply r_call; (focus rfl))
  refine parent_spec L p hp _ _ ?_
  repeat (refine gk entU ?_)
  refine c_loop (Spec_SMono L) (fun (u : List UInt8) => [(0, .h (.v (.map (some b)))), (5, .h (S u))]) (fun _ => []) (fun u H' => H' = H ∧ u.length ≤ 1048576 ∧ blkU l u = blkU l (parL p)) (fun u => u.length) (parL p) ?_ ⟨rfl, Nat.le_trans (parL_len p) hp, rfl⟩ ?_
  · (refine leM ?_ ?_ ?_ <;> (repeat refine leS trivial ?_) <;> exact leE)
  rintro u H' ⟨rfl, hu, hb⟩
  repeat (refine gk entU ?_)
  cases c1 : (u == [])
  case true =>
    have c1' : u = [] := by simpa using c1
    rw [blkU, dif_pos c1'] at hb
    rw [← hb] at hk
    simp only [Bool.not_true]
    repeat (refine gk entU ?_)
    exact resK_some hk
  have c1' : u ≠ [] := by simpa using c1
  rw [blkU, dif_neg c1'] at hb
  simp only [Bool.not_false]
  repeat (refine gk entU ?_)
  apply r_lkpE hM; (focus rfl)
  repeat (refine gk entU ?_)
  cases c2 : (getR l u).2
  case false =>
    rw [c2] at hb
    simp only [Bool.false_and, Bool.false_or] at hb
    repeat (refine gk entU ?_)
    (apply r_call; (focus rfl))
    refine parent_spec L u hu _ _ ?_
    repeat (refine gk entU ?_)
    refine k_n (parL u) (parL_lt c1') ⟨rfl, Nat.le_trans (parL_len u) hu, hb⟩ ?_
    (refine leM ?_ ?_ ?_ <;> (repeat refine leS trivial ?_) <;> exact leE)
  rw [c2] at hb
  repeat (refine gk entU ?_)
  cases c3 : (getR l u).1.dir
  case false =>
    rw [c3] at hb
    rw [← hb] at hk
    simp only [Bool.not_false]
    repeat (refine gk entU ?_)
    exact resK_some hk
  rw [c3] at hb
  simp only [Bool.not_true, Bool.true_and, Bool.false_or] at hb ⊢
  repeat (refine gk entU ?_)
  (apply r_call; (focus rfl))
  refine parent_spec L u hu _ _ ?_
  repeat (refine gk entU ?_)
  refine k_n (parL u) (parL_lt c1') ⟨rfl, Nat.le_trans (parL_len u) hu, hb⟩ ?_
  (refine leM ?_ ?_ ?_ <;> (repeat refine leS trivial ?_) <;> exact leE)
theorem hs1_spec (L : Linked code) (s p : List UInt8) (h1 : s.length ≤ 1048577) (h2 : p.length ≤ 1048577) : Pure L 271 [S s, S p] (B (hsB s p)) := by
  intro H K hk
  unfold hsB at hk
  refine go_spec L code271 rfl ?_
  repeat (refine gk entU ?_)
  cases c1 : decide ((s.length : Int) ≥ (p.length : Int))
  case false =>
    have : decide (p.length ≤ s.length) = false := by simp only [decide_eq_false_iff_not] at c1 ⊢; omega
    rw [this] at hk
    repeat (refine gk (And.intro entU c1) ?_)
    exact resK_some hk
  have hle : p.length ≤ s.length := by simp only [decide_eq_true_eq] at c1; omega
  rw [decide_eq_true hle] at hk
  repeat (refine gk (And.intro entU c1) ?_)
  have e1 : (((s.length : Int) - (p.length : Int))).toNat = s.length - p.length := by omega
  have e2 : ((s.drop ((((s.length : Int) - (p.length : Int))).toNat)).take ((s.length : Int).toNat - (((s.length : Int) - (p.length : Int))).toNat)) = s.drop (s.length - p.length) := by
    rw [e1]
    exact List.take_of_length_le (by rw [List.length_drop]; omega)
  rw [e2]
  repeat (refine gk entU ?_)
  exact resK_some hk
theorem hs_spec (L : Linked code) (s p : List UInt8) (h1 : s.length ≤ 1048577) (h2 : p.length ≤ 1048577) : Pure L 263 [S s, S p] (B (hsB s p)) := by
  intro H K hk
  refine go_spec L code263 rfl ?_
  repeat (refine gk entU ?_)
  (apply r_call; (focus rfl))
  refine hs1_spec L s p h1 h2 _ _ ?_
  repeat (refine gk entU ?_)
  exact resK_some hk
end Sm

set_option linter.unusedVariables false
set_option linter.unusedSimpArgs false
set_option maxRecDepth 10000
set_option maxHeartbeats 1000000
namespace Sm
open Go
-- BASE entU
theorem r_sadd {S' : SpecT} {sl : List (Nat × EV)} {bx : List (Nat × List HV)} {H : Heap} {K : Env → Heap → Prop} {os : List SOper} {d : Nat} {x y : Opd} {a b : List UInt8} (hx : (M sl bx).hv x = some (S a)) (hy : (M sl bx).hv y = some (S b)) (hl : a.length + b.length ≤ 9223372036854775807)
    (h : rsem S' os (M ((d, .h (S (a ++ b))) :: sl) bx) H K) : rsem S' (⟨some d, .str .add x y, none⟩ :: os) (M sl bx) H K := by
  refine r_calm rfl ?_ h
  have e : (⟨a.toArray⟩ : ByteArray) ++ ⟨b.toArray⟩ = ⟨(a ++ b).toArray⟩ := by
    apply ByteArray.ext
    simp
  simp only [SOp.ev, hx, hy, strOp, ByteArray.size, List.size_toArray]
  rw [if_pos hl, e]; rfl
attribute [local irreducible] csem rsem dsem seqK blockK normK finK DK RK JK BR G3 resK Spec Tok Fr

theorem kept0_spec (L : Linked code) (p : List UInt8) (hp : p.length ≤ 1048575) (H : Heap) (K) (hk : ∀ H', Fr [] H H' → K (S (kepL p)) H') : Spec L.P L.ν 242 [S p] H K := by
  unfold kepL at hk
  refine go_spec L code242 rfl ?_
  repeat (refine gk entU ?_)
  (apply r_call; (focus rfl))
  refine hs_spec L p [126] (by omega) (by decide) _ _ ?_
  cases c1 : hsB p [126]
  case true =>
    rw [c1] at hk
    repeat (refine gk entU ?_)
    exact resK_some (hk H (Fr.refl _ _))
  rw [c1] at hk
  repeat (refine gk entU ?_)
  apply r_sadd (a := p) (b := [126]); (focus rfl); (focus rfl); (focus (simp; omega))
  repeat (refine gk entU ?_)
  (apply r_call; (focus rfl))
  refine pcheck_spec L (p ++ [126]) (by simp; omega) H _ fun H1 f1 => ?_
  cases c2 : (chkP (p ++ [126]) != 0)
  case true =>
    have c2' : decide (chkP (p ++ [126]) ≠ 0) = true := by simpa [bne] using c2
    rw [c2] at hk
    repeat (refine gk (And.intro entU c2) ?_)
    exact resK_some (hk H1 f1)
  rw [c2] at hk
  repeat (refine gk (And.intro entU c2) ?_)
  cases c3 : (p == [])
  case true =>
    rw [c3] at hk
    repeat (refine gk entU ?_)
    exact resK_some (hk H1 f1)
  rw [c3] at hk
  repeat (refine gk entU ?_)
  apply r_sadd (a := p) (b := [126]); (focus rfl); (focus rfl); (focus (simp; omega))
  repeat (refine gk entU ?_)
  exact resK_some (hk H1 f1)
theorem stays_spec (L : Linked code) (ms md : Nat) (b : Bo) (x : Ent) (hx : x.path.length ≤ 1048576) (H : Heap) (hB : BoH H ms md b) (K) (hk : K (B (stM b x)) H) : Spec L.P L.ν 247 [boV ms md b, encE x] H K := by
  unfold stM at hk
  refine go_spec L code247 rfl ?_
  repeat (refine gk entU ?_)
  apply r_lkpE hB.s; (focus rfl)
  repeat (refine gk entU ?_)
  cases c1 : (getR b.s x.path).2
  case false =>
    rw [c1] at hk
    simp only [Bool.false_eq_true, if_false, Bool.not_false] at hk ⊢
    repeat (refine gk entU ?_)
    cases c2 : b.del
    case true =>
      rw [c2] at hk
      simp only [Bool.not_true]
      repeat (refine gk entU ?_)
      exact resK_some hk
    rw [c2] at hk
    simp only [Bool.not_false]
    repeat (refine gk entU ?_)
    (apply r_call; (focus rfl))
    refine blocked_spec L ms b.s x.path hx H hB.s _ ?_
    repeat (refine gk entU ?_)
    exact resK_some hk
  rw [c1] at hk
  simp only [if_true, Bool.not_true] at hk ⊢
  repeat (refine gk entU ?_)
  cases c2 : x.dir
  case true =>
    rw [c2] at hk
    repeat (refine gk entU ?_)
    exact resK_some hk
  rw [c2] at hk
  repeat (refine gk entU ?_)
  (apply r_call; (focus rfl))
  refine file_spec L ms .no b.s x.path x.data H hB.s _ ?_
  repeat (refine gk entU ?_)
  exact resK_some hk
end Sm

set_option linter.unusedVariables false
set_option linter.unusedSimpArgs false
set_option maxRecDepth 10000
set_option maxHeartbeats 1000000
namespace Sm
open Go
-- BASE entU
attribute [local irreducible] csem rsem dsem seqK blockK normK finK DK RK JK BR G3 resK Spec Tok Fr

theorem kept_spec (L : Linked code) (ms md : Nat) (b : Bo) (x : Ent) (hx : x.path.length ≤ 1048575) (hd : ∀ e ∈ b.d, e.path.length ≤ 1048576) (H : Heap) (hB : BoH H ms md b) (K) (hk : ∀ H', Fr [] H H' → K (S (kpM b x)) H') : Spec L.P L.ν 248 [boV ms md b, encE x] H K := by
  have hkl : (kepL x.path).length ≤ 1048576 := by unfold kepL; split <;> simp; omega
  unfold kpM at hk
  refine go_spec L code248 rfl ?_
  repeat (refine gk entU ?_)
  (apply r_call; (focus rfl))
  refine kept0_spec L x.path hx H _ fun H1 f1 => ?_
  have hB1 := hB.fr f1 (by simp) (by simp)
  replace hk : ∀ H', Fr [] H1 H' → K _ H' := fun H' f => hk H' (f1.trans f)
  repeat (refine gk entU ?_)
  cases c1 : x.dir
  case true =>
    rw [c1] at hk
    repeat (refine gk entU ?_)
    exact resK_some (hk H1 (Fr.refl _ _))
  rw [c1] at hk
  repeat (refine gk entU ?_)
  cases c2 : (kepL x.path == [])
  case true =>
    rw [c2] at hk
    repeat (refine gk entU ?_)
    exact resK_some (hk H1 (Fr.refl _ _))
  rw [c2] at hk
  repeat (refine gk entU ?_)
  cases c3 : b.bak
  case false =>
    rw [c3] at hk
    simp only [Bool.not_false]
    repeat (refine gk entU ?_)
    exact resK_some (hk H1 (Fr.refl _ _))
  rw [c3] at hk
  simp only [Bool.not_true]
  repeat (refine gk entU ?_)
  (apply r_call; (focus rfl))
  have hV : boV ms md b = .ag [.v (.map (some ms)), .v (.map (some md)), B b.del, B true] := by rw [boV, c3]
  have hX : HV.ag [S x.path, B false, .sl .no 1 (x.data.map U)] = encE x := by rw [encE, c1]
  rw [← hV, hX]
  refine stays_spec L ms md b x (by omega) H1 hB1 _ ?_
  cases c4 : stM b x
  case true =>
    rw [c4] at hk
    repeat (refine gk entU ?_)
    exact resK_some (hk H1 (Fr.refl _ _))
  rw [c4] at hk
  simp only [Bool.not_true, Bool.or_self, Bool.false_eq_true, if_false] at hk
  repeat (refine gk entU ?_)
  apply r_lkpE hB1.s; (focus rfl)
  repeat (refine gk entU ?_)
  cases c5 : (getR b.s (kepL x.path)).2
  case true =>
    rw [c5] at hk
    repeat (refine gk entU ?_)
    exact resK_some (hk H1 (Fr.refl _ _))
  rw [c5] at hk
  repeat (refine gk entU ?_)
  (apply r_call; (focus rfl))
  refine dir_spec L md b.d (kepL x.path) H1 hB1.d _ ?_
  cases c6 : dirM b.d (kepL x.path)
  case true =>
    rw [c6] at hk
    repeat (refine gk entU ?_)
    exact resK_some (hk H1 (Fr.refl _ _))
  rw [c6] at hk
  simp only [Bool.or_self, Bool.false_eq_true, if_false] at hk
  repeat (refine gk entU ?_)
  (apply r_call; (focus rfl))
  refine parent_spec L (kepL x.path) hkl _ _ ?_
  repeat (refine gk entU ?_)
  apply r_lkpE hB1.d; (focus rfl)
  repeat (refine gk entU ?_)
  (apply r_call; (focus rfl))
  refine dir_spec L ms b.s (parL (kepL x.path)) H1 hB1.s _ ?_
  cases c7 : dirM b.s (parL (kepL x.path))
  case true =>
    rw [c7] at hk
    repeat (refine gk entU ?_)
    exact resK_some (hk H1 (Fr.refl _ _))
  rw [c7] at hk
  repeat (refine gk entU ?_)
  cases c8 : (getR b.d (parL (kepL x.path))).2
  case false =>
    rw [c8] at hk
    repeat (refine gk entU ?_)
    exact resK_some (hk H1 (Fr.refl _ _))
  rw [c8] at hk
  repeat (refine gk entU ?_)
  cases c9 : (getR b.d (parL (kepL x.path))).1.dir
  case false =>
    rw [c9] at hk
    repeat (refine gk entU ?_)
    exact resK_some (hk H1 (Fr.refl _ _))
  rw [c9] at hk
  repeat (refine gk entU ?_)
  (apply r_call; (focus rfl))
  have hE : HV.ag [S (getR b.d (parL (kepL x.path))).1.path, B true, .sl .no 1 ((getR b.d (parL (kepL x.path))).1.data.map U)] = encE (getR b.d (parL (kepL x.path))).1 := by rw [encE, c9]
  rw [hE, ← hV]
  refine stays_spec L ms md b _ (getR_len hd _) H1 hB1 _ ?_
  cases c10 : stM b (getR b.d (parL (kepL x.path))).1
  case false =>
    rw [c10] at hk
    repeat (refine gk entU ?_)
    exact resK_some (hk H1 (Fr.refl _ _))
  rw [c10] at hk
  repeat (refine gk entU ?_)
  exact resK_some (hk H1 (Fr.refl _ _))
end Sm

set_option linter.unusedVariables false
set_option linter.unusedSimpArgs false
set_option maxRecDepth 10000
set_option maxHeartbeats 1000000
namespace Sm
open Go
-- BASE entU
theorem mputs_self {l : List Ent} (h : (l.map Ent.path).Nodup) : mputs [] l = l := by
  have key : ∀ (a b : List Ent), ((a ++ b).map Ent.path).Nodup → mputs a b = a ++ b := by
    intro a b
    induction b generalizing a with
    | nil => intro _; simp [mputs]
    | cons x b ih =>
      intro hn
      have h1 : a.any (fun e => e.path == x.path) = false := by
        rw [List.any_eq_false]
        intro e he hp
        have hp' : e.path = x.path := by simpa using hp
        rw [List.map_append, List.map_cons, List.nodup_append] at hn
        exact hn.2.2 _ (List.mem_map.mpr ⟨e, he, rfl⟩) _ List.mem_cons_self hp'
      have h2 : mput Ent.path a x = a ++ [x] := by rw [mput, h1]; rfl
      show mputs (mput Ent.path a x) b = _
      rw [h2, ih (a ++ [x]) (by simpa using hn)]
      simp
  simpa using key [] l (by simpa using h)
theorem chk_nodup {l : List Ent} (h : chkT l = 0) : (l.map Ent.path).Nodup := by
  rw [List.nodup_iff_pairwise_ne, List.pairwise_map, List.pairwise_iff_getElem]
  intro i j hi hj hij e
  have := path_inj h hi hj e
  omega
attribute [local irreducible] csem rsem dsem seqK blockK normK finK DK RK JK BR G3 resK Spec Tok Fr

theorem wput_spec (L : Linked code) (e : Ent) (c bm : Nat) (l : List Ent) (H : Heap) (hc : H c = some (.obj [.v (.map (some bm))])) (hM : KM H bm l) (K) (hk : ∀ X, KM X bm (mput Ent.path l e) → Fr [bm] H X → K (.tu []) X) : Spec L.P L.ν 246 [encE e, ptr c] H K := by
  refine go_spec L code246 rfl ?_
  repeat (refine gk entU ?_)
  apply r_updE (e := e) hM; (focus rfl)
  intro X h1 h2
  repeat (refine gk entU ?_)
  exact resK_some (hk X h1 h2)
theorem wcmp_spec (L : Linked code) (x y : Ent) (hx : x.path.length ≤ 1048576) (hy : y.path.length ≤ 1048576) : PureF L 250 [encE x, encE y] (I (if lessP x.path y.path then -1 else 1)) := by
  intro H K hk
  refine go_spec L code250 rfl ?_
  repeat (refine gk entU ?_)
  (apply r_call; (focus rfl))
  refine less_spec L x.path y.path hx hy H _ fun H1 f1 => ?_
  cases c1 : lessP x.path y.path
  · rw [c1] at hk
    repeat (refine gk entU ?_)
    exact resK_some (hk H1 f1)
  · rw [c1] at hk
    repeat (refine gk entU ?_)
    exact resK_some (hk H1 f1)
abbrev boZ : HV := .ag [.v (.map none), .v (.map none), B false, B false]
theorem look_spec (L : Linked code) (t1 t2 : Tk) (s d : List Ent) (del bak : Bool) (hs : s.length ≤ 65536) (hd : d.length ≤ 65536) (os : ∀ e ∈ s, okE e) (od : ∀ e ∈ d, okE e) (H : Heap) (K)
    (hk0 : ∀ e, e ≠ 0 → (chkT s = e ∨ chkT s = 0 ∧ chkT d = e) → ∀ H', Fr [] H H' → K (.tu [boZ, I e]) H')
    (hk1 : chkT s = 0 → chkT d = 0 → ∀ ms md X, H ms = none → H md = none → BoH X ms md ⟨s, d, del, bak⟩ → Fr [] H X → K (.tu [boV ms md ⟨s, d, del, bak⟩, I 0]) X) :
    Spec L.P L.ν 245 [.sl t1 3 (s.map encE), .sl t2 3 (d.map encE), .ag [B del, B bak]] H K := by
  refine go_spec L code245 rfl ?_
  repeat (refine gk entU ?_)
  refine r_mop rfl ⟨rfl, by simp [HV.ncells], ?_⟩
  repeat (refine gk entU ?_)
  refine c_loop (Spec_SMono L) (fun (i : Nat) => [(0, .h (.sl t1 3 (s.map encE))), (1, .h (.sl t2 3 (d.map encE))), (5, .lp 0 0), (6, .lp 1 0), (13, .h (.ag [.sl t1 3 (s.map encE), .sl t2 3 (d.map encE)])), (14, .h (I i))])
    (fun _ => [(0, [B del, B bak]), (1, [.v (.map none), .v (.map none), .v (.bool false), .v (.bool false)])])
    (fun i H' => i ≤ 2 ∧ Fr [] H H' ∧ (1 ≤ i → chkT s = 0) ∧ (2 ≤ i → chkT d = 0)) (fun i => 2 - i) 0 ?_ ⟨by omega, Fr.refl _ _, by omega, by omega⟩ ?_
  · (refine leM ?_ ?_ ?_ <;> (repeat refine leS trivial ?_) <;> exact leE)
  rintro i H1 ⟨hi, f1, q1, q2⟩
  rcases (by omega : i = 0 ∨ i = 1 ∨ i = 2) with rfl | rfl | rfl
  · repeat (refine gk entU ?_)
    refine r_mop rfl ⟨by decide, by decide, .sl t1 3 (s.map encE), rfl, ?_⟩
    repeat (refine gk entU ?_)
    (apply r_call; (focus rfl))
    refine check_spec L t1 s (by omega) os H1 _ fun H2 f2 => ?_
    repeat (refine gk entU ?_)
    cases c1 : (chkT s != 0)
    case true =>
      have c1' : chkT s ≠ 0 := by simpa [bne] using c1
      repeat (refine gk entU ?_)
      exact resK_some (hk0 _ c1' (.inl rfl) H2 (f1.trans f2))
    have c1' : chkT s = 0 := by simpa [bne] using c1
    repeat (refine gk entU ?_)
    refine k_n 1 (by omega) ⟨by omega, f1.trans f2, fun _ => c1', by omega⟩ ?_
    (refine leM ?_ ?_ ?_ <;> (repeat refine leS trivial ?_) <;> exact leE)
  · repeat (refine gk entU ?_)
    refine r_mop rfl ⟨by decide, by decide, .sl t2 3 (d.map encE), rfl, ?_⟩
    repeat (refine gk entU ?_)
    (apply r_call; (focus rfl))
    refine check_spec L t2 d (by omega) od H1 _ fun H2 f2 => ?_
    repeat (refine gk entU ?_)
    cases c1 : (chkT d != 0)
    case true =>
      have c1' : chkT d ≠ 0 := by simpa [bne] using c1
      repeat (refine gk entU ?_)
      exact resK_some (hk0 _ c1' (.inr ⟨q1 (by omega), rfl⟩) H2 (f1.trans f2))
    have c1' : chkT d = 0 := by simpa [bne] using c1
    repeat (refine gk entU ?_)
    refine k_n 2 (by omega) ⟨by omega, f1.trans f2, fun _ => q1 (by omega), fun _ => c1'⟩ ?_
    (refine leM ?_ ?_ ?_ <;> (repeat refine leS trivial ?_) <;> exact leE)
  · have hcs := q1 (by omega)
    have hcd := q2 (by omega)
    repeat (refine gk entU ?_)
    (apply r_call; (focus rfl))
    refine mindex_spec L t1 s (by omega) H1 _ fun ms X1 hms hX1 g1 => ?_
    rw [mputs_self (chk_nodup hcs)] at hX1
    repeat (refine gk entU ?_)
    (apply r_call; (focus rfl))
    refine mindex_spec L t2 d (by omega) X1 _ fun md X2 hmd hX2 g2 => ?_
    rw [mputs_self (chk_nodup hcd)] at hX2
    repeat (refine gk entU ?_)
    exact resK_some (hk1 hcs hcd ms md X2 (f1.none hms) ((f1.trans g1).none hmd) ⟨hX1.fr g2 (by simp), hX2⟩ ((f1.trans g1).trans g2))
end Sm
