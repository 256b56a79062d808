/-
  A layer of one's own: texts M10,M11,M12,M13.
-/
import Derived.Test.YtpfccegjkhaidaaGreatDoorSmMB
import Derived.Test.YtpfccegjkhaidaaGreatDoorSmTE
set_option linter.unusedVariables false
set_option linter.unusedSimpArgs false
set_option maxRecDepth 10000
set_option maxHeartbeats 1000000
namespace Sm
open Go
-- BASE entU
attribute [local irreducible] csem rsem dsem seqK blockK normK finK DK RK JK BR G3 resK Spec Tok Fr

theorem rkept0_spec (L : Linked code) (p : List UInt8) (hp : p.length ≤ 1048575) (H : Heap) (K) (hk : ∀ H', Fr [] H H' → K (S (rkep p)) H') : Spec L.P L.ν 254 [S p] H K := by
  unfold rkep at hk
  refine go_spec L code254 rfl ?_
  repeat (refine gk entU ?_)
  cases c1 : (p == [])
  case true =>
    rw [c1] at hk
    simp only [Bool.true_or, if_true] at hk
    repeat (refine gk entU ?_)
    exact resK_some (hk H (Fr.refl _ _))
  rw [c1] at hk
  have hpos : 0 < p.length := by
    cases p with
    | nil => exact absurd c1 (by decide)
    | cons a t => simp
  have hge : p.getLast? = some p[p.length - 1] := by rw [List.getLast?_eq_getElem?]; exact List.getElem?_eq_getElem (by omega)
  repeat (refine gk entU ?_)
  apply r_sidx (j := p.length - 1); (focus rfl); (focus rfl); (focus omega); (focus exact List.getElem?_eq_getElem (by omega))
  repeat (refine gk entU ?_)
  rw [show (126 : Int) = ((126 : UInt8).toNat : Int) from rfl, byte_eq]
  cases c2 : (p[p.length - 1] == 126)
  case true =>
    have c2' : (p.getLast? == some 126) = true := by rw [hge]; simpa using c2
    rw [c2'] at hk
    simp only [Bool.true_or, Bool.or_true, if_true] at hk
    repeat (refine gk entU ?_)
    exact resK_some (hk H (Fr.refl _ _))
  have c2' : (p.getLast? == some 126) = false := by rw [hge]; simpa using c2
  rw [c2'] at hk
  simp only [Bool.false_or] at hk
  repeat (refine gk entU ?_)
  apply r_sadd (a := p) (b := [126]); (focus rfl); (focus rfl); (focus (simp; omega))
  repeat (refine gk entU ?_)
  (apply r_call; (focus rfl))
  refine rcheck_spec L (p ++ [126]) (by simp; omega) H _ fun H1 f1 => ?_
  cases c3 : (chkP (p ++ [126]) != 0)
  case true =>
    rw [c3] at hk
    repeat (refine gk (And.intro entU c3) ?_)
    exact resK_some (hk H1 f1)
  rw [c3] at hk
  simp only [Bool.false_eq_true, if_false] at hk
  repeat (refine gk (And.intro entU c3) ?_)
  apply r_sadd (a := p) (b := [126]); (focus rfl); (focus rfl); (focus (simp; omega))
  repeat (refine gk entU ?_)
  exact resK_some (hk H1 f1)

theorem rkept_spec (L : Linked code) (t1 t2 : Tk) (s d : List Ent) (x : Ent) (del bak : Bool) (hs : s.length ≤ 1048576) (hd : d.length ≤ 1048576) (hx : x.path.length ≤ 1048575) (hdp : ∀ e ∈ d, e.path.length ≤ 1048576) (H : Heap) (K) (hk : ∀ H', Fr [] H H' → K (B (rkp s d del bak x)) H') :
    Spec L.P L.ν 253 [.sl t1 3 (s.map encE), .sl t2 3 (d.map encE), encE x, .ag [B del, B bak]] H K := by
  have hkl : (rkep x.path).length ≤ 1048576 := by unfold rkep; split <;> simp; omega
  unfold rkp at hk
  refine go_spec L code253 rfl ?_
  repeat (refine gk entU ?_)
  (apply r_call; (focus rfl))
  refine rkept0_spec L x.path hx H _ fun H1 f1 => ?_
  replace hk : ∀ H', Fr [] H1 H' → K _ H' := fun H' f => hk H' (f1.trans f)
  repeat (refine gk entU ?_)
  have hX : HV.ag [S x.path, B x.dir, .sl .no 1 (x.data.map U)] = encE x := rfl
  cases c1 : x.dir
  case true =>
    rw [c1] at hk
    simp only [Bool.true_or, if_true] at hk
    repeat (refine gk entU ?_)
    exact resK_some (hk H1 (Fr.refl _ _))
  rw [c1] at hk
  rw [c1] at hX
  simp only [Bool.false_or] at hk
  repeat (refine gk entU ?_)
  (apply r_call; (focus rfl))
  rw [hX]
  refine rstays_spec L t1 s x del bak hs (by omega) _ _ ?_
  cases c2 : rst s del x
  case true =>
    rw [c2] at hk
    simp only [Bool.true_or, if_true] at hk
    repeat (refine gk entU ?_)
    exact resK_some (hk H1 (Fr.refl _ _))
  rw [c2] at hk
  simp only [Bool.false_or] at hk
  repeat (refine gk entU ?_)
  cases c3 : bak
  case false =>
    rw [c3] at hk
    simp only [Bool.not_false, Bool.true_or, if_true] at hk
    simp only [Bool.not_false]
    repeat (refine gk entU ?_)
    exact resK_some (hk H1 (Fr.refl _ _))
  rw [c3] at hk
  simp only [Bool.not_true, Bool.false_or] at hk
  simp only [Bool.not_true]
  repeat (refine gk entU ?_)
  cases c4 : (rkep x.path == [])
  case true =>
    rw [c4] at hk
    simp only [if_true] at hk
    repeat (refine gk entU ?_)
    exact resK_some (hk H1 (Fr.refl _ _))
  rw [c4] at hk
  simp only [Bool.false_eq_true, if_false] at hk
  repeat (refine gk entU ?_)
  (apply r_call; (focus rfl))
  refine rget_spec L t1 s _ hs _ _ ?_
  repeat (refine gk entU ?_)
  (apply r_call; (focus rfl))
  refine rget_spec L t2 d _ hd _ _ ?_
  repeat (refine gk entU ?_)
  cases c5 : (getR s (rkep x.path)).2
  case true =>
    rw [c5] at hk
    simp only [Bool.true_or, if_true] at hk
    repeat (refine gk entU ?_)
    exact resK_some (hk H1 (Fr.refl _ _))
  rw [c5] at hk
  simp only [Bool.false_or] at hk
  repeat (refine gk entU ?_)
  cases c6 : (getR d (rkep x.path)).2
  case true =>
    rw [c6] at hk
    simp only [Bool.true_and] at hk
    repeat (refine gk entU ?_)
    cases c7 : (getR d (rkep x.path)).1.dir
    case true =>
      rw [c7] at hk
      simp only [if_true] at hk
      repeat (refine gk entU ?_)
      exact resK_some (hk H1 (Fr.refl _ _))
    rw [c7] at hk
    simp only [Bool.false_eq_true, if_false] at hk
    repeat (refine gk entU ?_)
    (apply r_call; (focus rfl))
    refine rparent_spec L _ hkl _ _ ?_
    repeat (refine gk entU ?_)
    cases d1 : (parL (rkep x.path) == [])
    case true =>
      rw [d1] at hk
      simp only [if_true] at hk
      repeat (refine gk entU ?_)
      exact resK_some (hk H1 (Fr.refl _ _))
    rw [d1] at hk
    simp only [Bool.false_eq_true, if_false] at hk
    repeat (refine gk entU ?_)
    (apply r_call; (focus rfl))
    refine rget_spec L t1 s _ hs _ _ ?_
    repeat (refine gk entU ?_)
    (apply r_call; (focus rfl))
    refine rget_spec L t2 d _ hd _ _ ?_
    repeat (refine gk entU ?_)
    cases d2 : (getR s (parL (rkep x.path))).2 && (getR s (parL (rkep x.path))).1.dir
    case true =>
      rw [d2] at hk
      simp only [Bool.true_or] at hk
      rw [Bool.and_eq_true] at d2
      simp only [d2.1, d2.2]
      repeat (refine gk entU ?_)
      exact resK_some (hk H1 (Fr.refl _ _))
    rw [d2] at hk
    simp only [Bool.false_or] at hk
    cases d3 : (getR s (parL (rkep x.path))).2
    case false =>
      repeat (refine gk entU ?_)
      cases d4 : (getR d (parL (rkep x.path))).2
      case false =>
        rw [d4] at hk
        simp only [Bool.false_and] at hk
        repeat (refine gk entU ?_)
        exact resK_some (hk H1 (Fr.refl _ _))
      rw [d4] at hk
      simp only [Bool.true_and] at hk
      repeat (refine gk entU ?_)
      cases d5 : (getR d (parL (rkep x.path))).1.dir
      case false =>
        rw [d5] at hk
        simp only [Bool.false_and] at hk
        repeat (refine gk entU ?_)
        exact resK_some (hk H1 (Fr.refl _ _))
      rw [d5] at hk
      simp only [Bool.true_and] at hk
      repeat (refine gk entU ?_)
      (apply r_call; (focus rfl))
      have hE : HV.ag [S (getR d (parL (rkep x.path))).1.path, B true, .sl .no 1 ((getR d (parL (rkep x.path))).1.data.map U)] = encE (getR d (parL (rkep x.path))).1 := by rw [encE, d5]
      rw [hE]
      refine rstays_spec L t1 s _ del true hs (getR_len hdp _) _ _ ?_
      cases d6 : rst s del (getR d (parL (rkep x.path))).1
      case false =>
        rw [d6] at hk
        repeat (refine gk entU ?_)
        exact resK_some (hk H1 (Fr.refl _ _))
      rw [d6] at hk
      repeat (refine gk entU ?_)
      exact resK_some (hk H1 (Fr.refl _ _))
    rw [d3] at d2
    simp only [Bool.true_and] at d2
    simp only [d2]
    repeat (refine gk entU ?_)
    cases d4 : (getR d (parL (rkep x.path))).2
    case false =>
      rw [d4] at hk
      simp only [Bool.false_and] at hk
      repeat (refine gk entU ?_)
      exact resK_some (hk H1 (Fr.refl _ _))
    rw [d4] at hk
    simp only [Bool.true_and] at hk
    repeat (refine gk entU ?_)
    cases d5 : (getR d (parL (rkep x.path))).1.dir
    case false =>
      rw [d5] at hk
      simp only [Bool.false_and] at hk
      repeat (refine gk entU ?_)
      exact resK_some (hk H1 (Fr.refl _ _))
    rw [d5] at hk
    simp only [Bool.true_and] at hk
    repeat (refine gk entU ?_)
    (apply r_call; (focus rfl))
    have hE : HV.ag [S (getR d (parL (rkep x.path))).1.path, B true, .sl .no 1 ((getR d (parL (rkep x.path))).1.data.map U)] = encE (getR d (parL (rkep x.path))).1 := by rw [encE, d5]
    rw [hE]
    refine rstays_spec L t1 s _ del true hs (getR_len hdp _) _ _ ?_
    cases d6 : rst s del (getR d (parL (rkep x.path))).1
    case false =>
      rw [d6] at hk
      repeat (refine gk entU ?_)
      exact resK_some (hk H1 (Fr.refl _ _))
    rw [d6] at hk
    repeat (refine gk entU ?_)
    exact resK_some (hk H1 (Fr.refl _ _))
  rw [c6] at hk
  simp only [Bool.false_and, Bool.false_eq_true, if_false] at hk
  repeat (refine gk entU ?_)
  (apply r_call; (focus rfl))
  refine rparent_spec L _ hkl _ _ ?_
  repeat (refine gk entU ?_)
  cases d1 : (parL (rkep x.path) == [])
  case true =>
    rw [d1] at hk
    simp only [if_true] at hk
    repeat (refine gk entU ?_)
    exact resK_some (hk H1 (Fr.refl _ _))
  rw [d1] at hk
  simp only [Bool.false_eq_true, if_false] at hk
  repeat (refine gk entU ?_)
  (apply r_call; (focus rfl))
  refine rget_spec L t1 s _ hs _ _ ?_
  repeat (refine gk entU ?_)
  (apply r_call; (focus rfl))
  refine rget_spec L t2 d _ hd _ _ ?_
  repeat (refine gk entU ?_)
  cases d2 : (getR s (parL (rkep x.path))).2 && (getR s (parL (rkep x.path))).1.dir
  case true =>
    rw [d2] at hk
    simp only [Bool.true_or] at hk
    rw [Bool.and_eq_true] at d2
    simp only [d2.1, d2.2]
    repeat (refine gk entU ?_)
    exact resK_some (hk H1 (Fr.refl _ _))
  rw [d2] at hk
  simp only [Bool.false_or] at hk
  cases d3 : (getR s (parL (rkep x.path))).2
  case false =>
    repeat (refine gk entU ?_)
    cases d4 : (getR d (parL (rkep x.path))).2
    case false =>
      rw [d4] at hk
      simp only [Bool.false_and] at hk
      repeat (refine gk entU ?_)
      exact resK_some (hk H1 (Fr.refl _ _))
    rw [d4] at hk
    simp only [Bool.true_and] at hk
    repeat (refine gk entU ?_)
    cases d5 : (getR d (parL (rkep x.path))).1.dir
    case false =>
      rw [d5] at hk
      simp only [Bool.false_and] at hk
      repeat (refine gk entU ?_)
      exact resK_some (hk H1 (Fr.refl _ _))
    rw [d5] at hk
    simp only [Bool.true_and] at hk
    repeat (refine gk entU ?_)
    (apply r_call; (focus rfl))
    have hE : HV.ag [S (getR d (parL (rkep x.path))).1.path, B true, .sl .no 1 ((getR d (parL (rkep x.path))).1.data.map U)] = encE (getR d (parL (rkep x.path))).1 := by rw [encE, d5]
    rw [hE]
    refine rstays_spec L t1 s _ del true hs (getR_len hdp _) _ _ ?_
    cases d6 : rst s del (getR d (parL (rkep x.path))).1
    case false =>
      rw [d6] at hk
      repeat (refine gk entU ?_)
      exact resK_some (hk H1 (Fr.refl _ _))
    rw [d6] at hk
    repeat (refine gk entU ?_)
    exact resK_some (hk H1 (Fr.refl _ _))
  rw [d3] at d2
  simp only [Bool.true_and] at d2
  simp only [d2]
  repeat (refine gk entU ?_)
  cases d4 : (getR d (parL (rkep x.path))).2
  case false =>
    rw [d4] at hk
    simp only [Bool.false_and] at hk
    repeat (refine gk entU ?_)
    exact resK_some (hk H1 (Fr.refl _ _))
  rw [d4] at hk
  simp only [Bool.true_and] at hk
  repeat (refine gk entU ?_)
  cases d5 : (getR d (parL (rkep x.path))).1.dir
  case false =>
    rw [d5] at hk
    simp only [Bool.false_and] at hk
    repeat (refine gk entU ?_)
    exact resK_some (hk H1 (Fr.refl _ _))
  rw [d5] at hk
  simp only [Bool.true_and] at hk
  repeat (refine gk entU ?_)
  (apply r_call; (focus rfl))
  have hE : HV.ag [S (getR d (parL (rkep x.path))).1.path, B true, .sl .no 1 ((getR d (parL (rkep x.path))).1.data.map U)] = encE (getR d (parL (rkep x.path))).1 := by rw [encE, d5]
  rw [hE]
  refine rstays_spec L t1 s _ del true hs (getR_len hdp _) _ _ ?_
  cases d6 : rst s del (getR d (parL (rkep x.path))).1
  case false =>
    rw [d6] at hk
    repeat (refine gk entU ?_)
    exact resK_some (hk H1 (Fr.refl _ _))
  rw [d6] at hk
  repeat (refine gk entU ?_)
  exact resK_some (hk H1 (Fr.refl _ _))
end Sm

set_option linter.unusedVariables false
set_option linter.unusedSimpArgs false
set_option maxRecDepth 10000
set_option maxHeartbeats 1000000
namespace Sm
open Go
-- BASE entU
theorem st12_len (x : Ent) (s : List Ent × Bool) (e : Ent) : (st2 x (st1 x s e) e).1.length + (if (st2 x (st1 x s e) e).2 then 0 else 1) ≤ s.1.length + (if s.2 then 0 else 1) + 1 := by
  obtain ⟨a, b⟩ := s
  unfold st2 st1
  cases b <;> cases lessP e.path x.path <;> cases e.path == x.path <;> simp
theorem rout_len1 (l : List Ent) (x : Ent) : ∀ i, i ≤ l.length → (rout l x i).1.length + (if (rout l x i).2 then 0 else 1) ≤ i + 1
  | 0, _ => by simp [rout]
  | i + 1, h => by
    rw [rout_succ (by omega)]
    have h1 := rout_len1 l x i (by omega)
    have h2 := st12_len x (rout l x i) (l[i]'(by omega))
    omega
theorem rputL_len1 (l : List Ent) (x : Ent) : (rputL l x).length ≤ l.length + 1 := by
  have := rout_len1 l x l.length (Nat.le_refl _)
  unfold rputL
  split
  · omega
  · rename_i h
    rw [if_neg h] at this
    simp; omega
def v1 (s : List Ent) (del : Bool) (l m : List Ent) : List Ent := l.foldl (fun m x => if rst s del x then rputL m x else m) m
def v2 (s d : List Ent) (del bak : Bool) (l m : List Ent) : List Ent := l.foldl (fun m x => if rkp s d del bak x then rputL m ⟨rkep x.path, false, x.data⟩ else m) m
def v3 (l m : List Ent) : List Ent := l.foldl rputL m
/-- The reference's list of what is wanted. -/
def vant (s d : List Ent) (del bak : Bool) : List Ent := v3 s (v2 s d del bak d (v1 s del d []))
theorem v1_take {s : List Ent} {del : Bool} {l : List Ent} {i : Nat} (h : i < l.length) (m : List Ent) : v1 s del (l.take (i + 1)) m = if rst s del l[i] then rputL (v1 s del (l.take i) m) l[i] else v1 s del (l.take i) m := by
  rw [v1, List.take_succ_eq_append_getElem h, List.foldl_append]; rfl
theorem v2_take {s d : List Ent} {del bak : Bool} {l : List Ent} {i : Nat} (h : i < l.length) (m : List Ent) : v2 s d del bak (l.take (i + 1)) m = if rkp s d del bak l[i] then rputL (v2 s d del bak (l.take i) m) ⟨rkep l[i].path, false, l[i].data⟩ else v2 s d del bak (l.take i) m := by
  rw [v2, List.take_succ_eq_append_getElem h, List.foldl_append]; rfl
theorem v3_take {l : List Ent} {i : Nat} (h : i < l.length) (m : List Ent) : v3 (l.take (i + 1)) m = rputL (v3 (l.take i) m) l[i] := by
  rw [v3, List.take_succ_eq_append_getElem h, List.foldl_append]; rfl
theorem rkep_len {x : Ent} (hx : okP x) : (rkep x.path).length ≤ 1001 := by
  have := hx.1
  unfold rkep
  split <;> simp <;> omega
/-- A list of words, and how many. -/
def VW2 (m : List Ent) (n : Nat) : Prop := m.length ≤ n ∧ ∀ e ∈ m, okW e
theorem VW2.put {m : List Ent} {n : Nat} {x : Ent} (h : VW2 m n) (hx : okW x) : VW2 (rputL m x) (n + 1) :=
  ⟨Nat.le_trans (rputL_len1 m x) (Nat.succ_le_succ h.1), fun e he => (rputL_mem he).elim (h.2 e) fun he => he ▸ hx⟩
theorem VW2.mono {m : List Ent} {n k : Nat} (h : VW2 m n) (hk : n ≤ k) : VW2 m k := ⟨Nat.le_trans h.1 hk, h.2⟩
theorem v1_ok {s : List Ent} {del : Bool} : ∀ {l m : List Ent} {n : Nat}, (∀ e ∈ l, okP e) → VW2 m n → VW2 (v1 s del l m) (n + l.length)
  | [], m, n, _, hm => hm
  | x :: l, m, n, hl, hm => by
    show VW2 (v1 s del l (if rst s del x then rputL m x else m)) _
    have hx := (hl x (by simp)).w
    refine VW2.mono (v1_ok (n := n + 1) (fun e he => hl e (by simp [he])) ?_) (by simp; omega)
    split
    · exact hm.put hx
    · exact hm.mono (by omega)
theorem v2_ok {s d : List Ent} {del bak : Bool} : ∀ {l m : List Ent} {n : Nat}, (∀ e ∈ l, okP e) → VW2 m n → VW2 (v2 s d del bak l m) (n + l.length)
  | [], m, n, _, hm => hm
  | x :: l, m, n, hl, hm => by
    show VW2 (v2 s d del bak l (if rkp s d del bak x then rputL m ⟨rkep x.path, false, x.data⟩ else m)) _
    have hx := hl x (by simp)
    refine VW2.mono (v2_ok (n := n + 1) (fun e he => hl e (by simp [he])) ?_) (by simp; omega)
    split
    · exact hm.put ⟨rkep_len hx, hx.2⟩
    · exact hm.mono (by omega)
theorem v3_ok : ∀ {l m : List Ent} {n : Nat}, (∀ e ∈ l, okP e) → VW2 m n → VW2 (v3 l m) (n + l.length)
  | [], m, n, _, hm => hm
  | x :: l, m, n, hl, hm => by
    show VW2 (v3 l (rputL m x)) _
    exact VW2.mono (v3_ok (n := n + 1) (fun e he => hl e (by simp [he])) (hm.put (hl x (by simp)).w)) (by simp; omega)
def rWant (s d : List Ent) (del bak : Bool) : List Ent × Int := if chkT s ≠ 0 then ([], chkT s) else if chkT d ≠ 0 then ([], chkT d) else if 64 < (vant s d del bak).length then ([], 10) else (vant s d del bak, 0)
attribute [local irreducible] csem rsem dsem seqK blockK normK finK DK RK JK BR G3 resK Spec Tok Fr

theorem rwant_spec (L : Linked code) (t1 t2 : Tk) (s d : List Ent) (del bak : Bool) (hs : s.length ≤ 16384) (hd : d.length ≤ 16384) (os : ∀ e ∈ s, okP e) (od : ∀ e ∈ d, okP e) :
    PureF L 236 [.sl t1 3 (s.map encE), .sl t2 3 (d.map encE), .ag [B del, B bak]] (.tu [.sl .no 3 ((rWant s d del bak).1.map encE), I (rWant s d del bak).2]) := by
  intro H K hk
  have hdp : ∀ e ∈ d, e.path.length ≤ 1048576 := fun e he => (od e he).e.1
  refine go_spec L code236 rfl ?_
  repeat (refine gk entU ?_)
  (apply r_call; (focus rfl))
  refine tcheck_spec L t1 s (by omega) (fun e he => (os e he).e) H _ fun H1 f1 => ?_
  repeat (refine gk entU ?_)
  have herr : ∀ X e, Fr [] H X → e ≠ 0 → rWant s d del bak = ([], e) → K (.tu [.sl .no 3 [], I e]) X := fun X e f he h => by
    have := hk X f
    rw [h] at this
    exact this
  cases c1 : (chkT s == 0)
  case false =>
    have c1' : chkT s ≠ 0 := by simpa using c1
    have c1'' : (chkT s != 0) = true := by simpa [bne] using c1
    repeat (refine gk (And.intro entU c1'') ?_)
    exact resK_weak (Weak.tu (bs := [.sl .no 3 [], I (chkT s)]) ⟨Weak.nil' 3, Weak.refl _, trivial⟩) (herr H1 _ f1 c1' (by rw [rWant, if_pos c1']))
  have c1' : chkT s = 0 := by simpa using c1
  rw [c1']
  repeat (refine gk entU ?_)
  (apply r_call; (focus rfl))
  refine tcheck_spec L t2 d (by omega) (fun e he => (od e he).e) H1 _ fun H2 f2 => ?_
  repeat (refine gk entU ?_)
  cases c2 : (chkT d != 0)
  case true =>
    have c2' : chkT d ≠ 0 := by simpa [bne] using c2
    repeat (refine gk entU ?_)
    exact resK_weak (Weak.tu (bs := [.sl .no 3 [], I (chkT d)]) ⟨Weak.nil' 3, Weak.refl _, trivial⟩) (herr H2 _ (f1.trans f2) c2' (by rw [rWant, if_neg (by rw [c1']; decide), if_pos c2']))
  have c2' : chkT d = 0 := by simpa [bne] using c2
  have hf2 := f1.trans f2
  have hw : rWant s d del bak = if 64 < (vant s d del bak).length then ([], 10) else (vant s d del bak, 0) := by rw [rWant, if_neg (by rw [c1']; decide), if_neg (by rw [c2']; decide)]
  rw [hw] at hk
  clear hw herr f1 f2 c1 c1' c2'
  repeat (refine gk entU ?_)
  have hm0 : VW2 [] 0 := ⟨Nat.le_refl _, by simp⟩
  refine c_loop (Spec_SMono L) (fun (i : Nat) => [(0, .h (.sl t1 3 (s.map encE))), (1, .h (.sl t2 3 (d.map encE))), (5, .lp 0 0), (9, .h (.sl .no 3 ((v1 s del (d.take i) []).map encE))), (10, .h (I i))])
    (fun _ => [(0, [B del, B bak])]) (fun i X => i ≤ d.length ∧ Fr [] H X) (fun i => d.length - i) 0 ?_ ⟨by omega, hf2⟩ ?_
  · (refine leM ?_ ?_ ?_ <;> (repeat refine leS trivial ?_) <;> exact leE)
  rintro i X ⟨hi, hf⟩
  repeat (refine gk entU ?_)
  (refine ct entU ?_ ?_ <;> intro h)
  · have hi' : i < d.length := by simpa using h
    have hwt := v1_take (s := s) (del := del) hi' []
    have hdi := od _ (List.getElem_mem hi')
    have hmi : VW2 (v1 s del (d.take i) []) (0 + (d.take i).length) := v1_ok (fun e he => od e (List.mem_of_mem_take he)) hm0
    rw [List.length_take] at hmi
    repeat (refine gk entU ?_)
    (apply r_call; (focus rfl))
    refine rstays_spec L t1 s d[i] del bak (by omega) hdi.e.1 _ _ ?_
    cases c1 : rst s del d[i]
    case false =>
      rw [c1] at hwt
      simp only [Bool.false_eq_true, if_false] at hwt
      repeat (refine gk entU ?_)
      refine k_n (i + 1) (by omega) ⟨by omega, hf⟩ ?_
      (refine leM ?_ ?_ ?_ <;> (repeat refine leS (And.intro entU hwt) ?_) <;> exact leE)
    rw [c1] at hwt
    simp only [if_true] at hwt
    repeat (refine gk entU ?_)
    (apply r_call; (focus rfl))
    refine laid_spec L .no _ d[i] (by have := hmi.1; omega) (fun e he => (hmi.2 e he).e) hdi.e X _ fun X1 g1 => ?_
    repeat (refine gk entU ?_)
    refine k_n (i + 1) (by omega) ⟨by omega, hf.trans g1⟩ ?_
    (refine leM ?_ ?_ ?_ <;> (repeat refine leS (And.intro entU hwt) ?_) <;> exact leE)
  have hi' : i = d.length := by have : ¬ i < d.length := by simpa using h
                                omega
  subst hi'
  rw [List.take_length]
  have hm1 : VW2 (v1 s del d []) d.length := by simpa using v1_ok (s := s) (del := del) od hm0
  generalize hq1 : v1 s del d [] = q1 at hm1
  repeat (refine gk entU ?_)
  refine c_loop (Spec_SMono L) (fun (i : Nat) => [(0, .h (.sl t1 3 (s.map encE))), (1, .h (.sl t2 3 (d.map encE))), (5, .lp 0 0), (9, .h (.sl .no 3 ((v2 s d del bak (d.take i) q1).map encE))), (11, .h (I i))])
    (fun _ => [(0, [B del, B bak])]) (fun i X => i ≤ d.length ∧ Fr [] H X) (fun i => d.length - i) 0 ?_ ⟨by omega, hf⟩ ?_
  · (refine leM ?_ ?_ ?_ <;> (repeat refine leS trivial ?_) <;> exact leE)
  clear hf hi h
  rintro i X ⟨hi, hf⟩
  repeat (refine gk entU ?_)
  (refine ct entU ?_ ?_ <;> intro h)
  · have hi' : i < d.length := by simpa using h
    have hwt := v2_take (s := s) (d := d) (del := del) (bak := bak) hi' q1
    have hdi := od _ (List.getElem_mem hi')
    have hmi : VW2 (v2 s d del bak (d.take i) q1) (d.length + (d.take i).length) := v2_ok (fun e he => od e (List.mem_of_mem_take he)) hm1
    rw [List.length_take] at hmi
    repeat (refine gk entU ?_)
    (apply r_call; (focus rfl))
    refine rkept_spec L t1 t2 s d d[i] del bak (by omega) (by omega) (Nat.le_trans hdi.1 (by decide)) hdp _ _ fun X1 g1 => ?_
    have hf1 := hf.trans g1
    cases c1 : rkp s d del bak d[i]
    case false =>
      rw [c1] at hwt
      simp only [Bool.false_eq_true, if_false] at hwt
      repeat (refine gk entU ?_)
      refine k_n (i + 1) (by omega) ⟨by omega, hf1⟩ ?_
      (refine leM ?_ ?_ ?_ <;> (repeat refine leS (And.intro entU hwt) ?_) <;> exact leE)
    rw [c1] at hwt
    simp only [if_true] at hwt
    repeat (refine gk entU ?_)
    (apply r_call; (focus rfl))
    refine rkept0_spec L d[i].path (Nat.le_trans hdi.1 (by decide)) _ _ fun X2 g2 => ?_
    repeat (refine gk entU ?_)
    (apply r_call; (focus rfl))
    refine laid_spec L .no _ ⟨rkep d[i].path, false, d[i].data⟩ (by have := hmi.1; omega) (fun e he => (hmi.2 e he).e) (okW.e ⟨rkep_len hdi, hdi.2⟩) _ _ fun X3 g3 => ?_
    repeat (refine gk entU ?_)
    refine k_n (i + 1) (by omega) ⟨by omega, (hf1.trans g2).trans g3⟩ ?_
    (refine leM ?_ ?_ ?_ <;> (repeat refine leS (And.intro entU hwt) ?_) <;> exact leE)
  have hi' : i = d.length := by have : ¬ i < d.length := by simpa using h
                                omega
  subst hi'
  rw [List.take_length]
  have hm2 : VW2 (v2 s d del bak d q1) (d.length + d.length) := v2_ok od hm1
  generalize hq2 : v2 s d del bak d q1 = q2 at hm2
  repeat (refine gk entU ?_)
  refine c_loop (Spec_SMono L) (fun (i : Nat) => [(0, .h (.sl t1 3 (s.map encE))), (9, .h (.sl .no 3 ((v3 (s.take i) q2).map encE))), (12, .h (I i))])
    (fun _ => []) (fun i X => i ≤ s.length ∧ Fr [] H X) (fun i => s.length - i) 0 ?_ ⟨by omega, hf⟩ ?_
  · (refine leM ?_ ?_ ?_ <;> (repeat refine leS trivial ?_) <;> exact leE)
  clear hf hi h
  rintro i X ⟨hi, hf⟩
  repeat (refine gk entU ?_)
  (refine ct entU ?_ ?_ <;> intro h)
  · have hi' : i < s.length := by simpa using h
    have hwt := v3_take hi' q2
    have hdi := os _ (List.getElem_mem hi')
    have hmi : VW2 (v3 (s.take i) q2) (d.length + d.length + (s.take i).length) := v3_ok (fun e he => os e (List.mem_of_mem_take he)) hm2
    rw [List.length_take] at hmi
    repeat (refine gk entU ?_)
    (apply r_call; (focus rfl))
    refine laid_spec L .no _ s[i] (by have := hmi.1; omega) (fun e he => (hmi.2 e he).e) hdi.e X _ fun X1 g1 => ?_
    repeat (refine gk entU ?_)
    refine k_n (i + 1) (by omega) ⟨by omega, hf.trans g1⟩ ?_
    (refine leM ?_ ?_ ?_ <;> (repeat refine leS (And.intro entU hwt) ?_) <;> exact leE)
  have hi' : i = s.length := by have : ¬ i < s.length := by simpa using h
                                omega
  subst hi'
  rw [List.take_length]
  have hv : vant s d del bak = v3 s q2 := by rw [vant, hq1, hq2]
  rw [hv] at hk
  have hm3 : VW2 (v3 s q2) (d.length + d.length + s.length) := v3_ok os hm2
  generalize v3 s q2 = q3 at hm3 hk
  have hm3' := hm3.1
  repeat (refine gk entU ?_)
  cases c6 : decide ((64 : Int) < (q3.length : Int))
  case true =>
    rw [if_pos (by simp only [decide_eq_true_eq] at c6; omega)] at hk
    repeat (refine gk entU ?_)
    exact resK_weak (Weak.tu (bs := [.sl .no 3 [], I 10]) ⟨Weak.nil' 3, Weak.refl _, trivial⟩) (hk X hf)
  rw [if_neg (by simp only [decide_eq_false_iff_not] at c6; omega)] at hk
  repeat (refine gk entU ?_)
  exact resK_some (hk X hf)
end Sm

set_option linter.unusedVariables false
set_option linter.unusedSimpArgs false
set_option maxRecDepth 10000
set_option maxHeartbeats 1000000
namespace Sm
open Go
-- BASE entU
theorem hsB_tilde (p : List UInt8) : hsB p [126] = (p.getLast? == some 126) := by
  unfold hsB
  rcases List.eq_nil_or_concat p with rfl | ⟨q, c, rfl⟩
  · rfl
  · simp
theorem kepL_eq (p : List UInt8) : kepL p = rkep p := by
  unfold kepL rkep
  rw [hsB_tilde]
  cases p == [] <;> cases p.getLast? == some 126 <;> cases chkP (p ++ [126]) != 0 <;> rfl
theorem lix_is : ∀ (l : List UInt8) (c : UInt8) (k : Nat), lix l c = k → ∃ h : k < l.length, l[k] = c
  | [], c, k, h => by simp only [lix] at h; omega
  | b :: l, c, k, h => by
    rw [lix] at h
    split at h
    · have hb := lix_bd l c
      obtain ⟨m, hm⟩ : ∃ m, k = m + 1 := ⟨k - 1, by omega⟩
      subst hm
      obtain ⟨h1, h2⟩ := lix_is l c m (by omega)
      exact ⟨by simp; omega, by simpa using h2⟩
    · split at h
      · rename_i h2
        have : k = 0 := by omega
        subst this
        exact ⟨by simp, by simpa using h2⟩
      · omega
theorem parL_count {p : List UInt8} (h : parL p ≠ []) : (parL p).count 47 < p.count 47 := by
  have hb := lix_bd p 47
  have h0 : 0 ≤ lix p 47 := by
    apply Decidable.byContradiction; intro hn
    apply h; unfold parL
    rw [show (max (lix p 47) 0).toNat = 0 by omega]; rfl
  have h1 : (max (lix p 47) 0).toNat < p.length := by omega
  have h2 : p[(max (lix p 47) 0).toNat]'h1 = 47 := by
    exact (lix_is p 47 _ (by omega)).2
  unfold parL
  conv => rhs; rw [← List.take_append_drop (max (lix p 47) 0).toNat p, List.drop_eq_getElem_cons h1, h2]
  rw [List.count_append, List.count_cons_self]; omega
theorem chkP_count {p : List UInt8} (h : chkP p = 0) : p.count 47 ≤ 7 := by
  unfold chkP at h
  split at h
  · cases h
  split at h
  · cases h
  split at h
  · cases h
  split at h
  · cases h
  rename_i h1 h2
  have h3 := segs_len p
  unfold spl at h1 h2
  split at h2
  · rename_i h4; exact absurd (if_pos h4) h1
  · omega
theorem getR_nil {s : List Ent} (h : chkT s = 0) : (getR s []).2 = false := by
  cases c : (getR s []).2
  · rfl
  · obtain ⟨e, he, hp⟩ := getR_mem c
    obtain ⟨i, hi, rfl⟩ := List.getElem_of_mem he
    exact absurd hp (path_ne (chkT_at h i hi))
theorem rblk_nil {s : List Ent} (h : chkT s = 0) : ∀ n, rblk s n [] = false
  | 0 => rfl
  | n + 1 => by
    have e : parL [] = [] := rfl
    rw [rblk, e, getR_nil h, rblk_nil h n]; rfl
theorem blk_eq {s : List Ent} (h : chkT s = 0) : ∀ n (p : List UInt8), p.count 47 < n → rblk s n p = blkU s (parL p)
  | 0, p, hp => absurd hp (by omega)
  | n + 1, p, hp => by
    rw [rblk, blkU]
    by_cases hq : parL p = []
    · rw [dif_pos hq, hq, getR_nil h, rblk_nil h n]; rfl
    · rw [dif_neg hq, blk_eq h n (parL p) (by have := parL_count hq; omega)]
theorem stM_eq {s d : List Ent} {del bak : Bool} (h : chkT s = 0) {x : Ent} (hx : chkP x.path = 0) : stM ⟨s, d, del, bak⟩ x = rst s del x := by
  unfold stM rst fileM
  dsimp only
  rw [blk_eq h 8 x.path (by have := chkP_count hx; omega)]
  have e : (x.data == (getR s x.path).1.data) = ((getR s x.path).1.data == x.data) := by
    rw [Bool.eq_iff_iff, beq_iff_eq, beq_iff_eq]; exact eq_comm
  rw [e]
  generalize (getR s x.path).2 = a
  generalize (getR s x.path).1.dir = b
  generalize ((getR s x.path).1.data == x.data) = c
  generalize blkU s (parL x.path) = u
  generalize x.dir = y
  cases a <;> cases y <;> cases b <;> cases c <;> cases del <;> cases u <;> rfl
theorem okD {d : List Ent} (h : chkT d = 0) {x : Ent} (hx : x ∈ d) : chkP x.path = 0 := by
  obtain ⟨i, hi, rfl⟩ := List.getElem_of_mem hx
  exact (chkE_ok (chkT_at h i hi)).1
theorem getR_in {l : List Ent} {q : List UInt8} (h : (getR l q).2 = true) : (getR l q).1 ∈ l ∧ (getR l q).1.path = q := by
  unfold getR at h ⊢
  split at h
  · rename_i e he
    exact ⟨List.mem_of_find?_eq_some he, by simpa using List.find?_some he⟩
  · cases h
theorem kpM_eq {s d : List Ent} {del bak : Bool} (h : chkT s = 0) (hd : chkT d = 0) {x : Ent} (hx : chkP x.path = 0) : kpM ⟨s, d, del, bak⟩ x = if rkp s d del bak x then rkep x.path else [] := by
  unfold kpM rkp
  rw [kepL_eq]
  dsimp only
  rw [stM_eq h hx]
  cases x.dir
  · cases rst s del x
    · cases bak
      · simp
      · cases hk : rkep x.path == []
        · have hk' : rkep x.path ≠ [] := by simpa using hk
          simp only [dirM, hk, Bool.false_or, Bool.not_true, Bool.or_self, Bool.false_eq_true, if_false]
          split
          · simp
          · by_cases hu : parL (rkep x.path) = []
            · have hu' : (parL (rkep x.path) == []) = true := by rw [hu]; rfl
              simp only [hu', Bool.true_or, if_true]
            · have hu' : (parL (rkep x.path) == []) = false := by simpa using hu
              simp only [hu', Bool.false_or, Bool.false_eq_true, if_false]
              cases c1 : (getR d (parL (rkep x.path))).2
              · simp only [Bool.false_and]
              · rw [stM_eq h (okD hd (getR_in c1).1)]
        · simp
    · simp
  · simp
theorem rkp_ne {s d : List Ent} {del bak : Bool} {x : Ent} (h : rkp s d del bak x = true) : rkep x.path ≠ [] := by
  intro e
  rw [rkp, e] at h
  simp at h
/-- Paths rise. -/
def Sd (l : List Ent) : Prop := l.Pairwise fun x y => lessP x.path y.path = true
theorem srt_ext : ∀ {a b : List Ent}, Sd a → Sd b → (∀ e, e ∈ a ↔ e ∈ b) → a = b
  | [], [], _, _, _ => rfl
  | [], y :: b, _, _, h => by have := (h y).mpr (by simp); simp at this
  | x :: a, [], _, _, h => by have := (h x).mp (by simp); simp at this
  | x :: a, y :: b, h1, h2, h => by
    obtain ⟨p1, p2⟩ := List.pairwise_cons.mp h1
    obtain ⟨q1, q2⟩ := List.pairwise_cons.mp h2
    have e : x = y := by
      rcases List.mem_cons.mp ((h x).mp (by simp)) with e | e
      · exact e
      · rcases List.mem_cons.mp ((h y).mpr (by simp)) with e' | e'
        · exact e'.symm
        · have := lessP_trans (p1 y e') (q1 x e)
          rw [lessP_irr] at this; cases this
    subst e
    rw [srt_ext p2 q2 fun e => ?_]
    constructor
    · intro he
      rcases List.mem_cons.mp ((h e).mp (by simp [he])) with e' | e'
      · have := p1 e he
        rw [e', lessP_irr] at this; cases this
      · exact e'
    · intro he
      rcases List.mem_cons.mp ((h e).mpr (by simp [he])) with e' | e'
      · have := q1 e he
        rw [e', lessP_irr] at this; cases this
      · exact e'
theorem rput_cut {l : List Ent} (h : Sd l) (x : Ent) : ∃ j, (∀ e ∈ l.take j, lessP e.path x.path = true) ∧ (∀ e ∈ l.drop j, lessP e.path x.path = false) := by
  induction l with
  | nil => exact ⟨0, by simp, by simp⟩
  | cons y l ih =>
    obtain ⟨p1, p2⟩ := List.pairwise_cons.mp h
    cases c : lessP y.path x.path
    · refine ⟨0, by simp, fun e he => ?_⟩
      rcases List.mem_cons.mp he with rfl | he
      · exact c
      · cases c2 : lessP e.path x.path
        · rfl
        · rw [lessP_trans (p1 e he) c2] at c; cases c
    · obtain ⟨j, h1, h2⟩ := ih p2
      refine ⟨j + 1, fun e he => ?_, by simpa using h2⟩
      rcases List.mem_cons.mp (by simpa using he) with rfl | he
      · exact c
      · exact h1 e he
theorem rput_sd {l : List Ent} (h : Sd l) (x : Ent) : Sd (rputL l x) ∧ ∀ e, e ∈ rputL l x ↔ e = x ∨ (e ∈ l ∧ e.path ≠ x.path) := by
  obtain ⟨j, h1, h2⟩ := rput_cut h x
  have e1 := rput_split (l := l) (x := x) (j := j) h1 fun hj => h2 _ (by rw [List.drop_eq_getElem_cons hj]; exact List.mem_cons_self)
  rw [e1]
  have hsp : l = l.take j ++ l.drop j := (List.take_append_drop j l).symm
  have h3 : Sd (l.take j ++ l.drop j) := by rw [← hsp]; exact h
  obtain ⟨a1, a2, a3⟩ := List.pairwise_append.mp h3
  constructor
  · refine List.pairwise_append.mpr ⟨a1, List.pairwise_cons.mpr ⟨fun e he => ?_, a2.filter _⟩, fun a ha b hb => ?_⟩
    · rw [List.mem_filter] at he
      exact lessP_tot (h2 e he.1) (by simpa using he.2)
    · rcases List.mem_cons.mp hb with rfl | hb
      · exact h1 a ha
      · exact a3 a ha b (List.mem_filter.mp hb).1
  · intro e
    constructor
    · intro he
      rcases List.mem_append.mp he with he | he
      · refine .inr ⟨List.mem_of_mem_take he, fun hp => ?_⟩
        have := h1 e he
        rw [hp, lessP_irr] at this; cases this
      · rcases List.mem_cons.mp he with he | he
        · exact .inl he
        · rw [List.mem_filter] at he
          exact .inr ⟨List.mem_of_mem_drop he.1, by simpa using he.2⟩
    · rintro (rfl | ⟨he, hp⟩)
      · simp
      · rw [hsp] at he
        rcases List.mem_append.mp he with he | he
        · exact List.mem_append_left _ he
        · exact List.mem_append_right _ (List.mem_cons_of_mem _ (List.mem_filter.mpr ⟨he, by simpa using hp⟩))
/-- Paths stand once. -/
def Nd (l : List Ent) : Prop := (l.map Ent.path).Nodup
theorem mput_nd {m : List Ent} (h : Nd m) (x : Ent) : Nd (mput Ent.path m x) ∧ ∀ e, e ∈ mput Ent.path m x ↔ e = x ∨ (e ∈ m ∧ e.path ≠ x.path) := by
  unfold mput Nd
  split
  · rename_i hc
    obtain ⟨y, hy, hyp⟩ := List.any_eq_true.mp hc
    constructor
    · rw [List.map_map]
      have : (Ent.path ∘ fun a => if a.path == x.path then x else a) = Ent.path := by
        funext a
        dsimp only [Function.comp]
        split
        · rename_i h1; exact (by simpa using h1 : a.path = x.path).symm
        · rfl
      rw [this]; exact h
    · intro e
      rw [List.mem_map]
      constructor
      · rintro ⟨a, ha, rfl⟩
        split
        · exact .inl rfl
        · rename_i h1
          exact .inr ⟨ha, by simpa using h1⟩
      · rintro (rfl | ⟨he, hp⟩)
        · exact ⟨y, hy, by rw [if_pos hyp]⟩
        · exact ⟨e, he, by rw [if_neg (by simpa using hp)]⟩
  · rename_i hc
    have hn : ∀ e ∈ m, e.path ≠ x.path := fun e he hp => hc (List.any_eq_true.mpr ⟨e, he, by simpa using hp⟩)
    constructor
    · rw [List.map_append, List.nodup_append]
      refine ⟨h, by simp, fun a ha b hb => ?_⟩
      obtain ⟨e, he, rfl⟩ := List.mem_map.mp ha
      rw [List.map_cons, List.map_nil, List.mem_singleton] at hb
      rw [hb]; exact hn e he
    · intro e
      rw [List.mem_append, List.mem_singleton]
      constructor
      · rintro (he | he)
        · exact .inr ⟨he, hn e he⟩
        · exact .inl he
      · rintro (he | he)
        · exact .inr he
        · exact .inl he.1
/-- The map and the list hold the same. -/
structure Al (m v : List Ent) : Prop where
  n : Nd m
  s : Sd v
  e : ∀ e, e ∈ m ↔ e ∈ v
theorem Al.put {m v : List Ent} (h : Al m v) (x : Ent) : Al (mput Ent.path m x) (rputL v x) := by
  obtain ⟨a1, a2⟩ := mput_nd h.n x
  obtain ⟨b1, b2⟩ := rput_sd h.s x
  refine ⟨a1, b1, fun e => ?_⟩
  rw [a2, b2, h.e]
theorem w1_al {s d : List Ent} {del bak : Bool} (hs : chkT s = 0) : ∀ {l m v : List Ent}, (∀ e ∈ l, chkP e.path = 0) → Al m v → Al (w1 ⟨s, d, del, bak⟩ l m) (v1 s del l v)
  | [], m, v, _, h => h
  | x :: l, m, v, hl, h => by
    show Al (w1 _ l (if stM ⟨s, d, del, bak⟩ x then mput Ent.path m x else m)) (v1 s del l (if rst s del x then rputL v x else v))
    rw [stM_eq hs (hl x (by simp))]
    refine w1_al hs (fun e he => hl e (by simp [he])) ?_
    split
    · exact h.put x
    · exact h
theorem w2_al {s d : List Ent} {del bak : Bool} (hs : chkT s = 0) (hd : chkT d = 0) : ∀ {l m v : List Ent}, (∀ e ∈ l, chkP e.path = 0) → Al m v → Al (w2 ⟨s, d, del, bak⟩ l m) (v2 s d del bak l v)
  | [], m, v, _, h => h
  | x :: l, m, v, hl, h => by
    show Al (w2 _ l (if kpM ⟨s, d, del, bak⟩ x == [] then m else mput Ent.path m ⟨kpM ⟨s, d, del, bak⟩ x, false, x.data⟩)) (v2 s d del bak l (if rkp s d del bak x then rputL v ⟨rkep x.path, false, x.data⟩ else v))
    rw [kpM_eq hs hd (hl x (by simp))]
    refine w2_al hs hd (fun e he => hl e (by simp [he])) ?_
    cases c : rkp s d del bak x
    · exact h
    · have hne : (rkep x.path == []) = false := by simpa using rkp_ne c
      simp only [if_true, hne, Bool.false_eq_true, if_false]
      exact h.put _
theorem w3_al : ∀ {l m v : List Ent}, Al m v → Al (mputs m l) (v3 l v)
  | [], m, v, h => h
  | x :: l, m, v, h => by
    show Al (mputs (mput Ent.path m x) l) (v3 l (rputL v x))
    exact w3_al (h.put x)
theorem want_al {s d : List Ent} {del bak : Bool} (hs : chkT s = 0) (hd : chkT d = 0) : Al (wantL ⟨s, d, del, bak⟩) (vant s d del bak) :=
  w3_al (w2_al hs hd (fun e he => okD hd he) (w1_al hs (fun e he => okD hd he) ⟨List.nodup_nil, List.Pairwise.nil, fun e => Iff.rfl⟩))
theorem Al.len {m v : List Ent} (h : Al m v) : m.length = v.length := by
  have hv : Nd v := List.nodup_iff_pairwise_ne.mpr (List.pairwise_map.mpr (h.s.imp fun {x y} hxy e => by rw [e, lessP_irr] at hxy; cases hxy))
  have h1 := nodup_len (List.nodup_iff_pairwise_ne.mpr ((List.pairwise_map.mp (List.nodup_iff_pairwise_ne.mp h.n)).imp fun {x y} hne e => hne (by rw [e]))) (fun e he => (h.e e).mp he)
  have h2 := nodup_len (List.nodup_iff_pairwise_ne.mpr ((List.pairwise_map.mp (List.nodup_iff_pairwise_ne.mp hv)).imp fun {x y} hne e => hne (by rw [e]))) (fun e he => (h.e e).mpr he)
  omega
/-- The map's entries in their order are the list. -/
theorem Al.sort {m v l : List Ent} (h : Al m v) (hp : l.Perm m) (hs : l.Pairwise (fun x y => lessP y.path x.path = false)) : l = v := by
  refine srt_ext ?_ h.s fun e => (hp.mem_iff).trans (h.e e)
  have hn : Nd l := (hp.map Ent.path).nodup_iff.mpr h.n
  exact (List.pairwise_map.mp (List.nodup_iff_pairwise_ne.mp hn)).imp₂ (fun {x y} hne hl => lessP_tot hl (Ne.symm hne)) hs
end Sm

set_option linter.unusedVariables false
set_option linter.unusedSimpArgs false
set_option maxRecDepth 10000
set_option maxHeartbeats 1000000
namespace Sm
open Go
-- BASE entU
/-- A step. -/
structure Stp where
  k : UInt8
  p : List UInt8
  t : List UInt8
  deriving DecidableEq
def encP (x : Stp) : HV := .ag [U x.k, S x.p, S x.t]
/-- The call of a function value. -/
def CV (L : Linked code) (f : HV) (xs : List HV) (H : Heap) (K : HV → Heap → Prop) : Prop := match f with
  | .fn g caps => Spec L.P L.ν g (xs ++ caps) H K
  | .fm g r => Spec L.P L.ν g (r :: xs) H K
  | _ => False
theorem r_callF (L : Linked code) {sl : List (Nat × EV)} {bx : List (Nat × List HV)} {H : Heap} {K : Env → Heap → Prop} {os : List SOper} {d : Nat} {x : Opd} {f : HV} {args : List Opd} {hs : List HV} (hx : (M sl bx).hv x = some f) (ha : (M sl bx).hvs args = some hs)
    (h : CV L f hs H fun r H' => rsem (Spec L.P L.ν) os (M ((d, .h r) :: sl) bx) H' K) : rsem (Spec L.P L.ν) (⟨some d, .callv x args, none⟩ :: os) (M sl bx) H K := by
  unfold CV at h
  split at h
  · exact r_callv hx ha h
  · exact r_callm hx ha h
  · exact h.elim
/-- The cell that the steps are put into. -/
def oSl (tk : Tk) : List Stp → HV
  | [] => .v (.slice none 0 0)
  | x :: l => .sl tk 3 ((x :: l).map encP)
structure OC (H0 H : Heap) (c : Nat) (tk : Tk) (o : List Stp) : Prop where
  fr : Fr [] H0 H
  nw : H0 c = none
  fs : Fresh H0 tk
  at' : H c = some (.obj [oSl tk o])
  tok : Tok H tk o.length 3
  nil : o = [] → tk = .full
  ne : c ∉ tb tk
theorem OC.go {H0 H X : Heap} {c : Nat} {tk : Tk} {o : List Stp} (h : OC H0 H c tk o) (hf : Fr [] H X) : OC H0 X c tk o :=
  ⟨h.fr.trans hf, h.nw, h.fs, hf.get (by simp) h.at', h.tok.fr' hf (by simp), h.nil, h.ne⟩
theorem load_oSl (tk : Tk) (o : List Stp) : loadv false 1 0 [oSl tk o] = some (oSl tk o) := by cases o <;> rfl
attribute [local irreducible] csem rsem dsem seqK blockK normK finK DK RK JK BR G3 resK Spec Tok Fr CV

theorem r_push (L : Linked code) {sl : List (Nat × EV)} {bx : List (Nat × List HV)} {H0 H : Heap} {K : Env → Heap → Prop} {os : List SOper} {d c : Nat} {x y : Opd} {tk tk2 : Tk} {o : List Stp} {st : Stp} (h : OC H0 H c tk o) (hx : (M sl bx).hv x = some (oSl tk o)) (hy : (M sl bx).hv y = some (.sl tk2 3 [encP st])) (hl : o.length ≤ 1048576)
    (hk : ∀ tk' X, Apd H X tk tk' → Fresh H0 tk' → Tok X tk' (o.length + 1) 3 → X c = some (.obj [oSl tk o]) → c ∉ tb tk' → Fr [] H0 X → rsem (Spec L.P L.ν) os (M ((d, .h (oSl tk' (o ++ [st]))) :: sl) bx) X K) : rsem (Spec L.P L.ν) (⟨some d, .app 3 40 x y, none⟩ :: os) (M sl bx) H K := by
  have hne : ∀ tk' X, Apd H X tk tk' → c ∉ tb tk' := fun tk' X ha hm => by
    rcases ha.nw c hm with h1 | h1
    · exact h.ne h1
    · rw [h.at'] at h1; cases h1
  cases o with
  | nil =>
    have e := h.nil rfl
    subst e
    refine r_app0 hx hy (by simp) (fun h0 => by cases h0) fun tk' X _ h1 h2 => ?_
    exact hk tk' X h2 (h.fs.apd h.fr h2) h1 (h2.fr.get (by simp [tb]) h.at') (hne _ _ h2) (h.fr.apd h.fs h2)
  | cons a l =>
    refine r_app hx hy (by simpa using h.tok) (by simp at hl ⊢; omega) fun tk' X h1 h2 => ?_
    have := hk tk' X h2 (h.fs.apd h.fr h2) (by simpa using h1) (h2.fr.get h.ne h.at') (hne _ _ h2) (h.fr.apd h.fs h2)
    simpa [oSl] using this
/-- What a round puts behind the steps. -/
def pushes (k : UInt8) (p : Ent → Bool) (q : Ent → List UInt8) (l : List Ent) : List Stp := (l.filter p).map fun e => ⟨k, e.path, q e⟩
theorem pushes_take {k : UInt8} {p : Ent → Bool} {q : Ent → List UInt8} {l : List Ent} {i : Nat} (h : i < l.length) : pushes k p q (l.take (i + 1)) = if p l[i] then pushes k p q (l.take i) ++ [⟨k, l[i].path, q l[i]⟩] else pushes k p q (l.take i) := by
  unfold pushes
  rw [List.take_succ_eq_append_getElem h, List.filter_append]
  cases c : p l[i]
  · rw [List.filter_cons_of_neg (by simp [c])]; simp
  · rw [List.filter_cons_of_pos c]; simp
theorem pushes_len {k : UInt8} {p : Ent → Bool} {q : Ent → List UInt8} {l : List Ent} : (pushes k p q l).length ≤ l.length := by
  unfold pushes
  rw [List.length_map]; exact List.length_filter_le _ _
theorem each_spec (L : Linked code) (t : Tk) (l : List Ent) (k : UInt8) (F G : HV) (p : Ent → Bool) (q : Ent → List UInt8) (c : Nat) (o : List Stp) (tk : Tk) (H0 H : Heap) (hl : l.length ≤ 65536) (ho : o.length ≤ 524288) (hO : OC H0 H c tk o)
    (hF : ∀ e ∈ l, ∀ X, Fr [] H0 X → ∀ K, (∀ X', Fr [] X X' → K (B (p e)) X') → CV L F [encE e] X K)
    (hG : ∀ e ∈ l, ∀ X, Fr [] H0 X → ∀ K, (∀ X', Fr [] X X' → K (S (q e)) X') → CV L G [encE e] X K)
    (K) (hk : ∀ X tk', OC H0 X c tk' (o ++ pushes k p q l) → K (.tu []) X) : Spec L.P L.ν 256 [.sl t 3 (l.map encE), U k, F, G, ptr c] H K := by
  refine go_spec L code256 rfl ?_
  repeat (refine gk entU ?_)
  refine c_loop (Spec_SMono L) (fun (q' : Nat × Tk) => [(1, .h (U k)), (2, .h F), (3, .h G), (4, .h (ptr c)), (11, .h (.sl t 3 (l.map encE))), (12, .h (I l.length)), (13, .h (I q'.1))]) (fun _ => [])
    (fun q' X => q'.1 ≤ l.length ∧ OC H0 X c q'.2 (o ++ pushes k p q (l.take q'.1))) (fun q' => l.length - q'.1) (0, tk) ?_ ⟨by simp, by simpa [pushes] using hO⟩ ?_
  · (refine leM ?_ ?_ ?_ <;> (repeat refine leS trivial ?_) <;> exact leE)
  rintro ⟨i, tk⟩ X ⟨hi, hO⟩
  dsimp only at hi hO ⊢
  repeat (refine gk entU ?_)
  (refine ct entU ?_ ?_ <;> intro h)
  · have hi' : i < l.length := by simpa using h
    have hp := pushes_take (k := k) (p := p) (q := q) hi'
    repeat (refine gk entU ?_)
    refine r_callF L rfl rfl ?_
    refine hF l[i] (List.getElem_mem hi') _ hO.fr _ fun X1 f1 => ?_
    cases c1 : p l[i]
    case false =>
      rw [c1] at hp
      simp only [Bool.false_eq_true, if_false] at hp
      repeat (refine gk entU ?_)
      refine k_n (i + 1, tk) (by simp only; omega) ⟨by simp only; omega, by simp only [hp]; exact hO.go f1⟩ ?_
      (refine leM ?_ ?_ ?_ <;> (repeat refine leS trivial ?_) <;> exact leE)
    rw [c1] at hp
    simp only [if_true] at hp
    have hO1 := hO.go f1
    have hlen := pushes_len (k := k) (p := p) (q := q) (l := l.take i)
    have hlen2 : (l.take i).length ≤ l.length := by rw [List.length_take]; omega
    repeat (refine gk entU ?_)
    apply r_load; (focus rfl); (focus exact hO1.at'); (focus exact load_oSl _ _)
    repeat (refine gk entU ?_)
    refine r_callF L rfl rfl ?_
    refine hG l[i] (List.getElem_mem hi') _ hO1.fr _ fun X2 f2 => ?_
    have hO2 := hO1.go f2
    repeat (refine gk entU ?_)
    refine dk_cons rfl (rc_load rfl hO2.at' (load_oSl _ _) rfl) ?_
    repeat (refine gk entU ?_)
    refine r_push L (st := ⟨k, l[i].path, q l[i]⟩) hO2 rfl rfl (by rw [List.length_append]; omega) fun tk' X3 ha hf3 ht3 hc3 hn3 hfr3 => ?_
    repeat (refine gk entU ?_)
    have hlo : (oSl tk' (o ++ pushes k p q (l.take i) ++ [⟨k, l[i].path, q l[i]⟩])).ncells = 1 ∧ (oSl tk' (o ++ pushes k p q (l.take i) ++ [⟨k, l[i].path, q l[i]⟩])).el = true ∧ setL [oSl tk (o ++ pushes k p q (l.take i))] 0 (oSl tk' (o ++ pushes k p q (l.take i) ++ [⟨k, l[i].path, q l[i]⟩])).cells = [oSl tk' (o ++ pushes k p q (l.take i) ++ [⟨k, l[i].path, q l[i]⟩])] := by
      cases o ++ pushes k p q (l.take i) <;> exact ⟨rfl, rfl, rfl⟩
    refine r_storeH rfl hlo.1 hlo.2.1 rfl hc3 rfl hlo.2.2 ?_
    have g1 := hfr3
    repeat (refine gk entU ?_)
    refine k_n (i + 1, tk') (by simp only; omega) ⟨by simp only; omega, ?_⟩ ?_
    · simp only [hp, ← List.append_assoc]
      refine ⟨hfr3.own (b := c) hO2.nw (Fr.set (by simp)), hO2.nw, hf3, Heap.upd_same _ _ _, ?_, fun h0 => absurd h0 (by simp), hn3⟩
      have : Tok X3 tk' ((o ++ pushes k p q (l.take i) ++ [(⟨k, l[i].path, q l[i]⟩ : Stp)]).length) 3 := by rw [List.length_append (bs := [_])]; exact ht3
      exact this.fr' (bs := [c]) (Fr.set (by simp)) (fun a ha' hm => hn3 (by rw [List.mem_singleton] at hm; rw [← hm]; exact ha'))
    · (refine leM ?_ ?_ ?_ <;> (repeat refine leS trivial ?_) <;> exact leE)
  · have hi' : i = l.length := by have : ¬ i < l.length := by simpa using h
                                  omega
    subst hi'
    rw [List.take_length] at hO
    repeat (refine gk entU ?_)
    exact resK_some (hk X tk hO)
end Sm
