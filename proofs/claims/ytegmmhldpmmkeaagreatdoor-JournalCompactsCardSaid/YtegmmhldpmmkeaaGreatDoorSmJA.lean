/-
  J1,J2,J3,J4,J5,J6,J7,J8
-/
import Derived.Test.YtegmmhldpmmkeaaGreatDoorSmLJ
import Derived.Test.YtegmmhldpmmkeaaGreatDoorSmDN
import Derived.Test.YtegmmhldpmmkeaaGreatDoorSmLf
set_option linter.unusedVariables false
set_option linter.unusedSimpArgs false
set_option maxRecDepth 10000
set_option maxHeartbeats 2000000
namespace Sm
open Go
def lenV (n : Int) : Int := if n < 0 then 0 else if n < 64 then 1 else if n < 16384 then 2 else if n < 1073741824 then 4 else if n < 4611686018427387904 then 8 else 0
def fitV (n : Int) (w : Nat) : Bool := decide (0 ≤ n) && decide (n < 2 ^ (8 * w - 2))
attribute [local irreducible] csem rsem dsem seqK blockK normK finK DK RK JK BR G3 resK Spec Tok Fr CV
theorem fits_spec (L : Linked code) (n : Int) (w : Nat) (hw : w = 1 ∨ w = 2 ∨ w = 4 ∨ w = 8) (hn : n ≤ 9223372036854775807) : PureF L 473 [I n, I w] (B (fitV n w)) := by
 intro H K hk
 refine go_spec L code473 rfl ?_
 have hfin : ∀ {X : Heap} {b : Bool}, Fr [] H X → b = fitV n w → resK (some [.v (.bool b)]) X K := fun hf e => by subst e; exact resK_some (hk _ hf)
 rcases hw with rfl | rfl | rfl | rfl
 all_goals
   repeat (refine gk trivial ?_)
   cases c1 : decide (0 ≤ n)
   case false =>
     repeat (refine gk trivial ?_)
     exact hfin (Fr.refl _ _) (by simp only [fitV, c1, Bool.false_and])
   have h0 : 0 ≤ n := of_decide_eq_true c1
   have hu : IntKind.u64.wrap n = n := IntWalk.u64_in n ⟨h0, by omega⟩
   repeat (refine gk trivial ?_)
   refine hfin (Fr.refl _ _) ?_
   rw [hu]
   simp only [fitV, c1, Bool.true_and]
   rfl
theorem fitV_iff (n : Int) (w : Nat) : fitV n w = true ↔ 0 ≤ n ∧ n < 2 ^ (8 * w - 2) := by simp [fitV]
theorem lenV_at {n : Int} : (fitV n 1 = true → lenV n = 1) ∧ (fitV n 1 = false → fitV n 2 = true → lenV n = 2) ∧ (fitV n 1 = false → fitV n 2 = false → fitV n 4 = true → lenV n = 4) ∧
   (fitV n 1 = false → fitV n 2 = false → fitV n 4 = false → fitV n 8 = true → lenV n = 8) ∧ (fitV n 1 = false → fitV n 2 = false → fitV n 4 = false → fitV n 8 = false → lenV n = 0) := by
 have e1 : fitV n 1 = (decide (0 ≤ n) && decide (n < 64)) := rfl
 have e2 : fitV n 2 = (decide (0 ≤ n) && decide (n < 16384)) := rfl
 have e4 : fitV n 4 = (decide (0 ≤ n) && decide (n < 1073741824)) := rfl
 have e8 : fitV n 8 = (decide (0 ≤ n) && decide (n < 4611686018427387904)) := rfl
 rw [e1, e2, e4, e8]
 simp only [Bool.and_eq_true, decide_eq_true_eq, Bool.and_eq_false_iff, decide_eq_false_iff_not]
 unfold lenV
 refine ⟨?_, ?_, ?_, ?_, ?_⟩ <;> intros <;> repeat (first | rfl | omega | split)
theorem widths_spec (L : Linked code) : PureF L 472 [] (.ag [I 1, I 2, I 4, I 8]) := by
 intro H K hk
 refine go_spec L code472 rfl ?_
 repeat (refine gk trivial ?_)
 refine r_mop rfl ⟨by decide, by simp [HV.ncells], ?_⟩
 repeat (refine gk trivial ?_)
 exact resK_some (hk H (Fr.refl _ _))
theorem len_spec (L : Linked code) (n : Int) (hn : n ≤ 9223372036854775807) : PureF L 455 [I n] (I (lenV n)) := by
 intro H K hk
 have hfin : ∀ {X : Heap} {r : Int}, Fr [] H X → r = lenV n → resK (some [I r]) X K := fun hf e => by subst e; exact resK_some (hk _ hf)
 obtain ⟨g1, g2, g3, g4, g5⟩ := lenV_at (n := n)
 refine go_spec L code455 rfl ?_
 repeat (refine gk trivial ?_)
 (apply r_call; (focus rfl))
 refine widths_spec L H _ fun X1 f1 => ?_
 repeat (refine gk trivial ?_)
 refine c_loop (Spec_SMono L) (fun (q : Nat) => [(0, .h (I n)), (5, .h (.ag [I 1, I 2, I 4, I 8])), (6, .h (I q))]) (fun _ => []) (fun q X => Fr [] H X ∧ q ≤ 4 ∧ (1 ≤ q → fitV n 1 = false) ∧ (2 ≤ q → fitV n 2 = false) ∧ (3 ≤ q → fitV n 4 = false) ∧ (4 ≤ q → fitV n 8 = false)) (fun q => 4 - q) 0 ?_ ⟨f1, by omega, by omega, by omega, by omega, by omega⟩ ?_
 · (refine leM ?_ ?_ ?_ <;> (repeat refine leS trivial ?_) <;> exact leE)
 rintro q X ⟨fX, hq, b1, b2, b3, b4⟩
 obtain rfl | rfl | rfl | rfl | rfl : q = 0 ∨ q = 1 ∨ q = 2 ∨ q = 3 ∨ q = 4 := by omega
 · repeat (refine gk trivial ?_)
   refine r_mop rfl ⟨by decide, by decide, I 1, rfl, ?_⟩
   repeat (refine gk trivial ?_)
   (apply r_call; (focus rfl))
   refine fits_spec L n 1 (by simp) hn X _ fun X2 f2 => ?_
   cases c : fitV n 1
   case true =>
     repeat (refine gk trivial ?_)
     exact hfin (fX.trans f2) (g1  c).symm
   repeat (refine gk trivial ?_)
   refine k_n 1 (by omega) ⟨fX.trans f2, by omega, fun _ => rfl, by omega, by omega, by omega⟩ ?_
   (refine leM ?_ ?_ ?_ <;> (repeat refine leS trivial ?_) <;> exact leE)
 · repeat (refine gk trivial ?_)
   refine r_mop rfl ⟨by decide, by decide, I 2, rfl, ?_⟩
   repeat (refine gk trivial ?_)
   (apply r_call; (focus rfl))
   refine fits_spec L n 2 (by simp) hn X _ fun X2 f2 => ?_
   cases c : fitV n 2
   case true =>
     repeat (refine gk trivial ?_)
     exact hfin (fX.trans f2) (g2 (b1 (by omega)) c).symm
   repeat (refine gk trivial ?_)
   refine k_n 2 (by omega) ⟨fX.trans f2, by omega, fun _ => b1 (by omega), fun _ => rfl, by omega, by omega⟩ ?_
   (refine leM ?_ ?_ ?_ <;> (repeat refine leS trivial ?_) <;> exact leE)
 · repeat (refine gk trivial ?_)
   refine r_mop rfl ⟨by decide, by decide, I 4, rfl, ?_⟩
   repeat (refine gk trivial ?_)
   (apply r_call; (focus rfl))
   refine fits_spec L n 4 (by simp) hn X _ fun X2 f2 => ?_
   cases c : fitV n 4
   case true =>
     repeat (refine gk trivial ?_)
     exact hfin (fX.trans f2) (g3 (b1 (by omega)) (b2 (by omega)) c).symm
   repeat (refine gk trivial ?_)
   refine k_n 3 (by omega) ⟨fX.trans f2, by omega, fun _ => b1 (by omega), fun _ => b2 (by omega), fun _ => rfl, by omega⟩ ?_
   (refine leM ?_ ?_ ?_ <;> (repeat refine leS trivial ?_) <;> exact leE)
 · repeat (refine gk trivial ?_)
   refine r_mop rfl ⟨by decide, by decide, I 8, rfl, ?_⟩
   repeat (refine gk trivial ?_)
   (apply r_call; (focus rfl))
   refine fits_spec L n 8 (by simp) hn X _ fun X2 f2 => ?_
   cases c : fitV n 8
   case true =>
     repeat (refine gk trivial ?_)
     exact hfin (fX.trans f2) (g4 (b1 (by omega)) (b2 (by omega)) (b3 (by omega)) c).symm
   repeat (refine gk trivial ?_)
   refine k_n 4 (by omega) ⟨fX.trans f2, by omega, fun _ => b1 (by omega), fun _ => b2 (by omega), fun _ => b3 (by omega), fun _ => rfl⟩ ?_
   (refine leM ?_ ?_ ?_ <;> (repeat refine leS trivial ?_) <;> exact leE)
 · repeat (refine gk trivial ?_)
   exact hfin fX (g5 (b1 (by omega)) (b2 (by omega)) (b3 (by omega)) (b4 (by omega))).symm
end Sm
namespace Sm
open Go
def lowB : Nat → Nat → List UInt8
 | 0, _ => []
 | k + 1, n => lowB k (n / 256) ++ [UInt8.ofNat (n % 256)]
theorem lowB_len : ∀ (k n : Nat), (lowB k n).length = k
 | 0, _ => rfl
 | k + 1, n => by rw [lowB, List.length_append, lowB_len]; rfl
def highV (w : Nat) : Int := if w = 1 then 0 else if w = 2 then 1 else if w = 4 then 2 else 3
def topV (w : Nat) : UInt8 := if w = 1 then 0 else if w = 2 then 64 else if w = 4 then 128 else 192
def orTop (w : Nat) : List UInt8 → List UInt8
 | [] => []
 | c :: cs => (c ||| topV w) :: cs
def encV (w n : Nat) : List UInt8 := orTop w (lowB w n)
def putV (n : Int) : List UInt8 := encV (lenV n).toNat n.toNat
theorem encV_len (w n : Nat) : (encV w n).length = w := by
 have := lowB_len w n
 unfold encV
 cases h : lowB w n with
 | nil => rw [h] at this; exact this
 | cons c cs => rw [h] at this; exact this
theorem FW.sliceF {b n sz : Nat} {cs es : List HV} (hcs : cs.take (n * sz) = es.flatMap HV.cells) (hle : n * sz ≤ cs.length) (hn : es.length = n) (hm : n ≤ maxLen) (hel : es.all HV.el = true) (hsz : ∀ e ∈ es, e.ncells = sz) :
   FW b cs (.v (.slice (some ⟨b, 0, none⟩) n n)) (.sl .full sz es) := by
 rintro ν K w u ⟨us, f1, f2, f3, f4⟩ hr
 simp only [rep] at hr
 subst hr hn
 have h1 := repL_take (es.length * sz) f2
 rw [hcs] at h1
 obtain ⟨vals, g1, g2⟩ := unflat es hel h1
 have hl := repL_length f2
 simp only [rep]
 refine ⟨_, es.length, vals, rfl, Nat.le_refl _, hm, rfl, hel, hsz, g1, .inr ⟨b, 0, rfl, by omega, ?_⟩⟩
 rw [g2]
 exact cellsAt_take f1 _
theorem flatU1 : ∀ l : List UInt8, (l.map U).flatMap HV.cells = l.map U
 | [] => rfl
 | b :: l => by rw [List.map_cons, List.flatMap_cons, flatU1 l]; rfl
theorem repl1 (m : Nat) (x : HV) : (List.replicate m [x]).flatten = List.replicate m x := by
 induction m with
 | zero => rfl
 | succ m ih => rw [List.replicate_succ, List.flatten_cons, ih, List.replicate_succ]; rfl
theorem U_el (l : List UInt8) : (l.map U).all HV.el = true := by rw [List.all_eq_true]; intro y hy; obtain ⟨z, _, rfl⟩ := List.mem_map.mp hy; rfl
theorem U_nc (l : List UInt8) : ∀ e ∈ l.map U, e.ncells = 1 := by intro y hy; obtain ⟨z, _, rfl⟩ := List.mem_map.mp hy; rfl
theorem FW.bytes {b : Nat} {l : List UInt8} (hm : l.length ≤ maxLen) : FW b (l.map U) (.v (.slice (some ⟨b, 0, none⟩) l.length l.length)) (.sl .full 1 (l.map U)) :=
 FW.sliceF (by rw [flatU1, List.take_of_length_le (by simp)]) (by simp) (by simp) hm (U_el l) (U_nc l)
theorem or_u8 (a b : UInt8) : IntKind.u8.wrap ((BitVec.ofInt 8 (a.toNat : Int) ||| BitVec.ofInt 8 (b.toNat : Int)).toNat : Int) = ((a ||| b).toNat : Int) := by
 have ha : BitVec.ofInt 8 (a.toNat : Int) = a.toBitVec := by apply BitVec.eq_of_toNat_eq; rw [BitVec.ofInt_natCast]; simp
 have hb : BitVec.ofInt 8 (b.toNat : Int) = b.toBitVec := by apply BitVec.eq_of_toNat_eq; rw [BitVec.ofInt_natCast]; simp
 rw [ha, hb]
 have : (a.toBitVec ||| b.toBitVec).toNat = (a ||| b).toNat := by rw [← UInt8.toBitVec_or]; rfl
 rw [this]
 exact IntWalk.u8_in _ ⟨by omega, by have := (a ||| b).toNat_lt; omega⟩
attribute [local irreducible] csem rsem dsem seqK blockK normK finK DK RK JK BR G3 resK Spec Tok Fr CV
theorem tell_spec (L : Linked code) (w : Nat) (hw : w = 1 ∨ w = 2 ∨ w = 4 ∨ w = 8) : PureF L 490 [I w] (I (highV w)) := by
 intro H K hk
 refine go_spec L code490 rfl ?_
 repeat (refine gk trivial ?_)
 (apply r_call; (focus rfl))
 refine widths_spec L H _ fun X1 f1 => ?_
 repeat (refine gk trivial ?_)
 refine c_loop (Spec_SMono L) (fun (q : Nat) => [(0, .h (I w)), (5, .h (.ag [I 1, I 2, I 4, I 8])), (6, .h (I q))]) (fun _ => []) (fun q X => Fr [] H X ∧ (q : Int) ≤ highV w) (fun q => 4 - q) 0 ?_ ⟨f1, by rcases hw with rfl | rfl | rfl | rfl <;> decide⟩ ?_
 · (refine leM ?_ ?_ ?_ <;> (repeat refine leS trivial ?_) <;> exact leE)
 rintro q X ⟨fX, hq⟩
 have hq4 : q ≤ 3 := by rcases hw with rfl | rfl | rfl | rfl <;> (simp [highV] at hq; omega)
 have hfin : ∀ {r : Int}, r = highV w → resK (some [I r]) X K := fun e => by subst e; exact resK_some (hk _ fX)
 obtain rfl | rfl | rfl | rfl : q = 0 ∨ q = 1 ∨ q = 2 ∨ q = 3 := by omega
 all_goals (rcases hw with rfl | rfl | rfl | rfl <;> first | (exfalso; revert hq; decide) | skip)
 all_goals
   repeat (refine gk trivial ?_)
   refine r_mop rfl ⟨by decide, by decide, _, rfl, ?_⟩
   repeat (refine gk trivial ?_)
   first
     | exact hfin rfl
     | (refine k_n 1 (by omega) ⟨fX, by decide⟩ ?_; (refine leM ?_ ?_ ?_ <;> (repeat refine leS trivial ?_) <;> exact leE))
     | (refine k_n 2 (by omega) ⟨fX, by decide⟩ ?_; (refine leM ?_ ?_ ?_ <;> (repeat refine leS trivial ?_) <;> exact leE))
     | (refine k_n 3 (by omega) ⟨fX, by decide⟩ ?_; (refine leM ?_ ?_ ?_ <;> (repeat refine leS trivial ?_) <;> exact leE))
theorem putin_spec (L : Linked code) (n : Int) (w : Nat) (hw : w = 1 ∨ w = 2 ∨ w = 4 ∨ w = 8) (hf : fitV n w = true) (hn : n ≤ 9223372036854775807) : PureF L 478 [I n, I w] (.tu [.sl .full 1 ((encV w n.toNat).map U), I 0]) := by
 intro H K hk
 have h0 : 0 ≤ n := ((fitV_iff n w).mp hf).1
 obtain ⟨n, rfl⟩ : ∃ m : Nat, n = m := ⟨n.toNat, by omega⟩
 rw [Int.toNat_natCast] at hk
 have hw8 : w ≤ 8 ∧ 1 ≤ w := by omega
 refine Spec.give ?_
 refine go_spec L code478 rfl ?_
 repeat (refine gk trivial ?_)
 (apply r_call; (focus rfl))
 refine tell_spec L w hw H _ fun X1 f1 => ?_
 have hh : 0 ≤ highV w ∧ highV w ≤ 3 := by rcases hw with rfl | rfl | rfl | rfl <;> decide
 repeat (refine gk trivial ?_)
 rw [decide_eq_false (show ¬ highV w < 0 by omega)]
 repeat (refine gk trivial ?_)
 (apply r_call; (focus rfl))
 refine fits_spec L n w hw hn X1 _ fun X2 f2 => ?_
 rw [hf]
 repeat (refine gk trivial ?_)
 refine r_mks rfl ⟨by omega, by omega, by omega⟩ rfl fun b X hb hX fX => ?_
 repeat (refine gk trivial ?_)
 have hXb : X b = some (.obj (List.replicate w (U 0) ++ ([] : List UInt8).map U)) := by
   rw [hX, repl1, Int.toNat_natCast, List.map_nil, List.append_nil]; rfl
 refine c_loop (Spec_SMono L) (fun (q : Nat × Nat × List UInt8) => [(0, .h (I q.2.1)), (1, .h (I w)), (6, .h (I (highV w))), (7, .h (.v (.slice (some ⟨b, 0, none⟩) w w))), (8, .h (I ((q.1 : Int) - 1)))]) (fun _ => [])
   (fun q X => X b = some (.obj (List.replicate q.1 (U 0) ++ q.2.2.map U)) ∧ Fr [] H X ∧ q.1 + q.2.2.length = w ∧ lowB q.1 q.2.1 ++ q.2.2 = lowB w n ∧ q.2.1 ≤ 9223372036854775807) (fun q => q.1) (w, n, []) ?_ ⟨hXb, (f1.trans f2).trans fX, by simp, by simp, show n ≤ 9223372036854775807 by omega⟩ ?_
 · (refine leM ?_ ?_ ?_ <;> (repeat refine leS trivial ?_) <;> exact leE)
 rintro ⟨m, nc, rest⟩ Y ⟨hY, fY, hl, hlow, hnc⟩
 simp only at hY hl hlow hnc ⊢
 repeat (refine gk trivial ?_)
 (refine ct trivial ?_ ?_ <;> intro h)
 · have hm1 : 1 ≤ m := by have : (0 : Int) ≤ (m : Int) - 1 := by simpa using h
                          omega
   obtain ⟨i, rfl⟩ : ∃ i, m = i + 1 := ⟨m - 1, by omega⟩
   repeat (refine gk trivial ?_)
   rw [show ((i + 1 : Nat) : Int) - 1 = (i : Int) by omega, show IntKind.u8.wrap (nc : Int) = ((UInt8.ofNat (nc % 256)).toNat : Int) by rw [IntKind.wrap_u8]; simp]
   apply r_idxO; (focus rfl); (focus rfl); (focus omega)
   repeat (refine gk trivial ?_)
   have hrep : List.replicate (i + 1) (U 0) ++ rest.map U = List.replicate i (U 0) ++ U 0 :: rest.map U := by rw [List.replicate_succ', List.append_assoc]; rfl
   rw [hrep] at hY
   apply r_storeO; (focus rfl); (focus rfl); (focus rfl); (focus rfl); (focus exact hY); (focus (simp))
   intro Z hZ fZ
   rw [show (0 + (i : Int).toNat * 1) = i by omega] at hZ
   simp only [HV.cells] at hZ
   rw [setL_one (by simp)] at hZ
   repeat (refine gk trivial ?_)
   have hbH : H b = none := (f1.trans f2).of_none hb
   have e8 : (nc : Int).fdiv (2 ^ min (Int.toNat 8) IntKind.i64.bits) = ((nc / 256 : Nat) : Int) := by
     have : (2 : Int) ^ min (Int.toNat 8) IntKind.i64.bits = 256 := by decide
     rw [this, Int.fdiv_eq_ediv_of_nonneg _ (by omega)]; omega
   have hlow2 : lowB i (nc / 256) ++ UInt8.ofNat (nc % 256) :: rest = lowB w n := by rw [← hlow, lowB, List.append_assoc]; rfl
   refine k_n (i, nc / 256, UInt8.ofNat (nc % 256) :: rest) (by omega) ⟨hZ, fY.own hbH fZ, by simp only [List.length_cons]; omega, hlow2, by simp only; omega⟩ ?_
   (refine leM ?_ ?_ ?_ <;> (repeat refine leS e8 ?_) <;> exact leE)
 · have hm0 : m = 0 := by have : ¬ (0 : Int) ≤ (m : Int) - 1 := by simpa using h
                          omega
   subst hm0
   rw [lowB, List.nil_append] at hlow
   rw [List.replicate_zero, List.nil_append, hlow] at hY
   have hbH : H b = none := (f1.trans f2).of_none hb
   obtain ⟨c, cs, hc⟩ : ∃ c cs, lowB w n = c :: cs := by
     have := lowB_len w n
     cases h2 : lowB w n with
     | nil => rw [h2] at this; simp at this; omega
     | cons c cs => exact ⟨c, cs, rfl⟩
   rw [hc, List.map_cons] at hY
   repeat (refine gk trivial ?_)
   apply r_idxO; (focus rfl); (focus rfl); (focus omega)
   repeat (refine gk trivial ?_)
   have e9 : IntKind.u8.wrap (IntKind.i64.wrap (highV w * 2 ^ min (Int.toNat 6) IntKind.i64.bits)) = ((topV w).toNat : Int) := by rcases hw with rfl | rfl | rfl | rfl <;> decide
   have e10 := or_u8 c (topV w)
   rw [e9, show IntKind.u8.bits = 8 from rfl, e10]
   apply r_idxO; (focus rfl); (focus rfl); (focus omega)
   repeat (refine gk trivial ?_)
   apply r_storeO; (focus rfl); (focus rfl); (focus rfl); (focus rfl); (focus exact hY); (focus (simp))
   intro Z hZ fZ
   have hZ2 : Z b = some (.obj ((encV w n).map U)) := by rw [hZ]; simp only [encV, hc, orTop, List.map_cons]; rfl
   repeat (refine gk trivial ?_)
   have hl2 := encV_len w n
   refine resK_some (.inr (.inr ⟨b, _, .tu [.sl .full 1 ((encV w n).map U), I 0], hZ2, FW.tu ⟨?_, FW.refl _ _ _, trivial⟩, hk _ ((fY.own hbH fZ).give hbH)⟩))
   have h5 := FW.bytes (b := b) (l := encV w n) (by rw [hl2]; simp only [maxLen]; omega)
   rw [hl2] at h5; exact h5
theorem lenV_w (n : Int) (h : lenV n ≠ 0) : ∃ w : Nat, lenV n = w ∧ (w = 1 ∨ w = 2 ∨ w = 4 ∨ w = 8) ∧ fitV n w = true := by
 obtain ⟨g1, g2, g3, g4, g5⟩ := lenV_at (n := n)
 cases c1 : fitV n 1
 case true => exact ⟨1, g1 c1, by simp, c1⟩
 cases c2 : fitV n 2
 case true => exact ⟨2, g2 c1 c2, by simp, c2⟩
 cases c4 : fitV n 4
 case true => exact ⟨4, g3 c1 c2 c4, by simp, c4⟩
 cases c8 : fitV n 8
 case true => exact ⟨8, g4 c1 c2 c4 c8, by simp, c8⟩
 exact absurd (g5 c1 c2 c4 c8) h
theorem vput_spec (L : Linked code) (n : Int) (h0 : 0 ≤ n) (hn : n < 4611686018427387904) : PureF L 464 [I n] (.tu [.sl .full 1 ((putV n).map U), I 0]) := by
 intro H K hk
 have hne : lenV n ≠ 0 := by unfold lenV; repeat (first | omega | split)
 obtain ⟨w, hw, hw4, hf⟩ := lenV_w n hne
 refine go_spec L code464 rfl ?_
 repeat (refine gk trivial ?_)
 (apply r_call; (focus rfl))
 refine len_spec L n (by omega) H _ fun X1 f1 => ?_
 have hne2 : (lenV n == 0) = false := by simpa using hne
 repeat (refine gk trivial ?_)
 rw [hne2]
 repeat (refine gk trivial ?_)
 (apply r_call; (focus rfl))
 rw [hw]
 refine putin_spec L n w hw4 hf (by omega) X1 _ fun X2 f2 => ?_
 have e : encV w n.toNat = putV n := by unfold putV; rw [hw, Int.toNat_natCast]
 rw [e]
 repeat (refine gk trivial ?_)
 exact resK_some (hk _ (f1.trans f2))
end Sm
namespace Sm
open Go
def valB : Nat → List UInt8 → Nat
 | n, [] => n
 | n, b :: l => valB (n * 256 + b.toNat) l
theorem valB_app : ∀ (l r : List UInt8) (n : Nat), valB n (l ++ r) = valB (valB n l) r
 | [], r, n => rfl
 | b :: l, r, n => by rw [List.cons_append, valB, valB_app l r, valB]
theorem valB_lt : ∀ (l : List UInt8) (n : Nat), valB n l < (n + 1) * 256 ^ l.length
 | [], n => by simp [valB]
 | b :: l, n => by
   have h := valB_lt l (n * 256 + b.toNat)
   have hb := b.toNat_lt
   rw [valB, List.length_cons, Nat.pow_succ']
   refine Nat.lt_of_lt_of_le h ?_
   rw [← Nat.mul_assoc]
   exact Nat.mul_le_mul_right _ (by omega)
def wOf (c : UInt8) : Nat := 2 ^ (c.toNat / 64)
theorem wOf_cases (c : UInt8) : wOf c = 1 ∨ wOf c = 2 ∨ wOf c = 4 ∨ wOf c = 8 := by
 have h := c.toNat_lt
 have : c.toNat / 64 = 0 ∨ c.toNat / 64 = 1 ∨ c.toNat / 64 = 2 ∨ c.toNat / 64 = 3 := by omega
 unfold wOf
 rcases this with h | h | h | h <;> rw [h] <;> simp
def getV : List UInt8 → Int × Int × Int
 | [] => (0, 0, 3)
 | c :: r => if r.length + 1 < wOf c then (0, 0, 3) else (((valB (c.toNat % 64) (r.take (wOf c - 1)) : Nat) : Int), ((wOf c : Nat) : Int), 0)
def shortV (l : List UInt8) : Int × Int × Int := if (getV l).2.2 = 0 ∧ lenV (getV l).1 < (getV l).2.1 then (0, 0, 4) else getV l
theorem or_i64 (n : Nat) (c : UInt8) (h : n < 18014398509481984) : IntKind.i64.wrap ((BitVec.ofInt 64 ((n * 256 : Nat) : Int) ||| BitVec.ofInt 64 (c.toNat : Int)).toNat : Int) = ((n * 256 + c.toNat : Nat) : Int) := by
 have hc := c.toNat_lt
 rw [BitVec.ofInt_natCast, BitVec.ofInt_natCast, BitVec.toNat_or, BitVec.toNat_ofNat, BitVec.toNat_ofNat, Nat.mod_eq_of_lt (by omega), Nat.mod_eq_of_lt (by omega)]
 have := Nat.two_pow_add_eq_or_of_lt (i := 8) (b := c.toNat) hc n
 rw [Nat.mul_comm n 256, show (256 : Nat) = 2 ^ 8 from rfl, ← this]
 exact wrap_in (by omega) (by omega)
theorem and63 (c : UInt8) : IntKind.u8.wrap ((BitVec.ofInt 8 (c.toNat : Int) &&& BitVec.ofInt 8 63).toNat : Int) = ((c.toNat % 64 : Nat) : Int) := by
 have hc := c.toNat_lt
 rw [BitVec.ofInt_natCast, BitVec.toNat_and, BitVec.toNat_ofNat, Nat.mod_eq_of_lt (by omega), show (BitVec.ofInt 8 63).toNat = 2 ^ 6 - 1 by decide, Nat.and_two_pow_sub_one_eq_mod]
 exact IntWalk.u8_in _ ⟨by omega, by omega⟩
theorem r_shl {S' : SpecT} {sl : List (Nat × EV)} {bx : List (Nat × List HV)} {H : Heap} {K : Env → Heap → Prop} {os : List SOper} {d : Nat} {x y : Opd} {k k' : IntKind} {a b v : Int}
   (hx : (M sl bx).hv x = some (.v (.int k a))) (hy : (M sl bx).hv y = some (.v (.int k' b))) (hb : 0 ≤ b) (hv : k.wrap (a * 2 ^ (min b.toNat k.bits)) = v) (h : rsem S' os (M ((d, .h (.v (.int k v))) :: sl) bx) H K) :
   rsem S' (⟨some d, .int .shl x y, none⟩ :: os) (M sl bx) H K :=
 r_calm rfl (by simp only [SOp.ev, hx, hy, intOp]; rw [if_pos hb, hv]; rfl) h
theorem r_slcS {S' : SpecT} {sl : List (Nat × EV)} {bx : List (Nat × List HV)} {H : Heap} {K : Env → Heap → Prop} {os : List SOper} {d sz : Nat} {x : Opd} {lo hi : Option Opd} {tk : Tk} {es : List HV} {l h : Nat}
   (hx : (M sl bx).hv x = some (.sl tk sz es)) (h1 : bnd (M sl bx) 0 lo = some (l : Int)) (h2 : bnd (M sl bx) es.length hi = some (h : Int)) (hlh : l ≤ h) (hhe : h ≤ es.length)
   (hk : ∀ tk', rsem S' os (M ((d, .h (.sl tk' sz ((es.drop l).take (h - l)))) :: sl) bx) H K) :
   rsem S' (⟨some d, .slc sz x lo hi none, none⟩ :: os) (M sl bx) H K :=
 r_calm rfl (by simp only [SOp.ev, hx, h1, h2]; rw [if_pos ⟨trivial, by omega, by omega, by omega⟩]) (by have := hk (if (h : Int) = es.length ∧ (l : Int) = 0 then tk else .no); simpa using this)
theorem shl_or (v : Nat) (c : UInt8) (h : v < 18014398509481984) : IntKind.i64.wrap ((BitVec.ofInt IntKind.i64.bits (IntKind.i64.wrap ((v : Int) * 2 ^ min (Int.toNat 8) IntKind.i64.bits)) ||| BitVec.ofInt IntKind.i64.bits (IntKind.i64.wrap (c.toNat : Int))).toNat : Int) = ((v * 256 + c.toNat : Nat) : Int) := by
 have hc := c.toNat_lt
 have e : (2 : Int) ^ min (Int.toNat 8) IntKind.i64.bits = 256 := by decide
 rw [e, wrap_in (n := (v : Int) * 256) (by omega) (by omega), wrap_in (n := (c.toNat : Int)) (by omega) (by omega)]
 exact or_i64 v c h
attribute [local irreducible] csem rsem dsem seqK blockK normK finK DK RK JK BR G3 resK Spec Tok Fr CV
theorem vget_spec (L : Linked code) (tk : Tk) (l : List UInt8) (hl : l.length ≤ 1048576) : PureF L 454 [.sl tk 1 (l.map U)] (.tu [I (getV l).1, I (getV l).2.1, I (getV l).2.2]) := by
 intro H K hk
 cases l with
 | nil =>
   rw [List.map_nil]
   refine go_spec L code454 rfl ?_
   repeat (refine gk trivial ?_)
   exact resK_some (hk H (Fr.refl _ _))
 | cons c r =>
   rw [List.length_cons] at hl
   rw [List.map_cons]
   have hw := wOf_cases c
   have hc := c.toNat_lt
   have e1 : (((r.length + 1 : Nat) : Int) == 0) = false := by simp; omega
   refine go_spec L code454 rfl ?_
   repeat (refine gk trivial ?_)
   rw [e1]
   repeat (refine gk trivial ?_)
   have e2 : (c.toNat : Int).fdiv (2 ^ min (Int.toNat 6) IntKind.u8.bits) = ((c.toNat / 64 : Nat) : Int) := by
     have : (2 : Int) ^ min (Int.toNat 6) IntKind.u8.bits = 64 := by decide
     rw [this, Int.fdiv_eq_ediv_of_nonneg _ (by omega)]; omega
   have e3 : IntKind.i64.wrap (1 * 2 ^ min ((c.toNat / 64 : Nat) : Int).toNat IntKind.i64.bits) = ((wOf c : Nat) : Int) := by
     have : c.toNat / 64 = 0 ∨ c.toNat / 64 = 1 ∨ c.toNat / 64 = 2 ∨ c.toNat / 64 = 3 := by omega
     unfold wOf
     rcases this with h | h | h | h <;> rw [h] <;> decide
   rw [e2]
   apply r_shl; (focus rfl); (focus rfl); (focus omega); (focus exact e3)
   repeat (refine gk trivial ?_)
   cases c2 : decide (((r.length + 1 : Nat) : Int) < ((wOf c : Nat) : Int))
   case true =>
     have hlt : r.length + 1 < wOf c := by have := of_decide_eq_true c2; omega
     have e : getV (c :: r) = (0, 0, 3) := by rw [getV, if_pos hlt]
     rw [e] at hk
     repeat (refine gk trivial ?_)
     exact resK_some (hk H (Fr.refl _ _))
   have hge : wOf c ≤ r.length + 1 := by have := of_decide_eq_false c2; omega
   have e : getV (c :: r) = (((valB (c.toNat % 64) (r.take (wOf c - 1)) : Nat) : Int), ((wOf c : Nat) : Int), 0) := by rw [getV, if_neg (by omega)]
   rw [e] at hk
   repeat (refine gk trivial ?_)
   rw [show IntKind.u8.bits = 8 from rfl, and63, wrap_in (n := ((c.toNat % 64 : Nat) : Int)) (by omega) (by omega)]
   have hw1 : 1 ≤ wOf c := by omega
   apply r_slcS (l := 1) (h := wOf c); (focus rfl); (focus rfl); (focus rfl); (focus omega); (focus (simp; omega))
   intro tk2
   have e4 : ((U c :: r.map U).drop 1).take (wOf c - 1) = (r.take (wOf c - 1)).map U := by rw [List.drop_succ_cons, List.drop_zero, List.map_take]
   rw [e4]
   generalize hm : r.take (wOf c - 1) = m at *
   have hml : m.length = wOf c - 1 := by rw [← hm, List.length_take]; omega
   have hm7 : m.length ≤ 7 := by omega
   repeat (refine gk trivial ?_)
   refine c_loop (Spec_SMono L) (fun (q : Nat) => [(2, .h (I (valB (c.toNat % 64) (m.take q) : Nat))), (5, .h (I (wOf c : Nat))), (27, .h (.sl tk2 1 (m.map U))), (28, .h (I m.length)), (29, .h (I q))]) (fun _ => []) (fun q X => X = H ∧ q ≤ m.length) (fun q => m.length - q) 0 ?_ ⟨rfl, by omega⟩ ?_
   · have e5 : valB (c.toNat % 64) (m.take 0) = c.toNat % 64 := by rw [List.take_zero]; rfl
     (refine leM ?_ ?_ ?_ <;> (repeat refine leS e5 ?_) <;> exact leE)
   rintro q X ⟨rfl, hq⟩
   have hvb := valB_lt (m.take q) (c.toNat % 64)
   have hvl : (m.take q).length = q := by rw [List.length_take]; omega
   rw [hvl] at hvb
   repeat (refine gk trivial ?_)
   (refine ct trivial ?_ ?_ <;> intro h)
   · have hq' : q < m.length := by have := of_decide_eq_true h; omega
     repeat (refine gk trivial ?_)
     have hv : valB (c.toNat % 64) (m.take (q + 1)) = valB (c.toNat % 64) (m.take q) * 256 + m[q].toNat := by rw [List.take_succ_eq_append_getElem hq', valB_app]; rfl
     have hb : valB (c.toNat % 64) (m.take q) < 18014398509481984 := by
       refine Nat.lt_of_lt_of_le hvb ?_
       have h1 : (256 : Nat) ^ q ≤ 256 ^ 6 := Nat.pow_le_pow_right (by omega) (by omega)
       have h2 := Nat.mul_le_mul (show c.toNat % 64 + 1 ≤ 64 by omega) h1
       exact h2
     have e6 := shl_or _ m[q] hb
     rw [← hv] at e6
     refine k_n (q + 1) (by omega) ⟨rfl, hq'⟩ ?_
     (refine leM ?_ ?_ ?_ <;> (repeat refine leS e6 ?_) <;> exact leE)
   · have hqe : q = m.length := by have := of_decide_eq_false h; omega
     subst hqe
     rw [List.take_length]
     repeat (refine gk trivial ?_)
     exact resK_some (hk _ (Fr.refl _ _))
theorem shortest_spec (L : Linked code) (tk : Tk) (l : List UInt8) (hl : l.length ≤ 1048576) : PureF L 442 [.sl tk 1 (l.map U)] (.tu [I (shortV l).1, I (shortV l).2.1, I (shortV l).2.2]) := by
 intro H K hk
 refine go_spec L code442 rfl ?_
 repeat (refine gk trivial ?_)
 (apply r_call; (focus rfl))
 refine vget_spec L tk l hl H _ fun X f => ?_
 have hb : (getV l).1 ≤ 9223372036854775807 := by
   cases l with
   | nil => decide
   | cons c r =>
     rw [getV]
     split
     · decide
     · have h := valB_lt (r.take (wOf c - 1)) (c.toNat % 64)
       have hw := wOf_cases c
       have h1 : (256 : Nat) ^ (r.take (wOf c - 1)).length ≤ 256 ^ 7 := Nat.pow_le_pow_right (by omega) (by rw [List.length_take]; omega)
       have h2 := Nat.mul_le_mul (show c.toNat % 64 + 1 ≤ 64 by omega) h1
       have h3 : 64 * 256 ^ 7 = 4611686018427387904 := by decide
       show ((valB (c.toNat % 64) (r.take (wOf c - 1)) : Nat) : Int) ≤ _
       omega
 unfold shortV at hk
 repeat (refine gk trivial ?_)
 cases c1 : ((getV l).2.2 == 0)
 case false =>
   have h0 : ¬ ((getV l).2.2 = 0 ∧ lenV (getV l).1 < (getV l).2.1) := fun h => by simp [h.1] at c1
   rw [if_neg h0] at hk
   repeat (refine gk trivial ?_)
   exact resK_some (hk _ f)
 have h0 : (getV l).2.2 = 0 := by simpa using c1
 repeat (refine gk trivial ?_)
 (apply r_call; (focus rfl))
 refine len_spec L _ hb X _ fun X2 f2 => ?_
 repeat (refine gk trivial ?_)
 cases c2 : decide (lenV (getV l).1 < (getV l).2.1)
 case false =>
   rw [if_neg (fun h => of_decide_eq_false c2 h.2)] at hk
   repeat (refine gk trivial ?_)
   exact resK_some (hk _ (f.trans f2))
 rw [if_pos ⟨h0, of_decide_eq_true c2⟩] at hk
 repeat (refine gk trivial ?_)
 exact resK_some (hk _ (f.trans f2))
end Sm
namespace Sm
open Go
def OB (H0 X : Heap) (v : HV) (l : List UInt8) : Prop := (v = .v (.slice none 0 0) ∧ l = []) ∨ v = .sl .full 1 (l.map U) ∨ ∃ b c zs, v = .v (.slice (some ⟨b, 0, none⟩) l.length c) ∧ H0 b = none ∧ X b = some (.obj (l.map U ++ zs)) ∧ l.length + zs.length = c ∧ c ≤ maxLen
theorem OB.nil (H0 X : Heap) : OB H0 X (.v (.slice none 0 0)) [] := .inl ⟨rfl, rfl⟩
theorem flatUr (r : List UInt8) (tk : Tk) (H : Heap) : rdm H 1 (.sl tk 1 (r.map U)) = some (r.length, r.map U) := by
 simp only [rdm, if_true, flatU1, List.length_map]
theorem rdm_S (s : List UInt8) (H : Heap) : rdm H 1 (S s) = some (s.length, s.map U) := by
 show (if (1 : Nat) = 1 then some ((⟨s.toArray⟩ : ByteArray).size, bytesHV ⟨s.toArray⟩) else none) = _
 rw [if_pos rfl]
 rfl
theorem rdm_ob {H0 X : Heap} {v : HV} {l : List UInt8} (h : OB H0 X v l) : rdm X 1 v = some (l.length, l.map U) := by
 rcases h with ⟨rfl, rfl⟩ | rfl | ⟨b, c, zs, rfl, _, hX, hc, _⟩
 · rfl
 · exact flatUr l _ _
 · simp only [rdm, hX]
   rw [if_pos (by simp), List.drop_zero, Nat.mul_one, List.take_left' (by simp)]
def ob2 : HV → Prop
 | .sl _ _ _ => False
 | _ => True
theorem r_appV {S' : SpecT} {sl : List (Nat × EV)} {bx : List (Nat × List HV)} {H0 H : Heap} {K : Env → Heap → Prop} {os : List SOper} {d : Nat} {x y : Opd} {v w : HV} {l r : List UInt8}
   (hG : OB H0 H v l) (hf : Fr [] H0 H) (hx : (M sl bx).hv x = some v) (hy : (M sl bx).hv y = some w) (hr : rdm H 1 w = some (r.length, r.map U)) (hl : l.length + r.length ≤ 140737488355328)
   (h : ∀ v' X, OB H0 X v' (l ++ r) → Fr [] H0 X → (ob2 v ∨ r ≠ [] → ob2 v') → rsem S' os (M ((d, .h v') :: sl) bx) X K) :
   rsem S' (⟨some d, .app 1 1 x y, none⟩ :: os) (M sl bx) H K := by
 rw [rsem_cons]
 simp only [SOp.step, hx, hy]
 refine .inr ?_
 have fin : ∀ v' X, OB H0 X v' (l ++ r) → Fr [] H0 X → (ob2 v ∨ r ≠ [] → ob2 v') → rK S' os K (some d) (.h v') (M sl bx) X := fun v' X g1 g2 g3 => by rw [rK_app, M_put]; exact h v' X g1 g2 g3
 have new : ∀ (c0 : Nat) (cs : List HV), cs = (l ++ r).map U → newrow H 1 1 (l.length + r.length) cs fun a X => rK S' os K (some d) (.h a) (M sl bx) X := fun c0 cs hcs => ⟨by omega, fun b c zs hb h1 h2 h3 h4 => by
   subst hcs
   refine fin _ _ (.inr (.inr ⟨b, c, zs, by rw [List.length_append], ?_, Heap.upd_same _ _ _, by rw [List.length_append, h3]; omega, h2⟩)) (hf.trans (Fr.new hb)) (fun _ => trivial)
   exact hf.of_none hb⟩
 unfold appK
 rw [hr]
 simp only
 rcases hG with ⟨rfl, rfl⟩ | rfl | ⟨b, c, zs, rfl, hb, hX, hc, hm⟩
 · refine ⟨fun h0 => ?_, fun h0 => by have := new 0 _ rfl; rw [List.length_nil, Nat.zero_add] at this; exact this⟩
   have : r = [] := List.eq_nil_of_length_eq_zero h0
   subst this
   exact fin _ _ (OB.nil _ _) hf (fun _ => trivial)
 · refine ⟨rfl, fun h0 => ?_, fun h0 => ?_⟩
   · have : r = [] := List.eq_nil_of_length_eq_zero h0
     subst this
     exact fin _ _ (.inr (.inl (by rw [List.append_nil]))) hf (fun h => h.elim id fun h => absurd rfl h)
   · have := new 0 _ rfl
     rw [List.length_map, flatU1, ← List.map_append]; exact this
 · refine ⟨_, hX, by omega, by simp; omega, fun hroom => ?_, fun hroom => ?_⟩
   · have e : setL (l.map U ++ zs) (0 + l.length * 1) (r.map U) = (l ++ r).map U ++ zs.drop r.length := by
       rw [Nat.zero_add, Nat.mul_one, List.map_append]
       have h2 := setL_mid (A := l.map U) (X := zs.take r.length) (Y := r.map U) (Z := zs.drop r.length) (i := l.length) (by simp) (by simp; omega)
       rw [List.append_assoc, List.take_append_drop] at h2
       exact h2
     refine fin _ _ (.inr (.inr ⟨b, c, zs.drop r.length, by rw [List.length_append], hb, by rw [Heap.upd_same, e], by rw [List.length_append, List.length_drop]; omega, hm⟩)) ?_ ?_
     · exact hf.own hb (Fr.set (by simp))
     · exact fun _ => trivial
   · have e : ((l.map U ++ zs).drop 0).take (l.length * 1) ++ r.map U = (l ++ r).map U := by
       rw [List.drop_zero, Nat.mul_one, List.take_left' (by simp), List.map_append]
     exact new 0 _ e
theorem OB.give {H X : Heap} {v : HV} {l : List UInt8} (h : OB H X v l) (f : Fr [] H X) {Q : HV → Heap → Prop} (hk : ∀ Y, Fr [] H Y → Q (.sl .no 1 (l.map U)) Y) :
   Q v X ∨ (∃ r', Weak v r' ∧ Q r' X) ∨ ∃ b cs r', X b = some (.obj cs) ∧ FW b cs v r' ∧ Q r' (X.upd b none) := by
 rcases h with ⟨rfl, rfl⟩ | rfl | ⟨b, c, zs, rfl, hb, hX, hc, hm⟩
 · exact .inr (.inl ⟨_, Weak.nil' 1, hk X f⟩)
 · exact .inr (.inl ⟨_, Weak.drop _ _ _, hk X f⟩)
 · refine .inr (.inr ⟨b, _, .sl .no 1 (l.map U), hX, FW.slice ?_ ?_ (by simp) (by omega) hm (U_el l) (U_nc l), hk _ (f.give hb)⟩)
   · rw [flatU1, Nat.mul_one, List.take_left' (by simp)]
   · simp
theorem OB.up {H H1 X : Heap} {v : HV} {l : List UInt8} (h : OB H1 X v l) (f : Fr [] H H1) : OB H X v l := by
 rcases h with h | h | ⟨b, c, zs, h1, hb, h2⟩
 · exact .inl h
 · exact .inr (.inl h)
 · exact .inr (.inr ⟨b, c, zs, h1, f.of_none hb, h2⟩)
theorem OB.fr {H X Y : Heap} {v : HV} {l : List UInt8} (h : OB H X v l) (f : Fr [] X Y) : OB H Y v l := by
 rcases h with h | h | ⟨b, c, zs, h1, hb, h2, h3⟩
 · exact .inl h
 · exact .inr (.inl h)
 · exact .inr (.inr ⟨b, c, zs, h1, hb, f.get (by simp) h2, h3⟩)
attribute [local irreducible] csem rsem dsem seqK blockK normK finK DK RK JK BR G3 resK Spec Tok Fr CV
end Sm
namespace Sm
open Go
theorem getV_hb (l : List UInt8) : 0 ≤ (getV l).1 ∧ (getV l).1 < 4611686018427387904 ∧ 0 ≤ (getV l).2.1 ∧ (getV l).2.1 ≤ 8 ∧ 0 ≤ (getV l).2.2 ∧ (getV l).2.2 ≤ 3 := by
 cases l with
 | nil => decide
 | cons c r =>
   rw [getV]
   split
   · decide
   · have h := valB_lt (r.take (wOf c - 1)) (c.toNat % 64)
     have hw := wOf_cases c
     have h1 : (256 : Nat) ^ (r.take (wOf c - 1)).length ≤ 256 ^ 7 := Nat.pow_le_pow_right (by omega) (by rw [List.length_take]; omega)
     have h2 := Nat.mul_le_mul (show c.toNat % 64 + 1 ≤ 64 by omega) h1
     have h3 : 64 * 256 ^ 7 = 4611686018427387904 := by decide
     refine ⟨by simp only; omega, ?_, by simp only; omega, by simp only; omega, by simp, by simp⟩
     show ((valB (c.toNat % 64) (r.take (wOf c - 1)) : Nat) : Int) < _
     omega
attribute [local irreducible] csem rsem dsem seqK blockK normK finK DK RK JK BR G3 resK Spec Tok Fr CV
end Sm
namespace Sm
open Go
structure Rd where
 b : List UInt8
 e : Int
def lookR (b : List UInt8) (most : Int) : Int × Int × Int := if (shortV b).2.2 = 0 ∧ most < (shortV b).1 then (0, 0, 5) else shortV b
def Rd.fail (r : Rd) (e : Int) : Rd := if e ≠ 0 ∧ r.e = 0 then ⟨r.b, e⟩ else r
def Rd.num (r : Rd) (most : Int) : Rd × Int :=
 if r.e ≠ 0 then (r, 0) else if (lookR r.b most).2.2 ≠ 0 then (⟨r.b, (lookR r.b most).2.2⟩, 0) else (⟨r.b.drop (lookR r.b most).2.1.toNat, 0⟩, (lookR r.b most).1)
def Rd.raw (r : Rd) (n : Int) : Rd × List UInt8 :=
 if r.e ≠ 0 then (r, []) else if n < 0 then (⟨r.b, 2⟩, []) else if (r.b.length : Int) < n then (⟨r.b, 3⟩, []) else (⟨r.b.drop n.toNat, 0⟩, r.b.take n.toNat)
def textE (b : List UInt8) (most : Int) : Int := if (lookR b most).2.2 = 0 ∧ (b.length : Int) - (lookR b most).2.1 < (lookR b most).1 then 3 else (lookR b most).2.2
def Rd.text (r : Rd) (most : Int) : Rd × List UInt8 :=
 if r.e ≠ 0 then (r, []) else if textE r.b most ≠ 0 then (⟨r.b, textE r.b most⟩, []) else Rd.raw ⟨r.b.drop (lookR r.b most).2.1.toNat, 0⟩ (lookR r.b most).1
def Rd.byte (r : Rd) : Rd × UInt8 := ((r.raw 1).1, (r.raw 1).2.headD 0)
def Rd.done (r : Rd) : Int := if r.e ≠ 0 then r.e else if 0 < r.b.length then 4 else 0
def RD (X : Heap) (p : Nat) (r : Rd) : Prop := ∃ tk, X p = some (.obj [.sl tk 1 (r.b.map U), I r.e])
theorem shortV_hb (l : List UInt8) : 0 ≤ (shortV l).1 ∧ (shortV l).1 < 4611686018427387904 ∧ 0 ≤ (shortV l).2.1 ∧ (shortV l).2.1 ≤ 8 ∧ 0 ≤ (shortV l).2.2 ∧ (shortV l).2.2 ≤ 4 := by
 have h := getV_hb l
 unfold shortV
 split
 · decide
 · omega
theorem getV_le (l : List UInt8) (h : (getV l).2.2 = 0) : (getV l).2.1 ≤ l.length := by
 cases l with
 | nil => decide
 | cons c r =>
   rw [getV] at h ⊢
   split
   · simp only [List.length_cons]; omega
   · simp only [List.length_cons]; omega
theorem shortV_le (l : List UInt8) (h : (shortV l).2.2 = 0) : (shortV l).2.1 ≤ l.length := by
 unfold shortV at h ⊢
 split
 · rename_i h2; rw [if_pos h2] at h; cases h
 · rename_i h2; rw [if_neg h2] at h; exact getV_le l h
theorem lookR_hb (l : List UInt8) (m : Int) : 0 ≤ (lookR l m).1 ∧ (lookR l m).1 < 4611686018427387904 ∧ 0 ≤ (lookR l m).2.1 ∧ (lookR l m).2.1 ≤ 8 ∧ 0 ≤ (lookR l m).2.2 ∧ (lookR l m).2.2 ≤ 5 := by
 have h := shortV_hb l
 unfold lookR
 split
 · decide
 · omega
theorem lookR_le (l : List UInt8) (m : Int) (h : (lookR l m).2.2 = 0) : (lookR l m).2.1 ≤ l.length := by
 unfold lookR at h ⊢
 split
 · rename_i h2; rw [if_pos h2] at h; cases h
 · rename_i h2; rw [if_neg h2] at h; exact shortV_le l h
attribute [local irreducible] csem rsem dsem seqK blockK normK finK DK RK JK BR G3 resK Spec Tok Fr CV
theorem fnew_spec (L : Linked code) (tk : Tk) (l : List UInt8) (H : Heap) (K) (hk : ∀ p X, H p = none → RD X p ⟨l, 0⟩ → Fr [] H X → K (ptr p) X) : Spec L.P L.ν 458 [.sl tk 1 (l.map U)] H K := by
 refine go_spec L code458 rfl ?_
 repeat (refine gk trivial ?_)
 refine bxk trivial ?_
 intro p X hp hX fX _
 repeat (refine gk trivial ?_)
 exact resK_some (hk p X hp ⟨tk, hX⟩ fX)
theorem ffail_spec (L : Linked code) (p : Nat) (r : Rd) (e : Int) (H : Heap) (hD : RD H p r) (K) (hk : ∀ Y, RD Y p (r.fail e) → Fr [p] H Y → K (B ((r.fail e).e != 0)) Y) : Spec L.P L.ν 476 [ptr p, I e] H K := by
 obtain ⟨tk, hH⟩ := hD
 unfold Rd.fail at hk
 refine go_spec L code476 rfl ?_
 repeat (refine gk trivial ?_)
 cases c1 : (e != 0)
 case false =>
   have h0 : e = 0 := by simpa using c1
   rw [if_neg (fun h => h.1 h0)] at hk
   repeat (refine gk trivial ?_)
   exact resK_some (hk H ⟨tk, hH⟩ (Fr.refl _ _))
 have h0 : e ≠ 0 := by simpa using c1
 repeat (refine gk trivial ?_)
 cases c2 : (r.e == 0)
 case false =>
   have h1 : r.e ≠ 0 := by simpa using c2
   rw [if_neg (fun h => h1 h.2)] at hk
   repeat (refine gk trivial ?_)
   exact resK_some (hk H ⟨tk, hH⟩ (Fr.refl _ _))
 have h1 : r.e = 0 := by simpa using c2
 rw [if_pos ⟨h0, h1⟩] at hk
 repeat (refine gk trivial ?_)
 refine sxk trivial ?_
 intro Y hY fY
 repeat (refine gk trivial ?_)
 exact resK_some (hk Y ⟨tk, hY⟩ fY)
theorem flook_spec (L : Linked code) (p : Nat) (r : Rd) (m : Int) (hl : r.b.length ≤ 1048576) (H : Heap) (hD : RD H p r) (K) (hk : ∀ Y, Fr [] H Y → K (.tu [I (lookR r.b m).1, I (lookR r.b m).2.1, I (lookR r.b m).2.2]) Y) : Spec L.P L.ν 475 [ptr p, I m] H K := by
 obtain ⟨tk, hH⟩ := hD
 unfold lookR at hk
 refine go_spec L code475 rfl ?_
 repeat (refine gk trivial ?_)
 (apply r_call; (focus rfl))
 refine shortest_spec L tk r.b hl H _ fun X f => ?_
 repeat (refine gk trivial ?_)
 cases c1 : ((shortV r.b).2.2 == 0)
 case false =>
   rw [if_neg (fun h => by simp [h.1] at c1)] at hk
   repeat (refine gk trivial ?_)
   exact resK_some (hk X f)
 have h0 : (shortV r.b).2.2 = 0 := by simpa using c1
 repeat (refine gk trivial ?_)
 cases c2 : decide (m < (shortV r.b).1)
 case false =>
   rw [if_neg (fun h => of_decide_eq_false c2 h.2)] at hk
   repeat (refine gk trivial ?_)
   exact resK_some (hk X f)
 rw [if_pos ⟨h0, of_decide_eq_true c2⟩] at hk
 repeat (refine gk trivial ?_)
 exact resK_some (hk X f)
theorem fnum_spec (L : Linked code) (p : Nat) (r : Rd) (m : Int) (hl : r.b.length ≤ 1048576) (H : Heap) (hD : RD H p r) (K) (hk : ∀ Y, RD Y p (r.num m).1 → Fr [p] H Y → K (I (r.num m).2) Y) : Spec L.P L.ν 460 [ptr p, I m] H K := by
 have hD0 := hD
 obtain ⟨tk, hH⟩ := hD
 unfold Rd.num at hk
 refine go_spec L code460 rfl ?_
 repeat (refine gk trivial ?_)
 cases c1 : (r.e != 0)
 case true =>
   rw [if_pos (by simpa using c1)] at hk
   repeat (refine gk trivial ?_)
   exact resK_some (hk H hD0 (Fr.refl _ _))
 have h0 : r.e = 0 := by simpa using c1
 rw [if_neg (by simpa using h0)] at hk
 repeat (refine gk trivial ?_)
 (apply r_call; (focus rfl))
 refine flook_spec L p r m hl H hD0 _ fun X f => ?_
 have hX := f.get (by simp) hH
 have hb := lookR_hb r.b m
 repeat (refine gk trivial ?_)
 (apply r_call; (focus rfl))
 refine ffail_spec L p r _ X ⟨tk, hX⟩ _ fun Y hY fY => ?_
 unfold Rd.fail at hY ⊢
 by_cases h1 : (lookR r.b m).2.2 = 0
 · rw [if_neg (fun h => h.1 h1)] at hY ⊢
   rw [if_neg (by simpa using h1)] at hk
   have hle := lookR_le r.b m h1
   obtain ⟨tk2, hY2⟩ := hY
   rw [h0, show ((0 : Int) != 0) = false from rfl]
   repeat (refine gk trivial ?_)
   apply r_slcS (l := (lookR r.b m).2.1.toNat) (h := r.b.length); (focus rfl); (focus (show some (lookR r.b m).2.1 = some _; rw [Int.toNat_of_nonneg hb.2.2.1])); (focus (show some _ = some _; simp)); (focus omega); (focus simp)
   intro tk3
   have e1 : ((r.b.map U).drop (lookR r.b m).2.1.toNat).take (r.b.length - (lookR r.b m).2.1.toNat) = (r.b.drop (lookR r.b m).2.1.toNat).map U := by
     rw [List.take_of_length_le (by simp), List.map_drop]
   rw [e1]
   repeat (refine gk trivial ?_)
   refine sxk trivial ?_
   intro Z hZ fZ
   repeat (refine gk trivial ?_)
   rw [h0] at hZ
   exact resK_some (hk Z ⟨tk3, hZ⟩ ((f.mono (by simp)).trans (fY.trans fZ)))
 · rw [if_pos ⟨h1, h0⟩] at hY ⊢
   rw [if_pos h1] at hk
   rw [show ((lookR r.b m).2.2 != 0) = true by simpa using h1]
   repeat (refine gk trivial ?_)
   exact resK_some (hk Y hY ((f.mono (by simp)).trans fY))
end Sm
namespace Sm
open Go
attribute [local irreducible] csem rsem dsem seqK blockK normK finK DK RK JK BR G3 resK Spec Tok Fr CV
theorem fraw_spec (L : Linked code) (p : Nat) (r : Rd) (n : Int) (hl : r.b.length ≤ 1048576) (H : Heap) (hD : RD H p r) (K) (hk : ∀ Y, RD Y p (r.raw n).1 → Fr [p] H Y → K (S (r.raw n).2) Y) : Spec L.P L.ν 462 [ptr p, I n] H K := by
 have hD0 := hD
 obtain ⟨tk, hH⟩ := hD
 unfold Rd.raw at hk
 refine go_spec L code462 rfl ?_
 repeat (refine gk trivial ?_)
 cases c1 : (r.e != 0)
 case true =>
   rw [if_pos (by simpa using c1)] at hk
   repeat (refine gk trivial ?_)
   exact resK_some (hk H hD0 (Fr.refl _ _))
 have h0 : r.e = 0 := by simpa using c1
 rw [if_neg (by simpa using h0)] at hk
 repeat (refine gk trivial ?_)
 cases c2 : decide (n < 0)
 case true =>
   rw [if_pos (of_decide_eq_true c2)] at hk
   repeat (refine gk trivial ?_)
   (apply r_call; (focus rfl))
   refine ffail_spec L p r 2 H hD0 _ fun Y hY fY => ?_
   have e : r.fail 2 = ⟨r.b, 2⟩ := by unfold Rd.fail; rw [if_pos ⟨by decide, h0⟩]
   rw [e] at hY
   repeat (refine gk trivial ?_)
   exact resK_some (hk Y hY fY)
 have hn0 : 0 ≤ n := by have := of_decide_eq_false c2; omega
 rw [if_neg (by omega)] at hk
 repeat (refine gk trivial ?_)
 cases c3 : decide ((r.b.length : Int) < n)
 case true =>
   rw [if_pos (of_decide_eq_true c3)] at hk
   repeat (refine gk trivial ?_)
   (apply r_call; (focus rfl))
   refine ffail_spec L p r 3 H hD0 _ fun Y hY fY => ?_
   have e : r.fail 3 = ⟨r.b, 3⟩ := by unfold Rd.fail; rw [if_pos ⟨by decide, h0⟩]
   rw [e] at hY
   repeat (refine gk trivial ?_)
   exact resK_some (hk Y hY fY)
 have hnl : n ≤ (r.b.length : Int) := by have := of_decide_eq_false c3; omega
 rw [if_neg (by omega)] at hk
 obtain ⟨m, rfl⟩ : ∃ m : Nat, n = m := ⟨n.toNat, by omega⟩
 rw [Int.toNat_natCast] at hk
 repeat (refine gk trivial ?_)
 apply r_slcS (l := 0) (h := m); (focus rfl); (focus rfl); (focus rfl); (focus omega); (focus (simp; omega))
 intro tk2
 rw [show ((r.b.map U).drop 0).take (m - 0) = (r.b.take m).map U by rw [List.drop_zero, Nat.sub_zero, List.map_take]]
 repeat (refine gk trivial ?_)
 apply r_slcS (l := m) (h := r.b.length); (focus rfl); (focus rfl); (focus (show some _ = some _; simp)); (focus omega); (focus simp)
 intro tk3
 rw [show ((r.b.map U).drop m).take (r.b.length - m) = (r.b.drop m).map U by rw [List.take_of_length_le (by simp), List.map_drop]]
 repeat (refine gk trivial ?_)
 refine sxk trivial ?_
 intro Z hZ fZ
 repeat (refine gk trivial ?_)
 rw [h0] at hZ
 exact resK_some (hk Z ⟨tk3, hZ⟩ fZ)
theorem ftext_spec (L : Linked code) (p : Nat) (r : Rd) (m : Int) (hl : r.b.length ≤ 1048576) (H : Heap) (hD : RD H p r) (K) (hk : ∀ Y, RD Y p (r.text m).1 → Fr [p] H Y → K (S (r.text m).2) Y) : Spec L.P L.ν 461 [ptr p, I m] H K := by
 have hD0 := hD
 obtain ⟨tk, hH⟩ := hD
 unfold Rd.text at hk
 refine go_spec L code461 rfl ?_
 repeat (refine gk trivial ?_)
 cases c1 : (r.e != 0)
 case true =>
   rw [if_pos (by simpa using c1)] at hk
   repeat (refine gk trivial ?_)
   exact resK_some (hk H hD0 (Fr.refl _ _))
 have h0 : r.e = 0 := by simpa using c1
 rw [if_neg (by simpa using h0)] at hk
 repeat (refine gk trivial ?_)
 (apply r_call; (focus rfl))
 refine flook_spec L p r m hl H hD0 _ fun X f => ?_
 have hX := f.get (by simp) hH
 have hb := lookR_hb r.b m
 have hle := lookR_le r.b m
 have hE : textE r.b m = if (lookR r.b m).2.2 = 0 ∧ (r.b.length : Int) - (lookR r.b m).2.1 < (lookR r.b m).1 then 3 else (lookR r.b m).2.2 := rfl
 generalize hs : lookR r.b m = s at *
 obtain ⟨n, used, e⟩ := s
 simp only at hb hle hE hk ⊢
 have key : ∀ (tk : Tk) (X' : Heap) (bx : List (Nat × List HV)), True := fun _ _ _ => trivial
 repeat (refine gk trivial ?_)
 cases c2 : (e == 0)
 case false =>
   have h1 : e ≠ 0 := by simpa using c2
   rw [if_neg (fun h => h1 h.1)] at hE
   rw [hE, if_pos h1] at hk
   repeat (refine gk trivial ?_)
   (apply r_call; (focus rfl))
   refine ffail_spec L p r e X ⟨tk, hX⟩ _ fun Y hY fY => ?_
   have ef : r.fail e = ⟨r.b, e⟩ := by unfold Rd.fail; rw [if_pos ⟨h1, h0⟩]
   rw [ef] at hY ⊢
   rw [show (((⟨r.b, e⟩ : Rd).e) != 0) = true by simpa using h1]
   repeat (refine gk trivial ?_)
   exact resK_some (hk Y hY ((f.mono (by simp)).trans fY))
 have h1 : e = 0 := by simpa using c2
 subst h1
 have hul := hle rfl
 repeat (refine gk trivial ?_)
 cases c3 : decide ((r.b.length : Int) - used < n)
 case true =>
   rw [if_pos ⟨rfl, of_decide_eq_true c3⟩] at hE
   rw [hE, if_pos (by decide)] at hk
   repeat (refine gk trivial ?_)
   (apply r_call; (focus rfl))
   refine ffail_spec L p r 3 X ⟨tk, hX⟩ _ fun Y hY fY => ?_
   have ef : r.fail 3 = ⟨r.b, 3⟩ := by unfold Rd.fail; rw [if_pos ⟨by decide, h0⟩]
   rw [ef] at hY ⊢
   rw [show (((⟨r.b, 3⟩ : Rd).e) != 0) = true from rfl]
   repeat (refine gk trivial ?_)
   exact resK_some (hk Y hY ((f.mono (by simp)).trans fY))
 have h3 := of_decide_eq_false c3
 rw [if_neg (fun h => h3 h.2)] at hE
 rw [hE, if_neg (by simp)] at hk
 repeat (refine gk trivial ?_)
 (apply r_call; (focus rfl))
 refine ffail_spec L p r 0 X ⟨tk, hX⟩ _ fun Y hY fY => ?_
 have ef : r.fail 0 = r := by unfold Rd.fail; rw [if_neg (fun h => h.1 rfl)]
 rw [ef] at hY ⊢
 obtain ⟨tk2, hY2⟩ := hY
 rw [h0, show ((0 : Int) != 0) = false from rfl]
 repeat (refine gk trivial ?_)
 apply r_slcS (l := used.toNat) (h := r.b.length); (focus rfl); (focus (show some used = some _; rw [Int.toNat_of_nonneg hb.2.2.1])); (focus (show some _ = some _; simp)); (focus omega); (focus simp)
 intro tk3
 rw [show ((r.b.map U).drop used.toNat).take (r.b.length - used.toNat) = (r.b.drop used.toNat).map U by rw [List.take_of_length_le (by simp), List.map_drop]]
 repeat (refine gk trivial ?_)
 refine sxk trivial ?_
 intro Z hZ fZ
 rw [h0] at hZ
 repeat (refine gk trivial ?_)
 (apply r_call; (focus rfl))
 refine fraw_spec L p ⟨r.b.drop used.toNat, 0⟩ n (by simp; omega) Z ⟨tk3, hZ⟩ _ fun W hW fW => ?_
 repeat (refine gk trivial ?_)
 exact resK_some (hk W hW ((f.mono (by simp)).trans (fY.trans (fZ.trans fW))))
theorem fbyte_spec (L : Linked code) (p : Nat) (r : Rd) (hl : r.b.length ≤ 1048576) (H : Heap) (hD : RD H p r) (K) (hk : ∀ Y, RD Y p r.byte.1 → Fr [p] H Y → K (U r.byte.2) Y) : Spec L.P L.ν 459 [ptr p] H K := by
 have hk' : ∀ Y, RD Y p (r.raw 1).1 → Fr [p] H Y → K (U ((r.raw 1).2.headD 0)) Y := hk
 clear hk
 refine go_spec L code459 rfl ?_
 repeat (refine gk trivial ?_)
 (apply r_call; (focus rfl))
 refine fraw_spec L p r 1 hl H hD _ fun Y hY fY => ?_
 generalize (r.raw 1).2 = s at *
 cases s with
 | nil =>
   have h5 : K (U 0) Y := hk' Y hY fY
   repeat (refine gk trivial ?_)
   rw [show (!(([] : List UInt8) == [])) = false from rfl]
   repeat (refine gk trivial ?_)
   exact resK_some h5
 | cons c cs =>
   have h5 : K (U c) Y := hk' Y hY fY
   repeat (refine gk trivial ?_)
   rw [show (!((c :: cs) == ([] : List UInt8))) = true from rfl]
   repeat (refine gk trivial ?_)
   exact resK_some h5
theorem ferr_spec (L : Linked code) (p : Nat) (r : Rd) (H : Heap) (hD : RD H p r) (K) (hk : K (I r.e) H) : Spec L.P L.ν 477 [ptr p] H K := by
 obtain ⟨tk, hH⟩ := hD
 refine go_spec L code477 rfl ?_
 repeat (refine gk trivial ?_)
 exact resK_some hk
theorem fdone_spec (L : Linked code) (p : Nat) (r : Rd) (H : Heap) (hD : RD H p r) (K) (hk : K (I r.done) H) : Spec L.P L.ν 463 [ptr p] H K := by
 have hD0 := hD
 obtain ⟨tk, hH⟩ := hD
 unfold Rd.done at hk
 refine go_spec L code463 rfl ?_
 repeat (refine gk trivial ?_)
 (apply r_call; (focus rfl))
 refine ferr_spec L p r H hD0 _ ?_
 repeat (refine gk trivial ?_)
 cases c1 : (r.e != 0)
 case true =>
   rw [if_pos (by simpa using c1)] at hk
   repeat (refine gk trivial ?_)
   exact resK_some hk
 rw [if_neg (by simpa using c1)] at hk
 repeat (refine gk trivial ?_)
 cases c2 : decide (0 < (r.b.length : Int))
 case true =>
   rw [if_pos (by have := of_decide_eq_true c2; omega)] at hk
   repeat (refine gk trivial ?_)
   exact resK_some hk
 rw [if_neg (by have := of_decide_eq_false c2; omega)] at hk
 repeat (refine gk trivial ?_)
 exact resK_some hk
end Sm
