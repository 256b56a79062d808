/-
  JL1,JL2,JL3,JL4,JD,JL5,JL6,JL7,JL8,JL9
-/
import Derived.Test.YtegmmhldpmmkeaaGreatDoorSmJE
set_option linter.unusedVariables false
set_option linter.unusedSimpArgs false
set_option maxRecDepth 10000
set_option maxHeartbeats 1000000
namespace Sm
open Go
theorem lowB_head : ∀ (k n : Nat), lowB (k + 1) n = UInt8.ofNat (n / 256 ^ k % 256) :: lowB k n
 | 0, n => by simp [lowB]
 | k + 1, n => by
   rw [lowB, lowB_head k (n / 256), List.cons_append, Nat.div_div_eq_div_mul, ← Nat.pow_succ']
   rfl
theorem valB_lowB : ∀ (k n m : Nat), valB m (lowB k n) = m * 256 ^ k + n % 256 ^ k
 | 0, n, m => by simp [lowB, valB, Nat.mod_one]
 | k + 1, n, m => by
   rw [lowB, valB_app, valB_lowB k]
   simp only [valB]
   rw [Nat.pow_succ', Nat.mod_mul, UInt8.toNat_ofNat']
   have : n % 256 % 2 ^ 8 = n % 256 := by omega
   rw [this, Nat.add_mul, Nat.mul_comm 256 (256 ^ k), ← Nat.mul_assoc, Nat.mul_comm (n / 256 % 256 ^ k) 256]
   omega
theorem or_topW (w : Nat) (hw : w = 1 ∨ w = 2 ∨ w = 4 ∨ w = 8) (n : Nat) (hn : n < 64) : wOf (UInt8.ofNat n ||| topV w) = w ∧ (UInt8.ofNat n ||| topV w).toNat % 64 = n := by
 have h1 : ∀ x : Fin 64, (wOf (UInt8.ofNat x.1 ||| 0) = 1 ∧ (UInt8.ofNat x.1 ||| 0).toNat % 64 = x.1) ∧ (wOf (UInt8.ofNat x.1 ||| 64) = 2 ∧ (UInt8.ofNat x.1 ||| 64).toNat % 64 = x.1) ∧ (wOf (UInt8.ofNat x.1 ||| 128) = 4 ∧ (UInt8.ofNat x.1 ||| 128).toNat % 64 = x.1) ∧ (wOf (UInt8.ofNat x.1 ||| 192) = 8 ∧ (UInt8.ofNat x.1 ||| 192).toNat % 64 = x.1) := by decide
 obtain ⟨a, b, c, d⟩ := h1 ⟨n, hn⟩
 rcases hw with rfl | rfl | rfl | rfl
 · exact a
 · exact b
 · exact c
 · exact d
theorem getV_enc (w n : Nat) (hw : w = 1 ∨ w = 2 ∨ w = 4 ∨ w = 8) (hn : n < 64 * 256 ^ (w - 1)) (y : List UInt8) : getV (encV w n ++ y) = ((n : Int), (w : Int), 0) := by
 obtain ⟨k, rfl⟩ : ∃ k, w = k + 1 := ⟨w - 1, by omega⟩
 rw [Nat.add_sub_cancel] at hn
 have hq : n / 256 ^ k < 64 := (Nat.div_lt_iff_lt_mul (Nat.pow_pos (by omega))).mpr hn
 have hq2 : n / 256 ^ k % 256 = n / 256 ^ k := Nat.mod_eq_of_lt (by omega)
 obtain ⟨h1, h2⟩ := or_topW (k + 1) hw _ hq
 unfold encV
 rw [lowB_head, hq2, orTop, List.cons_append, getV, h1, if_neg (by simp only [List.length_append, lowB_len]; omega), h2, Nat.add_sub_cancel, List.take_left' (lowB_len k n), valB_lowB]
 rw [Nat.mul_comm, Nat.div_add_mod]
theorem lenV_of (n : Nat) (hn : n < 4611686018427387904) : ∃ w : Nat, lenV n = w ∧ (w = 1 ∨ w = 2 ∨ w = 4 ∨ w = 8) ∧ n < 64 * 256 ^ (w - 1) := by
 unfold lenV
 rw [if_neg (by omega)]
 split
 · exact ⟨1, rfl, by omega, by omega⟩
 split
 · exact ⟨2, rfl, by omega, by simp; omega⟩
 split
 · exact ⟨4, rfl, by omega, by simp; omega⟩
 split
 · exact ⟨8, rfl, by omega, by simp; omega⟩
 · omega
theorem putV_length (n : Int) : (putV n).length = (lenV n).toNat := encV_len _ _
theorem shortV_put (n : Int) (h0 : 0 ≤ n) (hn : n < 4611686018427387904) (y : List UInt8) : shortV (putV n ++ y) = (n, lenV n, 0) := by
 obtain ⟨m, rfl⟩ := Int.eq_ofNat_of_zero_le h0
 obtain ⟨w, h1, h2, h3⟩ := lenV_of m (by omega)
 have h4 : getV (putV (m : Int) ++ y) = ((m : Int), (w : Int), 0) := by
   unfold putV
   rw [h1, Int.toNat_natCast, Int.toNat_natCast]
   exact getV_enc w m h2 h3 y
 unfold shortV
 rw [h4, if_neg (by simp only [h1]; omega), h1]
theorem take_app {α : Type} {a b : List α} {n : Nat} (h : a.length = n) : (a ++ b).take n = a := List.take_left' h
theorem drop_app {α : Type} {a b : List α} {n : Nat} (h : a.length = n) : (a ++ b).drop n = b := List.drop_left' h
theorem lenV_nn (n : Int) : 0 ≤ lenV n := by unfold lenV; repeat' split <;> omega
theorem Rd.num_put {n most : Int} (h0 : 0 ≤ n) (h1 : n ≤ most) (h2 : most < 4611686018427387904) (y : List UInt8) : Rd.num ⟨putV n ++ y, 0⟩ most = (⟨y, 0⟩, n) := by
 have hs := shortV_put n h0 (by omega) y
 have hl : lookR (putV n ++ y) most = (n, lenV n, 0) := by
   unfold lookR
   rw [hs, if_neg (by simp only; omega)]
 unfold Rd.num
 simp only [hl, ne_eq, not_true, if_false]
 rw [drop_app (putV_length n)]
theorem Rd.raw_put {s y : List UInt8} {n : Int} (hn : n = s.length) : Rd.raw ⟨s ++ y, 0⟩ n = (⟨y, 0⟩, s) := by
 subst hn
 unfold Rd.raw
 simp only [ne_eq, not_true, if_false]
 rw [if_neg (by omega), if_neg (by simp only [List.length_append]; omega), Int.toNat_natCast, drop_app rfl, take_app rfl]
theorem Rd.text_put {s y : List UInt8} {most : Int} (h1 : (s.length : Int) ≤ most) (h2 : most < 4611686018427387904) : Rd.text ⟨textB s ++ y, 0⟩ most = (⟨y, 0⟩, s) := by
 have e0 : textB s ++ y = putV (s.length : Int) ++ (s ++ y) := by unfold textB; rw [List.append_assoc]
 rw [e0]
 have hs := shortV_put (s.length : Int) (by omega) (by omega) (s ++ y)
 have hl : lookR (putV (s.length : Int) ++ (s ++ y)) most = ((s.length : Int), lenV s.length, 0) := by
   unfold lookR
   rw [hs, if_neg (by simp only; omega)]
 have hp := putV_length (s.length : Int)
 have hn := lenV_nn (s.length : Int)
 have ht : textE (putV (s.length : Int) ++ (s ++ y)) most = 0 := by
   unfold textE
   rw [hl, if_neg (by simp only [List.length_append, true_and]; omega)]
 unfold Rd.text
 simp only [ht, hl, ne_eq, not_true, if_false]
 rw [drop_app hp]
 exact Rd.raw_put rfl
theorem Rd.byte_put (c : UInt8) (y : List UInt8) : Rd.byte ⟨c :: y, 0⟩ = (⟨y, 0⟩, c) := by
 unfold Rd.byte
 rw [show c :: y = [c] ++ y from rfl, Rd.raw_put (s := [c]) (n := 1) rfl]
 rfl
theorem openB_seal (b : List UInt8) : openB (sealB b) = (b, 0) := by
 have hl : (sealB b).length = b.length + 4 := by unfold sealB; rw [List.length_append, le4_len]
 unfold openB
 rw [if_neg (by omega), hl, Nat.add_sub_cancel]
 unfold sealB
 rw [take_app rfl, drop_app rfl]
 simp
def nrm (r : Rc) : Rc := bif (r.kind.toNat : Int) == 0 then ⟨r.kind, r.id, r.path, sum32 r.sum, r.size, 0⟩ else bif (r.kind.toNat : Int) == 1 then ⟨r.kind, r.id, [], [], 0, r.off⟩ else ⟨r.kind, r.id, [], [], 0, 0⟩
theorem bodyR_put {r : Rc} (h : chkR r = 0) : bodyR (recBody r) = (nrm r, ⟨[], 0⟩) := by
 obtain ⟨h1, h2, h3, h4, h5, h6, h7, h8⟩ := chkR_ok h
 unfold bodyR nrm recBody recTail
 rw [List.cons_append, Rd.byte_put]
 dsimp only
 rw [Rd.num_put h2 h3 (by omega)]
 dsimp only
 cases c1 : (r.kind.toNat : Int) == 0
 · cases c2 : (r.kind.toNat : Int) == 1
   · rfl
   · dsimp only [cond_true, cond_false]
     rw [← List.append_nil (putV r.off), Rd.num_put h7 h8 (by omega)]
 · dsimp only [cond_true, cond_false]
   rw [List.append_assoc, Rd.text_put (by omega) (by omega)]
   dsimp only
   rw [Rd.raw_put (s := sum32 r.sum) (n := 32) rfl]
   dsimp only
   rw [← List.append_nil (putV r.size), Rd.num_put h5 h6 (by omega)]
theorem sum32_32 {s : List UInt8} (h : s.length = 32) : sum32 s = s := by
 have e : sum32 s = (List.range 32).map fun i => s.getD i 0 := rfl
 rw [e]
 refine List.ext_getElem (by rw [List.length_map, List.length_range, h]) fun i hi hj => ?_
 simp only [List.getElem_map, List.getElem_range]
 simp [List.getD, hj]
theorem chkR_iff (r : Rc) : chkR r = 0 ↔ r.kind.toNat ≤ 4 ∧ 0 ≤ r.id ∧ r.id ≤ 1099511627776 ∧ (((r.kind.toNat : Int) = 0 ∧ begT r.path r.size = 0) ∨ ((r.kind.toNat : Int) ≠ 0 ∧ bareB r = true)) ∧ chkOff r.kind r.off = 0 := by
 unfold chkR
 cases d1 : decide (4 < (r.kind.toNat : Int))
 · have e1 := of_decide_eq_false d1
   cases d2 : decide (r.id < 0)
   · have e2 := of_decide_eq_false d2
     cases d3 : decide (1099511627776 < r.id)
     · have e3 := of_decide_eq_false d3
       cases c1 : (r.kind.toNat : Int) == 0
       · have f1 : (r.kind.toNat : Int) ≠ 0 := by simpa using c1
         cases c2 : bareB r
         · constructor
           · intro h; cases h
           · rintro ⟨_, _, _, h4, _⟩
             rcases h4 with h4 | h4
             · exact absurd h4.1 f1
             · cases h4.2
         · simp only [cond_false, cond_true, f1, false_and, false_or, ne_eq, not_false_eq_true, true_and, and_true]
           constructor
           · intro h; exact ⟨by omega, by omega, by omega, h⟩
           · intro h; exact h.2.2.2
       · have f1 : (r.kind.toNat : Int) = 0 := by simpa using c1
         cases c2 : begT r.path r.size != 0
         · have f2 : begT r.path r.size = 0 := by simpa using c2
           simp only [cond_false, cond_true, f1, f2, ne_eq, not_true, false_and, or_false, true_and, and_self]
           constructor
           · intro h; exact ⟨by omega, by omega, by omega, h⟩
           · intro h; exact h.2.2.2
         · have f2 : begT r.path r.size ≠ 0 := by simpa using c2
           simp [f1, f2]
     · have e3 := of_decide_eq_true d3
       simp only [cond_false, cond_true]
       constructor
       · intro h; cases h
       · intro h; omega
   · have e2 := of_decide_eq_true d2
     simp only [cond_false, cond_true]
     constructor
     · intro h; cases h
     · intro h; omega
 · have e1 := of_decide_eq_true d1
   simp only [cond_true]
   constructor
   · intro h; cases h
   · intro h; omega
theorem chkOff_iff (k : UInt8) (o : Int) : chkOff k o = 0 ↔ 0 ≤ o ∧ o ≤ 65536 ∧ (o = 0 ∨ (k.toNat : Int) = 1) := by
 unfold chkOff
 cases d1 : okN o
 · simp only [cond_false]
   unfold okN at d1
   constructor
   · intro h; cases h
   · rintro ⟨h1, h2, _⟩
     simp [h1, h2] at d1
 · unfold okN at d1
   simp only [Bool.and_eq_true, decide_eq_true_eq] at d1
   cases d2 : o != 0
   · have : o = 0 := by simpa using d2
     simp [this]
   · have f2 : o ≠ 0 := by simpa using d2
     cases d3 : (k.toNat : Int) != 1
     · have f3 : (k.toNat : Int) = 1 := by simpa using d3
       simp [d1, f3]
     · have f3 : (k.toNat : Int) ≠ 1 := by simpa using d3
       simp [f2, f3]
theorem chkR_nrm {r : Rc} (h : chkR r = 0) : chkR (nrm r) = 0 := by
 obtain ⟨h1, h2, h3, h4, h5⟩ := (chkR_iff r).mp h
 have hb : ∀ k i o, bareB ⟨k, i, [], [], 0, o⟩ = true := fun k i o => rfl
 unfold nrm
 cases c1 : (r.kind.toNat : Int) == 0
 · have f1 : (r.kind.toNat : Int) ≠ 0 := by simpa using c1
   cases c2 : (r.kind.toNat : Int) == 1
   · exact (chkR_iff _).mpr ⟨h1, h2, h3, .inr ⟨f1, hb _ _ _⟩, (chkOff_iff _ _).mpr ⟨by show (0 : Int) ≤ 0; decide, by show (0 : Int) ≤ 65536; decide, .inl rfl⟩⟩
   · exact (chkR_iff _).mpr ⟨h1, h2, h3, .inr ⟨f1, hb _ _ _⟩, h5⟩
 · have f1 : (r.kind.toNat : Int) = 0 := by simpa using c1
   refine (chkR_iff _).mpr ⟨h1, h2, h3, .inl ⟨f1, ?_⟩, (chkOff_iff _ _).mpr ⟨by show (0 : Int) ≤ 0; decide, by show (0 : Int) ≤ 65536; decide, .inl rfl⟩⟩
   rcases h4 with h4 | h4
   · exact h4.2
   · exact absurd f1 h4.1
theorem encR_parts {r : Rc} (h : chkR r = 0) : ∃ n : Nat, encR r = putV (n : Int) ++ sealB (recBody r) ∧ (sealB (recBody r)).length = n ∧ n ≤ 512 ∧ 1 ≤ lenV n := by
 have h4 := (chkR_ok h).2.2.2.1
 have hb : (sealB (recBody r)).length ≤ 512 := by
   have l0 := putV_le r.id
   have l1 := putV_le r.size
   have l2 := putV_le r.off
   have l3 := putV_le (r.path.length : Int)
   have l4 : (sum32 r.sum).length = 32 := rfl
   have : (recTail r).length ≤ 300 := by
     unfold recTail
     cases (r.kind.toNat : Int) == 0 <;> cases (r.kind.toNat : Int) == 1 <;> simp only [cond_true, cond_false, textB, List.length_append, List.length_nil] <;> omega
   unfold sealB
   rw [List.length_append, le4_len]
   simp only [recBody, List.length_append, List.length_cons]
   omega
 obtain ⟨w, f1, f2, f3⟩ := lenV_of (sealB (recBody r)).length (by omega)
 exact ⟨(sealB (recBody r)).length, rfl, rfl, hb, by rw [f1]; omega⟩
theorem firstR_put {r : Rc} (h : chkR r = 0) (y : List UInt8) : firstR (encR r ++ y) = (nrm r, ((encR r).length : Int), 0) := by
 obtain ⟨n, e1, e2, e3, e4⟩ := encR_parts h
 have hs := shortV_put (n : Int) (by omega) (by omega) (sealB (recBody r) ++ y)
 have hl := putV_length (n : Int)
 have hlen : ((encR r).length : Int) = lenV n + n := by rw [e1, List.length_append, e2, hl]; omega
 have hp : partB (encR r ++ y) = sealB (recBody r) := by
   unfold partB
   rw [e1, List.append_assoc, hs]
   dsimp only
   rw [drop_app hl, Int.toNat_natCast, take_app e2]
 have hrd : readR (recBody r) = (nrm r, true) := by
   unfold readR
   rw [bodyR_put h, chkR_nrm h]
   rfl
 unfold firstR
 rw [hp, openB_seal]
 rw [hlen]
 rw [show shortV (encR r ++ y) = ((n : Int), lenV n, 0) by rw [e1, List.append_assoc, hs]]
 have d1 : decide (512 < (n : Int)) = false := decide_eq_false (by omega)
 have d2 : decide (((encR r ++ y).length : Int) - lenV n < n) = false := decide_eq_false (by rw [List.length_append]; omega)
 dsimp only
 rw [d1, d2]
 dsimp only [cond_false, bne_self_eq_false]
 rw [hrd]
 rfl
theorem getV_short {w n k : Nat} (hw : w = 1 ∨ w = 2 ∨ w = 4 ∨ w = 8) (hn : n < 64 * 256 ^ (w - 1)) (hk : k < w) : getV ((encV w n).take k) = (0, 0, 3) := by
 cases k with
 | zero => rfl
 | succ k =>
   obtain ⟨j, rfl⟩ : ∃ j, w = j + 1 := ⟨w - 1, by omega⟩
   rw [Nat.add_sub_cancel] at hn
   have hq : n / 256 ^ j < 64 := (Nat.div_lt_iff_lt_mul (Nat.pow_pos (by omega))).mpr hn
   have hq2 : n / 256 ^ j % 256 = n / 256 ^ j := Nat.mod_eq_of_lt (by omega)
   obtain ⟨h1, h2⟩ := or_topW (j + 1) hw _ hq
   unfold encV
   rw [lowB_head, hq2, orTop, List.take_succ_cons, getV, h1, if_pos (by rw [List.length_take, lowB_len]; omega)]
theorem firstR_cut {r : Rc} (h : chkR r = 0) (k : Nat) (hk : k < (encR r).length) : (firstR ((encR r).take k)).2.2 ≠ 0 := by
 obtain ⟨n, e1, e2, e3, e4⟩ := encR_parts h
 obtain ⟨w, f1, f2, f3⟩ := lenV_of n (by omega)
 have hl := putV_length (n : Int)
 rw [f1, Int.toNat_natCast] at hl
 rw [e1, List.length_append, hl, e2] at hk
 rw [e1]
 by_cases hkw : k < w
 · have e5 : (putV (n : Int) ++ sealB (recBody r)).take k = (putV (n : Int)).take k := List.take_append_of_le_length (by omega)
   rw [e5]
   have e6 : shortV ((putV (n : Int)).take k) = (0, 0, 3) := by
     unfold shortV putV
     rw [f1, Int.toNat_natCast, Int.toNat_natCast, getV_short f2 f3 hkw]
     rfl
   unfold firstR
   rw [e6]
   simp
 · have e5 : (putV (n : Int) ++ sealB (recBody r)).take k = putV (n : Int) ++ (sealB (recBody r)).take (k - w) := by
     rw [List.take_append, hl, List.take_of_length_le (by omega)]
   rw [e5]
   have hs := shortV_put (n : Int) (by omega) (by omega) ((sealB (recBody r)).take (k - w))
   unfold firstR
   rw [hs]
   have d1 : decide (512 < (n : Int)) = false := decide_eq_false (by omega)
   have d2 : decide (((putV (n : Int) ++ (sealB (recBody r)).take (k - w)).length : Int) - lenV n < n) = true := decide_eq_true (by rw [List.length_append, hl, List.length_take]; omega)
   dsimp only
   rw [d1, d2]
   simp
theorem encR_ne {r : Rc} (h : chkR r = 0) : encR r ≠ [] := by
 obtain ⟨n, e1, e2, e3, e4⟩ := encR_parts h
 intro e
 have := congrArg List.length e
 rw [e1, List.length_append, putV_length, List.length_nil] at this
 omega
theorem layR_cons {r : Rc} {l : List Rc} (h : chkR r = 0) : layR (r :: l) = encR r ++ layR l := by
 rw [layR]
 unfold recPut
 rw [h]
 rfl
theorem layR_app : ∀ {l m : List Rc}, (∀ r ∈ l, chkR r = 0) → layR (l ++ m) = layR l ++ layR m
 | [], m, h => rfl
 | r :: l, m, h => by
   rw [List.cons_append, layR_cons (h r (by simp)), layR_cons (h r (by simp)), layR_app (fun x hx => h x (List.mem_cons_of_mem _ hx)), List.append_assoc]
theorem nrm_enc (r : Rc) : encR (nrm r) = encR r := by
 have e : recBody (nrm r) = recBody r := by
   unfold recBody recTail nrm
   cases c1 : (r.kind.toNat : Int) == 0
   · cases c2 : (r.kind.toNat : Int) == 1
     · simp only [cond_false, cond_true, c1, c2]
     · simp only [cond_false, cond_true, c1, c2]
   · simp only [cond_false, cond_true, c1]
     rfl
 unfold encR
 rw [e]
theorem scan_lay : ∀ {l : List Rc} (t : List UInt8), (∀ r ∈ l, chkR r = 0) → (scan firstR (layR l ++ t)).1 = l.map nrm ++ (scan firstR t).1
 | [], t, h => rfl
 | r :: l, t, h => by
   have h0 := h r (by simp)
   rw [layR_cons h0, List.append_assoc]
   have hf := firstR_put h0 (layR l ++ t)
   have hne : encR r ++ (layR l ++ t) ≠ [] := by
     intro e
     exact encR_ne h0 (List.append_eq_nil_iff.mp e).1
   rw [scan_ok firstR_adv hne (by rw [hf]), hf]
   dsimp only
   rw [Int.toNat_natCast, drop_app rfl, scan_lay t (fun x hx => h x (List.mem_cons_of_mem _ hx))]
   rfl
theorem scan_cut {r : Rc} (h : chkR r = 0) (k : Nat) (hk : k < (encR r).length) : (scan firstR ((encR r).take k)).1 = [] := by
 by_cases hn : (encR r).take k = []
 · rw [hn]; rfl
 · rw [scan_bad hn (firstR_cut h k hk)]
structure StOk (s : Sta) : Prop where
 len : s.parts.length ≤ 64
 nx : 0 ≤ s.next ∧ s.next ≤ 1099511627777
 ids : s.parts.Pairwise (fun x y => x.id < y.id)
 lt : ∀ x ∈ s.parts, 0 ≤ x.id ∧ x.id < s.next
 paths : s.parts.Pairwise (fun x y => x.path ≠ y.path)
 ok : ∀ x ∈ s.parts, begT x.path x.size = 0 ∧ 0 ≤ x.off ∧ x.off ≤ x.size ∧ x.size ≤ 65536 ∧ x.sum.length = 32
theorem z0_ok : StOk z0 := ⟨by simp [z0], by simp [z0], by simp [z0], by simp [z0], by simp [z0], by simp [z0]⟩
theorem fndP_none {l : List Pt} {p : List UInt8} : (fndP l p).2 = false ↔ ∀ x ∈ l, x.path ≠ p := by
 unfold fndP
 cases h : l.find? (fun x => x.path == p) with
 | none =>
   simp only [true_iff]
   rw [List.find?_eq_none] at h
   intro x hx e
   exact h x hx (by simpa using e)
 | some x =>
   simp only [Bool.true_eq_false, false_iff]
   intro h2
   have h3 := List.find?_some h
   exact h2 x (List.mem_of_find?_eq_some h) (by simpa using h3)
theorem begT_of {r : Rc} (h : chkR r = 0) (h0 : (r.kind.toNat : Int) = 0) : begT r.path r.size = 0 ∧ r.off = 0 := by
 obtain ⟨h1, h2, h3, h4, h5⟩ := (chkR_iff r).mp h
 have h5 := ((chkOff_iff _ _).mp h5).2.2
 rcases h4 with h4 | h4
 · exact ⟨h4.2, by omega⟩
 · exact absurd h0 h4.1
theorem pw_set {α : Type} {R : α → α → Prop} {l : List α} {i : Nat} {x : α} (h : l.Pairwise R) (hi : i < l.length) (h1 : ∀ y, R y l[i] → R y x) (h2 : ∀ y, R l[i] y → R x y) : (l.set i x).Pairwise R := by
 rw [List.pairwise_iff_getElem] at h ⊢
 intro a b ha hb hab
 rw [List.length_set] at ha hb
 rw [List.getElem_set, List.getElem_set]
 have := h a b ha hb hab
 split
 · next e =>
   subst e
   rw [if_neg (by omega)]
   exact h2 _ this
 · split
   · next e => subst e; exact h1 _ this
   · exact this
theorem stepS_ok {s : Sta} {r : Rc} (h : StOk s) (hc : chkR r = 0) (hs : (r.kind.toNat : Int) = 0 → r.sum.length = 32) : StOk (stepS s r).1 := by
 obtain ⟨h1, h2, h3, h4, h5, h6, h7, h8⟩ := chkR_ok hc
 have hn := h.nx
 unfold stepS
 cases c1 : (r.kind.toNat : Int) == 0
 · dsimp only [cond_false]
   cases c2 : (r.kind.toNat : Int) == 4
   · dsimp only [cond_false]
     cases c3 : (r.kind.toNat : Int) == 1
     · dsimp only [cond_false]
       cases c4 : (r.kind.toNat : Int) == 2 || (r.kind.toNat : Int) == 3
       · exact h
       · dsimp only [cond_true]
         cases c5 : decide (ixI s r < 0)
         · obtain ⟨i, hi, e1, e2⟩ := ixI_lt c5
           dsimp only [cond_false]
           rw [e1, Int.toNat_natCast]
           have hsub : (s.parts.take i ++ s.parts.drop (i + 1)).Sublist s.parts := by
             rw [← List.eraseIdx_eq_take_drop_succ]; exact List.eraseIdx_sublist _ _
           exact ⟨Nat.le_trans hsub.length_le h.len, h.nx, h.ids.sublist hsub, fun x hx => h.lt x (hsub.subset hx), h.paths.sublist hsub, fun x hx => h.ok x (hsub.subset hx)⟩
         · exact h
     · dsimp only [cond_true]
       cases c5 : decide (ixI s r < 0)
       · dsimp only [cond_false]
         cases c6 : decide (r.off < (atP s r).off)
         · dsimp only [cond_false]
           cases c7 : decide ((atP s r).size < r.off)
           · obtain ⟨i, hi, e1, e2⟩ := ixI_lt c5
             dsimp only [cond_false]
             have c7 := of_decide_eq_false c7
             rw [e2] at c7
             rw [e1, Int.toNat_natCast]
             have hg : s.parts.getD i zP = s.parts[i] := by simp [List.getD, hi]
             unfold setOff
             rw [hg]
             refine ⟨by simpa using h.len, h.nx, pw_set h.ids hi (fun y hy => hy) (fun y hy => hy), fun x hx => ?_, pw_set h.paths hi (fun y hy => hy) (fun y hy => hy), fun x hx => ?_⟩
             · rcases List.mem_or_eq_of_mem_set hx with hx | rfl
               · exact h.lt x hx
               · have := h.lt s.parts[i] (List.getElem_mem hi)
                 exact this
             · rcases List.mem_or_eq_of_mem_set hx with hx | rfl
               · exact h.ok x hx
               · have := h.ok s.parts[i] (List.getElem_mem hi)
                 exact ⟨this.1, h7, by dsimp only; omega, this.2.2.2⟩
           · exact h
         · exact h
       · exact h
   · dsimp only [cond_true]
     cases c3 : decide (r.id < s.next)
     · have c3 := of_decide_eq_false c3
       exact ⟨h.len, ⟨by dsimp only [cond_false]; omega, by dsimp only [cond_false]; omega⟩, h.ids, fun x hx => ⟨(h.lt x hx).1, by have := (h.lt x hx).2; dsimp only [cond_false]; omega⟩, h.paths, h.ok⟩
     · exact h
 · have hk : (r.kind.toNat : Int) = 0 := by simpa using c1
   obtain ⟨b1, b2⟩ := begT_of hc hk
   dsimp only [cond_true]
   unfold beginS
   cases c2 : (fndP s.parts r.path).2 || (decide (r.id < s.next) || decide (64 ≤ (s.parts.length : Int)))
   · simp only [Bool.or_eq_false_iff, decide_eq_false_iff_not] at c2
     obtain ⟨c2, c3, c4⟩ := c2
     rw [fndP_none] at c2
     dsimp only [cond_false]
     refine ⟨by simp only [List.length_append, List.length_cons, List.length_nil]; omega, ⟨by dsimp only; omega, by dsimp only; omega⟩, ?_, fun x hx => ?_, ?_, fun x hx => ?_⟩
     · rw [List.pairwise_append]
       refine ⟨h.ids, List.pairwise_singleton _ _, fun x hx y hy => ?_⟩
       rw [List.mem_singleton] at hy; subst hy
       have := (h.lt x hx).2
       dsimp only; omega
     · dsimp only
       rcases List.mem_append.mp hx with hx | hx
       · have := h.lt x hx; omega
       · rw [List.mem_singleton] at hx; subst hx; dsimp only; omega
     · rw [List.pairwise_append]
       refine ⟨h.paths, List.pairwise_singleton _ _, fun x hx y hy => ?_⟩
       rw [List.mem_singleton] at hy; subst hy
       exact c2 x hx
     · rcases List.mem_append.mp hx with hx | hx
       · exact h.ok x hx
       · rw [List.mem_singleton] at hx; subst hx
         exact ⟨b1, Int.le_refl _, h5, h6, hs hk⟩
   · exact h
theorem stepS_nrm {s : Sta} {r : Rc} (hc : chkR r = 0) (hs : (r.kind.toNat : Int) = 0 → r.sum.length = 32) : stepS s (nrm r) = stepS s r := by
 unfold nrm
 cases c1 : (r.kind.toNat : Int) == 0
 · cases c2 : (r.kind.toNat : Int) == 1
   · dsimp only [cond_false]
     unfold stepS ixI atP beginS ixI
     dsimp only
     rw [c1, c2]
     rfl
   · dsimp only [cond_false, cond_true]
     unfold stepS atP ixI beginS
     dsimp only
     rw [c1, c2]
     rfl
 · have hk : (r.kind.toNat : Int) = 0 := by simpa using c1
   have := (begT_of hc hk).2
   dsimp only [cond_true]
   rw [sum32_32 (hs hk), ← this]
theorem playS_app {s t : Sta} : ∀ {l : List Rc} (m : List Rc), playS s l = (t, (l.length : Int)) → playS s (l ++ m) = ((playS t m).1, (l.length : Int) + (playS t m).2) := by
 intro l
 induction l generalizing s with
 | nil =>
   intro m h
   rw [playS] at h
   have e := congrArg Prod.fst h
   dsimp only at e
   subst e
   simp
 | cons r l ih =>
   intro m h
   rw [playS] at h
   split at h
   · next h1 =>
     have e1 := congrArg Prod.fst h
     have e2 := congrArg Prod.snd h
     dsimp only at e1 e2
     have h2 : playS (stepS s r).1 l = (t, (l.length : Int)) := by
       refine Prod.ext e1 ?_
       rw [List.length_cons] at e2
       dsimp only; omega
     rw [List.cons_append, playS, if_pos h1, ih m h2]
     dsimp only
     rw [List.length_cons]
     refine Prod.ext rfl ?_
     dsimp only; omega
   · have e2 := congrArg Prod.snd h
     dsimp only at e2
     rw [List.length_cons] at e2
     omega
theorem playS_nrm : ∀ {l : List Rc} {s : Sta}, (∀ r ∈ l, chkR r = 0 ∧ ((r.kind.toNat : Int) = 0 → r.sum.length = 32)) → playS s (l.map nrm) = playS s l
 | [], s, h => rfl
 | r :: l, s, h => by
   have h0 := h r (by simp)
   rw [List.map_cons, playS, playS, stepS_nrm h0.1 h0.2, playS_nrm (fun x hx => h x (List.mem_cons_of_mem _ hx))]
def beg0 (p : Pt) : Rc := ⟨0, p.id, p.path, p.sum, p.size, 0⟩
def mrk0 (p : Pt) : Rc := ⟨1, p.id, [], [], 0, p.off⟩
theorem step_beg {pre : List Pt} {m : Int} {p : Pt} (h1 : ∀ x ∈ pre, x.path ≠ p.path) (h2 : m ≤ p.id) (h3 : pre.length < 64) : stepS ⟨pre, m⟩ (beg0 p) = (⟨pre ++ [⟨p.id, p.path, p.sum, p.size, 0⟩], p.id + 1⟩, true) := by
 have e : ((fndP pre p.path).2 || (decide (p.id < m) || decide (64 ≤ (pre.length : Int)))) = false := by
   rw [fndP_none.mpr h1]
   simp only [Bool.false_or, Bool.or_eq_false_iff, decide_eq_false_iff_not]
   omega
 have e2 : beginS pre m (beg0 p) = (pre ++ [⟨p.id, p.path, p.sum, p.size, 0⟩], p.id + 1, true) := by
   unfold beginS beg0
   dsimp only
   rw [e]; rfl
 unfold stepS
 dsimp only
 rw [e2]
 rfl
theorem step_mrk {pre : List Pt} {p : Pt} (h1 : ∀ x ∈ pre, x.id < p.id) (h2 : 0 ≤ p.off) (h3 : p.off ≤ p.size) : stepS ⟨pre ++ [⟨p.id, p.path, p.sum, p.size, 0⟩], p.id + 1⟩ (mrk0 p) = (⟨pre ++ [p], p.id + 1⟩, true) := by
 have e : ixI ⟨pre ++ [⟨p.id, p.path, p.sum, p.size, 0⟩], p.id + 1⟩ (mrk0 p) = (pre.length : Int) := by
   unfold ixI
   refine firstIdx_some (by simp) (by simp [mrk0]) fun j hj => ?_
   rw [List.getElem_append_left hj]
   have := h1 _ (List.getElem_mem hj)
   simp only [mrk0, beq_eq_false_iff_ne, ne_eq]
   omega
 have ea : atP ⟨pre ++ [⟨p.id, p.path, p.sum, p.size, 0⟩], p.id + 1⟩ (mrk0 p) = ⟨p.id, p.path, p.sum, p.size, 0⟩ := by
   unfold atP
   rw [e, Int.toNat_natCast]
   simp [List.getD]
 have es : setOff (pre ++ [⟨p.id, p.path, p.sum, p.size, 0⟩]) pre.length p.off = pre ++ [p] := by
   unfold setOff
   simp [List.getD]
 unfold stepS
 rw [e, ea]
 have d1 : decide ((pre.length : Int) < 0) = false := decide_eq_false (by omega)
 have d2 : decide ((mrk0 p).off < 0) = false := decide_eq_false (by simp only [mrk0]; omega)
 have d3 : decide (p.size < (mrk0 p).off) = false := decide_eq_false (by simp only [mrk0]; omega)
 dsimp only
 rw [d1, d2, d3, Int.toNat_natCast, show (mrk0 p).off = p.off from rfl, es]
 rfl
theorem imgR_cons (n : Int) (p : Pt) (l : List Pt) : imgR n (p :: l) = beg0 p :: ((bif decide (0 < p.off) then [mrk0 p] else []) ++ imgR n l) := rfl
theorem play_img : ∀ {post pre : List Pt} {m : Int}, (∀ x ∈ pre, x.id < m) → m ≤ (post.head?.map Pt.id).getD m → (pre ++ post).length ≤ 64 → (pre ++ post).Pairwise (fun x y => x.id < y.id) → (pre ++ post).Pairwise (fun x y => x.path ≠ y.path) → (∀ x ∈ post, 0 ≤ x.off ∧ x.off ≤ x.size) →
   playS ⟨pre, m⟩ (imgR 0 post) = (⟨pre ++ post, nxtI m post⟩, ((imgR 0 post).length : Int))
 | [], pre, m, h1, h2, h3, h4, h5, h6 => by simp [imgR, nxtI, playS]
 | p :: post, pre, m, h1, h2, h3, h4, h5, h6 => by
   have hp := h6 p (by simp)
   have h2 : m ≤ p.id := h2
   have g4 := List.pairwise_append.mp h4
   have g5 := List.pairwise_append.mp h5
   have k1 : ∀ x ∈ pre, x.id < p.id := fun x hx => g4.2.2 x hx p (by simp)
   have ih := play_img (post := post) (pre := pre ++ [p]) (m := p.id + 1) (fun x hx => by
     rcases List.mem_append.mp hx with hx | hx
     · have := k1 x hx; omega
     · rw [List.mem_singleton] at hx; subst hx; omega) (by
     cases post with
     | nil => simp
     | cons q post =>
       have := (List.pairwise_cons.mp g4.2.1).1 q (by simp)
       simp only [List.head?_cons, Option.map_some, Option.getD_some]; omega) (by simpa using h3) (by simpa using h4) (by simpa using h5) (fun x hx => h6 x (List.mem_cons_of_mem _ hx))
   rw [imgR_cons, playS, step_beg (fun x hx => g5.2.2 x hx p (by simp)) h2 (by simp only [List.length_append, List.length_cons] at h3; omega)]
   dsimp only
   rw [if_pos rfl]
   rw [List.append_assoc] at ih
   cases c : decide (0 < p.off)
   · have c := of_decide_eq_false c
     have e : p = ⟨p.id, p.path, p.sum, p.size, 0⟩ := by
       have : p.off = 0 := by omega
       rw [← this]
     rw [← e]
     dsimp only [cond_false]
     rw [List.nil_append, ih]
     dsimp only
     rw [List.length_cons]
     refine Prod.ext rfl ?_
     dsimp only; omega
   · dsimp only [cond_true]
     rw [List.cons_append, List.nil_append, playS, step_mrk k1 hp.1 hp.2]
     dsimp only
     rw [if_pos rfl, ih]
     dsimp only
     rw [List.length_cons, List.length_cons]
     refine Prod.ext rfl ?_
     dsimp only; omega
theorem nxtI_le : ∀ {l : List Pt} {m n : Int}, m ≤ n → (∀ x ∈ l, x.id < n) → nxtI m l ≤ n
 | [], m, n, h, _ => h
 | p :: l, m, n, h, h2 => show nxtI (p.id + 1) l ≤ n from nxtI_le (by have := h2 p (by simp); omega) (fun x hx => h2 x (List.mem_cons_of_mem _ hx))
theorem nxtI_ge : ∀ {l : List Pt} {m : Int}, 0 ≤ m → (∀ x ∈ l, 0 ≤ x.id) → 0 ≤ nxtI m l
 | [], m, h, _ => h
 | p :: l, m, h, h2 => show 0 ≤ nxtI (p.id + 1) l from nxtI_ge (by have := h2 p (by simp); omega) (fun x hx => h2 x (List.mem_cons_of_mem _ hx))
theorem play_image {s : Sta} (h : StOk s) : playS z0 (imageS s) = (s, ((imageS s).length : Int)) := by
 have h0 : playS z0 (imgR 0 s.parts) = (⟨s.parts, nxtI 0 s.parts⟩, ((imgR 0 s.parts).length : Int)) := by
   refine play_img (pre := []) (by simp) ?_ h.len h.ids h.paths fun x hx => ⟨(h.ok x hx).2.1, (h.ok x hx).2.2.1⟩
   cases hp : s.parts with
   | nil => simp
   | cons p l => exact (h.lt p (by rw [hp]; simp)).1
 have hle := nxtI_le (m := 0) h.nx.1 fun x hx => (h.lt x hx).2
 unfold imageS
 cases c : decide (nxtI 0 s.parts < s.next)
 · have c := of_decide_eq_false c
   have e : nxtI 0 s.parts = s.next := by omega
   dsimp only [cond_false]
   rw [List.append_nil, h0, e]
 · have c := of_decide_eq_true c
   dsimp only [cond_true]
   rw [playS_app _ h0]
   have e : stepS ⟨s.parts, nxtI 0 s.parts⟩ ⟨4, s.next - 1, [], [], 0, 0⟩ = (s, true) := by
     unfold stepS
     dsimp only
     rw [show decide (s.next - 1 < nxtI 0 s.parts) = false from decide_eq_false (by omega), show s.next - 1 + 1 = s.next by omega]
     rfl
   rw [playS, e]
   dsimp only
   rw [if_pos rfl, playS]
   refine Prod.ext rfl ?_
   simp only [List.length_append, List.length_cons, List.length_nil]
   omega
theorem imgR_ok : ∀ {l : List Pt} {n : Int}, (∀ x ∈ l, 0 ≤ x.id ∧ x.id ≤ 1099511627776) → (∀ x ∈ l, begT x.path x.size = 0 ∧ 0 ≤ x.off ∧ x.off ≤ x.size ∧ x.size ≤ 65536 ∧ x.sum.length = 32) → ∀ r ∈ imgR n l, chkR r = 0 ∧ ((r.kind.toNat : Int) = 0 → r.sum.length = 32)
 | [], n, _, _ => by simp [imgR]
 | p :: l, n, h1, h2 => by
   intro r hr
   have ih := imgR_ok (n := n) (fun x hx => h1 x (List.mem_cons_of_mem _ hx)) (fun x hx => h2 x (List.mem_cons_of_mem _ hx))
   obtain ⟨a1, a2⟩ := h1 p (by simp)
   obtain ⟨b1, b2, b3, b4, b5⟩ := h2 p (by simp)
   rw [imgR_cons, List.mem_cons, List.mem_append] at hr
   rcases hr with rfl | hr | hr
   · exact ⟨(chkR_iff _).mpr ⟨by show (0 : UInt8).toNat ≤ 4; decide, a1, a2, .inl ⟨rfl, b1⟩, (chkOff_iff _ _).mpr ⟨by show (0 : Int) ≤ 0; decide, by show (0 : Int) ≤ 65536; decide, .inl rfl⟩⟩, fun _ => b5⟩
   · cases c : decide (0 < p.off)
     · rw [c] at hr; cases hr
     · rw [c] at hr
       dsimp only [cond_true] at hr
       rw [List.mem_singleton] at hr
       subst hr
       exact ⟨(chkR_iff _).mpr ⟨by show (1 : UInt8).toNat ≤ 4; decide, a1, a2, .inr ⟨by show ((1 : UInt8).toNat : Int) ≠ 0; decide, rfl⟩, (chkOff_iff _ _).mpr ⟨b2, by show p.off ≤ 65536; omega, .inr rfl⟩⟩, fun e => by cases e⟩
   · exact ih r hr
theorem image_ok {s : Sta} (h : StOk s) : ∀ r ∈ imageS s, chkR r = 0 ∧ ((r.kind.toNat : Int) = 0 → r.sum.length = 32) := by
 intro r hr
 have hn := h.nx
 have hge := nxtI_ge (m := 0) (by omega) fun x hx => (h.lt x hx).1
 unfold imageS at hr
 rcases List.mem_append.mp hr with hr | hr
 · exact imgR_ok (fun x hx => by have := h.lt x hx; omega) h.ok r hr
 · cases c : decide (nxtI 0 s.parts < s.next)
   · rw [c] at hr; cases hr
   · have c2 := of_decide_eq_true c
     rw [c] at hr
     dsimp only [cond_true] at hr
     rw [List.mem_singleton] at hr
     subst hr
     exact ⟨(chkR_iff _).mpr ⟨by show (4 : UInt8).toNat ≤ 4; decide, by show 0 ≤ s.next - 1; omega, by show s.next - 1 ≤ 1099511627776; omega, .inr ⟨by show ((4 : UInt8).toNat : Int) ≠ 0; decide, rfl⟩, (chkOff_iff _ _).mpr ⟨by show (0 : Int) ≤ 0; decide, by show (0 : Int) ≤ 65536; decide, .inl rfl⟩⟩, fun e => by cases e⟩
def mainP : List UInt8 := [46, 115, 117, 109, 112, 116, 101, 114]
def freshP : List UInt8 := [46, 115, 117, 109, 112, 116, 101, 114, 45, 110, 101, 119]
def tidyD (d : Dk) : Dk × Int := bif d.list.any (fun e => e.path == freshP) then d.remove freshP else (d, 0)
structure Jn where
 s : Sta
 n : Int
 dead : Bool
theorem dlist_len {d : Dk} {n m : Nat} (hw : d.WF n m) : d.list.length ≤ n := by
 unfold Dk.list
 split
 · simp
 · rw [List.length_map]; exact hw.now_len
theorem read_len {d : Dk} {n m : Nat} (hw : d.WF n m) (p : List UInt8) : (d.read p).1.length ≤ m := by
 unfold Dk.read
 split
 · exact Nat.zero_le _
 split
 · exact Nat.zero_le _
 · by_cases hi : idD d.now p < d.f.length
   · have e : d.f.getD (idD d.now p) default = d.f[idD d.now p] := by simp [hi]
     rw [e]
     exact (hw.sz _ (List.getElem_mem hi)).1
   · have e : d.f.getD (idD d.now p) default = default := by simp [List.getD, List.getElem?_eq_none (Nat.le_of_not_lt hi)]
     rw [e]
     exact Nat.zero_le _
theorem scanR_all {f : List UInt8 → Rc × Int × Int} {P : Rc → Prop} (h : ∀ b, (f b).2.2 = 0 → P (f b).1) : ∀ (n : Nat) (b : List UInt8), ∀ r ∈ (scanR f n b).1, P r
 | 0, b, r, hr => by simp [scanR] at hr
 | n + 1, b, r, hr => by
   rw [scanR] at hr
   split at hr
   · simp at hr
   split at hr
   · next h2 =>
     rcases List.mem_cons.mp hr with rfl | hr
     · exact h b h2
     · exact scanR_all h n _ r hr
   · simp at hr
theorem scanR_len (f : List UInt8 → Rc × Int × Int) : ∀ (n : Nat) (b : List UInt8), (scanR f n b).1.length ≤ n
 | 0, b => by simp [scanR]
 | n + 1, b => by
   rw [scanR]
   split
   · simp
   split
   · have := scanR_len f n (b.drop (f b).2.1.toNat)
     simp only [List.length_cons]; omega
   · simp
theorem firstR_chk {b : List UInt8} (h : (firstR b).2.2 = 0) : chkR (firstR b).1 = 0 := by
 unfold firstR at h ⊢
 cases c1 : (shortV b).2.2 != 0
 · cases c2 : decide (512 < (shortV b).1)
   · cases c3 : decide ((b.length : Int) - (shortV b).2.1 < (shortV b).1)
     · rw [c1, c2, c3] at h
       cases c4 : (openB (partB b)).2 != 0
       · rw [c4] at h
         cases c5 : (readR (openB (partB b)).1).2
         · rw [c5] at h; cases h
         · unfold readR at c5 ⊢
           simp only [Bool.and_eq_true, beq_iff_eq] at c5
           exact c5.2
       · rw [c4] at h; cases h
     · rw [c1, c2, c3] at h; cases h
   · rw [c1, c2] at h; cases h
 · rw [c1] at h
   have : (shortV b).2.2 = 0 := h
   rw [this] at c1; cases c1
theorem scan_chk (b : List UInt8) : ∀ r ∈ (scan firstR b).1, chkR r = 0 := scanR_all (fun b h => firstR_chk h) _ b
theorem scan_len (f : List UInt8 → Rc × Int × Int) (b : List UInt8) : (scan f b).1.length ≤ b.length := scanR_len f _ b
theorem playS_le : ∀ (l : List Rc) (s : Sta), 0 ≤ (playS s l).2 ∧ (playS s l).2 ≤ l.length
 | [], s => by simp [playS]
 | r :: l, s => by
   rw [playS]
   split
   · have := playS_le l (stepS s r).1
     simp only [List.length_cons]; omega
   · simp only [List.length_cons]; omega
def mkD (d : Dk) : Dk × Int := bif (d.read mainP).2 == 8 then d.put mainP false else (d, (d.read mainP).2)
def openN (b : List UInt8) : Int := (layR ((scan firstR b).1.take (playS z0 (scan firstR b).1).2.toNat)).length
def cutD (b : List UInt8) (d : Dk) : Dk × Int := bif decide (openN b < b.length) then d.cut mainP (openN b) else (d, 0)
def openE (b : List UInt8) (d : Dk) : Dk × Option Jn × Int :=
 bif (cutD b d).2 != 0 then ((cutD b d).1, none, (cutD b d).2) else
 bif ((cutD b d).1.sync mainP).2 != 0 then (((cutD b d).1.sync mainP).1, none, ((cutD b d).1.sync mainP).2) else (((cutD b d).1.sync mainP).1, some ⟨(playS z0 (scan firstR b).1).1, openN b, false⟩, 0)
def openC (b : List UInt8) (d : Dk) : Dk × Option Jn × Int := bif d.syncDirs.2 != 0 then (d.syncDirs.1, none, d.syncDirs.2) else openE b d.syncDirs.1
def openA (d : Dk) : Dk × Option Jn × Int := bif (mkD d).2 != 0 then ((mkD d).1, none, (mkD d).2) else openC (d.read mainP).1 (mkD d).1
def openD (d : Dk) : Dk × Option Jn × Int := bif (tidyD d).2 != 0 then ((tidyD d).1, none, (tidyD d).2) else openA (tidyD d).1
theorem tidy_wf {d : Dk} {n m : Nat} (h : d.WF n m) : (tidyD d).1.WF (n + 1) m := by
 unfold tidyD
 cases d.list.any fun e => e.path == freshP
 · exact h.mono (Nat.le_succ n) (Nat.le_refl m)
 · exact remove_wf h _
theorem mk_wf {d : Dk} {n m : Nat} (h : d.WF n m) : (mkD d).1.WF (n + 1) m := by
 unfold mkD
 cases (d.read mainP).2 == 8
 · exact h.mono (Nat.le_succ n) (Nat.le_refl m)
 · exact put_wf h _ _
theorem cutD_wf {d : Dk} {n m : Nat} (h : d.WF n m) (b : List UInt8) : (cutD b d).1.WF (n + 1) m := by
 unfold cutD
 cases decide (openN b < b.length)
 · exact h.mono (Nat.le_succ n) (Nat.le_refl m)
 · exact cut_wf h _ _
def addS (d : Dk) (x : List UInt8) : Dk × Int := bif (d.append mainP x).2 != 0 then d.append mainP x else (d.append mainP x).1.sync mainP
def addD (d : Dk) (j : Jn) (r : Rc) : Dk × Jn × Int :=
 bif j.dead then (d, j, 16) else bif chkR r != 0 then (d, j, chkR r) else bif !(stepS j.s r).2 then (d, j, 16) else
 bif (addS d (layR [r])).2 != 0 then (((addS d (layR [r])).1.cut mainP j.n).1, ⟨j.s, j.n, ((addS d (layR [r])).1.cut mainP j.n).2 != 0⟩, (addS d (layR [r])).2)
 else ((addS d (layR [r])).1, ⟨(stepS j.s r).1, j.n + (layR [r]).length, j.dead⟩, 0)
def fr1 (d : Dk) : Dk × Int := bif (tidyD d).2 != 0 then tidyD d else (tidyD d).1.put freshP false
def fr2 (d : Dk) (x : List UInt8) : Dk × Int := bif (fr1 d).2 != 0 then fr1 d else (fr1 d).1.append freshP x
def fr3 (d : Dk) (x : List UInt8) : Dk × Int := bif (fr2 d x).2 != 0 then fr2 d x else (fr2 d x).1.sync freshP
def fr4 (d : Dk) (x : List UInt8) : Dk × Int := bif (fr3 d x).2 != 0 then fr3 d x else (fr3 d x).1.rename freshP mainP
def compD (d : Dk) (j : Jn) : Dk × Jn × Int :=
 bif j.dead then (d, j, 16) else
 bif (fr4 d (layR (imageS j.s))).2 != 0 then (((fr4 d (layR (imageS j.s))).1.remove freshP).1, j, (fr4 d (layR (imageS j.s))).2)
 else ((fr4 d (layR (imageS j.s))).1.syncDirs.1, ⟨j.s, (layR (imageS j.s)).length, (fr4 d (layR (imageS j.s))).1.syncDirs.2 != 0⟩, (fr4 d (layR (imageS j.s))).1.syncDirs.2)
def nmM (i : Nat) : Nm := ⟨mainP, false, i⟩
def nmF (j : Nat) : Nm := ⟨freshP, false, j⟩
theorem chk_main : chkP mainP = 0 := by decide
theorem chk_fresh : chkP freshP = 0 := by decide
theorem par_main : parL mainP = [] := by decide
theorem par_fresh : parL freshP = [] := by decide
theorem getM (i : Nat) (l : List Nm) : getN (nmM i :: l) mainP = some (nmM i) := by simp [getN, nmM]
theorem getF (i j : Nat) : getN [nmM i, nmF j] freshP = some (nmF j) := by
 have h : (mainP == freshP) = false := by decide
 simp [getN, nmM, nmF, h]
theorem getF0 (i : Nat) : getN [nmM i] freshP = none := by
 have h : (mainP == freshP) = false := by decide
 simp [getN, nmM, h]
theorem less_mf : lessP mainP freshP = true := by decide
theorem app_mk (i j : Nat) : appC [nmM i] (.mk (nmF j)) = [nmM i, nmF j] := by
 simp [appC, Chg.came, Chg.gone, goneN, laidN, nmM, nmF, less_mf, List.takeWhile, List.dropWhile]
theorem app_mk0 (i : Nat) : appC [] (.mk (nmM i)) = [nmM i] := by
 simp [appC, Chg.came, Chg.gone, goneN, laidN]
theorem app_rm (i j : Nat) : appC [nmM i, nmF j] (.rm (nmF j)) = [nmM i] := by
 have h : (freshP == mainP) = false := by decide
 simp [appC, Chg.came, Chg.gone, goneN, laidN, nmM, nmF, h]
theorem app_mv (i j : Nat) : appC [nmM i, nmF j] (.mv (nmF j) (some (nmM i)) mainP) = [nmM j] := by
 simp [appC, Chg.came, Chg.gone, goneN, laidN, nmM, nmF]
def ctr (d e : Dk) : Prop := e.sure = d.sure ∧ e.loose = d.loose ∧ e.f = d.f ∧ e.room = d.room
theorem step_cases (d nx : Dk) (hr : nx.room = d.room) :
   ((d.step nx).2 = 0 ∧ d.fails ≠ 0 ∧ d.wrong ≠ 0 ∧ ctr nx (d.step nx).1 ∧ (d.step nx).1.down = nx.down ∧ (d.step nx).1.fails = tickD d.fails ∧ (d.step nx).1.wrong = tickD d.wrong) ∨
   ((d.step nx).2 = 11 ∧ d.fails = 0 ∧ (d.step nx).1.down = true ∧ (ctr d (d.step nx).1 ∨ ctr nx (d.step nx).1)) ∨
   ((d.step nx).2 = 12 ∧ d.fails ≠ 0 ∧ d.wrong = 0 ∧ ctr d (d.step nx).1 ∧ (d.step nx).1.down = d.down ∧ (d.step nx).1.fails = tickD d.fails ∧ (d.step nx).1.wrong = -1) := by
 unfold Dk.step
 by_cases h1 : d.fails = 0
 · rw [if_pos h1]
   refine .inr (.inl ⟨rfl, h1, ?_, ?_⟩)
   · split <;> rfl
   · split
     · exact .inr ⟨rfl, rfl, rfl, rfl⟩
     · exact .inl ⟨rfl, rfl, rfl, rfl⟩
 · rw [if_neg h1]
   by_cases h2 : d.wrong = 0
   · rw [if_pos h2]
     exact .inr (.inr ⟨rfl, h1, h2, ⟨rfl, rfl, rfl, rfl⟩, rfl, rfl, by simp [tickD, h2]⟩)
   · rw [if_neg h2]
     exact .inl ⟨rfl, h1, h2, ⟨rfl, rfl, rfl, rfl⟩, rfl, rfl, rfl⟩
theorem with_go {d : Dk} {p : List UInt8} {may : Fl → Int} {g : Fl → Fl} {x : Nm} (hd : d.down = false) (hp : chkP p = 0) (hg : getN d.now p = some x) (hx : x.dir = false) (hm : may (d.f.getD x.id default) = 0) :
   d.with' p may g = d.step { d with f := d.f.set x.id (g (d.f.getD x.id default)) } := by
 have h1 : d.asked p = 0 := by unfold Dk.asked; rw [hd]; exact hp
 have h2 : fileD d.now p = 0 := by unfold fileD; rw [hg]; simp [hx]
 have h3 : idD d.now p = x.id := by unfold idD; rw [hg]
 unfold Dk.with'
 rw [h1, h2, h3, hm]
 simp
theorem append_go {d : Dk} {p b : List UInt8} {x : Nm} (hd : d.down = false) (hp : chkP p = 0) (hg : getN d.now p = some x) (hx : x.dir = false) (hm : (d.used : Int) + b.length ≤ d.room) :
   d.append p b = d.step { d with f := d.f.set x.id ⟨(d.f.getD x.id default).b ++ b, (d.f.getD x.id default).safe⟩ } :=
 with_go hd hp hg hx (by rw [if_neg (by omega)])
theorem sync_go {d : Dk} {p : List UInt8} {x : Nm} (hd : d.down = false) (hp : chkP p = 0) (hg : getN d.now p = some x) (hx : x.dir = false) :
   d.sync p = d.step { d with f := d.f.set x.id ⟨(d.f.getD x.id default).b, (d.f.getD x.id default).b.length⟩ } :=
 with_go hd hp hg hx rfl
theorem cut_go {d : Dk} {p : List UInt8} {x : Nm} {n : Nat} (hd : d.down = false) (hp : chkP p = 0) (hg : getN d.now p = some x) (hx : x.dir = false) (hn : n ≤ (d.f.getD x.id default).b.length) :
   d.cut p n = d.step { d with f := d.f.set x.id ⟨(d.f.getD x.id default).b.take n, min n (d.f.getD x.id default).safe⟩ } :=
 with_go hd hp hg hx (by rw [if_neg (by omega)])
theorem put_go {d : Dk} {p : List UInt8} (hd : d.down = false) (hp : chkP p = 0) (hq : parL p = []) (hg : getN d.now p = none) :
   d.put p false = d.step (Dk.chg { d with f := d.f ++ [⟨[], 0⟩] } (.mk ⟨p, false, d.f.length⟩)) := by
 have h1 : d.asked p = 0 := by unfold Dk.asked; rw [hd]; exact hp
 unfold Dk.put
 rw [h1, hg]
 have h2 : parD d.now p = 0 := by unfold parD; rw [hq]; rfl
 rw [h2]
 simp
theorem remove_go {d : Dk} {i j : Nat} (hd : d.down = false) (hn : d.now = [nmM i, nmF j]) : d.remove freshP = d.step (d.chg (.rm (nmF j))) := by
 have h1 : d.asked freshP = 0 := by unfold Dk.asked; rw [hd]; exact chk_fresh
 unfold Dk.remove
 rw [h1, hn, getF]
 have h2 : (([] : List UInt8) == freshP) = false := by decide
 simp [nmM, nmF, par_main, par_fresh, h2]
theorem remove_none {d : Dk} {i : Nat} (hd : d.down = false) (hn : d.now = [nmM i]) : d.remove freshP = (d, 8) := by
 have h1 : d.asked freshP = 0 := by unfold Dk.asked; rw [hd]; exact chk_fresh
 unfold Dk.remove
 rw [h1, hn, getF0]
 simp
theorem remove_down {d : Dk} (hd : d.down = true) (p : List UInt8) : d.remove p = (d, 11) := by
 unfold Dk.remove Dk.asked
 rw [hd]
 simp
theorem rename_go {d : Dk} {i j : Nat} (hd : d.down = false) (hn : d.now = [nmM i, nmF j]) : d.rename freshP mainP = d.step (d.chg (.mv (nmF j) (some (nmM i)) mainP)) := by
 have h1 : d.asked freshP = 0 := by unfold Dk.asked; rw [hd]; exact chk_fresh
 unfold Dk.rename
 rw [h1, hn, getF, getM, chk_main]
 have h2 : fileD [nmM i, nmF j] freshP = 0 := by unfold fileD; rw [getF]; rfl
 have h3 : parD [nmM i, nmF j] mainP = 0 := by unfold parD; rw [par_main]; rfl
 rw [h2, h3]
 simp [nmM]
theorem tidy_none {d : Dk} {i : Nat} (hn : d.now = [nmM i]) : tidyD d = (d, 0) := by
 unfold tidyD Dk.list
 rw [hn]
 have h : (mainP == freshP) = false := by decide
 cases d.down <;> simp [nmM, h]
theorem tidy_nil {d : Dk} (hn : d.now = []) : tidyD d = (d, 0) := by
 unfold tidyD Dk.list
 rw [hn]
 cases d.down <;> simp
theorem tidy_some {d : Dk} {i j : Nat} (hd : d.down = false) (hn : d.now = [nmM i, nmF j]) : tidyD d = d.remove freshP := by
 unfold tidyD Dk.list
 rw [hn, hd]
 simp [nmM, nmF]
theorem read_go {d : Dk} {p : List UInt8} {x : Nm} (hd : d.down = false) (hg : getN d.now p = some x) (hx : x.dir = false) : d.read p = ((d.f.getD x.id default).b, 0) := by
 unfold Dk.read
 have h2 : fileD d.now p = 0 := by unfold fileD; rw [hg]; simp [hx]
 have h3 : idD d.now p = x.id := by unfold idD; rw [hg]
 rw [hd, h2, h3]
 simp
theorem getD_set {f : List Fl} {i : Nat} (hi : i < f.length) (x : Fl) : (f.set i x).getD i default = x := by simp [List.getD, hi]
theorem getD_set_ne {f : List Fl} {i j : Nat} (h : i ≠ j) (x : Fl) : (f.set i x).getD j default = f.getD j default := by simp [List.getD, List.getElem?_set_ne h]
theorem getD_app {f : List Fl} {i : Nat} (hi : i < f.length) (x : Fl) : (f ++ [x]).getD i default = f.getD i default := by simp [List.getD, List.getElem?_append_left hi]
theorem getD_snoc (f : List Fl) (x : Fl) : (f ++ [x]).getD f.length default = x := by simp [List.getD]
def RcOk (r : Rc) : Prop := chkR r = 0 ∧ ((r.kind.toNat : Int) = 0 → r.sum.length = 32)
theorem play_ok : ∀ {l : List Rc} {s : Sta}, StOk s → (∀ r ∈ l, RcOk r) → StOk (playS s l).1
 | [], s, h, _ => h
 | r :: l, s, h, hl => by
   rw [playS]
   split
   · exact play_ok (stepS_ok h (hl r (by simp)).1 (hl r (by simp)).2) fun x hx => hl x (List.mem_cons_of_mem _ hx)
   · exact h
def Good0 (s : Sta) (b : List UInt8) : Prop := ∃ l : List Rc, (∀ r ∈ l, RcOk r) ∧ playS z0 l = (s, (l.length : Int)) ∧ b = layR l
def Good1 (s : Sta) (b : List UInt8) : Prop := ∃ (l : List Rc) (t : List UInt8), (∀ r ∈ l, RcOk r) ∧ playS z0 l = (s, (l.length : Int)) ∧ b = layR l ++ t ∧ (scan firstR t).1 = []
theorem Good0.g1 {s : Sta} {b : List UInt8} (h : Good0 s b) : Good1 s b := by
 obtain ⟨l, h1, h2, h3⟩ := h
 exact ⟨l, [], h1, h2, by simp [h3], rfl⟩
theorem Good0.st {s : Sta} {b : List UInt8} (h : Good0 s b) : StOk s := by
 obtain ⟨l, h1, h2, h3⟩ := h
 have := play_ok z0_ok h1
 rw [h2] at this; exact this
theorem layR_nrm : ∀ {l : List Rc}, (∀ r ∈ l, RcOk r) → layR (l.map nrm) = layR l
 | [], _ => rfl
 | r :: l, h => by
   have h0 := h r (by simp)
   rw [List.map_cons, layR_cons h0.1, layR_cons (chkR_nrm h0.1), nrm_enc, layR_nrm fun x hx => h x (List.mem_cons_of_mem _ hx)]
theorem Good1.opens {s : Sta} {b : List UInt8} (h : Good1 s b) : ∃ c, Good0 s c ∧ (playS z0 (scan firstR b).1).1 = s ∧ openN b = (c.length : Int) ∧ b.take c.length = c ∧ c.length ≤ b.length := by
 obtain ⟨l, t, h1, h2, h3, h4⟩ := h
 have e1 : (scan firstR b).1 = l.map nrm := by rw [h3, scan_lay t (fun r hr => (h1 r hr).1), h4, List.append_nil]
 have e2 : playS z0 (l.map nrm) = (s, (l.length : Int)) := by rw [playS_nrm h1, h2]
 refine ⟨layR l, ⟨l, h1, h2, rfl⟩, by rw [e1, e2], ?_, by rw [h3, List.take_left' rfl], by rw [h3, List.length_append]; omega⟩
 unfold openN
 rw [e1, e2, Int.toNat_natCast, List.take_of_length_le (by simp), layR_nrm h1]
theorem Good0.snoc {s : Sta} {b : List UInt8} {r : Rc} (h : Good0 s b) (hr : RcOk r) (hs : (stepS s r).2 = true) : Good0 (stepS s r).1 (b ++ encR r) := by
 obtain ⟨l, h1, h2, h3⟩ := h
 refine ⟨l ++ [r], fun x hx => ?_, ?_, ?_⟩
 · rcases List.mem_append.mp hx with hx | hx
   · exact h1 x hx
   · rw [List.mem_singleton] at hx; subst hx; exact hr
 · rw [playS_app _ h2, playS, if_pos hs, playS]
   refine Prod.ext rfl ?_
   simp
 · rw [layR_app (fun x hx => (h1 x hx).1), layR_cons hr.1, ← h3]
   simp [layR]
theorem Good0.cut {s : Sta} {b : List UInt8} {r : Rc} (h : Good0 s b) (hr : RcOk r) (hs : (stepS s r).2 = true) (z : Nat) (h1 : b.length ≤ z) (h2 : z ≤ (b ++ encR r).length) : ∃ t, (t = s ∨ t = (stepS s r).1) ∧ Good1 t ((b ++ encR r).take z) := by
 rw [List.length_append] at h2
 by_cases hz : z = b.length + (encR r).length
 · refine ⟨_, .inr rfl, ?_⟩
   rw [List.take_of_length_le (by rw [List.length_append]; omega)]
   exact (h.snoc hr hs).g1
 · refine ⟨_, .inl rfl, ?_⟩
   obtain ⟨l, g1, g2, g3⟩ := h
   refine ⟨l, (encR r).take (z - b.length), g1, g2, ?_, scan_cut hr.1 _ (by omega)⟩
   rw [List.take_append, List.take_of_length_le h1, g3]
theorem good_img {s : Sta} (h : StOk s) : Good0 s (layR (imageS s)) := ⟨imageS s, image_ok h, play_image h, rfl⟩
theorem good_z0 : Good0 z0 [] := ⟨[], by simp, rfl, rfl⟩
def CrF (f : List Fl) (l : List Nm) (P : Sta → Prop) : Prop := ∃ i, (l = [nmM i] ∨ ∃ j, j ≠ i ∧ l = [nmM i, nmF j]) ∧ ∀ z, (f.getD i default).safe ≤ z → z ≤ (f.getD i default).b.length → ∃ s, P s ∧ Good1 s ((f.getD i default).b.take z)
def Cr (R : Int) (m : Nat) (d : Dk) (P : Sta → Prop) : Prop := d.room = R ∧ (∀ y ∈ d.f, y.b.length ≤ m) ∧ ∀ k, CrF d.f (appAll d.sure (d.loose.take k)) P
theorem Cr.of {R : Int} {m : Nat} {d e : Dk} {P : Sta → Prop} (h : Cr R m d P) (c : ctr d e) : Cr R m e P := by
 obtain ⟨c1, c2, c3, c4⟩ := c
 unfold Cr
 rw [c1, c2, c3, c4]
 exact h
theorem Cr.step {R : Int} {m : Nat} {d nx : Dk} {P : Sta → Prop} (h : Cr R m d P) (k : Cr R m nx P) (hr : nx.room = d.room) : Cr R m (d.step nx).1 P := by
 rcases step_cases d nx hr with ⟨_, _, _, c, _⟩ | ⟨_, _, _, c | c⟩ | ⟨_, _, _, c, _⟩
 · exact k.of c
 · exact h.of c
 · exact k.of c
 · exact h.of c
theorem al_set {f : List Fl} {m : Nat} (h : ∀ y ∈ f, y.b.length ≤ m) (i : Nat) {x : Fl} (hx : x.b.length ≤ m) : ∀ y ∈ f.set i x, y.b.length ≤ m := fun y hy => by
 rcases List.mem_or_eq_of_mem_set hy with hy | rfl
 · exact h y hy
 · exact hx
theorem al_snoc {f : List Fl} {m : Nat} (h : ∀ y ∈ f, y.b.length ≤ m) : ∀ y ∈ f ++ [⟨[], 0⟩], y.b.length ≤ m := fun y hy => by
 rcases List.mem_append.mp hy with hy | hy
 · exact h y hy
 · rw [List.mem_singleton] at hy; subst hy; exact Nat.zero_le _
structure Quiet (R : Int) (d : Dk) (s : Sta) (b : List UInt8) (i n m : Nat) : Prop where
 wf : d.WF n m
 dn : d.down = false
 sure : d.sure = [nmM i]
 loose : d.loose = []
 file : d.f.getD i default = ⟨b, b.length⟩
 room : d.room = R
 good : Good0 s b
theorem Quiet.now {R : Int} {d : Dk} {s : Sta} {b : List UInt8} {i n m : Nat} (h : Quiet R d s b i n m) : d.now = [nmM i] := by unfold Dk.now; rw [h.sure, h.loose]; rfl
theorem Quiet.lt {R : Int} {d : Dk} {s : Sta} {b : List UInt8} {i n m : Nat} (h : Quiet R d s b i n m) : i < d.f.length := (h.wf.ids (nmM i) (by rw [h.sure]; simp)).2.1 rfl
theorem Quiet.used {R : Int} {d : Dk} {s : Sta} {b : List UInt8} {i n m : Nat} (h : Quiet R d s b i n m) : d.used = b.length := by
 unfold Dk.used
 rw [h.now]
 have e := h.file
 simp only [nmM, List.map_cons, List.map_nil, List.sum_cons, List.sum_nil, Bool.false_eq_true, if_false, e, Nat.add_zero]
theorem Quiet.bm {R : Int} {d : Dk} {s : Sta} {b : List UInt8} {i n m : Nat} (h : Quiet R d s b i n m) : b.length ≤ m := by
 have h1 := h.lt
 have h2 := h.wf.sz _ (List.getElem_mem h1)
 have e : d.f.getD i default = d.f[i] := by simp [List.getD, h1]
 have e2 : d.f[i].b = b := by rw [← e, h.file]
 rw [e2] at h2; exact h2.1
theorem WF_sz {d : Dk} {n m m' : Nat} (h : d.WF n m) (h2 : ∀ x ∈ d.f, x.b.length ≤ m') : d.WF n m' := ⟨h.sn, h.ch, h.len, h.fl, h.op, h.ids, h.idc, fun x hx => ⟨h2 x hx, (h.sz x hx).2⟩, h.rm, h.fa, h.wr⟩
theorem CrF.one {f : List Fl} {i : Nat} {b : List UInt8} {s : Sta} {P : Sta → Prop} (hf : f.getD i default = ⟨b, b.length⟩) (hg : Good0 s b) (hp : P s) {l : List Nm} (hl : l = [nmM i] ∨ ∃ j, j ≠ i ∧ l = [nmM i, nmF j]) : CrF f l P := by
 refine ⟨i, hl, fun z h1 h2 => ⟨s, hp, ?_⟩⟩
 rw [hf] at h1 h2 ⊢
 dsimp only at h1 h2 ⊢
 rw [List.take_of_length_le (by omega)]
 exact hg.g1
theorem Quiet.cr {R : Int} {d : Dk} {s : Sta} {b : List UInt8} {i n m : Nat} (h : Quiet R d s b i n m) {P : Sta → Prop} (hp : P s) : Cr R m d P := by
 refine ⟨h.room, fun y hy => (h.wf.sz y hy).1, fun k => ?_⟩
 rw [h.loose, h.sure, List.take_nil]
 exact CrF.one h.file h.good hp (.inl rfl)
theorem crashF_one (i : Nat) (f : List Fl) (keep : List UInt8) (hi : i < f.length) (hs : (f.getD i default).safe ≤ (f.getD i default).b.length) : ∃ z, (f.getD i default).safe ≤ z ∧ z ≤ (f.getD i default).b.length ∧ (crashF [nmM i] f keep).getD i default = ⟨(f.getD i default).b.take z, z⟩ := by
 rw [crashF, if_neg (by simp [nmM])]
 dsimp only
 split
 · next h =>
   refine ⟨(f.getD i default).safe + (keep.headD 0).toNat % ((f.getD i default).b.length - (f.getD i default).safe + 1), Nat.le_add_right _ _, ?_, ?_⟩
   · have := Nat.mod_lt (keep.headD 0).toNat (show 0 < (f.getD i default).b.length - (f.getD i default).safe + 1 by omega)
     omega
   · rw [crashF]; exact getD_set hi _
 · exact ⟨_, Nat.le_refl _, hs, by rw [crashF]; exact getD_set hi _⟩
theorem crashF_two (i j : Nat) (hij : j ≠ i) (f : List Fl) (keep : List UInt8) (hi : i < f.length) (hs : (f.getD i default).safe ≤ (f.getD i default).b.length) : ∃ z, (f.getD i default).safe ≤ z ∧ z ≤ (f.getD i default).b.length ∧ (crashF [nmM i, nmF j] f keep).getD i default = ⟨(f.getD i default).b.take z, z⟩ := by
 have tl : ∀ (g : List Fl) (k : List UInt8), (crashF [nmF j] g k).getD i default = g.getD i default := by
   intro g k
   rw [crashF, if_neg (by simp [nmF])]
   dsimp only
   split
   · rw [crashF]; exact getD_set_ne hij _
   · rw [crashF]; exact getD_set_ne hij _
 rw [crashF, if_neg (by simp [nmM])]
 dsimp only
 split
 · next h =>
   refine ⟨(f.getD i default).safe + (keep.headD 0).toNat % ((f.getD i default).b.length - (f.getD i default).safe + 1), Nat.le_add_right _ _, ?_, ?_⟩
   · have := Nat.mod_lt (keep.headD 0).toNat (show 0 < (f.getD i default).b.length - (f.getD i default).safe + 1 by omega)
     omega
   · rw [tl]; exact getD_set hi _
 · exact ⟨_, Nat.le_refl _, hs, by rw [tl]; exact getD_set hi _⟩
theorem crashF_length : ∀ (l : List Nm) (f : List Fl) (keep : List UInt8), (crashF l f keep).length = f.length
 | [], f, keep => rfl
 | n :: l, f, keep => by
   rw [crashF]
   split
   · exact crashF_length l f keep
   · dsimp only
     split
     · rw [crashF_length]; simp
     · rw [crashF_length]; simp
structure Aft (R : Int) (d : Dk) (s : Sta) (b : List UInt8) (i n m : Nat) : Prop where
 wf : d.WF n m
 dn : d.down = false
 fails : d.fails = -1
 wrong : d.wrong = -1
 sure : d.sure = [nmM i] ∨ ∃ j, j ≠ i ∧ d.sure = [nmM i, nmF j]
 loose : d.loose = []
 file : (d.f.getD i default).b = b
 room : d.room = R
 good : Good1 s b
theorem Cr.crash {R : Int} {d : Dk} {P : Sta → Prop} {n m m' : Nat} (h : Cr R m d P) (hw' : d.WF n m') (c : Int) (k : List UInt8) : ∃ s b i, P s ∧ b.length ≤ m ∧ Aft R (d.crash c k) s b i n m := by
 have hw : d.WF n m := WF_sz hw' h.2.1
 have hal := h.2.1
 obtain ⟨hr, _, h2⟩ := h
 obtain ⟨i, hl, hz⟩ := h2 (max 0 (min c d.loose.length)).toNat
 have hw2 := crash_wf hw c k
 have hsz : i < d.f.length := by
   have hi := hw2.ids (nmM i) (by
     show nmM i ∈ appAll d.sure (d.loose.take (max 0 (min c d.loose.length)).toNat)
     rcases hl with e | ⟨j, _, e⟩ <;> rw [e] <;> simp)
   have := hi.2.1 rfl
   have hlen : (crashF (appAll d.sure (d.loose.take (max 0 (min c d.loose.length)).toNat)) d.f k).length = d.f.length := crashF_length _ _ _
   have h3 : (nmM i).id < (crashF (appAll d.sure (d.loose.take (max 0 (min c d.loose.length)).toNat)) d.f k).length := this
   rw [hlen] at h3; exact h3
 have hs : (d.f.getD i default).safe ≤ (d.f.getD i default).b.length := by
   have e : d.f.getD i default = d.f[i] := by simp [List.getD, hsz]
   rw [e]; exact (hw.sz _ (List.getElem_mem hsz)).2
 have hbl : ∀ z, ((d.f.getD i default).b.take z).length ≤ m := fun z => by
   have e : d.f.getD i default = d.f[i] := by simp [List.getD, hsz]
   have := hal _ (List.getElem_mem hsz)
   rw [e, List.length_take]; omega
 rcases hl with e | ⟨j, hj, e⟩
 · obtain ⟨z, z1, z2, z3⟩ := crashF_one i d.f k hsz hs
   obtain ⟨s, hp, hg⟩ := hz z z1 z2
   refine ⟨s, _, i, hp, hbl z, ⟨hw2, rfl, rfl, rfl, .inl e, rfl, ?_, hr, hg⟩⟩
   show ((crashF (appAll d.sure (d.loose.take (max 0 (min c d.loose.length)).toNat)) d.f k).getD i default).b = _
   rw [e, z3]
 · obtain ⟨z, z1, z2, z3⟩ := crashF_two i j hj d.f k hsz hs
   obtain ⟨s, hp, hg⟩ := hz z z1 z2
   refine ⟨s, _, i, hp, hbl z, ⟨hw2, rfl, rfl, rfl, .inr ⟨j, hj, e⟩, rfl, ?_, hr, hg⟩⟩
   show ((crashF (appAll d.sure (d.loose.take (max 0 (min c d.loose.length)).toNat)) d.f k).getD i default).b = _
   rw [e, z3]
theorem step_sure1 {d nx : Dk} (hr : nx.room = d.room) (h1 : d.fails = -1) (h2 : d.wrong = -1) : (d.step nx).2 = 0 ∧ ctr nx (d.step nx).1 ∧ (d.step nx).1.down = nx.down ∧ (d.step nx).1.fails = -1 ∧ (d.step nx).1.wrong = -1 := by
 rcases step_cases d nx hr with ⟨a, b, c, e, f, g, h⟩ | ⟨a, b, c⟩ | ⟨a, b, c, e⟩
 · exact ⟨a, e, f, by rw [g, h1]; rfl, by rw [h, h2]; rfl⟩
 · rw [h1] at b; cases b
 · rw [h2] at c; cases c
theorem now_of {d e : Dk} (c : ctr d e) : e.now = d.now := by unfold Dk.now; rw [c.1, c.2.1]
theorem Aft.opens {R : Int} {d : Dk} {s : Sta} {b : List UInt8} {i n m : Nat} (h : Aft R d s b i n m) : ∃ d' c, openD d = (d', some ⟨s, (c.length : Int), false⟩, 0) ∧ Quiet R d' s c i (n + 5) m ∧ d'.fails = -1 ∧ d'.wrong = -1 ∧ c.length ≤ b.length := by
 obtain ⟨c, hc, p1, p2, p3, p4⟩ := h.good.opens
 have ht : ∃ d1, tidyD d = (d1, 0) ∧ d1.WF (n + 1) m ∧ d1.down = false ∧ d1.fails = -1 ∧ d1.wrong = -1 ∧ d1.now = [nmM i] ∧ d1.f = d.f ∧ d1.room = R := by
   have hn0 : d.now = d.sure := by unfold Dk.now; rw [h.loose]; rfl
   have hw := tidy_wf h.wf
   rcases h.sure with e | ⟨j, hj, e⟩
   · have := tidy_none (d := d) (i := i) (by rw [hn0, e])
     rw [this] at hw
     exact ⟨d, this, hw, h.dn, h.fails, h.wrong, by rw [hn0, e], rfl, h.room⟩
   · have h1 := tidy_some (d := d) (i := i) (j := j) h.dn (by rw [hn0, e])
     have h2 := remove_go (d := d) (i := i) (j := j) h.dn (by rw [hn0, e])
     obtain ⟨q1, q2, q3, q4, q5⟩ := step_sure1 (d := d) (nx := d.chg (.rm (nmF j))) rfl h.fails h.wrong
     rw [h1, h2] at hw
     refine ⟨(d.step (d.chg (.rm (nmF j)))).1, ?_, hw, by rw [q3]; exact h.dn, q4, q5, ?_, q2.2.2.1, by rw [q2.2.2.2]; exact h.room⟩
     · rw [h1, h2, ← q1]
     · rw [now_of q2]
       unfold Dk.now Dk.chg
       dsimp only
       rw [h.loose, e]
       exact app_rm i j
 obtain ⟨d1, t1, w1, n1, f1, g1, a1, b1, r1⟩ := ht
 have hi : i < d1.f.length := (w1.now_ok (nmM i) (by rw [a1]; simp)).2.1 rfl
 have hr : d1.read mainP = (b, 0) := by
   rw [read_go (x := nmM i) n1 (by rw [a1]; exact getM i []) rfl, b1]
   show ((d.f.getD i default).b, (0 : Int)) = _
   rw [h.file]
 have hm : mkD d1 = (d1, 0) := by unfold mkD; rw [hr]; rfl
 have hs : d1.syncDirs = d1.step { d1 with sure := d1.now, loose := [] } := by unfold Dk.syncDirs; rw [n1]; rfl
 obtain ⟨q1, q2, q3, q4, q5⟩ := step_sure1 (d := d1) (nx := { d1 with sure := d1.now, loose := [] }) rfl f1 g1
 have w2 := syncDirs_wf w1
 rw [hs] at w2
 generalize hd2 : (d1.step { d1 with sure := d1.now, loose := [] }) = x2 at *
 have s2 : x2.1.sure = [nmM i] := q2.1.trans a1
 have l2 : x2.1.loose = [] := q2.2.1
 have a2 : x2.1.now = [nmM i] := by unfold Dk.now; rw [s2, l2]; rfl
 have e2 : x2.1.f = d.f := q2.2.2.1.trans b1
 have r2 : x2.1.room = R := q2.2.2.2.trans r1
 have n2 : x2.1.down = false := q3.trans n1
 have hi2 : i < x2.1.f.length := by rw [e2, ← b1]; exact hi
 have fb : (x2.1.f.getD i default).b = b := by rw [e2]; exact h.file
 have hc2 : ∃ d3, cutD b x2.1 = (d3, 0) ∧ d3.WF (n + 1 + 1 + 1) m ∧ d3.down = false ∧ d3.fails = -1 ∧ d3.wrong = -1 ∧ d3.sure = [nmM i] ∧ d3.loose = [] ∧ (d3.f.getD i default).b = c ∧ d3.room = R := by
   have w3 := cutD_wf w2 b
   unfold cutD at w3 ⊢
   rw [p2] at w3 ⊢
   cases c5 : decide ((c.length : Int) < b.length)
   · rw [c5] at w3
     have c5 := of_decide_eq_false c5
     have : c = b := by rw [← p3, List.take_of_length_le (by omega)]
     exact ⟨x2.1, rfl, w3, n2, q4, q5, s2, l2, by rw [fb, this], r2⟩
   · rw [c5] at w3
     have hcg := cut_go (d := x2.1) (p := mainP) (x := nmM i) (n := c.length) n2 chk_main (by rw [a2]; exact getM i []) rfl (by show c.length ≤ (x2.1.f.getD i default).b.length; rw [fb]; exact p4)
     dsimp only [cond_true] at w3 ⊢
     rw [hcg] at w3 ⊢
     obtain ⟨u1, u2, u3, u4, u5⟩ := step_sure1 (d := x2.1) (nx := { x2.1 with f := x2.1.f.set (nmM i).id ⟨(x2.1.f.getD (nmM i).id default).b.take c.length, min c.length (x2.1.f.getD (nmM i).id default).safe⟩ }) rfl q4 q5
     refine ⟨_, Prod.ext rfl u1, w3, u3.trans n2, u4, u5, u2.1.trans s2, u2.2.1.trans l2, ?_, u2.2.2.2.trans r2⟩
     rw [u2.2.2.1]
     dsimp only
     rw [show (nmM i).id = i from rfl, getD_set hi2, fb]
     exact p3
 obtain ⟨d3, t3, w3, n3, f3, g3, s3, l3, b3, r3⟩ := hc2
 have a3 : d3.now = [nmM i] := by unfold Dk.now; rw [s3, l3]; rfl
 have hi3 : i < d3.f.length := (w3.ids (nmM i) (by rw [s3]; simp)).2.1 rfl
 have hsy := sync_go (d := d3) (p := mainP) (x := nmM i) n3 chk_main (by rw [a3]; exact getM i []) rfl
 have w4 := sync_wf w3 mainP
 rw [hsy] at w4
 obtain ⟨u1, u2, u3, u4, u5⟩ := step_sure1 (d := d3) (nx := { d3 with f := d3.f.set (nmM i).id ⟨(d3.f.getD (nmM i).id default).b, (d3.f.getD (nmM i).id default).b.length⟩ }) rfl f3 g3
 refine ⟨_, c, ?_, ⟨w4.mono (by omega) (Nat.le_refl _), u3.trans n3, u2.1.trans s3, u2.2.1.trans l3, ?_, u2.2.2.2.trans r3, hc⟩, u4, u5, p4⟩
 · unfold openD openA openC openE
   rw [t1]
   dsimp only
   rw [show ((0 : Int) != 0) = false from rfl]
   dsimp only [cond_false]
   rw [hm, hr]
   dsimp only
   rw [show ((0 : Int) != 0) = false from rfl]
   dsimp only [cond_false]
   rw [hs, q1]
   rw [show ((0 : Int) != 0) = false from rfl]
   dsimp only [cond_false]
   rw [t3]
   dsimp only
   rw [show ((0 : Int) != 0) = false from rfl]
   dsimp only [cond_false]
   rw [hsy, u1]
   rw [show ((0 : Int) != 0) = false from rfl]
   dsimp only [cond_false]
   rw [p1, p2]
 · rw [u2.2.2.1]
   dsimp only
   rw [show (nmM i).id = i from rfl, getD_set hi3, b3]
theorem with_down {d : Dk} (hd : d.down = true) (p : List UInt8) (may : Fl → Int) (g : Fl → Fl) : d.with' p may g = (d, 11) := by
 unfold Dk.with' Dk.asked
 rw [hd]; simp
theorem tick_m1 {n : Int} (h : n = -1) : tickD n = -1 := by rw [h]; rfl
theorem encR_len {r : Rc} (h : chkR r = 0) : (encR r).length ≤ 520 := by
 obtain ⟨n, e1, e2, e3, e4⟩ := encR_parts h
 have := putV_le (n : Int)
 rw [e1, List.length_append, e2]; omega
theorem layR_one {r : Rc} (h : chkR r = 0) : layR [r] = encR r := by rw [layR_cons h]; simp [layR]
inductive AddR (R : Int) (d : Dk) (s : Sta) (b : List UInt8) (i n m : Nat) (r : Rc) (D : Dk × Jn × Int) : Prop
 | no (h1 : D = (d, ⟨s, b.length, false⟩, D.2.2)) (h2 : D.2.2 ≠ 0) (h3 : chkR r ≠ 0 ∨ (stepS s r).2 = false)
 | ok (h1 : D.2.2 = 0) (h2 : chkR r = 0) (h3 : (stepS s r).2 = true) (h4 : Quiet R D.1 (stepS s r).1 (b ++ encR r) i (n + 3) (m + 520)) (h5 : D.2.1 = ⟨(stepS s r).1, ((b ++ encR r).length : Nat), false⟩) (h6 : D.1.wrong = -1) (h7 : d.fails = -1 → D.1.fails = -1)
 | dn (h1 : D.2.2 ≠ 0) (h2 : chkR r = 0) (h3 : (stepS s r).2 = true) (h4 : D.1.down = true) (h5 : Cr R (m + 520) D.1 fun t => t = s ∨ t = (stepS s r).1) (h6 : D.1.WF (n + 3) (m + 520)) (h7 : d.fails ≠ -1)
theorem add_quiet {R : Int} {d : Dk} {s : Sta} {b : List UInt8} {i n m : Nat} (h : Quiet R d s b i n m) (hw : d.wrong = -1) (r : Rc) (hr : chkR r = 0 → (r.kind.toNat : Int) = 0 → r.sum.length = 32) (hfit : (b.length : Int) + 520 ≤ R) : AddR R d s b i n m r (addD d ⟨s, b.length, false⟩ r) := by
 cases c1 : chkR r != 0
 case true =>
   have c1' : chkR r ≠ 0 := by simpa using c1
   have e : addD d ⟨s, b.length, false⟩ r = (d, ⟨s, b.length, false⟩, chkR r) := by unfold addD; rw [c1]; rfl
   rw [e]
   exact .no rfl c1' (.inl c1')
 have c1' : chkR r = 0 := by simpa using c1
 cases c2 : (stepS s r).2
 case false =>
   have e : addD d ⟨s, b.length, false⟩ r = (d, ⟨s, b.length, false⟩, 16) := by unfold addD; dsimp only; rw [c1, c2]; rfl
   rw [e]
   exact .no rfl (show (16 : Int) ≠ 0 by decide) (.inr c2)
 have hrc : RcOk r := ⟨c1', hr c1'⟩
 have hx := encR_len c1'
 have hi := h.lt
 generalize hxe : encR r = x at *
 have hnow := h.now
 have hg := getM i []
 have ea := append_go (d := d) (p := mainP) (b := x) (x := nmM i) h.dn chk_main (by rw [hnow]; exact hg) rfl (by rw [h.used, h.room]; omega)
 have wa := append_wf h.wf mainP x
 have fa : (d.f.set (nmM i).id ⟨(d.f.getD (nmM i).id default).b ++ x, (d.f.getD (nmM i).id default).safe⟩) = d.f.set i ⟨b ++ x, b.length⟩ := by
   show d.f.set i ⟨(d.f.getD i default).b ++ x, (d.f.getD i default).safe⟩ = _
   rw [h.file]
 rw [fa] at ea
 rw [ea] at wa
 have hbm := h.bm
 have hbx : (⟨b ++ x, b.length⟩ : Fl).b.length ≤ m + 520 := by show (b ++ x).length ≤ _; rw [List.length_append]; omega
 have al : ∀ y ∈ d.f, y.b.length ≤ m + 520 := fun y hy => Nat.le_trans (h.wf.sz y hy).1 (by omega)
 have cut : ∀ z, b.length ≤ z → z ≤ (b ++ x).length → ∃ t, (t = s ∨ t = (stepS s r).1) ∧ Good1 t ((b ++ x).take z) := fun z h1 h2 => by
   subst hxe; exact h.good.cut hrc c2 z h1 h2
 have snoc : Good0 (stepS s r).1 (b ++ x) := by subst hxe; exact h.good.snoc hrc c2
 have crA : ∀ e : Dk, ctr { d with f := d.f.set i ⟨b ++ x, b.length⟩ } e → Cr R (m + 520) e (fun t => t = s ∨ t = (stepS s r).1) := fun e c => by
   refine Cr.of (d := { d with f := d.f.set i ⟨b ++ x, b.length⟩ }) ⟨h.room, al_set al i hbx, fun k => ⟨i, .inl ?_, fun z h1 h2 => ?_⟩⟩ c
   · show appAll d.sure (d.loose.take k) = _
     rw [h.loose, h.sure, List.take_nil]; rfl
   · dsimp only at h1 h2 ⊢
     rw [getD_set hi] at h1 h2 ⊢
     exact cut z h1 h2
 have crD : ∀ e : Dk, ctr d e → Cr R (m + 520) e (fun t => t = s ∨ t = (stepS s r).1) := fun e c => (Cr.of (d := d) ⟨h.room, al, (h.cr (.inl rfl)).2.2⟩ c)
 generalize hA : d.step { d with f := d.f.set i ⟨b ++ x, b.length⟩ } = A at ea wa
 have hAc := step_cases d { d with f := d.f.set i ⟨b ++ x, b.length⟩ } rfl
 rw [hA] at hAc
 have hlay : layR [r] = x := by rw [layR_one c1', hxe]
 have hD : addD d ⟨s, b.length, false⟩ r = bif (addS d x).2 != 0 then (((addS d x).1.cut mainP b.length).1, ⟨s, b.length, ((addS d x).1.cut mainP b.length).2 != 0⟩, (addS d x).2) else ((addS d x).1, ⟨(stepS s r).1, b.length + x.length, false⟩, 0) := by
   unfold addD
   dsimp only
   rw [c1, c2, hlay]
   rfl
 rcases hAc with ⟨q1, q2, q3, q4, q5, q6, q7⟩ | ⟨q1, q2, q3, q4⟩ | ⟨q1, q2, q3, _⟩
 ·
   have aS : addS d x = A.1.sync mainP := by unfold addS; rw [ea, q1]; rfl
   have s1 : A.1.sure = [nmM i] := q4.1.trans h.sure
   have l1 : A.1.loose = [] := q4.2.1.trans h.loose
   have now1 : A.1.now = [nmM i] := by unfold Dk.now; rw [s1, l1]; rfl
   have n1 : A.1.down = false := q5.trans h.dn
   have hi1 : i < A.1.f.length := by rw [q4.2.2.1]; simpa using hi
   have es := sync_go (d := A.1) (p := mainP) (x := nmM i) n1 chk_main (by rw [now1]; exact hg) rfl
   have f1 : A.1.f.getD i default = ⟨b ++ x, b.length⟩ := by rw [q4.2.2.1]; exact getD_set hi _
   have fs : A.1.f.set (nmM i).id ⟨(A.1.f.getD (nmM i).id default).b, (A.1.f.getD (nmM i).id default).b.length⟩ = A.1.f.set i ⟨b ++ x, (b ++ x).length⟩ := by
     show A.1.f.set i ⟨(A.1.f.getD i default).b, (A.1.f.getD i default).b.length⟩ = _
     rw [f1]
   rw [fs] at es
   have ws := sync_wf wa mainP
   rw [es] at ws
   have hBc := step_cases A.1 { A.1 with f := A.1.f.set i ⟨b ++ x, (b ++ x).length⟩ } rfl
   generalize hB : A.1.step { A.1 with f := A.1.f.set i ⟨b ++ x, (b ++ x).length⟩ } = Z at es ws hBc
   rw [aS, es] at hD
   have crZ : ∀ e : Dk, ctr { A.1 with f := A.1.f.set i ⟨b ++ x, (b ++ x).length⟩ } e → Cr R (m + 520) e (fun t => t = s ∨ t = (stepS s r).1) := fun e c => by
     refine Cr.of (d := { A.1 with f := A.1.f.set i ⟨b ++ x, (b ++ x).length⟩ }) ⟨q4.2.2.2.trans h.room, al_set (by rw [q4.2.2.1]; exact al_set al i hbx) i hbx, fun k => ?_⟩ c
     show CrF (A.1.f.set i ⟨b ++ x, (b ++ x).length⟩) (appAll A.1.sure (A.1.loose.take k)) _
     rw [l1, s1, List.take_nil]
     exact CrF.one (getD_set hi1 _) snoc (.inr rfl) (.inl rfl)
   rcases hBc with ⟨u1, u2, u3, u4, u5, u6, u7⟩ | ⟨u1, u2, u3, u4⟩ | ⟨u1, u2, u3, _⟩
   · rw [u1] at hD
     rw [hD]
     refine .ok rfl c1' c2 ⟨ws.mono (by omega) (by omega), u5.trans n1, u4.1.trans s1, u4.2.1.trans l1, ?_, u4.2.2.2.trans (q4.2.2.2.trans h.room), by rw [hxe]; exact snoc⟩ ?_ ?_ ?_
     · rw [hxe]
       show Z.1.f.getD i default = _
       rw [u4.2.2.1]; exact getD_set hi1 _
     · rw [hxe]
       show (⟨(stepS s r).1, (b.length : Int) + x.length, false⟩ : Jn) = _
       rw [List.length_append]; simp
     · show Z.1.wrong = -1
       rw [u7, q7, hw]; rfl
     · intro hf
       show Z.1.fails = -1
       rw [u6, q6, hf]; rfl
   · rw [u1] at hD
     have hc : Z.1.cut mainP b.length = (Z.1, 11) := with_down u3 _ _ _
     rw [hc] at hD
     rw [hD]
     refine .dn (show (11 : Int) ≠ 0 by decide) c1' c2 u3 ?_ (ws.mono (by omega) (by omega)) ?_
     · rcases u4 with u4 | u4
       · refine crA _ ⟨u4.1.trans q4.1, u4.2.1.trans q4.2.1, u4.2.2.1.trans q4.2.2.1, u4.2.2.2.trans q4.2.2.2⟩
       · exact crZ _ u4
     · intro hf
       rw [q6, hf] at u2
       exact absurd u2 (by decide)
   · rw [q7, hw] at u3
     exact absurd u3 (by decide)
 · have aS : addS d x = A := by unfold addS; rw [ea, q1]; rfl
   rw [aS, q1] at hD
   have hc : A.1.cut mainP b.length = (A.1, 11) := with_down q3 _ _ _
   rw [hc] at hD
   rw [hD]
   refine .dn (show (11 : Int) ≠ 0 by decide) c1' c2 q3 ?_ (wa.mono (by omega) (by omega)) ?_
   · rcases q4 with q4 | q4
     · exact crD _ q4
     · exact crA _ q4
   · intro hf
     rw [hf] at q2; cases q2
 · rw [hw] at q3
   exact absurd q3 (by decide)
def Kp (d e : Dk) : Prop := (d.fails = -1 → e.fails = -1) ∧ (d.wrong = -1 → e.wrong = -1)
theorem Kp.trans {d e f : Dk} (h : Kp d e) (k : Kp e f) : Kp d f := ⟨fun x => k.1 (h.1 x), fun x => k.2 (h.2 x)⟩
theorem Kp.tick {d e : Dk} (h1 : e.fails = tickD d.fails) (h2 : e.wrong = tickD d.wrong) : Kp d e := ⟨fun x => by rw [h1]; exact tick_m1 x, fun x => by rw [h2]; exact tick_m1 x⟩
structure Frs (R : Int) (m : Nat) (d : Dk) (s : Sta) (b : List UInt8) (i j : Nat) (x : List UInt8) (sf : Nat) : Prop where
 dn : d.down = false
 sure : d.sure = [nmM i]
 loose : d.loose = [.mk (nmF j)]
 file : d.f.getD i default = ⟨b, b.length⟩
 fj : d.f.getD j default = ⟨x, sf⟩
 li : i < d.f.length
 lj : j < d.f.length
 ne : j ≠ i
 room : d.room = R
 good : Good0 s b
 al : ∀ y ∈ d.f, y.b.length ≤ m
theorem Frs.now {R : Int} {m : Nat} {d : Dk} {s : Sta} {b : List UInt8} {i j : Nat} {x : List UInt8} {sf : Nat} (h : Frs R m d s b i j x sf) : d.now = [nmM i, nmF j] := by
 unfold Dk.now; rw [h.sure, h.loose]; exact app_mk i j
theorem Frs.used {R : Int} {m : Nat} {d : Dk} {s : Sta} {b : List UInt8} {i j : Nat} {x : List UInt8} {sf : Nat} (h : Frs R m d s b i j x sf) : d.used = b.length + x.length := by
 unfold Dk.used
 rw [h.now]
 have e := h.file
 have e2 := h.fj
 simp only [nmM, nmF, List.map_cons, List.map_nil, List.sum_cons, List.sum_nil, Bool.false_eq_true, if_false, e, e2, Nat.add_zero]
theorem mk_cr {R : Int} {m : Nat} {d : Dk} {s : Sta} {b : List UInt8} {i j : Nat} (h1 : d.sure = [nmM i]) (h2 : d.loose = [.mk (nmF j)]) (h3 : d.f.getD i default = ⟨b, b.length⟩) (h4 : j ≠ i) (h5 : d.room = R) (h9 : ∀ y ∈ d.f, y.b.length ≤ m) (h6 : Good0 s b) : Cr R m d fun t => t = s := by
 refine ⟨h5, h9, fun k => ?_⟩
 rw [h1, h2]
 match k with
 | 0 => exact CrF.one (P := fun t => t = s) h3 h6 rfl (.inl rfl)
 | k + 1 => exact CrF.one (P := fun t => t = s) h3 h6 rfl (.inr ⟨j, h4, show appAll [nmM i] (List.take (k + 1) [Chg.mk (nmF j)]) = _ by rw [List.take_succ_cons, List.take_nil]; exact app_mk i j⟩)
theorem Frs.cr {R : Int} {m : Nat} {d : Dk} {s : Sta} {b : List UInt8} {i j : Nat} {x : List UInt8} {sf : Nat} (h : Frs R m d s b i j x sf) : Cr R m d fun t => t = s := mk_cr h.sure h.loose h.file h.ne h.room h.al h.good
theorem rm_cr {R : Int} {m : Nat} {d : Dk} {s : Sta} {b : List UInt8} {i j : Nat} (h1 : d.sure = [nmM i]) (h2 : d.loose = [.mk (nmF j), .rm (nmF j)]) (h3 : d.f.getD i default = ⟨b, b.length⟩) (h4 : j ≠ i) (h5 : d.room = R) (h9 : ∀ y ∈ d.f, y.b.length ≤ m) (h6 : Good0 s b) : Cr R m d fun t => t = s := by
 refine ⟨h5, h9, fun k => ?_⟩
 rw [h1, h2]
 match k with
 | 0 => exact CrF.one (P := fun t => t = s) h3 h6 rfl (.inl rfl)
 | 1 => exact CrF.one (P := fun t => t = s) h3 h6 rfl (.inr ⟨j, h4, app_mk i j⟩)
 | k + 2 =>
   refine CrF.one (P := fun t => t = s) h3 h6 rfl (.inl ?_)
   rw [List.take_succ_cons, List.take_succ_cons, List.take_nil, appAll, List.foldl_cons, List.foldl_cons, List.foldl_nil, app_mk, app_rm]
theorem mv_cr {R : Int} {m : Nat} {d : Dk} {s : Sta} {b x : List UInt8} {i j : Nat} (h1 : d.sure = [nmM i]) (h2 : d.loose = [.mk (nmF j), .mv (nmF j) (some (nmM i)) mainP]) (h3 : d.f.getD i default = ⟨b, b.length⟩) (hj : d.f.getD j default = ⟨x, x.length⟩) (h4 : j ≠ i) (h5 : d.room = R) (h9 : ∀ y ∈ d.f, y.b.length ≤ m) (h6 : Good0 s b) (h7 : Good0 s x) : Cr R m d fun t => t = s := by
 refine ⟨h5, h9, fun k => ?_⟩
 rw [h1, h2]
 match k with
 | 0 => exact CrF.one (P := fun t => t = s) h3 h6 rfl (.inl rfl)
 | 1 => exact CrF.one (P := fun t => t = s) h3 h6 rfl (.inr ⟨j, h4, app_mk i j⟩)
 | k + 2 =>
   refine CrF.one (P := fun t => t = s) hj h7 rfl (.inl ?_)
   rw [List.take_succ_cons, List.take_succ_cons, List.take_nil, appAll, List.foldl_cons, List.foldl_cons, List.foldl_nil, app_mk, app_mv]
theorem Frs.rm {R : Int} {m : Nat} {d : Dk} {s : Sta} {b : List UInt8} {i j : Nat} {x : List UInt8} {sf : Nat} (h : Frs R m d s b i j x sf) : Cr R m (d.remove freshP).1 fun t => t = s := by
 rw [remove_go h.dn h.now]
 refine h.cr.step (rm_cr (i := i) (j := j) h.sure ?_ h.file h.ne h.room h.al h.good) rfl
 show d.loose ++ [.rm (nmF j)] = _
 rw [h.loose]; rfl
theorem Frs.of {R : Int} {m : Nat} {d e : Dk} {s : Sta} {b : List UInt8} {i j : Nat} {x : List UInt8} {sf : Nat} (h : Frs R m d s b i j x sf) (c : ctr d e) (hd : e.down = false) : Frs R m e s b i j x sf :=
 ⟨hd, c.1.trans h.sure, c.2.1.trans h.loose, by rw [c.2.2.1]; exact h.file, by rw [c.2.2.1]; exact h.fj, by rw [c.2.2.1]; exact h.li, by rw [c.2.2.1]; exact h.lj, h.ne, c.2.2.2.trans h.room, h.good, by rw [c.2.2.1]; exact h.al⟩
def FrE (R : Int) (m : Nat) (d : Dk) (s : Sta) (D : Dk × Int) : Prop := D.2 ≠ 0 ∧ (Cr R m (D.1.remove freshP).1 fun t => t = s) ∧ (D.2 = 11 ∧ D.1.down = true ∧ d.fails ≠ -1 ∨ D.2 = 12 ∧ d.wrong ≠ -1)
theorem FrE.of {R : Int} {m : Nat} {d e : Dk} {s : Sta} {D : Dk × Int} (h : FrE R m e s D) (k : Kp d e) : FrE R m d s D := by
 obtain ⟨h1, h2, h3⟩ := h
 refine ⟨h1, h2, ?_⟩
 rcases h3 with ⟨a, b, c⟩ | ⟨a, c⟩
 · exact .inl ⟨a, b, fun x => c (k.1 x)⟩
 · exact .inr ⟨a, fun x => c (k.2 x)⟩
theorem fr_step {R : Int} {m : Nat} {d nx : Dk} {s : Sta} (hr : nx.room = d.room) (hdn : d.down = false) (hnx : nx.down = false) (hd : ∀ e, ctr d e → e.down = false → Cr R m (e.remove freshP).1 fun t => t = s) (cd : Cr R m d fun t => t = s) (cn : Cr R m nx fun t => t = s) :
   FrE R m d s (d.step nx) ∨ ((d.step nx).2 = 0 ∧ ctr nx (d.step nx).1 ∧ (d.step nx).1.down = false ∧ Kp d (d.step nx).1) := by
 rcases step_cases d nx hr with ⟨q1, q2, q3, q4, q5, q6, q7⟩ | ⟨q1, q2, q3, q4⟩ | ⟨q1, q2, q3, q4, q5, q6, q7⟩
 · exact .inr ⟨q1, q4, q5.trans hnx, Kp.tick q6 q7⟩
 · refine .inl ⟨by rw [q1]; decide, ?_, .inl ⟨q1, q3, fun h => by rw [h] at q2; cases q2⟩⟩
   rw [remove_down q3]
   rcases q4 with q4 | q4
   · exact cd.of q4
   · exact cn.of q4
 · exact .inl ⟨by rw [q1]; decide, hd _ q4 (q5.trans hdn), .inr ⟨q1, fun h => by rw [h] at q3; cases q3⟩⟩
theorem fr1_go {R : Int} {d : Dk} {s : Sta} {b : List UInt8} {i n m : Nat} (h : Quiet R d s b i n m) : FrE R m d s (fr1 d) ∨ ((fr1 d).2 = 0 ∧ (∃ j, Frs R m (fr1 d).1 s b i j [] 0) ∧ Kp d (fr1 d).1) := by
 have hnow := h.now
 have hi := h.lt
 have e : fr1 d = d.step (Dk.chg { d with f := d.f ++ [⟨[], 0⟩] } (.mk ⟨freshP, false, d.f.length⟩)) := by
   unfold fr1
   rw [tidy_none hnow]
   rw [show ((0 : Int) != 0) = false from rfl]
   exact put_go h.dn chk_fresh par_fresh (by rw [hnow]; exact getF0 i)
 have hcn : Frs R m (Dk.chg { d with f := d.f ++ [⟨[], 0⟩] } (.mk ⟨freshP, false, d.f.length⟩)) s b i d.f.length [] 0 := by
   refine ⟨h.dn, h.sure, ?_, ?_, ?_, ?_, ?_, by omega, h.room, h.good, ?_⟩
   · show d.loose ++ [.mk (nmF d.f.length)] = _
     rw [h.loose]; rfl
   · show (d.f ++ [(⟨[], 0⟩ : Fl)]).getD i default = _
     rw [getD_app hi]; exact h.file
   · exact getD_snoc d.f _
   · show i < (d.f ++ [_]).length
     simp; omega
   · show d.f.length < (d.f ++ [_]).length
     simp
   · exact al_snoc fun y hy => (h.wf.sz y hy).1
 rw [e]
 rcases fr_step (R := R) (d := d) (s := s) (nx := Dk.chg { d with f := d.f ++ [⟨[], 0⟩] } (.mk ⟨freshP, false, d.f.length⟩)) rfl h.dn hcn.dn (fun e c hd => by
   have : e.now = [nmM i] := (now_of c).trans hnow
   rw [remove_none hd this]
   exact (h.cr (P := fun t => t = s) rfl).of c) (h.cr (P := fun t => t = s) rfl) hcn.cr with h1 | ⟨h1, h2, h3, h4⟩
 · exact .inl h1
 · exact .inr ⟨h1, ⟨_, hcn.of h2 h3⟩, h4⟩
theorem fr2_go {R : Int} {d : Dk} {s : Sta} {b : List UInt8} {i n m : Nat} (h : Quiet R d s b i n m) (x : List UInt8) (hfit : (b.length : Int) + x.length ≤ R) (hxm : x.length ≤ m) : FrE R m d s (fr2 d x) ∨ ((fr2 d x).2 = 0 ∧ (∃ j, Frs R m (fr2 d x).1 s b i j x 0) ∧ Kp d (fr2 d x).1) := by
 rcases fr1_go h with h1 | ⟨h1, ⟨j, h2⟩, h3⟩
 · have e : fr2 d x = fr1 d := by unfold fr2; rw [show ((fr1 d).2 != 0) = true by simpa using h1.1]; rfl
   rw [e]; exact .inl h1
 · have e : fr2 d x = (fr1 d).1.append freshP x := by unfold fr2; rw [h1]; rfl
   generalize (fr1 d).1 = c at *
   have ea := append_go (d := c) (p := freshP) (b := x) (x := nmF j) h2.dn chk_fresh (by rw [h2.now]; exact getF i j) rfl (by rw [h2.used, h2.room]; simp; omega)
   have ef : c.f.set (nmF j).id ⟨(c.f.getD (nmF j).id default).b ++ x, (c.f.getD (nmF j).id default).safe⟩ = c.f.set j ⟨x, 0⟩ := by
     show c.f.set j ⟨(c.f.getD j default).b ++ x, (c.f.getD j default).safe⟩ = _
     rw [h2.fj]; rfl
   rw [ef] at ea
   have hcn : Frs R m { c with f := c.f.set j ⟨x, 0⟩ } s b i j x 0 := ⟨h2.dn, h2.sure, h2.loose, by show (c.f.set j _).getD i default = _; rw [getD_set_ne h2.ne]; exact h2.file, getD_set h2.lj _, by show i < (c.f.set j _).length; simpa using h2.li, by show j < (c.f.set j _).length; simpa using h2.lj, h2.ne, h2.room, h2.good, al_set h2.al j hxm⟩
   rw [e, ea]
   rcases fr_step (R := R) (d := c) (s := s) (nx := { c with f := c.f.set j ⟨x, 0⟩ }) rfl h2.dn hcn.dn (fun e c hd => (h2.of c hd).rm) h2.cr hcn.cr with g1 | ⟨g1, g2, g3, g4⟩
   · exact .inl (g1.of h3)
   · exact .inr ⟨g1, ⟨_, hcn.of g2 g3⟩, h3.trans g4⟩
theorem fr3_go {R : Int} {d : Dk} {s : Sta} {b : List UInt8} {i n m : Nat} (h : Quiet R d s b i n m) (x : List UInt8) (hfit : (b.length : Int) + x.length ≤ R) (hxm : x.length ≤ m) : FrE R m d s (fr3 d x) ∨ ((fr3 d x).2 = 0 ∧ (∃ j, Frs R m (fr3 d x).1 s b i j x x.length) ∧ Kp d (fr3 d x).1) := by
 rcases fr2_go h x hfit hxm with h1 | ⟨h1, ⟨j, h2⟩, h3⟩
 · have e : fr3 d x = fr2 d x := by unfold fr3; rw [show ((fr2 d x).2 != 0) = true by simpa using h1.1]; rfl
   rw [e]; exact .inl h1
 · have e : fr3 d x = (fr2 d x).1.sync freshP := by unfold fr3; rw [h1]; rfl
   generalize (fr2 d x).1 = c at *
   have ea := sync_go (d := c) (p := freshP) (x := nmF j) h2.dn chk_fresh (by rw [h2.now]; exact getF i j) rfl
   have ef : c.f.set (nmF j).id ⟨(c.f.getD (nmF j).id default).b, (c.f.getD (nmF j).id default).b.length⟩ = c.f.set j ⟨x, x.length⟩ := by
     show c.f.set j ⟨(c.f.getD j default).b, (c.f.getD j default).b.length⟩ = _
     rw [h2.fj]
   rw [ef] at ea
   have hcn : Frs R m { c with f := c.f.set j ⟨x, x.length⟩ } s b i j x x.length := ⟨h2.dn, h2.sure, h2.loose, by show (c.f.set j _).getD i default = _; rw [getD_set_ne h2.ne]; exact h2.file, getD_set h2.lj _, by show i < (c.f.set j _).length; simpa using h2.li, by show j < (c.f.set j _).length; simpa using h2.lj, h2.ne, h2.room, h2.good, al_set h2.al j hxm⟩
   rw [e, ea]
   rcases fr_step (R := R) (d := c) (s := s) (nx := { c with f := c.f.set j ⟨x, x.length⟩ }) rfl h2.dn hcn.dn (fun e c hd => (h2.of c hd).rm) h2.cr hcn.cr with g1 | ⟨g1, g2, g3, g4⟩
   · exact .inl (g1.of h3)
   · exact .inr ⟨g1, ⟨_, hcn.of g2 g3⟩, h3.trans g4⟩
structure Mvd (R : Int) (m : Nat) (d : Dk) (s : Sta) (b : List UInt8) (i j : Nat) (x : List UInt8) : Prop where
 dn : d.down = false
 sure : d.sure = [nmM i]
 loose : d.loose = [.mk (nmF j), .mv (nmF j) (some (nmM i)) mainP]
 file : d.f.getD i default = ⟨b, b.length⟩
 fj : d.f.getD j default = ⟨x, x.length⟩
 ne : j ≠ i
 room : d.room = R
 al : ∀ y ∈ d.f, y.b.length ≤ m
theorem Mvd.now {R : Int} {m : Nat} {d : Dk} {s : Sta} {b : List UInt8} {i j : Nat} {x : List UInt8} (h : Mvd R m d s b i j x) : d.now = [nmM j] := by
 unfold Dk.now; rw [h.sure, h.loose, appAll, List.foldl_cons, List.foldl_cons, List.foldl_nil, app_mk, app_mv]
theorem fr4_go {R : Int} {d : Dk} {s : Sta} {b : List UInt8} {i n m : Nat} (h : Quiet R d s b i n m) (x : List UInt8) (hx : Good0 s x) (hfit : (b.length : Int) + x.length ≤ R) (hxm : x.length ≤ m) : FrE R m d s (fr4 d x) ∨ ((fr4 d x).2 = 0 ∧ (∃ j, Mvd R m (fr4 d x).1 s b i j x) ∧ Kp d (fr4 d x).1) := by
 rcases fr3_go h x hfit hxm with h1 | ⟨h1, ⟨j, h2⟩, h3⟩
 · have e : fr4 d x = fr3 d x := by unfold fr4; rw [show ((fr3 d x).2 != 0) = true by simpa using h1.1]; rfl
   rw [e]; exact .inl h1
 · have e : fr4 d x = (fr3 d x).1.rename freshP mainP := by unfold fr4; rw [h1]; rfl
   generalize (fr3 d x).1 = c at *
   have ea := rename_go (d := c) h2.dn h2.now
   have hl : (c.chg (.mv (nmF j) (some (nmM i)) mainP)).loose = [.mk (nmF j), .mv (nmF j) (some (nmM i)) mainP] := by
     show c.loose ++ [_] = _
     rw [h2.loose]; rfl
   have hcn : Cr R m (c.chg (.mv (nmF j) (some (nmM i)) mainP)) fun t => t = s := mv_cr (x := x) h2.sure hl h2.file h2.fj h2.ne h2.room h2.al h2.good hx
   rw [e, ea]
   rcases fr_step (R := R) (d := c) (s := s) rfl h2.dn (nx := c.chg (.mv (nmF j) (some (nmM i)) mainP)) h2.dn (fun e c hd => (h2.of c hd).rm) h2.cr hcn with g1 | ⟨g1, g2, g3, g4⟩
   · exact .inl (g1.of h3)
   · exact .inr ⟨g1, ⟨j, g3, g2.1.trans h2.sure, g2.2.1.trans hl, by rw [g2.2.2.1]; exact h2.file, by rw [g2.2.2.1]; exact h2.fj, h2.ne, g2.2.2.2.trans h2.room, by rw [g2.2.2.1]; exact h2.al⟩, h3.trans g4⟩
structure CompR (R : Int) (d : Dk) (s : Sta) (x : List UInt8) (n m : Nat) (D : Dk × Jn × Int) : Prop where
 st : D.2.1.s = s
 cr : Cr R m D.1 fun t => t = s
 wf : D.1.WF (n + 8) m
 go : (D.2.2 = 0 ∧ (∃ i', Quiet R D.1 s x i' (n + 8) m) ∧ D.2.1 = ⟨s, x.length, false⟩ ∧ Kp d D.1) ∨ (D.2.2 = 11 ∧ D.1.down = true ∧ d.fails ≠ -1) ∨ (D.2.2 = 12 ∧ d.wrong ≠ -1)
theorem comp_quiet {R : Int} {d : Dk} {s : Sta} {b : List UInt8} {i n m : Nat} (h : Quiet R d s b i n m) (hfit : (b.length : Int) + (layR (imageS s)).length ≤ R) (hxm : (layR (imageS s)).length ≤ m) (hw4 : ∀ x, (fr4 d x).1.WF (n + 5) (m + x.length)) : CompR R d s (layR (imageS s)) n m (compD d ⟨s, b.length, false⟩) := by
 have hx := good_img h.good.st
 have hD : compD d ⟨s, b.length, false⟩ = bif (fr4 d (layR (imageS s))).2 != 0 then (((fr4 d (layR (imageS s))).1.remove freshP).1, ⟨s, b.length, false⟩, (fr4 d (layR (imageS s))).2) else ((fr4 d (layR (imageS s))).1.syncDirs.1, ⟨s, (layR (imageS s)).length, (fr4 d (layR (imageS s))).1.syncDirs.2 != 0⟩, (fr4 d (layR (imageS s))).1.syncDirs.2) := rfl
 have hw := hw4 (layR (imageS s))
 have h4 := fr4_go h (layR (imageS s)) hx hfit hxm
 generalize layR (imageS s) = x at *
 generalize hF : fr4 d x = F at *
 rcases h4 with h1 | ⟨h1, ⟨j, h2⟩, h3⟩
 · obtain ⟨a1, a2, a3⟩ := h1
   rw [show (F.2 != 0) = true by simpa using a1] at hD
   rw [hD]
   refine ⟨rfl, a2, (WF_sz (remove_wf hw freshP) a2.2.1).mono (by omega) (Nat.le_refl _), ?_⟩
   rcases a3 with ⟨e1, e2, e3⟩ | ⟨e1, e3⟩
   · refine .inr (.inl ⟨e1, ?_, e3⟩)
     show (F.1.remove freshP).1.down = true
     rw [remove_down e2]; exact e2
   · exact .inr (.inr ⟨e1, e3⟩)
 · rw [h1] at hD
   have hs : F.1.syncDirs = F.1.step { F.1 with sure := F.1.now, loose := [] } := by unfold Dk.syncDirs; rw [if_neg (by rw [h2.dn]; simp)]
   have hws := syncDirs_wf hw
   rw [hs] at hD hws
   rw [hD]
   have cM : Cr R m F.1 fun t => t = s := mv_cr (x := x) h2.sure h2.loose h2.file h2.fj h2.ne h2.room h2.al h.good hx
   have cS : Cr R m { F.1 with sure := F.1.now, loose := [] } fun t => t = s := by
     refine ⟨h2.room, h2.al, fun k => ?_⟩
     show CrF F.1.f (appAll F.1.now (List.take k [])) _
     rw [List.take_nil, h2.now]
     exact CrF.one (P := fun t => t = s) h2.fj hx rfl (.inl rfl)
   have cr2 := cM.step cS rfl
   refine ⟨rfl, cr2, (WF_sz hws cr2.2.1).mono (by omega) (Nat.le_refl _), ?_⟩
   rcases step_cases F.1 { F.1 with sure := F.1.now, loose := [] } rfl with ⟨q1, q2, q3, q4, q5, q6, q7⟩ | ⟨q1, q2, q3, q4⟩ | ⟨q1, q2, q3, q4, q5, q6, q7⟩
   · refine .inl ⟨q1, ⟨j, ⟨(WF_sz hws cr2.2.1).mono (by omega) (Nat.le_refl _), q5.trans h2.dn, q4.1.trans h2.now, q4.2.1, ?_, q4.2.2.2.trans h2.room, hx⟩⟩, ?_, h3.trans (Kp.tick q6 q7)⟩
     · show (F.1.step { F.1 with sure := F.1.now, loose := [] }).1.f.getD j default = _
       rw [q4.2.2.1]; exact h2.fj
     · show (⟨s, x.length, (F.1.step { F.1 with sure := F.1.now, loose := [] }).2 != 0⟩ : Jn) = _
       rw [q1]; rfl
   · refine .inr (.inl ⟨q1, q3, fun e => ?_⟩)
     rw [h3.1 e] at q2; cases q2
   · refine .inr (.inr ⟨q1, fun e => ?_⟩)
     rw [h3.2 e] at q3; cases q3
theorem open_new (k : Int) (R : Int) (hR : max 0 (min k 16777216) = R) : ∃ d', openD (newD k) = (d', some ⟨z0, 0, false⟩, 0) ∧ Quiet R d' z0 [] 0 5 0 ∧ d'.fails = -1 ∧ d'.wrong = -1 := by
 have w0 := newD_wf k
 have hn0 : (newD k).now = [] := rfl
 have ht := tidy_nil hn0
 have w1 := tidy_wf w0
 rw [ht] at w1
 have hr : (newD k).read mainP = ([], 8) := rfl
 have hp := put_go (d := newD k) (p := mainP) rfl chk_main par_main rfl
 obtain ⟨q1, q2, q3, q4, q5⟩ := step_sure1 (d := newD k) (nx := Dk.chg { newD k with f := (newD k).f ++ [⟨[], 0⟩] } (.mk ⟨mainP, false, (newD k).f.length⟩)) rfl rfl rfl
 have w2 := put_wf w1 mainP false
 rw [hp] at w2
 have hm : mkD (newD k) = (newD k).step (Dk.chg { newD k with f := (newD k).f ++ [⟨[], 0⟩] } (.mk ⟨mainP, false, (newD k).f.length⟩)) := by
   unfold mkD
   rw [hr, hp]; rfl
 generalize (newD k).step (Dk.chg { newD k with f := (newD k).f ++ [⟨[], 0⟩] } (.mk ⟨mainP, false, (newD k).f.length⟩)) = y at *
 have s1 : y.1.sure = [] := q2.1
 have l1 : y.1.loose = [.mk (nmM 0)] := q2.2.1
 have a1 : y.1.now = [nmM 0] := by unfold Dk.now; rw [s1, l1]; exact app_mk0 0
 have f1 : y.1.f = [⟨[], 0⟩] := q2.2.2.1
 have r1 : y.1.room = R := q2.2.2.2.trans hR
 have n1 : y.1.down = false := q3
 have hs : y.1.syncDirs = y.1.step { y.1 with sure := y.1.now, loose := [] } := by unfold Dk.syncDirs; rw [if_neg (by rw [n1]; simp)]
 obtain ⟨p1, p2, p3, p4, p5⟩ := step_sure1 (d := y.1) (nx := { y.1 with sure := y.1.now, loose := [] }) rfl q4 q5
 have w3 := syncDirs_wf w2
 rw [hs] at w3
 generalize hz : y.1.step { y.1 with sure := y.1.now, loose := [] } = z at *
 have s2 : z.1.sure = [nmM 0] := p2.1.trans a1
 have l2 : z.1.loose = [] := p2.2.1
 have a2 : z.1.now = [nmM 0] := by unfold Dk.now; rw [s2, l2]; rfl
 have f2 : z.1.f = [⟨[], 0⟩] := p2.2.2.1.trans f1
 have n2 : z.1.down = false := p3.trans n1
 have hc : cutD [] z.1 = (z.1, 0) := rfl
 have hsy := sync_go (d := z.1) (p := mainP) (x := nmM 0) n2 chk_main (by rw [a2]; exact getM 0 []) rfl
 have w4 := sync_wf w3 mainP
 rw [hsy] at w4
 obtain ⟨u1, u2, u3, u4, u5⟩ := step_sure1 (d := z.1) (nx := { z.1 with f := z.1.f.set (nmM 0).id ⟨(z.1.f.getD (nmM 0).id default).b, (z.1.f.getD (nmM 0).id default).b.length⟩ }) rfl p4 p5
 refine ⟨_, ?_, ⟨w4.mono (by omega) (Nat.le_refl _), u3.trans n2, u2.1.trans s2, u2.2.1.trans l2, ?_, u2.2.2.2.trans (p2.2.2.2.trans r1), good_z0⟩, u4, u5⟩
 · unfold openD openA openC openE
   rw [ht]
   dsimp only
   rw [show ((0 : Int) != 0) = false from rfl]
   dsimp only [cond_false]
   rw [hm, hr]
   rw [q1]
   rw [show ((0 : Int) != 0) = false from rfl]
   dsimp only [cond_false]
   rw [hs, p1]
   rw [show ((0 : Int) != 0) = false from rfl]
   dsimp only [cond_false]
   rw [hc]
   dsimp only
   rw [show ((0 : Int) != 0) = false from rfl]
   dsimp only [cond_false]
   rw [hsy, u1]
   rfl
 · rw [u2.2.2.1]
   dsimp only
   rw [show (nmM 0).id = 0 from rfl, f2]
   rfl
end Sm
