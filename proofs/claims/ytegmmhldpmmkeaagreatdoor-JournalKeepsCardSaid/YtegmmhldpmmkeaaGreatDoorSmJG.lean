/-
  JL1,JL2,JL3,JL4
-/
import Derived.Test.YtegmmhldpmmkeaaGreatDoorSmJE
set_option linter.unusedVariables false
set_option linter.unusedSimpArgs false
set_option maxRecDepth 10000
set_option maxHeartbeats 1000000
namespace Sm
open Go
theorem lowB_head : ∀ (k n : Nat), lowB (k + 1) n = UInt8.ofNat (n / 256 ^ k % 256) :: lowB k n
 | 0, n => by simp [lowB]
 | k + 1, n => by
   rw [lowB, lowB_head k (n / 256), List.cons_append, Nat.div_div_eq_div_mul, ← Nat.pow_succ']
   rfl
theorem valB_lowB : ∀ (k n m : Nat), valB m (lowB k n) = m * 256 ^ k + n % 256 ^ k
 | 0, n, m => by simp [lowB, valB, Nat.mod_one]
 | k + 1, n, m => by
   rw [lowB, valB_app, valB_lowB k]
   simp only [valB]
   rw [Nat.pow_succ', Nat.mod_mul, UInt8.toNat_ofNat']
   have : n % 256 % 2 ^ 8 = n % 256 := by omega
   rw [this, Nat.add_mul, Nat.mul_comm 256 (256 ^ k), ← Nat.mul_assoc, Nat.mul_comm (n / 256 % 256 ^ k) 256]
   omega
theorem or_topW (w : Nat) (hw : w = 1 ∨ w = 2 ∨ w = 4 ∨ w = 8) (n : Nat) (hn : n < 64) : wOf (UInt8.ofNat n ||| topV w) = w ∧ (UInt8.ofNat n ||| topV w).toNat % 64 = n := by
 have h1 : ∀ x : Fin 64, (wOf (UInt8.ofNat x.1 ||| 0) = 1 ∧ (UInt8.ofNat x.1 ||| 0).toNat % 64 = x.1) ∧ (wOf (UInt8.ofNat x.1 ||| 64) = 2 ∧ (UInt8.ofNat x.1 ||| 64).toNat % 64 = x.1) ∧ (wOf (UInt8.ofNat x.1 ||| 128) = 4 ∧ (UInt8.ofNat x.1 ||| 128).toNat % 64 = x.1) ∧ (wOf (UInt8.ofNat x.1 ||| 192) = 8 ∧ (UInt8.ofNat x.1 ||| 192).toNat % 64 = x.1) := by decide
 obtain ⟨a, b, c, d⟩ := h1 ⟨n, hn⟩
 rcases hw with rfl | rfl | rfl | rfl
 · exact a
 · exact b
 · exact c
 · exact d
theorem getV_enc (w n : Nat) (hw : w = 1 ∨ w = 2 ∨ w = 4 ∨ w = 8) (hn : n < 64 * 256 ^ (w - 1)) (y : List UInt8) : getV (encV w n ++ y) = ((n : Int), (w : Int), 0) := by
 obtain ⟨k, rfl⟩ : ∃ k, w = k + 1 := ⟨w - 1, by omega⟩
 rw [Nat.add_sub_cancel] at hn
 have hq : n / 256 ^ k < 64 := (Nat.div_lt_iff_lt_mul (Nat.pow_pos (by omega))).mpr hn
 have hq2 : n / 256 ^ k % 256 = n / 256 ^ k := Nat.mod_eq_of_lt (by omega)
 obtain ⟨h1, h2⟩ := or_topW (k + 1) hw _ hq
 unfold encV
 rw [lowB_head, hq2, orTop, List.cons_append, getV, h1, if_neg (by simp only [List.length_append, lowB_len]; omega), h2, Nat.add_sub_cancel, List.take_left' (lowB_len k n), valB_lowB]
 rw [Nat.mul_comm, Nat.div_add_mod]
theorem lenV_of (n : Nat) (hn : n < 4611686018427387904) : ∃ w : Nat, lenV n = w ∧ (w = 1 ∨ w = 2 ∨ w = 4 ∨ w = 8) ∧ n < 64 * 256 ^ (w - 1) := by
 unfold lenV
 rw [if_neg (by omega)]
 split
 · exact ⟨1, rfl, by omega, by omega⟩
 split
 · exact ⟨2, rfl, by omega, by simp; omega⟩
 split
 · exact ⟨4, rfl, by omega, by simp; omega⟩
 split
 · exact ⟨8, rfl, by omega, by simp; omega⟩
 · omega
theorem putV_length (n : Int) : (putV n).length = (lenV n).toNat := encV_len _ _
theorem shortV_put (n : Int) (h0 : 0 ≤ n) (hn : n < 4611686018427387904) (y : List UInt8) : shortV (putV n ++ y) = (n, lenV n, 0) := by
 obtain ⟨m, rfl⟩ := Int.eq_ofNat_of_zero_le h0
 obtain ⟨w, h1, h2, h3⟩ := lenV_of m (by omega)
 have h4 : getV (putV (m : Int) ++ y) = ((m : Int), (w : Int), 0) := by
   unfold putV
   rw [h1, Int.toNat_natCast, Int.toNat_natCast]
   exact getV_enc w m h2 h3 y
 unfold shortV
 rw [h4, if_neg (by simp only [h1]; omega), h1]
theorem take_app {α : Type} {a b : List α} {n : Nat} (h : a.length = n) : (a ++ b).take n = a := List.take_left' h
theorem drop_app {α : Type} {a b : List α} {n : Nat} (h : a.length = n) : (a ++ b).drop n = b := List.drop_left' h
theorem lenV_nn (n : Int) : 0 ≤ lenV n := by unfold lenV; repeat' split <;> omega
theorem Rd.num_put {n most : Int} (h0 : 0 ≤ n) (h1 : n ≤ most) (h2 : most < 4611686018427387904) (y : List UInt8) : Rd.num ⟨putV n ++ y, 0⟩ most = (⟨y, 0⟩, n) := by
 have hs := shortV_put n h0 (by omega) y
 have hl : lookR (putV n ++ y) most = (n, lenV n, 0) := by
   unfold lookR
   rw [hs, if_neg (by simp only; omega)]
 unfold Rd.num
 simp only [hl, ne_eq, not_true, if_false]
 rw [drop_app (putV_length n)]
theorem Rd.raw_put {s y : List UInt8} {n : Int} (hn : n = s.length) : Rd.raw ⟨s ++ y, 0⟩ n = (⟨y, 0⟩, s) := by
 subst hn
 unfold Rd.raw
 simp only [ne_eq, not_true, if_false]
 rw [if_neg (by omega), if_neg (by simp only [List.length_append]; omega), Int.toNat_natCast, drop_app rfl, take_app rfl]
theorem Rd.text_put {s y : List UInt8} {most : Int} (h1 : (s.length : Int) ≤ most) (h2 : most < 4611686018427387904) : Rd.text ⟨textB s ++ y, 0⟩ most = (⟨y, 0⟩, s) := by
 have e0 : textB s ++ y = putV (s.length : Int) ++ (s ++ y) := by unfold textB; rw [List.append_assoc]
 rw [e0]
 have hs := shortV_put (s.length : Int) (by omega) (by omega) (s ++ y)
 have hl : lookR (putV (s.length : Int) ++ (s ++ y)) most = ((s.length : Int), lenV s.length, 0) := by
   unfold lookR
   rw [hs, if_neg (by simp only; omega)]
 have hp := putV_length (s.length : Int)
 have hn := lenV_nn (s.length : Int)
 have ht : textE (putV (s.length : Int) ++ (s ++ y)) most = 0 := by
   unfold textE
   rw [hl, if_neg (by simp only [List.length_append, true_and]; omega)]
 unfold Rd.text
 simp only [ht, hl, ne_eq, not_true, if_false]
 rw [drop_app hp]
 exact Rd.raw_put rfl
theorem Rd.byte_put (c : UInt8) (y : List UInt8) : Rd.byte ⟨c :: y, 0⟩ = (⟨y, 0⟩, c) := by
 unfold Rd.byte
 rw [show c :: y = [c] ++ y from rfl, Rd.raw_put (s := [c]) (n := 1) rfl]
 rfl
theorem openB_seal (b : List UInt8) : openB (sealB b) = (b, 0) := by
 have hl : (sealB b).length = b.length + 4 := by unfold sealB; rw [List.length_append, le4_len]
 unfold openB
 rw [if_neg (by omega), hl, Nat.add_sub_cancel]
 unfold sealB
 rw [take_app rfl, drop_app rfl]
 simp
def nrm (r : Rc) : Rc := bif (r.kind.toNat : Int) == 0 then ⟨r.kind, r.id, r.path, sum32 r.sum, r.size, 0⟩ else bif (r.kind.toNat : Int) == 1 then ⟨r.kind, r.id, [], [], 0, r.off⟩ else ⟨r.kind, r.id, [], [], 0, 0⟩
theorem bodyR_put {r : Rc} (h : chkR r = 0) : bodyR (recBody r) = (nrm r, ⟨[], 0⟩) := by
 obtain ⟨h1, h2, h3, h4, h5, h6, h7, h8⟩ := chkR_ok h
 unfold bodyR nrm recBody recTail
 rw [List.cons_append, Rd.byte_put]
 dsimp only
 rw [Rd.num_put h2 h3 (by omega)]
 dsimp only
 cases c1 : (r.kind.toNat : Int) == 0
 · cases c2 : (r.kind.toNat : Int) == 1
   · rfl
   · dsimp only [cond_true, cond_false]
     rw [← List.append_nil (putV r.off), Rd.num_put h7 h8 (by omega)]
 · dsimp only [cond_true, cond_false]
   rw [List.append_assoc, Rd.text_put (by omega) (by omega)]
   dsimp only
   rw [Rd.raw_put (s := sum32 r.sum) (n := 32) rfl]
   dsimp only
   rw [← List.append_nil (putV r.size), Rd.num_put h5 h6 (by omega)]
theorem sum32_32 {s : List UInt8} (h : s.length = 32) : sum32 s = s := by
 have e : sum32 s = (List.range 32).map fun i => s.getD i 0 := rfl
 rw [e]
 refine List.ext_getElem (by rw [List.length_map, List.length_range, h]) fun i hi hj => ?_
 simp only [List.getElem_map, List.getElem_range]
 simp [List.getD, hj]
theorem chkR_iff (r : Rc) : chkR r = 0 ↔ r.kind.toNat ≤ 4 ∧ 0 ≤ r.id ∧ r.id ≤ 1099511627776 ∧ (((r.kind.toNat : Int) = 0 ∧ begT r.path r.size = 0) ∨ ((r.kind.toNat : Int) ≠ 0 ∧ bareB r = true)) ∧ chkOff r.kind r.off = 0 := by
 unfold chkR
 cases d1 : decide (4 < (r.kind.toNat : Int))
 · have e1 := of_decide_eq_false d1
   cases d2 : decide (r.id < 0)
   · have e2 := of_decide_eq_false d2
     cases d3 : decide (1099511627776 < r.id)
     · have e3 := of_decide_eq_false d3
       cases c1 : (r.kind.toNat : Int) == 0
       · have f1 : (r.kind.toNat : Int) ≠ 0 := by simpa using c1
         cases c2 : bareB r
         · constructor
           · intro h; cases h
           · rintro ⟨_, _, _, h4, _⟩
             rcases h4 with h4 | h4
             · exact absurd h4.1 f1
             · cases h4.2
         · simp only [cond_false, cond_true, f1, false_and, false_or, ne_eq, not_false_eq_true, true_and, and_true]
           constructor
           · intro h; exact ⟨by omega, by omega, by omega, h⟩
           · intro h; exact h.2.2.2
       · have f1 : (r.kind.toNat : Int) = 0 := by simpa using c1
         cases c2 : begT r.path r.size != 0
         · have f2 : begT r.path r.size = 0 := by simpa using c2
           simp only [cond_false, cond_true, f1, f2, ne_eq, not_true, false_and, or_false, true_and, and_self]
           constructor
           · intro h; exact ⟨by omega, by omega, by omega, h⟩
           · intro h; exact h.2.2.2
         · have f2 : begT r.path r.size ≠ 0 := by simpa using c2
           simp [f1, f2]
     · have e3 := of_decide_eq_true d3
       simp only [cond_false, cond_true]
       constructor
       · intro h; cases h
       · intro h; omega
   · have e2 := of_decide_eq_true d2
     simp only [cond_false, cond_true]
     constructor
     · intro h; cases h
     · intro h; omega
 · have e1 := of_decide_eq_true d1
   simp only [cond_true]
   constructor
   · intro h; cases h
   · intro h; omega
theorem chkOff_iff (k : UInt8) (o : Int) : chkOff k o = 0 ↔ 0 ≤ o ∧ o ≤ 65536 ∧ (o = 0 ∨ (k.toNat : Int) = 1) := by
 unfold chkOff
 cases d1 : okN o
 · simp only [cond_false]
   unfold okN at d1
   constructor
   · intro h; cases h
   · rintro ⟨h1, h2, _⟩
     simp [h1, h2] at d1
 · unfold okN at d1
   simp only [Bool.and_eq_true, decide_eq_true_eq] at d1
   cases d2 : o != 0
   · have : o = 0 := by simpa using d2
     simp [this]
   · have f2 : o ≠ 0 := by simpa using d2
     cases d3 : (k.toNat : Int) != 1
     · have f3 : (k.toNat : Int) = 1 := by simpa using d3
       simp [d1, f3]
     · have f3 : (k.toNat : Int) ≠ 1 := by simpa using d3
       simp [f2, f3]
theorem chkR_nrm {r : Rc} (h : chkR r = 0) : chkR (nrm r) = 0 := by
 obtain ⟨h1, h2, h3, h4, h5⟩ := (chkR_iff r).mp h
 have hb : ∀ k i o, bareB ⟨k, i, [], [], 0, o⟩ = true := fun k i o => rfl
 unfold nrm
 cases c1 : (r.kind.toNat : Int) == 0
 · have f1 : (r.kind.toNat : Int) ≠ 0 := by simpa using c1
   cases c2 : (r.kind.toNat : Int) == 1
   · exact (chkR_iff _).mpr ⟨h1, h2, h3, .inr ⟨f1, hb _ _ _⟩, (chkOff_iff _ _).mpr ⟨by show (0 : Int) ≤ 0; decide, by show (0 : Int) ≤ 65536; decide, .inl rfl⟩⟩
   · exact (chkR_iff _).mpr ⟨h1, h2, h3, .inr ⟨f1, hb _ _ _⟩, h5⟩
 · have f1 : (r.kind.toNat : Int) = 0 := by simpa using c1
   refine (chkR_iff _).mpr ⟨h1, h2, h3, .inl ⟨f1, ?_⟩, (chkOff_iff _ _).mpr ⟨by show (0 : Int) ≤ 0; decide, by show (0 : Int) ≤ 65536; decide, .inl rfl⟩⟩
   rcases h4 with h4 | h4
   · exact h4.2
   · exact absurd f1 h4.1
theorem encR_parts {r : Rc} (h : chkR r = 0) : ∃ n : Nat, encR r = putV (n : Int) ++ sealB (recBody r) ∧ (sealB (recBody r)).length = n ∧ n ≤ 512 ∧ 1 ≤ lenV n := by
 have h4 := (chkR_ok h).2.2.2.1
 have hb : (sealB (recBody r)).length ≤ 512 := by
   have l0 := putV_le r.id
   have l1 := putV_le r.size
   have l2 := putV_le r.off
   have l3 := putV_le (r.path.length : Int)
   have l4 : (sum32 r.sum).length = 32 := rfl
   have : (recTail r).length ≤ 300 := by
     unfold recTail
     cases (r.kind.toNat : Int) == 0 <;> cases (r.kind.toNat : Int) == 1 <;> simp only [cond_true, cond_false, textB, List.length_append, List.length_nil] <;> omega
   unfold sealB
   rw [List.length_append, le4_len]
   simp only [recBody, List.length_append, List.length_cons]
   omega
 obtain ⟨w, f1, f2, f3⟩ := lenV_of (sealB (recBody r)).length (by omega)
 exact ⟨(sealB (recBody r)).length, rfl, rfl, hb, by rw [f1]; omega⟩
theorem firstR_put {r : Rc} (h : chkR r = 0) (y : List UInt8) : firstR (encR r ++ y) = (nrm r, ((encR r).length : Int), 0) := by
 obtain ⟨n, e1, e2, e3, e4⟩ := encR_parts h
 have hs := shortV_put (n : Int) (by omega) (by omega) (sealB (recBody r) ++ y)
 have hl := putV_length (n : Int)
 have hlen : ((encR r).length : Int) = lenV n + n := by rw [e1, List.length_append, e2, hl]; omega
 have hp : partB (encR r ++ y) = sealB (recBody r) := by
   unfold partB
   rw [e1, List.append_assoc, hs]
   dsimp only
   rw [drop_app hl, Int.toNat_natCast, take_app e2]
 have hrd : readR (recBody r) = (nrm r, true) := by
   unfold readR
   rw [bodyR_put h, chkR_nrm h]
   rfl
 unfold firstR
 rw [hp, openB_seal]
 rw [hlen]
 rw [show shortV (encR r ++ y) = ((n : Int), lenV n, 0) by rw [e1, List.append_assoc, hs]]
 have d1 : decide (512 < (n : Int)) = false := decide_eq_false (by omega)
 have d2 : decide (((encR r ++ y).length : Int) - lenV n < n) = false := decide_eq_false (by rw [List.length_append]; omega)
 dsimp only
 rw [d1, d2]
 dsimp only [cond_false, bne_self_eq_false]
 rw [hrd]
 rfl
theorem getV_short {w n k : Nat} (hw : w = 1 ∨ w = 2 ∨ w = 4 ∨ w = 8) (hn : n < 64 * 256 ^ (w - 1)) (hk : k < w) : getV ((encV w n).take k) = (0, 0, 3) := by
 cases k with
 | zero => rfl
 | succ k =>
   obtain ⟨j, rfl⟩ : ∃ j, w = j + 1 := ⟨w - 1, by omega⟩
   rw [Nat.add_sub_cancel] at hn
   have hq : n / 256 ^ j < 64 := (Nat.div_lt_iff_lt_mul (Nat.pow_pos (by omega))).mpr hn
   have hq2 : n / 256 ^ j % 256 = n / 256 ^ j := Nat.mod_eq_of_lt (by omega)
   obtain ⟨h1, h2⟩ := or_topW (j + 1) hw _ hq
   unfold encV
   rw [lowB_head, hq2, orTop, List.take_succ_cons, getV, h1, if_pos (by rw [List.length_take, lowB_len]; omega)]
theorem firstR_cut {r : Rc} (h : chkR r = 0) (k : Nat) (hk : k < (encR r).length) : (firstR ((encR r).take k)).2.2 ≠ 0 := by
 obtain ⟨n, e1, e2, e3, e4⟩ := encR_parts h
 obtain ⟨w, f1, f2, f3⟩ := lenV_of n (by omega)
 have hl := putV_length (n : Int)
 rw [f1, Int.toNat_natCast] at hl
 rw [e1, List.length_append, hl, e2] at hk
 rw [e1]
 by_cases hkw : k < w
 · have e5 : (putV (n : Int) ++ sealB (recBody r)).take k = (putV (n : Int)).take k := List.take_append_of_le_length (by omega)
   rw [e5]
   have e6 : shortV ((putV (n : Int)).take k) = (0, 0, 3) := by
     unfold shortV putV
     rw [f1, Int.toNat_natCast, Int.toNat_natCast, getV_short f2 f3 hkw]
     rfl
   unfold firstR
   rw [e6]
   simp
 · have e5 : (putV (n : Int) ++ sealB (recBody r)).take k = putV (n : Int) ++ (sealB (recBody r)).take (k - w) := by
     rw [List.take_append, hl, List.take_of_length_le (by omega)]
   rw [e5]
   have hs := shortV_put (n : Int) (by omega) (by omega) ((sealB (recBody r)).take (k - w))
   unfold firstR
   rw [hs]
   have d1 : decide (512 < (n : Int)) = false := decide_eq_false (by omega)
   have d2 : decide (((putV (n : Int) ++ (sealB (recBody r)).take (k - w)).length : Int) - lenV n < n) = true := decide_eq_true (by rw [List.length_append, hl, List.length_take]; omega)
   dsimp only
   rw [d1, d2]
   simp
theorem encR_ne {r : Rc} (h : chkR r = 0) : encR r ≠ [] := by
 obtain ⟨n, e1, e2, e3, e4⟩ := encR_parts h
 intro e
 have := congrArg List.length e
 rw [e1, List.length_append, putV_length, List.length_nil] at this
 omega
theorem layR_cons {r : Rc} {l : List Rc} (h : chkR r = 0) : layR (r :: l) = encR r ++ layR l := by
 rw [layR]
 unfold recPut
 rw [h]
 rfl
theorem layR_app : ∀ {l m : List Rc}, (∀ r ∈ l, chkR r = 0) → layR (l ++ m) = layR l ++ layR m
 | [], m, h => rfl
 | r :: l, m, h => by
   rw [List.cons_append, layR_cons (h r (by simp)), layR_cons (h r (by simp)), layR_app (fun x hx => h x (List.mem_cons_of_mem _ hx)), List.append_assoc]
theorem nrm_enc (r : Rc) : encR (nrm r) = encR r := by
 have e : recBody (nrm r) = recBody r := by
   unfold recBody recTail nrm
   cases c1 : (r.kind.toNat : Int) == 0
   · cases c2 : (r.kind.toNat : Int) == 1
     · simp only [cond_false, cond_true, c1, c2]
     · simp only [cond_false, cond_true, c1, c2]
   · simp only [cond_false, cond_true, c1]
     rfl
 unfold encR
 rw [e]
theorem scan_lay : ∀ {l : List Rc} (t : List UInt8), (∀ r ∈ l, chkR r = 0) → (scan firstR (layR l ++ t)).1 = l.map nrm ++ (scan firstR t).1
 | [], t, h => rfl
 | r :: l, t, h => by
   have h0 := h r (by simp)
   rw [layR_cons h0, List.append_assoc]
   have hf := firstR_put h0 (layR l ++ t)
   have hne : encR r ++ (layR l ++ t) ≠ [] := by
     intro e
     exact encR_ne h0 (List.append_eq_nil_iff.mp e).1
   rw [scan_ok firstR_adv hne (by rw [hf]), hf]
   dsimp only
   rw [Int.toNat_natCast, drop_app rfl, scan_lay t (fun x hx => h x (List.mem_cons_of_mem _ hx))]
   rfl
theorem scan_cut {r : Rc} (h : chkR r = 0) (k : Nat) (hk : k < (encR r).length) : (scan firstR ((encR r).take k)).1 = [] := by
 by_cases hn : (encR r).take k = []
 · rw [hn]; rfl
 · rw [scan_bad hn (firstR_cut h k hk)]
structure StOk (s : Sta) : Prop where
 len : s.parts.length ≤ 64
 nx : 0 ≤ s.next ∧ s.next ≤ 1099511627777
 ids : s.parts.Pairwise (fun x y => x.id < y.id)
 lt : ∀ x ∈ s.parts, 0 ≤ x.id ∧ x.id < s.next
 paths : s.parts.Pairwise (fun x y => x.path ≠ y.path)
 ok : ∀ x ∈ s.parts, begT x.path x.size = 0 ∧ 0 ≤ x.off ∧ x.off ≤ x.size ∧ x.size ≤ 65536 ∧ x.sum.length = 32
theorem z0_ok : StOk z0 := ⟨by simp [z0], by simp [z0], by simp [z0], by simp [z0], by simp [z0], by simp [z0]⟩
theorem fndP_none {l : List Pt} {p : List UInt8} : (fndP l p).2 = false ↔ ∀ x ∈ l, x.path ≠ p := by
 unfold fndP
 cases h : l.find? (fun x => x.path == p) with
 | none =>
   simp only [true_iff]
   rw [List.find?_eq_none] at h
   intro x hx e
   exact h x hx (by simpa using e)
 | some x =>
   simp only [Bool.true_eq_false, false_iff]
   intro h2
   have h3 := List.find?_some h
   exact h2 x (List.mem_of_find?_eq_some h) (by simpa using h3)
theorem begT_of {r : Rc} (h : chkR r = 0) (h0 : (r.kind.toNat : Int) = 0) : begT r.path r.size = 0 ∧ r.off = 0 := by
 obtain ⟨h1, h2, h3, h4, h5⟩ := (chkR_iff r).mp h
 have h5 := ((chkOff_iff _ _).mp h5).2.2
 rcases h4 with h4 | h4
 · exact ⟨h4.2, by omega⟩
 · exact absurd h0 h4.1
theorem pw_set {α : Type} {R : α → α → Prop} {l : List α} {i : Nat} {x : α} (h : l.Pairwise R) (hi : i < l.length) (h1 : ∀ y, R y l[i] → R y x) (h2 : ∀ y, R l[i] y → R x y) : (l.set i x).Pairwise R := by
 rw [List.pairwise_iff_getElem] at h ⊢
 intro a b ha hb hab
 rw [List.length_set] at ha hb
 rw [List.getElem_set, List.getElem_set]
 have := h a b ha hb hab
 split
 · next e =>
   subst e
   rw [if_neg (by omega)]
   exact h2 _ this
 · split
   · next e => subst e; exact h1 _ this
   · exact this
theorem stepS_ok {s : Sta} {r : Rc} (h : StOk s) (hc : chkR r = 0) (hs : (r.kind.toNat : Int) = 0 → r.sum.length = 32) : StOk (stepS s r).1 := by
 obtain ⟨h1, h2, h3, h4, h5, h6, h7, h8⟩ := chkR_ok hc
 have hn := h.nx
 unfold stepS
 cases c1 : (r.kind.toNat : Int) == 0
 · dsimp only [cond_false]
   cases c2 : (r.kind.toNat : Int) == 4
   · dsimp only [cond_false]
     cases c3 : (r.kind.toNat : Int) == 1
     · dsimp only [cond_false]
       cases c4 : (r.kind.toNat : Int) == 2 || (r.kind.toNat : Int) == 3
       · exact h
       · dsimp only [cond_true]
         cases c5 : decide (ixI s r < 0)
         · obtain ⟨i, hi, e1, e2⟩ := ixI_lt c5
           dsimp only [cond_false]
           rw [e1, Int.toNat_natCast]
           have hsub : (s.parts.take i ++ s.parts.drop (i + 1)).Sublist s.parts := by
             rw [← List.eraseIdx_eq_take_drop_succ]; exact List.eraseIdx_sublist _ _
           exact ⟨Nat.le_trans hsub.length_le h.len, h.nx, h.ids.sublist hsub, fun x hx => h.lt x (hsub.subset hx), h.paths.sublist hsub, fun x hx => h.ok x (hsub.subset hx)⟩
         · exact h
     · dsimp only [cond_true]
       cases c5 : decide (ixI s r < 0)
       · dsimp only [cond_false]
         cases c6 : decide (r.off < (atP s r).off)
         · dsimp only [cond_false]
           cases c7 : decide ((atP s r).size < r.off)
           · obtain ⟨i, hi, e1, e2⟩ := ixI_lt c5
             dsimp only [cond_false]
             have c7 := of_decide_eq_false c7
             rw [e2] at c7
             rw [e1, Int.toNat_natCast]
             have hg : s.parts.getD i zP = s.parts[i] := by simp [List.getD, hi]
             unfold setOff
             rw [hg]
             refine ⟨by simpa using h.len, h.nx, pw_set h.ids hi (fun y hy => hy) (fun y hy => hy), fun x hx => ?_, pw_set h.paths hi (fun y hy => hy) (fun y hy => hy), fun x hx => ?_⟩
             · rcases List.mem_or_eq_of_mem_set hx with hx | rfl
               · exact h.lt x hx
               · have := h.lt s.parts[i] (List.getElem_mem hi)
                 exact this
             · rcases List.mem_or_eq_of_mem_set hx with hx | rfl
               · exact h.ok x hx
               · have := h.ok s.parts[i] (List.getElem_mem hi)
                 exact ⟨this.1, h7, by dsimp only; omega, this.2.2.2⟩
           · exact h
         · exact h
       · exact h
   · dsimp only [cond_true]
     cases c3 : decide (r.id < s.next)
     · have c3 := of_decide_eq_false c3
       exact ⟨h.len, ⟨by dsimp only [cond_false]; omega, by dsimp only [cond_false]; omega⟩, h.ids, fun x hx => ⟨(h.lt x hx).1, by have := (h.lt x hx).2; dsimp only [cond_false]; omega⟩, h.paths, h.ok⟩
     · exact h
 · have hk : (r.kind.toNat : Int) = 0 := by simpa using c1
   obtain ⟨b1, b2⟩ := begT_of hc hk
   dsimp only [cond_true]
   unfold beginS
   cases c2 : (fndP s.parts r.path).2 || (decide (r.id < s.next) || decide (64 ≤ (s.parts.length : Int)))
   · simp only [Bool.or_eq_false_iff, decide_eq_false_iff_not] at c2
     obtain ⟨c2, c3, c4⟩ := c2
     rw [fndP_none] at c2
     dsimp only [cond_false]
     refine ⟨by simp only [List.length_append, List.length_cons, List.length_nil]; omega, ⟨by dsimp only; omega, by dsimp only; omega⟩, ?_, fun x hx => ?_, ?_, fun x hx => ?_⟩
     · rw [List.pairwise_append]
       refine ⟨h.ids, List.pairwise_singleton _ _, fun x hx y hy => ?_⟩
       rw [List.mem_singleton] at hy; subst hy
       have := (h.lt x hx).2
       dsimp only; omega
     · dsimp only
       rcases List.mem_append.mp hx with hx | hx
       · have := h.lt x hx; omega
       · rw [List.mem_singleton] at hx; subst hx; dsimp only; omega
     · rw [List.pairwise_append]
       refine ⟨h.paths, List.pairwise_singleton _ _, fun x hx y hy => ?_⟩
       rw [List.mem_singleton] at hy; subst hy
       exact c2 x hx
     · rcases List.mem_append.mp hx with hx | hx
       · exact h.ok x hx
       · rw [List.mem_singleton] at hx; subst hx
         exact ⟨b1, Int.le_refl _, h5, h6, hs hk⟩
   · exact h
theorem stepS_nrm {s : Sta} {r : Rc} (hc : chkR r = 0) (hs : (r.kind.toNat : Int) = 0 → r.sum.length = 32) : stepS s (nrm r) = stepS s r := by
 unfold nrm
 cases c1 : (r.kind.toNat : Int) == 0
 · cases c2 : (r.kind.toNat : Int) == 1
   · dsimp only [cond_false]
     unfold stepS ixI atP beginS ixI
     dsimp only
     rw [c1, c2]
     rfl
   · dsimp only [cond_false, cond_true]
     unfold stepS atP ixI beginS
     dsimp only
     rw [c1, c2]
     rfl
 · have hk : (r.kind.toNat : Int) = 0 := by simpa using c1
   have := (begT_of hc hk).2
   dsimp only [cond_true]
   rw [sum32_32 (hs hk), ← this]
theorem playS_app {s t : Sta} : ∀ {l : List Rc} (m : List Rc), playS s l = (t, (l.length : Int)) → playS s (l ++ m) = ((playS t m).1, (l.length : Int) + (playS t m).2) := by
 intro l
 induction l generalizing s with
 | nil =>
   intro m h
   rw [playS] at h
   have e := congrArg Prod.fst h
   dsimp only at e
   subst e
   simp
 | cons r l ih =>
   intro m h
   rw [playS] at h
   split at h
   · next h1 =>
     have e1 := congrArg Prod.fst h
     have e2 := congrArg Prod.snd h
     dsimp only at e1 e2
     have h2 : playS (stepS s r).1 l = (t, (l.length : Int)) := by
       refine Prod.ext e1 ?_
       rw [List.length_cons] at e2
       dsimp only; omega
     rw [List.cons_append, playS, if_pos h1, ih m h2]
     dsimp only
     rw [List.length_cons]
     refine Prod.ext rfl ?_
     dsimp only; omega
   · have e2 := congrArg Prod.snd h
     dsimp only at e2
     rw [List.length_cons] at e2
     omega
theorem playS_nrm : ∀ {l : List Rc} {s : Sta}, (∀ r ∈ l, chkR r = 0 ∧ ((r.kind.toNat : Int) = 0 → r.sum.length = 32)) → playS s (l.map nrm) = playS s l
 | [], s, h => rfl
 | r :: l, s, h => by
   have h0 := h r (by simp)
   rw [List.map_cons, playS, playS, stepS_nrm h0.1 h0.2, playS_nrm (fun x hx => h x (List.mem_cons_of_mem _ hx))]
def beg0 (p : Pt) : Rc := ⟨0, p.id, p.path, p.sum, p.size, 0⟩
def mrk0 (p : Pt) : Rc := ⟨1, p.id, [], [], 0, p.off⟩
theorem step_beg {pre : List Pt} {m : Int} {p : Pt} (h1 : ∀ x ∈ pre, x.path ≠ p.path) (h2 : m ≤ p.id) (h3 : pre.length < 64) : stepS ⟨pre, m⟩ (beg0 p) = (⟨pre ++ [⟨p.id, p.path, p.sum, p.size, 0⟩], p.id + 1⟩, true) := by
 have e : ((fndP pre p.path).2 || (decide (p.id < m) || decide (64 ≤ (pre.length : Int)))) = false := by
   rw [fndP_none.mpr h1]
   simp only [Bool.false_or, Bool.or_eq_false_iff, decide_eq_false_iff_not]
   omega
 have e2 : beginS pre m (beg0 p) = (pre ++ [⟨p.id, p.path, p.sum, p.size, 0⟩], p.id + 1, true) := by
   unfold beginS beg0
   dsimp only
   rw [e]; rfl
 unfold stepS
 dsimp only
 rw [e2]
 rfl
theorem step_mrk {pre : List Pt} {p : Pt} (h1 : ∀ x ∈ pre, x.id < p.id) (h2 : 0 ≤ p.off) (h3 : p.off ≤ p.size) : stepS ⟨pre ++ [⟨p.id, p.path, p.sum, p.size, 0⟩], p.id + 1⟩ (mrk0 p) = (⟨pre ++ [p], p.id + 1⟩, true) := by
 have e : ixI ⟨pre ++ [⟨p.id, p.path, p.sum, p.size, 0⟩], p.id + 1⟩ (mrk0 p) = (pre.length : Int) := by
   unfold ixI
   refine firstIdx_some (by simp) (by simp [mrk0]) fun j hj => ?_
   rw [List.getElem_append_left hj]
   have := h1 _ (List.getElem_mem hj)
   simp only [mrk0, beq_eq_false_iff_ne, ne_eq]
   omega
 have ea : atP ⟨pre ++ [⟨p.id, p.path, p.sum, p.size, 0⟩], p.id + 1⟩ (mrk0 p) = ⟨p.id, p.path, p.sum, p.size, 0⟩ := by
   unfold atP
   rw [e, Int.toNat_natCast]
   simp [List.getD]
 have es : setOff (pre ++ [⟨p.id, p.path, p.sum, p.size, 0⟩]) pre.length p.off = pre ++ [p] := by
   unfold setOff
   simp [List.getD]
 unfold stepS
 rw [e, ea]
 have d1 : decide ((pre.length : Int) < 0) = false := decide_eq_false (by omega)
 have d2 : decide ((mrk0 p).off < 0) = false := decide_eq_false (by simp only [mrk0]; omega)
 have d3 : decide (p.size < (mrk0 p).off) = false := decide_eq_false (by simp only [mrk0]; omega)
 dsimp only
 rw [d1, d2, d3, Int.toNat_natCast, show (mrk0 p).off = p.off from rfl, es]
 rfl
theorem imgR_cons (n : Int) (p : Pt) (l : List Pt) : imgR n (p :: l) = beg0 p :: ((bif decide (0 < p.off) then [mrk0 p] else []) ++ imgR n l) := rfl
theorem play_img : ∀ {post pre : List Pt} {m : Int}, (∀ x ∈ pre, x.id < m) → m ≤ (post.head?.map Pt.id).getD m → (pre ++ post).length ≤ 64 → (pre ++ post).Pairwise (fun x y => x.id < y.id) → (pre ++ post).Pairwise (fun x y => x.path ≠ y.path) → (∀ x ∈ post, 0 ≤ x.off ∧ x.off ≤ x.size) →
   playS ⟨pre, m⟩ (imgR 0 post) = (⟨pre ++ post, nxtI m post⟩, ((imgR 0 post).length : Int))
 | [], pre, m, h1, h2, h3, h4, h5, h6 => by simp [imgR, nxtI, playS]
 | p :: post, pre, m, h1, h2, h3, h4, h5, h6 => by
   have hp := h6 p (by simp)
   have h2 : m ≤ p.id := h2
   have g4 := List.pairwise_append.mp h4
   have g5 := List.pairwise_append.mp h5
   have k1 : ∀ x ∈ pre, x.id < p.id := fun x hx => g4.2.2 x hx p (by simp)
   have ih := play_img (post := post) (pre := pre ++ [p]) (m := p.id + 1) (fun x hx => by
     rcases List.mem_append.mp hx with hx | hx
     · have := k1 x hx; omega
     · rw [List.mem_singleton] at hx; subst hx; omega) (by
     cases post with
     | nil => simp
     | cons q post =>
       have := (List.pairwise_cons.mp g4.2.1).1 q (by simp)
       simp only [List.head?_cons, Option.map_some, Option.getD_some]; omega) (by simpa using h3) (by simpa using h4) (by simpa using h5) (fun x hx => h6 x (List.mem_cons_of_mem _ hx))
   rw [imgR_cons, playS, step_beg (fun x hx => g5.2.2 x hx p (by simp)) h2 (by simp only [List.length_append, List.length_cons] at h3; omega)]
   dsimp only
   rw [if_pos rfl]
   rw [List.append_assoc] at ih
   cases c : decide (0 < p.off)
   · have c := of_decide_eq_false c
     have e : p = ⟨p.id, p.path, p.sum, p.size, 0⟩ := by
       have : p.off = 0 := by omega
       rw [← this]
     rw [← e]
     dsimp only [cond_false]
     rw [List.nil_append, ih]
     dsimp only
     rw [List.length_cons]
     refine Prod.ext rfl ?_
     dsimp only; omega
   · dsimp only [cond_true]
     rw [List.cons_append, List.nil_append, playS, step_mrk k1 hp.1 hp.2]
     dsimp only
     rw [if_pos rfl, ih]
     dsimp only
     rw [List.length_cons, List.length_cons]
     refine Prod.ext rfl ?_
     dsimp only; omega
theorem nxtI_le : ∀ {l : List Pt} {m n : Int}, m ≤ n → (∀ x ∈ l, x.id < n) → nxtI m l ≤ n
 | [], m, n, h, _ => h
 | p :: l, m, n, h, h2 => show nxtI (p.id + 1) l ≤ n from nxtI_le (by have := h2 p (by simp); omega) (fun x hx => h2 x (List.mem_cons_of_mem _ hx))
theorem nxtI_ge : ∀ {l : List Pt} {m : Int}, 0 ≤ m → (∀ x ∈ l, 0 ≤ x.id) → 0 ≤ nxtI m l
 | [], m, h, _ => h
 | p :: l, m, h, h2 => show 0 ≤ nxtI (p.id + 1) l from nxtI_ge (by have := h2 p (by simp); omega) (fun x hx => h2 x (List.mem_cons_of_mem _ hx))
theorem play_image {s : Sta} (h : StOk s) : playS z0 (imageS s) = (s, ((imageS s).length : Int)) := by
 have h0 : playS z0 (imgR 0 s.parts) = (⟨s.parts, nxtI 0 s.parts⟩, ((imgR 0 s.parts).length : Int)) := by
   refine play_img (pre := []) (by simp) ?_ h.len h.ids h.paths fun x hx => ⟨(h.ok x hx).2.1, (h.ok x hx).2.2.1⟩
   cases hp : s.parts with
   | nil => simp
   | cons p l => exact (h.lt p (by rw [hp]; simp)).1
 have hle := nxtI_le (m := 0) h.nx.1 fun x hx => (h.lt x hx).2
 unfold imageS
 cases c : decide (nxtI 0 s.parts < s.next)
 · have c := of_decide_eq_false c
   have e : nxtI 0 s.parts = s.next := by omega
   dsimp only [cond_false]
   rw [List.append_nil, h0, e]
 · have c := of_decide_eq_true c
   dsimp only [cond_true]
   rw [playS_app _ h0]
   have e : stepS ⟨s.parts, nxtI 0 s.parts⟩ ⟨4, s.next - 1, [], [], 0, 0⟩ = (s, true) := by
     unfold stepS
     dsimp only
     rw [show decide (s.next - 1 < nxtI 0 s.parts) = false from decide_eq_false (by omega), show s.next - 1 + 1 = s.next by omega]
     rfl
   rw [playS, e]
   dsimp only
   rw [if_pos rfl, playS]
   refine Prod.ext rfl ?_
   simp only [List.length_append, List.length_cons, List.length_nil]
   omega
theorem imgR_ok : ∀ {l : List Pt} {n : Int}, (∀ x ∈ l, 0 ≤ x.id ∧ x.id ≤ 1099511627776) → (∀ x ∈ l, begT x.path x.size = 0 ∧ 0 ≤ x.off ∧ x.off ≤ x.size ∧ x.size ≤ 65536 ∧ x.sum.length = 32) → ∀ r ∈ imgR n l, chkR r = 0 ∧ ((r.kind.toNat : Int) = 0 → r.sum.length = 32)
 | [], n, _, _ => by simp [imgR]
 | p :: l, n, h1, h2 => by
   intro r hr
   have ih := imgR_ok (n := n) (fun x hx => h1 x (List.mem_cons_of_mem _ hx)) (fun x hx => h2 x (List.mem_cons_of_mem _ hx))
   obtain ⟨a1, a2⟩ := h1 p (by simp)
   obtain ⟨b1, b2, b3, b4, b5⟩ := h2 p (by simp)
   rw [imgR_cons, List.mem_cons, List.mem_append] at hr
   rcases hr with rfl | hr | hr
   · exact ⟨(chkR_iff _).mpr ⟨by show (0 : UInt8).toNat ≤ 4; decide, a1, a2, .inl ⟨rfl, b1⟩, (chkOff_iff _ _).mpr ⟨by show (0 : Int) ≤ 0; decide, by show (0 : Int) ≤ 65536; decide, .inl rfl⟩⟩, fun _ => b5⟩
   · cases c : decide (0 < p.off)
     · rw [c] at hr; cases hr
     · rw [c] at hr
       dsimp only [cond_true] at hr
       rw [List.mem_singleton] at hr
       subst hr
       exact ⟨(chkR_iff _).mpr ⟨by show (1 : UInt8).toNat ≤ 4; decide, a1, a2, .inr ⟨by show ((1 : UInt8).toNat : Int) ≠ 0; decide, rfl⟩, (chkOff_iff _ _).mpr ⟨b2, by show p.off ≤ 65536; omega, .inr rfl⟩⟩, fun e => by cases e⟩
   · exact ih r hr
theorem image_ok {s : Sta} (h : StOk s) : ∀ r ∈ imageS s, chkR r = 0 ∧ ((r.kind.toNat : Int) = 0 → r.sum.length = 32) := by
 intro r hr
 have hn := h.nx
 have hge := nxtI_ge (m := 0) (by omega) fun x hx => (h.lt x hx).1
 unfold imageS at hr
 rcases List.mem_append.mp hr with hr | hr
 · exact imgR_ok (fun x hx => by have := h.lt x hx; omega) h.ok r hr
 · cases c : decide (nxtI 0 s.parts < s.next)
   · rw [c] at hr; cases hr
   · have c2 := of_decide_eq_true c
     rw [c] at hr
     dsimp only [cond_true] at hr
     rw [List.mem_singleton] at hr
     subst hr
     exact ⟨(chkR_iff _).mpr ⟨by show (4 : UInt8).toNat ≤ 4; decide, by show 0 ≤ s.next - 1; omega, by show s.next - 1 ≤ 1099511627776; omega, .inr ⟨by show ((4 : UInt8).toNat : Int) ≠ 0; decide, rfl⟩, (chkOff_iff _ _).mpr ⟨by show (0 : Int) ≤ 0; decide, by show (0 : Int) ≤ 65536; decide, .inl rfl⟩⟩, fun e => by cases e⟩
end Sm
